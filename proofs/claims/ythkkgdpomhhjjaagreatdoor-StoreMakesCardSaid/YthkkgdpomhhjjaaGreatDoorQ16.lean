/-
  Joined.
-/
import Derived.Test.YthkkgdpomhhjjaaGreatDoorQ15
import Derived.Deep.AppendSrc
import Derived.Shelf.SlSortCmp.NoneTotal
import Derived.Ground.SlsfProg
import Derived.Shelf.SlGeneric
import Derived.Test.YthkkgdpomhhjjaaGreatDoorProg
import Derived.Shelf.SlSortCmp.WholeK
import Derived.Lib.ItoaMem
namespace Go.Proofs.YthkkgdpomhhjjaaGreatDoor
section
open Go Go.RowKit
section
variable {P:Program} {C:World->Prop} {Pd:Nat->Value->World->Prop} {l h:List Oper} {a0:Act}
structure RelInvT (C:World->Prop) (Pd:Nat->Value->World->Prop) (h:List Oper) (a0:Act) (listed:Array Bool) (a:Act) (w:World):Prop where
 cls:C w
 tsz:a.tmps.size=a0.tmps.size
 dfr:a.defers=a0.defers
 out:∀ k,(∀ o∈h,o.dst≠some k)->a.tmps[k]? = a0.tmps[k]?
 slot:∀ (i:Nat) (o:Oper) (k:Nat),h[i]? = some o->o.dst=some k->listed.getD i true=true->∃ v,a.tmps[k]? = some v/\Pd i v w
def RelStepW (P:Program) (Pd:Nat->Value->World->Prop) (l:List Oper) (i:Nat) (o:Oper) (a:Act) (w:World):Prop:=Region.wanted o (yielded l.toArray a.tmps)=true/\RelStep P Pd i o a w
theorem want_of {o oj:Oper} {a:Act} {j k:Nat} {b:Bool} (hg:o.guard=some (j,b)) (ho:l[j]? = some oj) (hk:oj.dst=some k) (ht:a.tmps[k]? = some (.bool b)):Region.wanted o (yielded l.toArray a.tmps)=true:=by
 unfold Region.wanted yielded;rw [hg];simp [ho,hk,ht]
theorem wpAny_relT {n g:Nat} {Q:Exit->Act->World->Prop} (hh:h=l.take n) (hn:n < l.length) (hs:Region.sinkB .any l.toArray n=true) (hc:Region.chainB .any l.toArray n=true) (hord:∀ (i:Nat) (o:Oper),h[i]? = some o->∀ e∈o.after,e.on < i)
 (hd:∀ (i j:Nat) (oi oj:Oper) (k:Nat),h[i]? = some oi->h[j]? = some oj->oi.dst=some k->oj.dst=some k->i=j) (hb:∀ o∈h,∀ k,o.dst=some k->k < a0.tmps.size)
 (hmono:∀ w w',C w->Below w.heap.size w w'->C w') (hP:∀ i v w w',Below w.heap.size w w'->Pd i v w->Pd i v w')
 (hstep:∀ (i:Nat) (o:Oper),h[i]? = some o->∀ a w,C w->RelDeps Pd h a0 o a w->RelStepW P Pd l i o a w)
 (hL:∀ listed a w,HeadInv .any l.toArray n listed->RelInvT C Pd h a0 listed a w->(∀ i,i < n->listed.getD i true=true)->wpAny P .any l.toArray Q g listed a w) (f:Nat) :
 ∀ (listed:Array Bool) (a:Act) (w:World),HeadInv .any l.toArray n listed->RelInvT C Pd h a0 listed a w->(listed.toList.take n).count false=f->wpAny P .any l.toArray Q (f+g) listed a w:=by
 have hget:∀ i,i < n->h[i]? = l[i]? := fun i hi=>by rw [hh,List.getElem?_take_of_lt hi]
 induction f with
 | zero=>
   intro listed a w hv inv hf;rw [Nat.zero_add];refine hL _ _ _ hv inv (fun i hi=>?_);rw [Array.getD_eq_getD_getElem?];cases e:listed[i]? with
   | none=>rfl
   | some b=>
     cases b with
     | true=>rfl
     | false=>
       exfalso
       have h1:false∈listed.toList.take n:=List.mem_of_getElem? (i:=i) (by rw [List.getElem?_take_of_lt hi,Array.getElem?_toList];exact e);have:=List.count_pos_iff.2 h1;omega
 | succ f ih=>
   intro listed a w hv inv hf;have hsz:listed.size=l.length:=by simpa using hv.size
   obtain ⟨u,hu,hun⟩:∃ u,u < n/\listed.getD u true=false:=by
    have h1:0 < (listed.toList.take n).count false:=by omega
    obtain ⟨u,hu⟩:=List.mem_iff_getElem?.1 (List.count_pos_iff.1 h1);have hul:u < n:=by
     have:=(List.getElem?_eq_some_iff.1 hu).1;rw [List.length_take] at this;omega
    rw [List.getElem?_take_of_lt hul,Array.getElem?_toList] at hu;exact ⟨u,hul,by rw [Array.getD_eq_getD_getElem?,hu];rfl⟩
   have hne:Region.ready .any l.toArray listed≠[]:=by
    have key:∀ u,u < n->listed.getD u true=false->Region.ready .any l.toArray listed≠[]:=by
     intro u;induction u using Nat.strongRecOn with
     | _ u ihu=>
       intro hu hun;by_cases hall:∀ e∈(l[u]'(by omega)).after,Region.binds .any e=true->listed.getD e.on false=true
       ·intro e0;have:u∈Region.ready .any l.toArray listed:=mem_ready.2 ⟨hun,l[u]'(by omega),by simp [show u < l.length by omega],hall⟩;rw [e0] at this;cases this
       ·have:∃ e∈(l[u]'(by omega)).after,listed.getD e.on false=false:=by
         apply Classical.byContradiction;intro hno;refine hall (fun e he _=>?_);cases hx:listed.getD e.on false with
         | true=>rfl
         | false=>exact absurd ⟨e,he,hx⟩ hno
        obtain ⟨e,he,hx⟩:=this;have hlt:=hord u (l[u]'(by omega)) (by rw [hget u hu];exact List.getElem?_eq_getElem (by omega)) e he;refine ihu e.on hlt (by omega) ?_;rw [Array.getD_eq_getD_getElem?] at hx ⊢;have hin:e.on < listed.size:=by omega
        rw [Array.getElem?_eq_getElem hin] at hx ⊢;exact hx
    exact key u hu hun
   rw [show f+1+g=(f+g)+1 by omega];refine ⟨fun e0=>absurd e0 hne,fun i hi=>?_⟩;have hin:i < n:=by
    rcases Nat.lt_or_ge i n with h1 | h1
    ·exact h1
    ·exact absurd hi (tail_waits hs hc (by simpa using hn) hv _ u rfl hu hun i h1)
   obtain ⟨hiun,o,ho,hall⟩:=mem_ready.1 hi;have ho':h[i]? = some o:=by rw [hget i hin];simpa using ho
   have hol:o∈h:=List.mem_of_getElem? ho';have hdeps:RelDeps Pd h a0 o a w:=⟨inv.out,inv.tsz,fun e he hbn oj k hoj hk=>inv.slot _ oj k hoj hk (by
    have h1:=hall e he hbn;rw [Array.getD_eq_getD_getElem?] at h1 ⊢;cases h2:listed[e.on]? with
    | none=>rw [h2] at h1;cases h1
    | some b=>rw [h2] at h1;exact h1)⟩
   obtain ⟨hw,hst⟩:=hstep i o ho' a w inv.cls hdeps;unfold wpOp;rw [ho];simp only [hw,if_true];refine .inl (hst _ _ (fun v w' hbw hv'=>ih _ _ _ (hv.set hi hin) ⟨hmono _ _ inv.cls hbw,?_,?_,fun k hk=>?_,fun j oj k hoj hk hlj=>?_⟩ ?_))
   ·unfold Act.put;cases o.dst with
    | none=>exact inv.tsz
    | some d=>simp [inv.tsz]
   ·unfold Act.put;cases o.dst with
    | none=>exact inv.dfr
    | some d=>exact inv.dfr
   ·unfold Act.put;cases hdst:o.dst with
    | none=>exact inv.out k hk
    | some d=>
      have hne:d≠k:=fun e=>hk o hol (by rw [hdst,e]);simp only [Array.getElem?_setIfInBounds_ne hne];exact inv.out k hk
   ·by_cases hij:i=j
    ·subst hij;rw [ho'] at hoj;obtain rfl:=Option.some.inj hoj;refine ⟨v,?_,hv'⟩;unfold Act.put;rw [hk];have hkb:=hb o hol k hk;rw [<- inv.tsz] at hkb;simp [hkb]
    ·have hlj':listed.getD j true=true:=by
      rw [Array.getD_eq_getD_getElem?,Array.getElem?_setIfInBounds_ne hij] at hlj;rw [Array.getD_eq_getD_getElem?];exact hlj
     obtain ⟨u,hu1,hu2⟩:=inv.slot j oj k hoj hk hlj';refine ⟨u,?_,hP _ _ _ _ hbw hu2⟩;unfold Act.put;cases hdst:o.dst with
     | none=>exact hu1
     | some d=>
       have hne:d≠k:=fun e=>hij (hd i j o oj k ho' hoj (by rw [hdst,e]) hk);simp only [Array.getElem?_setIfInBounds_ne hne];exact hu1
   ·have hf1:listed[i]? = some false:=by
     rw [Array.getD_eq_getD_getElem?] at hiun;cases h:listed[i]? with
     | none=>rw [h] at hiun;cases hiun
     | some b=>rw [h] at hiun;simp at hiun;rw [hiun]
    have hlt:i < (listed.toList.take n).length:=by rw [List.length_take,Array.length_toList,hsz];omega
    rw [Array.toList_setIfInBounds,List.take_set];have h1:(listed.toList.take n)[i]? = some false:=by rw [List.getElem?_take_of_lt hin,Array.getElem?_toList];exact hf1
    have h2:(listed.toList.take n).count false=((listed.toList.take n).set i true).count false+1:=by
     rw [List.count_set hlt];rw [List.getElem?_eq_getElem hlt] at h1;have h3:=Option.some.inj h1;rw [h3];have h4:0 < (listed.toList.take n).count false:=List.count_pos_iff.2 (List.mem_of_getElem? (by rw [List.getElem?_eq_getElem hlt,h3]));rw [if_pos (by decide),if_neg (by decide)];omega
    omega
def relGB (l:List Oper) (n:Nat):Bool:=
 l.all (fun o=>match o.dst with | some k=>decide (k < n) | none=>true) &&
  (List.range l.length).all fun i=>(List.range l.length).all fun j=>decide (i=j) || (match (l[i]?).bind (·.dst),(l[j]?).bind (·.dst) with | some a,some b=>decide (a≠b) | _,_=>true)
theorem relT_end {listed:Array Bool} {a:Act} {w:World} (inv:RelInvT C Pd h a0 listed a w) (hall:∀ i,i < h.length->listed.getD i true=true) (hB:relGB h a0.tmps.size=true) (hA:(h.all fun o=>o.dst.isSome)=true) :
 ∃ vs:List Value,vs.length=h.length/\(∀ i v,vs[i]? = some v->Pd i v w)/\a=relPut a0 h vs:=by
 rw [List.all_eq_true] at hA;have hdst:∀ (i:Nat) (o:Oper),h[i]? = some o->∃ k,o.dst=some k:=fun i o ho=>Option.isSome_iff_exists.1 (hA o (List.mem_of_getElem? ho));have hal:∀ (i:Nat) (o:Oper) (k:Nat),h[i]? = some o->o.dst=some k->∃ v,a.tmps[k]? = some v/\Pd i v w:=fun i o k ho hk=>inv.slot i o k ho hk (hall i (List.getElem?_eq_some_iff.1 ho).1);simp only [relGB,Bool.and_eq_true,List.all_eq_true] at hB;obtain ⟨h2,h3⟩:=hB;have huniq:∀ (i j:Nat) (oi oj:Oper) (k:Nat),h[i]? = some oi->h[j]? = some oj->oi.dst=some k->oj.dst=some k->i=j:=fun i j oi oj k hi hj hki hkj=>by
  have h4:=h3 i (List.mem_range.2 (List.getElem?_eq_some_iff.1 hi).1) j (List.mem_range.2 (List.getElem?_eq_some_iff.1 hj).1);rw [hi,hj] at h4;simp only [Option.bind_some,hki,hkj,Bool.or_eq_true,decide_eq_true_eq] at h4;rcases h4 with h4 | h4
  ·exact h4
  ·exact absurd rfl h4
 refine ⟨h.map fun o=>(o.dst.bind (a.tmps[·]?)).getD undef,List.length_map _,fun i v hv=>?_,?_⟩
 ·rw [List.getElem?_map] at hv;obtain ⟨o,ho,rfl⟩:=Option.map_eq_some_iff.1 hv;obtain ⟨k,hk⟩:=hdst i o ho;obtain ⟨v,e1,e2⟩:=hal i o k ho hk;rw [hk];simp only [Option.bind_some,e1,Option.getD_some];exact e2
 ·obtain ⟨k1,k2,k3⟩:=relPut_keep h a0 (h.map fun o=>(o.dst.bind (a.tmps[·]?)).getD undef);refine rel_act_ext (by rw [k1,inv.tsz]) (by rw [k2,inv.dfr]) (fun k hk=>?_);rw [k1] at hk;by_cases he:∃ o∈h,o.dst=some k
  ·obtain ⟨o,ho,hok⟩:=he;obtain ⟨i,hi⟩:=List.mem_iff_getElem?.1 ho;obtain ⟨v,e1,_⟩:=hal i o k hi hok;rw [e1];refine (relPut_at h a0 _ i o k v hi hok ?_ hk (fun j oj hj hjk=>huniq j i oj o k hj hi hjk hok)).symm;rw [List.getElem?_map,hi];simp [hok,e1]
  ·have hno:∀ o∈h,o.dst≠some k:=fun o ho e=>he ⟨o,ho,e⟩;rw [k3 k hno,inv.out k hno]
def relTailB (l:List Oper) (n m:Nat):Bool:=
 decide (n < l.length) && Region.sinkB .any l.toArray n && Region.chainB .any l.toArray n && relGB (l.take n) m && (l.take n).all (fun o=>o.dst.isSome) &&
  ((List.range n).all fun i=>match l[i]? with | some o=>o.after.toList.all (fun e=>decide (e.on < i)) | none=>true) &&
  Region.seqB .any l.toArray (l.length - n) n ((Array.range l.length).map fun i=>decide (i < n))
theorem wp_region_relTail {id:Nat} {Q:Exit->Act->World->Prop} {w:World} (C:World->Prop) (Pd:Nat->Value->World->Prop) (n:Nat) (hm:P.follows .mixedOrders=true) (hB:relTailB l n a0.tmps.size=true)
 (hC:C w.drew) (hmono:∀ w w',C w->Below w.heap.size w w'->C w') (hP:∀ i v w w',Below w.heap.size w w'->Pd i v w->Pd i v w')
 (hstep:∀ (i:Nat) (o:Oper),(l.take n)[i]? = some o->∀ a w,C w->RelDeps Pd (l.take n) a0 o a w->RelStepW P Pd l i o a w)
 (hend:∀ (vs:List Value) w',C w'->vs.length=n->(∀ i v,vs[i]? = some v->Pd i v w')->wpList P l.toArray Q (l.drop n) (relPut a0 (l.take n) vs) w'):(Code.region id l.toArray true).wp P Q a0 w:=by
 simp only [relTailB,Bool.and_eq_true,decide_eq_true_eq] at hB;obtain ⟨⟨⟨⟨⟨⟨hn,hs⟩,hc⟩,hrel⟩,hdst⟩,hord⟩,hseq⟩:=hB;have htl:(l.take n).length=n:=by simp;omega
 have hR:=hrel;simp only [relGB,Bool.and_eq_true,List.all_eq_true] at hrel;obtain ⟨h2,h3⟩:=hrel;rw [List.all_eq_true] at hord;refine wp_region_any hm ?_;have inv0:HeadInv .any l.toArray n (Array.replicate l.toArray.size false):=
  ⟨by simp,fun j oj _ hl=>(by rw [getD_replicate_false] at hl;cases hl),fun t _ ht=>getD_in (by simpa using ht) (getD_replicate_false _ _)⟩
 have key:=wpAny_relT (P:=P) (C:=C) (Pd:=Pd) (l:=l) (h:=l.take n) (a0:=a0) (n:=n) (g:=l.length - n) (Q:=Q) rfl hn hs hc (fun i o ho e he=>?_) (fun i j oi oj k hi hj hki hkj=>?_) (fun o ho k hk=>?_) hmono hP hstep
  (fun listed a w' hv inv hall=>?_) n (Array.replicate l.toArray.size false) a0 w.drew inv0 ⟨hC,rfl,rfl,fun _ _=>rfl,fun i o k ho _ hl=>?_⟩ ?_
 ·rw [show n+(l.length - n)=l.toArray.size by simp;omega] at key;exact key
 ·have hi:i < n:=by have:=(List.getElem?_eq_some_iff.1 ho).1;rw [htl] at this;exact this
  have h4:=hord i (List.mem_range.2 hi);rw [List.getElem?_take_of_lt hi] at ho;rw [ho] at h4;simp only [List.all_eq_true,decide_eq_true_eq] at h4;exact h4 e (by simpa using he)
 ·have h4:=h3 i (List.mem_range.2 (List.getElem?_eq_some_iff.1 hi).1) j (List.mem_range.2 (List.getElem?_eq_some_iff.1 hj).1);rw [hi,hj] at h4;simp only [Option.bind_some,hki,hkj,Bool.or_eq_true,decide_eq_true_eq] at h4;rcases h4 with h4 | h4
  ·exact h4
  ·exact absurd rfl h4
 ·have h4:=h2 o ho;rw [hk] at h4;simpa using h4
 ·have hsz:listed.size=l.length:=by simpa using hv.size
  have hlisted:listed=(Array.range l.length).map fun i=>decide (i < n):=by
   apply Array.ext
   ·simp [hsz]
   ·intro i g1 g2;simp only [Array.getElem_map,Array.getElem_range];by_cases hi:i < n
    ·have h4:=hall i hi;rw [Array.getD_eq_getD_getElem?,Array.getElem?_eq_getElem g1] at h4;rw [decide_eq_true hi];exact h4
    ·have h4:=hv.tail i (by omega) (by simp;omega);rw [Array.getD_eq_getD_getElem?,Array.getElem?_eq_getElem g1] at h4;rw [decide_eq_false hi];exact h4
  obtain ⟨vs,e1,e2,rfl⟩:=relT_end inv (fun i hi=>hall i (by rw [htl] at hi;exact hi)) hR hdst;have:=wpAny_of_seq (P:=P) (md:=.any) (ops:=l.toArray) (Q':=Q) (l.drop n) n listed (relPut a0 (l.take n) vs) w' (fun j=>by simp [List.getElem?_drop]) (by rw [hlisted,List.length_drop];exact hseq) (hend vs w' inv.cls (by rw [e1,htl]) e2);rwa [List.length_drop] at this
 ·exfalso
  have hi:i < l.length:=by
   have:=(List.getElem?_eq_some_iff.1 ho).1;rw [htl] at this;omega
  rw [Array.getD_eq_getD_getElem?] at hl;simp [hi] at hl
 ·rw [Array.toList_replicate,List.take_replicate];simp;omega
end
end
section
open Go.RowKit Go.Maps
theorem run_append_verts {W:World} (g ty:Nat) (v:Value) (vs:List Vrt) (hr:RdV W v vs) (hl:vs.length<=100000) :
 ∃ v' W',(Builtin.append_ #[23,23] ty #[.slice (some ⟨g,0,none⟩) 0 0,v]).run Tryz.prog W=.ok v' W'/\Below W.heap.size W W'/\VertsAt W' v' vs/\∀ x,v'.ownBlock=some x->x=g\/(W.heap.size<=x/\x < W'.heap.size):=by
 obtain ⟨i0,hi0,hz0,hz1,hz2⟩:=info_parts info_vert;have hrw:=hr;obtain ⟨ad,cap,rfl,hc⟩:=hrw;have hsrc:Go.Src Tryz.prog i0.size 23 (.slice ad vs.length cap) vs.length (vrtRow vs) W:=by
  cases ad with
  | none=>
    have h0:vs=[]:=by
     rcases hc with hc | ⟨b,off,ha,_⟩
     ·exact List.length_eq_zero_iff.1 hc
     ·cases ha
    subst h0;exact Go.Src.ofNil W Tryz.underlying23 cap
  | some ad=>
    refine Go.Src.ofSlice W Tryz.underlying23 ad vs.length cap (vrtRow vs) (by rw [vrtRow_length,hz1]) (fun j u hj=>?_) (vrtRow_one vs);have hjl:=lt_of_get hj;rw [vrtRow_length] at hjl;rcases hc with h0 | ⟨b,off,ha,_⟩
    ·omega
    ·cases ha;exact hr.cells rfl j u hj
 by_cases h0:vs.length=0
 ·obtain rfl:=List.length_eq_zero_iff.1 h0;refine ⟨_,_,run_append_room_src W 23 23 ty 55 i0 Tryz.underlying23 hi0 g 0 0 0 _ 0 [] hsrc (Nat.le_refl _) (fun j hj=>absurd hj (Nat.not_lt_zero _)) (fun j hj=>absurd hj (Nat.not_lt_zero _)),Below.refl _ _,⟨_,0,rfl,Nat.le_refl _,Nat.zero_le _, .inl rfl⟩,fun x hx=>?_⟩;cases hx;exact .inl rfl
 ·have hcap1:=grownCap_ge W (0+vs.length) 0 55;have hcap2:=grownCap_le_maxLen W (0+vs.length) 0 55 (by unfold maxLen;omega);refine ⟨_,_,run_append_grow_src W 23 23 ty 55 i0 _ Tryz.underlying23 hi0 hz0 (some ⟨g,0,none⟩) 0 0 [] (run_firstCells_some _ i0.size 0 ⟨g,0,none⟩ 0 0 [] (by simp) (fun j u hj=>by cases hj)) _ vs.length (vrtRow vs) hsrc (by omega) (by omega) (by
   rw [hz2];have:Builtin.nextslicecap (0+vs.length) 0=0+vs.length:=by
    unfold Builtin.nextslicecap;rw [if_pos (by omega)]
   rw [this];omega),((Below.refl _ _).drew).alloc (Nat.le_refl _) _,?_,fun x hx=>?_⟩
  ·rw [Nat.zero_add] at *;refine ⟨_,_,rfl,hcap1,hcap2, .inr ⟨W.heap.size,0,rfl,fun i hi=>?_⟩⟩;have hget:=List.getElem?_eq_getElem hi;have hcell:∀ (j:Nat) (u:Value),(vrtRow vs)[j]? = some u->(W.drew.alloc (.cells (([]++vrtRow vs).toArray++Builtin.zeroCells (Value.agg #[Value.int .u32 0,Value.int .u32 0,Value.int .u32 0]).cells (grownCap W vs.length 0 55 - vs.length)) 55)).cell? ⟨W.heap.size,0+j,none⟩=some u:=fun j u hj=>by
    have hjl:=lt_of_get hj;have hx:=heap_alloc_new W.drew (.cells (([]++vrtRow vs).toArray++Builtin.zeroCells (Value.agg #[Value.int .u32 0,Value.int .u32 0,Value.int .u32 0]).cells (grownCap W vs.length 0 55 - vs.length)) 55);change _[W.heap.size]? = _ at hx;rw [cells_cell hx,Nat.zero_add];rw [Array.getElem?_append_left (by simpa using hjl)];simpa using hj
   refine ⟨?_,?_,?_⟩
   ·have:=hcell (i*3) _ (by have:=vrtRow_get hget (j:=0) (by decide);rw [Nat.add_zero] at this;rw [this];rfl);exact this
   ·have:=hcell (i*3+1) _ (by rw [vrtRow_get hget (by decide)];rfl);rw [<- Nat.add_assoc] at this;exact this
   ·have:=hcell (i*3+2) _ (by rw [vrtRow_get hget (by decide)];rfl);rw [<- Nat.add_assoc] at this;exact this
  ·cases hx;exact .inr ⟨Nat.le_refl _,by simp⟩
theorem step_append_verts {o:Oper} {a:Act} {W W':World} {s x:Operand} {v0 v1 v':Value} (ho:o.op=.call { callee:=.builtin .append,args:=#[s,x],argTypes:=#[23,23] }) (hs:a.eval s=v0) (hx:a.eval x=v1)
 (hr:(Builtin.append_ #[23,23] o.type #[v0,v1]).run Tryz.prog W=.ok v' W'):(execOp a.eval o).run Tryz.prog W=.ok (.value v') W':=by
 unfold execOp;simp only [ho,resolve,invoke,builtin,Sem.run_bind,Sem.run_pure,Result.andThen_ok,List.map_toArray,List.map_cons,List.map_nil,hs,hx,hr]
def madeRel (bb base:Nat) (gen:Int) (pv vv:Value) (vs:List Vrt):Nat->Value->World->Prop
 | 0,v,_=>v=pv
 | 1,v,_=>v=.pointer (some ⟨bb,2,none⟩)
 | 2,v,_=>v=.int .i64 gen
 | 3,v,W=>∃ g,v=.slice (some ⟨g,0,none⟩) 0 0/\base<=g/\g < W.heap.size
 | 4,v,_=>v=.pointer (some ⟨bb,1,none⟩)
 | 5,v,_=>v=vv
 | _,v,W=>VertsAt W v vs/\∀ x,v.ownBlock=some x->base<=x/\x < W.heap.size
theorem VertsAt.below {w w':World} {v:Value} {vs:List Vrt} (h:VertsAt w v vs) (hb:Below w.heap.size w w'):VertsAt w' v vs:=by
 obtain ⟨a,cap,rfl,h1,h2,h⟩:=h;refine ⟨a,cap,rfl,h1,h2,?_⟩;rcases h with h | ⟨b,off,rfl,hc⟩
 ·exact .inl h
 ·refine .inr ⟨b,off,rfl,fun i hi=>?_⟩;obtain ⟨q1,q2,q3⟩:=hc i hi;exact ⟨cellBelow hb q1,cellBelow hb q2,cellBelow hb q3⟩
theorem madeRel_on {bb base:Nat} {gen:Int} {pv vv:Value} {vs:List Vrt} (i:Nat) (v:Value) (w w':World) (hb:Below w.heap.size w w') (h:madeRel bb base gen pv vv vs i v w):madeRel bb base gen pv vv vs i v w':=by
 match i,h with
 | 0,h=>exact h
 | 1,h=>exact h
 | 2,h=>exact h
 | 3,⟨g,h1,h2,h3⟩=>exact ⟨g,h1,h2,Nat.lt_of_lt_of_le h3 hb.size⟩
 | 4,h=>exact h
 | 5,h=>exact h
 | _+6,⟨h1,h2⟩=>exact ⟨h1.below hb,fun x hx=>⟨(h2 x hx).1,Nat.lt_of_lt_of_le (h2 x hx).2 hb.size⟩⟩
def NetMade (w0:World) (n gen:Nat) (es:List Edg) (vs:List Vrt) (e:Ending) (w':World):Prop:=
 ∃ db pb gb ob ib vb d o L,e=.returned (.tuple #[ptrTo db,ptrTo gb, .bool false])/\Held w0 w' pb db n o d (makeL L gen es vs)/\RawL es L/\GraphAt w' o gb pb gen vs.length ob ib vb
set_option maxRecDepth 100000 in
set_option maxHeartbeats 8000000 in
theorem madeNet_any (HW:WriteSaid) {m:Nat} (HJS:JobSortSaid m) (hm:300<=m) {w:World} {ev vv:Value} {es:List Edg} {vs:List Vrt} (gen fr:Nat) (he:RdE w ev es) (hv:RdV w vv vs) (h1:es.length<=300) (h2:vs.length<=100) (hg:gen<=1048576) (hf:fr < 256) (hp:PowAt w) :
 Calls Tryz.prog 12 #[.agg #[ev,vv, .int .i64 (gen:Int), .int .u8 (fr:Int)]] w (NetMade w (8+fr % 40) gen es vs):=by
 obtain ⟨z,hz⟩:∃ z:Nat,z=fr % 40:=⟨_,rfl⟩;obtain ⟨n,hn⟩:∃ n:Nat,n=8+z:=⟨_,rfl⟩;have hz4:z < 40:=by omega
 have hzz:(fr:Int) % 40=(z:Int):=by omega
 have hzt:(fr:Int).tmod 40=(z:Int):=by rw [Int.tmod_eq_emod_of_nonneg (by omega)];exact hzz
 have hwf:IntKind.i64.wrap (fr:Int)=(fr:Int):=wrap_in (by omega) (by omega);have hwz:IntKind.i64.wrap (z:Int)=(z:Int):=wrap_in (by omega) (by omega);have hsum:(8:Int)+(z:Int)=(n:Int):=by omega
 have hwn:IntKind.i64.wrap (n:Int)=(n:Int):=wrap_in (by omega) (by omega);have hn8:8<=n:=by omega
 have hn4:n<=4096:=by omega
 rw [<- hz,<- hn];have HE:=Lib.hid he;have HV:=Lib.hid hv;have HP:=Lib.hid hp;obtain ⟨ea,ec,rfl,-⟩:=he;obtain ⟨va,vc,rfl,-⟩:=hv;generalize hel:es.length=el at *;generalize hvl:vs.length=vl at *;have HEL:=Lib.hid hel;have HVL:=Lib.hid hvl;clear hn hz hp hel hvl;have HB0:Hid (Below w.heap.size w (w.alloc (.cells #[.slice ea el ec, .slice va vl vc, .int .i64 (gen:Int), .int .u8 (fr:Int)] 25))):=Lib.hid ((Below.refl _ _).alloc (Nat.le_refl _) _);have HQ0:Hid ((w.alloc (.cells #[.slice ea el ec, .slice va vl vc, .int .i64 (gen:Int), .int .u8 (fr:Int)] 25)).heap[w.heap.size]? = some (.cells #[.slice ea el ec, .slice va vl vc, .int .i64 (gen:Int), .int .u8 (fr:Int)] 25)):=Lib.hid (heap_alloc_new w _);go_enter Tryz.func12,Tryz.ntmps12
 go_wp2_with fail
 generalize w.alloc (.cells #[.slice ea el ec, .slice va vl vc, .int .i64 (gen:Int), .int .u8 (fr:Int)] 25)=W0 at *;have HK:Hid (∀ W,Below W0.heap.size W0 W->W.cell? ⟨w.heap.size,1,none⟩=some (.slice va vl vc)/\W.cell? ⟨w.heap.size,2,none⟩=some (.int .i64 (gen:Int))):=Lib.hid (fun W hW=>by
  have hx:=(hW.block _ (lt_heap HQ0.out)).trans HQ0.out;refine ⟨?_,?_⟩<;>rw [cells_cell hx]<;>rfl)
 obtain ⟨bb,hbb⟩:∃ bb,bb=w.heap.size:=⟨_,rfl⟩;rw [<- hbb] at HK ⊢;clear hbb;refine (raw_any HW n (by omega) hn4 _ es W0 (HE.out.below HB0.out) (by have:=HEL.out;omega)).mono ?_;rintro e w1 ⟨db,pb,o1,d1,L1,rfl,hh1,hr1⟩;have HH1:=Lib.hid hh1;have HR1:=Lib.hid hr1;have HV1:=Lib.hid ((HV.out.below HB0.out).below hh1.below);clear hh1 hr1;unfold ptrTo at *;go_wp2;refine wp_region_relTail (Below w1.heap.size w1) (madeRel bb w1.heap.size (gen:Int) (.pointer (some ⟨pb,0,none⟩)) (.slice va vl vc) vs) 7 (by kernel_rfl) (by kernel_rfl) (Below.refl _ _).drew (fun w1 w2 h1 h2=>h1.trans (h2.mono h1.size)) madeRel_on ?_ ?_
 ·intro i o ho a W hC hdep;obtain ⟨c1,c2⟩:=HK.out W (HH1.out.below.trans (hC.mono HH1.out.below.size));match i,ho with
  | 0,ho=>
    cases ho;have h0:=hdep.old 6 rfl rfl;refine ⟨rfl,step_val (v:=.pointer (some ⟨pb,0,none⟩)) (w':=W) ?_ (Below.refl _ _) rfl⟩;go_simp
  | 1,ho=>
    cases ho;have h0:=hdep.old 1 rfl rfl;refine ⟨rfl,step_val (v:=.pointer (some ⟨bb,2,none⟩)) (w':=W) ?_ (Below.refl _ _) rfl⟩;go_simp
  | 2,ho=>
    cases ho;obtain ⟨u,hu,rfl⟩:=hdep.get 1 rfl rfl rfl;refine ⟨rfl,step_val (v:=.int .i64 (gen:Int)) (w':=W) ?_ (Below.refl _ _) rfl⟩;go_simp
  | 3,ho=>
    cases ho;refine ⟨rfl,step_val (v:=.slice (some ⟨W.heap.size,0,none⟩) 0 0) (w':=W.alloc (.cells #[] 55)) ?_ ((Below.refl _ _).alloc (Nat.le_refl _) _) ⟨W.heap.size,rfl,hC.size,by simp⟩⟩;go_simp
  | 4,ho=>
    cases ho;have h0:=hdep.old 1 rfl rfl;refine ⟨rfl,step_val (v:=.pointer (some ⟨bb,1,none⟩)) (w':=W) ?_ (Below.refl _ _) rfl⟩;go_simp
  | 5,ho=>
    cases ho;obtain ⟨u,hu,rfl⟩:=hdep.get 4 rfl rfl rfl;refine ⟨rfl,step_val (v:=.slice va vl vc) (w':=W) ?_ (Below.refl _ _) rfl⟩;go_simp
  | 6,ho=>
    cases ho;obtain ⟨u3,hu3,g,rfl,hg1,hg2⟩:=hdep.get 3 rfl rfl rfl;obtain ⟨u5,hu5,rfl⟩:=hdep.get 5 rfl rfl rfl;obtain ⟨v',W',hr,hb,hvs,hbl⟩:=run_append_verts (W:=W) g 23 _ vs (HV1.out.below hC) (by have:=HVL.out;omega);refine ⟨rfl,step_val (v:=v') (w':=W') ?_ hb ⟨hvs,fun x hx=>?_⟩⟩
    ·exact step_append_verts rfl (tmps_getD hu3) (tmps_getD hu5) hr
    ·rcases hbl x hx with rfl | ⟨q1,q2⟩
     ·exact ⟨hg1,Nat.lt_of_lt_of_le hg2 hb.size⟩
     ·exact ⟨Nat.le_trans hC.size q1,q2⟩
  | _+7,ho=>cases ho
 ·intro us w2 hb2 hl hu;match us,hl with
  | [u0,u1,u2,u3,u4,u5,u6],_=>
    obtain rfl:=hu 0 u0 rfl;obtain rfl:=hu 1 u1 rfl;obtain rfl:=hu 2 u2 rfl;obtain ⟨g3,rfl,-⟩:=hu 3 u3 rfl;obtain rfl:=hu 4 u4 rfl;obtain rfl:=hu 5 u5 rfl;obtain ⟨hv6,ho6⟩:=hu 6 u6 rfl;have HH2:=Lib.hid (HH1.out.later hb2);have hmk:=Lib.hid (held_make HW HJS HH2.out hn8 HR1.out (HH2.out.gen hg (HP.out.kept (HB0.out.block _ HP.out.lt))) (by have:=HEL.out;omega) (by have:=HEL.out;omega) hv6 (fun x hx=>HH1.out.pool.fresh (ho6 x hx).1) (by have:=HVL.out;omega));clear hu hl hb2 hv6 ho6;unfold nmX ptrTo at hmk;simp only [relPut,List.take_succ_cons,List.take_zero,List.drop_succ_cons,List.drop_zero];go_simp;go_wp2_with fail
    refine hmk.out.mono ?_;rintro e w3 ⟨d3,o3,rfl,hh3⟩;have HH3:=Lib.hid hh3;obtain ⟨f1,f2,f3⟩:=makeL_files L1 gen es vs;have HND:Hid (need (makeL L1 gen es vs)<=131072):=Lib.hid (Nat.le_trans (makeL_need _ _ _ _) (by have:=HR1.out.2.2;have:=HEL.out;have:=HVL.out;omega));have hop:=Lib.hid (held_open HW HH3.out HND.out (HH3.out.gen hg (HP.out.kept (HB0.out.block _ HP.out.lt))) f3 f1 f2);rw [HVL.out] at hop;obtain ⟨c1,c2⟩:=HK.out w3 hh3.below;have hg0:¬ (gen:Int) < 0:=by omega
    have hg1:¬ (gen:Int) > 1048576:=by omega
    clear hh3 f1 f2 f3 hmk HH1 HH2;unfold ptrTo at hop;go_wp2_with fail
    refine hop.out.mono ?_;rintro e w4 ⟨gb,ob,ib,vb,d4,o4,rfl,hh4,hg4⟩;have HH4:=Lib.hid (hh4.rebase HB0.out);have HG4:=Lib.hid hg4;clear hh4 hg4 hop HH3;unfold ptrTo;go_wp2;go_returns
    exact ⟨db,pb,gb,ob,ib,vb,d4,o4,L1,rfl,HH4.out,HR1.out,by rw [HVL.out];exact HG4.out⟩
theorem rawL_one {es:List Edg} {L:Logic} (h:RawL es L) (hk:(L.map (·.1)).Nodup):L.length=1:=by
 obtain ⟨⟨fl,h1⟩,h2,_⟩:=h;have h3:∀ x∈L.map (·.1),x=nmX:=fun x hx=>by
  rw [mem_keys] at hx;apply Classical.byContradiction;intro hne;rw [h2 x hne] at hx;cases hx
 have h4:nmX∈L.map (·.1):=by rw [mem_keys,h1];rfl
 match L,hk,h3,h4 with
 | [p],_,_,_=>rfl
 | p::q::l,hk,h3,_=>
   have e1:=h3 p.1 (by simp);have e2:=h3 q.1 (by simp);simp only [List.map_cons,List.nodup_cons,List.mem_cons] at hk;exact absurd (.inl (e1.trans e2.symm)) hk.1
set_option maxRecDepth 100000 in
set_option maxHeartbeats 8000000 in
theorem madeNet_out (HW:WriteSaid) {w:World} {ev vv:Value} {es:List Edg} {vs:List Vrt} (gen:Int) (fr:Nat) (he:RdE w ev es) (hv:RdV w vv vs) (h1:es.length<=300) (h2:vs.length<=100) (hg:gen < 0\/1048576 < gen) (hf:fr < 256) :
 Calls Tryz.prog 12 #[.agg #[ev,vv, .int .i64 gen, .int .u8 (fr:Int)]] w fun e w'=>e=.returned (.tuple #[.pointer none, .pointer none, .bool false])/\Below w.heap.size w w':=by
 obtain ⟨z,hz⟩:∃ z:Nat,z=fr % 40:=⟨_,rfl⟩;obtain ⟨n,hn⟩:∃ n:Nat,n=8+z:=⟨_,rfl⟩;have hz4:z < 40:=by omega
 have hzz:(fr:Int) % 40=(z:Int):=by omega
 have hzt:(fr:Int).tmod 40=(z:Int):=by rw [Int.tmod_eq_emod_of_nonneg (by omega)];exact hzz
 have hwf:IntKind.i64.wrap (fr:Int)=(fr:Int):=wrap_in (by omega) (by omega);have hwz:IntKind.i64.wrap (z:Int)=(z:Int):=wrap_in (by omega) (by omega);have hsum:(8:Int)+(z:Int)=(n:Int):=by omega
 have hwn:IntKind.i64.wrap (n:Int)=(n:Int):=wrap_in (by omega) (by omega);have hn8:8<=n:=by omega
 have hn4:n<=4096:=by omega
 have HE:=Lib.hid he;have HV:=Lib.hid hv;have HMK:=Lib.hid (fun pb s v W=>storeMake_no pb s v gen hg W);have HOP:=Lib.hid (fun pb W=>storeOpen_no pb gen hg W);obtain ⟨ea,ec,rfl,-⟩:=he;obtain ⟨va,vc,rfl,-⟩:=hv;generalize hel:es.length=el at *;generalize hvl:vs.length=vl at *;have HEL:=Lib.hid hel;have HVL:=Lib.hid hvl;clear hn hz hel hvl;have HB0:Hid (Below w.heap.size w (w.alloc (.cells #[.slice ea el ec, .slice va vl vc, .int .i64 gen, .int .u8 (fr:Int)] 25))):=Lib.hid ((Below.refl _ _).alloc (Nat.le_refl _) _);have HQ0:Hid ((w.alloc (.cells #[.slice ea el ec, .slice va vl vc, .int .i64 gen, .int .u8 (fr:Int)] 25)).heap[w.heap.size]? = some (.cells #[.slice ea el ec, .slice va vl vc, .int .i64 gen, .int .u8 (fr:Int)] 25)):=Lib.hid (heap_alloc_new w _);go_enter Tryz.func12,Tryz.ntmps12
 go_wp2_with fail
 generalize w.alloc (.cells #[.slice ea el ec, .slice va vl vc, .int .i64 gen, .int .u8 (fr:Int)] 25)=W0 at *;have HK:Hid (∀ W,Below W0.heap.size W0 W->W.cell? ⟨w.heap.size,1,none⟩=some (.slice va vl vc)/\W.cell? ⟨w.heap.size,2,none⟩=some (.int .i64 gen)):=Lib.hid (fun W hW=>by
  have hx:=(hW.block _ (lt_heap HQ0.out)).trans HQ0.out;refine ⟨?_,?_⟩<;>rw [cells_cell hx]<;>rfl)
 obtain ⟨bb,hbb⟩:∃ bb,bb=w.heap.size:=⟨_,rfl⟩;rw [<- hbb] at HK ⊢;clear hbb;refine (raw_any HW n (by omega) hn4 _ es W0 (HE.out.below HB0.out) (by have:=HEL.out;omega)).mono ?_;rintro e w1 ⟨db,pb,o1,d1,L1,rfl,hh1,hr1⟩;have HH1:=Lib.hid hh1;have HR1:=Lib.hid hr1;have HV1:=Lib.hid ((HV.out.below HB0.out).below hh1.below);clear hh1 hr1;unfold ptrTo at *;go_wp2;refine wp_region_relTail (Below w1.heap.size w1) (madeRel bb w1.heap.size gen (.pointer (some ⟨pb,0,none⟩)) (.slice va vl vc) vs) 7 (by kernel_rfl) (by kernel_rfl) (Below.refl _ _).drew (fun w1 w2 h1 h2=>h1.trans (h2.mono h1.size)) madeRel_on ?_ ?_
 ·intro i o ho a W hC hdep;obtain ⟨c1,c2⟩:=HK.out W (HH1.out.below.trans (hC.mono HH1.out.below.size));match i,ho with
  | 0,ho=>
    cases ho;have h0:=hdep.old 6 rfl rfl;refine ⟨rfl,step_val (v:=.pointer (some ⟨pb,0,none⟩)) (w':=W) ?_ (Below.refl _ _) rfl⟩;go_simp
  | 1,ho=>
    cases ho;have h0:=hdep.old 1 rfl rfl;refine ⟨rfl,step_val (v:=.pointer (some ⟨bb,2,none⟩)) (w':=W) ?_ (Below.refl _ _) rfl⟩;go_simp
  | 2,ho=>
    cases ho;obtain ⟨u,hu,rfl⟩:=hdep.get 1 rfl rfl rfl;refine ⟨rfl,step_val (v:=.int .i64 gen) (w':=W) ?_ (Below.refl _ _) rfl⟩;go_simp
  | 3,ho=>
    cases ho;refine ⟨rfl,step_val (v:=.slice (some ⟨W.heap.size,0,none⟩) 0 0) (w':=W.alloc (.cells #[] 55)) ?_ ((Below.refl _ _).alloc (Nat.le_refl _) _) ⟨W.heap.size,rfl,hC.size,by simp⟩⟩;go_simp
  | 4,ho=>
    cases ho;have h0:=hdep.old 1 rfl rfl;refine ⟨rfl,step_val (v:=.pointer (some ⟨bb,1,none⟩)) (w':=W) ?_ (Below.refl _ _) rfl⟩;go_simp
  | 5,ho=>
    cases ho;obtain ⟨u,hu,rfl⟩:=hdep.get 4 rfl rfl rfl;refine ⟨rfl,step_val (v:=.slice va vl vc) (w':=W) ?_ (Below.refl _ _) rfl⟩;go_simp
  | 6,ho=>
    cases ho;obtain ⟨u3,hu3,g,rfl,hg1,hg2⟩:=hdep.get 3 rfl rfl rfl;obtain ⟨u5,hu5,rfl⟩:=hdep.get 5 rfl rfl rfl;obtain ⟨v',W',hr,hb,hvs,hbl⟩:=run_append_verts (W:=W) g 23 _ vs (HV1.out.below hC) (by have:=HVL.out;omega);refine ⟨rfl,step_val (v:=v') (w':=W') ?_ hb ⟨hvs,fun x hx=>?_⟩⟩
    ·exact step_append_verts rfl (tmps_getD hu3) (tmps_getD hu5) hr
    ·rcases hbl x hx with rfl | ⟨q1,q2⟩
     ·exact ⟨hg1,Nat.lt_of_lt_of_le hg2 hb.size⟩
     ·exact ⟨Nat.le_trans hC.size q1,q2⟩
  | _+7,ho=>cases ho
 ·intro us w2 hb2 hl hu;match us,hl with
  | [u0,u1,u2,u3,u4,u5,u6],_=>
    obtain rfl:=hu 0 u0 rfl;obtain rfl:=hu 1 u1 rfl;obtain rfl:=hu 2 u2 rfl;obtain ⟨g3,rfl,-⟩:=hu 3 u3 rfl;obtain rfl:=hu 4 u4 rfl;obtain rfl:=hu 5 u5 rfl;have HH2:=Lib.hid (HH1.out.later hb2);clear hu hl hb2;unfold ptrTo at *;simp only [relPut,List.take_succ_cons,List.take_zero,List.drop_succ_cons,List.drop_zero];go_simp;go_wp2_with fail
    refine (HMK.out pb _ _ w2).mono ?_;rintro e w' ⟨rfl,rfl⟩;obtain ⟨c1,c2⟩:=HK.out w2 HH2.out.below;have hnm:=Lib.hid (names_kept HH2.out.kept (by rw [rawL_one HR1.out HH2.out.pool.keys];decide));rw [rawL_one HR1.out HH2.out.pool.keys] at hnm;unfold ptrTo at hnm;rcases hg with hg | hg
    ·have hd0:decide (gen < 0)=true:=by simpa using hg
     go_wp2_with fail
     refine (HOP.out pb w2).mono ?_;rintro e w' ⟨rfl,rfl⟩;go_wp2_with fail
     refine hnm.out.mono ?_;rintro e w3 ⟨a3,c3,rfl,hh3⟩;have HB3:=Lib.hid (HB0.out.trans (hh3.below.mono HB0.out.size));clear hh3;go_wp2;go_returns
     exact ⟨rfl,HB3.out⟩
    ·have hd0:¬ gen < 0:=by omega
     have hd1:gen > 1048576:=hg;go_wp2_with fail
     refine (HOP.out pb w2).mono ?_;rintro e w' ⟨rfl,rfl⟩;go_wp2_with fail
     refine hnm.out.mono ?_;rintro e w3 ⟨a3,c3,rfl,hh3⟩;have HB3:=Lib.hid (HB0.out.trans (hh3.below.mono HB0.out.size));clear hh3;go_wp2;go_returns
     exact ⟨rfl,HB3.out⟩
theorem rdE_own {w:World} {base:Nat} {v:Value} {es:List Edg} (h:ownsEdges w base v es):RdE w v es:=by
 rcases ownsEdges_shape h with ⟨rfl,h1⟩ | ⟨g,cap,rfl,hg,hc1,hc2⟩
 ·obtain ⟨a,cap,rfl⟩:=ownsRow_slice h;exact ⟨a,cap,rfl, .inl rfl⟩
 ·refine ⟨some ⟨g,0,none⟩,cap,rfl, .inr ⟨g,0,rfl,fun j x hx=>?_⟩⟩;obtain ⟨h1,h2,h3,h4⟩:=ownsEdges_cells h hx;rw [Nat.zero_add];exact ⟨h1,h2,h3,h4⟩
end
section
open Go.RowKit Go.Maps
section
variable {S:Nat->Prop} {w0 w w':World} {pb db n gb gen N ob ib vb:Nat} {o o':Owner} {d d':Dsk} {L L':Logic}
def edgVal (x:Edg):Value:=.agg #[.int .u32 (x.t.toNat:Int), .int .u32 (x.h.toNat:Int), .int .u64 (x.x.toNat:Int), .int .u32 (x.m.toNat:Int)]
theorem held_edges (HW:WriteSaid) (h:Held w0 w pb db n o d L) (hq:need L<=131072) (hg:GraphAt w o gb pb gen N ob ib vb) {es:List Edg} {fl:Bool} (hL:mget L (sName 101 gen)=some (edgeFile es fl)) :
 Calls Tryz.prog 27 #[ptrTo gb] w fun e w'=>∃ d' o',e=.returned (.tuple #[.int .i64 (es.length:Int), .int .i64 0])/\Moved (fun _=>False) n pb db w o d w' o' d' L:=by
 refine (graphEdges_any HW h.pool hg hL).mono ?_;rintro e w' ⟨c,d',o',⟨x,rfl,hx⟩,hm,he⟩;have h0:c=0:=h.fine' hm he hq;subst h0;rw [hx rfl];exact ⟨d',o',rfl,hm⟩
theorem held_edge (HW:WriteSaid) (h:Held w0 w pb db n o d L) (hq:need L<=131072) (hg:GraphAt w o gb pb gen N ob ib vb) {es:List Edg} {fl:Bool} (hL:mget L (sName 101 gen)=some (edgeFile es fl)) {i:Nat} {x:Edg} (hi:es[i]? = some x) :
 Calls Tryz.prog 28 #[ptrTo gb, .int .i64 (i:Int)] w fun e w'=>∃ d' o',e=.returned (.tuple #[edgVal x, .int .i64 0])/\Moved (fun _=>False) n pb db w o d w' o' d' L:=by
 refine (graphEdge_in HW h.pool hg hL hi).mono ?_;rintro e w' ⟨c,d',o',y,rfl,hm,he,hy,-⟩;have h0:c=0:=h.fine' hm he hq;subst h0;rw [hy rfl];exact ⟨d',o',rfl,hm⟩
def HeldOf (n pb db:Nat) (w:World) (o:Owner) (d:Dsk) (L:Logic) (ts:List Edg) (e:Ending) (w':World):Prop:=
 ∃ v d' o',e=.returned (.tuple #[v, .int .i64 0])/\Moved (fun _=>False) n pb db w o d w' o' d' L/\ownsEdges w' w.heap.size v ts/\∀ x,v.ownBlock=some x->o' x=none
theorem held_out (HW:WriteSaid) (h:Held w0 w pb db n o d L) (hq:need L<=131072) (hg:GraphAt w o gb pb gen N ob ib vb) {es:List Edg} (hL:mget L (sName 101 gen)=some (edgeFile (bestOf false es) true)) (hl:es.length<=1000) {v:Nat} (hv:v < N) (hN:N<=1000) :
 Calls Tryz.prog 21 #[ptrTo gb, .int .u32 (v:Int)] w (HeldOf n pb db w o d L (ofL false v (bestOf false es))):=by
 refine (graphOut_in HW h.pool hg hL (rise_bestOf false es) (by have:=bestOf_length false es;omega) hv (by omega)).mono ?_;rintro e w' ⟨v',c,d',o',rfl,hm,he,hv',-⟩;have h0:c=0:=h.fine' hm he hq;subst h0;obtain ⟨h1,h2⟩:=hv' rfl;exact ⟨v',d',o',rfl,hm,h1,h2⟩
theorem held_in (HW:WriteSaid) (h:Held w0 w pb db n o d L) (hq:need L<=131072) (hg:GraphAt w o gb pb gen N ob ib vb) {es:List Edg} (hL:mget L (sName 114 gen)=some (edgeFile (bestOf true es) true)) (hl:es.length<=1000) {v:Nat} (hv:v < N) (hN:N<=1000) :
 Calls Tryz.prog 22 #[ptrTo gb, .int .u32 (v:Int)] w (HeldOf n pb db w o d L (ofL true v (bestOf true es))):=by
 refine (graphIn_in HW h.pool hg hL (rise_bestOf true es) (by have:=bestOf_length true es;omega) hv (by omega)).mono ?_;rintro e w' ⟨v',c,d',o',rfl,hm,he,hv',-⟩;have h0:c=0:=h.fine' hm he hq;subst h0;obtain ⟨h1,h2⟩:=hv' rfl;exact ⟨v',d',o',rfl,hm,h1,h2⟩
theorem held_vert (HW:WriteSaid) (h:Held w0 w pb db n o d L) (hq:need L<=131072) {vs:List Vrt} {fl:Bool} (hg:GraphAt w o gb pb gen vs.length ob ib vb) (hL:mget L (sName 118 gen)=some (vertFile vs fl)) {v:Nat} (hv:v < vs.length) (hv':v < 4294967296) :
 Calls Tryz.prog 23 #[ptrTo gb, .int .u32 (v:Int)] w fun e w'=>∃ d' o',e=.returned (.tuple #[vrtVal vs[v], .int .i64 0])/\Moved (fun _=>False) n pb db w o d w' o' d' L:=by
 refine (graphVert_in HW h.pool hg hL rfl v hv hv').mono ?_;rintro e w' ⟨c,d',o',rfl,hm,he⟩;have h0:c=0:=h.fine' hm he hq;subst h0;exact ⟨d',o',rfl,hm⟩
end
end
section
open Go.RowKit Go.Maps
section
variable {w0 w w':World} {pb db n gen:Nat} {o o':Owner} {d d':Dsk} {L L':Logic}
theorem Kept.told {q:Nat} (h:Kept q w0 w pb db n o d L) {l:List TFile} (he:∀ p∈l,∃ f,mget d.files p.1=some f/\p.2.2=f.now) {p:TFile} (hp:p∈l) {ps:List Pg} (hL:mget L p.1=some (.inl (ps,true))):p.2.2=pagesFrom (tagOf p.1) 0 ps:=by
 obtain ⟨f,h1,h2⟩:=he p hp;rw [h2];exact h.now hL h1
end
theorem makeL_get (L:Logic) (gen:Nat) (es:List Edg) (vs:List Vrt) (x:Name) (h1:x≠sName 101 gen) (h2:x≠sName 114 gen) (h3:x≠sName 118 gen):mget (makeL L gen es vs) x=mget L x:=by
 unfold makeL;rw [mget_mput,if_neg h3,mget_mput,if_neg h2,mget_mput,if_neg h1]
theorem makeL_len {L:Logic} {gen:Nat} {es:List Edg} {vs:List Vrt} (h:∀ c,mget L (sName c gen)=none):(makeL L gen es vs).length=L.length+3:=by
 unfold makeL;rw [len_mput _ (by rw [mget_mput,if_neg (sName_ne (by decide) _ _),mget_mput,if_neg (sName_ne (by decide) _ _),h]),len_mput _ (by rw [mget_mput,if_neg (sName_ne (by decide) _ _),h]),len_mput _ (h _)]
theorem mput_fresh {L:Logic} {x:Name} (f:LFile) (h:mget L x=none):mput L x f=(x,f)::L:=by
 unfold mput;rw [mdel_fresh h]
theorem makeL_keys {L:Logic} {gen:Nat} {es:List Edg} {vs:List Vrt} (h:∀ c,mget L (sName c gen)=none) (hk:((makeL L gen es vs).map (·.1)).Nodup):(L.map (·.1)).Nodup:=by
 unfold makeL at hk;rw [mput_fresh _ (by rw [mget_mput,if_neg (sName_ne (by decide) _ _),mget_mput,if_neg (sName_ne (by decide) _ _),h]),mput_fresh _ (by rw [mget_mput,if_neg (sName_ne (by decide) _ _),h]),mput_fresh _ (h _)] at hk;simp only [List.map_cons,List.nodup_cons] at hk;exact hk.2.2.2
def FileOfPost13 (w:World) (l:List TFile) (name:Name) (e:Ending) (w':World):Prop:=∃ p∈l,p.1=name/\e=.returned (.tuple #[p.2.1, .bool true])/\w=w'
set_option maxRecDepth 100000 in
set_option maxHeartbeats 2000000 in
theorem fileOf13_any {w:World} {base:Nat} {v:Value} {l:List TFile} (h:FilesAt w base v l) (hl:l.length<=1000) (name:Name) (hn:name∈l.map (·.1)) :
 Calls Tryz.prog 16 #[v, .string name] w (FileOfPost13 w l name):=by
 have H:=Lib.hid h;rcases h.shape with ⟨rfl,_⟩ | ⟨g,cap,rfl,hc1,hc2⟩
 ·cases hn
 unfold maxLen at hc2;have HX:Hid (∀ i,i < l.length->∃ p,l[i]? = some p):=Lib.hid (fun i hi=>⟨_,List.getElem?_eq_getElem hi⟩);have HNE:Hid (¬ ∀ (i:Nat) (p:TFile),i < l.length->l[i]? = some p->p.1≠name):=Lib.hid (fun hall=>by
  obtain ⟨p,hp,rfl⟩:=List.mem_map.1 hn;obtain ⟨i,hi,rfl⟩:=List.getElem_of_mem hp;exact hall i _ hi (List.getElem?_eq_getElem hi) rfl)
 have HM:Hid (∀ (i:Nat) (p:TFile),l[i]? = some p->p∈l):=Lib.hid (fun i p hp=>List.mem_of_getElem? hp);clear h hn;generalize hN:l.length=N at *;have HNN:=Lib.hid hN;clear hN;go_enter Tryz.func16,Tryz.ntmps16
 go_wp2;go_loopw [6] (fun iv W=>∃ i:Nat,i<=N/\iv=.int .i64 (i:Int)/\(∀ (j:Nat) (p:TFile),j < i->l[j]? = some p->p.1≠name)/\W=w) (fun iv _=>N - (intOf iv).toNat)
 case atStart=>exact ⟨0,Nat.zero_le _,rfl,(fun j p hj=>absurd hj (Nat.not_lt_zero _)),rfl⟩
 case round=>
  obtain ⟨i,hi,rfl,hall,rfl⟩:=hrel;have HALL:=Lib.hid hall;clear hall;by_cases hlt:i < N
  ·obtain ⟨p,hp⟩:=HX.out i hlt;have HP:=Lib.hid hp;obtain ⟨e0,e1⟩:=H.out.cells hp;clear hp;by_cases he:p.1=name
   ·have HE:=Lib.hid he;rw [he] at e0;clear he;go_wp2;go_ret2
    exact ⟨p,HM.out i p HP.out,HE.out,rfl,rfl⟩
   ·have hb:=bytes_ne he;have HE:=Lib.hid he;clear he;generalize hpn:p.1=pn at *;have HPN:=Lib.hid hpn;clear hpn;go_wp2;go_roundw
    case rel=>exact ⟨i+1,by omega,by go_num,(fun j r hj hr=>by
     rcases Nat.lt_or_ge j i with h | h
     ·exact HALL.out j r h hr
     ·obtain rfl:j=i:=by omega
      rw [HP.out] at hr;rw [<- Option.some.inj hr,HPN.out];exact HE.out),trivial⟩
    case measure=>simp [intOf];omega
  ·obtain rfl:N=i:=by omega
   exact absurd HALL.out HNE.out
end
end Go.Proofs.YthkkgdpomhhjjaaGreatDoor
namespace Go.Proofs
open Go.Shelf
def Tryz.sortPlaces_ren:Go.Shelf.Ren:=⟨fun | 6=>52 | 15=>87 | 14=>86 | 28=>135 | 29=>136 | 20=>127 | 21=>128 | 22=>129 | 23=>130 | 24=>131 | 25=>132 | 26=>133 | 27=>134 | 46=>191 | 47=>192 | 48=>193 | 49=>194 | 50=>195 | 57=>236 | n=>n,fun | 22=>46 | 24=>49 | 25=>118 | 3=>3 | 39=>159 | 0=>0 | 53=>26 | 55=>62 | 4=>4 | 46=>221 | 45=>220 | 50=>225 | 5=>5 | 9=>9 | 66=>280 | 70=>284 | 76=>313 | 77=>98 | n=>n,fun | n=>n⟩
theorem Tryz.sortPlaces:Go.Proofs.SlLaysF0.n6 Tryz.prog Tryz.sortPlaces_ren:={
 mixed:=by kernel_rfl
 f6:=⟨Tryz.f52.name,by decide,Tryz.func52.trans (congrArg some (by kernel_rfl))⟩
 f14:=⟨Tryz.f86.name,by decide,Tryz.func86.trans (congrArg some (by kernel_rfl))⟩
 f15:=Tryz.func87.trans (congrArg some (by kernel_rfl))
 f20:=⟨Tryz.f127.name,by decide,Tryz.func127.trans (congrArg some (by kernel_rfl))⟩
 f21:=⟨Tryz.f128.name,by decide,Tryz.func128.trans (congrArg some (by kernel_rfl))⟩
 f22:=⟨Tryz.f129.name,by decide,Tryz.func129.trans (congrArg some (by kernel_rfl))⟩
 f23:=⟨Tryz.f130.name,by decide,Tryz.func130.trans (congrArg some (by kernel_rfl))⟩
 f24:=⟨Tryz.f131.name,by decide,Tryz.func131.trans (congrArg some (by kernel_rfl))⟩
 f25:=⟨Tryz.f132.name,by decide,Tryz.func132.trans (congrArg some (by kernel_rfl))⟩
 f26:=⟨Tryz.f133.name,by decide,Tryz.func133.trans (congrArg some (by kernel_rfl))⟩
 f27:=⟨Tryz.f134.name,by decide,Tryz.func134.trans (congrArg some (by kernel_rfl))⟩
 f28:=Tryz.func135.trans (congrArg some (by kernel_rfl))
 f29:=Tryz.func136.trans (congrArg some (by kernel_rfl))
 f46:=⟨Tryz.f191.name,by decide,Tryz.func191.trans (congrArg some (by kernel_rfl))⟩
 f47:=Tryz.func192.trans (congrArg some (by kernel_rfl))
 f48:=Tryz.func193.trans (congrArg some (by kernel_rfl))
 f49:=⟨Tryz.f194.name,by decide,Tryz.func194.trans (congrArg some (by kernel_rfl))⟩
 f50:=⟨Tryz.f195.name,by decide,Tryz.func195.trans (congrArg some (by kernel_rfl))⟩
 f57:=⟨Tryz.f236.name,by decide,Tryz.func236.trans (congrArg some (by kernel_rfl))⟩
 t0:=Tryz.underlying0
 a0:=Tryz.isAgg0
 z0:=Tryz.sizeOf0
 v0:=Tryz.zeroValue0
 t3:=Tryz.underlying3
 a3:=Tryz.isAgg3
 z3:=Tryz.sizeOf3
 v3:=Tryz.zeroValue3
 t4:=Tryz.underlying4
 a4:=Tryz.isAgg4
 z4:=Tryz.sizeOf4
 v4:=Tryz.zeroValue4
 t5:=Tryz.underlying5
 a5:=Tryz.isAgg5
 z5:=Tryz.sizeOf5
 v5:=Tryz.zeroValue5
 t9:=Tryz.underlying9
 a9:=Tryz.isAgg9
 z9:=Tryz.sizeOf9
 v9:=Tryz.zeroValue9
 t22:=Tryz.underlying46
 a22:=Tryz.isAgg46
 z22:=Tryz.sizeOf46
 v22:=Tryz.zeroValue46
 t25:=Tryz.underlying118
 a25:=Tryz.isAgg118
 z25:=Tryz.sizeOf118
 v25:=Tryz.zeroValue118
 t39:=Tryz.underlying159
 a39:=Tryz.isAgg159
 z39:=Tryz.sizeOf159
 v39:=Tryz.zeroValue159
 t45:=Tryz.underlying220
 a45:=Tryz.isAgg220
 z45:=Tryz.sizeOf220
 v45:=Tryz.zeroValue220
 t46:=Tryz.underlying221
 a46:=Tryz.isAgg221
 z46:=Tryz.sizeOf221
 v46:=Tryz.zeroValue221
 t50:=Tryz.underlying225
 a50:=Tryz.isAgg225
 z50:=Tryz.sizeOf225
 v50:=Tryz.zeroValue225
 t53:=Tryz.underlying26
 a53:=Tryz.isAgg26
 z53:=Tryz.sizeOf26
 v53:=Tryz.zeroValue26
 t55:=Tryz.underlying62
 a55:=Tryz.isAgg62
 z55:=Tryz.sizeOf62
 v55:=Tryz.zeroValue62
 t66:=Tryz.underlying280
 a66:=Tryz.isAgg280
 z66:=Tryz.sizeOf280
 v66:=Tryz.zeroValue280
 t70:=Tryz.underlying284
 a70:=Tryz.isAgg284
 z70:=Tryz.sizeOf284
 v70:=Tryz.zeroValue284
 t76:=Tryz.underlying313
 a76:=Tryz.isAgg313
 z76:=Tryz.sizeOf313
 v76:=Tryz.zeroValue313
 t77:=Tryz.underlying98
 a77:=Tryz.isAgg98
 z77:=Tryz.sizeOf98
 v77:=Tryz.zeroValue98 }
end Go.Proofs
namespace Go.Proofs.YthkkgdpomhhjjaaGreatDoor
section
open Go.RowKit Go.Maps Go.ChangeMaps
theorem info_place:(Tryz.prog.info? 49).map (fun i=>(i.zero,i.size,i.bytes))=some (some (.agg #[.string ByteArray.empty, .int .i64 0]),2,24):=by kernel_rfl
def encPlc (nm:Name) (s:UInt32):List Value:=[.string nm, .int .i64 (s.toNat:Int)]
def rowP (nm:Name):List UInt32->List Value
 | []=>[]
 | s::l=>encPlc nm s++rowP nm l
theorem rowP_append (nm:Name) (a b:List UInt32):rowP nm (a++b)=rowP nm a++rowP nm b:=by
 induction a with
 | nil=>rfl
 | cons p a ih=>rw [List.cons_append,rowP,rowP,ih,List.append_assoc]
theorem rowP_length (nm:Name) (l:List UInt32):(rowP nm l).length=l.length*2:=by
 induction l with
 | nil=>rfl
 | cons p l ih=>rw [rowP,List.length_append,ih,List.length_cons];simp [encPlc];omega
theorem rowP_get (nm:Name) {l:List UInt32} {i:Nat} {s:UInt32} (h:l[i]? = some s) {j:Nat} (hj:j < 2):(rowP nm l)[i*2+j]? = (encPlc nm s)[j]? := by
 induction l generalizing i with
 | nil=>cases h
 | cons q l ih=>
   rw [rowP];cases i with
   | zero=>
     cases h;rw [List.getElem?_append_left (by simp [encPlc];omega)];simp
   | succ i=>
     rw [List.getElem?_append_right (by simp [encPlc];omega),<- ih (i:=i) (by simpa using h)];congr 1;simp [encPlc];omega
theorem rowP_flat (nm:Name) (ss:List UInt32):(Go.Sort.flatK (encPlc nm) 2 ss.toArray).toList=rowP nm ss:=by
 apply List.ext_getElem?;intro t;by_cases ht:t < ss.length*2
 ·have h1:(Go.Sort.flatK (encPlc nm) 2 ss.toArray)[t]! = (encPlc nm ss.toArray[t / 2]!)[t % 2]! := Go.Sort.get_flatK _ _ _ _ (by simpa using ht);have hi:t / 2 < ss.length:=by omega
  have h2:=rowP_get nm (List.getElem?_eq_getElem hi) (j:=t % 2) (by omega);rw [show t / 2*2+t % 2=t by omega] at h2;rw [h2,Array.getElem?_toList,Array.getElem?_eq_getElem (by simpa using ht)];rw [getElem!_pos _ _ (by simpa using ht)] at h1;rw [h1];have h3:ss.toArray[t / 2]! = ss[t / 2]:=by simp [hi]
  rw [h3];have h4:t % 2=0\/t % 2=1:=by omega
  rcases h4 with e | e<;>rw [e]<;>rfl
 ·rw [List.getElem?_eq_none (by simp;omega),List.getElem?_eq_none (by rw [rowP_length];omega)]
theorem bytesLess_self (l:List UInt8):Op.bytesLess l l=false:=by
 induction l with
 | nil=>rfl
 | cons a l ih=>
   unfold Op.bytesLess;simp [ih]
set_option maxHeartbeats 1000000 in
theorem looseCmp_any (nm:Name) (x y:Int) (hx:0<=x/\x < 4294967296) (hy:0<=y/\y < 4294967296) (W:World):Calls Tryz.prog 53 #[.agg #[.string nm, .int .i64 x], .agg #[.string nm, .int .i64 y]] W fun e w'=>e=.returned (.int .i64 (x - y))/\∃ q os,w'=Go.Sort.grow (W.drewN q) os:=by
 have hw:IntKind.i64.wrap (x - y)=x - y:=wrap_in (by omega) (by omega);have hl:=bytesLess_self (ByteArray.toList nm);go_enter Tryz.func53,Tryz.ntmps53
 go_wp2;go_ret;refine ⟨rfl,0,#[.cells #[.string nm, .int .i64 x] 49, .cells #[.string nm, .int .i64 y] 49],?_⟩;rw [Go.Sort.alloc_eq_grow,Go.Sort.alloc_eq_grow,Go.Sort.grow_grow];rfl
def cfP (x y:UInt32):Int:=(x.toNat:Int) - (y.toNat:Int)
theorem swoP:Go.Sort.SWO (ltOf cfP) where
 irrefl x:=by unfold ltOf cfP;simp
 trans x y z h1 h2:=by unfold ltOf cfP at *;simp at *;omega
 ntrans x y z h1 h2:=by unfold ltOf cfP at *;simp at *;omega
def SortPlcPost (nm:Name) (w:World) (g len:Nat) (e:Ending) (w':World):Prop:=
 e=.returned (.tuple #[])/\Turn (·=g) w w'/\∀ i,i < len->w'.cell? ⟨g,i*2,none⟩=some (.string nm)
theorem sortPlaces_any {w:World} {base g len cap:Nat} {nm:Name} {ss:List UInt32} (hl:ss.length=len) (hbig:len < 4611686018427387904) (hown:w.ownsRow base 49 2 (.slice (some ⟨g,0,none⟩) len cap) len (rowP nm ss)) :
 Calls Tryz.prog 52 #[.slice (some ⟨g,0,none⟩) len cap, .func (.func 53) #[] #[]] w (SortPlcPost nm w g len):=by
 obtain ⟨hlen,⟨h0,_⟩ | ⟨g',cap',cur,hv,hg,hh,hn,hm,hcs,hx⟩⟩:=hown
 ·cases h0
 cases hv;have hfl:(Go.Sort.flatK (encPlc nm) 2 ss.toArray).toList.length=len*2:=by rw [rowP_flat,rowP_length,hl]
 have hH:Go.Sort.HoldsK (encPlc nm) 2 w g 0 ss.toArray:=by
  have:=holds_of_block id (ss:=(Go.Sort.flatK (encPlc nm) 2 ss.toArray).toList) hh (by rw [hfl,rowP_flat,List.map_id];exact hx);rwa [Array.toArray_toList] at this
 have hsz:ss.toArray.size=len:=by simpa using hl
 have eg:∀ args w,(callFunc 53 args).run Tryz.prog w=.ok (.enter 53 args) w:=enters_of Tryz.func53 (by kernel_rfl) rfl;have hcmp:CmpLays Tryz.prog 53 #[] (encPlc nm) 2 cfP g 0 ss.toArray.size w:=fun m os dk _ x y=>looseCmp_any nm _ _ ⟨by omega,x.toNat_lt |> fun h=>by omega⟩ ⟨by omega,y.toNat_lt |> fun h=>by omega⟩ _;have hcon:=AnyQ.slices_SortFunc Tryz.sortPlaces 2 Tryz.isAgg49 Tryz.sizeOf49 (encPlc nm) (fun _=>rfl) (fun x v hv=>by
  simp only [encPlc,List.mem_cons,List.not_mem_nil,or_false] at hv;rcases hv with rfl | rfl<;>rfl) cfP swoP 53 #[] g 0 cap ss.toArray w eg hcmp hH (Array.getElem?_eq_some_iff.1 hh).1 (by rw [hsz];exact hbig)
 rw [hsz] at hcon;refine hcon.mono ?_;rintro e w' ⟨rfl,d',n,os,hp,_,rfl⟩;obtain ⟨hp1,_,_⟩:=hp;rw [hsz] at hp1;refine ⟨rfl,turn_sorted id _,fun i hi=>?_⟩;have hhs:=heap_sorted id (w:=w) (n:=n) (os:=os) (Go.Sort.flatK (encPlc nm) 2 d') hh;unfold sortWorldK Go.Sort.putRowK;rw [cells_cell hhs];have h1:(Go.Sort.flatK (encPlc nm) 2 d')[i*2]! = (encPlc nm d'[i*2 / 2]!)[i*2 % 2]! := Go.Sort.get_flatK _ _ _ _ (by rw [hp1];omega);rw [show i*2 / 2=i by omega,show i*2 % 2=0 by omega] at h1;have hcur:i*2 < cur.size:=by
  rw [hcs];omega
 rw [getElem!_pos _ _ (by simp [hp1];omega)] at h1;simp [Go.Sort.putCells,hcur,hp1,show i*2 < len*2 by omega];rw [h1];rfl
theorem wpList_append_place {w:World} {ops:Array Oper} {rest:List Oper} {op:Oper} {a:Act} {Q:Exit->Act->World->Prop} (hgd:op.guard=none) (s x:Operand) (ho:op.op=.call { callee:=.builtin .append,args:=#[s,x],argTypes:=#[46,46] }) (nm:Name) (base:Nat) (v:Value) (l:List UInt32) (hs:a.eval s=v) (hown:w.ownsRow base 49 2 v l.length (rowP nm l))
 (y:UInt32) (c:Nat) (hx:a.eval x=.slice (some ⟨w.heap.size,0,none⟩) 1 c) (hl:l.length<=300000) (hbase:base<=w.heap.size)
 (k:∀ v' w',w'.ownsRow base 49 2 v' (l++[y]).length (rowP nm (l++[y]))->Appd v (w.alloc (.cells #[.string nm, .int .i64 (y.toNat:Int)] 49)) w' v'->wpList Tryz.prog ops Q rest (a.put op.dst v') w') :
 wpList Tryz.prog ops Q (op::rest) a (w.alloc (.cells #[.string nm, .int .i64 (y.toNat:Int)] 49)):=by
 refine wpList_append_at hgd s x 46 ho base 49 _ 2 24 Tryz.underlying46 info_place rfl (by decide) v l.length (rowP nm l) hs (World.ownsRow.alloc hown _) ⟨w.heap.size,0,none⟩ 1 c [.string nm, .int .i64 (y.toNat:Int)] hx rfl (fun j u hj=>?_) (fun u hu=>by
  simp only [List.mem_cons,List.not_mem_nil,or_false] at hu;rcases hu with rfl | rfl<;>rfl) (by unfold maxLen;omega) (by omega) (by simp;omega) (fun v' w' h1 h2=>k v' w' ?_ h2)
 ·rw [Addr_add,Nat.zero_add];match j,hj with
  | 0,hj=>cases hj;simp
  | 1,hj=>cases hj;simp
  | j+2,hj=>cases hj
 ·rw [rowP_append,List.length_append];exact h1
def PlacesOf (w:World) (v:Value) (nm:Name) (n:Nat):Prop:=(n=0/\v=.slice none 0 0)\/∃ g cap,v=.slice (some ⟨g,0,none⟩) n cap/\n<=300000/\∀ i,i < n->w.cell? ⟨g,i*2,none⟩=some (.string nm)
def LoosePost (nm:Name) (w:World) (e:Ending) (w':World):Prop:=∃ v n,e=.returned v/\PlacesOf w' v nm n/\Below w.heap.size w w'
set_option maxRecDepth 100000 in
set_option maxHeartbeats 4000000 in
theorem loose_of {w:World} {db:Nat} {o:Owner} {d:Dsk} (nm:Name) (h:DiskAt w db o d) (hall:∀ x∈d.loose,x.1.1=nm/\x.1.2 < 262144) (hlen:d.loose.length<=262144) :
 Calls Tryz.prog 19 #[ptrTo db] w (LoosePost nm w):=by
 obtain ⟨mf,ml,l,h⟩:=h;have HD:=Lib.hid h;have HALL:=Lib.hid hall;have HLEN:=Lib.hid hlen;obtain ⟨⟨hc0,hc1,hc2,hc3,hc4⟩,hf2,hf3,hf4⟩:=h.head.cells;clear h hc0 hc2 hc3 hc4 hf2 hf3 hf4 hall hlen;unfold ptrTo;go_enter Tryz.func19,Tryz.ntmps19
 go_wp2_with (at_range;refine wpList_rng _ rfl _ _ rfl 4 Tryz.underlying111 ml d.loose rfl HD.out.loose ?_;intro ob hi0)
 go_frame
 go_loopw [3] (fun v wr=>∃ (todo:List ((Name × Nat) × Unit)) (ss:List UInt32),wr.ownsRow (w.heap.size+1) 49 2 v ss.length (rowP nm ss)/\IterAt Tryz.prog 116 nameNum (fun _:Unit=>.bool true) wr ml w.heap.size d.loose todo/\Below w.heap.size w wr/\Hid (ss.length+todo.length=d.loose.length/\∀ x∈todo,x∈d.loose)) (fun _ wr=>wr.rangeLeft ml w.heap.size)
 case atStart=>exact ⟨_,[],⟨rfl, .inl ⟨rfl,rfl⟩⟩,hi0,(Below.refl _ _).alloc (Nat.le_refl _) _,Lib.hid ⟨by simp,fun x hx=>hx⟩⟩
 case round=>
  generalize u3=v at *;obtain ⟨todo,ss,hr,hi,hb,hk⟩:=hrel;have HB:=Lib.hid hb;have HR:=Lib.hid hr;clear hb hr hi0;go_wp2_with (at_next;refine wpList_nxt _ rfl _ rfl ml w.heap.size d.loose todo rfl hi ?_ ?_)
  ·rintro rfl;have HL:Hid (ss.length<=262144):=Lib.hid (by
    have h1:=hk.out.1;have h2:=HLEN.out;simp at h1;omega)
   clear hk hi;obtain ⟨hlen,⟨rfl,h0⟩ | ⟨g,cap,cur,rfl,hg,hh,hnc,hcm,hcs,hx⟩⟩:=HR.out
   ·have HC:=Lib.hid (AnyF.slices_SortFunc_none Tryz.sortPlaces none 0 (.func (.func 53) #[] #[]) wr);clear hlen h0;go_wp2_with fail
    refine HC.out.mono ?_;rintro e w2 ⟨rfl,rfl⟩;go_wp2;go_ret;exact ⟨_,0,rfl, .inl ⟨rfl,rfl⟩,HB.out⟩
   ·have HC:=Lib.hid (sortPlaces_any rfl (by have:=HL.out;omega) HR.out);clear hlen hh hcs hx;go_wp2_with fail
    refine HC.out.mono ?_;rintro e w2 ⟨rfl,ht,hc⟩;have HC2:=Lib.hid hc;have HT2:=Lib.hid ht;clear hc ht HC;go_wp2;go_ret;refine ⟨_,ss.length,rfl, .inr ⟨g,cap,rfl,by have:=HL.out;omega,HC2.out⟩,?_⟩;have h0:Turn (fun x=>w.heap.size<=x) w wr:=Turn.ofBelow HB.out;exact (h0.trans HT2.out (fun x hx e=>by omega)).below (Nat.le_refl _) (fun _ h=>h)
  ·intro nm1 sc u rs w1 ob1 hp hal hi1 hen;have hb1:Below w.heap.size w (setBlock w1 w.heap.size ob1):=by
    have:Turn (fun x=>w.heap.size<=x) w (setBlock w1 w.heap.size ob1):=by
     have h0:Turn (fun x=>w.heap.size<=x) w wr:=Turn.ofBelow HB.out;rcases hal with rfl | rfl
     ·exact h0.setBlock _ _ (.inl (Nat.le_refl _))
     ·exact h0.drew.setBlock _ _ (.inl (Nat.le_refl _))
    exact this.below (Nat.le_refl _) (fun _ h=>h)
   have hr1:(setBlock w1 w.heap.size ob1).ownsRow (w.heap.size+1) 49 2 v ss.length (rowP nm ss):=by
    refine ownsRow_heap HR.out (fun x hx=>?_);have:=ownsRow_block HR.out x hx;have hne:x≠w.heap.size:=by omega
    rcases hal with rfl | rfl
    ·exact heap_setBlock_none _ hne
    ·exact heap_setBlock_none _ hne
   have hmem:((nm1,sc),u)∈d.loose:=hk.out.2 _ (hp.mem_iff.2 (by simp));obtain ⟨hnm,hsc⟩:=HALL.out _ hmem;dsimp only at hnm hsc;subst hnm;obtain ⟨y,hy⟩:∃ y:UInt32,(y.toNat:Int)=(sc:Int):=⟨UInt32.ofNat sc,by rw [UInt32.toNat_ofNat'];omega⟩;unfold nameNum at hen;rw [<- hy] at hen;have HP:=Lib.hid hp;have HI:=Lib.hid hi;have HR1:=Lib.hid hr1;have HB1:=Lib.hid hb1;have HLE:Hid (ss.length<=262144/\w.heap.size+1<=(setBlock w1 w.heap.size ob1).heap.size):=Lib.hid ⟨by
    have h1:=hk.out.1;have h2:=HLEN.out;omega,hi1.lt⟩
   clear hp hi hb1 hr1 hmem hsc hy;generalize hW:setBlock w1 w.heap.size ob1=W at hen HR1 HB1 hi1 HLE ⊢;clear hW;have HI1:=Lib.hid hi1;clear hi1;go_upto_region 7 with (fail)
   have HB2:Hid (Below W.heap.size W (W.alloc (.cells #[.string nm1, .int .i64 (y.toNat:Int)] 116))):=Lib.hid ((Below.refl _ _).alloc (Nat.le_refl _) _);have HQ2:Hid ((W.alloc (.cells #[.string nm1, .int .i64 (y.toNat:Int)] 116)).heap[W.heap.size]? = some (.cells #[.string nm1, .int .i64 (y.toNat:Int)] 116)):=Lib.hid (heap_alloc_new W _);generalize W.alloc (.cells #[.string nm1, .int .i64 (y.toNat:Int)] 116)=W2 at *;have c0:W2.cell? ⟨W.heap.size,0,none⟩=some (.string nm1):=by rw [cells_cell HQ2.out];rfl
   have c1:W2.cell? ⟨W.heap.size,1,none⟩=some (.int .i64 (y.toNat:Int)):=by rw [cells_cell HQ2.out];rfl
   have HR2:=Lib.hid (ownsRow_below HR1.out HB2.out);have HI2:=Lib.hid (HI1.out.kept (HB2.out.block _ HI1.out.map.lt) (HB2.out.block _ HI1.out.lt));have hle:ss.length<=300000:=by have:=HLE.out;omega
   have hbs:w.heap.size+1<=W2.heap.size:=Nat.le_trans HLE.out.2 HB2.out.size;have HB3:=Lib.hid (HB1.out.trans (HB2.out.mono HB1.out.size));generalize W.heap.size=q at *;go_wp2_with (at_builtin;refine wpList_append_place rfl _ _ rfl nm1 (w.heap.size+1) _ ss rfl HR2.out y 1 rfl hle hbs (fun v3 w3 h3 ha=>?_))
   obtain ⟨⟨q1,q2,q3,q4,q5⟩,-⟩:=ha;have hsz:(W2.alloc (.cells #[.string nm1, .int .i64 (y.toNat:Int)] 49)).heap.size=W2.heap.size+1:=by simp
   have hblk:∀ x,x<=w.heap.size->w3.heap[x]? = W2.heap[x]? := fun x hx=>by
    rw [q5 x (by rw [hsz];omega) (fun e=>by have:=ownsRow_block HR2.out x (by first | exact e | exact e.symm);omega)];exact (MapKept.heap_alloc W2 _).2 _ (by omega)
   have hi3:IterAt Tryz.prog 116 nameNum (fun _:Unit=>.bool true) w3 ml w.heap.size d.loose rs:=HI2.out.kept (hblk _ (by
    have h1:=HD.out.owned _ _ HD.out.oml;omega)) (hblk _ (Nat.le_refl _))
   refine ⟨⟨rs,ss++[y],h3,hi3,?_,Lib.hid ⟨?_,fun x hx=>hk.out.2 x (HP.out.mem_iff.2 (by simp [hx]))⟩⟩,?_⟩
   ·refine HB3.out.trans ⟨by rw [q1];rfl,by rw [q2];rfl,by rw [q3];rfl,by rw [hsz] at q4;omega,fun k hk=>hblk k (by omega)⟩
   ·have e1:=hk.out.1;have e2:=HP.out.length_eq;rw [List.length_cons] at e2;rw [List.length_append,List.length_singleton];omega
   ·have e2:=HP.out.length_eq;rw [List.length_cons] at e2;rw [hi3.left,HI.out.left];omega
end
section
open Go Go.RowKit
def tenDigits:ByteArray:=⟨#[48,49,50,51,52,53,54,55,56,57]⟩
theorem ten_piece:∀ d,d < 10->tenDigits.extract d (d+1)=⟨#[UInt8.ofNat (48+d)]⟩:=by decide
theorem dec_big {j:Nat} (h:10<=j):Lib.decDigits j=Lib.decDigits (j / 10)++[UInt8.ofNat (48+j % 10)]:=by
 rw [Lib.decDigits,dif_neg (by omega)]
theorem dec_small {j:Nat} (h:j < 10):Lib.decDigits j=[UInt8.ofNat (48+j)]:=by
 rw [Lib.decDigits,dif_pos h]
theorem dec_len:∀ (n k:Nat),k < 10 ^ (n+1)->(Lib.decDigits k).length<=n+1:=by
 intro n;induction n with
 | zero=>
   intro k hk;rw [Lib.decDigits,dif_pos (by simpa using hk)];simp
 | succ n ih=>
   intro k hk;by_cases h1:k < 10
   ·rw [Lib.decDigits,dif_pos h1];simp
   ·rw [Lib.decDigits,dif_neg h1,List.length_append];have:=ih (k / 10) (by
     rw [Nat.pow_succ] at hk;exact Nat.div_lt_of_lt_mul (by rw [Nat.mul_comm];exact hk))
    simp;omega
set_option maxRecDepth 100000 in
set_option maxHeartbeats 1000000 in
theorem refDigits_any (k:Nat) (hk:k<=1048576) (w:World):Calls Tryz.prog 75 #[.int .i64 (k:Int)] w fun e w'=>e=.returned (.string ⟨(Lib.decDigits k).toArray⟩)/\w=w':=by
 go_enter Tryz.func75,Tryz.ntmps75
 go_wp2;go_loopw [0,4] (fun nv ov W=>∃ (j:Nat) (s:List UInt8),j<=k/\nv=.int .i64 (j:Int)/\ov=.string ⟨s.toArray⟩/\Lib.decDigits k=Lib.decDigits j++s/\W=w) (fun nv _ _=>(intOf nv).toNat)
 case atStart=>exact ⟨k,[],Nat.le_refl _,rfl,rfl,by simp,rfl⟩
 case round=>
  generalize u0=nv at *;generalize u4=ov at *;obtain ⟨j,s,hj,rfl,rfl,hs,rfl⟩:=hrel;have hl:s.length<=7:=by
   have h1:=dec_len 6 k (by omega);rw [hs,List.length_append] at h1;omega
  have HS:=Lib.hid hs;clear hs;obtain ⟨d,hd⟩:∃ d,d=j % 10:=⟨_,rfl⟩;obtain ⟨q,hq⟩:∃ q,q=j / 10:=⟨_,rfl⟩;have hd10:d < 10:=by omega
  have hm1:(j:Int) % 10=(d:Int):=by omega
  have hm2:(j:Int).tmod 10=(d:Int):=by rw [Int.tmod_eq_emod_of_nonneg (by omega)];exact hm1
  have hq1:(j:Int) / 10=(q:Int):=by omega
  have hq2:(j:Int).tdiv 10=(q:Int):=by rw [Int.tdiv_eq_ediv_of_nonneg (by omega)];exact hq1
  have hw1:IntKind.i64.wrap (d:Int)=(d:Int):=wrap_in (by omega) (by omega);have hw2:IntKind.i64.wrap (q:Int)=(q:Int):=wrap_in (by omega) (by omega);have hw3:IntKind.i64.wrap ((d:Int)+1)=((d+1:Nat):Int):=by rw [wrap_in (by omega) (by omega)];omega
  have HD:=Lib.hid hd;have HQ:=Lib.hid hq;clear hd hq;have HPC:=Lib.hid (ten_piece d hd10);by_cases h:10<=j
  ·have hge:(j:Int) >= 10:=by omega
   have HST:Hid (Lib.decDigits k=Lib.decDigits q++(UInt8.ofNat (48+d)::s)):=Lib.hid (by
    have h1:=HS.out;rw [dec_big h,<- HQ.out,<- HD.out,List.append_assoc] at h1;exact h1)
   go_wp2;refine ⟨⟨q,UInt8.ofNat (48+d)::s,by have:=HQ.out;omega,rfl,?_,HST.out,trivial⟩,?_⟩
   ·have:=HPC.out;unfold tenDigits at this;rw [this];congr 1
   ·simp [intOf];have:=HQ.out;omega
  ·have hge:¬ (j:Int) >= 10:=by omega
   have hjd:j=d:=by have:=HD.out;omega
   have HJ:=Lib.hid hjd;clear hjd;have HFIN:Hid (tenDigits.extract j (j+1)++⟨s.toArray⟩=(⟨(Lib.decDigits k).toArray⟩:ByteArray)):=Lib.hid (by
    have hj10:j < 10:=by omega
    rw [HS.out,dec_small hj10,ten_piece j hj10];apply ByteArray.ext;simp)
   unfold tenDigits at HFIN;go_wp2;go_ret;exact ⟨by rw [<- HFIN.out];rfl,rfl⟩
end
section
open Go.RowKit Go.Maps
theorem edgRow_one (l:List Edg):∀ u∈edgRow l,u.oneCell'=true:=by
 induction l with
 | nil=>intro u hu;cases hu
 | cons x l ih=>
   intro u hu;rw [edgRow,List.mem_append] at hu;rcases hu with hu | hu
   ·simp [Edg.cells] at hu;rcases hu with rfl | rfl | rfl | rfl<;>rfl
   ·exact ih u hu
theorem rdE_row {w:World} {b off n cap:Nat} {es:List Edg} (h:RdE w (.slice (some ⟨b,off,none⟩) n cap) es):∀ j u,(edgRow es)[j]? = some u->w.cell? ((⟨b,off,none⟩:Addr).add j)=some u:=by
 intro j u hj;obtain ⟨-,hc⟩:=rdE_cells h;have hjl:=lt_of_get hj;rw [edgRow_length] at hjl;have hi:j / 4 < es.length:=by omega
 obtain ⟨b',off',he,h1,h2,h3,h4⟩:=hc w (Below.refl _ _) (j / 4) es[j / 4] (List.getElem?_eq_getElem hi);cases he;have hg:=edgRow_get (List.getElem?_eq_getElem hi) (j:=j % 4) (by omega);rw [show j / 4*4+j % 4=j by omega,hj] at hg;rw [Addr_add];have h012:j % 4=0\/j % 4=1\/j % 4=2\/j % 4=3:=by omega
 rcases h012 with e | e | e | e
 ·rw [e] at hg;cases hg;rw [show off+j=off+j / 4*4 by omega];exact h1
 ·rw [e] at hg;cases hg;rw [show off+j=off+j / 4*4+1 by omega];exact h2
 ·rw [e] at hg;cases hg;rw [show off+j=off+j / 4*4+2 by omega];exact h3
 ·rw [e] at hg;cases hg;rw [show off+j=off+j / 4*4+3 by omega];exact h4
theorem wpList_append_rdE {w:World} {ops:Array Oper} {rest:List Oper} {op:Oper} {a:Act} {Q:Exit->Act->World->Prop} (hgd:op.guard=none) (s x:Operand) (ho:op.op=.call { callee:=.builtin .append,args:=#[s,x],argTypes:=#[22,22] }) (base:Nat) (v:Value) (l:List Edg) (hs:a.eval s=v) (hown:ownsEdges w base v l)
 (u:Value) (es:List Edg) (hx:a.eval x=u) (hr:RdE w u es) (hl:l.length+es.length<=100000) (hbase:base<=w.heap.size)
 (k:∀ v' w',ownsEdges w' base v' (l++es)->Appd v w w' v'->wpList Tryz.prog ops Q rest (a.put op.dst v') w'):wpList Tryz.prog ops Q (op::rest) a w:=by
 have hrw:=hr;obtain ⟨ad,cap,rfl,hc⟩:=hrw;cases ad with
 | some ad=>
   have hcells:∀ j u,(edgRow es)[j]? = some u->w.cell? (ad.add j)=some u:=fun j u hj=>by
    have hjl:=lt_of_get hj;rw [edgRow_length] at hjl;rcases hc with h0 | ⟨b,off,ha,_⟩
    ·omega
    ·cases ha;exact rdE_row hr j u hj
   refine wpList_append_at hgd s x 22 ho base 64 _ 4 24 Tryz.underlying22 info_edge rfl (by decide) v l.length (edgRow l) hs hown ad es.length cap (edgRow es) hx (edgRow_length es) hcells (edgRow_one es) (by unfold maxLen;omega) (by omega) hbase (fun v' w' h1 h2=>k v' w' ?_ h2);unfold ownsEdges;rw [edgRow_append,List.length_append];exact h1
 | none=>
   have h0:es=[]:=by
    rcases hc with hc | ⟨b,off,ha,_⟩
    ·exact List.length_eq_zero_iff.1 hc
    ·cases ha
   subst h0;obtain ⟨i0,hi0,hz0,hz1,hz2⟩:=info_parts info_edge;have hst0:∀ ad,(storeCells ad []).run Tryz.prog w=.ok () w:=fun _=>rfl;obtain ⟨va,vc,hve⟩:∃ va vc,v=.slice va l.length vc:=ownsRow_slice hown;subst hve;refine wpList_plain hgd fun K hK=>?_;have hcap:l.length<=vc:=by
    rcases ownsEdges_shape hown with ⟨h1,h2⟩ | ⟨g,c,h1,_,h2,_⟩
    ·rw [h1];exact Nat.zero_le _
    ·cases h1;exact h2
   have hrun:(Builtin.append_ #[22,22] op.type #[.slice va l.length vc, .slice none ([]:List Edg).length cap]).run Tryz.prog w=.ok (.slice va l.length vc) w:=by
    cases va with
    | none=>simp [Builtin.append_,run_underlying Tryz.underlying22,sizeOf,typeInfo,hi0,Builtin.lenOf,Builtin.firstCells,hcap]
    | some va=>simp [Builtin.append_,run_underlying Tryz.underlying22,sizeOf,typeInfo,hi0,Builtin.lenOf,Builtin.firstCells,hst0,hcap]
   unfold Oper.wp execOp;simp only [ho,resolve,invoke,builtin,Sem.run_bind,Sem.run_pure,Result.andThen_ok,List.map_toArray,List.map_cons,List.map_nil,hs,hx,hrun];refine hK _ _ (k _ _ (by rw [List.append_nil];exact hown) ⟨⟨rfl,rfl,rfl,Nat.le_refl _,fun _ _ _=>rfl⟩, .inl rfl⟩)
theorem ownsEdges_none (w:World):ownsEdges (w.alloc (.cells #[] 64)) w.heap.size (.slice (some ⟨w.heap.size,0,none⟩) 0 0) []:=
 ⟨by simp [edgRow], .inr ⟨w.heap.size,0,#[],rfl,Nat.le_refl _,heap_alloc_new w _,Nat.le_refl _,Nat.zero_le _,by simp,by simp [edgRow]⟩⟩
theorem RdE.take {w:World} {a:Option Addr} {n cap k:Nat} {es:List Edg} (h:RdE w (.slice a n cap) es) (hk:k<=es.length):RdE w (.slice a k cap) (es.take k):=by
 obtain ⟨a',cap',he,hc⟩:=h;cases he;have hl:(es.take k).length=k:=by rw [List.length_take];omega
 refine ⟨a,cap,by rw [hl],?_⟩;rcases hc with hc | ⟨b,off,rfl,hc⟩
 ·exact .inl (by omega)
 ·exact .inr ⟨b,off,rfl,fun j x hx=>hc j x (by rw [List.getElem?_take] at hx;split at hx;exact hx;cases hx)⟩
theorem RdE.drop {w:World} {b off n cap k:Nat} {es:List Edg} (h:RdE w (.slice (some ⟨b,off,none⟩) n cap) es) (hk:k<=es.length) (c:Nat):RdE w (.slice (some ⟨b,off+k*4,none⟩) (n - k) c) (es.drop k):=by
 obtain ⟨a',cap',he,hc⟩:=h;cases he;have hl:(es.drop k).length=es.length - k:=List.length_drop ..;refine ⟨_,c,by rw [hl],?_⟩;rcases hc with hc | ⟨b',off',he,hc⟩
 ·exact .inl (by omega)
 ·cases he;refine .inr ⟨b,off+k*4,rfl,fun j x hx=>?_⟩;rw [List.getElem?_drop] at hx;have:=hc (k+j) x hx;rw [show off+k*4+j*4=off+(k+j)*4 by omega];exact this
theorem RdE.none {w:World} {a:Option Addr} {cap:Nat}:RdE w (.slice a 0 cap) []:=⟨a,cap,rfl, .inl rfl⟩
theorem appd_below {W0 W W':World} {v v':Value} (hb:Below W0.heap.size W0 W) (hv:∀ y,v.ownBlock=some y->W0.heap.size<=y) (ha:Appd v W W' v'):Below W0.heap.size W0 W'/\∀ y,v'.ownBlock=some y->W0.heap.size<=y:=by
 obtain ⟨hg,h⟩:=ha;have hs:=hb.size;refine ⟨hb.trans ⟨hg.os,hg.tape,hg.output,hg.size,fun x hx=>hg.block x (by omega) (fun e=>?_)⟩,fun y hy=>?_⟩
 ·have:=hv x e.symm;omega
 ·rcases h with h | h
  ·rw [h] at hy;exact hv y hy
  ·rw [h] at hy;cases hy;exact hs
def SortedHead (w:World) (b:Bool) (r:List Edg) (i:Nat) (v:Value) (W:World):Prop:=∃ out:List Edg,ownsEdges W w.heap.size v out/\Best b (r.take i) out/\out.length<=i/\Below w.heap.size w W
set_option maxRecDepth 100000 in
set_option maxHeartbeats 8000000 in
theorem sorted_any (v:Value) (es:List Edg) (b:Bool) (w:World) (hv:RdE w v es) (hl:es.length<=10000):Calls Tryz.prog 46 #[v, .int .i64 (byNum b:Int)] w (NewEdges w (bestOf b es)):=by
 have hred:=Lib.hid (reduce_any v es w hv hl);have hrl:(bestOf false es).length<=10000:=Nat.le_trans (bestOf_length _ _) hl;have HB0:=Lib.hid (best_bestOf false es);have HEND:Hid (∀ out,Best b (bestOf false es) out->out=bestOf b es):=Lib.hid (fun out h=>by rw [h.eq,bestOf_turn]);obtain ⟨va,vn,vc,rfl⟩:∃ a n c,v=.slice a n c:=by
  obtain ⟨a,c,rfl,_⟩:=hv;exact ⟨a,_,c,rfl⟩
 clear hv hl;generalize bestOf false es=r at *;obtain ⟨bn,hbn⟩:∃ bn:Int,bn=(byNum b:Int):=⟨_,rfl⟩;have hcall:=Lib.hid (fun W x y=>ahead12_any b x y W);rw [<- hbn] at hcall ⊢;clear hbn;go_enter Tryz.func46,Tryz.ntmps46
 go_wp2_with fail
 refine hred.out.mono ?_;rintro e w1 ⟨rv,rfl,hr1,hb1⟩;have HR1:=Lib.hid hr1;have HB1:=Lib.hid hb1;obtain ⟨ra,rc,rfl⟩:∃ ra rc,rv=.slice ra r.length rc:=ownsRow_slice hr1;have HV1:=Lib.hid (rdE_own hr1);obtain ⟨-,hcells⟩:=rdE_cells HV1.out;have HC:=Lib.hid hcells;have HX:Hid (∀ i,i < r.length->∃ x,r[i]? = some x):=Lib.hid (fun i hi=>⟨_,List.getElem?_eq_getElem hi⟩);have HALL:Hid (r.take r.length=r):=Lib.hid (List.take_of_length_le (Nat.le_refl _));clear hcells hr1 hb1 hred;generalize hN:r.length=N at *;have HN:=Lib.hid hN;clear hN;go_wp2;go_loopw [5,7] (fun ov iv W=>∃ i:Nat,i<=N/\iv=.int .i64 (i:Int)/\SortedHead w1 b r i ov W) (fun _ iv _=>N - (intOf iv).toNat)
 case atStart=>exact ⟨0,Nat.zero_le _,rfl,[],World.ownsRow_nil _ _ _ _,Best.nil _,Nat.le_refl _,Below.refl _ _⟩
 case round=>
  generalize u5=ov at *;generalize wr=W1 at *;obtain ⟨i,hi,rfl,out,hr,hbest,hol,hb⟩:=hrel;have HR:=Lib.hid hr;have HBEST:=Lib.hid hbest;have HB:=Lib.hid hb;have hz:w1.heap.size<=W1.heap.size:=hb.size;clear hr hbest hb;by_cases hlt:i < N
  ·obtain ⟨x,hx⟩:=HX.out i hlt;have HXX:=Lib.hid hx;have HTK:=Lib.hid (take_snoc hx);obtain ⟨re,ro,rfl,-⟩:=HC.out W1 HB.out i x hx;have HXC:Hid (∀ W,Below W1.heap.size W1 W->W.cell? ⟨re,ro+i*4,none⟩=some (.int .u32 (x.t.toNat:Int))/\W.cell? ⟨re,ro+i*4+1,none⟩=some (.int .u32 (x.h.toNat:Int))/\W.cell? ⟨re,ro+i*4+2,none⟩=some (.int .u64 (x.x.toNat:Int))/\W.cell? ⟨re,ro+i*4+3,none⟩=some (.int .u32 (x.m.toNat:Int))):=Lib.hid (fun W hB=>by
    obtain ⟨b',o',e,g⟩:=HC.out W (HB.out.trans (hB.mono HB.out.size)) i x HXX.out;cases e;exact g)
   obtain ⟨oa,oc,hve⟩:∃ oa oc,ov=.slice oa out.length oc:=ownsRow_slice HR.out;subst hve;have HRD:Hid (∀ W,Below W1.heap.size W1 W->RdE W (.slice oa out.length oc) out):=Lib.hid (fun W hB=>(rdE_own HR.out).below hB);have hoc:out.length<=oc/\oc<=maxLen:=by
    rcases ownsEdges_shape HR.out with ⟨h1,h2⟩ | ⟨g,c,h1,_,h2,h3⟩
    ·rw [h1];exact ⟨Nat.zero_le _,by injection h2 with _ _ e3;rw [e3];exact Nat.zero_le _⟩
    ·cases h1;exact ⟨h2,h3⟩
   obtain ⟨hoc1,hoc2⟩:=hoc;unfold maxLen at hoc2;have HOX:Hid (∀ j,j < out.length->∃ o,out[j]? = some o):=Lib.hid (fun j hj=>⟨_,List.getElem?_eq_getElem hj⟩);have HNEW:Hid (∀ o∈out,pk b o≠pk b x):=Lib.hid (fun o ho e=>by
    have h1:=(HBEST.out.mem o ho).1;obtain ⟨j,hj,rfl⟩:=List.getElem_of_mem h1;rw [List.getElem_take] at e;rw [List.length_take] at hj;have e':pk false r[j]=pk false x:=pk_same.2 (pk_same.1 e);have h2:=pairwise_get HB0.out.rise (show j < i by omega) (List.getElem?_eq_getElem (by omega)) HXX.out;omega)
   have HLOOP:Hid (x.t≠x.h):=Lib.hid (HB0.out.mem x (List.mem_of_getElem? HXX.out)).2.1;clear hx;generalize hn0:out.length=n0 at *;have HN0:=Lib.hid hn0;clear hn0;go_wp2;go_loopw [8] (fun kv W=>∃ k:Nat,k<=n0/\kv=.int .i64 (k:Int)/\(∀ (j:Nat) (o:Edg),j < k->out[j]? = some o->pk b o < pk b x)/\Below W1.heap.size W1 W) (fun kv _=>n0 - (intOf kv).toNat)
   case atStart=>exact ⟨0,Nat.zero_le _,rfl,(fun j o hj=>absurd hj (Nat.not_lt_zero _)),Below.refl _ _⟩
   case round=>
    generalize wr=W2 at *;obtain ⟨k,hk,rfl,hlo,hb2⟩:=hrel;have HLO:=Lib.hid hlo;have HB2:=Lib.hid hb2;clear hlo hb2;by_cases hkl:k < n0
    ·obtain ⟨o,ho⟩:=HOX.out k hkl;have HO:=Lib.hid ho;clear ho;obtain ⟨-,hcc⟩:=rdE_cells (by rw [<- HN0.out] at HRD;exact HRD.out W2 HB2.out);obtain ⟨oe,oo,rfl,-⟩:=hcc W2 (Below.refl _ _) k o HO.out;have HOW:Hid (∀ W,Below W2.heap.size W2 W->W.cell? ⟨oe,oo+k*4,none⟩=some (.int .u32 (o.t.toNat:Int))/\W.cell? ⟨oe,oo+k*4+1,none⟩=some (.int .u32 (o.h.toNat:Int))/\W.cell? ⟨oe,oo+k*4+2,none⟩=some (.int .u64 (o.x.toNat:Int))/\W.cell? ⟨oe,oo+k*4+3,none⟩=some (.int .u32 (o.m.toNat:Int))):=Lib.hid (fun W hB=>by
      obtain ⟨g',o',e,r⟩:=hcc W hB k o HO.out;cases e;exact r)
     clear hcc;have hcall1:=Lib.hid (fun W=>hcall.out W o x);obtain ⟨rr,hr0⟩:∃ r:Bool,r=decide (pk b o < pk b x):=⟨_,rfl⟩;rw [<- hr0] at hcall1;have HRR:=Lib.hid hr0;clear hr0;go_wp2_with fail
     refine wq W2 ?_;iterate 8 (refine qo (fun K hK=>?_);go_simp;refine hK _ ?_;clear hK K)
     refine qo (fun K hK=>?_) (fun w' hw'=>by obtain ⟨e0,e1,e2,e3⟩:=HOW.out w' hw';go_simp<;>rfl);go_simp;refine hK _ ?_;clear hK K;iterate 3 (refine qo (fun K hK=>?_);go_simp;refine hK _ ?_;clear hK K)
     refine qo (fun K hK=>?_) (fun w' hw'=>by obtain ⟨e0,e1,e2,e3⟩:=HXC.out w' (HB2.out.trans (hw'.mono HB2.out.size));go_simp<;>rfl);go_simp;refine hK _ ?_;clear hK K;refine qo (fun K hK=>?_);go_simp;refine hK _ ?_;clear hK K;refine qc (fun w' hw'=>(hcall1.out w').mono fun e w'' ⟨he,hb⟩=>⟨he,hw'.trans (hb.mono hw'.size)⟩) (fun K hK=>?_);go_simp;refine hK _ ?_;clear hK K;refine qo (fun K hK=>?_);go_simp;refine hK _ ?_;clear hK K;refine wpQuiet_nil ?_;intro W3 hb3;have HB3:=Lib.hid (HB2.out.trans (hb3.mono HB2.out.size));clear hb3 hcall1 HOW;cases rr with
     | true=>
       have HLO':Hid (∀ (j:Nat) (o':Edg),j < k+1->out[j]? = some o'->pk b o' < pk b x):=Lib.hid (fun j o' hj ho'=>by
        rcases Nat.lt_or_ge j k with h | h
        ·exact HLO.out j o' h ho'
        ·obtain rfl:j=k:=by omega
         rw [HO.out] at ho';rw [<- Option.some.inj ho'];exact of_decide_eq_true HRR.out.symm)
       go_wp2;go_roundw
       case rel=>exact ⟨k+1,by omega,by go_num,HLO'.out,HB3.out⟩
       case measure=>simp [intOf];omega
     | false=>
       have HLAY:Hid (Best b (r.take (i+1)) (out.take k++x::out.drop k)):=Lib.hid (by
        rw [HTK.out];refine HBEST.out.lay HLOOP.out (by rw [HN0.out];exact hk) HLO.out (fun j o' hj ho'=>?_);have h0:=HNEW.out o (List.mem_of_getElem? HO.out);have h1:=of_decide_eq_false HRR.out.symm;rcases Nat.eq_or_lt_of_le hj with rfl | hlt
        ·rw [HO.out] at ho';rw [<- Option.some.inj ho'];omega
        ·have:=pairwise_get HBEST.out.rise hlt HO.out ho';omega)
       have HBX:=HB3;have HNONE:Hid (ownsEdges (W3.alloc (.cells #[] 64)) w1.heap.size (.slice (some ⟨W3.heap.size,0,none⟩) 0 0) []):=Lib.hid (ownsRow_base (ownsEdges_none W3) (Nat.le_trans hz HBX.out.size));have HTKX:Hid (RdE (W3.alloc (.cells #[] 64)) (.slice (some ⟨oe,oo,none⟩) k oc) (out.take k)):=Lib.hid ((HRD.out _ (HBX.out.alloc HBX.out.size _)).take (by rw [HN0.out];exact hk));have hlk:([]:List Edg).length+(out.take k).length<=100000:=by rw [List.length_take,List.length_nil];omega
       have hzX:w1.heap.size<=(W3.alloc (.cells #[] 64)).heap.size:=by have:=HBX.out.size;simp;omega
       go_wp2_with (at_builtin;refine wpList_append_rdE rfl _ _ rfl w1.heap.size _ [] rfl HNONE.out _ (out.take k) rfl HTKX.out hlk hzX ?_)
       intro v4 W4 hr4 ha4;obtain ⟨hb4,hv4⟩:=appd_below ((Below.refl W3.heap.size W3).alloc (Nat.le_refl _) _) (fun y hy=>by cases hy;exact Nat.le_refl _) ha4;have HR4:Hid (ownsEdges W4 w1.heap.size v4 (out.take k)):=Lib.hid (by rw [<- List.nil_append (out.take k)];exact hr4);have HB4:=Lib.hid (HBX.out.trans (hb4.mono HBX.out.size));have HBX4:=Lib.hid hb4;have HV4:=Lib.hid hv4;obtain ⟨x0,x1,x2,x3⟩:=HXC.out W4 HB4.out;have hlk4:(out.take k).length<=100000:=by rw [List.length_take];omega
       have hz4:w1.heap.size<=W4.heap.size:=Nat.le_trans hz HB4.out.size;clear hr4 ha4 hb4 hv4;go_wp2_with (at_builtin;refine wpList_append_edge rfl _ _ rfl w1.heap.size _ (out.take k) rfl HR4.out x 1 rfl hlk4 hz4 ?_)
       intro v5 W5 hr5 ha5;obtain ⟨hb5,hv5⟩:=appd_below (HBX4.out.alloc HBX4.out.size _) HV4.out ha5;have HR5:=Lib.hid hr5;have HB5:=Lib.hid (HBX.out.trans (hb5.mono HBX.out.size));have HBX5:=Lib.hid hb5;have HV5:=Lib.hid hv5;have hz5:w1.heap.size<=W5.heap.size:=Nat.le_trans hz HB5.out.size;have hlk5:(out.take k++[x]).length+(out.drop k).length<=100000:=by rw [List.length_append,List.length_take,List.length_drop,List.length_singleton,HN0.out];omega
       clear hr5 ha5 hb5 hv5 x0 x1 x2 x3;have HDR:Hid (RdE W5 (.slice (some ⟨oe,oo+k*4,none⟩) (n0 - k) (oc - k)) (out.drop k)):=Lib.hid (by
        have:=HRD.out W5 HB5.out;exact RdE.drop this (by rw [HN0.out];exact hk) _)
       go_wp2_with (at_builtin;refine wpList_append_rdE rfl _ _ rfl w1.heap.size _ (out.take k++[x]) rfl HR5.out _ (out.drop k) rfl HDR.out hlk5 hz5 ?_)
       intro v6 W6 hr6 ha6;obtain ⟨hb6,-⟩:=appd_below HBX5.out HV5.out ha6;have HR6:Hid (ownsEdges W6 w1.heap.size v6 (out.take k++x::out.drop k)):=Lib.hid (by
        exact hr6)
       have HBWX:=Lib.hid (HB.out.trans (HBX.out.mono hz));have HB6:=Lib.hid (HBWX.out.trans (hb6.mono HBWX.out.size));clear hr6 ha6 hb6;go_wp2;go_roundw
       case rel=>exact ⟨i+1,by omega,by go_num,out.take k++x::out.drop k,HR6.out,HLAY.out,by rw [List.length_append,List.length_cons,List.length_take,List.length_drop,HN0.out];omega,HB6.out⟩
       case measure=>simp [intOf];omega
    ·obtain rfl:n0=k:=by omega
     have HLAY:Hid (Best b (r.take (i+1)) (out.take n0++x::out.drop n0)):=Lib.hid (by
      rw [HTK.out];refine HBEST.out.lay HLOOP.out (by rw [HN0.out];exact Nat.le_refl _) HLO.out (fun j o' hj ho'=>?_);have:=lt_of_get ho';rw [HN0.out] at this;omega)
     have hdd:decide ((n0:Int) < (n0:Int))=false:=decide_eq_false (by omega);have hdd':decide (n0 < n0)=false:=decide_eq_false (by omega);rcases Nat.eq_or_lt_of_le hoc1 with hcN | hcN;case' inl=>subst hcN
     all_goals
      go_wp2_with fail
      go_quiet (fail)
      have hb3:Below W2.heap.size W2 (W2.drewN nq):=below_drewN (Below.refl _ _) _;have HBX:=Lib.hid (HB2.out.trans (hb3.mono HB2.out.size));clear hb3 hdd hdd';generalize W2.drewN nq=W3 at *;have HNONE:Hid (ownsEdges (W3.alloc (.cells #[] 64)) w1.heap.size (.slice (some ⟨W3.heap.size,0,none⟩) 0 0) []):=Lib.hid (ownsRow_base (ownsEdges_none W3) (Nat.le_trans hz HBX.out.size));have HTKX:=Lib.hid ((HRD.out (W3.alloc (.cells #[] 64)) (HBX.out.alloc HBX.out.size _)).take (k:=n0) (by rw [HN0.out];exact hk));have hlk:([]:List Edg).length+(out.take n0).length<=100000:=by rw [List.length_take,List.length_nil];omega
      have hzX:w1.heap.size<=(W3.alloc (.cells #[] 64)).heap.size:=by have:=HBX.out.size;simp;omega
      go_wp2_with (at_builtin;refine wpList_append_rdE rfl _ _ rfl w1.heap.size _ [] rfl HNONE.out _ (out.take n0) rfl HTKX.out hlk hzX ?_)
      intro v4 W4 hr4 ha4;obtain ⟨hb4,hv4⟩:=appd_below ((Below.refl W3.heap.size W3).alloc (Nat.le_refl _) _) (fun y hy=>by cases hy;exact Nat.le_refl _) ha4;have HR4:Hid (ownsEdges W4 w1.heap.size v4 (out.take n0)):=Lib.hid (by rw [<- List.nil_append (out.take n0)];exact hr4);have HB4:=Lib.hid (HBX.out.trans (hb4.mono HBX.out.size));have HBX4:=Lib.hid hb4;have HV4:=Lib.hid hv4;obtain ⟨x0,x1,x2,x3⟩:=HXC.out W4 HB4.out;have hlk4:(out.take n0).length<=100000:=by rw [List.length_take];omega
      have hz4:w1.heap.size<=W4.heap.size:=Nat.le_trans hz HB4.out.size;clear hr4 ha4 hb4 hv4;go_wp2_with (at_builtin;refine wpList_append_edge rfl _ _ rfl w1.heap.size _ (out.take n0) rfl HR4.out x 1 rfl hlk4 hz4 ?_)
      intro v5 W5 hr5 ha5;obtain ⟨hb5,hv5⟩:=appd_below (HBX4.out.alloc HBX4.out.size _) HV4.out ha5;have HR5:=Lib.hid hr5;have HB5:=Lib.hid (HBX.out.trans (hb5.mono HBX.out.size));have HBX5:=Lib.hid hb5;have HV5:=Lib.hid hv5;have hz5:w1.heap.size<=W5.heap.size:=Nat.le_trans hz HB5.out.size;have hlk5:(out.take n0++[x]).length+(out.drop n0).length<=100000:=by rw [List.length_append,List.length_take,List.length_drop,List.length_singleton,HN0.out];omega
      clear hr5 ha5 hb5 hv5 x0 x1 x2 x3;have hdr:out.drop n0=[]:=List.drop_of_length_le (by rw [HN0.out];exact Nat.le_refl _);have HDR:=Lib.hid hdr;have HLK5:=Lib.hid hlk5;clear hdr hlk5;go_wp2_with (at_builtin;refine wpList_append_rdE rfl _ _ rfl w1.heap.size _ (out.take n0++[x]) rfl HR5.out _ (out.drop n0) rfl (by rw [HDR.out];exact RdE.none) HLK5.out hz5 ?_)
      intro v6 W6 hr6 ha6;obtain ⟨hb6,-⟩:=appd_below HBX5.out HV5.out ha6;have HR6:Hid (ownsEdges W6 w1.heap.size v6 (out.take n0++x::out.drop n0)):=Lib.hid (by
       exact hr6)
      have HBWX:=Lib.hid (HB.out.trans (HBX.out.mono hz));have HB6:=Lib.hid (HBWX.out.trans (hb6.mono HBWX.out.size));clear hr6 ha6 hb6;go_wp2;go_roundw
      case rel=>exact ⟨i+1,by omega,by go_num,out.take n0++x::out.drop n0,HR6.out,HLAY.out,by rw [List.length_append,List.length_cons,List.length_take,List.length_drop,HN0.out];omega,HB6.out⟩
      case measure=>simp [intOf];omega
  ·obtain rfl:N=i:=by omega
   go_wp2;go_ret;refine ⟨_,rfl,?_,HB1.out.trans (HB.out.mono HB1.out.size)⟩;have h:=HBEST.out;rw [HALL.out] at h;rw [<- HEND.out _ h];exact ownsRow_base HR.out HB1.out.size
theorem crcStep_xor (a b:Nat):crcStep (a ^^^ b)=crcStep a ^^^ crcStep b:=by
 unfold crcStep;have hm:(a ^^^ b) % 2=(a % 2) ^^^ (b % 2):=Nat.xor_mod_two_pow (n:=1);rw [Nat.xor_div_two,hm];have h1:a % 2=0\/a % 2=1:=by omega
 have h2:b % 2=0\/b % 2=1:=by omega
 rcases h1 with h1 | h1<;>rcases h2 with h2 | h2
 ·rw [h1,h2];simp
 ·rw [h1,h2];simp [Nat.xor_assoc]
 ·rw [h1,h2,show (1 ^^^ 0:Nat)=1 from rfl];simp only [Nat.mul_one,Nat.mul_zero,Nat.xor_zero];rw [Nat.xor_assoc,Nat.xor_assoc,Nat.xor_comm (b / 2)]
 ·rw [h1,h2,show (1 ^^^ 1:Nat)=0 from rfl];simp only [Nat.mul_one,Nat.mul_zero,Nat.xor_zero];rw [Nat.xor_assoc,<- Nat.xor_assoc 2197175160,Nat.xor_comm 2197175160,Nat.xor_assoc (b / 2),Nat.xor_self,Nat.xor_zero]
theorem crcSteps_xor (k a b:Nat):crcSteps k (a ^^^ b)=crcSteps k a ^^^ crcSteps k b:=by
 induction k with
 | zero=>rfl
 | succ k ih=>rw [crcSteps,crcSteps,crcSteps,ih,crcStep_xor]
theorem crcSteps_shift (k m:Nat):crcSteps k (2 ^ k*m)=m:=by
 induction k generalizing m with
 | zero=>simp [crcSteps]
 | succ k ih=>
   rw [crcSteps,show 2 ^ (k+1)*m=2 ^ k*(2*m) by rw [Nat.pow_succ,Nat.mul_assoc],ih];unfold crcStep;rw [show 2*m / 2=m by omega,show 2*m % 2=0 by omega];simp
theorem crcExt_bits (x:Nat) (b:UInt8):crcSteps 8 (x ^^^ b.toNat)=crcExt x b:=by
 unfold crcExt crcTab;have h1:x=2 ^ 8*(x / 2 ^ 8) ^^^ x % 2 ^ 8:=by
  apply Nat.eq_of_testBit_eq;intro i;rw [Nat.testBit_xor,Nat.testBit_two_pow_mul,Nat.testBit_mod_two_pow];by_cases hi:8<=i
  ·rw [Nat.testBit_div_two_pow,show i - 8+8=i by omega];have h2:¬ i < 8:=by omega
   simp [hi,h2]
  ·have h2:i < 8:=by omega
   simp [hi,h2]
 have h1:x=2 ^ 8*(x / 256) ^^^ x % 256:=h1;conv=>lhs;rw [h1,Nat.xor_assoc]
 rw [crcSteps_xor,crcSteps_shift]
theorem low_step (x:Nat) (h:x < 4294967296):(x % 2=1->bits BinOp.xor IntKind.u32 ((x / 2:Nat):Int) 2197175160=(crcStep x:Int))/\(x % 2=0->((x / 2:Nat):Int)=(crcStep x:Int)):=by
 constructor
 ·intro h1;have:=bits_xor_nat .u32 32 (by decide) wraps_u32 (x / 2) 2197175160 (by omega) (by decide);rw [show ((2197175160:Nat):Int)=(2197175160:Int) from rfl] at this;rw [this];unfold crcStep;rw [h1]
 ·intro h1;unfold crcStep;rw [h1];simp
set_option maxRecDepth 100000 in
set_option maxHeartbeats 2000000 in
theorem refExtend_any (v:Value) (bs:List UInt8) (w:World) (hv:Rd w v bs):Calls Tryz.prog 186 #[.int .u32 0,v] w fun e w'=>e=.returned (.int .u32 (crcOf bs:Int))/\w=w':=by
 obtain ⟨a,cap,rfl,hlc,hcm,hc⟩:=hv;have HC:Hid (∀ i,i < bs.length->∃ b off x,a=some ⟨b,off,none⟩/\bs[i]? = some x/\w.cell? ⟨b,off+i,none⟩=some (bv x)):=Lib.hid (fun i hi=>by
  rcases hc with h0 | ⟨b,off,rfl,hc⟩
  ·omega
  ·exact ⟨b,off,bs[i],rfl,List.getElem?_eq_getElem hi,hc i hi⟩)
 have HF:Hid (∀ i x,bs[i]? = some x->(bs.take (i+1)).foldl crcExt 4294967295=crcExt ((bs.take i).foldl crcExt 4294967295) x):=Lib.hid (fun i x hx=>by
  have hi:=lt_of_get hx;rw [List.getElem?_eq_getElem hi] at hx;rw [List.take_succ_eq_append_getElem hi,List.foldl_append,Option.some.inj hx];rfl)
 have HLT:Hid (∀ i,(bs.take i).foldl crcExt 4294967295 < 4294967296):=Lib.hid (fun i=>crcFold_lt _ _ (by decide));have HALL:Hid (crcOf bs=4294967295 - (bs.take bs.length).foldl crcExt 4294967295):=Lib.hid (by rw [List.take_of_length_le (Nat.le_refl _)];rfl);unfold maxLen at hcm;clear hc;generalize hN:bs.length=N at *;clear hN;go_enter Tryz.func186,Tryz.ntmps186
 go_wp2;go_loopw [5,6] (fun xv iv W=>∃ i:Nat,i<=N/\iv=.int .i64 (i:Int)/\xv=.int .u32 (((bs.take i).foldl crcExt 4294967295:Nat):Int)/\W=w) (fun _ iv _=>N - (intOf iv).toNat)
 case atStart=>exact ⟨0,Nat.zero_le _,rfl,rfl,rfl⟩
 case round=>
  obtain ⟨i,hi,rfl,rfl,rfl⟩:=hrel;obtain ⟨w9,rfl⟩:∃ w9:World,w9=wr:=⟨_,rfl⟩;have hz:=HLT.out i;by_cases hlt:i < N
  ·obtain ⟨b,off,x,rfl,hx,hcell⟩:=HC.out i hlt;have HFX:=Lib.hid (HF.out i x hx);clear hx;obtain ⟨z,hzz⟩:∃ z,z=(bs.take i).foldl crcExt 4294967295:=⟨_,rfl⟩;rw [<- hzz] at HFX hz ⊢;clear hzz;unfold bv at hcell;have hx8:=x.toNat_lt;have hxor:bits BinOp.xor IntKind.u32 (z:Int) (x.toNat:Int)=((z ^^^ x.toNat:Nat):Int):=bits_xor_nat .u32 32 (by decide) wraps_u32 _ _ (by omega) (by omega);have hwx:IntKind.u32.wrap (x.toNat:Int)=(x.toNat:Int):=wraps_u32 _ (by omega) (by omega);have hy0:z ^^^ x.toNat < 4294967296:=Nat.xor_lt_two_pow (n:=32) (by omega) (by omega);obtain ⟨y,hy⟩:∃ y,y=z ^^^ x.toNat:=⟨_,rfl⟩;rw [<- hy] at hxor hy0;have HY:=Lib.hid hy;clear hy;go_wp2;go_loopw [5,7] (fun xv kv W=>∃ k:Nat,k<=8/\kv=.int .i64 (k:Int)/\xv=.int .u32 ((crcSteps k y:Nat):Int)/\W=w9) (fun _ kv _=>8 - (intOf kv).toNat)
   case atStart=>exact ⟨0,Nat.zero_le _,rfl,rfl,rfl⟩
   case round=>
    obtain ⟨k,hk,rfl,rfl,rfl⟩:=hrel;by_cases hk8:k < 8
    ·have hs:=crcSteps_lt k y hy0;have HS:Hid (crcSteps (k+1) y=crcStep (crcSteps k y)):=Lib.hid rfl;generalize crcSteps k y=s at *;obtain ⟨l1,l0⟩:=low_step s hs;have hd:(s:Int) / 2=((s / 2:Nat):Int):=by omega
     have hsl:s % 2=0\/s % 2=1:=by omega
     rcases hsl with hb | hb
     ·obtain ⟨lo,e1,e2⟩:∃ lo:Nat,(s:Int) % 2=(lo:Int)/\¬ (lo:Int)=1:=⟨0,by omega,by decide⟩;have HL:=Lib.hid (l0 hb);clear l1 l0 hb hd;go_wp2;go_roundw
      case rel=>exact ⟨k+1,by omega,by go_num,by rw [HS.out,<- HL.out];rfl,trivial⟩
      case measure=>simp [intOf];omega
     ·have e1:(s:Int) % 2=1:=by omega
      have h1:=l1 hb;rw [<- hd] at h1;clear l1 l0 hb hd;go_wp2;go_roundw
      case rel=>exact ⟨k+1,by omega,by go_num,by rw [HS.out],trivial⟩
      case measure=>simp [intOf];omega
    ·obtain rfl:k=8:=by omega
     have HE:Hid (crcSteps 8 y=(bs.take (i+1)).foldl crcExt 4294967295):=Lib.hid (by rw [HFX.out,HY.out,crcExt_bits]);go_wp2;go_roundw
     case rel=>exact ⟨i+1,by omega,by go_num,by rw [<- HE.out],trivial⟩
     case measure=>simp [intOf];omega
  ·obtain rfl:N=i:=by omega
   have HNB:Hid (bits BinOp.xor IntKind.u32 (((bs.take N).foldl crcExt 4294967295:Nat):Int) 4294967295=((4294967295 - (bs.take N).foldl crcExt 4294967295:Nat):Int)):=Lib.hid (by
    have h1:=bits_xor_nat .u32 32 (by decide) wraps_u32 ((bs.take N).foldl crcExt 4294967295) 4294967295 (by omega) (by decide);have h2:=bits_xor_nat .u32 32 (by decide) wraps_u32 4294967295 ((bs.take N).foldl crcExt 4294967295) (by decide) (by omega);have h3:=not_bits ((bs.take N).foldl crcExt 4294967295) hz;rw [Nat.xor_comm] at h1;exact h1.trans (h2.symm.trans h3))
   go_wp2;go_ret;exact ⟨ret_int (by rw [HALL.out];exact HNB.out),rfl⟩
end
end Go.Proofs.YthkkgdpomhhjjaaGreatDoor
