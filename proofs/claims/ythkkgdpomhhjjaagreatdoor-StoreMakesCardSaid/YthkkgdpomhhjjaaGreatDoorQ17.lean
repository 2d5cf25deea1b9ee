/-
  Joined.
-/
import Derived.Test.YthkkgdpomhhjjaaGreatDoorQ16
import Derived.Deep.AppendSrc
namespace Go.Proofs.YthkkgdpomhhjjaaGreatDoor
section
open Go.RowKit
theorem setCells_fz {g:Nat} {t:TypeId} {fz:Nat × Nat} (vs:List Value):∀ {w:World} {o:Nat} {cs:Array Value},w.heap[g]? = some (.cells cs t fz)->o+vs.length<=cs.size ->
 ∃ cs',(w.setCells g o vs).heap[g]? = some (.cells cs' t fz)/\cs'.size=cs.size/\(∀ j,j < o->cs'[j]? = cs[j]?)/\(∀ j,j < vs.length->cs'[o+j]? = vs[j]?):=by
 induction vs with
 | nil=>intro w o cs h _;exact ⟨cs,h,rfl,fun _ _=>rfl,fun j hj=>absurd hj (Nat.not_lt_zero _)⟩
 | cons v vs ih=>
   intro w o cs h ho;rw [List.length_cons] at ho;have h1:(w.setCell ⟨g,o,none⟩ v).heap[g]? = some (.cells (cs.setIfInBounds o v) t fz):=by
    rw [setCell_eq_setRow w g o cs _ fz v h];exact setRow_heap w g cs _ _ fz h
   obtain ⟨cs',e1,e2,e3,e4⟩:=ih (o:=o+1) h1 (by rw [Array.size_setIfInBounds];omega);refine ⟨cs',e1,by rw [e2,Array.size_setIfInBounds],fun j hj=>?_,fun j hj=>?_⟩
   ·rw [e3 j (by omega),Array.getElem?_setIfInBounds,if_neg (by omega)]
   ·cases j with
    | zero=>
      rw [Nat.add_zero,e3 o (by omega),Array.getElem?_setIfInBounds,if_pos rfl,if_pos (by omega)];rfl
    | succ j=>
      rw [List.length_cons] at hj;rw [show o+(j+1)=o+1+j by omega,e4 j (by omega)];rfl
theorem run_append_rdT {w:World} (base ty:Nat) (v:Value) (bs:List UInt8) (h:BytesT w base v bs) (hne:bs≠[]) (x:Value) (ys:List UInt8) (hx:Rd w x ys) (hl:bs.length+ys.length<=100000) (hbase:base<=w.heap.size) :
 ∃ v' w',(Builtin.append_ #[39,39] ty #[v,x]).run Tryz.prog w=.ok v' w'/\BytesT w' base v' (bs++ys)/\w.grownBy w' v.ownBlock/\(v'.ownBlock=v.ownBlock\/v'.ownBlock=some w.heap.size):=by
 obtain ⟨i0,hi,hz0,hz1,hz2⟩:=info_parts info_u8;have hsrc:Go.Src Tryz.prog i0.size 39 x ys.length (ys.map bv) w:=by
  obtain ⟨a,cap,rfl,hlc,hcm,hc⟩:=hx;rcases hc with h0 | ⟨b,off,rfl,hc⟩
  ·have:ys=[]:=List.length_eq_zero_iff.1 h0;subst this;cases a with
   | none=>exact Go.Src.ofNil w Tryz.underlying39 cap
   | some a=>exact Go.Src.ofSlice w Tryz.underlying39 a 0 cap [] (by simp) (fun j u hj=>by cases hj) (fun u hu=>by cases hu)
  ·refine Go.Src.ofSlice w Tryz.underlying39 _ _ cap _ (by rw [hz1];simp) (fun j u hj=>?_) (fun u hu=>?_)
   ·have hjl:j < ys.length:=by have:=lt_of_get hj;rwa [List.length_map] at this
    rw [List.getElem?_map,List.getElem?_eq_getElem hjl] at hj;rw [Addr_add,hc j hjl];simpa using hj
   ·obtain ⟨b,_,rfl⟩:=List.mem_map.1 hu;exact bv_oneCell b
 rcases h with ⟨_,h0⟩ | ⟨g,cap,cur,fz,rfl,h1,h2,h3,h4,h5,h6,h7⟩
 ·exact absurd h0 hne
 ·have hgl:g < w.heap.size:=(Array.getElem?_eq_some_iff.1 h2).1;have hlen:(bs++ys).length=bs.length+ys.length:=List.length_append;by_cases hroom:bs.length+ys.length<=cap
  ·have hr:=run_append_room_src (P:=Tryz.prog) (w:=w) 39 39 ty 5 i0 Tryz.underlying39 hi g 0 bs.length cap x ys.length (ys.map bv) hsrc hroom (fun j hj=>by
    rw [List.length_map] at hj;rw [hz1,cell_of_row w g _ cur _ fz h2,Nat.mul_one,Nat.zero_add,Array.getElem?_eq_getElem (by omega)];rfl) (fun j hj=>by
    rw [List.length_map] at hj;obtain ⟨lo,hi'⟩:=fz;simp only [World.frozen?,h2,Bool.and_eq_false_iff,decide_eq_false_iff_not,hz1];simp only at h3;omega)
   rw [hz1,Nat.mul_one,Nat.zero_add] at hr;obtain ⟨cs',e1,e2,e3,e4⟩:=setCells_fz (ys.map bv) h2 (o:=bs.length) (by rw [List.length_map];omega);have ht:Turn (·=g) w (w.setCells g bs.length (ys.map bv)):=(Turn.refl (·=g) w).setCells g bs.length (ys.map bv) (.inl rfl);refine ⟨_,_,hr, .inr ⟨g,cap,cs',fz,by rw [hlen],h1,e1,by rw [e2];exact h3,by omega,h5,by omega,?_⟩,⟨ht.os,ht.tape,ht.output,ht.size,fun k hk hne'=>ht.block k hk (fun e=>hne' (by rw [e];rfl))⟩, .inl rfl⟩;apply List.ext_getElem?;intro j;rw [hlen];by_cases hj:j < bs.length
   ·rw [List.getElem?_take_of_lt (by omega),Array.getElem?_toList,e3 j hj,<- Array.getElem?_toList,List.map_append,List.getElem?_append_left (by simpa using hj),<- h7,List.getElem?_take_of_lt hj]
   ·by_cases hj2:j < bs.length+ys.length
    ·have:=e4 (j - bs.length) (by rw [List.length_map];omega);rw [show bs.length+(j - bs.length)=j by omega] at this;rw [List.getElem?_take_of_lt hj2,Array.getElem?_toList,this,List.map_append,List.getElem?_append_right (by simp;omega),List.length_map]
    ·rw [List.getElem?_eq_none (by rw [List.length_take];omega),List.getElem?_eq_none (by simp;omega)]
  ·have holds:∀ j u,(bs.map bv)[j]? = some u->w.drew.cell? ((⟨g,0,none⟩:Addr).add j)=some u:=fun j u hj=>by
    have hjl:j < bs.length:=by have:=lt_of_get hj;rwa [List.length_map] at this
    rw [List.getElem?_map,List.getElem?_eq_getElem hjl] at hj;show w.cell? _=_;rw [Addr_add,Nat.zero_add,BytesT.cells (.inr ⟨g,cap,cur,fz,rfl,h1,h2,h3,h4,h5,h6,h7⟩) hjl];simpa using hj
   have hfc:=run_firstCells_some (P:=Tryz.prog) w.drew i0.size bs.length ⟨g,0,none⟩ bs.length cap (bs.map bv) (by rw [hz1];simp) holds;have hr:=run_append_grow_src (P:=Tryz.prog) (w:=w) 39 39 ty 5 i0 (.int .u8 0) Tryz.underlying39 hi hz0 (some ⟨g,0,none⟩) bs.length cap (bs.map bv) hfc x ys.length (ys.map bv) hsrc (by omega) (by omega) (growslice_fits (by omega) (by rw [hz2];omega));have hge:=grownCap_ge w (bs.length+ys.length) cap 5;have hcm:grownCap w (bs.length+ys.length) cap 5<=maxLen:=grownCap_le_maxLen w (bs.length+ys.length) cap 5 (by unfold maxLen;omega);refine ⟨_,_,hr, .inr ⟨w.heap.size,_,_,(0,0),by rw [hlen],hbase,heap_alloc_new w.drew _, .inl rfl,by rw [hlen];exact hge,hcm,?_,?_⟩,⟨rfl,rfl,rfl,by simp,fun k hk _=>(MapKept.heap_alloc w.drew _).2 k hk⟩, .inr rfl⟩
   ·simp only [Array.size_append,List.size_toArray,size_zeroCells,List.length_append,List.length_map];have hz:(Value.int IntKind.u8 0).cells.size=1:=rfl;rw [hz];omega
   ·simp only [Array.toList_append];rw [hlen,List.take_append_of_le_length (by simp),List.take_of_length_le (by simp),List.map_append]
theorem wpList_append_rdT {w:World} {ops:Array Oper} {rest:List Oper} {op:Oper} {a:Act} {Q:Exit->Act->World->Prop} (hgd:op.guard=none) (s y:Operand) (ho:op.op=.call { callee:=.builtin .append,args:=#[s,y],argTypes:=#[39,39] }) (base:Nat) (v:Value) (bs:List UInt8) (hs:a.eval s=v) (h:BytesT w base v bs) (hne:bs≠[])
 (x:Value) (ys:List UInt8) (hy:a.eval y=x) (hx:Rd w x ys) (hl:bs.length+ys.length<=100000) (hbase:base<=w.heap.size)
 (k:∀ v' w',BytesT w' base v' (bs++ys)->Appd v w w' v'->wpList Tryz.prog ops Q rest (a.put op.dst v') w'):wpList Tryz.prog ops Q (op::rest) a w:=by
 refine wpList_plain hgd fun K hK=>?_;obtain ⟨v',w',g1,g2,g3,g4⟩:=run_append_rdT base op.type v bs h hne x ys hx hl hbase;unfold Oper.wp execOp;simp only [ho,resolve,invoke,builtin,Sem.run_bind,Sem.run_pure,Result.andThen_ok,List.map_toArray,List.map_cons,List.map_nil,hs,hy,g1];exact hK _ _ (k v' w' g2 ⟨g3,g4⟩)
end
section
open Go.RowKit Go.Maps
set_option maxHeartbeats 1000000 in
theorem refSum_any (v:Value) (bs:List UInt8) (w:World) (hv:Rd w v bs):Calls Tryz.prog 125 #[v] w fun e w'=>e=.returned (.int .u32 (crcOf bs:Int))/\w=w':=by
 have hx:=Lib.hid (refExtend_any v bs w hv);go_enter Tryz.func125,Tryz.ntmps125
 go_wp2_with fail
 refine hx.out.mono ?_;rintro e w1 ⟨rfl,rfl⟩;go_wp2;go_ret;exact ⟨rfl,rfl⟩
set_option maxRecDepth 100000 in
set_option maxHeartbeats 1000000 in
theorem refTag_any (s:ByteArray) (w:World) (hs:s.size<=1000) :
 Calls Tryz.prog 83 #[.string s] w fun e w'=>e=.returned (.int .u32 (tagOf s:Int))/\Below w.heap.size w w':=by
 have hr:=Lib.hid (refSum_any _ _ _ (Rd_bytesWorld w s hs));have hb:=Lib.hid (Joins.below_bytesWorld w.heap.size w 5 s (Nat.le_refl _));have hcv:=fun W=>Lib.run_convert_string_bytes (P:=Tryz.prog) W 9 39 5 s Tryz.underlying9 Tryz.underlying39 Tryz.underlying5;go_enter Tryz.func83,Tryz.ntmps83
 go_wp2_with fail
 refine hr.out.mono ?_;rintro e w1 ⟨rfl,rfl⟩;go_wp2_with fail
 go_ret;exact ⟨rfl,hb.out⟩
theorem le_four {x:Nat} (h:x < 65536):le x 4=le x 2++le 0 2:=by
 have h2:x / 256 / 256=0:=by omega
 simp only [le,Nat.pow_zero,Nat.div_one,Nat.pow_succ,Nat.one_mul,List.nil_append,List.cons_append];rw [show 256*256=65536 from rfl,show 65536*256=16777216 from rfl,show x / 65536=0 by omega,show x / 16777216=0 by omega]
theorem pageBody_ref (tag num:Nat) (bs:List UInt8) (h:bs.length<=240):pageBody tag num bs=le tag 4++le num 4++le bs.length 4++bs++List.replicate (240 - bs.length) 0:=by
 unfold pageBody headBytes;rw [le_four (x:=bs.length) (by omega)];simp only [List.append_assoc]
def NewBytesTOk (w:World) (bs:List UInt8) (e:Ending) (w':World):Prop:=
 ∃ v',e=.returned (.tuple #[v', .int .i64 0])/\BytesT w' w.heap.size v' bs/\Below w.heap.size w w'
def vlen:Value->Nat
 | .slice _ n _=>n
 | _=>0
theorem BytesT.shape {w:World} {base:Nat} {v:Value} {bs:List UInt8} (h:BytesT w base v bs):∃ a cap,v=.slice a bs.length cap/\bs.length<=cap/\cap<=maxLen:=by
 rcases h with ⟨rfl,rfl⟩ | ⟨g,cap,cur,fz,rfl,_,_,_,h1,h2,_⟩
 ·exact ⟨none,0,rfl,Nat.le_refl _,Nat.zero_le _⟩
 ·exact ⟨_,cap,rfl,h1,h2⟩
theorem appd_belowT {W0 W W':World} {v v':Value} {bs:List UInt8} (hb:Below W0.heap.size W0 W) (hv:BytesT W W0.heap.size v bs) (ha:Appd v W W' v'):Below W0.heap.size W0 W':=
 (appd_below hb (fun y hy=>(hv.lt y hy).1) ha).1
set_option maxRecDepth 100000 in
set_option maxHeartbeats 4000000 in
theorem refMake_any (tag num:Nat) (v:Value) (bs:List UInt8) (w:World) (hv:Rd w v bs) (hl:bs.length<=240) (ht:tag < 4294967296) (hn:num < 4294967296) :
 Calls Tryz.prog 82 #[.int .u32 (tag:Int), .int .u32 (num:Int),v] w (NewBytesTOk w (mkPage tag num bs)):=by
 have hr:Hid (∀ W,Below w.heap.size w W->Rd W v bs):=Lib.hid fun W h=>hv.below h;obtain ⟨a,cap,rfl,hlc,hcm,hc⟩:=hv;clear hc;unfold maxLen at hcm;have hput:=Lib.hid refPut_any;have HPB:Hid (pageBody tag num bs=le tag 4++le num 4++le bs.length 4++bs++List.replicate (240 - bs.length) 0):=Lib.hid (pageBody_ref tag num bs hl);have HMK:Hid (mkPage tag num bs=pageBody tag num bs++le (crcOf (pageBody tag num bs)) 4):=Lib.hid rfl;have HPL:Hid ((pageBody tag num bs).length=252):=Lib.hid (pageBody_length tag num bs hl);have hlt:=crcOf_lt (pageBody tag num bs);generalize pageBody tag num bs=body at *;have hsum0:Hid (∀ u W,Rd W u body->Calls Tryz.prog 125 #[u] W fun e w'=>e=.returned (.int .u32 (crcOf body:Int))/\W=w'):=Lib.hid (fun u W h=>refSum_any u body W h);generalize crcOf body=crc at *;generalize mkPage tag num bs=page at *;have hr0:=Lib.hid (BytesT.nil w w.heap.size).rd;obtain ⟨N,hN⟩:∃ N,N=bs.length:=⟨_,rfl⟩;have HN:=Lib.hid hN;rw [<- hN] at hl hlc HPB ⊢;clear hN;go_enter Tryz.func82,Tryz.ntmps82
 go_wp2_with fail
 refine (hput.out (.slice none 0 0) [] tag 4 w (.inl rfl) (by omega) hr0.out (by decide)).mono ?_;rintro e1 w1 ⟨v1,rfl,hb1,hB1⟩;have HE1:=Lib.hid hB1;have HR1:=Lib.hid hb1;clear hb1 hB1;go_wp2_with fail
 refine (hput.out v1 (le tag 4) num 4 w1 (.inl rfl) (by omega) HR1.out.rd (by rw [le_length];omega)).mono ?_;rintro e2 w2 ⟨v2,rfl,hb2,hB2⟩;have HE2:=Lib.hid (HE1.out.trans (hB2.mono HE1.out.size));have HR2:=Lib.hid hb2;clear hb2 hB2 HR1 HE1;go_wp2_with fail
 refine (hput.out v2 (le tag 4++le num 4) N 4 w2 (.inl rfl) (by omega) HR2.out.rd (by rw [List.length_append,le_length,le_length];omega)).mono ?_;rintro e3 w3 ⟨v3,rfl,hb3,hB3⟩;have HE3:=Lib.hid (HE2.out.trans (hB3.mono HE2.out.size));have HR3:=Lib.hid (hb3.base HE2.out.size);have HX3:=Lib.hid (hr.out w3 HE3.out);clear hb3 hB3 HR2 HE2;have hln:(le tag 4++le num 4++le N 4).length+bs.length<=100000:=by simp only [List.length_append,le_length];rw [<- HN.out];omega
 have hne:le tag 4++le num 4++le N 4≠[]:=fun e=>by
  have:=congrArg List.length e;simp [le_length] at this
 go_wp2_with (at_builtin;refine wpList_append_rdT rfl _ _ rfl w.heap.size _ _ rfl HR3.out hne _ _ rfl (by rw [HN.out];exact HX3.out) hln HE3.out.size ?_)
 intro v4 w4 hr4 ha4;have HE4:=Lib.hid (appd_belowT HE3.out HR3.out ha4);obtain ⟨front,hfr⟩:∃ front,front=le tag 4++le num 4++le N 4++bs:=⟨_,rfl⟩;have HR4:Hid (BytesT w4 w.heap.size v4 front):=Lib.hid (by rw [hfr];simpa [List.append_assoc] using hr4);have HLEN:Hid ((le tag 4++le num 4++le N 4++bs).length=12+N):=Lib.hid (by simp only [List.length_append,le_length];rw [<- HN.out]);clear hr4 ha4 hln hne HR3 HX3 HE3;rw [<- hfr] at HLEN HPB;clear hfr;go_wp2;go_loopw [8] (fun pv W=>∃ j:Nat,j<=240 - N/\BytesT W w.heap.size pv (front++List.replicate j 0)/\Below w.heap.size w W) (fun pv _=>252 - vlen pv)
 case atStart=>exact ⟨0,Nat.zero_le _,by simpa using HR4.out,HE4.out⟩
 case round=>
  generalize wr=W at *;obtain ⟨j,hj,hb,hB⟩:=hrel;obtain ⟨pa,pc,rfl,hpc1,hpc2⟩:=hb.shape;unfold maxLen at hpc2;have HB:=Lib.hid hb;have HBe:=Lib.hid hB;have hlen:(front++List.replicate j (0:UInt8)).length=12+N+j:=by rw [List.length_append,HLEN.out,List.length_replicate]
  rw [hlen] at HB hpc1 ⊢;have HLN:=Lib.hid hlen;clear hb hB hlen;by_cases hlt2:j < 240 - N
  ·have hsz:=HBe.out.size;have hl100:(front++List.replicate j (0:UInt8)).length<=100000:=by rw [HLN.out];omega
   go_wp2_with (at_builtin;refine wpList_append_byteT rfl _ _ rfl w.heap.size _ _ rfl (HB.out.alloc _) 0 W.heap.size 1 rfl ?c1 hl100 ?c2 ?_)
   case c1=>simp [bv]
   case c2=>simp;omega
   intro v5 w5 hb5 hg5;have HB5:Hid (BytesT w5 w.heap.size v5 (front++List.replicate (j+1) 0)):=Lib.hid (by
    rw [List.replicate_succ',<- List.append_assoc];simpa [List.append_assoc] using hb5)
   have HBe5:Hid (Below w.heap.size w w5):=Lib.hid ((HBe.out.alloc hsz _).grown hg5 (by simp;omega) (fun k hk=>(HB.out.lt k hk).1));have hl5:vlen v5=12+N+j+1:=by
    obtain ⟨a5,c5,rfl,-⟩:=HB5.out.shape;show List.length _=_;rw [List.length_append,HLEN.out,List.length_replicate];omega
   have HL5:=Lib.hid hl5;clear hb5 hg5 hl5;go_wp2;go_roundw
   case rel=>exact ⟨j+1,by omega,HB5.out,HBe5.out⟩
   case measure=>
    rw [HL5.out];show 252 - (12+N+j+1) < 252 - (12+N+j);omega
  ·have hjN:j=240 - N:=by omega
   have HBODY:Hid (BytesT W w.heap.size (.slice pa (12+N+j) pc) body):=Lib.hid (by
    rw [HPB.out,<- hjN];exact HB.out)
   have h252:12+N+j=252:=by omega
   rw [h252] at HBODY ⊢;clear hjN h252;have hsum:=Lib.hid (hsum0.out (.slice pa 252 pc) W HBODY.out.rd);go_wp2_with fail
   refine hsum.out.mono ?_;rintro e w' ⟨rfl,rfl⟩;go_wp2_with fail
   refine (hput.out (.slice pa 252 pc) body crc 4 W (.inl rfl) (by omega) HBODY.out.rd (by rw [HPL.out];omega)).mono ?_;rintro e6 w6 ⟨v6,rfl,hb6,hB6⟩;have HE6:=Lib.hid (HBe.out.trans (hB6.mono HBe.out.size));have HR6:Hid (BytesT w6 w.heap.size v6 page):=Lib.hid (by rw [HMK.out];exact hb6.base HBe.out.size);clear hb6 hB6;go_wp2;go_ret2
   exact ⟨_,rfl,HR6.out,HE6.out⟩
theorem take_one {α:Type} {l:List α} {i:Nat} {x:α} (h:l[i]? = some x):l.take (i+1)=l.take i++[x]:=by
 have hl:=(List.getElem?_eq_some_iff.1 h).1;rw [List.getElem?_eq_getElem hl] at h;rw [List.take_succ_eq_append_getElem hl,Option.some.inj h]
def RdRecs (w:World) (v:Value) (rs:List Rec):Prop:=
 ∃ a cap,v=.slice a rs.length cap/\rs.length<=cap/\cap<=maxLen/\∀ (i:Nat) (r:Rec),rs[i]? = some r->∃ g rv,a=some ⟨g,0,none⟩/\w.cell? ⟨g,i,none⟩=some rv/\Rd w rv r
theorem RdRecs.below {w w':World} {v:Value} {rs:List Rec} (h:RdRecs w v rs) (hb:Below w.heap.size w w'):RdRecs w' v rs:=by
 obtain ⟨a,cap,rfl,h1,h2,h3⟩:=h;refine ⟨a,cap,rfl,h1,h2,fun i r hr=>?_⟩;obtain ⟨g,rv,e1,e2,e3⟩:=h3 i r hr;exact ⟨g,rv,e1,cellBelow hb e2,e3.below hb⟩
def RecsAt (w:World) (base:Nat) (v:Value) (rs:List Rec):Prop:=
 ∃ l:List (Value × Rec),l.map (·.2)=rs/\w.ownsRow base 39 1 v l.length (l.map (·.1))/\∀ p∈l,BytesT w base p.1 p.2
theorem RecsAt.rd {w:World} {base:Nat} {v:Value} {rs:List Rec} (h:RecsAt w base v rs):RdRecs w v rs:=by
 obtain ⟨l,rfl,hr,he⟩:=h;have hl:(l.map (·.2)).length=l.length:=List.length_map _;have hr0:=hr;obtain ⟨_,⟨rfl,h0⟩ | ⟨g,cap,cur,rfl,hg,hh,hc,hm,hs,hx⟩⟩:=hr0
 ·refine ⟨none,0,by rw [hl,h0],by rw [hl];omega,Nat.zero_le _,fun i r hi=>?_⟩;have:=lt_of_get hi;omega
 ·refine ⟨_,cap,by rw [hl],by rw [hl];exact hc,hm,fun i r hi=>?_⟩;rw [List.getElem?_map] at hi;obtain ⟨p,hp,rfl⟩:=Option.map_eq_some_iff.1 hi;refine ⟨g,p.1,rfl,?_,(he p (List.mem_of_getElem? hp)).rd⟩;have:=World.ownsRow.cells hr (g:=g) rfl i p.1 (by rw [List.getElem?_map,hp];rfl);rwa [Addr_add,Nat.zero_add] at this
theorem info_bytes:(Tryz.prog.info? 39).map (fun i=>(i.zero,i.size,i.bytes))=some (some (.slice none 0 0),1,24):=by kernel_rfl
theorem BytesT.block {w:World} {base:Nat} {v:Value} {bs:List UInt8} (h:BytesT w base v bs) {k:Nat} (hk:v.ownBlock=some k):∃ cs fz,w.heap[k]? = some (.cells cs 5 fz):=by
 rcases h with ⟨rfl,_⟩ | ⟨g,cap,cur,fz,rfl,h1,h2,_⟩
 ·cases hk
 ·cases hk;exact ⟨_,_,h2⟩
theorem BytesT.one {w:World} {base:Nat} {v:Value} {bs:List UInt8} (h:BytesT w base v bs):v.oneCell'=true:=by
 rcases h with ⟨rfl,_⟩ | ⟨g,cap,cur,fz,rfl,h1,h2,_⟩<;>rfl
theorem wpList_append_rec {w:World} {ops:Array Oper} {rest:List Oper} {op:Oper} {a:Act} {Q:Exit->Act->World->Prop} (hgd:op.guard=none) (s x:Operand) (ho:op.op=.call { callee:=.builtin .append,args:=#[s,x],argTypes:=#[103,103] }) (base:Nat) (v:Value) (rs:List Rec) (hs:a.eval s=v) (h:RecsAt w base v rs)
 (rv:Value) (r:Rec) (hr:BytesT w base rv r) (c:Nat) (hx:a.eval x=.slice (some ⟨w.heap.size,0,none⟩) 1 c) (hl:rs.length<=100000) (hbase:base<=w.heap.size)
 (k:∀ v' w',RecsAt w' base v' (rs++[r])->Appd v (w.alloc (.cells #[rv] 39)) w' v'->wpList Tryz.prog ops Q rest (a.put op.dst v') w') :
 wpList Tryz.prog ops Q (op::rest) a (w.alloc (.cells #[rv] 39)):=by
 obtain ⟨l,rfl,hrow,he⟩:=h;have hll:l.length<=100000:=by rwa [List.length_map] at hl
 refine wpList_append_at hgd s x 103 ho base 39 _ 1 24 Tryz.underlying103 info_bytes rfl (by decide) v l.length (l.map (·.1)) hs (World.ownsRow.alloc hrow _) ⟨w.heap.size,0,none⟩ 1 c [rv] hx rfl (fun j u hj=>?_) (fun u hu=>by
  rw [List.mem_singleton.1 hu];exact hr.one) (by unfold maxLen;omega) (by omega) (by simp;omega) (fun v' w' h1 h2=>k v' w' ⟨l++[(rv,r)],by simp,by rw [List.map_append,List.length_append];exact h1,fun p hp=>?_⟩ h2)
 ·rw [Addr_add,Nat.zero_add];match j,hj with
  | 0,hj=>cases hj;simp
  | j+1,hj=>cases hj
 ·have hp':BytesT w base p.1 p.2:=by
   rcases List.mem_append.1 hp with hp | hp
   ·exact he p hp
   ·rw [List.mem_singleton.1 hp];exact hr
  obtain ⟨hg,_⟩:=h2;refine hp'.kept (fun y hy=>?_);have hlt:=(hp'.lt y hy).2;refine (hg.block y (by simp;omega) (fun e=>?_)).trans ((MapKept.heap_alloc w _).2 y hlt);obtain ⟨cs,fz,hb⟩:=hp'.block hy;obtain ⟨_,⟨h1,_⟩ | ⟨g,cap,cur,hv,_,hh,_⟩⟩:=hrow
  ·rw [h1] at e;cases e
  ·rw [hv] at e;cases e;rw [hb] at hh;cases hh
def NewRecs (w:World) (rs:List Rec) (e:Ending) (w':World):Prop:=∃ v,e=.returned v/\RdRecs w' v rs/\Below w.heap.size w w'
def RecsHead (w:World) (rs:List Rec) (i:Nat) (v:Value) (W:World):Prop:=RecsAt W w.heap.size v (rs.take i)/\Below w.heap.size w W
theorem RecsAt.nil (w:World) (base:Nat):RecsAt w base (.slice none 0 0) []:=⟨[],rfl,World.ownsRow_nil _ _ _ _,fun _ hp=>nomatch hp⟩
set_option maxRecDepth 100000 in
set_option maxHeartbeats 1000000 in
theorem refRecords_any (v:Value) (es:List Edg) (w:World) (hv:RdE w v es) (hl:es.length<=10000):Calls Tryz.prog 48 #[v] w (NewRecs w (es.map Edg.bytes)):=by
 have HV:=Lib.hid hv;obtain ⟨a,cap,rfl,-⟩:=hv;have HALL:Hid ((es.map Edg.bytes).take es.length=es.map Edg.bytes):=Lib.hid (List.take_of_length_le (by simp));generalize hN:es.length=N at *;have HN:=Lib.hid hN;clear hN;go_enter Tryz.func48,Tryz.ntmps48
 go_wp2;go_loopw [3,4] (fun ov iv W=>∃ i:Nat,i<=N/\iv=.int .i64 (i:Int)/\RecsHead w (es.map Edg.bytes) i ov W) (fun _ iv _=>N - (intOf iv).toNat)
 case atStart=>exact ⟨0,Nat.zero_le _,rfl,RecsAt.nil _ _,Below.refl _ _⟩
 case round=>
  generalize u3=ov at *;generalize wr=W at *;obtain ⟨i,hi,rfl,hr,hb⟩:=hrel;have HR:=Lib.hid hr;have HB:=Lib.hid hb;clear hr hb;by_cases hlt:i < N
  ·have hil:i < es.length:=by rw [HN.out];exact hlt
   obtain ⟨x,hx⟩:∃ x,es[i]? = some x:=⟨_,List.getElem?_eq_getElem hil⟩;have HTK:Hid ((es.map Edg.bytes).take (i+1)=(es.map Edg.bytes).take i++[x.bytes]):=Lib.hid (take_one (by rw [List.getElem?_map,hx];rfl));obtain ⟨-,hcc⟩:=rdE_cells (by rw [<- HN.out] at HV;exact HV.out.below HB.out);obtain ⟨be,oe,rfl,q0,q1,q2,q3⟩:=hcc W (Below.refl _ _) i x hx;clear hcc hx hil;have hre:=Lib.hid (refEdge_any x W);have hlr:((es.map Edg.bytes).take i).length<=100000:=by rw [List.length_take];omega
   have HLR:=Lib.hid hlr;clear hlr;generalize x.bytes=xb at *;go_wp2_with fail
   refine hre.out.mono ?_;rintro e W1 ⟨rv,rfl,hb1,hB1⟩;have HB1:=Lib.hid (HB.out.trans (hB1.mono HB.out.size));obtain ⟨ra,rc,rfl,-⟩:=hb1.shape;have HRV1:=Lib.hid (hb1.base HB.out.size);generalize xb.length=xl at *;have HR1:Hid (RecsAt W1 w.heap.size ov ((es.map Edg.bytes).take i)):=Lib.hid (by
    obtain ⟨l,h1,h2,h3⟩:=HR.out;exact ⟨l,h1,ownsRow_below h2 hB1,fun p hp=>(h3 p hp).kept (fun y hy=>hB1.block y ((h3 p hp).lt y hy).2)⟩)
   have hz1:w.heap.size<=W1.heap.size:=HB1.out.size;have hlr:=HLR.out;clear hb1 hB1 hre q0 q1 q2 q3 HR;go_wp2_with (at_builtin;refine wpList_append_rec rfl _ _ rfl w.heap.size ov _ rfl HR1.out (.slice ra xl rc) xb HRV1.out 1 rfl hlr hz1 ?_)
   intro v2 W2 hr2 ha2;have HR2:Hid (RecsAt W2 w.heap.size v2 ((es.map Edg.bytes).take (i+1))):=Lib.hid (by rw [HTK.out];exact hr2);have HB2:Hid (Below w.heap.size w W2):=Lib.hid (appd_below (HB1.out.alloc hz1 _) (fun y hy=>by
    obtain ⟨_,_,h2,_⟩:=HR1.out;exact ownsRow_block h2 y hy) ha2).1
   clear hr2 ha2 hlr;go_wp2;go_roundw
   case rel=>exact ⟨i+1,by omega,by go_num,HR2.out,HB2.out⟩
   case measure=>simp [intOf];omega
  ·obtain rfl:N=i:=by omega
   have HE:Hid (RdRecs W ov (es.map Edg.bytes)):=Lib.hid (by
    have:=HR.out.rd;rwa [HALL.out] at this)
   go_wp2;go_ret;exact ⟨_,rfl,HE.out,HB.out⟩
def NewRd (w:World) (bs:List UInt8) (e:Ending) (w':World):Prop:=∃ v,e=.returned v/\Rd w' v bs/\Below w.heap.size w w'
theorem pages_step {p k:Nat} {rs:List Rec} (hp:1<=p) (hk:p*k < rs.length) (tag:Nat):pagesFrom tag 0 ((pagesOf p rs).take (k+1))=pagesFrom tag 0 ((pagesOf p rs).take k)++mkPage tag k ((rs.drop (p*k)).take p).flatten:=by
 have h1:(pagesOf p rs)[k]? = some ((rs.drop (p*k)).take p).flatten:=by rw [pagesOf_get hp,if_pos hk]
 have hl:=lt_of_get h1;rw [take_one h1,pagesFrom_append,Nat.zero_add,List.length_take,Nat.min_eq_left (by omega)];show _=_++_;rw [show pagesFrom tag k [((rs.drop (p*k)).take p).flatten]=mkPage tag k ((rs.drop (p*k)).take p).flatten++[] from rfl,List.append_nil]
def BytesHead (w:World) (tag p:Nat) (rs:List Rec) (k:Nat) (v:Value) (W:World):Prop:=
 ∃ n,n=(pagesFrom tag 0 ((pagesOf p rs).take k)).length/\W.ownsRow w.heap.size 5 1 v n ((pagesFrom tag 0 ((pagesOf p rs).take k)).map bv)/\Below w.heap.size w W
def PageHead (w:World) (p:Nat) (rs:List Rec) (k j:Nat) (v:Value) (W:World):Prop:=
 ∃ n,n=(((rs.drop (p*k)).take j).flatten).length/\W.ownsRow w.heap.size 5 1 v n ((((rs.drop (p*k)).take j).flatten).map bv)
set_option maxRecDepth 100000 in
set_option maxHeartbeats 1000000 in
theorem refBytes_any (name:Name) (hn:name.size<=1000) (v:Value) (p sz:Nat) (rs:List Rec) (w:World) (hv:RdRecs w v rs) (hs:Sized sz rs) (hl:rs.length<=10000) (hp:p=per sz) (hsz:1<=sz/\sz<=240) :
 Calls Tryz.prog 47 #[.string name,v, .int .i64 (p:Int)] w (NewRd w (pagesFrom (tagOf name) 0 (pagesOf (per sz) rs))):=by
 rw [<- hp];have hp1:1<=p:=by rw [hp];exact per_pos hsz.1 hsz.2
 have hpm:sz*p<=240:=by rw [hp];exact per_mul sz
 have hp240:p<=240:=Nat.le_trans (Nat.le_mul_of_pos_left _ hsz.1) hpm;have HPM:=Lib.hid hpm;have HSZ:=Lib.hid hs;have HV:Hid (∀ W,Below w.heap.size w W->RdRecs W v rs):=Lib.hid (fun W hb=>hv.below hb);have HSH:Hid (Short (pagesOf p rs)):=Lib.hid (by rw [hp];exact pagesOf_short hs);have htag:=Lib.hid (fun W=>refTag_any name W hn);have htl:tagOf name < 4294967296:=crcOf_lt _;have hmake:Hid (∀ (k:Nat) u bs W,Rd W u bs->bs.length<=240->k < 4294967296->Calls Tryz.prog 82 #[.int .u32 (tagOf name:Int), .int .u32 (k:Int),u] W (NewBytesTOk W (mkPage (tagOf name) k bs))):=Lib.hid (fun k u bs W hr hb hk=>refMake_any _ k u bs W hr hb htl hk);have HST:Hid (∀ k,p*k < rs.length->pagesFrom (tagOf name) 0 ((pagesOf p rs).take (k+1))=pagesFrom (tagOf name) 0 ((pagesOf p rs).take k)++mkPage (tagOf name) k ((rs.drop (p*k)).take p).flatten):=Lib.hid (fun k hk=>pages_step hp1 hk _);have HLP:Hid (∀ k,(pagesFrom (tagOf name) 0 ((pagesOf p rs).take k)).length=256*min k (pagesOf p rs).length):=Lib.hid (fun k=>by rw [pagesFrom_length _ (HSH.out.take k),List.length_take]);have HPF:Hid ((pagesOf p rs).length<=rs.length):=Lib.hid (by
  rw [pagesOf_length];rcases Nat.lt_or_ge rs.length (pagesFor p rs.length) with h | h
  ·have:=(pagesFor_lt (n:=rs.length) hp1).1 h;have:=Nat.le_mul_of_pos_left rs.length (show 0 < p by omega);omega
  ·exact h)
 have HEND:Hid (∀ k,rs.length<=p*k->(pagesOf p rs).take k=pagesOf p rs):=Lib.hid (fun k hk=>List.take_of_length_le (by
  rw [pagesOf_length];rcases Nat.lt_or_ge k (pagesFor p rs.length) with h | h
  ·have:=(pagesFor_lt hp1).1 h;omega
  ·exact h))
 obtain ⟨va,vc,rfl,hvc1,hvc2,-⟩:=hv;unfold maxLen at hvc2;clear hp hs hsz htl hpm HSH;generalize tagOf name=tag at *;have hkp:∀ k:Nat,(p:Int)*(k:Int)=((p*k:Nat):Int):=fun k=>by rw [Int.natCast_mul]
 have HKP:=Lib.hid hkp;clear hkp;generalize hN:rs.length=N at *;have HN:=Lib.hid hN;clear hN;go_enter Tryz.func47,Tryz.ntmps47
 go_wp2;go_loopw [7,8] (fun ov kv W=>∃ k:Nat,p*k<=N+p/\k<=N/\kv=.int .i64 (k:Int)/\BytesHead w tag p rs k ov W) (fun _ kv _=>N - (intOf kv).toNat)
 case atStart=>exact ⟨0,by omega,Nat.zero_le _,rfl,0,rfl,World.ownsRow_nil _ _ _ _,Below.refl _ _⟩
 case round=>
  generalize u7=ov at *;generalize wr=W at *;obtain ⟨k,hk1,hk2,rfl,on,hon,hr,hb⟩:=hrel;have HON:=Lib.hid hon;have HR:=Lib.hid hr;have HB:=Lib.hid hb;have hz:w.heap.size<=W.heap.size:=hb.size;have hon2:on<=256*N:=by
   rw [hon,HLP.out];have:=HPF.out;have:min k (pagesOf p rs).length<=N:=by omega
   omega
  clear hr hb hon;have hm1:=HKP.out k;obtain ⟨q,hq⟩:∃ q,q=p*k:=⟨_,rfl⟩;rw [<- hq] at hm1 hk1;have hw1:IntKind.i64.wrap ((q:Nat):Int)=(q:Int):=wrap_in (by omega) (by omega);have HQ:=Lib.hid hq;clear hq;by_cases hlt:q < N
  ·have hm2:(p:Int)*((k:Int)+1)=((q+p:Nat):Int):=by
    rw [Int.mul_add,hm1,Int.mul_one,Int.natCast_add]
   have hw2:IntKind.i64.wrap ((q+p:Nat):Int)=((q+p:Nat):Int):=wrap_in (by omega) (by omega);obtain ⟨qp,hqp⟩:∃ qp,qp=q+p:=⟨_,rfl⟩;rw [<- hqp] at hm2 hw2;have HQP:=Lib.hid hqp;have hqp1:qp<=N+240:=by omega
   have hqp2:q < qp:=by omega
   clear hqp;go_wp2;go_loopw [9,10] (fun bv' iv W1=>∃ j:Nat,q+j<=qp/\q+j<=N/\iv=.int .i64 ((q+j:Nat):Int)/\PageHead w p rs k j bv' W1/\BytesHead w tag p rs k ov W1/\(∀ b,bv'.ownBlock=some b->ov.ownBlock≠some b)) (fun _ iv _=>N - (intOf iv).toNat)
   case atStart=>exact ⟨0,by omega,by omega,rfl,⟨0,by simp,by simpa using World.ownsRow_nil W w.heap.size _ 1⟩,⟨on,HON.out,HR.out,HB.out⟩,fun b hb=>by cases hb⟩
   case round=>
    generalize u9=pv at *;generalize wr=W1 at *;obtain ⟨j,hj1,hj2,rfl,⟨bn,hbn,hbr⟩,⟨on1,hon1,hor1,hob1⟩,hne1⟩:=hrel;have HBN:=Lib.hid hbn;have HBR:=Lib.hid hbr;have HON1:=Lib.hid hon1;have HOR1:=Lib.hid hor1;have HOB1:=Lib.hid hob1;have HNE1:=Lib.hid hne1;have hz1:w.heap.size<=W1.heap.size:=hob1.size;have hbl:bn<=sz*p:=by
     have hs1:Sized sz ((rs.drop (p*k)).take j):=(HSZ.out.drop _).take _;rw [hbn,flat_length hs1];refine Nat.mul_le_mul_left _ ?_;rw [List.length_take];have:=HQP.out;omega
    have hbl240:bn<=240:=Nat.le_trans hbl HPM.out;clear hbn hbr hon1 hor1 hob1 hne1 hbl;by_cases hgo:q+j < N/\q+j < qp
    ·obtain ⟨hg1,hg2⟩:=hgo;have hil:q+j < rs.length:=by rw [HN.out];exact hg1
     obtain ⟨r,hr⟩:∃ r,rs[q+j]? = some r:=⟨_,List.getElem?_eq_getElem hil⟩;obtain ⟨a',c',hve,-,-,hcell⟩:=HV.out W1 HOB1.out;obtain ⟨g,rv,rfl,hc,hrd⟩:∃ g rv,va=some ⟨g,0,none⟩/\W1.cell? ⟨g,q+j,none⟩=some rv/\Rd W1 rv r:=by
      cases hve;exact hcell _ r hr
     have HRD:=Lib.hid hrd;have hrl:r.length=sz:=HSZ.out r (List.mem_of_getElem? hr);have hsz240:sz<=240:=Nat.le_trans (Nat.le_mul_of_pos_right _ hp1) HPM.out;have HTK:Hid (((rs.drop (p*k)).take (j+1)).flatten=((rs.drop (p*k)).take j).flatten++r):=Lib.hid (by
      rw [take_one (x:=r) (by rw [List.getElem?_drop,<- HQ.out];exact hr),List.flatten_append];simp)
     have hlen2:bn+r.length<=100000:=by omega
     have HRL:Hid (r.length=sz):=Lib.hid hrl;clear hve hcell hrd hr hil hrl;go_wp2_with (at_builtin;refine wpList_append_rd rfl _ _ 39 rfl w.heap.size 5 Tryz.underlying39 info_u8 pv bn _ rfl HBR.out _ r rfl HRD.out ?c1 ?c2 ?_)
     case c1=>omega
     case c2=>exact hz1
     intro v2 W2 hr2 hg2' hc2;have HB2:Hid (PageHead w p rs k (j+1) v2 W2):=Lib.hid (by
      refine ⟨bn+r.length,by rw [HTK.out,List.length_append,<- HBN.out],?_⟩;rw [HTK.out,List.map_append,List.map_flatten,List.map_take,List.map_drop];exact hr2)
     have HO2:Hid (BytesHead w tag p rs k ov W2):=Lib.hid ⟨on1,HON1.out,ownsRow_heap HOR1.out (fun y hy=>hg2'.block y (ownBlock_old HOR1.out y hy).1 (fun e=>HNE1.out y e.symm hy)),HOB1.out.grown hg2' hz1 (ownsRow_block HBR.out)⟩;have HNE2:Hid (∀ b,v2.ownBlock=some b->ov.ownBlock≠some b):=Lib.hid (fun b hb he=>by
      rcases hc2 with e | e
      ·rw [e] at hb;exact HNE1.out b hb he
      ·rw [e] at hb;have h1:=Option.some.inj hb;have h2:=(ownBlock_old HOR1.out b he).1;omega)
     clear hr2 hg2' hc2 hc hlen2;go_wp2;go_roundw
     case rel=>exact ⟨j+1,by omega,by omega,by go_num,HB2.out,HO2.out,HNE2.out⟩
     case measure=>simp [intOf];omega
    ·have HPG:Hid (((rs.drop (p*k)).take j).flatten=((rs.drop (p*k)).take p).flatten):=Lib.hid (by
      congr 1;rcases Nat.lt_or_ge (q+j) qp with h | h
      ·have h1:q+j=N:=by omega
       rw [List.take_of_length_le,List.take_of_length_le]
       ·rw [List.length_drop,HN.out,<- HQ.out];have:=HQP.out;omega
       ·rw [List.length_drop,HN.out,<- HQ.out];omega
      ·have:j=p:=by have:=HQP.out;omega
       rw [this])
     have hkn:k < N:=by
      have:=Nat.le_mul_of_pos_left k (show 0 < p by omega);have:=HQ.out;omega
     have hwk:IntKind.u32.wrap (k:Int)=(k:Int):=wraps_u32 _ (by omega) (by omega);have HPR:Hid (Rd W1 pv (((rs.drop (p*k)).take p).flatten)):=Lib.hid (by
      rw [<- HPG.out];have:=HBR.out;rw [HBN.out] at this;exact Rd_own this)
     have HPL:Hid ((((rs.drop (p*k)).take p).flatten).length<=240):=Lib.hid (by rw [<- HPG.out,<- HBN.out];exact hbl240);have HPS:=Lib.hid (HST.out k (by rw [<- HQ.out];exact hlt));have HML:Hid ((mkPage tag k (((rs.drop (p*k)).take p).flatten)).length=256):=Lib.hid (mkPage_length _ _ _ HPL.out);clear HPG;generalize ((rs.drop (p*k)).take p).flatten=pg at *;have hgo':¬ (q+j < N/\q+j < qp):=hgo;clear hgo;by_cases hg1:q+j < N
     all_goals
      first
       | (have hg2:¬ q+j < qp:=fun h=>hgo' ⟨hg1,h⟩)
       | skip
      clear hgo';go_wp2_with fail
      refine (htag.out _).mono ?_;rintro e W2 ⟨rfl,hb2⟩;have HOB2:=Lib.hid (HOB1.out.trans (hb2.mono HOB1.out.size));have HOR2:=Lib.hid (ownsRow_below HOR1.out hb2);have hmk:=Lib.hid (hmake.out k pv pg W2 (HPR.out.below hb2) HPL.out (by omega));clear hb2;go_wp2_with fail
      refine hmk.out.mono ?_;rintro e W3 ⟨pv3,rfl,hb3,hB3⟩;have HOB3:=Lib.hid (HOB2.out.trans (hB3.mono HOB2.out.size));have HOR3:=Lib.hid (ownsRow_below HOR2.out hB3);have HR3:=Lib.hid hb3.rd;have hz3:w.heap.size<=W3.heap.size:=HOB3.out.size;clear hb3 hB3 hmk HOB2 HOR2;have hon1':on1<=256*N:=by
       rw [HON1.out,HLP.out];have:=HPF.out;have:min k (pagesOf p rs).length<=N:=by omega
       omega
      go_wp2_with (at_builtin;refine wpList_append_rd rfl _ _ 39 rfl w.heap.size 5 Tryz.underlying39 info_u8 ov on1 _ rfl HOR3.out _ (mkPage tag k pg) rfl HR3.out ?c1 ?c2 ?_)
      case c1=>rw [HML.out];omega
      case c2=>exact hz3
      intro v4 W4 hr4 hg4 _;have HH4:Hid (BytesHead w tag p rs (k+1) v4 W4):=Lib.hid (by
       refine ⟨on1+(mkPage tag k pg).length,by rw [HPS.out,List.length_append,<- HON1.out],?_,HOB3.out.grown hg4 hz3 (ownsRow_block HOR3.out)⟩;rw [HPS.out,List.map_append];exact hr4)
      have HK1:Hid (p*(k+1)<=N+p):=Lib.hid (by
       rw [Nat.mul_add,Nat.mul_one,<- HQ.out];omega)
      clear hr4 hg4;go_wp2;go_roundw
      case rel=>exact ⟨k+1,HK1.out,by omega,by go_num,HH4.out⟩
      case measure=>simp [intOf];omega
  ·have HE:Hid (Rd W ov (pagesFrom tag 0 (pagesOf p rs))):=Lib.hid (by
    have h1:=HR.out;rw [HON.out] at h1;have h2:=Rd_own h1;rwa [HEND.out k (by rw [<- HQ.out];omega)] at h2)
   go_wp2;go_ret;exact ⟨_,rfl,HE.out,HB.out⟩
end
section
open Go.RowKit Go.Maps Go.MapKept
set_option maxRecDepth 100000 in
set_option maxHeartbeats 4000000 in
theorem refName_any (c:UInt8) (k:Nat) (hk:k<=1048576) (w:World) :
 Calls Tryz.prog 39 #[.int .u8 (c.toNat:Int), .int .i64 (k:Int)] w fun e w'=>e=.returned (.string (sName c k))/\Below w.heap.size w w':=by
 have hit:Hid (∀ W,Below w.heap.size w W->Calls Tryz.prog 75 #[.int .i64 (k:Int)] W fun e w'=>∃ v,e=.returned v/\Below W.heap.size W w'/\v=.string ⟨(Lib.decDigits k).toArray⟩):=Lib.hid (fun W hW=>by
  refine (refDigits_any k hk W).mono ?_;rintro e w' ⟨rfl,rfl⟩;exact ⟨_,rfl,Below.refl _ _,rfl⟩)
 have hk0:¬ (k:Int) < 0:=by omega
 have HT:Hid ((⟨#[c,46]⟩:ByteArray)++⟨(Lib.decDigits k).toArray⟩=sName c k):=Lib.hid (by
  unfold sName;apply ByteArray.ext;simp)
 have hcv:Hid (∀ (W:World) (g:Nat),W.cell? ⟨g,0,none⟩=some (.int .u8 (c.toNat:Int))->W.cell? ⟨g,1,none⟩=some (.int .u8 46)->Sem.run Tryz.prog (convert 39 9 (.slice (some ⟨g,0,none⟩) 2 2)) W=.ok (.string ⟨#[c,46]⟩) W):=Lib.hid (fun W g h0 h1=>
  run_convert_bytes_back (P:=Tryz.prog) _ 39 9 5 ⟨g,0,none⟩ 2 [c,46] Tryz.underlying39 Tryz.underlying5 Tryz.underlying9 (fun j hj=>by
   rw [Addr_add,Nat.zero_add];match j,hj with
   | 0,_=>exact h0
   | 1,_=>exact h1))
 have hdl:(Lib.decDigits k).length<=7:=(digits_lt 6 k (by omega)).2;generalize Lib.decDigits k=dg at *;generalize sName c k=full at *;go_enter Tryz.func39,Tryz.ntmps39
 go_wp2;refine wp_region_relB (Below w.heap.size w) (nameRel c k dg full) (by kernel_rfl) (by kernel_rfl) (Below.refl _ _).drew (fun w1 w2 h1 h2=>h1.trans (h2.mono h1.size)) nameRel_on ?_ ?_
 ·intro i o ho a W hC hdep;match i,ho with
  | 0,ho=>
    cases ho;have h0:=hdep.old 0 rfl rfl;refine step_val (v:=.int .u8 (c.toNat:Int)) (w':=W) ?_ (Below.refl _ _) rfl;go_simp
  | 1,ho=>
    cases ho;obtain ⟨v7,h7,rfl⟩:=hdep.get 0 rfl rfl rfl;refine step_val (v:=.slice (some ⟨W.heap.size,0,none⟩) 2 2) (w':=W.alloc (.cells #[.int .u8 (c.toNat:Int), .int .u8 46] 5)) ?_ ((Below.refl _ _).alloc (Nat.le_refl _) _) ⟨W.heap.size,rfl,by simp,by simp⟩;go_simp
  | 2,ho=>
    cases ho;obtain ⟨v8,h8,g,rfl,c0,c1⟩:=hdep.get 1 rfl rfl rfl;have hc:=hcv.out W g c0 c1;refine step_val (v:=.string ⟨#[c,46]⟩) (w':=W) ?_ (Below.refl _ _) rfl;go_simp
  | 3,ho=>
    cases ho;have h1:=hdep.old 1 rfl rfl;refine step_val (v:=.int .i64 (k:Int)) (w':=W) ?_ (Below.refl _ _) rfl;go_simp
  | 4,ho=>
    cases ho;obtain ⟨v10,h10,rfl⟩:=hdep.get 3 rfl rfl rfl;refine step_call (f:=75) (args:=#[.int .i64 (k:Int)]) ?_ (hit.out W hC);go_simp
  | 5,ho=>
    cases ho;obtain ⟨v9,h9,rfl⟩:=hdep.get 2 rfl rfl rfl;obtain ⟨v11,h11,rfl⟩:=hdep.get 4 rfl rfl rfl;refine step_val (v:=.string full) (w':=W) ?_ (Below.refl _ _) rfl;rw [<- HT.out];go_simp;omega
  | 6,ho=>
    cases ho;obtain ⟨v12,h12,rfl⟩:=hdep.get 5 rfl rfl rfl;refine step_val (v:=.string full) (w':=W) ?_ (Below.refl _ _) rfl;go_simp
  | _+7,ho=>cases ho
 ·intro listed a W inv hr;have HB:=Lib.hid inv.cls;obtain ⟨vs,hl,hp,rfl⟩:=rel_end inv hr (by kernel_rfl) (by kernel_rfl);match vs,hl with
  | [v0,v1,v2,v3,v4,v5,v6],_=>
    obtain rfl:=hp 6 v6 rfl;clear hp hl hr inv;simp only [relPut];go_simp;go_wp2;go_ret;exact ⟨rfl,HB.out⟩
set_option maxRecDepth 100000 in
set_option maxHeartbeats 2000000 in
theorem refVert_any (e:Vrt) (w:World):Calls Tryz.prog 84 #[.agg #[.int .u32 (e.r.toNat:Int), .int .u32 (e.l.toNat:Int), .int .u32 (e.g.toNat:Int)]] w (NewBytesT w e.bytes):=by
 have hput:=Lib.hid refPut_any;have h1:=e.r.toNat_lt;have h2:=e.l.toNat_lt;have h3:=e.g.toNat_lt;have HBY:Hid (e.bytes=le e.r.toNat 4++le e.l.toNat 4++le e.g.toNat 4):=Lib.hid rfl;generalize e.bytes=bs at *;generalize e.r.toNat=et at *;generalize e.l.toNat=eh at *;generalize e.g.toNat=ex at *;go_enter Tryz.func84,Tryz.ntmps84
 have HB0:Hid (Below w.heap.size w (w.alloc (.cells #[.int .u32 (et:Int), .int .u32 (eh:Int), .int .u32 (ex:Int)] 55))):=Lib.hid ((Below.refl _ _).alloc (Nat.le_refl _) _);have HX0:Hid ((w.alloc (.cells #[.int .u32 (et:Int), .int .u32 (eh:Int), .int .u32 (ex:Int)] 55)).heap[w.heap.size]? = some (.cells #[.int .u32 (et:Int), .int .u32 (eh:Int), .int .u32 (ex:Int)] 55)):=Lib.hid (heap_alloc_new w _);have hr0:=Lib.hid (BytesT.nil (w.alloc (.cells #[.int .u32 (et:Int), .int .u32 (eh:Int), .int .u32 (ex:Int)] 55)) w.heap.size).rd;go_wp2_with fail
 generalize w.alloc (.cells #[.int .u32 (et:Int), .int .u32 (eh:Int), .int .u32 (ex:Int)] 55)=w0 at *;have cellsOf:Hid (∀ W,Below w0.heap.size w0 W->W.cell? ⟨w.heap.size,0,none⟩=some (.int .u32 (et:Int))/\W.cell? ⟨w.heap.size,1,none⟩=some (.int .u32 (eh:Int))/\W.cell? ⟨w.heap.size,2,none⟩=some (.int .u32 (ex:Int))):=Lib.hid (fun W hW=>by
  have hx:=(hW.block _ (lt_heap HX0.out)).trans HX0.out;refine ⟨?_,?_,?_⟩<;>rw [cells_cell hx]<;>rfl)
 refine (hput.out (.slice none 0 0) [] et 4 w0 (.inl rfl) (by omega) hr0.out (by decide)).mono ?_;rintro e1 w1 ⟨v1,rfl,hb1,hB1⟩;have HE1:=Lib.hid hB1;have HR1:=Lib.hid hb1;obtain ⟨-,k1,-⟩:=cellsOf.out w1 HE1.out;clear hb1 hB1;go_wp2_with fail
 refine (hput.out v1 (le et 4) eh 4 w1 (.inl rfl) (by omega) HR1.out.rd (by rw [le_length];omega)).mono ?_;rintro e2 w2 ⟨v2,rfl,hb2,hB2⟩;have HE2:=Lib.hid (HE1.out.trans (hB2.mono HE1.out.size));have HR2:=Lib.hid hb2;obtain ⟨-,-,k2⟩:=cellsOf.out w2 HE2.out;clear hb2 hB2 k1;go_wp2_with fail
 refine (hput.out v2 (le et 4++le eh 4) ex 4 w2 (.inl rfl) (by omega) HR2.out.rd (by rw [List.length_append,le_length,le_length];omega)).mono ?_;rintro e4 w4 ⟨v4,rfl,hb4,hB4⟩;have HE4:=Lib.hid (HE2.out.trans (hB4.mono HE2.out.size));have HR4:Hid (BytesT w4 w.heap.size v4 bs):=Lib.hid (by rw [HBY.out];exact hb4.base (Nat.le_trans HB0.out.size HE2.out.size));clear hb4 hB4 k2;go_wp2;go_ret;exact ⟨_,rfl,HR4.out,HB0.out.trans (HE4.out.mono HB0.out.size)⟩
theorem rdV_cells {w:World} {a:Option Addr} {n cap:Nat} {vs:List Vrt} (h:RdV w (.slice a n cap) vs):n=vs.length/\∀ W,Below w.heap.size w W->∀ (i:Nat) (x:Vrt),vs[i]? = some x->∃ b off,a=some ⟨b,off,none⟩/\W.cell? ⟨b,off+i*3,none⟩=some (.int .u32 (x.r.toNat:Int))/\W.cell? ⟨b,off+i*3+1,none⟩=some (.int .u32 (x.l.toNat:Int))/\W.cell? ⟨b,off+i*3+2,none⟩=some (.int .u32 (x.g.toNat:Int)):=by
 have hn:n=vs.length:=by
  obtain ⟨a',cap',he,_⟩:=h;cases he;rfl
 refine ⟨hn,fun W hB i x hx=>?_⟩;obtain ⟨a',cap',hve,hce⟩:=h.below hB;cases hve;rcases hce with h0 | ⟨b,off,h1,hc⟩
 ·have:=lt_of_get hx;omega
 ·exact ⟨b,off,h1,hc i x hx⟩
set_option maxRecDepth 100000 in
set_option maxHeartbeats 1000000 in
theorem refRecordsV_any (v:Value) (es:List Vrt) (w:World) (hv:RdV w v es) (hl:es.length<=10000):Calls Tryz.prog 49 #[v] w (NewRecs w (es.map Vrt.bytes)):=by
 have HV:=Lib.hid hv;obtain ⟨a,cap,rfl,-⟩:=hv;have HALL:Hid ((es.map Vrt.bytes).take es.length=es.map Vrt.bytes):=Lib.hid (List.take_of_length_le (by simp));generalize hN:es.length=N at *;have HN:=Lib.hid hN;clear hN;go_enter Tryz.func49,Tryz.ntmps49
 go_wp2;go_loopw [3,4] (fun ov iv W=>∃ i:Nat,i<=N/\iv=.int .i64 (i:Int)/\RecsHead w (es.map Vrt.bytes) i ov W) (fun _ iv _=>N - (intOf iv).toNat)
 case atStart=>exact ⟨0,Nat.zero_le _,rfl,RecsAt.nil _ _,Below.refl _ _⟩
 case round=>
  generalize u3=ov at *;generalize wr=W at *;obtain ⟨i,hi,rfl,hr,hb⟩:=hrel;have HR:=Lib.hid hr;have HB:=Lib.hid hb;clear hr hb;by_cases hlt:i < N
  ·have hil:i < es.length:=by rw [HN.out];exact hlt
   obtain ⟨x,hx⟩:∃ x,es[i]? = some x:=⟨_,List.getElem?_eq_getElem hil⟩;have HTK:Hid ((es.map Vrt.bytes).take (i+1)=(es.map Vrt.bytes).take i++[x.bytes]):=Lib.hid (take_one (by rw [List.getElem?_map,hx];rfl));obtain ⟨-,hcc⟩:=rdV_cells (by rw [<- HN.out] at HV;exact HV.out.below HB.out);obtain ⟨be,oe,rfl,q0,q1,q2⟩:=hcc W (Below.refl _ _) i x hx;clear hcc hx hil;have hre:=Lib.hid (refVert_any x W);have hlr:((es.map Vrt.bytes).take i).length<=100000:=by rw [List.length_take];omega
   have HLR:=Lib.hid hlr;clear hlr;generalize x.bytes=xb at *;go_wp2_with fail
   refine hre.out.mono ?_;rintro e W1 ⟨rv,rfl,hb1,hB1⟩;have HB1:=Lib.hid (HB.out.trans (hB1.mono HB.out.size));obtain ⟨ra,rc,rfl,-⟩:=hb1.shape;have HRV1:=Lib.hid (hb1.base HB.out.size);generalize xb.length=xl at *;have HR1:Hid (RecsAt W1 w.heap.size ov ((es.map Vrt.bytes).take i)):=Lib.hid (by
    obtain ⟨l,h1,h2,h3⟩:=HR.out;exact ⟨l,h1,ownsRow_below h2 hB1,fun p hp=>(h3 p hp).kept (fun y hy=>hB1.block y ((h3 p hp).lt y hy).2)⟩)
   have hz1:w.heap.size<=W1.heap.size:=HB1.out.size;have hlr:=HLR.out;clear hb1 hB1 hre q0 q1 q2 HR;go_wp2_with (at_builtin;refine wpList_append_rec rfl _ _ rfl w.heap.size ov _ rfl HR1.out (.slice ra xl rc) xb HRV1.out 1 rfl hlr hz1 ?_)
   intro v2 W2 hr2 ha2;have HR2:Hid (RecsAt W2 w.heap.size v2 ((es.map Vrt.bytes).take (i+1))):=Lib.hid (by rw [HTK.out];exact hr2);have HB2:Hid (Below w.heap.size w W2):=Lib.hid (appd_below (HB1.out.alloc hz1 _) (fun y hy=>by
    obtain ⟨_,_,h2,_⟩:=HR1.out;exact ownsRow_block h2 y hy) ha2).1
   clear hr2 ha2 hlr;go_wp2;go_roundw
   case rel=>exact ⟨i+1,by omega,by go_num,HR2.out,HB2.out⟩
   case measure=>simp [intOf];omega
  ·obtain rfl:N=i:=by omega
   have HE:Hid (RdRecs W ov (es.map Vrt.bytes)):=Lib.hid (by
    have:=HR.out.rd;rwa [HALL.out] at this)
   go_wp2;go_ret;exact ⟨_,rfl,HE.out,HB.out⟩
theorem VertsAt.rd {w:World} {v:Value} {vs:List Vrt} (h:VertsAt w v vs):RdV w v vs:=by
 obtain ⟨a,cap,rfl,h1,h2,h⟩:=h;refine ⟨a,cap,rfl,h.imp id ?_⟩;rintro ⟨b,off,rfl,hc⟩;refine ⟨b,off,rfl,fun j x hx=>?_⟩;have hl:=lt_of_get hx;rw [List.getElem?_eq_getElem hl] at hx;obtain rfl:=Option.some.inj hx;exact hc j hl
theorem cell_of_heap {w w':World} {b o:Nat} (h:w'.heap[b]? = w.heap[b]?):w'.cell? ⟨b,o,none⟩=w.cell? ⟨b,o,none⟩:=by
 unfold World.cell?;rw [h]
theorem RdE.other {w w':World} {v:Value} {es:List Edg} (h:RdE w v es) (hk:∀ b,v.ownBlock=some b->w'.heap[b]? = w.heap[b]?):RdE w' v es:=by
 obtain ⟨a,cap,rfl,h⟩:=h;refine ⟨a,cap,rfl,h.imp id ?_⟩;rintro ⟨b,off,rfl,hc⟩;have he:∀ o,w'.cell? ⟨b,o,Option.none⟩=w.cell? ⟨b,o,Option.none⟩:=fun o=>cell_of_heap (hk b rfl);refine ⟨b,off,rfl,fun j x hx=>?_⟩;obtain ⟨q0,q1,q2,q3⟩:=hc j x hx;exact ⟨(he _).trans q0,(he _).trans q1,(he _).trans q2,(he _).trans q3⟩
theorem RdV.other {w w':World} {v:Value} {vs:List Vrt} (h:RdV w v vs) (hk:∀ b,v.ownBlock=some b->w'.heap[b]? = w.heap[b]?):RdV w' v vs:=by
 obtain ⟨a,cap,rfl,h⟩:=h;refine ⟨a,cap,rfl,h.imp id ?_⟩;rintro ⟨b,off,rfl,hc⟩;have he:∀ o,w'.cell? ⟨b,o,none⟩=w.cell? ⟨b,o,none⟩:=fun o=>cell_of_heap (hk b rfl);refine ⟨b,off,rfl,fun j x hx=>?_⟩;obtain ⟨q0,q1,q2⟩:=hc j x hx;exact ⟨(he _).trans q0,(he _).trans q1,(he _).trans q2⟩
def NewGen (w:World) (es:List Edg) (vs:List Vrt) (e:Ending) (w':World):Prop:=∃ gv hv,e=.returned (.agg #[gv,hv])/\RdE w' gv es/\RdV w' hv vs/\Below w.heap.size w w'/\(∀ b,gv.ownBlock=some b->w.heap.size<=b)/\∀ b,hv.ownBlock=some b->w.heap.size<=b
set_option maxRecDepth 100000 in
set_option maxHeartbeats 2000000 in
theorem refOf_any (ev vv:Value) (es:List Edg) (vs:List Vrt) (w:World) (he:RdE w ev es) (hv:RdV w vv vs) (h1:es.length<=1000) (h2:vs.length<=1000):Calls Tryz.prog 13 #[ev,vv] w (NewGen w (bestOf false es) vs):=by
 have HB0:Hid (Below w.heap.size w (w.alloc (.cells #[.slice none 0 0, .slice none 0 0] 34))):=Lib.hid ((Below.refl _ _).alloc (Nat.le_refl _) _);have HX0:Hid ((w.alloc (.cells #[.slice none 0 0, .slice none 0 0] 34)).heap[w.heap.size]? = some (.cells #[.slice none 0 0, .slice none 0 0] 34)):=Lib.hid (heap_alloc_new w _);have HSO:=Lib.hid (sorted_any ev es false _ (he.below HB0.out) (by omega));have HV:=Lib.hid hv;have hsz0:w.heap.size < (w.alloc (.cells #[.slice none 0 0, .slice none 0 0] 34)).heap.size:=by simp
 clear he hv;go_enter Tryz.func13,Tryz.ntmps13
 go_wp2_with fail
 generalize w.alloc (.cells #[.slice none 0 0, .slice none 0 0] 34)=W0 at *;refine HSO.out.mono ?_;rintro e w1 ⟨gv,rfl,hg1,hb1⟩;obtain ⟨ga,gn,gc,rfl⟩:∃ a n c,gv=.slice a n c:=by
  obtain ⟨a,c,h,-⟩:=rdE_own hg1;exact ⟨a,_,c,h⟩
 have HGB:Hid (∀ b,(Value.slice ga gn gc).ownBlock=some b->w.heap.size < b):=Lib.hid (fun b hb=>by have:=ownsRow_block hg1 b hb;omega);have HG1:=Lib.hid (rdE_own hg1);have HB1:=Lib.hid hb1;have HV1:=Lib.hid ((HV.out.below HB0.out).below hb1);clear hg1 hb1 HSO;go_wp2_with
  (refine wpList_append_verts (w:=w1) (by first | rfl | (simp [Region.wanted,yielded];done)) _ _ rfl rfl _ vs rfl HV1.out (by omega) (fun v2 w2 HVs HVo HB2=>?_)
   obtain ⟨va,vn,vc,hvsh⟩:∃ a n c,v2=.slice a n c:=by
    obtain ⟨a,c,h,-⟩:=HVs.out;exact ⟨a,_,c,h⟩
   subst hvsh;have HX2:Hid (w2.heap[w.heap.size]? = some (.cells #[.slice none 0 0, .slice none 0 0] 34)):=Lib.hid (by
    rw [HB2.out.block _ (Nat.lt_of_lt_of_le hsz0 HB1.out.size),HB1.out.block _ hsz0];exact HX0.out)
   have hbl:w.heap.size < w2.heap.size:=(Array.getElem?_eq_some_iff.1 HX2.out).1;have k0:w2.cell? ⟨w.heap.size,0,none⟩=some (.slice none 0 0):=by rw [cells_cell HX2.out];rfl
   have k1:w2.cell? ⟨w.heap.size,1,none⟩=some (.slice none 0 0):=by rw [cells_cell HX2.out];rfl
   have z0:=cells_frozen HX2.out 0;have z1:=cells_frozen HX2.out 1;have HY:Hid (((w2.setCell ⟨w.heap.size,0,none⟩ (.slice ga gn gc)).setCell ⟨w.heap.size,1,none⟩ (.slice va vn vc)).heap[w.heap.size]? = some (.cells #[.slice ga gn gc, .slice va vn vc] 34)):=Lib.hid (by
    rw [cells_set (cells_set HX2.out 0 (.slice ga gn gc)) 1 (.slice va vn vc)];rfl)
   have HBE:Hid (Below w.heap.size w ((w2.setCell ⟨w.heap.size,0,none⟩ (.slice ga gn gc)).setCell ⟨w.heap.size,1,none⟩ (.slice va vn vc))):=Lib.hid (((HB0.out.trans ((HB1.out.trans (HB2.out.mono HB1.out.size)).mono HB0.out.size)).setCell (Nat.le_refl _) _).setCell (Nat.le_refl _) _);have HGE:Hid (RdE ((w2.setCell ⟨w.heap.size,0,none⟩ (.slice ga gn gc)).setCell ⟨w.heap.size,1,none⟩ (.slice va vn vc)) (.slice ga gn gc) (bestOf false es)):=Lib.hid ((HG1.out.below HB2.out).other (fun b hb=>by
    have:=HGB.out b hb;rw [Below.heap_setCell _ _ _ _ (show b≠w.heap.size by omega),Below.heap_setCell _ _ _ _ (show b≠w.heap.size by omega)]))
   have HVE:Hid (RdV ((w2.setCell ⟨w.heap.size,0,none⟩ (.slice ga gn gc)).setCell ⟨w.heap.size,1,none⟩ (.slice va vn vc)) (.slice va vn vc) vs):=Lib.hid (HVs.out.rd.other (fun b hb=>by
    have h1:=HVo.out b hb;have h2:=HB1.out.size;rw [Below.heap_setCell _ _ _ _ (show b≠w.heap.size by omega),Below.heap_setCell _ _ _ _ (show b≠w.heap.size by omega)]))
   clear HX0)
 generalize ((w2.setCell ⟨w.heap.size,0,none⟩ (.slice ga gn gc)).setCell ⟨w.heap.size,1,none⟩ (.slice va vn vc))=w3 at *;have q0:w3.cell? ⟨w.heap.size,0,none⟩=some (.slice ga gn gc):=by rw [cells_cell HY.out];rfl
 have q1:w3.cell? ⟨w.heap.size,1,none⟩=some (.slice va vn vc):=by rw [cells_cell HY.out];rfl
 exact bodyPost_ret (v:=.agg #[.slice ga gn gc, .slice va vn vc]) (by simp [results,Tryz.results13,go_sem,q0,q1]) rfl ⟨_,_,rfl,HGE.out,HVE.out,HBE.out,fun b hb=>Nat.le_of_lt (HGB.out b hb),fun b hb=>Nat.le_trans (Nat.le_trans (Nat.le_of_lt hsz0) HB1.out.size) (HVo.out b hb)⟩
theorem ofL_snoc (b:Bool) (k:Nat) (l:List Edg) (x:Edg):ofL b k (l++[x])=ofL b k l++(if end1 b x=k then [x] else []):=by
 unfold ofL;rw [List.filter_append,List.filter_cons,List.filter_nil];by_cases h:end1 b x=k
 ·rw [if_pos (decide_eq_true h),if_pos h]
 ·rw [if_neg (by simpa using h),if_neg h]
set_option maxRecDepth 100000 in
set_option maxHeartbeats 4000000 in
theorem refOut_any (gv hv:Value) (es:List Edg) (k:Nat) (w:World) (hg:RdE w gv es) (hl:es.length<=1000):Calls Tryz.prog 25 #[.agg #[gv,hv], .int .u32 (k:Int)] w (NewEdges w (ofL false k es)):=by
 have HG:=Lib.hid hg;obtain ⟨E,hE⟩:∃ E,E=es.length:=⟨_,rfl⟩;obtain ⟨ga,gc,hgv,-⟩:=hg;rw [<- hE] at hgv hl;subst hgv;obtain ⟨-,hcells⟩:=rdE_cells HG.out;have HC:=Lib.hid hcells;have HX:Hid (∀ i,i < E->∃ x,es[i]? = some x):=Lib.hid (fun i hi=>⟨_,List.getElem?_eq_getElem (by rw [<- hE];exact hi)⟩);have HALL:Hid (es.take E=es):=Lib.hid (by rw [hE];exact List.take_length);have HTK:Hid (∀ i x,es[i]? = some x->ofL false k (es.take (i+1))=ofL false k (es.take i)++(if end1 false x=k then [x] else [])):=Lib.hid (fun i x hx=>by rw [take_snoc hx,ofL_snoc]);have HLE:Hid (∀ i,(ofL false k (es.take i)).length<=1000):=Lib.hid (fun i=>Nat.le_trans (List.length_filter_le _ _) (by rw [List.length_take];omega));have HB0:Hid (Below w.heap.size w (w.alloc (.cells #[.slice ga E gc,hv] 34))):=Lib.hid ((Below.refl _ _).alloc (Nat.le_refl _) _);have HQ0:Hid ((w.alloc (.cells #[.slice ga E gc,hv] 34)).heap[w.heap.size]? = some (.cells #[.slice ga E gc,hv] 34)):=Lib.hid (heap_alloc_new w _);clear hE hcells;go_enter Tryz.func25,Tryz.ntmps25
 go_wp2;generalize w.alloc (.cells #[.slice ga E gc,hv] 34)=W0 at *;have HK:Hid (∀ W,Below W0.heap.size W0 W->W.cell? ⟨w.heap.size,0,none⟩=some (.slice ga E gc)):=Lib.hid (fun W hW=>by
  have hx:=(hW.block _ (lt_heap HQ0.out)).trans HQ0.out;rw [cells_cell hx];rfl)
 obtain ⟨bb,hbb⟩:∃ bb,bb=w.heap.size:=⟨_,rfl⟩;rw [<- hbb] at HK ⊢;have HBB:=Lib.hid hbb;clear hbb;go_loopw [5,6] (fun v iv W=>∃ i:Nat,i<=E/\iv=.int .i64 (i:Int)/\ownsEdges W W0.heap.size v (ofL false k (es.take i))/\Below W0.heap.size W0 W) (fun _ iv _=>E - (intOf iv).toNat)
 case atStart=>exact ⟨0,Nat.zero_le _,rfl,World.ownsRow_nil _ _ _ _,Below.refl _ _⟩
 case round=>
  generalize u5=v at *;generalize wr=W at *;obtain ⟨i,hi,rfl,hv1,hb1⟩:=hrel;have HV:=Lib.hid hv1;have HB:=Lib.hid hb1;clear hv1 hb1;have c0:=HK.out W HB.out;by_cases hlt:i < E
  ·obtain ⟨x,hx⟩:=HX.out i hlt;have HTX:=Lib.hid (HTK.out i x hx);obtain ⟨xb,xo,rfl,e0,e1,e2,e3⟩:=HC.out W (HB0.out.trans (HB.out.mono HB0.out.size)) i x hx;clear hx;by_cases hend:x.t.toNat=k
   ·subst hend;have hlv:(ofL false x.t.toNat (es.take i)).length<=100000:=Nat.le_trans (HLE.out i) (by decide);have hs8:W0.heap.size<=W.heap.size:=HB.out.size;have HTX2:Hid (ofL false x.t.toNat (es.take (i+1))=ofL false x.t.toNat (es.take i)++[x]):=Lib.hid (by rw [HTX.out,if_pos];rfl);go_wp2_with (at_builtin;refine wpList_append_edge rfl _ _ rfl W0.heap.size _ _ rfl HV.out x 1 rfl hlv hs8 ?_)
    intro v2 w2 hv2 ha2;rw [<- HTX2.out] at hv2;have HV2:=Lib.hid hv2;have HB2:=Lib.hid (appd_below (HB.out.alloc hs8 _) (fun y hy=>(ownBlock_old HV.out y hy).2) ha2).1;clear hv2 ha2 e0 e1 e2 e3 c0;go_wp2;go_roundw
    case rel=>exact ⟨i+1,by omega,by go_num,HV2.out,HB2.out⟩
    case measure=>simp [intOf];omega
   ·have hne:¬ ((x.t.toNat:Int)=(k:Int)):=by omega
    have hnd:decide ((x.t.toNat:Int)=(k:Int))=false:=decide_eq_false hne;have hnb:((x.t.toNat:Int) == (k:Int))=false:=by rw [beq_eq_false_iff_ne];exact hne
    have HTX2:Hid (ofL false k (es.take (i+1))=ofL false k (es.take i)):=Lib.hid (by
     have h1:¬ end1 false x=k:=hend;rw [HTX.out,if_neg h1,List.append_nil])
    clear hend;go_wp2;go_roundw
    case rel=>exact ⟨i+1,by omega,by go_num,by rw [HTX2.out];exact HV.out,HB.out⟩
    case measure=>simp [intOf];omega
  ·obtain rfl:E=i:=by omega
   have HVE:Hid (ownsEdges W w.heap.size v (ofL false k es)):=Lib.hid (by
    have h1:=HV.out;rw [HALL.out] at h1;exact ownsRow_base h1 HB0.out.size)
   have HBE:=Lib.hid (HB0.out.trans (HB.out.mono HB0.out.size));clear HV;go_wp2;go_ret;exact ⟨_,rfl,HVE.out,HBE.out⟩
set_option maxRecDepth 100000 in
set_option maxHeartbeats 4000000 in
theorem refIn_any (gv hv:Value) (es:List Edg) (k:Nat) (w:World) (hg:RdE w gv es) (hl:es.length<=1000):Calls Tryz.prog 26 #[.agg #[gv,hv], .int .u32 (k:Int)] w (NewEdges w (ofL true k es)):=by
 have HG:=Lib.hid hg;obtain ⟨E,hE⟩:∃ E,E=es.length:=⟨_,rfl⟩;obtain ⟨ga,gc,hgv,-⟩:=hg;rw [<- hE] at hgv hl;subst hgv;obtain ⟨-,hcells⟩:=rdE_cells HG.out;have HC:=Lib.hid hcells;have HX:Hid (∀ i,i < E->∃ x,es[i]? = some x):=Lib.hid (fun i hi=>⟨_,List.getElem?_eq_getElem (by rw [<- hE];exact hi)⟩);have HALL:Hid (es.take E=es):=Lib.hid (by rw [hE];exact List.take_length);have HTK:Hid (∀ i x,es[i]? = some x->ofL true k (es.take (i+1))=ofL true k (es.take i)++(if end1 true x=k then [x] else [])):=Lib.hid (fun i x hx=>by rw [take_snoc hx,ofL_snoc]);have HLE:Hid (∀ i,(ofL true k (es.take i)).length<=1000):=Lib.hid (fun i=>Nat.le_trans (List.length_filter_le _ _) (by rw [List.length_take];omega));have HB0:Hid (Below w.heap.size w (w.alloc (.cells #[.slice ga E gc,hv] 34))):=Lib.hid ((Below.refl _ _).alloc (Nat.le_refl _) _);have HQ0:Hid ((w.alloc (.cells #[.slice ga E gc,hv] 34)).heap[w.heap.size]? = some (.cells #[.slice ga E gc,hv] 34)):=Lib.hid (heap_alloc_new w _);clear hE hcells;go_enter Tryz.func26,Tryz.ntmps26
 go_wp2;generalize w.alloc (.cells #[.slice ga E gc,hv] 34)=W0 at *;have HK:Hid (∀ W,Below W0.heap.size W0 W->W.cell? ⟨w.heap.size,0,none⟩=some (.slice ga E gc)):=Lib.hid (fun W hW=>by
  have hx:=(hW.block _ (lt_heap HQ0.out)).trans HQ0.out;rw [cells_cell hx];rfl)
 obtain ⟨bb,hbb⟩:∃ bb,bb=w.heap.size:=⟨_,rfl⟩;rw [<- hbb] at HK ⊢;have HBB:=Lib.hid hbb;clear hbb;go_loopw [5,6] (fun v iv W=>∃ i:Nat,i<=E/\iv=.int .i64 (i:Int)/\ownsEdges W W0.heap.size v (ofL true k (es.take i))/\Below W0.heap.size W0 W) (fun _ iv _=>E - (intOf iv).toNat)
 case atStart=>exact ⟨0,Nat.zero_le _,rfl,World.ownsRow_nil _ _ _ _,Below.refl _ _⟩
 case round=>
  generalize u5=v at *;generalize wr=W at *;obtain ⟨i,hi,rfl,hv1,hb1⟩:=hrel;have HV:=Lib.hid hv1;have HB:=Lib.hid hb1;clear hv1 hb1;have c0:=HK.out W HB.out;by_cases hlt:i < E
  ·obtain ⟨x,hx⟩:=HX.out i hlt;have HTX:=Lib.hid (HTK.out i x hx);obtain ⟨xb,xo,rfl,e0,e1,e2,e3⟩:=HC.out W (HB0.out.trans (HB.out.mono HB0.out.size)) i x hx;clear hx;by_cases hend:x.h.toNat=k
   ·subst hend;have hlv:(ofL true x.h.toNat (es.take i)).length<=100000:=Nat.le_trans (HLE.out i) (by decide);have hs8:W0.heap.size<=W.heap.size:=HB.out.size;have HTX2:Hid (ofL true x.h.toNat (es.take (i+1))=ofL true x.h.toNat (es.take i)++[x]):=Lib.hid (by rw [HTX.out,if_pos];rfl);go_wp2_with (at_builtin;refine wpList_append_edge rfl _ _ rfl W0.heap.size _ _ rfl HV.out x 1 rfl hlv hs8 ?_)
    intro v2 w2 hv2 ha2;rw [<- HTX2.out] at hv2;have HV2:=Lib.hid hv2;have HB2:=Lib.hid (appd_below (HB.out.alloc hs8 _) (fun y hy=>(ownBlock_old HV.out y hy).2) ha2).1;clear hv2 ha2 e0 e1 e2 e3 c0;go_wp2;go_roundw
    case rel=>exact ⟨i+1,by omega,by go_num,HV2.out,HB2.out⟩
    case measure=>simp [intOf];omega
   ·have hne:¬ ((x.h.toNat:Int)=(k:Int)):=by omega
    have hnd:decide ((x.h.toNat:Int)=(k:Int))=false:=decide_eq_false hne;have hnb:((x.h.toNat:Int) == (k:Int))=false:=by rw [beq_eq_false_iff_ne];exact hne
    have HTX2:Hid (ofL true k (es.take (i+1))=ofL true k (es.take i)):=Lib.hid (by
     have h1:¬ end1 true x=k:=hend;rw [HTX.out,if_neg h1,List.append_nil])
    clear hend;go_wp2;go_roundw
    case rel=>exact ⟨i+1,by omega,by go_num,by rw [HTX2.out];exact HV.out,HB.out⟩
    case measure=>simp [intOf];omega
  ·obtain rfl:E=i:=by omega
   have HVE:Hid (ownsEdges W w.heap.size v (ofL true k es)):=Lib.hid (by
    have h1:=HV.out;rw [HALL.out] at h1;exact ownsRow_base h1 HB0.out.size)
   have HBE:=Lib.hid (HB0.out.trans (HB.out.mono HB0.out.size));clear HV;go_wp2;go_ret;exact ⟨_,rfl,HVE.out,HBE.out⟩
def refFile (name:Name) (sz:Nat) (rs:List Rec):List UInt8:=pagesFrom (tagOf name) 0 (pagesOf (per sz) rs)
def filesRel (bb:Nat) (gv hv:Value) (nE nR nV:Name) (sE sR:List Edg) (vs:List Vrt):Nat->Value->World->Prop
 | 0,v,_=>v=.string nE
 | 1,v,_=>v=.string nE
 | 2,v,_=>v=.pointer (some ⟨bb,0,none⟩)
 | 3,v,_=>v=gv
 | 4,v,W=>RdE W v sE
 | 5,v,W=>RdRecs W v (sE.map Edg.bytes)
 | 6,v,W=>Rd W v (refFile nE 20 (sE.map Edg.bytes))
 | 7,v,W=>∃ b,v=.agg #[.string nE,b]/\Rd W b (refFile nE 20 (sE.map Edg.bytes))
 | 8,v,_=>v=.string nR
 | 9,v,_=>v=.string nR
 | 10,v,_=>v=.pointer (some ⟨bb,0,none⟩)
 | 11,v,_=>v=gv
 | 12,v,W=>RdE W v sR
 | 13,v,W=>RdRecs W v (sR.map Edg.bytes)
 | 14,v,W=>Rd W v (refFile nR 20 (sR.map Edg.bytes))
 | 15,v,W=>∃ b,v=.agg #[.string nR,b]/\Rd W b (refFile nR 20 (sR.map Edg.bytes))
 | 16,v,_=>v=.string nV
 | 17,v,_=>v=.string nV
 | 18,v,_=>v=.pointer (some ⟨bb,1,none⟩)
 | 19,v,_=>v=hv
 | 20,v,W=>RdRecs W v (vs.map Vrt.bytes)
 | 21,v,W=>Rd W v (refFile nV 12 (vs.map Vrt.bytes))
 | 22,v,W=>∃ b,v=.agg #[.string nV,b]/\Rd W b (refFile nV 12 (vs.map Vrt.bytes))
 | _,v,W=>∃ g b1 b2 b3,v=.slice (some ⟨g,0,none⟩) 3 3/\W.heap[g]? = some (.cells #[.string nE,b1, .string nR,b2, .string nV,b3] 43)/\Rd W b1 (refFile nE 20 (sE.map Edg.bytes))/\Rd W b2 (refFile nR 20 (sR.map Edg.bytes))/\Rd W b3 (refFile nV 12 (vs.map Vrt.bytes))
theorem filesRel_on {bb:Nat} {gv hv:Value} {nE nR nV:Name} {sE sR:List Edg} {vs:List Vrt} (i:Nat) (v:Value) (w w':World) (hb:Below w.heap.size w w') (h:filesRel bb gv hv nE nR nV sE sR vs i v w):filesRel bb gv hv nE nR nV sE sR vs i v w':=by
 match i,h with
 | 0,h=>exact h
 | 1,h=>exact h
 | 2,h=>exact h
 | 3,h=>exact h
 | 4,h=>exact RdE.below h hb
 | 5,h=>exact RdRecs.below h hb
 | 6,h=>exact Rd.below h hb
 | 7,⟨b,h1,h2⟩=>exact ⟨b,h1,h2.below hb⟩
 | 8,h=>exact h
 | 9,h=>exact h
 | 10,h=>exact h
 | 11,h=>exact h
 | 12,h=>exact RdE.below h hb
 | 13,h=>exact RdRecs.below h hb
 | 14,h=>exact Rd.below h hb
 | 15,⟨b,h1,h2⟩=>exact ⟨b,h1,h2.below hb⟩
 | 16,h=>exact h
 | 17,h=>exact h
 | 18,h=>exact h
 | 19,h=>exact h
 | 20,h=>exact RdRecs.below h hb
 | 21,h=>exact Rd.below h hb
 | 22,⟨b,h1,h2⟩=>exact ⟨b,h1,h2.below hb⟩
 | _+23,⟨g,b1,b2,b3,h1,h2,h3,h4,h5⟩=>exact ⟨g,b1,b2,b3,h1,(hb.block _ (lt_heap h2)).trans h2,h3.below hb,h4.below hb,h5.below hb⟩
def NewFiles (w:World) (nE nR nV:Name) (x1 x2 x3:List UInt8) (e:Ending) (w':World):Prop:=
 ∃ g b1 b2 b3,e=.returned (.slice (some ⟨g,0,none⟩) 3 3)/\w'.heap[g]? = some (.cells #[.string nE,b1, .string nR,b2, .string nV,b3] 43)/\Rd w' b1 x1/\Rd w' b2 x2/\Rd w' b3 x3/\Below w.heap.size w w'
set_option maxRecDepth 100000 in
set_option maxHeartbeats 8000000 in
theorem refFiles_any (gv hv:Value) (es:List Edg) (vs:List Vrt) (k:Nat) (w:World) (hg:RdE w gv es) (hv':RdV w hv vs) (h1:es.length<=1000) (h2:vs.length<=1000) (hk:k<=1048576) :
 Calls Tryz.prog 14 #[.agg #[gv,hv], .int .i64 (k:Int)] w (NewFiles w (sName 101 k) (sName 114 k) (sName 118 k) (refFile (sName 101 k) 20 ((bestOf false es).map Edg.bytes)) (refFile (sName 114 k) 20 ((bestOf true es).map Edg.bytes)) (refFile (sName 118 k) 12 (vs.map Vrt.bytes))):=by
 have HG:=Lib.hid hg;have HV:=Lib.hid hv';have hnE:=Lib.hid (fun W=>refName_any 101 k hk W);have hnR:=Lib.hid (fun W=>refName_any 114 k hk W);have hnV:=Lib.hid (fun W=>refName_any 118 k hk W);have hzE:=okName_1000 (sName_ok 101 (by decide) hk);have hzR:=okName_1000 (sName_ok 114 (by decide) hk);have hzV:=okName_1000 (sName_ok 118 (by decide) hk);obtain ⟨sE,hsE⟩:∃ s,s=bestOf false es:=⟨_,rfl⟩;obtain ⟨sR,hsR⟩:∃ s,s=bestOf true es:=⟨_,rfl⟩;have hlE:sE.length<=1000:=by rw [hsE];exact Nat.le_trans (bestOf_length _ _) h1
 have hlR:sR.length<=1000:=by rw [hsR];exact Nat.le_trans (bestOf_length _ _) h1
 have hsoE:Hid (∀ W,Below w.heap.size w W->Calls Tryz.prog 46 #[gv, .int .i64 0] W (NewEdges W sE)):=Lib.hid (fun W hW=>by rw [hsE];exact sorted_any gv es false W (HG.out.below hW) (by omega));have hsoR:Hid (∀ W,Below w.heap.size w W->Calls Tryz.prog 46 #[gv, .int .i64 1] W (NewEdges W sR)):=Lib.hid (fun W hW=>by rw [hsR];exact sorted_any gv es true W (HG.out.below hW) (by omega));have hreE:Hid (∀ W u,RdE W u sE->Calls Tryz.prog 48 #[u] W (NewRecs W (sE.map Edg.bytes))):=Lib.hid (fun W u hu=>refRecords_any u sE W hu (by omega));have hreR:Hid (∀ W u,RdE W u sR->Calls Tryz.prog 48 #[u] W (NewRecs W (sR.map Edg.bytes))):=Lib.hid (fun W u hu=>refRecords_any u sR W hu (by omega));have hreV:Hid (∀ W,Below w.heap.size w W->Calls Tryz.prog 49 #[hv] W (NewRecs W (vs.map Vrt.bytes))):=Lib.hid (fun W hW=>refRecordsV_any hv vs W (HV.out.below hW) (by omega));have hbyE:Hid (∀ W u,RdRecs W u (sE.map Edg.bytes)->Calls Tryz.prog 47 #[.string (sName 101 k),u, .int .i64 12] W (NewRd W (refFile (sName 101 k) 20 (sE.map Edg.bytes)))):=Lib.hid (fun W u hu=>refBytes_any _ hzE u 12 20 _ W hu (sized_edges _) (by rw [List.length_map];omega) (by decide) (by decide));have hbyR:Hid (∀ W u,RdRecs W u (sR.map Edg.bytes)->Calls Tryz.prog 47 #[.string (sName 114 k),u, .int .i64 12] W (NewRd W (refFile (sName 114 k) 20 (sR.map Edg.bytes)))):=Lib.hid (fun W u hu=>refBytes_any _ hzR u 12 20 _ W hu (sized_edges _) (by rw [List.length_map];omega) (by decide) (by decide));have hbyV:Hid (∀ W u,RdRecs W u (vs.map Vrt.bytes)->Calls Tryz.prog 47 #[.string (sName 118 k),u, .int .i64 20] W (NewRd W (refFile (sName 118 k) 12 (vs.map Vrt.bytes)))):=Lib.hid (fun W u hu=>refBytes_any _ hzV u 20 12 _ W hu (sized_verts _) (by rw [List.length_map];omega) (by decide) (by decide));rw [<- hsE,<- hsR];clear hsE hsR hlE hlR h1 h2 hg hv' hzE hzR hzV;generalize sName 101 k=nE at *;generalize sName 114 k=nR at *;generalize sName 118 k=nV at *;have HB0:Hid (Below w.heap.size w (w.alloc (.cells #[gv,hv] 34))):=Lib.hid ((Below.refl _ _).alloc (Nat.le_refl _) _);have HQ0:Hid ((w.alloc (.cells #[gv,hv] 34)).heap[w.heap.size]? = some (.cells #[gv,hv] 34)):=Lib.hid (heap_alloc_new w _);obtain ⟨ga,gl,gc,hgv⟩:∃ a n c,gv=.slice a n c:=by
  obtain ⟨a,c,h,-⟩:=HG.out;exact ⟨a,_,c,h⟩
 obtain ⟨ha,hl,hc,hhv⟩:∃ a n c,hv=.slice a n c:=by
  obtain ⟨a,c,h,-⟩:=HV.out;exact ⟨a,_,c,h⟩
 subst hgv;subst hhv;go_enter Tryz.func14,Tryz.ntmps14
 go_wp2_with fail
 generalize w.alloc (.cells #[.slice ga gl gc, .slice ha hl hc] 34)=W0 at *;have HK:Hid (∀ W,Below W0.heap.size W0 W->W.cell? ⟨w.heap.size,0,none⟩=some (.slice ga gl gc)/\W.cell? ⟨w.heap.size,1,none⟩=some (.slice ha hl hc)):=Lib.hid (fun W hW=>by
  have hx:=(hW.block _ (lt_heap HQ0.out)).trans HQ0.out;refine ⟨?_,?_⟩<;>rw [cells_cell hx]<;>rfl)
 obtain ⟨bb,hbb⟩:∃ bb,bb=w.heap.size:=⟨_,rfl⟩;rw [<- hbb] at HK ⊢;clear hbb;refine (hnE.out W0).mono ?_;rintro e w1 ⟨rfl,hb1⟩;have HB1:=Lib.hid hb1;clear hb1;go_wp2_with fail
 refine (hnR.out w1).mono ?_;rintro e w2 ⟨rfl,hb2⟩;have HB2:=Lib.hid (HB1.out.trans (hb2.mono HB1.out.size));clear hb2;go_wp2_with fail
 refine (hnV.out w2).mono ?_;rintro e w3 ⟨rfl,hb3⟩;have HB3:=Lib.hid (HB2.out.trans (hb3.mono HB2.out.size));clear hb3;go_wp2;refine wp_region_relTail (Below W0.heap.size W0) (filesRel bb (.slice ga gl gc) (.slice ha hl hc) nE nR nV sE sR vs) 24 (by kernel_rfl) (by kernel_rfl) HB3.out.drew (fun w1 w2 h1 h2=>h1.trans (h2.mono h1.size)) filesRel_on ?_ ?_
 ·intro i o ho a W hC hdep;have hW:=HB0.out.trans (hC.mono HB0.out.size);match i,ho with
  | 0,ho=>
    cases ho;have h0:=hdep.old 5 rfl rfl;refine ⟨rfl,step_val (v:=.string nE) (w':=W) ?_ (Below.refl _ _) rfl⟩;go_simp
  | 1,ho=>
    cases ho;have h0:=hdep.old 5 rfl rfl;refine ⟨rfl,step_val (v:=.string nE) (w':=W) ?_ (Below.refl _ _) rfl⟩;go_simp
  | 2,ho=>
    cases ho;have h0:=hdep.old 2 rfl rfl;refine ⟨rfl,step_val (v:=.pointer (some ⟨bb,0,none⟩)) (w':=W) ?_ (Below.refl _ _) rfl⟩;go_simp
  | 3,ho=>
    cases ho;obtain ⟨u,hu,rfl⟩:=hdep.get 2 rfl rfl rfl;obtain ⟨c0,c1⟩:=HK.out W hC;refine ⟨rfl,step_val (v:=.slice ga gl gc) (w':=W) ?_ (Below.refl _ _) rfl⟩;go_simp
  | 4,ho=>
    cases ho;obtain ⟨u,hu,rfl⟩:=hdep.get 3 rfl rfl rfl;refine ⟨rfl,step_call (f:=46) (args:=#[.slice ga gl gc, .int .i64 0]) ?_ ((hsoE.out W hW).mono ?_)⟩
    ·go_simp
    ·rintro e w' ⟨v,rfl,h1,h2⟩;exact ⟨v,rfl,h2,rdE_own h1⟩
  | 5,ho=>
    cases ho;obtain ⟨u,hu,hr⟩:=hdep.get 4 rfl rfl rfl;refine ⟨rfl,step_call (f:=48) (args:=#[u]) ?_ ((hreE.out W u hr).mono ?_)⟩
    ·go_simp
    ·rintro e w' ⟨v,rfl,h1,h2⟩;exact ⟨v,rfl,h2,h1⟩
  | 6,ho=>
    cases ho;obtain ⟨u1,hu1,rfl⟩:=hdep.get 1 rfl rfl rfl;obtain ⟨u,hu,hr⟩:=hdep.get 5 rfl rfl rfl;refine ⟨rfl,step_call (f:=47) (args:=#[.string nE,u, .int .i64 12]) ?_ ((hbyE.out W u hr).mono ?_)⟩
    ·go_simp
    ·rintro e w' ⟨v,rfl,h1,h2⟩;exact ⟨v,rfl,h2,h1⟩
  | 7,ho=>
    cases ho;obtain ⟨u1,hu1,rfl⟩:=hdep.get 0 rfl rfl rfl;obtain ⟨u2,hu2,h2⟩:=hdep.get 6 rfl rfl rfl;have h2':=h2;obtain ⟨ba,bc,rfl,-⟩:=h2;refine ⟨rfl,step_val (v:=.agg #[.string nE, .slice ba _ bc]) (w':=W) ?_ (Below.refl _ _) ⟨_,rfl,h2'⟩⟩;go_simp
  | 8,ho=>
    cases ho;have h0:=hdep.old 6 rfl rfl;refine ⟨rfl,step_val (v:=.string nR) (w':=W) ?_ (Below.refl _ _) rfl⟩;go_simp
  | 9,ho=>
    cases ho;have h0:=hdep.old 6 rfl rfl;refine ⟨rfl,step_val (v:=.string nR) (w':=W) ?_ (Below.refl _ _) rfl⟩;go_simp
  | 10,ho=>
    cases ho;have h0:=hdep.old 2 rfl rfl;refine ⟨rfl,step_val (v:=.pointer (some ⟨bb,0,none⟩)) (w':=W) ?_ (Below.refl _ _) rfl⟩;go_simp
  | 11,ho=>
    cases ho;obtain ⟨u,hu,rfl⟩:=hdep.get 10 rfl rfl rfl;obtain ⟨c0,c1⟩:=HK.out W hC;refine ⟨rfl,step_val (v:=.slice ga gl gc) (w':=W) ?_ (Below.refl _ _) rfl⟩;go_simp
  | 12,ho=>
    cases ho;obtain ⟨u,hu,rfl⟩:=hdep.get 11 rfl rfl rfl;refine ⟨rfl,step_call (f:=46) (args:=#[.slice ga gl gc, .int .i64 1]) ?_ ((hsoR.out W hW).mono ?_)⟩
    ·go_simp
    ·rintro e w' ⟨v,rfl,h1,h2⟩;exact ⟨v,rfl,h2,rdE_own h1⟩
  | 13,ho=>
    cases ho;obtain ⟨u,hu,hr⟩:=hdep.get 12 rfl rfl rfl;refine ⟨rfl,step_call (f:=48) (args:=#[u]) ?_ ((hreR.out W u hr).mono ?_)⟩
    ·go_simp
    ·rintro e w' ⟨v,rfl,h1,h2⟩;exact ⟨v,rfl,h2,h1⟩
  | 14,ho=>
    cases ho;obtain ⟨u1,hu1,rfl⟩:=hdep.get 9 rfl rfl rfl;obtain ⟨u,hu,hr⟩:=hdep.get 13 rfl rfl rfl;refine ⟨rfl,step_call (f:=47) (args:=#[.string nR,u, .int .i64 12]) ?_ ((hbyR.out W u hr).mono ?_)⟩
    ·go_simp
    ·rintro e w' ⟨v,rfl,h1,h2⟩;exact ⟨v,rfl,h2,h1⟩
  | 15,ho=>
    cases ho;obtain ⟨u1,hu1,rfl⟩:=hdep.get 8 rfl rfl rfl;obtain ⟨u2,hu2,h2⟩:=hdep.get 14 rfl rfl rfl;have h2':=h2;obtain ⟨ba,bc,rfl,-⟩:=h2;refine ⟨rfl,step_val (v:=.agg #[.string nR, .slice ba _ bc]) (w':=W) ?_ (Below.refl _ _) ⟨_,rfl,h2'⟩⟩;go_simp
  | 16,ho=>
    cases ho;have h0:=hdep.old 7 rfl rfl;refine ⟨rfl,step_val (v:=.string nV) (w':=W) ?_ (Below.refl _ _) rfl⟩;go_simp
  | 17,ho=>
    cases ho;have h0:=hdep.old 7 rfl rfl;refine ⟨rfl,step_val (v:=.string nV) (w':=W) ?_ (Below.refl _ _) rfl⟩;go_simp
  | 18,ho=>
    cases ho;have h0:=hdep.old 2 rfl rfl;refine ⟨rfl,step_val (v:=.pointer (some ⟨bb,1,none⟩)) (w':=W) ?_ (Below.refl _ _) rfl⟩;go_simp
  | 19,ho=>
    cases ho;obtain ⟨u,hu,rfl⟩:=hdep.get 18 rfl rfl rfl;obtain ⟨c0,c1⟩:=HK.out W hC;refine ⟨rfl,step_val (v:=.slice ha hl hc) (w':=W) ?_ (Below.refl _ _) rfl⟩;go_simp
  | 20,ho=>
    cases ho;obtain ⟨u,hu,rfl⟩:=hdep.get 19 rfl rfl rfl;refine ⟨rfl,step_call (f:=49) (args:=#[.slice ha hl hc]) ?_ ((hreV.out W hW).mono ?_)⟩
    ·go_simp
    ·rintro e w' ⟨v,rfl,h1,h2⟩;exact ⟨v,rfl,h2,h1⟩
  | 21,ho=>
    cases ho;obtain ⟨u1,hu1,rfl⟩:=hdep.get 17 rfl rfl rfl;obtain ⟨u,hu,hr⟩:=hdep.get 20 rfl rfl rfl;refine ⟨rfl,step_call (f:=47) (args:=#[.string nV,u, .int .i64 20]) ?_ ((hbyV.out W u hr).mono ?_)⟩
    ·go_simp
    ·rintro e w' ⟨v,rfl,h1,h2⟩;exact ⟨v,rfl,h2,h1⟩
  | 22,ho=>
    cases ho;obtain ⟨u1,hu1,rfl⟩:=hdep.get 16 rfl rfl rfl;obtain ⟨u2,hu2,h2⟩:=hdep.get 21 rfl rfl rfl;have h2':=h2;obtain ⟨ba,bc,rfl,-⟩:=h2;refine ⟨rfl,step_val (v:=.agg #[.string nV, .slice ba _ bc]) (w':=W) ?_ (Below.refl _ _) ⟨_,rfl,h2'⟩⟩;go_simp
  | 23,ho=>
    cases ho;obtain ⟨u1,hu1,b1,rfl,h1⟩:=hdep.get 7 rfl rfl rfl;obtain ⟨u2,hu2,b2,rfl,h2⟩:=hdep.get 15 rfl rfl rfl;obtain ⟨u3,hu3,b3,rfl,h3⟩:=hdep.get 22 rfl rfl rfl;have k1:=h1;have k2:=h2;have k3:=h3;obtain ⟨x1,y1,rfl,-⟩:=h1;obtain ⟨x2,y2,rfl,-⟩:=h2;obtain ⟨x3,y3,rfl,-⟩:=h3;have hb:∀ ob,Below W.heap.size W (W.alloc ob):=fun ob=>(Below.refl _ _).alloc (Nat.le_refl _) ob;refine ⟨rfl,step_val (v:=.slice (some ⟨W.heap.size,0,none⟩) 3 3) (w':=W.alloc (.cells #[.string nE, .slice x1 _ y1, .string nR, .slice x2 _ y2, .string nV, .slice x3 _ y3] 43)) ?_ (hb _) ⟨W.heap.size,_,_,_,rfl,heap_alloc_new W _,k1.below (hb _),k2.below (hb _),k3.below (hb _)⟩⟩;go_simp
  | _+24,ho=>cases ho
 ·intro us w4 hb4 hlen hu;obtain ⟨v,hv,g,b1,b2,b3,rfl,q1,q2,q3,q4⟩:∃ v,us[23]? = some v/\filesRel bb (.slice ga gl gc) (.slice ha hl hc) nE nR nV sE sR vs 23 v w4:=⟨_,List.getElem?_eq_getElem (by omega),hu 23 _ (List.getElem?_eq_getElem (by omega))⟩;have HBE:=Lib.hid (HB0.out.trans (hb4.mono HB0.out.size));have HQ:=Lib.hid (And.intro q1 (And.intro q2 (And.intro q3 q4)));clear hu hb4 q1 q2 q3 q4;match us,hlen with
  | [u0,u1,u2,u3,u4,u5,u6,u7,u8,u9,u10,u11,u12,u13,u14,u15,u16,u17,u18,u19,u20,u21,u22,u23],_=>
    obtain rfl:u23=.slice (some ⟨g,0,none⟩) 3 3:=Option.some.inj hv;clear hv;simp only [relPut,List.take_succ_cons,List.take_zero,List.drop_succ_cons,List.drop_zero];go_simp;go_wp2;go_ret;exact ⟨g,b1,b2,b3,rfl,HQ.out.1,HQ.out.2.1,HQ.out.2.2.1,HQ.out.2.2.2,HBE.out⟩
end
section
open Go.RowKit Go.Maps
theorem held_loose {w0 w:World} {pb db n:Nat} {o:Owner} {d:Dsk} {L:Logic} (h:Held w0 w pb db n o d L) (nm:Name) (hone:∀ x f,mget L x=some f->x=nm\/∃ ps,f=.inl (ps,true)) (hpg:∃ ps fl,mget L nm=some (.inl (ps,fl))) :
 Calls Tryz.prog 19 #[ptrTo db] w (LoosePost nm w):=by
 obtain ⟨_,_,_,_,_,g,_,hs⟩:=h.pool;have key:∀ x∈d.loose,x.1.1=nm/\x.1.2 < 262144:=by
  rintro ⟨⟨x,s⟩,⟨⟩⟩ hm;obtain ⟨f,hf⟩:=Option.isSome_iff_exists.1 (hs.looseIn x s hm);rcases hone x f hf with rfl | ⟨ps,rfl⟩
  ·obtain ⟨ps,fl,hp⟩:=hpg;obtain ⟨_,dp,k⟩:=hs.paged _ _ _ hp;have h1:=k.near s hm;have h2:=k.le;have h3:=k.most;exact ⟨rfl,by show s < _;omega⟩
  ·obtain ⟨_,_,k⟩:=hs.paged _ _ _ hf;exact absurd hm ((k.lasts rfl).2.2.1 s)
 have hlen:d.loose.length<=262144:=by
  obtain ⟨mf,ml,l,hd⟩:=g.disk;have h1:=nodup_le (l₂:=(List.range 262144).map fun s=>(nm,s)) hd.loose.keys (fun x hx=>by
   obtain ⟨y,hy,rfl⟩:=List.mem_map.1 hx;obtain ⟨e1,e2⟩:=key y hy;exact List.mem_map.2 ⟨y.1.2,List.mem_range.2 e2,by rw [<- e1]⟩)
  rw [List.length_map,List.length_map,List.length_range] at h1;exact h1
 exact loose_of nm g.disk key hlen
theorem RdE.moved {n pb db:Nat} {w w':World} {o o':Owner} {d d':Dsk} {L':Logic} {v:Value} {es:List Edg} (h:RdE w v es) (hm:Moved (fun _=>False) n pb db w o d w' o' d' L') (ho:∀ b,v.ownBlock=some b->o b=Option.none):RdE w' v es:=by
 obtain ⟨a,cap,rfl,h⟩:=h;refine ⟨a,cap,rfl,h.imp id ?_⟩;rintro ⟨b,off,rfl,hc⟩;refine ⟨b,off,rfl,fun j x hx=>?_⟩;obtain ⟨q0,q1,q2,q3⟩:=hc j x hx;exact ⟨hm.cell q0 (ho b rfl) (fun h=>h),hm.cell q1 (ho b rfl) (fun h=>h),hm.cell q2 (ho b rfl) (fun h=>h),hm.cell q3 (ho b rfl) (fun h=>h)⟩
theorem ofL_in (k:Nat) (l:List Edg):ofL true k (bestOf false l)=ofL true k (bestOf true l):=by
 have key:∀ (b:Bool) (x:Edg),x∈ofL true k (bestOf b l)->x∈ofL true k (bestOf (!b) l):=fun b x hx=>by
  obtain ⟨h1,h2⟩:=ofL_mem hx;unfold ofL;rw [List.mem_filter];exact ⟨mem_best h1,decide_eq_true h2⟩
 refine rise_ext (f:=pk false) ?_ ?_ (fun x=>⟨key false x,key true x⟩)
 ·exact (best_bestOf false l).rise.filter _
 ·have h1:(ofL true k (bestOf true l)).Pairwise (fun x y=>pk true x < pk true y):=(best_bestOf true l).rise.filter _;rw [List.pairwise_iff_getElem] at h1 ⊢;intro i j hi hj hij;have h2:=h1 i j hi hj hij;have h3:=(ofL_mem (List.getElem_mem hi)).2;have h4:=(ofL_mem (List.getElem_mem hj)).2;obtain ⟨p1,p2,p3⟩:=pk_ends true (ofL true k (bestOf true l))[i];obtain ⟨q1,q2,q3⟩:=pk_ends true (ofL true k (bestOf true l))[j];obtain ⟨r1,r2,r3⟩:=pk_ends false (ofL true k (bestOf true l))[i];obtain ⟨s1,s2,s3⟩:=pk_ends false (ofL true k (bestOf true l))[j];have e1:end2 true (ofL true k (bestOf true l))[i]=end1 false (ofL true k (bestOf true l))[i]:=rfl;have e2:end2 true (ofL true k (bestOf true l))[j]=end1 false (ofL true k (bestOf true l))[j]:=rfl;have e3:end1 true (ofL true k (bestOf true l))[i]=end2 false (ofL true k (bestOf true l))[i]:=rfl;have e4:end1 true (ofL true k (bestOf true l))[j]=end2 false (ofL true k (bestOf true l))[j]:=rfl;omega
theorem held_edge_out {w0 w:World} {pb db n gb gen N ob ib vb:Nat} {o:Owner} {d:Dsk} {L:Logic} (HW:WriteSaid) (h:Held w0 w pb db n o d L) (hq:need L<=131072) (hg:GraphAt w o gb pb gen N ob ib vb) {es:List Edg} {fl:Bool} (hL:mget L (sName 101 gen)=some (edgeFile es fl)) {i:Nat} (hi:es.length<=i) (hi63:i < 9223372036854775808) :
 Calls Tryz.prog 28 #[ptrTo gb, .int .i64 (i:Int)] w fun e w'=>∃ d' o',e=.returned (.tuple #[edgVal edg0, .int .i64 3])/\Moved (fun _=>False) n pb db w o d w' o' d' L:=by
 refine (graphEdge_out HW h.pool hg hL hi hi63 h.dead).mono ?_;rintro e w' ⟨c,d',o',y,rfl,hm,hc,-,hy⟩;rcases hc with rfl | hc
 ·rw [hy (by decide)];exact ⟨d',o',rfl,hm⟩
 ·have h0:c=0:=h.fine' hm (.inr hc) hq;exact absurd h0 hc.ne
theorem held_edge_neg {w0 w:World} {pb db n gb gen N ob ib vb:Nat} {o:Owner} {d:Dsk} {L:Logic} (h:Held w0 w pb db n o d L) (hg:GraphAt w o gb pb gen N ob ib vb) {i:Int} (hi:i < 0) :
 Calls Tryz.prog 28 #[ptrTo gb, .int .i64 i] w fun e w'=>∃ d' o',e=.returned (.tuple #[edgVal edg0, .int .i64 1])/\Moved (fun _=>False) n pb db w o d w' o' d' L:=by
 refine (graphEdge_neg h.pool hg hi).mono ?_;rintro e w' ⟨c,d',o',y,rfl,hm,rfl,-,hy⟩;rw [hy (by decide)];exact ⟨d',o',rfl,hm⟩
end
end Go.Proofs.YthkkgdpomhhjjaaGreatDoor
