/-
  Joined.
-/
import Derived.Test.YthkkgdpomhhjjaaGreatDoorQ13
import Derived.Shelf.Sort.Plain
import Derived.Shelf.Slices.In.SortNone
import Derived.Ground.NamesProg
import Derived.Test.YthkkgdpomhhjjaaGreatDoorProg
namespace Go.Proofs.YthkkgdpomhhjjaaGreatDoor
section
open Go.RowKit
def BytesT (w:World) (base:Nat) (v:Value) (bs:List UInt8):Prop:=
 (v=.slice none 0 0/\bs=[]) \/
 ∃ g cap cur fz,v=.slice (some ⟨g,0,none⟩) bs.length cap/\base<=g/\w.heap[g]? = some (.cells cur 5 fz)/\(fz.2=0\/cur.size<=fz.1)/\bs.length<=cap/\cap<=maxLen/\cur.size=cap/\cur.toList.take bs.length=bs.map bv
theorem BytesT.nil (w:World) (base:Nat):BytesT w base (.slice none 0 0) []:=.inl ⟨rfl,rfl⟩
theorem BytesT.of {w:World} {base:Nat} {v:Value} {bs:List UInt8} (h:w.ownsRow base 5 1 v bs.length (bs.map bv)):BytesT w base v bs:=by
 obtain ⟨h0,⟨rfl,h1⟩ | ⟨g,cap,cur,rfl,h1,h2,h3,h4,h5,h6⟩⟩:=h
 ·exact .inl ⟨rfl,List.length_eq_zero_iff.1 h1⟩
 ·exact .inr ⟨g,cap,cur,(0,0),rfl,h1,h2, .inl rfl,h3,h4,by omega,by rw [Nat.mul_one] at h6;exact h6⟩
theorem BytesT.base {w:World} {base base':Nat} {v:Value} {bs:List UInt8} (h:BytesT w base v bs) (hb:base'<=base):BytesT w base' v bs:=by
 rcases h with h | ⟨g,cap,cur,fz,h1,h2,h3⟩
 ·exact .inl h
 ·exact .inr ⟨g,cap,cur,fz,h1,Nat.le_trans hb h2,h3⟩
theorem BytesT.lt {w:World} {base:Nat} {v:Value} {bs:List UInt8} (h:BytesT w base v bs):∀ k,v.ownBlock=some k->base<=k/\k < w.heap.size:=by
 intro k hk;rcases h with ⟨rfl,_⟩ | ⟨g,cap,cur,fz,rfl,h1,h2,_⟩
 ·cases hk
 ·cases hk;exact ⟨h1,(Array.getElem?_eq_some_iff.1 h2).1⟩
theorem BytesT.kept {w w':World} {base:Nat} {v:Value} {bs:List UInt8} (h:BytesT w base v bs) (hk:∀ k,v.ownBlock=some k->w'.heap[k]? = w.heap[k]?):BytesT w' base v bs:=by
 rcases h with h | ⟨g,cap,cur,fz,rfl,h1,h2,h3⟩
 ·exact .inl h
 ·exact .inr ⟨g,cap,cur,fz,rfl,h1,(hk g rfl).trans h2,h3⟩
theorem BytesT.cells {w:World} {base g cap n:Nat} {bs:List UInt8} (h:BytesT w base (.slice (some ⟨g,0,none⟩) n cap) bs) {j:Nat} (hj:j < bs.length):w.cell? ⟨g,j,none⟩=some (bv bs[j]):=by
 rcases h with ⟨h,_⟩ | ⟨g',cap',cur,fz,h,h1,h2,h3,h4,h5,h6,h7⟩
 ·cases h
 ·cases h;rw [cell_of_row w g j cur _ fz h2];have:(cur.toList.take bs.length)[j]? = (bs.map bv)[j]? := by rw [h7]
  rw [List.getElem?_take,if_pos hj,List.getElem?_map,List.getElem?_eq_getElem hj] at this;simpa using this
theorem BytesT.rd {w:World} {base:Nat} {v:Value} {bs:List UInt8} (h:BytesT w base v bs):Rd w v bs:=by
 rcases h with ⟨rfl,rfl⟩ | ⟨g,cap,cur,fz,rfl,h1,h2,h3,h4,h5,h6,h7⟩
 ·exact ⟨none,0,rfl,Nat.le_refl _,Nat.zero_le _, .inl rfl⟩
 ·refine ⟨some ⟨g,0,none⟩,cap,rfl,h4,h5, .inr ⟨g,0,rfl,fun j hj=>?_⟩⟩;rw [Nat.zero_add];exact BytesT.cells (.inr ⟨g,cap,cur,fz,rfl,h1,h2,h3,h4,h5,h6,h7⟩) hj
theorem run_append_byteT {w:World} (base ty:Nat) (v:Value) (bs:List UInt8) (h:BytesT w base v bs) (b c:Nat) (y:UInt8) (hb:w.cell? ⟨b,0,none⟩=some (bv y)) (hl:bs.length<=100000) (hbase:base<=w.heap.size) :
 ∃ v' w',(Builtin.append_ #[39,39] ty #[v, .slice (some ⟨b,0,none⟩) 1 c]).run Tryz.prog w=.ok v' w'/\BytesT w' base v' (bs++[y])/\w.grownBy w' v.ownBlock/\(v'.ownBlock=v.ownBlock\/v'.ownBlock=some w.heap.size):=by
 obtain ⟨i0,hi,hz0,hz1,hz2⟩:=info_parts info_u8;have hnews:∀ (j:Nat) (u:Value),[bv y][j]? = some u->w.cell? ((⟨b,0,none⟩:Addr).add j)=some u:=by
  intro j u hj;rw [Addr_add,Nat.zero_add];match j,hj with
  | 0,hj=>cases hj;exact hb
  | j+1,hj=>cases hj
 have hold:∀ g n cap,v=.slice (some ⟨g,0,none⟩) n cap->∀ (j:Nat) (u:Value),(bs.map bv)[j]? = some u->w.cell? ((⟨g,0,none⟩:Addr).add j)=some u:=by
  rintro g n cap rfl j u hj;rw [Addr_add,Nat.zero_add];have hjl:j < bs.length:=by have:=lt_of_get hj;rwa [List.length_map] at this
  rw [List.getElem?_map,List.getElem?_eq_getElem hjl] at hj;rw [h.cells hjl];simpa using hj
 rcases h with ⟨rfl,rfl⟩ | ⟨g,cap,cur,fz,rfl,h1,h2,h3,h4,h5,h6,h7⟩
 ·obtain ⟨v',w',r1,r2,r3,-,r5⟩:=run_append_own_at (P:=Tryz.prog) w base 39 ty 5 i0 (.int .u8 0) 1 1 Tryz.underlying39 hi hz0 hz1 hz2 rfl (by decide) (.slice none 0 0) 0 [] (World.ownsRow_nil _ _ _ _) ⟨b,0,none⟩ 1 c [bv y] rfl hnews (by simp [bv_oneCell]) (by unfold maxLen;omega) (by omega) hbase;exact ⟨v',w',r1,BytesT.of r2,r3,r5⟩
 ·have hgl:g < w.heap.size:=(Array.getElem?_eq_some_iff.1 h2).1;by_cases hroom:bs.length+1<=cap
  ·have hf:=run_firstCells_some (P:=Tryz.prog) w 1 1 ⟨b,0,none⟩ 1 c [bv y] rfl hnews;have hcell:w.cell? ⟨g,bs.length,none⟩=some cur[bs.length]:=by
    rw [cell_of_row w g bs.length cur _ fz h2];exact Array.getElem?_eq_getElem _
   have hfro:w.frozen? ⟨g,bs.length,none⟩=false:=by
    obtain ⟨lo,hi'⟩:=fz;simp only [World.frozen?,h2,Bool.and_eq_false_iff,decide_eq_false_iff_not];simp only at h3;omega
   have hst:(storeCells ⟨g,bs.length,none⟩ [bv y] 0).run Tryz.prog w=.ok () (w.setRow g (cur.setIfInBounds bs.length (bv y))):=by
    have hs:(store ⟨g,bs.length,none⟩ (bv y)).run Tryz.prog w=.ok () (w.setRow g (cur.setIfInBounds bs.length (bv y))):=by
     rw [run_store Tryz.prog w _ (bv y) _ (bv_oneCell y),hcell];simp [hfro,setCell_eq_setRow w g bs.length cur _ fz (bv y) h2]
    have hadd:(⟨g,bs.length,none⟩:Addr).add 0=⟨g,bs.length,none⟩:=by rw [Addr_add,Nat.add_zero]
    simp only [storeCells,Sem.run_bind,hadd,hs,Result.andThen_ok,Sem.run_pure]
   have hlen:(bs++[y]).length=bs.length+1:=by simp
   have hbl:bs.length < cur.toList.length:=by have:=Array.length_toList (xs:=cur);omega
   refine ⟨.slice (some ⟨g,0,none⟩) (bs.length+1) cap,w.setRow g (cur.setIfInBounds bs.length (bv y)),?_, .inr ⟨g,cap,cur.setIfInBounds bs.length (bv y),fz,by rw [hlen],h1,setRow_heap w g cur _ _ fz h2,by rw [Array.size_setIfInBounds];exact h3,by omega,h5,by rw [Array.size_setIfInBounds];exact h6,?_⟩,⟨rfl,rfl,rfl,by simp,fun k _ hk=>setRow_other w g k _ (fun e=>hk (by simp [Value.ownBlock,e]))⟩, .inl rfl⟩
   ·simp [Builtin.append_,run_underlying Tryz.underlying39,sizeOf,typeInfo,hi,hz1,Builtin.lenOf,hroom,hf,Addr_add,hst]
   ·rw [hlen,Array.toList_setIfInBounds,List.map_append,<- h7];rw [List.take_add_one,List.take_set_of_le (Nat.le_refl _),List.getElem?_set_self hbl];rfl
  ·have hr:=run_append_grow (P:=Tryz.prog) w 39 ty 5 i0 (.int .u8 0) Tryz.underlying39 hi hz0 ⟨g,0,none⟩ bs.length cap (bs.map bv) (by rw [hz1];simp) (hold g _ _ rfl) ⟨b,0,none⟩ 1 c [bv y] (by rw [hz1];rfl) hnews (by omega) (by omega) (growslice_fits (by omega) (by rw [hz2];omega));have hge:=grownCap_ge w (bs.length+1) cap 5;have hcm:grownCap w (bs.length+1) cap 5<=maxLen:=grownCap_le_maxLen w (bs.length+1) cap 5 (by unfold maxLen;omega);refine ⟨_,_,hr, .inr ⟨w.heap.size,_,_,(0,0),?_,hbase,heap_alloc_new w.drew _, .inl rfl,?_,hcm,?_,?_⟩,⟨rfl,rfl,rfl,by simp,fun k hk _=>(MapKept.heap_alloc w.drew _).2 k hk⟩, .inr rfl⟩
   ·simp
   ·simpa using hge
   ·simp only [Array.size_append,List.size_toArray,size_zeroCells,List.length_map,List.length_cons,List.length_nil];have hz:(Value.int IntKind.u8 0).cells.size=1:=rfl;rw [hz];omega
   ·simp only [Array.toList_append,List.append_assoc];rw [<- List.append_assoc,show (bs++[y]).length=(bs.map bv++[bv y]).length by simp,List.take_left];simp
end
section
open Go.RowKit
section
variable {w:World} {ops:Array Oper} {rest:List Oper} {op:Oper} {a:Act} {Q:Exit->Act->World->Prop}
theorem wpList_append_byteT (hgd:op.guard=none) (s x:Operand) (ho:op.op=.call { callee:=.builtin .append,args:=#[s,x],argTypes:=#[39,39] }) (base:Nat) (v:Value) (bs:List UInt8) (hs:a.eval s=v) (h:BytesT w base v bs)
 (y:UInt8) (b c:Nat) (hx:a.eval x=.slice (some ⟨b,0,none⟩) 1 c) (hb:w.cell? ⟨b,0,none⟩=some (bv y)) (hl:bs.length<=100000) (hbase:base<=w.heap.size)
 (k:∀ v' w',BytesT w' base v' (bs++[y])->w.grownBy w' v.ownBlock->wpList Tryz.prog ops Q rest (a.put op.dst v') w') :
 wpList Tryz.prog ops Q (op::rest) a w:=by
 refine wpList_plain hgd fun K hK=>?_;obtain ⟨v',w',g1,g2,g3,g4⟩:=run_append_byteT base op.type v bs h b c y hb hl hbase;unfold Oper.wp execOp;simp only [ho,resolve,invoke,builtin,Sem.run_bind,Sem.run_pure,Result.andThen_ok,List.map_toArray,List.map_cons,List.map_nil,hs,hx,g1];exact hK _ _ (k v' w' g2 g3)
theorem BytesT.alloc {base:Nat} {v:Value} {bs:List UInt8} (h:BytesT w base v bs) (ob:Obj):BytesT (w.alloc ob) base v bs:=h.kept (fun k hk=>(MapKept.heap_alloc w _).2 k (h.lt k hk).2)
end
def NewBytesT (w:World) (bs:List UInt8) (e:Ending) (w':World):Prop:=
 ∃ v',e=.returned v'/\BytesT w' w.heap.size v' bs/\Below w.heap.size w w'
theorem bytesT_world (w:World) (s:ByteArray) (hs:s.size<=100000):BytesT (Lib.bytesWorld w 5 s) w.heap.size (.slice (some ⟨w.heap.size,0,none⟩) s.size (grownCap w s.size 0 5)) s.data.toList:=by
 have hlen:s.data.toList.length=s.size:=by rw [Array.length_toList];rfl
 have hge:=grownCap_ge w s.size 0 5;have hcm:=grownCap_le_maxLen w s.size 0 5 (by unfold maxLen;omega);have hsz:(Lib.bytesCells w 5 s).size=grownCap w s.size 0 5:=by
  unfold Lib.bytesCells;rw [Array.size_append,Array.size_map,Array.size_replicate];have:s.data.size=s.size:=rfl;omega
 have hh:(Lib.bytesWorld w 5 s).heap[w.heap.size]? = some (.cells (Lib.bytesCells w 5 s) 5 ((Lib.bytesCells w 5 s).size,(Lib.bytesCells w 5 s).size+1)):=by
  unfold Lib.bytesWorld World.freeze;rw [if_neg (by decide)];have h1:=heap_alloc_new w.drew (.cells (Lib.bytesCells w 5 s) 5);rw [World.size_drew] at h1;dsimp only;rw [Array.getElem?_modify,if_pos rfl,h1];simp
 refine .inr ⟨w.heap.size,_,_,_,by rw [hlen],Nat.le_refl _,hh, .inr (Nat.le_refl _),by omega,hcm,hsz,?_⟩;unfold Lib.bytesCells;rw [Array.toList_append,List.take_append_of_le_length (by simp),Array.toList_map,List.take_of_length_le (by simp)];rfl
set_option maxRecDepth 100000 in
set_option maxHeartbeats 1000000 in
theorem copyBytes_any (v:Value) (bs:List UInt8) (w:World) (hv:Rd w v bs) (hl:bs.length<=1000) :
 Calls Tryz.prog 156 #[v] w (NewBytesT w bs):=by
 obtain ⟨a,cap,rfl,hlc,hcm,hc⟩:=hv;by_cases h0:bs.length=0
 ·have hb:bs=[]:=List.length_eq_zero_iff.1 h0;subst hb;clear hc hlc hcm;go_enter Tryz.func156,Tryz.ntmps156
  go_wp2;go_ret;exact ⟨_,rfl,BytesT.nil _ _,Below.refl _ _⟩
 ·obtain ⟨b,off,rfl,hcell⟩:=hc.resolve_left h0;have hcv:Sem.run Tryz.prog (convert 39 9 (.slice (some ⟨b,off,none⟩) bs.length cap)) w=.ok (.string ⟨bs.toArray⟩) w:=
   run_convert_bytes_back (P:=Tryz.prog) w 39 9 5 ⟨b,off,none⟩ cap bs Tryz.underlying39 Tryz.underlying5 Tryz.underlying9 (fun j hj=>by
    rw [Addr_add];exact hcell j hj)
  have hcv2:=Lib.run_convert_string_bytes (P:=Tryz.prog) w 9 39 5 ⟨bs.toArray⟩ Tryz.underlying9 Tryz.underlying39 Tryz.underlying5;have h1:=Lib.hid (bytesT_world w ⟨bs.toArray⟩ (by show bs.toArray.size<=_;simp;omega));have hb:=Lib.hid (Joins.below_bytesWorld w.heap.size w 5 ⟨bs.toArray⟩ (Nat.le_refl _));have h0':¬ (bs.length:Int)=0:=by omega
  clear hcell hc hlc hcm;go_enter Tryz.func156,Tryz.ntmps156
  go_wp2;go_ret;exact ⟨_,rfl,h1.out,hb.out⟩
set_option maxHeartbeats 1000000 in
theorem sized_4 (w:World):Calls Tryz.prog 157 #[.int .i64 4] w fun e w'=>e=.returned (.bool true)/\w=w':=by
 go_enter Tryz.func157,Tryz.ntmps157
 go_wp2;go_ret;exact ⟨rfl,rfl⟩
set_option maxHeartbeats 1000000 in
theorem sized_8 (w:World):Calls Tryz.prog 157 #[.int .i64 8] w fun e w'=>e=.returned (.bool true)/\w=w':=by
 go_enter Tryz.func157,Tryz.ntmps157
 go_wp2;go_ret;exact ⟨rfl,rfl⟩
theorem sized_any (size:Nat) (hs:size=4\/size=8) (w:World):Calls Tryz.prog 157 #[.int .i64 (size:Int)] w fun e w'=>e=.returned (.bool true)/\w=w':=by
 rcases hs with rfl | rfl
 ·exact sized_4 w
 ·exact sized_8 w
set_option maxRecDepth 100000 in
set_option maxHeartbeats 2000000 in
theorem refPut_any (v:Value) (bs:List UInt8) (x size:Nat) (w:World) (hs:size=4\/size=8) (hx:x < 18446744073709551616) (hv:Rd w v bs) (hl:bs.length<=900) :
 Calls Tryz.prog 108 #[v, .int .u64 (x:Int), .int .i64 (size:Int)] w (NewBytesT w (bs++le x size)):=by
 have hcopy:=Lib.hid (copyBytes_any v bs w hv (by omega));have hsz:=Lib.hid (sized_any size hs);have hs8:size<=8:=by omega
 clear hv hs;go_enter Tryz.func108,Tryz.ntmps108
 go_wp2_with fail
 refine hcopy.out.mono ?_;rintro e w1 ⟨v1,rfl,hb1,hB1⟩;have HB1:=Lib.hid hb1;have HBe:=Lib.hid hB1;clear hb1 hB1 hcopy;go_wp2;go_loopw [1,7,8] (fun y out i wr=>∃ k:Nat,k<=size/\y=.int .u64 ((x / 256 ^ k:Nat):Int)/\i=.int .i64 (k:Int)/\BytesT wr w.heap.size out (bs++le x k)/\Below w.heap.size w wr) (fun _ _ i _=>size - (intOf i).toNat)
 case atStart=>exact ⟨0,Nat.zero_le _,by simp,rfl,by simpa [le] using HB1.out,HBe.out⟩
 case round=>
  obtain ⟨k,hk,rfl,rfl,hb2,hB2⟩:=hrel;have HB2:=Lib.hid hb2;have HBe2:=Lib.hid hB2;clear hb2 hB2;by_cases hlt:k < size
  ·have hz:x / 256 ^ k < 18446744073709551616:=Nat.lt_of_le_of_lt (Nat.div_le_self _ _) hx;have hzn:x / 256 ^ (k+1)=x / 256 ^ k / 256:=by rw [Nat.pow_succ,Nat.div_div_eq_div_mul]
   have HZ:Hid (le x (k+1)=le x k++[UInt8.ofNat (x / 256 ^ k)]):=Lib.hid rfl;have HZN:=Lib.hid hzn;have hlen:(bs++le x k).length<=100000:=by rw [List.length_append,le_length];omega
   have hsize:w.heap.size<=wr.heap.size:=HBe2.out.size;clear hzn;generalize x / 256 ^ k=z at *;go_wp2_with fail
   refine (hsz.out wr).mono ?_;rintro e w' ⟨rfl,rfl⟩;have hby:Hid (bv (UInt8.ofNat z)=.int .u8 ((z % 256:Nat):Int)):=Lib.hid (by unfold bv;simp);go_wp2_with (at_builtin;refine wpList_append_byteT rfl _ _ rfl w.heap.size _ _ rfl (HB2.out.alloc _) (UInt8.ofNat z) wr.heap.size 1 rfl ?c1 hlen ?c2 ?_)
   case c1=>rw [hby.out];simp
   case c2=>simp;omega
   intro v4 w4 hb4 hg4;have HB4:Hid (BytesT w4 w.heap.size v4 (bs++le x (k+1))):=Lib.hid (by rw [HZ.out,<- List.append_assoc];simpa using hb4);have HBe4:Hid (Below w.heap.size w w4):=Lib.hid ((HBe2.out.alloc hsize _).grown hg4 (by simp;omega) (fun k hk=>(HB2.out.lt k hk).1));clear hb4 hg4;go_wp2;go_roundw
   case rel=>exact ⟨k+1,by omega,by rw [HZN.out];rfl,by go_num,HB4.out,HBe4.out⟩
   case measure=>simp [intOf];omega
  ·go_wp2;obtain rfl:k=size:=by omega
   go_ret;exact ⟨_,rfl,HB2.out,HBe2.out⟩
set_option maxRecDepth 100000 in
set_option maxHeartbeats 2000000 in
theorem refEdge_any (e:Edg) (w:World):Calls Tryz.prog 73 #[.agg #[.int .u32 (e.t.toNat:Int), .int .u32 (e.h.toNat:Int), .int .u64 (e.x.toNat:Int), .int .u32 (e.m.toNat:Int)]] w (NewBytesT w e.bytes):=by
 have hput:=Lib.hid refPut_any;have h1:=e.t.toNat_lt;have h2:=e.h.toNat_lt;have h3:=e.x.toNat_lt;have h4:=e.m.toNat_lt;have HBY:Hid (e.bytes=le e.t.toNat 4++le e.h.toNat 4++le e.x.toNat 8++le e.m.toNat 4):=Lib.hid rfl;generalize e.bytes=bs at *;generalize e.t.toNat=et at *;generalize e.h.toNat=eh at *;generalize e.x.toNat=ex at *;generalize e.m.toNat=em at *;go_enter Tryz.func73,Tryz.ntmps73
 have HB0:Hid (Below w.heap.size w (w.alloc (.cells #[.int .u32 (et:Int), .int .u32 (eh:Int), .int .u64 (ex:Int), .int .u32 (em:Int)] 64))):=Lib.hid ((Below.refl _ _).alloc (Nat.le_refl _) _);have HX0:Hid ((w.alloc (.cells #[.int .u32 (et:Int), .int .u32 (eh:Int), .int .u64 (ex:Int), .int .u32 (em:Int)] 64)).heap[w.heap.size]? = some (.cells #[.int .u32 (et:Int), .int .u32 (eh:Int), .int .u64 (ex:Int), .int .u32 (em:Int)] 64)):=Lib.hid (heap_alloc_new w _);have hr0:=Lib.hid (BytesT.nil (w.alloc (.cells #[.int .u32 (et:Int), .int .u32 (eh:Int), .int .u64 (ex:Int), .int .u32 (em:Int)] 64)) w.heap.size).rd;go_wp2_with fail
 generalize w.alloc (.cells #[.int .u32 (et:Int), .int .u32 (eh:Int), .int .u64 (ex:Int), .int .u32 (em:Int)] 64)=w0 at *;have cellsOf:Hid (∀ W,Below w0.heap.size w0 W->W.cell? ⟨w.heap.size,0,none⟩=some (.int .u32 (et:Int))/\W.cell? ⟨w.heap.size,1,none⟩=some (.int .u32 (eh:Int))/\W.cell? ⟨w.heap.size,2,none⟩=some (.int .u64 (ex:Int))/\W.cell? ⟨w.heap.size,3,none⟩=some (.int .u32 (em:Int))):=Lib.hid (fun W hW=>by
  have hx:=(hW.block _ (lt_heap HX0.out)).trans HX0.out;refine ⟨?_,?_,?_,?_⟩<;>rw [cells_cell hx]<;>rfl)
 refine (hput.out (.slice none 0 0) [] et 4 w0 (.inl rfl) (by omega) hr0.out (by decide)).mono ?_;rintro e1 w1 ⟨v1,rfl,hb1,hB1⟩;have HE1:=Lib.hid hB1;have HR1:=Lib.hid hb1;obtain ⟨-,k1,-,-⟩:=cellsOf.out w1 HE1.out;clear hb1 hB1;go_wp2_with fail
 refine (hput.out v1 (le et 4) eh 4 w1 (.inl rfl) (by omega) HR1.out.rd (by rw [le_length];omega)).mono ?_;rintro e2 w2 ⟨v2,rfl,hb2,hB2⟩;have HE2:=Lib.hid (HE1.out.trans (hB2.mono HE1.out.size));have HR2:=Lib.hid hb2;obtain ⟨-,-,k2,-⟩:=cellsOf.out w2 HE2.out;clear hb2 hB2 k1;go_wp2_with fail
 refine (hput.out v2 (le et 4++le eh 4) ex 8 w2 (.inr rfl) (by omega) HR2.out.rd (by rw [List.length_append,le_length,le_length];omega)).mono ?_;rintro e3 w3 ⟨v3,rfl,hb3,hB3⟩;have HE3:=Lib.hid (HE2.out.trans (hB3.mono HE2.out.size));have HR3:=Lib.hid hb3;obtain ⟨-,-,-,k3⟩:=cellsOf.out w3 HE3.out;clear hb3 hB3 k2;go_wp2_with fail
 refine (hput.out v3 (le et 4++le eh 4++le ex 8) em 4 w3 (.inl rfl) (by omega) HR3.out.rd (by simp only [List.length_append,le_length];omega)).mono ?_;rintro e4 w4 ⟨v4,rfl,hb4,hB4⟩;have HE4:=Lib.hid (HE3.out.trans (hB4.mono HE3.out.size));have HR4:Hid (BytesT w4 w.heap.size v4 bs):=Lib.hid (by rw [HBY.out];exact hb4.base (Nat.le_trans HB0.out.size HE3.out.size));clear hb4 hB4 k3;go_wp2;go_ret;exact ⟨_,rfl,HR4.out,HB0.out.trans (HE4.out.mono HB0.out.size)⟩
end
section
open Go.RowKit Go.Maps
structure Held (w0 w:World) (pb db n:Nat) (o:Owner) (d:Dsk) (L:Logic):Prop where
 pool:PoolAt w pb db n o d L
 new:∀ x t,o x=some t->w0.heap.size<=x
 below:Below w0.heap.size w0 w
 armed:d.armed=0
 dead:d.dead=false
 quota:d.quota=131072
section
variable {S:Nat->Prop} {w0 w w':World} {pb db n:Nat} {o o':Owner} {d d':Dsk} {L L' L'':Logic}
theorem Held.moved (h:Held w0 w pb db n o d L) (hm:Moved S n pb db w o d w' o' d' L') (hs:∀ x,S x->w0.heap.size<=x):Held w0 w' pb db n o' d' L':=by
 have hz:=h.below.size;refine ⟨hm.pool,fun x t hx=>?_,?_,(hm.on.calm h.armed).1,(hm.on.calm h.armed).2 h.dead,hm.on.quota.trans h.quota⟩
 ·rcases Nat.lt_or_ge x w.heap.size with hl | hg
  ·rw [hm.grow x hl] at hx;exact h.new x t hx
  ·omega
 ·refine h.below.trans ⟨hm.turn.os,hm.turn.tape,hm.turn.output,hm.size,fun k hk=>hm.turn.block k (by omega) ?_⟩;rintro (⟨t,h1,h2⟩ | h1)
  ·have:=h.new k t h1;omega
  ·have:=hs k h1;omega
theorem Held.later (h:Held w0 w pb db n o d L) (hb:Below w.heap.size w w'):Held w0 w' pb db n o d L:=⟨h.pool.below hb,h.new,h.below.trans (hb.mono h.below.size),h.armed,h.dead,h.quota⟩
theorem Held.fine (h:Held w0 w pb db n o d L) (hm:Moved S n pb db w o d w' o' d' L') {B c:Nat} (he:c=0\/ErrN d d' B c) (hn:B<=131072):c=0:=by
 refine he.elim id fun he=>?_;rcases he with ⟨_,h1⟩ | ⟨_,h1⟩
 ·rw [h.quota] at h1;omega
 ·rw [(hm.on.calm h.armed).2 h.dead] at h1;cases h1
theorem Held.fine' (h:Held w0 w pb db n o d L) (hm:Moved S n pb db w o d w' o' d' L') {c:Nat} (he:c=0\/Err d d' L'' c) (hn:need L''<=131072):c=0:=
 h.fine hm (he.imp id fun e=>e.num hn) (Nat.le_refl _)
theorem sound_new (q n:Nat):Sound (Dsk.new q) (List.replicate n Frm.none) []:=by
 have hb:∀ fr∈List.replicate n Frm.none,fr=Frm.none:=fun fr h=>(List.mem_replicate.1 h).2;refine ⟨by simp,by simp [Dsk.new],fun x=>rfl,fun x h=>by simp [mget] at h,fun x ps fl h=>by simp [mget] at h,fun x f ls h=>by simp [mget] at h,fun fr h hf=>?_,fun fr h _=>hb fr h,fun i j fi fj h1 h2 hf=>?_,fun x s h=>by simp [Dsk.new] at h⟩
 ·rw [hb fr h] at hf;cases hf
 ·rw [hb fi (List.mem_of_getElem? h1)] at hf;cases hf
def RdE (w:World) (v:Value) (es:List Edg):Prop:=
 ∃ a cap,v=.slice a es.length cap/\(es.length=0\/∃ b off,a=some ⟨b,off,none⟩/\∀ (j:Nat) (x:Edg),es[j]? = some x->w.cell? ⟨b,off+j*4,none⟩=some (.int .u32 (x.t.toNat:Int))/\w.cell? ⟨b,off+j*4+1,none⟩=some (.int .u32 (x.h.toNat:Int))/\w.cell? ⟨b,off+j*4+2,none⟩=some (.int .u64 (x.x.toNat:Int))/\w.cell? ⟨b,off+j*4+3,none⟩=some (.int .u32 (x.m.toNat:Int)))
theorem RdE.below {w w':World} {v:Value} {es:List Edg} (h:RdE w v es) (hb:Below w.heap.size w w'):RdE w' v es:=by
 obtain ⟨a,cap,rfl,h | ⟨b,off,rfl,hc⟩⟩:=h
 ·exact ⟨a,cap,rfl, .inl h⟩
 ·refine ⟨_,cap,rfl, .inr ⟨b,off,rfl,fun j x hx=>?_⟩⟩;obtain ⟨h1,h2,h3,h4⟩:=hc j x hx;exact ⟨cellBelow hb h1,cellBelow hb h2,cellBelow hb h3,cellBelow hb h4⟩
end
end
section
open Go.RowKit Go.Maps
structure Kept (q:Nat) (w0 w:World) (pb db n:Nat) (o:Owner) (d:Dsk) (L:Logic):Prop where
 pool:PoolAt w pb db n o d L
 new:∀ x t,o x=some t->w0.heap.size<=x
 below:Below w0.heap.size w0 w
 armed:d.armed=0
 dead:d.dead=false
 quota:d.quota=q
section
variable {S:Nat->Prop} {q:Nat} {w0 w w':World} {pb db n:Nat} {o o':Owner} {d d':Dsk} {L L' L'':Logic}
theorem Kept.later (h:Kept q w0 w pb db n o d L) (hb:Below w.heap.size w w'):Kept q w0 w' pb db n o d L:=⟨h.pool.below hb,h.new,h.below.trans (hb.mono h.below.size),h.armed,h.dead,h.quota⟩
theorem Kept.count (h:Kept q w0 w pb db n o d L):d.files.length=L.length:=by
 obtain ⟨_,_,_,_,_,_,_,g⟩:=h.pool;have hp:(d.files.map (·.1)).Perm (L.map (·.1)):=by
  rw [List.perm_ext_iff_of_nodup g.dkeys g.keys];intro x;rw [mem_keys,mem_keys,g.names x]
 have:=hp.length_eq;simpa using this
end
end
section
open Go.RowKit Go.Maps
def nmX:Name:=⟨#[120]⟩
def RawL (es:List Edg) (L:Logic):Prop:=(∃ fl,mget L nmX=some (edgeFile es fl))/\(∀ y,y≠nmX->mget L y=none)/\need L<=4*es.length
theorem only_mput {L:Logic} {nm:Name} {f:LFile} (h:∀ y,y≠nm->mget L y=none):mput L nm f=[(nm,f)]:=by
 unfold mput;have:mdel L nm=[]:=by
  rw [List.eq_nil_iff_forall_not_mem];rintro ⟨y,g⟩ hy;have h1:y∈(mdel L nm).map (·.1):=List.mem_map.2 ⟨_,hy,rfl⟩;rw [mem_keys,mget_mdel] at h1;split at h1
  ·cases h1
  ·rename_i hne
   rw [h y (by first | exact hne | exact fun e=>hne e.symm)] at h1;cases h1
 rw [this]
theorem RawL.add {es:List Edg} {x:Edg} {L:Logic} (h:RawL es L):RawL (es++[x]) (mput L nmX (edgeFile (es++[x]) false)):=by
 refine ⟨⟨false,by rw [mget_mput,if_pos rfl]⟩,fun y hy=>by rw [only_mput h.2.1];rw [<- only_mput (L:=[]) (fun _ _=>rfl),mget_mput,if_neg hy];rfl,?_⟩;rw [only_mput h.2.1,need_cons];have:=edgeFile_need (es++[x]) false;show _+0<=_;omega
def RawPost (w:World) (n:Nat) (es:List Edg) (e:Ending) (w':World):Prop:=
 ∃ db pb o d L,e=.returned (.tuple #[ptrTo db,ptrTo pb])/\Held w w' pb db n o d L/\RawL es L
set_option maxRecDepth 100000 in
set_option maxHeartbeats 4000000 in
theorem raw_any (HW:WriteSaid) (n:Nat) (h1:1<=n) (h2:n<=4096) (v:Value) (es:List Edg) (w:World) (hv:RdE w v es) (hl:es.length<=10000) :
 Calls Tryz.prog 37 #[.int .i64 (n:Int),v] w (RawPost w n es):=by
 have hnd:Hid (Calls Tryz.prog 69 #[.int .i64 131072] w fun e w'=>∃ db o,e=.returned (.tuple #[ptrTo db, .int .i64 0])/\DiskAt w' db o (Dsk.new 131072)/\Below w.heap.size w w'/\∀ x t,o x=some t->w.heap.size<=x):=Lib.hid (newDisk_any 131072 (by decide) w);have hnp:Hid (∀ W db o,DiskAt W db o (Dsk.new 131072)->Calls Tryz.prog 70 #[ptrTo db, .int .i64 (n:Int)] W (NewPoolPost W db n o (Dsk.new 131072) [])):=Lib.hid (fun W db o h=>newPool_any h n h1 h2 (sound_new _ n));have HV:=Lib.hid hv;obtain ⟨a,cap,rfl,-⟩:=hv;unfold ptrTo at *;go_enter Tryz.func37,Tryz.ntmps37
 go_wp2_with fail
 refine hnd.out.mono ?_;rintro e w1 ⟨db,o1,rfl,hd1,hb1,hn1⟩;have hcp:=Lib.hid (hnp.out w1 db o1 hd1);have HB1:=Lib.hid hb1;have HN1:=Lib.hid hn1;clear hd1 hb1 hn1 hnd hnp;unfold ptrTo at *;go_wp2_with fail
 refine hcp.out.mono ?_;rintro e w2 ⟨pb,o2,rfl,hp2,hb2,hg2,hpb⟩;have HH2:Hid (Held w w2 pb db n o2 (Dsk.new 131072) []):=Lib.hid ⟨hp2,fun x t hx=>by
  rcases Nat.lt_or_ge x w1.heap.size with hl | hg
  ·rw [hg2 x hl] at hx;exact HN1.out x t hx
  ·exact Nat.le_trans HB1.out.size hg,HB1.out.trans (hb2.mono HB1.out.size),rfl,rfl,rfl⟩
 clear hp2 hb2 hg2 hpb hcp;have hc0:createCode (Dsk.new 131072) [] nmX=0:=by decide
 have hcr:=Lib.hid (create_pool HH2.out.pool nmX (by decide));unfold CreatePost at hcr;rw [hc0] at hcr;simp only [if_true] at hcr;clear hc0;have HOP:Hid (∀ W o' d' L',PoolAt W pb db n o' d' L'->d'.dead=false->RawL [] L'->Calls Tryz.prog 67 #[ptrTo pb, .string nmX, .int .i64 20] W (StreamOpenPost W pb nmX 20 0)):=Lib.hid (fun W o' d' L' hp hd hr=>by
  have h3:=streamOpen_any (sz:=20) hp nmX (by decide) (by decide) (by decide);obtain ⟨fl,hfl⟩:=hr.1;rw [pfOpen_paged hp hfl,hd] at h3;exact h3)
 have HADD:Hid (∀ W o' d' L' sb rv (x:Edg) (k:Nat),PoolAt W pb db n o' d' L'->StreamAt W sb pb nmX 20->o' sb=none->RawL (es.take k) L'->Rd W rv x.bytes->(∀ y,rv.ownBlock=some y->o' y=none)->Calls Tryz.prog 72 #[ptrTo sb,rv] W (LaidPost (fun _=>False) n pb db W o' d' L' (mput L' nmX (edgeFile (es.take k++[x]) false)))):=Lib.hid (fun W o' d' L' sb rv x k hp hst ho hr hrd hro=>by
  obtain ⟨fl,hfl⟩:=hr.1;have h3:=streamAdd_any HW hp hst ho (by decide) (by decide) hfl (sized_edges _) (by rw [List.length_map,List.length_take];omega) hrd x.bytes_length hro;unfold edgeFile;rw [List.map_append];exact h3)
 have hraw0:Hid (RawL [] (mput [] nmX (.inl (([]:List Pg),true)))):=Lib.hid ⟨⟨true,by rw [mget_mput,if_pos rfl];rfl⟩,fun y hy=>by rw [mget_mput,if_neg hy];rfl,Nat.le_refl _⟩;unfold ptrTo nmX at *;go_wp2_with fail
 refine hcr.out.mono ?_;rintro e w3 ⟨d3,o3,rfl,hm3,hx3,-⟩;have HD3:=Lib.hid (hx3 trivial);have HH3:=Lib.hid (HH2.out.moved hm3 (fun _ h=>h.elim));clear hm3 hx3 hcr;have hop:=Lib.hid (HOP.out w3 o3 d3 _ HH3.out.pool HD3.out hraw0.out);go_wp2_with fail
 refine hop.out.mono ?_;rintro e w4 ⟨v4,rfl,hb4,hs4,-⟩;obtain ⟨sb,rfl,hst4,hsb⟩:=hs4 rfl;have HST4:=Lib.hid hst4;have HOS4:Hid (o3 sb=none):=Lib.hid (HH3.out.pool.fresh hsb);have HH4:=Lib.hid (HH3.out.later hb4);clear hs4 hst4 hsb hb4 hop;unfold ptrTo at *;obtain ⟨M,hM⟩:∃ M,M=es.length:=⟨_,rfl⟩;rw [<- hM] at hl;have HV':=HV;rw [<- hM] at HV' ⊢;have HME:=Lib.hid hM;clear hM HV;go_wp2;go_loopw [10] (fun i wr=>∃ (k:Nat) (d':Dsk) (o':Owner) (L':Logic),k<=M/\i=.int .i64 (k:Int)/\Held w wr pb db n o' d' L'/\RawL (es.take k) L'/\StreamAt wr sb pb ⟨#[120]⟩ 20/\o' sb=none) (fun i _=>M - (intOf i).toNat)
 case atStart=>exact ⟨0,d3,o3,_,Nat.zero_le _,rfl,HH4.out,hraw0.out,HST4.out,HOS4.out⟩
 case round=>
  obtain ⟨k,d5,o5,L5,hk,rfl,hh5,hr5,hst5,hos5⟩:=hrel;have HH5:=Lib.hid hh5;have HR5:=Lib.hid hr5;have HST5:=Lib.hid hst5;have HOS5:=Lib.hid hos5;clear hh5 hr5 hst5 hos5;by_cases hlt:k < M
  ·have hkl:k < es.length:=by rw [<- HME.out];exact hlt
   have hx:es[k]? = some es[k]:=List.getElem?_eq_getElem hkl;have HTK:Hid (es.take (k+1)=es.take k++[es[k]]):=Lib.hid (List.take_succ_eq_append_getElem hkl);obtain ⟨a',cap',hve,hce⟩:=HV'.out;obtain ⟨rfl,-,rfl⟩:a=a'/\M=es.length/\cap=cap':=by simpa using hve
   obtain ⟨b,off,rfl,hcf⟩:=hce.resolve_left (by omega);obtain ⟨q0,q1,q2,q3⟩:=hcf k _ hx;generalize es[k]=x at *;clear hce hcf hve hx hkl;have z0:=cellBelow HH5.out.below q0;have z1:=cellBelow HH5.out.below q1;have z2:=cellBelow HH5.out.below q2;have z3:=cellBelow HH5.out.below q3;clear q0 q1 q2 q3;have hre:=Lib.hid (refEdge_any x wr);go_wp2_with fail
   refine hre.out.mono ?_;rintro e w6 ⟨v6,rfl,hb6,hB6⟩;have hadd:=Lib.hid (HADD.out w6 o5 d5 L5 sb v6 x k (HH5.out.pool.below hB6) (HST5.out.below hB6) HOS5.out HR5.out hb6.rd (fun y hy=>HH5.out.pool.fresh (hb6.lt y hy).1));have HH6:=Lib.hid (HH5.out.later hB6);have HST6:=Lib.hid (HST5.out.below hB6);clear hb6 hB6 hre z0 z1 z2 z3;go_wp2_with fail
   refine hadd.out.mono ?_;rintro e w7 ⟨c7,d7,o7,rfl,hm7,he7⟩;have hra:=HR5.out.add (x:=x);have hc7:c7=0:=HH6.out.fine' hm7 he7 (by
    have:=HR5.out.2.2;rw [List.length_take] at this;omega)
   subst hc7;rw [if_pos rfl] at hm7;rw [<- HTK.out] at hra hm7;have HH7:=Lib.hid (HH6.out.moved hm7 (fun _ h=>h.elim));have HR7:=Lib.hid hra;have HST7:=Lib.hid (HST6.out.moved hm7 HOS5.out (fun h=>h));have HOS7:=Lib.hid (hm7.free HST6.out.lt HOS5.out);clear hm7 he7 hra hadd HH6 HST6;go_wp2;go_roundw
   case rel=>exact ⟨k+1,d7,o7,_,by omega,by go_num,HH7.out,HR7.out,HST7.out,HOS7.out⟩
   case measure=>simp [intOf];omega
  ·go_wp2;go_returns
   have hkM:k=es.length:=by rw [<- HME.out];omega
   exact ⟨db,pb,o5,d5,L5,rfl,HH5.out,by have:=HR5.out;rwa [List.take_of_length_le (by omega)] at this⟩
end
end Go.Proofs.YthkkgdpomhhjjaaGreatDoor
namespace Go.Proofs
open Go.Shelf
def Tryz.sortStrs_ren:Go.Shelf.Ren:=⟨fun | 190=>74 | 125=>87 | 258=>109 | 128=>135 | 129=>136 | 302=>158 | 303=>159 | 304=>160 | 305=>161 | 306=>162 | 307=>163 | 308=>164 | 309=>165 | 310=>166 | 333=>210 | 329=>192 | 330=>193 | 334=>211 | 335=>212 | 336=>213 | 344=>258 | n=>n,fun | 31=>91 | 9=>9 | 3=>3 | 46=>159 | 0=>0 | 51=>26 | 53=>62 | 4=>4 | 183=>221 | 182=>220 | 131=>225 | 5=>5 | 218=>280 | 222=>284 | 228=>313 | 229=>98 | n=>n,fun | n=>n⟩
theorem Tryz.sortStrs:Go.Proofs.Lays.n190 Tryz.prog Tryz.sortStrs_ren:={
 mixed:=by kernel_rfl
 f125:=Tryz.func87.trans (congrArg some (by kernel_rfl))
 f128:=Tryz.func135.trans (congrArg some (by kernel_rfl))
 f129:=Tryz.func136.trans (congrArg some (by kernel_rfl))
 f190:=Tryz.func74.trans (congrArg some (by kernel_rfl))
 f258:=Tryz.func109.trans (congrArg some (by kernel_rfl))
 f302:=Tryz.func158.trans (congrArg some (by kernel_rfl))
 f303:=Tryz.func159.trans (congrArg some (by kernel_rfl))
 f304:=Tryz.func160.trans (congrArg some (by kernel_rfl))
 f305:=Tryz.func161.trans (congrArg some (by kernel_rfl))
 f306:=Tryz.func162.trans (congrArg some (by kernel_rfl))
 f307:=Tryz.func163.trans (congrArg some (by kernel_rfl))
 f308:=Tryz.func164.trans (congrArg some (by kernel_rfl))
 f309:=Tryz.func165.trans (congrArg some (by kernel_rfl))
 f310:=Tryz.func166.trans (congrArg some (by kernel_rfl))
 f329:=Tryz.func192.trans (congrArg some (by kernel_rfl))
 f330:=Tryz.func193.trans (congrArg some (by kernel_rfl))
 f333:=Tryz.func210.trans (congrArg some (by kernel_rfl))
 f334:=Tryz.func211.trans (congrArg some (by kernel_rfl))
 f335:=Tryz.func212.trans (congrArg some (by kernel_rfl))
 f336:=Tryz.func213.trans (congrArg some (by kernel_rfl))
 f344:=Tryz.func258.trans (congrArg some (by kernel_rfl))
 t0:=Tryz.underlying0
 a0:=Tryz.isAgg0
 z0:=Tryz.sizeOf0
 v0:=Tryz.zeroValue0
 t3:=Tryz.underlying3
 a3:=Tryz.isAgg3
 z3:=Tryz.sizeOf3
 v3:=Tryz.zeroValue3
 t4:=Tryz.underlying4
 a4:=Tryz.isAgg4
 z4:=Tryz.sizeOf4
 v4:=Tryz.zeroValue4
 t5:=Tryz.underlying5
 a5:=Tryz.isAgg5
 z5:=Tryz.sizeOf5
 v5:=Tryz.zeroValue5
 t9:=Tryz.underlying9
 a9:=Tryz.isAgg9
 z9:=Tryz.sizeOf9
 v9:=Tryz.zeroValue9
 t31:=Tryz.underlying91
 a31:=Tryz.isAgg91
 z31:=Tryz.sizeOf91
 v31:=Tryz.zeroValue91
 t46:=Tryz.underlying159
 a46:=Tryz.isAgg159
 z46:=Tryz.sizeOf159
 v46:=Tryz.zeroValue159
 t51:=Tryz.underlying26
 a51:=Tryz.isAgg26
 z51:=Tryz.sizeOf26
 v51:=Tryz.zeroValue26
 t53:=Tryz.underlying62
 a53:=Tryz.isAgg62
 z53:=Tryz.sizeOf62
 v53:=Tryz.zeroValue62
 t131:=Tryz.underlying225
 a131:=Tryz.isAgg225
 z131:=Tryz.sizeOf225
 v131:=Tryz.zeroValue225
 t182:=Tryz.underlying220
 a182:=Tryz.isAgg220
 z182:=Tryz.sizeOf220
 v182:=Tryz.zeroValue220
 t183:=Tryz.underlying221
 a183:=Tryz.isAgg221
 z183:=Tryz.sizeOf221
 v183:=Tryz.zeroValue221
 t218:=Tryz.underlying280
 a218:=Tryz.isAgg280
 z218:=Tryz.sizeOf280
 v218:=Tryz.zeroValue280
 t222:=Tryz.underlying284
 a222:=Tryz.isAgg284
 z222:=Tryz.sizeOf284
 v222:=Tryz.zeroValue284
 t228:=Tryz.underlying313
 a228:=Tryz.isAgg313
 z228:=Tryz.sizeOf313
 v228:=Tryz.zeroValue313
 t229:=Tryz.underlying98
 a229:=Tryz.isAgg98
 z229:=Tryz.sizeOf98
 v229:=Tryz.zeroValue98 }
end Go.Proofs
namespace Go.Proofs.YthkkgdpomhhjjaaGreatDoor
section
open Go.RowKit Go.Maps Go.ChangeMaps
theorem encStr_name (l:List Name):(l.map (fun x:Name=>x.data.toList)).map Go.Proofs.encStr=l.map Value.string:=by
 rw [List.map_map];congr 1
def SortStrPost (w:World) (base g len cap:Nat) (ns:List Name) (e:Ending) (w':World):Prop:=
 ∃ ts:List Name,e=.returned (.tuple #[])/\ts.Perm ns/\w'.ownsRow base 9 1 (.slice (some ⟨g,0,none⟩) len cap) len (ts.map Value.string)/\Turn (·=g) w w'
theorem names_of (l:List (List UInt8)):(l.map fun b=>(⟨b.toArray⟩:Name)).map (fun x:Name=>x.data.toList)=l:=by
 rw [List.map_map];conv=>rhs;rw [<- List.map_id l]
 congr 1
theorem sortStrs_any {w:World} {base g len cap:Nat} {ns:List Name} (hl:ns.length=len) (hbig:len < 4611686018427387904) (hown:w.ownsRow base 9 1 (.slice (some ⟨g,0,none⟩) len cap) len (ns.map Value.string)) :
 Calls Tryz.prog 74 #[.slice (some ⟨g,0,none⟩) len cap] w (SortStrPost w base g len cap ns):=by
 obtain ⟨hlen,⟨h0,_⟩ | ⟨g',cap',cur,hv,hg,hh,hn,hm,hcs,hx⟩⟩:=hown
 ·cases h0
 cases hv;rw [Nat.mul_one] at hx;have hH:=holds_of_block Go.Proofs.encStr (ss:=ns.map fun x:Name=>x.data.toList) hh (by rw [encStr_name,List.length_map,hl];exact hx);have hcon:=Any.slices_Sort_string Tryz.sortStrs g 0 cap (ns.map fun x:Name=>x.data.toList) w hH (Array.getElem?_eq_some_iff.1 hh).1 (by rw [List.length_map,hl];exact hbig);rw [List.length_map,hl] at hcon;refine hcon.mono ?_;rintro e w' ⟨rfl,n,os,rfl⟩;have hp:((ns.map fun x:Name=>x.data.toList).mergeSort fun x y=>decide (x<=y)).Perm (ns.map fun x:Name=>x.data.toList):=List.mergeSort_perm _ _;generalize ((ns.map fun x:Name=>x.data.toList).mergeSort fun x y=>decide (x<=y))=ts at *;refine ⟨ts.map fun b=>(⟨b.toArray⟩:Name),rfl,?_,?_,turn_sorted Go.Proofs.encStr _⟩
 ·have h1:=hp.map (fun b=>(⟨b.toArray⟩:Name));rw [List.map_map] at h1;have:((fun b=>(⟨b.toArray⟩:Name)) ∘ fun x:Name=>x.data.toList)=id:=by
   funext x
   simp
  rw [this,List.map_id] at h1;exact h1
 ·have h2:=ownsRow_sorted (base:=base) (g:=g) (cap:=cap) (n:=n) (e:=9) (os:=os) Go.Proofs.encStr (ss:=ns.map fun x:Name=>x.data.toList) (ts:=ts) hp.length_eq hg hh (by rw [List.length_map,hl];exact hn) hm hcs;rw [List.length_map,hl,<- names_of ts,encStr_name,names_of] at h2;exact h2
def NamesPost (w:World) (d:Dsk) (e:Ending) (w':World):Prop:=
 ∃ (v:Value) (ns:List Name),e=.returned v/\ns.Perm (d.files.map (·.1))/\w'.ownsRow (w.heap.size+1) 9 1 v ns.length (ns.map Value.string)/\Below w.heap.size w w'
set_option maxRecDepth 100000 in
set_option maxHeartbeats 2000000 in
theorem names_any {w:World} {db:Nat} {o:Owner} {d:Dsk} (h:DiskAt w db o d) (hn:d.files.length<=1000) :
 Calls Tryz.prog 38 #[ptrTo db] w (NamesPost w d):=by
 obtain ⟨mf,ml,l,h⟩:=h;have HD:=Lib.hid h;have hstrip:d.files.map (·.1)=l.map (·.1):=by rw [<- h.strip,List.map_map];rfl
 have HN:Hid (l.length<=1000):=Lib.hid (by rw [<- h.strip,List.length_map] at hn;exact hn);unfold NamesPost;rw [hstrip];obtain ⟨⟨hc0,hc1,hc2,hc3,hc4⟩,hf2,hf3,hf4⟩:=h.head.cells;clear h hc1 hc2 hc3 hc4 hf2 hf3 hf4 hstrip hn;unfold ptrTo;go_enter Tryz.func38,Tryz.ntmps38
 go_wp2_with (at_range;refine wpList_rng _ rfl _ _ rfl 109 Tryz.underlying110 mf l rfl HD.out.files ?_;intro ob hi0)
 go_frame
 have hmf:=HD.out.owned _ _ HD.out.omf;go_loopw [3] (fun v wr=>∃ (todo:List (Name × (Nat × DFile))) (acc:List Name),wr.ownsRow (w.heap.size+1) 9 1 v acc.length (acc.map Value.string)/\IterAt Tryz.prog 9 Value.string (fun x:Nat × DFile=>ptrTo x.1) wr mf w.heap.size l todo/\Below w.heap.size w wr/\Hid ((acc++todo.map (·.1)).Perm (l.map (·.1)))) (fun _ wr=>wr.rangeLeft mf w.heap.size)
 case atStart=>exact ⟨_,[],⟨rfl, .inl ⟨rfl,rfl⟩⟩,hi0,(Below.refl _ _).alloc (Nat.le_refl _) _,Lib.hid (List.Perm.refl _)⟩
 case round=>
  generalize u3=v at *;obtain ⟨todo,acc,hr,hi,hb,hk⟩:=hrel;have HB:=Lib.hid hb;have HR:=Lib.hid hr;clear hb hr hi0;go_wp2_with (at_next;refine wpList_nxt _ rfl _ rfl mf w.heap.size l todo rfl hi ?_ ?_)
  ·rintro rfl;have HK:Hid (acc.Perm (l.map (·.1))):=Lib.hid (by simpa using hk.out);have HL:Hid (acc.length<=1000):=Lib.hid (by
    have h1:=HK.out.length_eq;have h2:=HN.out;rw [List.length_map] at h1;omega)
   clear hk hi;obtain ⟨hlen,⟨rfl,h0⟩ | ⟨g,cap,cur,rfl,hg,hh,hnc,hcm,hcs,hx⟩⟩:=HR.out
   ·have HC:=Lib.hid (Any.slices_Sort_string_none Tryz.sortStrs none 0 wr);go_wp2_with fail
    refine HC.out.mono ?_;rintro e w2 ⟨rfl,rfl⟩;go_wp2;go_ret;exact ⟨_,acc,rfl,HK.out,HR.out,HB.out⟩
   ·have HC:=Lib.hid (sortStrs_any rfl (by have:=HL.out;omega) HR.out);clear hlen hh hcs hx;go_wp2_with fail
    refine HC.out.mono ?_;rintro e w2 ⟨ts,rfl,hp,hr2,ht⟩;have HP2:=Lib.hid hp;have HR2:=Lib.hid hr2;have HT2:=Lib.hid ht;clear hp hr2 ht HC;go_wp2;go_ret;refine ⟨_,ts,rfl,HP2.out.trans HK.out,by rw [HP2.out.length_eq];exact HR2.out,?_⟩;have h0:Turn (fun x=>w.heap.size<=x) w wr:=Turn.ofBelow HB.out;exact (h0.trans HT2.out (fun x hx e=>by omega)).below (Nat.le_refl _) (fun _ h=>h)
  ·intro nm pf f rs w1 ob1 hp hal hi1 hen;have hb1:Below w.heap.size w (setBlock w1 w.heap.size ob1):=by
    have:Turn (fun x=>w.heap.size<=x) w (setBlock w1 w.heap.size ob1):=by
     have h0:Turn (fun x=>w.heap.size<=x) w wr:=Turn.ofBelow HB.out;rcases hal with rfl | rfl
     ·exact h0.setBlock _ _ (.inl (Nat.le_refl _))
     ·exact h0.drew.setBlock _ _ (.inl (Nat.le_refl _))
    exact this.below (Nat.le_refl _) (fun _ h=>h)
   have hr1:(setBlock w1 w.heap.size ob1).ownsRow (w.heap.size+1) 9 1 v acc.length (acc.map Value.string):=by
    refine ownsRow_heap HR.out (fun x hx=>?_);have:=ownsRow_block HR.out x hx;have hne:x≠w.heap.size:=by omega
    rcases hal with rfl | rfl
    ·exact heap_setBlock_none _ hne
    ·exact heap_setBlock_none _ hne
   have HP:=Lib.hid hp;have HI:=Lib.hid hi;have HR1:=Lib.hid hr1;have HB1:=Lib.hid hb1;have HLE:Hid (acc.length<=1000/\w.heap.size+1<=(setBlock w1 w.heap.size ob1).heap.size):=Lib.hid ⟨by
    have h1:=hk.out.length_eq;have h2:=HN.out;simp only [List.length_append,List.length_map] at h1;omega,hi1.lt⟩
   clear hp hi hb1 hr1;unfold ptrTo at hen;generalize hW:setBlock w1 w.heap.size ob1=W at hen HR1 HB1 hi1 HLE ⊢;clear hW;have HI1:=Lib.hid hi1;clear hi1;go_wp2_with (refine wpList_append_str rfl _ _ rfl (w.heap.size+1) _ acc rfl HR1.out nm 1 rfl (by have:=HLE.out;omega) HLE.out.2 (fun v2 w2 h2 ha=>?_))
   obtain ⟨⟨q1,q2,q3,q4,q5⟩,-⟩:=ha;have hsz:(W.alloc (.cells #[.string nm] 9)).heap.size=W.heap.size+1:=by simp
   have hlt:=HLE.out.2;have hblk:∀ x,x<=w.heap.size->w2.heap[x]? = W.heap[x]? := fun x hx=>by
    rw [q5 x (by rw [hsz];omega) (fun e=>by have:=ownsRow_block HR1.out x (by first | exact e | exact e.symm);omega)];exact (MapKept.heap_alloc W _).2 _ (by omega)
   have hi2:IterAt Tryz.prog 9 Value.string (fun x:Nat × DFile=>ptrTo x.1) w2 mf w.heap.size l rs:=HI1.out.kept (hblk _ (by omega)) (hblk _ (Nat.le_refl _));refine ⟨⟨rs,acc++[nm],h2,hi2,?_,Lib.hid ?_⟩,?_⟩
   ·refine HB1.out.trans ⟨by rw [q1];rfl,by rw [q2];rfl,by rw [q3];rfl,by rw [hsz] at q4;omega,fun k hk=>hblk k (by omega)⟩
   ·have h1:=(HP.out.map (·.1)).append_left acc;simp only [List.map_cons] at h1;rw [List.append_assoc];exact h1.symm.trans hk.out
   ·have e2:=HP.out.length_eq;rw [List.length_cons] at e2;rw [hi2.left,HI.out.left];omega
end
section
open Go.RowKit Go.Maps
theorem names_kept {q:Nat} {w0 w:World} {pb db n:Nat} {o:Owner} {d:Dsk} {L:Logic} (h:Kept q w0 w pb db n o d L) (hl:L.length<=1000) :
 Calls Tryz.prog 38 #[ptrTo db] w fun e w'=>∃ a cap,e=.returned (.slice a L.length cap)/\Kept q w0 w' pb db n o d L:=by
 have hc:=h.count;have hd:DiskAt w db o d:=by
  obtain ⟨_,_,_,_,_,g,_,_⟩:=h.pool;exact g.disk
 refine (names_any hd (by omega)).mono ?_;rintro e w' ⟨v,ns,rfl,hp,hr,hb⟩;have hlen:ns.length=L.length:=by
  have:=hp.length_eq;rw [List.length_map] at this;omega
 rw [hlen] at hr;obtain ⟨a,cap,rfl⟩:=ownsRow_slice hr;exact ⟨a,cap,rfl,h.later hb⟩
end
section
open Go.ChangeShapes Go.WideShapes Go.ChangeAt Go.RowKit Go.Joins
theorem laidOutE:laidOutB Tryz.prog=true:=by kernel_rfl
theorem spot_noneE {w:World} {a:Addr} {v:Value} (h:w.cell? a=some v):a.spot=none:=by
 obtain ⟨b,o,s⟩:=a;cases s with
 | none=>rfl
 | some s=>
   unfold World.cell? at h;simp at h;split at h<;>cases h
theorem u32_ofE {z:Int} (h:(Lit.int .u32 z).wf=true):z=((UInt32.ofNat z.toNat).toNat:Int):=by
 simp [Lit.wf] at h;have h0:IntKind.u32.min=0:=rfl;have h1:IntKind.u32.max=4294967295:=rfl;rw [h0,h1] at h;rw [UInt32.toNat_ofNat'];omega
theorem u64_ofE {z:Int} (h:(Lit.int .u64 z).wf=true):z=((UInt64.ofNat z.toNat).toNat:Int):=by
 simp [Lit.wf] at h;have h0:IntKind.u64.min=0:=rfl;have h1:IntKind.u64.max=18446744073709551615:=rfl;rw [h0,h1] at h;rw [UInt64.toNat_ofNat'];omega
theorem u8_ofE {z:Int} (h:(Lit.int .u8 z).wf=true):∃ k:Nat,k < 256/\z=(k:Int):=by
 simp [Lit.wf] at h;have h0:IntKind.u8.min=0:=rfl;have h1:IntKind.u8.max=255:=rfl;rw [h0,h1] at h;exact ⟨z.toNat,by omega,by omega⟩
theorem cellsEdge:Tryz.prog.cellsOf 64=4:=by kernel_rfl
theorem cellsU32e:Tryz.prog.cellsOf 26=1:=by kernel_rfl
theorem cellsU64e:Tryz.prog.cellsOf 62=1:=by kernel_rfl
set_option maxRecDepth 100000 in
theorem opened_edges {H:Type} {enc:TypeId × Value->H} {W:World} {sp:Nat->Bool} {a:Option Addr} {len cap:Nat} {d:DataW H} {p:List MemPlace} (h:DataW.Trod enc Tryz.prog W 0 sp true 22 (.slice a len cap) d p) :
 ∃ vs,RdE W (.slice a len cap) vs:=by
 obtain ⟨fuel,hf⟩:=h;rcases Deep.open_slice Tryz.underlying22 hf with ⟨hcs,-⟩ | ⟨a',len',cap',m,n,D,Pl,hcs,-,hl,-,hm,-,hx⟩
 ·simp [Value.cells] at hcs;obtain ⟨rfl,rfl,rfl⟩:=hcs;exact ⟨[],none,0,rfl, .inl rfl⟩
 ·simp [Value.cells] at hcs;obtain ⟨rfl,rfl,rfl⟩:=hcs;have hlm:len<=m:=by rw [hm];split<;>omega
  rw [cellsEdge] at hx;have each:∀ i,i < len->∃ x:Edg,W.cell? (a'.add (i*4))=some (.int .u32 (x.t.toNat:Int))/\W.cell? (a'.add (i*4+1))=some (.int .u32 (x.h.toNat:Int))/\W.cell? (a'.add (i*4+2))=some (.int .u64 (x.x.toNat:Int))/\W.cell? (a'.add (i*4+3))=some (.int .u32 (x.m.toNat:Int)):=by
   intro i hi;obtain ⟨cs',h1,h2⟩:=hx i (by omega);obtain ⟨_,hlen,hcell⟩:=World.cells?_some h1;obtain ⟨xs,k,hk,hxy,_,hxl,hf⟩:=DataW.trod_struct Tryz.underlying64 h2;match xs,hxl,cs',hlen with
   | [y0,y1,y2,y3],_,[v0,v1,v2,v3],_=>
     have g0:=hf 0 _ rfl;have g1:=hf 1 _ rfl;have g2:=hf 2 _ rfl;have g3:=hf 3 _ rfl;simp [cellsU32e,cellsU64e] at g0 g1 g2 g3;obtain ⟨n0,q0,-,w0⟩:=DataW.trod_int Tryz.underlying26 g0;obtain ⟨n1,q1,-,w1⟩:=DataW.trod_int Tryz.underlying26 g1;obtain ⟨n2,q2,-,w2⟩:=DataW.trod_int Tryz.underlying62 g2;obtain ⟨n3,q3,-,w3⟩:=DataW.trod_int Tryz.underlying26 g3;obtain ⟨rfl⟩:=q0;obtain ⟨rfl⟩:=q1;obtain ⟨rfl⟩:=q2;obtain ⟨rfl⟩:=q3;have e0:=hcell 0 (by omega);have e1:=hcell 1 (by omega);have e2:=hcell 2 (by omega);have e3:=hcell 3 (by omega);rw [Deep.add_add] at e0 e1 e2 e3;exact ⟨⟨UInt32.ofNat n0.toNat,UInt32.ofNat n1.toNat,UInt64.ofNat n2.toNat,UInt32.ofNat n3.toNat⟩,by rw [<- u32_ofE w0];simpa using e0,by rw [<- u32_ofE w1];simpa using e1,by rw [<- u64_ofE w2];simpa using e2,by rw [<- u32_ofE w3];simpa using e3⟩
  have hv:∃ vs:List Edg,vs.length=len/\∀ (j:Nat) (x:Edg),vs[j]? = some x->W.cell? (a'.add (j*4))=some (.int .u32 (x.t.toNat:Int))/\W.cell? (a'.add (j*4+1))=some (.int .u32 (x.h.toNat:Int))/\W.cell? (a'.add (j*4+2))=some (.int .u64 (x.x.toNat:Int))/\W.cell? (a'.add (j*4+3))=some (.int .u32 (x.m.toNat:Int)):=by
   clear hx hf;generalize len=N at *;clear hl hm hlm;induction N with
   | zero=>exact ⟨[],rfl,fun j x hj=>by cases hj⟩
   | succ N ih=>
     obtain ⟨vs,h1,h2⟩:=ih (fun i hi=>each i (by omega));obtain ⟨x,hx⟩:=each N (by omega);refine ⟨vs++[x],by simp [h1],fun j y hj=>?_⟩;rcases Nat.lt_or_ge j vs.length with hlt | hge
     ·rw [List.getElem?_append_left hlt] at hj;exact h2 j y hj
     ·rw [List.getElem?_append_right hge] at hj;have:j - vs.length=0:=by
       rcases Nat.eq_zero_or_pos (j - vs.length) with h | h
       ·exact h
       ·rw [List.getElem?_eq_none (by simp;omega)] at hj;cases hj
      rw [this] at hj;cases hj;rw [show j=N by omega];exact hx
  obtain ⟨vs,h1,h2⟩:=hv;subst h1;refine ⟨vs,some a',cap,rfl,?_⟩;rcases Nat.eq_zero_or_pos vs.length with h0 | h0
  ·exact .inl h0
  ·refine .inr ⟨a'.block,a'.off,?_,?_⟩
   ·have h3:=(h2 0 vs[0] (List.getElem?_eq_getElem h0)).1;have h4:=spot_noneE (a:=a') (by simpa [Addr.add] using h3);obtain ⟨b,o,s⟩:=a';cases h4;rfl
   ·have h3:=(h2 0 vs[0] (List.getElem?_eq_getElem h0)).1;have h4:=spot_noneE (a:=a') (by simpa [Addr.add] using h3);intro j x hj;have h5:=h2 j x hj;obtain ⟨b,o,s⟩:=a';cases h4;simp only [Addr_add] at h5;exact ⟨h5.1,by rw [Nat.add_assoc];exact h5.2.1,by rw [Nat.add_assoc];exact h5.2.2.1,by rw [Nat.add_assoc];exact h5.2.2.2⟩
end
section
open Go.RowKit Go.Maps
section
variable {w0 w w':World} {pb db n:Nat} {o o':Owner} {d d':Dsk} {L L':Logic}
theorem nmX_ne (c:UInt8) (k:Nat):sName c k≠nmX:=by
 intro e;have:=congrArg ByteArray.size e;unfold sName nmX at this;have h2:([c,46]++Lib.decDigits k).toArray.size=1:=this;simp at h2
theorem nmX_t (k:Nat):tName k≠nmX:=by
 intro e;have:=ownName_t k;rw [e] at this;revert this
 decide
def HeldMake (w0:World) (pb db n:Nat) (gen:Nat) (es:List Edg) (vs:List Vrt) (L:Logic) (e:Ending) (w':World):Prop:=
 ∃ d' o',e=.returned (.int .i64 0)/\Held w0 w' pb db n o' d' (makeL L gen es vs)
theorem held_make (HW:WriteSaid) {m:Nat} (HJS:JobSortSaid m) (h:Held w0 w pb db n o d L) (hn:8<=n) {es:List Edg} (hr:RawL es L) {gen:Nat} (hg:GenAt w o gen) (hm:es.length<=m) (hes:es.length<=1000) {v:Value} {vs:List Vrt} (hvs:VertsAt w v vs) (hvo:∀ x,v.ownBlock=some x->o x=none) (hvl:vs.length<=1000) :
 Calls Tryz.prog 45 #[ptrTo pb, .string nmX, .int .i64 (gen:Int),v] w (HeldMake w0 pb db n gen es vs L):=by
 obtain ⟨fl,hfl⟩:=hr.1;refine (storeMake_any HW HJS h.pool hn hg hfl (by decide) hm (hr.2.1 _ (nmX_ne _ _)) (hr.2.1 _ (nmX_ne _ _)) (hr.2.1 _ (nmX_ne _ _)) (fun k=>hr.2.1 _ (nmX_t k)) hvs hvo (by omega)).mono ?_;rintro e w' ⟨c,d',o',L',rfl,hmv,-,hc⟩;have hneed:=hr.2.2;have h0:c=0:=h.fine hmv (hc.imp (fun h=>h.1) id) (by omega);subst h0;rcases hc with ⟨_,rfl⟩ | hc
 ·exact ⟨d',o',rfl,h.moved hmv (fun _ h=>h.elim)⟩
 ·exact absurd rfl hc.ne
def HeldOpen (w0:World) (pb db n:Nat) (L:Logic) (gen N:Nat) (e:Ending) (w':World):Prop:=
 ∃ gb ob ib vb d' o',e=.returned (.tuple #[ptrTo gb, .int .i64 0])/\Held w0 w' pb db n o' d' L/\GraphAt w' o' gb pb gen N ob ib vb
theorem held_open (HW:WriteSaid) (h:Held w0 w pb db n o d L) (hq:need L<=131072) {gen:Nat} (hg:GenAt w o gen) {vs:List Vrt} {es1 es2:List Edg} {fl0 fl1 fl2:Bool} (hv:mget L (sName 118 gen)=some (vertFile vs fl0)) (he:mget L (sName 101 gen)=some (edgeFile es1 fl1)) (hr:mget L (sName 114 gen)=some (edgeFile es2 fl2)) :
 Calls Tryz.prog 34 #[ptrTo pb, .int .i64 (gen:Int)] w (HeldOpen w0 pb db n L gen vs.length):=by
 refine (storeOpen_any HW h.pool hg hv he hr).mono ?_;rintro e w' ⟨v,c,d',o',rfl,hm,hc,h1,-⟩;have h0:c=0:=h.fine' hm hc hq;subst h0;obtain ⟨gb,ob,ib,vb,rfl,hga⟩:=h1 rfl;exact ⟨gb,ob,ib,vb,d',o',rfl,h.moved hm (fun _ h=>h.elim),hga⟩
theorem rise_best {b:Bool} {l out:List Edg} (h:Best b l out):Rise b out:=by
 intro i j x y hi hj hij;rcases Nat.lt_or_ge i j with hlt | hge
 ·have hil:=lt_of_get hi;have hjl:=lt_of_get hj;rw [List.getElem?_eq_getElem hil] at hi;rw [List.getElem?_eq_getElem hjl] at hj;have h1:=List.pairwise_iff_getElem.1 h.rise i j hil hjl hlt;rw [Option.some.inj hi,Option.some.inj hj] at h1;obtain ⟨p1,p2,p3⟩:=pk_ends b x;obtain ⟨q1,q2,q3⟩:=pk_ends b y;omega
 ·obtain rfl:i=j:=by omega
  rw [hi] at hj;cases hj;exact Nat.le_refl _
theorem rise_bestOf (b:Bool) (l:List Edg):Rise b (bestOf b l):=rise_best (best_bestOf b l)
theorem makeL_files (L:Logic) (gen:Nat) (es:List Edg) (vs:List Vrt) :
 mget (makeL L gen es vs) (sName 101 gen)=some (edgeFile (bestOf false es) true)/\mget (makeL L gen es vs) (sName 114 gen)=some (edgeFile (bestOf true es) true)/\mget (makeL L gen es vs) (sName 118 gen)=some (vertFile vs true):=by
 have n1:sName 101 gen≠sName 114 gen:=sName_ne (by decide) _ _;have n2:sName 101 gen≠sName 118 gen:=sName_ne (by decide) _ _;have n3:sName 114 gen≠sName 118 gen:=sName_ne (by decide) _ _;unfold makeL;refine ⟨?_,?_,?_⟩
 ·rw [mget_mput,if_neg n2,mget_mput,if_neg n1,mget_mput,if_pos rfl]
 ·rw [mget_mput,if_neg n3,mget_mput,if_pos rfl]
 ·rw [mget_mput,if_pos rfl]
theorem makeL_need (L:Logic) (gen:Nat) (es:List Edg) (vs:List Vrt):need (makeL L gen es vs)<=need L+8*es.length+4*vs.length:=by
 unfold makeL;have h1:=need_mput_le (mput (mput L (sName 101 gen) (edgeFile (bestOf false es) true)) (sName 114 gen) (edgeFile (bestOf true es) true)) (sName 118 gen) (vertFile vs true);have h2:=need_mput_le (mput L (sName 101 gen) (edgeFile (bestOf false es) true)) (sName 114 gen) (edgeFile (bestOf true es) true);have h3:=need_mput_le L (sName 101 gen) (edgeFile (bestOf false es) true);have h4:=vertFile_need vs true;have h5:=edgeFile_need (bestOf true es) true;have h6:=edgeFile_need (bestOf false es) true;have h7:=bestOf_length true es;have h8:=bestOf_length false es;omega
end
end
section
open Go.RowKit Go.Maps
def eOne:Edg:=⟨0,1,5,4294967295⟩
def vOne:Vrt:=⟨4294967295,0,0⟩
theorem best_one:bestOf false [eOne]=[eOne]:=by
 refine (Best.eq (b:=false) ⟨List.pairwise_singleton _ _,fun e he=>?_,fun x hx hn=>?_⟩).symm
 ·rw [List.mem_singleton] at he;subst he;refine ⟨List.mem_singleton_self _,by decide,fun x hx _=>?_⟩;rw [List.mem_singleton] at hx;subst hx;exact Nat.le_refl _
 ·rw [List.mem_singleton] at hx;subst hx;exact ⟨_,List.mem_singleton_self _,⟨rfl,rfl⟩⟩
theorem of_one:ofL false 0 [eOne]=[eOne]:=rfl
set_option maxRecDepth 100000 in
set_option maxHeartbeats 4000000 in
theorem works13_any (HW:WriteSaid) {m:Nat} (HJS:JobSortSaid m) (hm:1<=m) (w:World) :
 Calls Tryz.prog 11 #[] w fun e w'=>e=.returned (.bool true)/\Below w.heap.size w w':=by
 go_enter Tryz.func11,Tryz.ntmps11
 have HB0:Hid (Below w.heap.size w (w.alloc (.cells #[.int .u32 0, .int .u32 1, .int .u64 5, .int .u32 4294967295] 64))):=Lib.hid ((Below.refl _ _).alloc (Nat.le_refl _) _);have HR0:Hid (RdE (w.alloc (.cells #[.int .u32 0, .int .u32 1, .int .u64 5, .int .u32 4294967295] 64)) (.slice (some ⟨w.heap.size,0,none⟩) 1 1) [eOne]):=Lib.hid ⟨_,1,rfl, .inr ⟨w.heap.size,0,rfl,fun j x hx=>by
  match j,hx with
  | 0,hx=>cases hx;simp [eOne]
  | j+1,hx=>cases hx⟩⟩
 go_wp2_with fail
 generalize w.alloc (.cells #[.int .u32 0, .int .u32 1, .int .u64 5, .int .u32 4294967295] 64)=W0 at *;refine (raw_any HW 8 (by decide) (by decide) _ [eOne] W0 HR0.out (by decide)).mono ?_;rintro e w1 ⟨db,pb,o1,d1,L1,rfl,hh1,hr1⟩;have HH1:=Lib.hid hh1;have HR1:=Lib.hid hr1;clear hh1 hr1;have HBv:Hid (Below w1.heap.size w1 (w1.alloc (.cells #[.int .u32 4294967295, .int .u32 0, .int .u32 0, .int .u32 4294967295, .int .u32 0, .int .u32 0] 55))):=Lib.hid ((Below.refl _ _).alloc (Nat.le_refl _) _);have HVs:Hid (VertsAt (w1.alloc (.cells #[.int .u32 4294967295, .int .u32 0, .int .u32 0, .int .u32 4294967295, .int .u32 0, .int .u32 0] 55)) (.slice (some ⟨w1.heap.size,0,none⟩) 2 2) [vOne,vOne]):=Lib.hid ⟨_,2,rfl,by decide,by decide, .inr ⟨w1.heap.size,0,rfl,fun i hi=>by
  match i,hi with
  | 0,_=>simp [vOne]
  | 1,_=>simp [vOne]⟩⟩
 unfold ptrTo at *;go_wp2_with fail
 generalize w1.alloc (.cells #[.int .u32 4294967295, .int .u32 0, .int .u32 0, .int .u32 4294967295, .int .u32 0, .int .u32 0] 55)=W1 at *;refine (held_make HW HJS (HH1.out.later HBv.out) (by decide) HR1.out (gen:=0) (.inl (by decide)) hm (by decide) HVs.out (fun x hx=>by cases hx;exact HH1.out.pool.fresh (Nat.le_refl _)) (by decide)).mono ?_;rintro e w2 ⟨d2,o2,rfl,hh2⟩;have HH2:=Lib.hid hh2;obtain ⟨f1,f2,f3⟩:=makeL_files L1 0 [eOne] [vOne,vOne];have HF1:=Lib.hid f1;have hnd:need (makeL L1 0 [eOne] [vOne,vOne])<=131072:=Nat.le_trans (makeL_need _ _ _ _) (by have:=HR1.out.2.2;simp at this ⊢;omega);have hop:=Lib.hid (held_open HW HH2.out hnd (.inl (by decide)) f3 f1 f2);have need_one:Hid (need L1+16=need L1+16/\need L1<=4):=Lib.hid ⟨rfl,by have:=HR1.out.2.2;simpa using this⟩;clear hh2 f1 f2 f3 hnd HH1 HR1 HVs;go_wp2_with fail
 refine hop.out.mono ?_;rintro e w3 ⟨gb,ob,ib,vb,d3,o3,rfl,hh3,hg3⟩;have HH3:=Lib.hid hh3;have HG3:=Lib.hid hg3;have hout:=Lib.hid (graphOut_in HW hh3.pool hg3 HF1.out (rise_bestOf false _) (by rw [best_one];decide) (v:=0) (by decide) (by decide));rw [best_one,of_one] at hout;clear hh3 hg3 hop HH2;unfold ptrTo at *;go_wp2_with fail
 refine hout.out.mono ?_;rintro e w4 ⟨v4,c4,d4,o4,rfl,hm4,he4,hv4,-⟩;have hc4:c4=0:=HH3.out.fine' hm4 he4 (Nat.le_trans (makeL_need _ _ _ _) (by have:=need_one.out.2;simp;omega));subst hc4;obtain ⟨hl4,-⟩:=hv4 rfl;have HH4:=Lib.hid (HH3.out.moved hm4 (fun _ h=>h.elim));have HG4:=Lib.hid (HG3.out.moved hm4);obtain ⟨g,cap,rfl,-⟩:∃ g cap,v4=.slice (some ⟨g,0,none⟩) 1 cap/\True:=by
  rcases ownsEdges_shape hl4 with ⟨h1,_⟩ | ⟨g,cap,h1,_⟩
  ·cases h1
  ·exact ⟨g,cap,h1,trivial⟩
 obtain ⟨e0,e1,e2,e3⟩:=ownsEdges_cells (l:=[eOne]) hl4 (i:=0) rfl;have hsz:=Lib.hid (graphSize_any HG4.out);clear hm4 he4 hv4 hl4 hout HH3 HG3;simp only [eOne] at e0 e1 e2 e3;unfold ptrTo at *;have e2':w4.cell? ⟨g,2,none⟩=some (.int .u64 5):=e2;have hgl:g < w4.heap.size:=World.block_lt_of_cell? _ _ e2';have hsz':Hid (Calls Tryz.prog 20 #[.pointer (some ⟨gb,0,none⟩)] w4 fun e w'=>e=.returned (.int .i64 2)/\w4=w'):=hsz;clear e0 e1 e2 e3 hsz;go_wp2_with fail
 refine hsz'.out.mono ?_;rintro e w' ⟨rfl,rfl⟩;go_wp2;go_ret;exact ⟨rfl,HB0.out.trans (HH4.out.below.mono HB0.out.size)⟩
def RdV (w:World) (v:Value) (vs:List Vrt):Prop:=
 ∃ a cap,v=.slice a vs.length cap/\(vs.length=0\/∃ b off,a=some ⟨b,off,none⟩/\∀ (j:Nat) (x:Vrt),vs[j]? = some x->w.cell? ⟨b,off+j*3,none⟩=some (.int .u32 (x.r.toNat:Int))/\w.cell? ⟨b,off+j*3+1,none⟩=some (.int .u32 (x.l.toNat:Int))/\w.cell? ⟨b,off+j*3+2,none⟩=some (.int .u32 (x.g.toNat:Int)))
theorem RdV.below {w w':World} {v:Value} {vs:List Vrt} (h:RdV w v vs) (hb:Below w.heap.size w w'):RdV w' v vs:=by
 obtain ⟨a,cap,rfl,h | ⟨b,off,rfl,hc⟩⟩:=h
 ·exact ⟨a,cap,rfl, .inl h⟩
 ·refine ⟨_,cap,rfl, .inr ⟨b,off,rfl,fun j x hx=>?_⟩⟩;obtain ⟨h1,h2,h3⟩:=hc j x hx;exact ⟨cellBelow hb h1,cellBelow hb h2,cellBelow hb h3⟩
def vrtRow:List Vrt->List Value
 | []=>[]
 | x::l=>[.int .u32 (x.r.toNat:Int), .int .u32 (x.l.toNat:Int), .int .u32 (x.g.toNat:Int)]++vrtRow l
theorem vrtRow_length (l:List Vrt):(vrtRow l).length=l.length*3:=by
 induction l with
 | nil=>rfl
 | cons e l ih=>rw [vrtRow,List.length_append,ih,List.length_cons];simp;omega
theorem vrtRow_get {l:List Vrt} {i:Nat} {x:Vrt} (h:l[i]? = some x) {j:Nat} (hj:j < 3):(vrtRow l)[i*3+j]? = [Value.int .u32 (x.r.toNat:Int), .int .u32 (x.l.toNat:Int), .int .u32 (x.g.toNat:Int)][j]? := by
 induction l generalizing i with
 | nil=>cases h
 | cons q l ih=>
   rw [vrtRow];cases i with
   | zero=>
     cases h;rw [List.getElem?_append_left (by simp;omega)];simp
   | succ i=>
     rw [List.getElem?_append_right (by simp;omega),<- ih (i:=i) (by simpa using h)];congr 1;simp;omega
theorem vrtRow_one (l:List Vrt):∀ u∈vrtRow l,u.oneCell'=true:=by
 induction l with
 | nil=>intro u hu;cases hu
 | cons x l ih=>
   intro u hu;rw [vrtRow,List.mem_append] at hu;rcases hu with hu | hu
   ·simp at hu;rcases hu with rfl | rfl | rfl<;>rfl
   ·exact ih u hu
theorem RdV.cells {w:World} {v:Value} {vs:List Vrt} {b off n cap:Nat} (h:RdV w v vs) (hv:v=.slice (some ⟨b,off,none⟩) n cap):∀ j u,(vrtRow vs)[j]? = some u->w.cell? ((⟨b,off,none⟩:Addr).add j)=some u:=by
 intro j u hj;obtain ⟨a,cap',hve,hc⟩:=h;have hjl:=lt_of_get hj;rw [vrtRow_length] at hjl;rcases hc with h0 | ⟨b',off',rfl,hc⟩
 ·omega
 ·rw [hv] at hve;obtain ⟨⟨rfl,rfl⟩,-,-⟩:(b=b'/\off=off')/\n=vs.length/\cap=cap':=by simpa using hve
  have hi:j / 3 < vs.length:=by omega
  obtain ⟨h1,h2,h3⟩:=hc (j / 3) vs[j / 3] (List.getElem?_eq_getElem hi);have hg:=vrtRow_get (List.getElem?_eq_getElem hi) (j:=j % 3) (by omega);rw [show j / 3*3+j % 3=j by omega,hj] at hg;rw [Addr_add];have h012:j % 3=0\/j % 3=1\/j % 3=2:=by omega
  rcases h012 with e | e | e
  ·rw [e] at hg;cases hg;rw [show off+j=off+j / 3*3 by omega];exact h1
  ·rw [e] at hg;cases hg;rw [show off+j=off+j / 3*3+1 by omega];exact h2
  ·rw [e] at hg;cases hg;rw [show off+j=off+j / 3*3+2 by omega];exact h3
theorem info_vert:(Tryz.prog.info? 55).map (fun i=>(i.zero,i.size,i.bytes))=some (some (.agg #[.int .u32 0, .int .u32 0, .int .u32 0]),3,12):=by kernel_rfl
theorem wpList_want {P:Program} {ops:Array Oper} {Q:Exit->Act->World->Prop} {a:Act} {w:World} {rest:List Oper} {o:Oper} (hw:Region.wanted o (yielded ops a.tmps)=true)
 (h:∀ K:Act->World->Prop,(∀ a w,wpList P ops Q rest a w->K a w)->o.wp P a w K Q):wpList P ops Q (o::rest) a w:=
 wpList_step fun K hK=>by rw [if_pos hw];exact h K hK
theorem ownsRow_nothing (w:World) (T:TypeId) (size:Nat):(w.alloc (.cells #[] T)).ownsRow w.heap.size T size (.slice (some ⟨w.heap.size,0,none⟩) 0 0) 0 []:=
 ⟨by simp, .inr ⟨w.heap.size,0,#[],rfl,Nat.le_refl _,heap_alloc_new w _,Nat.le_refl _,Nat.zero_le _,by simp,by simp⟩⟩
theorem verts_of_owns {w:World} {base:Nat} {v:Value} {vs:List Vrt} (h:w.ownsRow base 55 3 v vs.length (vrtRow vs)):VertsAt w v vs/\∀ x,v.ownBlock=some x->base<=x:=by
 refine ⟨?_,ownsRow_block h⟩;obtain ⟨hl,⟨rfl,h0⟩ | ⟨g,cap,cur,rfl,hbg,hg,hnc,hcm,hcs,htake⟩⟩:=h
 ·have:=List.eq_nil_of_length_eq_zero h0;subst this;exact ⟨none,0,rfl,Nat.le_refl _,Nat.zero_le _, .inl rfl⟩
 ·refine ⟨_,cap,rfl,hnc,hcm, .inr ⟨g,0,rfl,fun i hi=>?_⟩⟩;have hc:∀ (j:Nat) (u:Value),(vrtRow vs)[j]? = some u->w.cell? ⟨g,j,none⟩=some u:=fun j u hj=>by
   have:=World.ownsRow.cells (w:=w) (base:=base) (e:=55) (size:=3) (v:=.slice (some ⟨g,0,none⟩) vs.length cap) (n:=vs.length) (xs:=vrtRow vs) ⟨hl, .inr ⟨g,cap,cur,rfl,hbg,hg,hnc,hcm,hcs,htake⟩⟩ (g:=g) rfl j u hj;rwa [Addr_add,Nat.zero_add] at this
  have hget:=List.getElem?_eq_getElem hi;refine ⟨hc _ _ ?_,hc _ _ ?_,hc _ _ ?_⟩
  ·have:=vrtRow_get hget (j:=0) (by decide);rw [Nat.add_zero] at this;rw [Nat.zero_add,this];rfl
  ·rw [Nat.zero_add,vrtRow_get hget (by decide)];rfl
  ·rw [Nat.zero_add,vrtRow_get hget (by decide)];rfl
theorem wpList_append_verts {w:World} {ops:Array Oper} {rest:List Oper} {o:Oper} {a:Act} {Q:Exit->Act->World->Prop} (hwd:Region.wanted o (yielded ops a.tmps)=true) (s x:Operand) (ho:o.op=.call { callee:=.builtin .append,args:=#[s,x],argTypes:=#[23,23] })
 (hs:a.eval s=.slice (some ⟨w.heap.size,0,none⟩) 0 0) (v:Value) (vs:List Vrt) (hx:a.eval x=v) (hr:RdV w v vs) (hl:vs.length<=100000)
 (k:∀ v' w',Hid (VertsAt w' v' vs)->Hid (∀ x,v'.ownBlock=some x->w.heap.size<=x)->Hid (Below w.heap.size w w')->wpList Tryz.prog ops Q rest (a.put o.dst v') w') :
 wpList Tryz.prog ops Q (o::rest) a (w.alloc (.cells #[] 55)):=by
 obtain ⟨i0,hi0,hz0,hz1,hz2⟩:=info_parts info_vert;have hown:=ownsRow_nothing w 55 3;refine wpList_want hwd fun K hK=>?_;have hrun:∃ v' w',(Builtin.append_ #[23,23] o.type #[.slice (some ⟨w.heap.size,0,none⟩) 0 0,v]).run Tryz.prog (w.alloc (.cells #[] 55))=.ok v' w'/\w'.ownsRow w.heap.size 55 3 v' vs.length (vrtRow vs)/\Below w.heap.size w w':=by
  have hrw:=hr;obtain ⟨ad,cap,rfl,hc⟩:=hrw;cases ad with
  | none=>
    have h0:vs=[]:=by
     rcases hc with hc | ⟨b,off,ha,_⟩
     ·exact List.length_eq_zero_iff.1 hc
     ·cases ha
    subst h0;have hst0:∀ ad,(storeCells ad []).run Tryz.prog (w.alloc (.cells #[] 55))=.ok () (w.alloc (.cells #[] 55)):=fun _=>rfl;exact ⟨_,_,by simp [Builtin.append_,run_underlying Tryz.underlying23,sizeOf,typeInfo,hi0,Builtin.lenOf,Builtin.firstCells,hst0],hown,(Below.refl _ _).alloc (Nat.le_refl _) _⟩
  | some ad=>
    have hcells:∀ j u,(vrtRow vs)[j]? = some u->(w.alloc (.cells #[] 55)).cell? (ad.add j)=some u:=fun j u hj=>by
     have hjl:=lt_of_get hj;rw [vrtRow_length] at hjl;rcases hc with h0 | ⟨b,off,ha,_⟩
     ·omega
     ·cases ha;have h1:=hr.cells rfl j u hj;rw [Addr_add] at *;exact cellBelow ((Below.refl _ _).alloc (Nat.le_refl _) _) h1
    obtain ⟨v',w',g1,g2,g3,g4,g5⟩:=run_append_own_at (P:=Tryz.prog) (w.alloc (.cells #[] 55)) w.heap.size 23 o.type 55 i0 _ 3 12 Tryz.underlying23 hi0 hz0 hz1 hz2 rfl (by decide) _ 0 [] hown ad vs.length cap (vrtRow vs) (vrtRow_length vs) hcells (vrtRow_one vs) (by unfold maxLen;omega) (by omega) (by simp);refine ⟨v',w',g1,by simpa using g2,?_⟩;obtain ⟨q1,q2,q3,q4,q5⟩:=g3;refine ⟨q1,q2,q3,by simp at q4;omega,fun k hk=>?_⟩;have hb1:=q5 k (by simp;omega) (by simp [Value.ownBlock];omega);rw [hb1];exact (MapKept.heap_alloc w _).2 _ hk
 obtain ⟨v',w',h1,h2,h3⟩:=hrun;obtain ⟨h4,h5⟩:=verts_of_owns h2;unfold Oper.wp execOp;simp only [ho,resolve,invoke,builtin,Sem.run_bind,Sem.run_pure,Result.andThen_ok,List.map_toArray,List.map_cons,List.map_nil,hs,hx,h1];exact hK _ _ (k v' w' (Lib.hid h4) (Lib.hid h5) (Lib.hid h3))
end
section
open Go.ChangeShapes Go.WideShapes Go.ChangeAt Go.RowKit Go.Joins
theorem spot_none {w:World} {a:Addr} {v:Value} (h:w.cell? a=some v):a.spot=none:=by
 obtain ⟨b,o,s⟩:=a;cases s with
 | none=>rfl
 | some s=>
   unfold World.cell? at h;simp at h;split at h<;>cases h
theorem u32_of {z:Int} (h:(Lit.int .u32 z).wf=true):z=((UInt32.ofNat z.toNat).toNat:Int):=by
 simp [Lit.wf] at h;have h0:IntKind.u32.min=0:=rfl;have h1:IntKind.u32.max=4294967295:=rfl;rw [h0,h1] at h;rw [UInt32.toNat_ofNat'];omega
theorem cellsVert:Tryz.prog.cellsOf 55=3:=by kernel_rfl
theorem cellsU32:Tryz.prog.cellsOf 26=1:=by kernel_rfl
set_option maxRecDepth 100000 in
theorem opened_verts {H:Type} {enc:TypeId × Value->H} {W:World} {sp:Nat->Bool} {a:Option Addr} {len cap:Nat} {d:DataW H} {p:List MemPlace} (h:DataW.Trod enc Tryz.prog W 0 sp true 23 (.slice a len cap) d p) :
 ∃ vs,RdV W (.slice a len cap) vs:=by
 obtain ⟨fuel,hf⟩:=h;rcases Deep.open_slice Tryz.underlying23 hf with ⟨hcs,-⟩ | ⟨a',len',cap',m,n,D,Pl,hcs,-,hl,-,hm,-,hx⟩
 ·simp [Value.cells] at hcs;obtain ⟨rfl,rfl,rfl⟩:=hcs;exact ⟨[],none,0,rfl, .inl rfl⟩
 ·simp [Value.cells] at hcs;obtain ⟨rfl,rfl,rfl⟩:=hcs;have hlm:len<=m:=by rw [hm];split<;>omega
  rw [cellsVert] at hx;have each:∀ i,i < len->∃ x:Vrt,W.cell? (a'.add (i*3))=some (.int .u32 (x.r.toNat:Int))/\W.cell? (a'.add (i*3+1))=some (.int .u32 (x.l.toNat:Int))/\W.cell? (a'.add (i*3+2))=some (.int .u32 (x.g.toNat:Int)):=by
   intro i hi;obtain ⟨cs',h1,h2⟩:=hx i (by omega);obtain ⟨_,hlen,hcell⟩:=World.cells?_some h1;obtain ⟨xs,k,hk,hxy,_,hxl,hf⟩:=DataW.trod_struct Tryz.underlying55 h2;match xs,hxl,cs',hlen with
   | [y0,y1,y2],_,[v0,v1,v2],_=>
     have g0:=hf 0 _ rfl;have g1:=hf 1 _ rfl;have g2:=hf 2 _ rfl;simp [cellsU32] at g0 g1 g2;obtain ⟨n0,q0,-,w0⟩:=DataW.trod_int Tryz.underlying26 g0;obtain ⟨n1,q1,-,w1⟩:=DataW.trod_int Tryz.underlying26 g1;obtain ⟨n2,q2,-,w2⟩:=DataW.trod_int Tryz.underlying26 g2;obtain ⟨rfl⟩:=q0;obtain ⟨rfl⟩:=q1;obtain ⟨rfl⟩:=q2;have e0:=hcell 0 (by omega);have e1:=hcell 1 (by omega);have e2:=hcell 2 (by omega);rw [Deep.add_add] at e0 e1 e2;exact ⟨⟨UInt32.ofNat n0.toNat,UInt32.ofNat n1.toNat,UInt32.ofNat n2.toNat⟩,by rw [<- u32_of w0];simpa using e0,by rw [<- u32_of w1];simpa using e1,by rw [<- u32_of w2];simpa using e2⟩
  have hv:∃ vs:List Vrt,vs.length=len/\∀ (j:Nat) (x:Vrt),vs[j]? = some x->W.cell? (a'.add (j*3))=some (.int .u32 (x.r.toNat:Int))/\W.cell? (a'.add (j*3+1))=some (.int .u32 (x.l.toNat:Int))/\W.cell? (a'.add (j*3+2))=some (.int .u32 (x.g.toNat:Int)):=by
   clear hx hf;generalize len=N at *;clear hl hm hlm;induction N with
   | zero=>exact ⟨[],rfl,fun j x hj=>by cases hj⟩
   | succ N ih=>
     obtain ⟨vs,h1,h2⟩:=ih (fun i hi=>each i (by omega));obtain ⟨x,hx⟩:=each N (by omega);refine ⟨vs++[x],by simp [h1],fun j y hj=>?_⟩;rcases Nat.lt_or_ge j vs.length with hlt | hge
     ·rw [List.getElem?_append_left hlt] at hj;exact h2 j y hj
     ·rw [List.getElem?_append_right hge] at hj;have:j - vs.length=0:=by
       rcases Nat.eq_zero_or_pos (j - vs.length) with h | h
       ·exact h
       ·rw [List.getElem?_eq_none (by simp;omega)] at hj;cases hj
      rw [this] at hj;cases hj;rw [show j=N by omega];exact hx
  obtain ⟨vs,h1,h2⟩:=hv;subst h1;refine ⟨vs,some a',cap,rfl,?_⟩;rcases Nat.eq_zero_or_pos vs.length with h0 | h0
  ·exact .inl h0
  ·refine .inr ⟨a'.block,a'.off,?_,?_⟩
   ·have h3:=(h2 0 vs[0] (List.getElem?_eq_getElem h0)).1;have h4:=spot_none (a:=a') (by simpa [Addr.add] using h3);obtain ⟨b,o,s⟩:=a';cases h4;rfl
   ·have h3:=(h2 0 vs[0] (List.getElem?_eq_getElem h0)).1;have h4:=spot_none (a:=a') (by simpa [Addr.add] using h3);intro j x hj;have h5:=h2 j x hj;obtain ⟨b,o,s⟩:=a';cases h4;simp only [Addr_add] at h5;exact ⟨h5.1,by rw [Nat.add_assoc];exact h5.2.1,by rw [Nat.add_assoc];exact h5.2.2⟩
theorem cellsNet:Tryz.prog.cellsOf 25=4:=by kernel_rfl
theorem cellsEdges:Tryz.prog.cellsOf 22=1:=by kernel_rfl
theorem cellsVerts:Tryz.prog.cellsOf 23=1:=by kernel_rfl
theorem cellsInt:Tryz.prog.cellsOf 3=1:=by kernel_rfl
theorem cellsU8:Tryz.prog.cellsOf 5=1:=by kernel_rfl
theorem i64_of {z:Int} (h:(Lit.int .i64 z).wf=true):-9223372036854775808<=z/\z < 9223372036854775808:=by
 simp [Lit.wf] at h;have h0:IntKind.i64.min=-9223372036854775808:=rfl;have h1:IntKind.i64.max=9223372036854775807:=rfl;omega
theorem slice_cell {H:Type} {enc:TypeId × Value->H} {W:World} {sp:Nat->Bool} {n:Nat} {t e:TypeId} {v:Value} {y:DataW H × List MemPlace} (ht:Tryz.prog.underlying t=some (.slice e)) (h:DataW.trod enc Tryz.prog W 0 sp true n t [v]=some y) :
 ∃ a len cap,v=.slice a len cap:=by
 rcases Deep.open_slice ht h with ⟨hcs,-⟩ | ⟨a',len',cap',m,n,D,Pl,hcs,-⟩
 ·simp at hcs;exact ⟨_,_,_,hcs⟩
 ·simp at hcs;exact ⟨_,_,_,hcs⟩
set_option maxRecDepth 100000 in
theorem opened_net {H:Type} {enc:TypeId × Value->H} {W:World} {sp:Nat->Bool} {r:Reach} {b0:Nat} {v:Value} {d:DataW H} {p:List MemPlace} (hval:Value.okWide Tryz.prog W r b0 25 v) (h:DataW.Trod enc Tryz.prog W 0 sp true 25 v d p) :
 ∃ (ev vv:Value) (es:List Edg) (vs:List Vrt) (g:Int) (fr:Nat),v=.agg #[ev,vv, .int .i64 g, .int .u8 (fr:Int)]/\RdE W ev es/\RdV W vv vs/\(-9223372036854775808<=g/\g < 9223372036854775808)/\fr < 256:=by
 obtain ⟨cs,rfl,hsz⟩:=okWide_struct Tryz.underlying25 hval;obtain ⟨fuel,hf⟩:=h;obtain ⟨xs,k,hk,hxy,hl,hxl,hff⟩:=DataW.trod_struct Tryz.underlying25 hf;rw [cellsNet] at hsz;obtain ⟨cs⟩:=cs;match xs,hxl,cs,hsz with
 | [y0,y1,y2,y3],_,[v0,v1,v2,v3],_=>
   have g0:=hff 0 _ rfl;have g1:=hff 1 _ rfl;have g2:=hff 2 _ rfl;have g3:=hff 3 _ rfl;simp [cellsEdges,cellsVerts,cellsInt,cellsU8,Value.cells] at g0 g1 g2 g3;obtain ⟨a0,l0,c0,rfl⟩:=slice_cell Tryz.underlying22 g0;obtain ⟨a1,l1,c1,rfl⟩:=slice_cell Tryz.underlying23 g1;obtain ⟨n2,q2,-,w2⟩:=DataW.trod_int Tryz.underlying3 g2;obtain ⟨n3,q3,-,w3⟩:=DataW.trod_int Tryz.underlying5 g3;obtain ⟨rfl⟩:=q2;obtain ⟨rfl⟩:=q3;obtain ⟨es,hes⟩:=opened_edges (d:=y0.1) (p:=y0.2) ⟨_,g0⟩;obtain ⟨vs,hvs⟩:=opened_verts (d:=y1.1) (p:=y1.2) ⟨_,g1⟩;obtain ⟨fr,hfr,rfl⟩:=u8_ofE w3;exact ⟨_,_,es,vs,n2,fr,rfl,hes,hvs,i64_of w2,hfr⟩
theorem tabIs_third {P:Program} {W:World} {n1 n2 name:String} {d1 d2:DataW Unit} {k:IntKind} {zs:List Int} {rest:List (String × DataW Unit)} {g:Nat} {t e:TypeId} {n:Nat}
 (hg:P.globalNamed name=some g) (hty:(P.globals[g]?).map (·.type)=some t) (ht:P.underlying t=some (.array n e)) (he:P.underlying e=some (.int k)) (hce:P.cellsOf e=1) (hct:P.cellsOf t=n)
 (h:laidMet P ((n1,d1)::(n2,d2)::(name,Lib.tabData k zs)::rest) W):Lib.TabIs P W name k zs:=by
 obtain ⟨ps,⟨_,_,_,_,_,_,_,_,_,_,⟨_,_,_,_,_,_,_,_,_,_,⟨g',t',cs,fuel,p,q,hg',ht',hvar,hd,_,_⟩,_⟩,_⟩,_⟩:=h;obtain rfl:=Option.some.inj (hg.symm.trans hg');obtain rfl:=Option.some.inj (hty.symm.trans ht');unfold Lib.TabIs;rw [hvar,<- Lib.cells_of_tab ht he hce hct hd]
set_option maxRecDepth 100000 in
theorem pow_of_laid {W:World} (h:laidMetH Tryz.prog Rows.storeMakesRow.laid W):PowAt W:=by
 have h1:laidMet Tryz.prog [("math/bits.deBruijn32tab",Rows.laid_math_bits_deBruijn32tab),("math/bits.deBruijn64tab",Rows.laid_math_bits_deBruijn64tab),("internal/strconv.uint64pow10",Lib.tabData .u64 Lib.pow10Tab)] W:=h;exact tabIs_third powName (by kernel_rfl) Tryz.underlying311 Tryz.underlying62 (by kernel_rfl) (by kernel_rfl) h1
end
section
open Go.RowKit Go.Maps Go.MapKept
section
variable {S:Nat->Prop} {w w':World} {sb pb db n sz:Nat} {name:Name} {o o':Owner} {d d':Dsk} {L L':Logic}
def NoneOf (n pb db:Nat) (w:World) (o:Owner) (d:Dsk) (L:Logic) (vs:Nat->Value) (e:Ending) (w':World):Prop:=
 ∃ c d' o',e=.returned (vs c)/\Moved (fun _=>False) n pb db w o d w' o' d' L/\(c=3\/Err d d' L c)
set_option maxRecDepth 100000 in
set_option maxHeartbeats 4000000 in
theorem streamPage_out (HW:WriteSaid) (h:PoolAt w pb db n o d L) (hst:StreamAt w sb pb name sz) (ho:o sb=none) (h1:1<=sz) (h2:sz<=240) {rs:List Rec} {fl:Bool} (hL:mget L name=some (.inl (pagesOf (per sz) rs,fl))) (hs:Sized sz rs) {i:Nat} (hi:rs.length<=i) (hi63:i < 9223372036854775808) (hd:d.dead=false) :
 Calls Tryz.prog 90 #[ptrTo sb, .int .i64 (i:Int)] w (NoneOf n pb db w o d L (fun c=>.tuple #[.slice none 0 0, .int .i64 0, .int .i64 0, .int .i64 ((c:Nat):Int)])):=by
 obtain ⟨hmost,hshort⟩:=h.paged hL;have hcall:Hid (∀ W,Below w.heap.size w W->Calls Tryz.prog 92 #[ptrTo pb, .string name] W fun e w'=>e=.returned (.tuple #[.int .i64 ((pagesAns d (pagesOf (per sz) rs)).1:Int), .int .i64 ((pagesAns d (pagesOf (per sz) rs)).2:Int)])/\Below W.heap.size W w'):=Lib.hid (fun W hW=>poolPages_sound (h.below hW) hL);have hread:Hid (∀ b,(pagesOf (per sz) rs)[i / per sz]? = some b->∀ W,Below w.heap.size w W->Calls Tryz.prog 93 #[ptrTo pb, .string name, .int .i64 ((i / per sz:Nat):Int)] W (ReadPagePost W pb db n o d L b)):=Lib.hid (fun b hb W hW=>poolRead_any HW (h.below hW) hL hb);have H:=Lib.hid h;have HST:=Lib.hid hst;have HO:=Lib.hid ho;have hp1:=per_pos h1 h2;have hpp:=per_mul sz;have hp240:per sz<=240:=Nat.div_le_self _ _;have hper:=Lib.hid (fun W (hW:StreamAt W sb pb name sz)=>streamPer_any hW h1 h2);have hsl:=hst.lt;have HPG:Hid (∀ b,(pagesOf (per sz) rs)[i / per sz]? = some b->b.length % sz=0/\b.length<=sz*(i % per sz)/\b.length<=240):=Lib.hid (fun b hb=>by
  rw [pagesOf_get hp1] at hb;split at hb
  ·cases hb;rw [page_length hs];have hdm:=Nat.div_add_mod i (per sz);refine ⟨Nat.mul_mod_right _ _,Nat.mul_le_mul_left _ (by omega),Nat.le_trans (Nat.mul_le_mul_left sz (Nat.min_le_left _ _)) hpp⟩
  ·cases hb)
 have hr1:i % per sz < per sz:=Nat.mod_lt _ (by omega);have hk1:i / per sz<=i:=Nat.div_le_self _ _;have hr2:sz*(i % per sz)<=240:=Nat.le_trans (Nat.mul_le_mul_left sz (Nat.le_of_lt hr1)) hpp;have hwk:(i:Int).tdiv (per sz:Int)=((i / per sz:Nat):Int):=by rw [Int.tdiv_eq_ediv_of_nonneg (by omega),Int.natCast_ediv]
 have hwm:(i:Int).tmod (per sz:Int)=((i % per sz:Nat):Int):=by rw [Int.tmod_eq_emod_of_nonneg (by omega),Int.natCast_emod]
 have hwa:IntKind.i64.wrap (((i % per sz:Nat):Int)*(sz:Int))=((sz*(i % per sz):Nat):Int):=by rw [<- Int.natCast_mul,Nat.mul_comm];exact wrap_in (by omega) (by omega)
 have HGET:Hid (∀ k,k < (pagesOf (per sz) rs).length->∃ b,(pagesOf (per sz) rs)[k]? = some b):=Lib.hid (fun k hk=>⟨_,List.getElem?_eq_getElem hk⟩);clear h hst ho hL hs hshort;unfold ptrTo at *;unfold pagesAns at hcall;rw [hd,if_neg (by simp)] at hcall;dsimp only at hcall;generalize pagesOf (per sz) rs=PG at *;generalize hPL:PG.length=P at *;clear hPL;generalize i / per sz=k at *;generalize i % per sz=r at *;generalize per sz=p at *;obtain ⟨a,ha⟩:∃ a,a=sz*r:=⟨_,rfl⟩;rw [<- ha] at hr2 hwa HPG;have hwk':=Lib.hid hwk;have hwm':=Lib.hid hwm;have hwa':=Lib.hid hwa;clear hwk hwm hwa ha hi;have hi0:¬ ((i:Int) < 0):=by omega
 have hz0:¬ (sz:Int)=0:=by omega
 have hpn:¬ p=0:=by omega
 have hwkk:Hid (IntKind.i64.wrap (k:Int)=(k:Int)):=Lib.hid (wrap_in (by omega) (by omega));have hwrr:Hid (IntKind.i64.wrap (r:Int)=(r:Int)):=Lib.hid (wrap_in (by omega) (by omega));go_enter Tryz.func90,Tryz.ntmps90
 go_wp2;refine wq w ?_;iterate 3 (refine qo (fun K hK=>?_);go_simp;refine hK _ ?_;clear hK K)
 refine qo (fun K hK=>?_) (fun w' hw'=>by have hc:=(HST.out.below hw').cells.1;unfold ptrTo at hc;go_simp<;>rfl);go_simp;refine hK _ ?_;clear hK K;iterate 3 (refine qo (fun K hK=>?_);go_simp;refine hK _ ?_;clear hK K)
 refine qo (fun K hK=>?_) (fun w' hw'=>by have hc:=(HST.out.below hw').cells.2.1;go_simp<;>rfl);go_simp;refine hK _ ?_;clear hK K;refine qc (fun w' hw'=>(hcall.out w' hw').mono (fun e w'' h=>⟨h.1,hw'.trans (h.2.mono hw'.size)⟩)) (fun K hK=>?_);go_simp;refine hK _ ?_;clear hK K;iterate 5 (refine qo (fun K hK=>?_);go_simp;refine hK _ ?_;clear hK K)
 refine wpQuiet_nil ?_;intro w1 hw1;have HB1:=Lib.hid hw1;have HST1:=Lib.hid (HST.out.below hw1);clear hw1;go_wp2;refine wq w1 ?_;iterate 2 (refine qo (fun K hK=>?_);go_simp;refine hK _ ?_;clear hK K)
 refine qc (fun w' hw'=>(hper.out w' (HST1.out.below hw')).mono (fun e w'' h=>⟨h.1,h.2 ▸ hw'⟩)) (fun K hK=>?_);go_simp;refine hK _ ?_;clear hK K;refine qo (fun K hK=>?_) (fun w' hw'=>by have hx:=hwk'.out;have hx2:=hpn;have hx3:=hwkk.out;go_simp<;>rfl);go_simp;refine hK _ ?_;clear hK K;iterate 2 (refine qo (fun K hK=>?_);go_simp;refine hK _ ?_;clear hK K)
 refine qc (fun w' hw'=>(hper.out w' (HST1.out.below hw')).mono (fun e w'' h=>⟨h.1,h.2 ▸ hw'⟩)) (fun K hK=>?_);go_simp;refine hK _ ?_;clear hK K;refine qo (fun K hK=>?_) (fun w' hw'=>by have hx:=hwm'.out;have hx2:=hpn;have hx3:=hwrr.out;go_simp<;>rfl);go_simp;refine hK _ ?_;clear hK K;iterate 3 (refine qo (fun K hK=>?_);go_simp;refine hK _ ?_;clear hK K)
 refine qo (fun K hK=>?_) (fun w' hw'=>by have hc:=(HST1.out.below hw').cells.2.2;go_simp<;>rfl);go_simp;refine hK _ ?_;clear hK K;refine qo (fun K hK=>?_) (fun w' hw'=>by have hx:=hwa'.out;go_simp<;>rfl);go_simp;refine hK _ ?_;clear hK K;iterate 2 (refine qo (fun K hK=>?_);go_simp;refine hK _ ?_;clear hK K)
 refine wpQuiet_nil ?_;intro w2 hw2;have HB2:Hid (Below w.heap.size w w2):=Lib.hid (HB1.out.trans (hw2.mono HB1.out.size));have HST2:=Lib.hid (HST1.out.below hw2);clear hw2;by_cases hkP:k < P
 ·have hkP':¬ ((k:Int) >= (P:Int)):=by omega
  obtain ⟨b,hb⟩:=HGET.out k hkP;obtain ⟨f1,f2,f4⟩:=HPG.out b hb;have hrd:=Lib.hid (hread.out b hb);have hwr':Hid ((b.length:Int).tmod (sz:Int)=0):=Lib.hid (by rw [Int.tmod_eq_emod_of_nonneg (by omega),<- Int.natCast_emod,f1];rfl);have hwr2':Hid ((b.length:Int) % (sz:Int)=0):=Lib.hid (by rw [<- Int.natCast_emod,f1];rfl);generalize hBB:b.length=B at *;have HBB:=Lib.hid hBB;have haB:((a:Int) >= (B:Int)):=by omega
  clear hBB hb f1 hread;go_wp2;refine wp_region_mid (Below w2.heap.size w2) 9 rfl (by kernel_rfl) (by kernel_rfl) ((Below.refl _ _).drew) ?_;simp only [List.take_succ_cons,List.take_zero];iterate 3 (refine qo (fun K hK=>?_);go_simp;refine hK _ ?_;clear hK K)
  refine qo (fun K hK=>?_) (fun w' hw'=>by have hc:=(HST2.out.below hw').cells.1;unfold ptrTo at hc;go_simp<;>rfl);go_simp;refine hK _ ?_;clear hK K;iterate 3 (refine qo (fun K hK=>?_);go_simp;refine hK _ ?_;clear hK K)
  refine qo (fun K hK=>?_) (fun w' hw'=>by have hc:=(HST2.out.below hw').cells.2.1;go_simp<;>rfl);go_simp;refine hK _ ?_;clear hK K;refine qo (fun K hK=>?_);go_simp;refine hK _ ?_;clear hK K;refine wpQuiet_nil ?_;intro w3 hw3;refine ⟨_,_,rfl,(by go_simp<;>exact ⟨rfl,rfl⟩),?_⟩;have HB3:Hid (Below w.heap.size w w3):=Lib.hid (HB2.out.trans (hw3.mono HB2.out.size));refine (hrd.out w3 HB3.out).mono ?_;rintro e w4 ⟨v4,c4,d4,o4,rfl,hp4,ht4,hg4,hon4,he4,hok4,hbad4⟩;have HM4:Hid (Moved (fun _=>False) n pb db w o d w4 o4 d4 L):=Lib.hid ((Moved.ofBelow H.out HB3.out).trans (moved_of (S:=fun _=>False) hp4 ht4 hg4 hon4) (fun _ _ h=>h));have HE4:=Lib.hid he4;have hst4:=Lib.hid (HST.out.moved HM4.out HO.out (fun h=>h));clear hw3 hp4 ht4 hg4 hon4 he4;by_cases hc4:c4=0
  ·subst hc4;obtain ⟨ho4,hf4⟩:=hok4 rfl;rw [HBB.out] at ho4;obtain ⟨a4,k4,rfl⟩:=ownsRow_slice ho4;clear hok4 hbad4 ho4 hf4;refine ⟨_,rfl,?_⟩;go_simp;iterate 5 (refine qo (fun K hK=>?_);go_simp;refine hK _ ?_;clear hK K)
   refine wpQuiet_nil ?_;have hx:=hwr'.out;have hx2:=hwr2'.out;have hc:=hst4.out.cells.2.2;go_wp2;go_returns
   exact ⟨3,d4,o4,rfl,HM4.out, .inl rfl⟩
  ·obtain rfl:=hbad4 hc4;have hc4':¬ (c4:Int)=0:=by omega
   have HC4:=Lib.hid hc4;clear hc4 hok4 hbad4;refine ⟨_,rfl,?_⟩;go_simp;iterate 5 (refine qo (fun K hK=>?_);go_simp;refine hK _ ?_;clear hK K)
   refine wpQuiet_nil ?_;go_wp2;go_returns
   exact ⟨c4,d4,o4,rfl,HM4.out, .inr (HE4.out.resolve_left HC4.out)⟩
 ·have hkP':((k:Int) >= (P:Int)):=by omega
  go_wp2;go_returns
  exact ⟨3,d,o,rfl,Moved.ofBelow H.out HB2.out, .inl rfl⟩
set_option maxHeartbeats 1000000 in
theorem streamPage_neg (i:Int) (hi:i < 0) (v:Value) (w:World) :
 Calls Tryz.prog 90 #[v, .int .i64 i] w fun e w'=>e=.returned (.tuple #[.slice none 0 0, .int .i64 0, .int .i64 0, .int .i64 1])/\w=w':=by
 go_enter Tryz.func90,Tryz.ntmps90
 go_wp2;go_returns
 exact ⟨rfl,rfl⟩
set_option maxRecDepth 100000 in
set_option maxHeartbeats 4000000 in
theorem streamGet_out (HW:WriteSaid) (h:PoolAt w pb db n o d L) (hst:StreamAt w sb pb name sz) (ho:o sb=none) (h1:1<=sz) (h2:sz<=240) {rs:List Rec} {fl:Bool} (hL:mget L name=some (.inl (pagesOf (per sz) rs,fl))) (hs:Sized sz rs) {i:Nat} (hi:rs.length<=i) (hi63:i < 9223372036854775808) (hd:d.dead=false) :
 Calls Tryz.prog 57 #[ptrTo sb, .int .i64 (i:Int)] w (NoneOf n pb db w o d L (fun c=>.tuple #[.slice none 0 0, .int .i64 ((c:Nat):Int)])):=by
 have hcall:=Lib.hid (streamPage_out HW h hst ho h1 h2 hL hs hi hi63 hd);clear h hst ho hL hs hi;unfold ptrTo at *;go_enter Tryz.func57,Tryz.ntmps57
 go_wp2_with fail
 refine hcall.out.mono ?_;rintro e w1 ⟨c1,d1,o1,rfl,hm1,he1⟩;have HM1:=Lib.hid hm1;have HE1:=Lib.hid he1;have hc1:¬ (c1:Int)=0:=by
  rcases he1 with h | h
  ·omega
  ·have:=h.ne;omega
 clear hm1 he1;go_wp2;go_ret2
 exact ⟨c1,d1,o1,rfl,HM1.out,HE1.out⟩
set_option maxHeartbeats 1000000 in
theorem streamGet_neg (i:Int) (hi:i < 0) (sb:Nat) (w:World) :
 Calls Tryz.prog 57 #[ptrTo sb, .int .i64 i] w fun e w'=>e=.returned (.tuple #[.slice none 0 0, .int .i64 1])/\w=w':=by
 have hcall:=Lib.hid (streamPage_neg i hi (ptrTo sb) w);unfold ptrTo at *;go_enter Tryz.func57,Tryz.ntmps57
 go_wp2_with fail
 refine hcall.out.mono ?_;rintro e w1 ⟨rfl,rfl⟩;go_wp2;go_ret2
 exact ⟨rfl,rfl⟩
end
end
end Go.Proofs.YthkkgdpomhhjjaaGreatDoor
