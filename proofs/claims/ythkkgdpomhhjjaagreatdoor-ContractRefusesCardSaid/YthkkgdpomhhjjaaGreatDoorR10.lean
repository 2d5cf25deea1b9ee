/-
  Joined.
-/
import Derived.Test.YthkkgdpomhhjjaaGreatDoorR09
import Derived.Shelf.Sort.Plain
import Derived.Shelf.Slices.In.SortNone
import Derived.Ground.NamesProg
import Derived.Test.YthkkgdpomhhjjaaGreatDoorProg
import Derived.Laws.BytesArg
import Derived.Laws.OwnMore
import Derived.Deep.AppendSrc
namespace Go.Proofs.YthkkgdpomhhjjaaGreatDoor
section
open Go.RowKit
section
variable {w:World} {ops:Array Oper} {rest:List Oper} {op:Oper} {a:Act} {Q:Exit->Act->World->Prop}
theorem wpList_append_byteT (hgd:op.guard=none) (s x:Operand) (ho:op.op=.call { callee:=.builtin .append,args:=#[s,x],argTypes:=#[39,39] }) (base:Nat) (v:Value) (bs:List UInt8) (hs:a.eval s=v) (h:BytesT w base v bs)
 (y:UInt8) (b c:Nat) (hx:a.eval x=.slice (some ⟨b,0,none⟩) 1 c) (hb:w.cell? ⟨b,0,none⟩=some (bv y)) (hl:bs.length<=100000) (hbase:base<=w.heap.size)
 (k:∀ v' w',BytesT w' base v' (bs++[y])->w.grownBy w' v.ownBlock->wpList Tryz.prog ops Q rest (a.put op.dst v') w') :
 wpList Tryz.prog ops Q (op::rest) a w:=by
 refine wpList_plain hgd fun K hK=>?_;obtain ⟨v',w',g1,g2,g3,g4⟩:=run_append_byteT base op.type v bs h b c y hb hl hbase;unfold Oper.wp execOp;simp only [ho,resolve,invoke,builtin,Sem.run_bind,Sem.run_pure,Result.andThen_ok,List.map_toArray,List.map_cons,List.map_nil,hs,hx,g1];exact hK _ _ (k v' w' g2 g3)
theorem BytesT.alloc {base:Nat} {v:Value} {bs:List UInt8} (h:BytesT w base v bs) (ob:Obj):BytesT (w.alloc ob) base v bs:=h.kept (fun k hk=>(MapKept.heap_alloc w _).2 k (h.lt k hk).2)
end
def NewBytesT (w:World) (bs:List UInt8) (e:Ending) (w':World):Prop:=
 ∃ v',e=.returned v'/\BytesT w' w.heap.size v' bs/\Below w.heap.size w w'
theorem bytesT_world (w:World) (s:ByteArray) (hs:s.size<=100000):BytesT (Lib.bytesWorld w 5 s) w.heap.size (.slice (some ⟨w.heap.size,0,none⟩) s.size (grownCap w s.size 0 5)) s.data.toList:=by
 have hlen:s.data.toList.length=s.size:=by rw [Array.length_toList];rfl
 have hge:=grownCap_ge w s.size 0 5;have hcm:=grownCap_le_maxLen w s.size 0 5 (by unfold maxLen;omega);have hsz:(Lib.bytesCells w 5 s).size=grownCap w s.size 0 5:=by
  unfold Lib.bytesCells;rw [Array.size_append,Array.size_map,Array.size_replicate];have:s.data.size=s.size:=rfl;omega
 have hh:(Lib.bytesWorld w 5 s).heap[w.heap.size]? = some (.cells (Lib.bytesCells w 5 s) 5 ((Lib.bytesCells w 5 s).size,(Lib.bytesCells w 5 s).size+1)):=by
  unfold Lib.bytesWorld World.freeze;rw [if_neg (by decide)];have h1:=heap_alloc_new w.drew (.cells (Lib.bytesCells w 5 s) 5);rw [World.size_drew] at h1;dsimp only;rw [Array.getElem?_modify,if_pos rfl,h1];simp
 refine .inr ⟨w.heap.size,_,_,_,by rw [hlen],Nat.le_refl _,hh, .inr (Nat.le_refl _),by omega,hcm,hsz,?_⟩;unfold Lib.bytesCells;rw [Array.toList_append,List.take_append_of_le_length (by simp),Array.toList_map,List.take_of_length_le (by simp)];rfl
set_option maxRecDepth 100000 in
set_option maxHeartbeats 1000000 in
theorem copyBytes_any (v:Value) (bs:List UInt8) (w:World) (hv:Rd w v bs) (hl:bs.length<=1000) :
 Calls Tryz.prog 156 #[v] w (NewBytesT w bs):=by
 obtain ⟨a,cap,rfl,hlc,hcm,hc⟩:=hv;by_cases h0:bs.length=0
 ·have hb:bs=[]:=List.length_eq_zero_iff.1 h0;subst hb;clear hc hlc hcm;go_enter Tryz.func156,Tryz.ntmps156
  go_wp2;go_ret;exact ⟨_,rfl,BytesT.nil _ _,Below.refl _ _⟩
 ·obtain ⟨b,off,rfl,hcell⟩:=hc.resolve_left h0;have hcv:Sem.run Tryz.prog (convert 39 9 (.slice (some ⟨b,off,none⟩) bs.length cap)) w=.ok (.string ⟨bs.toArray⟩) w:=
   run_convert_bytes_back (P:=Tryz.prog) w 39 9 5 ⟨b,off,none⟩ cap bs Tryz.underlying39 Tryz.underlying5 Tryz.underlying9 (fun j hj=>by
    rw [Addr_add];exact hcell j hj)
  have hcv2:=Lib.run_convert_string_bytes (P:=Tryz.prog) w 9 39 5 ⟨bs.toArray⟩ Tryz.underlying9 Tryz.underlying39 Tryz.underlying5;have h1:=Lib.hid (bytesT_world w ⟨bs.toArray⟩ (by show bs.toArray.size<=_;simp;omega));have hb:=Lib.hid (Joins.below_bytesWorld w.heap.size w 5 ⟨bs.toArray⟩ (Nat.le_refl _));have h0':¬ (bs.length:Int)=0:=by omega
  clear hcell hc hlc hcm;go_enter Tryz.func156,Tryz.ntmps156
  go_wp2;go_ret;exact ⟨_,rfl,h1.out,hb.out⟩
set_option maxHeartbeats 1000000 in
theorem sized_4 (w:World):Calls Tryz.prog 157 #[.int .i64 4] w fun e w'=>e=.returned (.bool true)/\w=w':=by
 go_enter Tryz.func157,Tryz.ntmps157
 go_wp2;go_ret;exact ⟨rfl,rfl⟩
set_option maxHeartbeats 1000000 in
theorem sized_8 (w:World):Calls Tryz.prog 157 #[.int .i64 8] w fun e w'=>e=.returned (.bool true)/\w=w':=by
 go_enter Tryz.func157,Tryz.ntmps157
 go_wp2;go_ret;exact ⟨rfl,rfl⟩
theorem sized_any (size:Nat) (hs:size=4\/size=8) (w:World):Calls Tryz.prog 157 #[.int .i64 (size:Int)] w fun e w'=>e=.returned (.bool true)/\w=w':=by
 rcases hs with rfl | rfl
 ·exact sized_4 w
 ·exact sized_8 w
set_option maxRecDepth 100000 in
set_option maxHeartbeats 2000000 in
theorem refPut_any (v:Value) (bs:List UInt8) (x size:Nat) (w:World) (hs:size=4\/size=8) (hx:x < 18446744073709551616) (hv:Rd w v bs) (hl:bs.length<=900) :
 Calls Tryz.prog 108 #[v, .int .u64 (x:Int), .int .i64 (size:Int)] w (NewBytesT w (bs++le x size)):=by
 have hcopy:=Lib.hid (copyBytes_any v bs w hv (by omega));have hsz:=Lib.hid (sized_any size hs);have hs8:size<=8:=by omega
 clear hv hs;go_enter Tryz.func108,Tryz.ntmps108
 go_wp2_with fail
 refine hcopy.out.mono ?_;rintro e w1 ⟨v1,rfl,hb1,hB1⟩;have HB1:=Lib.hid hb1;have HBe:=Lib.hid hB1;clear hb1 hB1 hcopy;go_wp2;go_loopw [1,7,8] (fun y out i wr=>∃ k:Nat,k<=size/\y=.int .u64 ((x / 256 ^ k:Nat):Int)/\i=.int .i64 (k:Int)/\BytesT wr w.heap.size out (bs++le x k)/\Below w.heap.size w wr) (fun _ _ i _=>size - (intOf i).toNat)
 case atStart=>exact ⟨0,Nat.zero_le _,by simp,rfl,by simpa [le] using HB1.out,HBe.out⟩
 case round=>
  obtain ⟨k,hk,rfl,rfl,hb2,hB2⟩:=hrel;have HB2:=Lib.hid hb2;have HBe2:=Lib.hid hB2;clear hb2 hB2;by_cases hlt:k < size
  ·have hz:x / 256 ^ k < 18446744073709551616:=Nat.lt_of_le_of_lt (Nat.div_le_self _ _) hx;have hzn:x / 256 ^ (k+1)=x / 256 ^ k / 256:=by rw [Nat.pow_succ,Nat.div_div_eq_div_mul]
   have HZ:Hid (le x (k+1)=le x k++[UInt8.ofNat (x / 256 ^ k)]):=Lib.hid rfl;have HZN:=Lib.hid hzn;have hlen:(bs++le x k).length<=100000:=by rw [List.length_append,le_length];omega
   have hsize:w.heap.size<=wr.heap.size:=HBe2.out.size;clear hzn;generalize x / 256 ^ k=z at *;go_wp2_with fail
   refine (hsz.out wr).mono ?_;rintro e w' ⟨rfl,rfl⟩;have hby:Hid (bv (UInt8.ofNat z)=.int .u8 ((z % 256:Nat):Int)):=Lib.hid (by unfold bv;simp);go_wp2_with (at_builtin;refine wpList_append_byteT rfl _ _ rfl w.heap.size _ _ rfl (HB2.out.alloc _) (UInt8.ofNat z) wr.heap.size 1 rfl ?c1 hlen ?c2 ?_)
   case c1=>rw [hby.out];simp
   case c2=>simp;omega
   intro v4 w4 hb4 hg4;have HB4:Hid (BytesT w4 w.heap.size v4 (bs++le x (k+1))):=Lib.hid (by rw [HZ.out,<- List.append_assoc];simpa using hb4);have HBe4:Hid (Below w.heap.size w w4):=Lib.hid ((HBe2.out.alloc hsize _).grown hg4 (by simp;omega) (fun k hk=>(HB2.out.lt k hk).1));clear hb4 hg4;go_wp2;go_roundw
   case rel=>exact ⟨k+1,by omega,by rw [HZN.out];rfl,by go_num,HB4.out,HBe4.out⟩
   case measure=>simp [intOf];omega
  ·go_wp2;obtain rfl:k=size:=by omega
   go_ret;exact ⟨_,rfl,HB2.out,HBe2.out⟩
set_option maxRecDepth 100000 in
set_option maxHeartbeats 2000000 in
theorem refEdge_any (e:Edg) (w:World):Calls Tryz.prog 73 #[.agg #[.int .u32 (e.t.toNat:Int), .int .u32 (e.h.toNat:Int), .int .u64 (e.x.toNat:Int), .int .u32 (e.m.toNat:Int)]] w (NewBytesT w e.bytes):=by
 have hput:=Lib.hid refPut_any;have h1:=e.t.toNat_lt;have h2:=e.h.toNat_lt;have h3:=e.x.toNat_lt;have h4:=e.m.toNat_lt;have HBY:Hid (e.bytes=le e.t.toNat 4++le e.h.toNat 4++le e.x.toNat 8++le e.m.toNat 4):=Lib.hid rfl;generalize e.bytes=bs at *;generalize e.t.toNat=et at *;generalize e.h.toNat=eh at *;generalize e.x.toNat=ex at *;generalize e.m.toNat=em at *;go_enter Tryz.func73,Tryz.ntmps73
 have HB0:Hid (Below w.heap.size w (w.alloc (.cells #[.int .u32 (et:Int), .int .u32 (eh:Int), .int .u64 (ex:Int), .int .u32 (em:Int)] 64))):=Lib.hid ((Below.refl _ _).alloc (Nat.le_refl _) _);have HX0:Hid ((w.alloc (.cells #[.int .u32 (et:Int), .int .u32 (eh:Int), .int .u64 (ex:Int), .int .u32 (em:Int)] 64)).heap[w.heap.size]? = some (.cells #[.int .u32 (et:Int), .int .u32 (eh:Int), .int .u64 (ex:Int), .int .u32 (em:Int)] 64)):=Lib.hid (heap_alloc_new w _);have hr0:=Lib.hid (BytesT.nil (w.alloc (.cells #[.int .u32 (et:Int), .int .u32 (eh:Int), .int .u64 (ex:Int), .int .u32 (em:Int)] 64)) w.heap.size).rd;go_wp2_with fail
 generalize w.alloc (.cells #[.int .u32 (et:Int), .int .u32 (eh:Int), .int .u64 (ex:Int), .int .u32 (em:Int)] 64)=w0 at *;have cellsOf:Hid (∀ W,Below w0.heap.size w0 W->W.cell? ⟨w.heap.size,0,none⟩=some (.int .u32 (et:Int))/\W.cell? ⟨w.heap.size,1,none⟩=some (.int .u32 (eh:Int))/\W.cell? ⟨w.heap.size,2,none⟩=some (.int .u64 (ex:Int))/\W.cell? ⟨w.heap.size,3,none⟩=some (.int .u32 (em:Int))):=Lib.hid (fun W hW=>by
  have hx:=(hW.block _ (lt_heap HX0.out)).trans HX0.out;refine ⟨?_,?_,?_,?_⟩<;>rw [cells_cell hx]<;>rfl)
 refine (hput.out (.slice none 0 0) [] et 4 w0 (.inl rfl) (by omega) hr0.out (by decide)).mono ?_;rintro e1 w1 ⟨v1,rfl,hb1,hB1⟩;have HE1:=Lib.hid hB1;have HR1:=Lib.hid hb1;obtain ⟨-,k1,-,-⟩:=cellsOf.out w1 HE1.out;clear hb1 hB1;go_wp2_with fail
 refine (hput.out v1 (le et 4) eh 4 w1 (.inl rfl) (by omega) HR1.out.rd (by rw [le_length];omega)).mono ?_;rintro e2 w2 ⟨v2,rfl,hb2,hB2⟩;have HE2:=Lib.hid (HE1.out.trans (hB2.mono HE1.out.size));have HR2:=Lib.hid hb2;obtain ⟨-,-,k2,-⟩:=cellsOf.out w2 HE2.out;clear hb2 hB2 k1;go_wp2_with fail
 refine (hput.out v2 (le et 4++le eh 4) ex 8 w2 (.inr rfl) (by omega) HR2.out.rd (by rw [List.length_append,le_length,le_length];omega)).mono ?_;rintro e3 w3 ⟨v3,rfl,hb3,hB3⟩;have HE3:=Lib.hid (HE2.out.trans (hB3.mono HE2.out.size));have HR3:=Lib.hid hb3;obtain ⟨-,-,-,k3⟩:=cellsOf.out w3 HE3.out;clear hb3 hB3 k2;go_wp2_with fail
 refine (hput.out v3 (le et 4++le eh 4++le ex 8) em 4 w3 (.inl rfl) (by omega) HR3.out.rd (by simp only [List.length_append,le_length];omega)).mono ?_;rintro e4 w4 ⟨v4,rfl,hb4,hB4⟩;have HE4:=Lib.hid (HE3.out.trans (hB4.mono HE3.out.size));have HR4:Hid (BytesT w4 w.heap.size v4 bs):=Lib.hid (by rw [HBY.out];exact hb4.base (Nat.le_trans HB0.out.size HE3.out.size));clear hb4 hB4 k3;go_wp2;go_ret;exact ⟨_,rfl,HR4.out,HB0.out.trans (HE4.out.mono HB0.out.size)⟩
end
section
open Go.RowKit Go.Maps
structure Held (w0 w:World) (pb db n:Nat) (o:Owner) (d:Dsk) (L:Logic):Prop where
 pool:PoolAt w pb db n o d L
 new:∀ x t,o x=some t->w0.heap.size<=x
 below:Below w0.heap.size w0 w
 armed:d.armed=0
 dead:d.dead=false
 quota:d.quota=131072
section
variable {S:Nat->Prop} {w0 w w':World} {pb db n:Nat} {o o':Owner} {d d':Dsk} {L L' L'':Logic}
theorem Held.moved (h:Held w0 w pb db n o d L) (hm:Moved S n pb db w o d w' o' d' L') (hs:∀ x,S x->w0.heap.size<=x):Held w0 w' pb db n o' d' L':=by
 have hz:=h.below.size;refine ⟨hm.pool,fun x t hx=>?_,?_,(hm.on.calm h.armed).1,(hm.on.calm h.armed).2 h.dead,hm.on.quota.trans h.quota⟩
 ·rcases Nat.lt_or_ge x w.heap.size with hl | hg
  ·rw [hm.grow x hl] at hx;exact h.new x t hx
  ·omega
 ·refine h.below.trans ⟨hm.turn.os,hm.turn.tape,hm.turn.output,hm.size,fun k hk=>hm.turn.block k (by omega) ?_⟩;rintro (⟨t,h1,h2⟩ | h1)
  ·have:=h.new k t h1;omega
  ·have:=hs k h1;omega
theorem Held.later (h:Held w0 w pb db n o d L) (hb:Below w.heap.size w w'):Held w0 w' pb db n o d L:=⟨h.pool.below hb,h.new,h.below.trans (hb.mono h.below.size),h.armed,h.dead,h.quota⟩
theorem Held.fine (h:Held w0 w pb db n o d L) (hm:Moved S n pb db w o d w' o' d' L') {B c:Nat} (he:c=0\/ErrN d d' B c) (hn:B<=131072):c=0:=by
 refine he.elim id fun he=>?_;rcases he with ⟨_,h1⟩ | ⟨_,h1⟩
 ·rw [h.quota] at h1;omega
 ·rw [(hm.on.calm h.armed).2 h.dead] at h1;cases h1
theorem Held.fine' (h:Held w0 w pb db n o d L) (hm:Moved S n pb db w o d w' o' d' L') {c:Nat} (he:c=0\/Err d d' L'' c) (hn:need L''<=131072):c=0:=
 h.fine hm (he.imp id fun e=>e.num hn) (Nat.le_refl _)
theorem Held.tick (h:Held w0 w pb db n o d L):d.tick.dead=false:=by
 unfold Dsk.tick;rw [if_neg (by rw [h.armed];omega)];exact h.dead
theorem sound_new (q n:Nat):Sound (Dsk.new q) (List.replicate n Frm.none) []:=by
 have hb:∀ fr∈List.replicate n Frm.none,fr=Frm.none:=fun fr h=>(List.mem_replicate.1 h).2;refine ⟨by simp,by simp [Dsk.new],fun x=>rfl,fun x h=>by simp [mget] at h,fun x ps fl h=>by simp [mget] at h,fun x f ls h=>by simp [mget] at h,fun fr h hf=>?_,fun fr h _=>hb fr h,fun i j fi fj h1 h2 hf=>?_,fun x s h=>by simp [Dsk.new] at h⟩
 ·rw [hb fr h] at hf;cases hf
 ·rw [hb fi (List.mem_of_getElem? h1)] at hf;cases hf
def RdE (w:World) (v:Value) (es:List Edg):Prop:=
 ∃ a cap,v=.slice a es.length cap/\(es.length=0\/∃ b off,a=some ⟨b,off,none⟩/\∀ (j:Nat) (x:Edg),es[j]? = some x->w.cell? ⟨b,off+j*4,none⟩=some (.int .u32 (x.t.toNat:Int))/\w.cell? ⟨b,off+j*4+1,none⟩=some (.int .u32 (x.h.toNat:Int))/\w.cell? ⟨b,off+j*4+2,none⟩=some (.int .u64 (x.x.toNat:Int))/\w.cell? ⟨b,off+j*4+3,none⟩=some (.int .u32 (x.m.toNat:Int)))
theorem RdE.below {w w':World} {v:Value} {es:List Edg} (h:RdE w v es) (hb:Below w.heap.size w w'):RdE w' v es:=by
 obtain ⟨a,cap,rfl,h | ⟨b,off,rfl,hc⟩⟩:=h
 ·exact ⟨a,cap,rfl, .inl h⟩
 ·refine ⟨_,cap,rfl, .inr ⟨b,off,rfl,fun j x hx=>?_⟩⟩;obtain ⟨h1,h2,h3,h4⟩:=hc j x hx;exact ⟨cellBelow hb h1,cellBelow hb h2,cellBelow hb h3,cellBelow hb h4⟩
end
end
section
open Go.RowKit Go.Maps
def nmX:Name:=⟨#[120]⟩
def RawL (es:List Edg) (L:Logic):Prop:=(∃ fl,mget L nmX=some (edgeFile es fl))/\(∀ y,y≠nmX->mget L y=none)/\need L<=4*es.length
theorem only_mput {L:Logic} {nm:Name} {f:LFile} (h:∀ y,y≠nm->mget L y=none):mput L nm f=[(nm,f)]:=by
 unfold mput;have:mdel L nm=[]:=by
  rw [List.eq_nil_iff_forall_not_mem];rintro ⟨y,g⟩ hy;have h1:y∈(mdel L nm).map (·.1):=List.mem_map.2 ⟨_,hy,rfl⟩;rw [mem_keys,mget_mdel] at h1;split at h1
  ·cases h1
  ·rename_i hne
   rw [h y (by first | exact hne | exact fun e=>hne e.symm)] at h1;cases h1
 rw [this]
theorem RawL.add {es:List Edg} {x:Edg} {L:Logic} (h:RawL es L):RawL (es++[x]) (mput L nmX (edgeFile (es++[x]) false)):=by
 refine ⟨⟨false,by rw [mget_mput,if_pos rfl]⟩,fun y hy=>by rw [only_mput h.2.1];rw [<- only_mput (L:=[]) (fun _ _=>rfl),mget_mput,if_neg hy];rfl,?_⟩;rw [only_mput h.2.1,need_cons];have:=edgeFile_need (es++[x]) false;show _+0<=_;omega
def RawPost (w:World) (n:Nat) (es:List Edg) (e:Ending) (w':World):Prop:=
 ∃ db pb o d L,e=.returned (.tuple #[ptrTo db,ptrTo pb])/\Held w w' pb db n o d L/\RawL es L
set_option maxRecDepth 100000 in
set_option maxHeartbeats 4000000 in
theorem raw_any (HW:WriteSaid) (n:Nat) (h1:1<=n) (h2:n<=4096) (v:Value) (es:List Edg) (w:World) (hv:RdE w v es) (hl:es.length<=10000) :
 Calls Tryz.prog 37 #[.int .i64 (n:Int),v] w (RawPost w n es):=by
 have hnd:Hid (Calls Tryz.prog 69 #[.int .i64 131072] w fun e w'=>∃ db o,e=.returned (.tuple #[ptrTo db, .int .i64 0])/\DiskAt w' db o (Dsk.new 131072)/\Below w.heap.size w w'/\∀ x t,o x=some t->w.heap.size<=x):=Lib.hid (newDisk_any 131072 (by decide) w);have hnp:Hid (∀ W db o,DiskAt W db o (Dsk.new 131072)->Calls Tryz.prog 70 #[ptrTo db, .int .i64 (n:Int)] W (NewPoolPost W db n o (Dsk.new 131072) [])):=Lib.hid (fun W db o h=>newPool_any h n h1 h2 (sound_new _ n));have HV:=Lib.hid hv;obtain ⟨a,cap,rfl,-⟩:=hv;unfold ptrTo at *;go_enter Tryz.func37,Tryz.ntmps37
 go_wp2_with fail
 refine hnd.out.mono ?_;rintro e w1 ⟨db,o1,rfl,hd1,hb1,hn1⟩;have hcp:=Lib.hid (hnp.out w1 db o1 hd1);have HB1:=Lib.hid hb1;have HN1:=Lib.hid hn1;clear hd1 hb1 hn1 hnd hnp;unfold ptrTo at *;go_wp2_with fail
 refine hcp.out.mono ?_;rintro e w2 ⟨pb,o2,rfl,hp2,hb2,hg2,hpb⟩;have HH2:Hid (Held w w2 pb db n o2 (Dsk.new 131072) []):=Lib.hid ⟨hp2,fun x t hx=>by
  rcases Nat.lt_or_ge x w1.heap.size with hl | hg
  ·rw [hg2 x hl] at hx;exact HN1.out x t hx
  ·exact Nat.le_trans HB1.out.size hg,HB1.out.trans (hb2.mono HB1.out.size),rfl,rfl,rfl⟩
 clear hp2 hb2 hg2 hpb hcp;have hc0:createCode (Dsk.new 131072) [] nmX=0:=by decide
 have hcr:=Lib.hid (create_pool HH2.out.pool nmX (by decide));unfold CreatePost at hcr;rw [hc0] at hcr;simp only [if_true] at hcr;clear hc0;have HOP:Hid (∀ W o' d' L',PoolAt W pb db n o' d' L'->d'.dead=false->RawL [] L'->Calls Tryz.prog 67 #[ptrTo pb, .string nmX, .int .i64 20] W (StreamOpenPost W pb nmX 20 0)):=Lib.hid (fun W o' d' L' hp hd hr=>by
  have h3:=streamOpen_any (sz:=20) hp nmX (by decide) (by decide) (by decide);obtain ⟨fl,hfl⟩:=hr.1;rw [pfOpen_paged hp hfl,hd] at h3;exact h3)
 have HADD:Hid (∀ W o' d' L' sb rv (x:Edg) (k:Nat),PoolAt W pb db n o' d' L'->StreamAt W sb pb nmX 20->o' sb=none->RawL (es.take k) L'->Rd W rv x.bytes->(∀ y,rv.ownBlock=some y->o' y=none)->Calls Tryz.prog 72 #[ptrTo sb,rv] W (LaidPost (fun _=>False) n pb db W o' d' L' (mput L' nmX (edgeFile (es.take k++[x]) false)))):=Lib.hid (fun W o' d' L' sb rv x k hp hst ho hr hrd hro=>by
  obtain ⟨fl,hfl⟩:=hr.1;have h3:=streamAdd_any HW hp hst ho (by decide) (by decide) hfl (sized_edges _) (by rw [List.length_map,List.length_take];omega) hrd x.bytes_length hro;unfold edgeFile;rw [List.map_append];exact h3)
 have hraw0:Hid (RawL [] (mput [] nmX (.inl (([]:List Pg),true)))):=Lib.hid ⟨⟨true,by rw [mget_mput,if_pos rfl];rfl⟩,fun y hy=>by rw [mget_mput,if_neg hy];rfl,Nat.le_refl _⟩;unfold ptrTo nmX at *;go_wp2_with fail
 refine hcr.out.mono ?_;rintro e w3 ⟨d3,o3,rfl,hm3,hx3,-⟩;have HD3:=Lib.hid (hx3 trivial);have HH3:=Lib.hid (HH2.out.moved hm3 (fun _ h=>h.elim));clear hm3 hx3 hcr;have hop:=Lib.hid (HOP.out w3 o3 d3 _ HH3.out.pool HD3.out hraw0.out);go_wp2_with fail
 refine hop.out.mono ?_;rintro e w4 ⟨v4,rfl,hb4,hs4,-⟩;obtain ⟨sb,rfl,hst4,hsb⟩:=hs4 rfl;have HST4:=Lib.hid hst4;have HOS4:Hid (o3 sb=none):=Lib.hid (HH3.out.pool.fresh hsb);have HH4:=Lib.hid (HH3.out.later hb4);clear hs4 hst4 hsb hb4 hop;unfold ptrTo at *;obtain ⟨M,hM⟩:∃ M,M=es.length:=⟨_,rfl⟩;rw [<- hM] at hl;have HV':=HV;rw [<- hM] at HV' ⊢;have HME:=Lib.hid hM;clear hM HV;go_wp2;go_loopw [10] (fun i wr=>∃ (k:Nat) (d':Dsk) (o':Owner) (L':Logic),k<=M/\i=.int .i64 (k:Int)/\Held w wr pb db n o' d' L'/\RawL (es.take k) L'/\StreamAt wr sb pb ⟨#[120]⟩ 20/\o' sb=none) (fun i _=>M - (intOf i).toNat)
 case atStart=>exact ⟨0,d3,o3,_,Nat.zero_le _,rfl,HH4.out,hraw0.out,HST4.out,HOS4.out⟩
 case round=>
  obtain ⟨k,d5,o5,L5,hk,rfl,hh5,hr5,hst5,hos5⟩:=hrel;have HH5:=Lib.hid hh5;have HR5:=Lib.hid hr5;have HST5:=Lib.hid hst5;have HOS5:=Lib.hid hos5;clear hh5 hr5 hst5 hos5;by_cases hlt:k < M
  ·have hkl:k < es.length:=by rw [<- HME.out];exact hlt
   have hx:es[k]? = some es[k]:=List.getElem?_eq_getElem hkl;have HTK:Hid (es.take (k+1)=es.take k++[es[k]]):=Lib.hid (List.take_succ_eq_append_getElem hkl);obtain ⟨a',cap',hve,hce⟩:=HV'.out;obtain ⟨rfl,-,rfl⟩:a=a'/\M=es.length/\cap=cap':=by simpa using hve
   obtain ⟨b,off,rfl,hcf⟩:=hce.resolve_left (by omega);obtain ⟨q0,q1,q2,q3⟩:=hcf k _ hx;generalize es[k]=x at *;clear hce hcf hve hx hkl;have z0:=cellBelow HH5.out.below q0;have z1:=cellBelow HH5.out.below q1;have z2:=cellBelow HH5.out.below q2;have z3:=cellBelow HH5.out.below q3;clear q0 q1 q2 q3;have hre:=Lib.hid (refEdge_any x wr);go_wp2_with fail
   refine hre.out.mono ?_;rintro e w6 ⟨v6,rfl,hb6,hB6⟩;have hadd:=Lib.hid (HADD.out w6 o5 d5 L5 sb v6 x k (HH5.out.pool.below hB6) (HST5.out.below hB6) HOS5.out HR5.out hb6.rd (fun y hy=>HH5.out.pool.fresh (hb6.lt y hy).1));have HH6:=Lib.hid (HH5.out.later hB6);have HST6:=Lib.hid (HST5.out.below hB6);clear hb6 hB6 hre z0 z1 z2 z3;go_wp2_with fail
   refine hadd.out.mono ?_;rintro e w7 ⟨c7,d7,o7,rfl,hm7,he7⟩;have hra:=HR5.out.add (x:=x);have hc7:c7=0:=HH6.out.fine' hm7 he7 (by
    have:=HR5.out.2.2;rw [List.length_take] at this;omega)
   subst hc7;rw [if_pos rfl] at hm7;rw [<- HTK.out] at hra hm7;have HH7:=Lib.hid (HH6.out.moved hm7 (fun _ h=>h.elim));have HR7:=Lib.hid hra;have HST7:=Lib.hid (HST6.out.moved hm7 HOS5.out (fun h=>h));have HOS7:=Lib.hid (hm7.free HST6.out.lt HOS5.out);clear hm7 he7 hra hadd HH6 HST6;go_wp2;go_roundw
   case rel=>exact ⟨k+1,d7,o7,_,by omega,by go_num,HH7.out,HR7.out,HST7.out,HOS7.out⟩
   case measure=>simp [intOf];omega
  ·go_wp2;go_returns
   have hkM:k=es.length:=by rw [<- HME.out];omega
   exact ⟨db,pb,o5,d5,L5,rfl,HH5.out,by have:=HR5.out;rwa [List.take_of_length_le (by omega)] at this⟩
end
section
open Go.RowKit Go.Maps
section
variable {w0 w w':World} {pb db n:Nat} {o o':Owner} {d d':Dsk} {L L':Logic}
theorem nmX_ne (c:UInt8) (k:Nat):sName c k≠nmX:=by
 intro e;have:=congrArg ByteArray.size e;unfold sName nmX at this;have h2:([c,46]++Lib.decDigits k).toArray.size=1:=this;simp at h2
theorem nmX_t (k:Nat):tName k≠nmX:=by
 intro e;have:=ownName_t k;rw [e] at this;revert this
 decide
def HeldMake (w0:World) (pb db n:Nat) (gen:Nat) (es:List Edg) (vs:List Vrt) (L:Logic) (e:Ending) (w':World):Prop:=
 ∃ d' o',e=.returned (.int .i64 0)/\Held w0 w' pb db n o' d' (makeL L gen es vs)
theorem held_make (HW:WriteSaid) {m:Nat} (HJS:JobSortSaid m) (h:Held w0 w pb db n o d L) (hn:8<=n) {es:List Edg} (hr:RawL es L) {gen:Nat} (hg:GenAt w o gen) (hm:es.length<=m) (hes:es.length<=1000) {v:Value} {vs:List Vrt} (hvs:VertsAt w v vs) (hvo:∀ x,v.ownBlock=some x->o x=none) (hvl:vs.length<=1000) :
 Calls Tryz.prog 45 #[ptrTo pb, .string nmX, .int .i64 (gen:Int),v] w (HeldMake w0 pb db n gen es vs L):=by
 obtain ⟨fl,hfl⟩:=hr.1;refine (storeMake_any HW HJS h.pool hn hg hfl (by decide) hm (hr.2.1 _ (nmX_ne _ _)) (hr.2.1 _ (nmX_ne _ _)) (hr.2.1 _ (nmX_ne _ _)) (fun k=>hr.2.1 _ (nmX_t k)) hvs hvo (by omega)).mono ?_;rintro e w' ⟨c,d',o',L',rfl,hmv,-,hc⟩;have hneed:=hr.2.2;have h0:c=0:=h.fine hmv (hc.imp (fun h=>h.1) id) (by omega);subst h0;rcases hc with ⟨_,rfl⟩ | hc
 ·exact ⟨d',o',rfl,h.moved hmv (fun _ h=>h.elim)⟩
 ·exact absurd rfl hc.ne
theorem rise_best {b:Bool} {l out:List Edg} (h:Best b l out):Rise b out:=by
 intro i j x y hi hj hij;rcases Nat.lt_or_ge i j with hlt | hge
 ·have hil:=lt_of_get hi;have hjl:=lt_of_get hj;rw [List.getElem?_eq_getElem hil] at hi;rw [List.getElem?_eq_getElem hjl] at hj;have h1:=List.pairwise_iff_getElem.1 h.rise i j hil hjl hlt;rw [Option.some.inj hi,Option.some.inj hj] at h1;obtain ⟨p1,p2,p3⟩:=pk_ends b x;obtain ⟨q1,q2,q3⟩:=pk_ends b y;omega
 ·obtain rfl:i=j:=by omega
  rw [hi] at hj;cases hj;exact Nat.le_refl _
theorem rise_bestOf (b:Bool) (l:List Edg):Rise b (bestOf b l):=rise_best (best_bestOf b l)
theorem makeL_files (L:Logic) (gen:Nat) (es:List Edg) (vs:List Vrt) :
 mget (makeL L gen es vs) (sName 101 gen)=some (edgeFile (bestOf false es) true)/\mget (makeL L gen es vs) (sName 114 gen)=some (edgeFile (bestOf true es) true)/\mget (makeL L gen es vs) (sName 118 gen)=some (vertFile vs true):=by
 have n1:sName 101 gen≠sName 114 gen:=sName_ne (by decide) _ _;have n2:sName 101 gen≠sName 118 gen:=sName_ne (by decide) _ _;have n3:sName 114 gen≠sName 118 gen:=sName_ne (by decide) _ _;unfold makeL;refine ⟨?_,?_,?_⟩
 ·rw [mget_mput,if_neg n2,mget_mput,if_neg n1,mget_mput,if_pos rfl]
 ·rw [mget_mput,if_neg n3,mget_mput,if_pos rfl]
 ·rw [mget_mput,if_pos rfl]
theorem makeL_need (L:Logic) (gen:Nat) (es:List Edg) (vs:List Vrt):need (makeL L gen es vs)<=need L+8*es.length+4*vs.length:=by
 unfold makeL;have h1:=need_mput_le (mput (mput L (sName 101 gen) (edgeFile (bestOf false es) true)) (sName 114 gen) (edgeFile (bestOf true es) true)) (sName 118 gen) (vertFile vs true);have h2:=need_mput_le (mput L (sName 101 gen) (edgeFile (bestOf false es) true)) (sName 114 gen) (edgeFile (bestOf true es) true);have h3:=need_mput_le L (sName 101 gen) (edgeFile (bestOf false es) true);have h4:=vertFile_need vs true;have h5:=edgeFile_need (bestOf true es) true;have h6:=edgeFile_need (bestOf false es) true;have h7:=bestOf_length true es;have h8:=bestOf_length false es;omega
end
end
section
open Go.RowKit Go.Maps
def RdV (w:World) (v:Value) (vs:List Vrt):Prop:=
 ∃ a cap,v=.slice a vs.length cap/\(vs.length=0\/∃ b off,a=some ⟨b,off,none⟩/\∀ (j:Nat) (x:Vrt),vs[j]? = some x->w.cell? ⟨b,off+j*3,none⟩=some (.int .u32 (x.r.toNat:Int))/\w.cell? ⟨b,off+j*3+1,none⟩=some (.int .u32 (x.l.toNat:Int))/\w.cell? ⟨b,off+j*3+2,none⟩=some (.int .u32 (x.g.toNat:Int)))
theorem RdV.below {w w':World} {v:Value} {vs:List Vrt} (h:RdV w v vs) (hb:Below w.heap.size w w'):RdV w' v vs:=by
 obtain ⟨a,cap,rfl,h | ⟨b,off,rfl,hc⟩⟩:=h
 ·exact ⟨a,cap,rfl, .inl h⟩
 ·refine ⟨_,cap,rfl, .inr ⟨b,off,rfl,fun j x hx=>?_⟩⟩;obtain ⟨h1,h2,h3⟩:=hc j x hx;exact ⟨cellBelow hb h1,cellBelow hb h2,cellBelow hb h3⟩
def vrtRow:List Vrt->List Value
 | []=>[]
 | x::l=>[.int .u32 (x.r.toNat:Int), .int .u32 (x.l.toNat:Int), .int .u32 (x.g.toNat:Int)]++vrtRow l
theorem vrtRow_length (l:List Vrt):(vrtRow l).length=l.length*3:=by
 induction l with
 | nil=>rfl
 | cons e l ih=>rw [vrtRow,List.length_append,ih,List.length_cons];simp;omega
theorem vrtRow_get {l:List Vrt} {i:Nat} {x:Vrt} (h:l[i]? = some x) {j:Nat} (hj:j < 3):(vrtRow l)[i*3+j]? = [Value.int .u32 (x.r.toNat:Int), .int .u32 (x.l.toNat:Int), .int .u32 (x.g.toNat:Int)][j]? := by
 induction l generalizing i with
 | nil=>cases h
 | cons q l ih=>
   rw [vrtRow];cases i with
   | zero=>
     cases h;rw [List.getElem?_append_left (by simp;omega)];simp
   | succ i=>
     rw [List.getElem?_append_right (by simp;omega),<- ih (i:=i) (by simpa using h)];congr 1;simp;omega
theorem vrtRow_one (l:List Vrt):∀ u∈vrtRow l,u.oneCell'=true:=by
 induction l with
 | nil=>intro u hu;cases hu
 | cons x l ih=>
   intro u hu;rw [vrtRow,List.mem_append] at hu;rcases hu with hu | hu
   ·simp at hu;rcases hu with rfl | rfl | rfl<;>rfl
   ·exact ih u hu
theorem RdV.cells {w:World} {v:Value} {vs:List Vrt} {b off n cap:Nat} (h:RdV w v vs) (hv:v=.slice (some ⟨b,off,none⟩) n cap):∀ j u,(vrtRow vs)[j]? = some u->w.cell? ((⟨b,off,none⟩:Addr).add j)=some u:=by
 intro j u hj;obtain ⟨a,cap',hve,hc⟩:=h;have hjl:=lt_of_get hj;rw [vrtRow_length] at hjl;rcases hc with h0 | ⟨b',off',rfl,hc⟩
 ·omega
 ·rw [hv] at hve;obtain ⟨⟨rfl,rfl⟩,-,-⟩:(b=b'/\off=off')/\n=vs.length/\cap=cap':=by simpa using hve
  have hi:j / 3 < vs.length:=by omega
  obtain ⟨h1,h2,h3⟩:=hc (j / 3) vs[j / 3] (List.getElem?_eq_getElem hi);have hg:=vrtRow_get (List.getElem?_eq_getElem hi) (j:=j % 3) (by omega);rw [show j / 3*3+j % 3=j by omega,hj] at hg;rw [Addr_add];have h012:j % 3=0\/j % 3=1\/j % 3=2:=by omega
  rcases h012 with e | e | e
  ·rw [e] at hg;cases hg;rw [show off+j=off+j / 3*3 by omega];exact h1
  ·rw [e] at hg;cases hg;rw [show off+j=off+j / 3*3+1 by omega];exact h2
  ·rw [e] at hg;cases hg;rw [show off+j=off+j / 3*3+2 by omega];exact h3
theorem info_vert:(Tryz.prog.info? 55).map (fun i=>(i.zero,i.size,i.bytes))=some (some (.agg #[.int .u32 0, .int .u32 0, .int .u32 0]),3,12):=by kernel_rfl
theorem wpList_want {P:Program} {ops:Array Oper} {Q:Exit->Act->World->Prop} {a:Act} {w:World} {rest:List Oper} {o:Oper} (hw:Region.wanted o (yielded ops a.tmps)=true)
 (h:∀ K:Act->World->Prop,(∀ a w,wpList P ops Q rest a w->K a w)->o.wp P a w K Q):wpList P ops Q (o::rest) a w:=
 wpList_step fun K hK=>by rw [if_pos hw];exact h K hK
theorem ownsRow_nothing (w:World) (T:TypeId) (size:Nat):(w.alloc (.cells #[] T)).ownsRow w.heap.size T size (.slice (some ⟨w.heap.size,0,none⟩) 0 0) 0 []:=
 ⟨by simp, .inr ⟨w.heap.size,0,#[],rfl,Nat.le_refl _,heap_alloc_new w _,Nat.le_refl _,Nat.zero_le _,by simp,by simp⟩⟩
theorem verts_of_owns {w:World} {base:Nat} {v:Value} {vs:List Vrt} (h:w.ownsRow base 55 3 v vs.length (vrtRow vs)):VertsAt w v vs/\∀ x,v.ownBlock=some x->base<=x:=by
 refine ⟨?_,ownsRow_block h⟩;obtain ⟨hl,⟨rfl,h0⟩ | ⟨g,cap,cur,rfl,hbg,hg,hnc,hcm,hcs,htake⟩⟩:=h
 ·have:=List.eq_nil_of_length_eq_zero h0;subst this;exact ⟨none,0,rfl,Nat.le_refl _,Nat.zero_le _, .inl rfl⟩
 ·refine ⟨_,cap,rfl,hnc,hcm, .inr ⟨g,0,rfl,fun i hi=>?_⟩⟩;have hc:∀ (j:Nat) (u:Value),(vrtRow vs)[j]? = some u->w.cell? ⟨g,j,none⟩=some u:=fun j u hj=>by
   have:=World.ownsRow.cells (w:=w) (base:=base) (e:=55) (size:=3) (v:=.slice (some ⟨g,0,none⟩) vs.length cap) (n:=vs.length) (xs:=vrtRow vs) ⟨hl, .inr ⟨g,cap,cur,rfl,hbg,hg,hnc,hcm,hcs,htake⟩⟩ (g:=g) rfl j u hj;rwa [Addr_add,Nat.zero_add] at this
  have hget:=List.getElem?_eq_getElem hi;refine ⟨hc _ _ ?_,hc _ _ ?_,hc _ _ ?_⟩
  ·have:=vrtRow_get hget (j:=0) (by decide);rw [Nat.add_zero] at this;rw [Nat.zero_add,this];rfl
  ·rw [Nat.zero_add,vrtRow_get hget (by decide)];rfl
  ·rw [Nat.zero_add,vrtRow_get hget (by decide)];rfl
theorem wpList_append_verts {w:World} {ops:Array Oper} {rest:List Oper} {o:Oper} {a:Act} {Q:Exit->Act->World->Prop} (hwd:Region.wanted o (yielded ops a.tmps)=true) (s x:Operand) (ho:o.op=.call { callee:=.builtin .append,args:=#[s,x],argTypes:=#[23,23] })
 (hs:a.eval s=.slice (some ⟨w.heap.size,0,none⟩) 0 0) (v:Value) (vs:List Vrt) (hx:a.eval x=v) (hr:RdV w v vs) (hl:vs.length<=100000)
 (k:∀ v' w',Hid (VertsAt w' v' vs)->Hid (∀ x,v'.ownBlock=some x->w.heap.size<=x)->Hid (Below w.heap.size w w')->wpList Tryz.prog ops Q rest (a.put o.dst v') w') :
 wpList Tryz.prog ops Q (o::rest) a (w.alloc (.cells #[] 55)):=by
 obtain ⟨i0,hi0,hz0,hz1,hz2⟩:=info_parts info_vert;have hown:=ownsRow_nothing w 55 3;refine wpList_want hwd fun K hK=>?_;have hrun:∃ v' w',(Builtin.append_ #[23,23] o.type #[.slice (some ⟨w.heap.size,0,none⟩) 0 0,v]).run Tryz.prog (w.alloc (.cells #[] 55))=.ok v' w'/\w'.ownsRow w.heap.size 55 3 v' vs.length (vrtRow vs)/\Below w.heap.size w w':=by
  have hrw:=hr;obtain ⟨ad,cap,rfl,hc⟩:=hrw;cases ad with
  | none=>
    have h0:vs=[]:=by
     rcases hc with hc | ⟨b,off,ha,_⟩
     ·exact List.length_eq_zero_iff.1 hc
     ·cases ha
    subst h0;have hst0:∀ ad,(storeCells ad []).run Tryz.prog (w.alloc (.cells #[] 55))=.ok () (w.alloc (.cells #[] 55)):=fun _=>rfl;exact ⟨_,_,by simp [Builtin.append_,run_underlying Tryz.underlying23,sizeOf,typeInfo,hi0,Builtin.lenOf,Builtin.firstCells,hst0],hown,(Below.refl _ _).alloc (Nat.le_refl _) _⟩
  | some ad=>
    have hcells:∀ j u,(vrtRow vs)[j]? = some u->(w.alloc (.cells #[] 55)).cell? (ad.add j)=some u:=fun j u hj=>by
     have hjl:=lt_of_get hj;rw [vrtRow_length] at hjl;rcases hc with h0 | ⟨b,off,ha,_⟩
     ·omega
     ·cases ha;have h1:=hr.cells rfl j u hj;rw [Addr_add] at *;exact cellBelow ((Below.refl _ _).alloc (Nat.le_refl _) _) h1
    obtain ⟨v',w',g1,g2,g3,g4,g5⟩:=run_append_own_at (P:=Tryz.prog) (w.alloc (.cells #[] 55)) w.heap.size 23 o.type 55 i0 _ 3 12 Tryz.underlying23 hi0 hz0 hz1 hz2 rfl (by decide) _ 0 [] hown ad vs.length cap (vrtRow vs) (vrtRow_length vs) hcells (vrtRow_one vs) (by unfold maxLen;omega) (by omega) (by simp);refine ⟨v',w',g1,by simpa using g2,?_⟩;obtain ⟨q1,q2,q3,q4,q5⟩:=g3;refine ⟨q1,q2,q3,by simp at q4;omega,fun k hk=>?_⟩;have hb1:=q5 k (by simp;omega) (by simp [Value.ownBlock];omega);rw [hb1];exact (MapKept.heap_alloc w _).2 _ hk
 obtain ⟨v',w',h1,h2,h3⟩:=hrun;obtain ⟨h4,h5⟩:=verts_of_owns h2;unfold Oper.wp execOp;simp only [ho,resolve,invoke,builtin,Sem.run_bind,Sem.run_pure,Result.andThen_ok,List.map_toArray,List.map_cons,List.map_nil,hs,hx,h1];exact hK _ _ (k v' w' (Lib.hid h4) (Lib.hid h5) (Lib.hid h3))
theorem rdE_none (w:World):RdE w (.slice none 0 0) []:=⟨none,0,rfl, .inl rfl⟩
end
section
open Go.RowKit Go.Maps Go.MapKept
section
variable {w w':World} {pb db n sb gb gen N ob ib vb v:Nat} {name:Name} {o o':Owner} {d d':Dsk} {L L':Logic}
set_option maxHeartbeats 1000000 in
theorem storeRight_no (k:Int) (hk:k < 0\/1048576 < k) (w:World):Calls Tryz.prog 66 #[.int .i64 k] w fun e w'=>e=.returned (.bool false)/\w=w':=by
 rcases hk with h | h
 ·have h2:¬ k >= 0:=by omega
  go_enter Tryz.func66,Tryz.ntmps66
  go_wp2;go_ret;exact ⟨rfl,rfl⟩
 ·have h1:¬ k<=1048576:=by omega
  have h2:k >= 0:=by omega
  go_enter Tryz.func66,Tryz.ntmps66
  go_wp2;go_ret;exact ⟨rfl,rfl⟩
set_option maxRecDepth 100000 in
set_option maxHeartbeats 4000000 in
theorem graphEdge_gen (E:Nat->Dsk->Prop) (h:PoolAt w pb db n o d L) (hg:GraphAt w o gb pb gen N ob ib vb) {i:Int} {x:Edg} (hget0:∀ W,Below w.heap.size w W->Calls Tryz.prog 57 #[ptrTo ob, .int .i64 i] W (RecPostE E n pb db W o d L x.bytes)) :
 Calls Tryz.prog 28 #[ptrTo gb, .int .i64 i] w (ReadEPostE E n pb db w o d L x):=by
 have hrd:Hid (∀ W,Below w.heap.size w W->Calls Tryz.prog 60 #[ptrTo ob, .int .i64 i] W (ReadEPostE E n pb db W o d L x)):=Lib.hid (fun W hW=>storeRead_gen E (h.below hW) (fun W' hW'=>hget0 W' (hW.trans (hW'.mono hW.size))));obtain ⟨g0,-,-,-,-⟩:=hg.raw.cells;have hgl:=hg.raw.lt;have H:=Lib.hid h;clear h hg hget0;unfold ptrTo at *;have HB0:Hid (Below w.heap.size w (w.alloc (.cells #[.int .u32 0, .int .u32 0, .int .u64 0, .int .u32 0] 64))):=Lib.hid ((Below.refl _ _).alloc (Nat.le_refl _) _);have HBX:Hid ((w.alloc (.cells #[.int .u32 0, .int .u32 0, .int .u64 0, .int .u32 0] 64)).heap[w.heap.size]? = some (.cells #[.int .u32 0, .int .u32 0, .int .u64 0, .int .u32 0] 64)):=Lib.hid (heap_alloc_new w _);have HOX:Hid (o w.heap.size=none):=Lib.hid (H.out.fresh (Nat.le_refl _));go_enter Tryz.func28,Tryz.ntmps28
 go_wp2_with fail
 generalize w.alloc (.cells #[.int .u32 0, .int .u32 0, .int .u64 0, .int .u32 0] 64)=W0 at *;refine (hrd.out W0 HB0.out).mono ?_;rintro e w1 ⟨c1,d1,o1,y,rfl,hm1,he1,hy1,hz1⟩;have hbl:w.heap.size < W0.heap.size:=(Array.getElem?_eq_some_iff.1 HBX.out).1;have HM1:=Lib.hid ((Moved.ofBelow H.out HB0.out).trans hm1 (fun _ _ h=>h));have HX1:=Lib.hid (hm1.heap HBX.out HOX.out (fun h=>h));have HE1:=Lib.hid he1;have HY1:=Lib.hid hy1;have HZ1:=Lib.hid hz1;have HOX1:Hid (o1 w.heap.size=none):=Lib.hid (hm1.free hbl HOX.out);clear hm1 he1 hy1 hz1;have hset:Hid (∀ (w2:World) (a b c e:Value),w2.heap[w.heap.size]? = some (.cells #[.int .u32 0, .int .u32 0, .int .u64 0, .int .u32 0] 64)->((((w2.setCell ⟨w.heap.size,0,none⟩ a).setCell ⟨w.heap.size,1,none⟩ b).setCell ⟨w.heap.size,2,none⟩ c).setCell ⟨w.heap.size,3,none⟩ e).heap[w.heap.size]? = some (.cells #[a,b,c,e] 64)):=Lib.hid (fun w2 a b c e h0=>by
  rw [cells_set (cells_set (cells_set (cells_set h0 0 a) 1 b) 2 c) 3 e];rfl)
 have k0:w1.cell? ⟨w.heap.size,0,none⟩=some (.int .u32 0):=by rw [cells_cell HX1.out];rfl
 have k1':w1.cell? ⟨w.heap.size,1,none⟩=some (.int .u32 0):=by rw [cells_cell HX1.out];rfl
 have k2':w1.cell? ⟨w.heap.size,2,none⟩=some (.int .u64 0):=by rw [cells_cell HX1.out];rfl
 have k3':w1.cell? ⟨w.heap.size,3,none⟩=some (.int .u32 0):=by rw [cells_cell HX1.out];rfl
 have z0:=cells_frozen HX1.out 0;have z1:=cells_frozen HX1.out 1;have z2:=cells_frozen HX1.out 2;have z3:=cells_frozen HX1.out 3;have hbl1:w.heap.size < w1.heap.size:=(Array.getElem?_eq_some_iff.1 HX1.out).1;have HX3:=Lib.hid (hset.out w1 (.int .u32 (y.t.toNat:Int)) (.int .u32 (y.h.toNat:Int)) (.int .u64 (y.x.toNat:Int)) (.int .u32 (y.m.toNat:Int)) HX1.out);have HM3:Hid (Moved (fun _=>False) n pb db w o d ((((w1.setCell ⟨w.heap.size,0,none⟩ (.int .u32 (y.t.toNat:Int))).setCell ⟨w.heap.size,1,none⟩ (.int .u32 (y.h.toNat:Int))).setCell ⟨w.heap.size,2,none⟩ (.int .u64 (y.x.toNat:Int))).setCell ⟨w.heap.size,3,none⟩ (.int .u32 (y.m.toNat:Int))) o1 d1 L):=Lib.hid ((((HM1.out.setCell _ _ HOX1.out (.inr (Nat.le_refl _))).setCell _ _ HOX1.out (.inr (Nat.le_refl _))).setCell _ _ HOX1.out (.inr (Nat.le_refl _))).setCell _ _ HOX1.out (.inr (Nat.le_refl _)));go_wp2;generalize ((((w1.setCell ⟨w.heap.size,0,none⟩ (.int .u32 (y.t.toNat:Int))).setCell ⟨w.heap.size,1,none⟩ (.int .u32 (y.h.toNat:Int))).setCell ⟨w.heap.size,2,none⟩ (.int .u64 (y.x.toNat:Int))).setCell ⟨w.heap.size,3,none⟩ (.int .u32 (y.m.toNat:Int)))=w3 at *;have q0:w3.cell? ⟨w.heap.size,0,none⟩=some (.int .u32 (y.t.toNat:Int)):=by rw [cells_cell HX3.out];rfl
 have q1:w3.cell? ⟨w.heap.size,1,none⟩=some (.int .u32 (y.h.toNat:Int)):=by rw [cells_cell HX3.out];rfl
 have q2:w3.cell? ⟨w.heap.size,2,none⟩=some (.int .u64 (y.x.toNat:Int)):=by rw [cells_cell HX3.out];rfl
 have q3:w3.cell? ⟨w.heap.size,3,none⟩=some (.int .u32 (y.m.toNat:Int)):=by rw [cells_cell HX3.out];rfl
 clear k0 k1' k2' k3' z0 z1 z2 z3;exact bodyPost_ret (v:=.tuple #[.agg #[.int .u32 (y.t.toNat:Int), .int .u32 (y.h.toNat:Int), .int .u64 (y.x.toNat:Int), .int .u32 (y.m.toNat:Int)], .int .i64 (c1:Int)]) (by simp [results,Tryz.results28,go_sem,q0,q1,q2,q3]) rfl ⟨c1,d1,o1,y,rfl,HM3.out,HE1.out,HY1.out,HZ1.out⟩
theorem graphEdge_in (HW:WriteSaid) (h:PoolAt w pb db n o d L) (hg:GraphAt w o gb pb gen N ob ib vb) {es:List Edg} {fl:Bool} (hL:mget L (sName 101 gen)=some (edgeFile es fl)) {i:Nat} {x:Edg} (hi:es[i]? = some x) :
 Calls Tryz.prog 28 #[ptrTo gb, .int .i64 (i:Int)] w (ReadEPostE (fun c d'=>c=0\/Err d d' L c) n pb db w o d L x):=by
 have hil:=lt_of_get hi;refine graphEdge_gen _ h hg (fun W hW=>?_);have:=streamGet_in HW (h.below hW) (hg.out.below hW) hg.oob (by decide) (by decide) hL (sized_edges es) (i:=i) (by rw [List.length_map];exact hil);rw [List.getElem_map] at this;rw [List.getElem?_eq_getElem hil] at hi;rw [Option.some.inj hi] at this;exact this
end
end
section
open Go.RowKit Go.Maps
structure Kept (q:Nat) (w0 w:World) (pb db n:Nat) (o:Owner) (d:Dsk) (L:Logic):Prop where
 pool:PoolAt w pb db n o d L
 new:∀ x t,o x=some t->w0.heap.size<=x
 below:Below w0.heap.size w0 w
 armed:d.armed=0
 dead:d.dead=false
 quota:d.quota=q
section
variable {S:Nat->Prop} {q:Nat} {w0 w w':World} {pb db n:Nat} {o o':Owner} {d d':Dsk} {L L' L'':Logic}
theorem Kept.count (h:Kept q w0 w pb db n o d L):d.files.length=L.length:=by
 obtain ⟨_,_,_,_,_,_,_,g⟩:=h.pool;have hp:(d.files.map (·.1)).Perm (L.map (·.1)):=by
  rw [List.perm_ext_iff_of_nodup g.dkeys g.keys];intro x;rw [mem_keys,mem_keys,g.names x]
 have:=hp.length_eq;simpa using this
end
end
end Go.Proofs.YthkkgdpomhhjjaaGreatDoor
namespace Go.Proofs
open Go.Shelf
def Tryz.sortStrs_ren:Go.Shelf.Ren:=⟨fun | 190=>74 | 125=>87 | 258=>109 | 128=>135 | 129=>136 | 302=>158 | 303=>159 | 304=>160 | 305=>161 | 306=>162 | 307=>163 | 308=>164 | 309=>165 | 310=>166 | 333=>210 | 329=>192 | 330=>193 | 334=>211 | 335=>212 | 336=>213 | 344=>258 | n=>n,fun | 31=>91 | 9=>9 | 3=>3 | 46=>159 | 0=>0 | 51=>26 | 53=>62 | 4=>4 | 183=>221 | 182=>220 | 131=>225 | 5=>5 | 218=>280 | 222=>284 | 228=>313 | 229=>98 | n=>n,fun | n=>n⟩
theorem Tryz.sortStrs:Go.Proofs.Lays.n190 Tryz.prog Tryz.sortStrs_ren:={
 mixed:=by kernel_rfl
 f125:=Tryz.func87.trans (congrArg some (by kernel_rfl))
 f128:=Tryz.func135.trans (congrArg some (by kernel_rfl))
 f129:=Tryz.func136.trans (congrArg some (by kernel_rfl))
 f190:=Tryz.func74.trans (congrArg some (by kernel_rfl))
 f258:=Tryz.func109.trans (congrArg some (by kernel_rfl))
 f302:=Tryz.func158.trans (congrArg some (by kernel_rfl))
 f303:=Tryz.func159.trans (congrArg some (by kernel_rfl))
 f304:=Tryz.func160.trans (congrArg some (by kernel_rfl))
 f305:=Tryz.func161.trans (congrArg some (by kernel_rfl))
 f306:=Tryz.func162.trans (congrArg some (by kernel_rfl))
 f307:=Tryz.func163.trans (congrArg some (by kernel_rfl))
 f308:=Tryz.func164.trans (congrArg some (by kernel_rfl))
 f309:=Tryz.func165.trans (congrArg some (by kernel_rfl))
 f310:=Tryz.func166.trans (congrArg some (by kernel_rfl))
 f329:=Tryz.func192.trans (congrArg some (by kernel_rfl))
 f330:=Tryz.func193.trans (congrArg some (by kernel_rfl))
 f333:=Tryz.func210.trans (congrArg some (by kernel_rfl))
 f334:=Tryz.func211.trans (congrArg some (by kernel_rfl))
 f335:=Tryz.func212.trans (congrArg some (by kernel_rfl))
 f336:=Tryz.func213.trans (congrArg some (by kernel_rfl))
 f344:=Tryz.func258.trans (congrArg some (by kernel_rfl))
 t0:=Tryz.underlying0
 a0:=Tryz.isAgg0
 z0:=Tryz.sizeOf0
 v0:=Tryz.zeroValue0
 t3:=Tryz.underlying3
 a3:=Tryz.isAgg3
 z3:=Tryz.sizeOf3
 v3:=Tryz.zeroValue3
 t4:=Tryz.underlying4
 a4:=Tryz.isAgg4
 z4:=Tryz.sizeOf4
 v4:=Tryz.zeroValue4
 t5:=Tryz.underlying5
 a5:=Tryz.isAgg5
 z5:=Tryz.sizeOf5
 v5:=Tryz.zeroValue5
 t9:=Tryz.underlying9
 a9:=Tryz.isAgg9
 z9:=Tryz.sizeOf9
 v9:=Tryz.zeroValue9
 t31:=Tryz.underlying91
 a31:=Tryz.isAgg91
 z31:=Tryz.sizeOf91
 v31:=Tryz.zeroValue91
 t46:=Tryz.underlying159
 a46:=Tryz.isAgg159
 z46:=Tryz.sizeOf159
 v46:=Tryz.zeroValue159
 t51:=Tryz.underlying26
 a51:=Tryz.isAgg26
 z51:=Tryz.sizeOf26
 v51:=Tryz.zeroValue26
 t53:=Tryz.underlying62
 a53:=Tryz.isAgg62
 z53:=Tryz.sizeOf62
 v53:=Tryz.zeroValue62
 t131:=Tryz.underlying225
 a131:=Tryz.isAgg225
 z131:=Tryz.sizeOf225
 v131:=Tryz.zeroValue225
 t182:=Tryz.underlying220
 a182:=Tryz.isAgg220
 z182:=Tryz.sizeOf220
 v182:=Tryz.zeroValue220
 t183:=Tryz.underlying221
 a183:=Tryz.isAgg221
 z183:=Tryz.sizeOf221
 v183:=Tryz.zeroValue221
 t218:=Tryz.underlying280
 a218:=Tryz.isAgg280
 z218:=Tryz.sizeOf280
 v218:=Tryz.zeroValue280
 t222:=Tryz.underlying284
 a222:=Tryz.isAgg284
 z222:=Tryz.sizeOf284
 v222:=Tryz.zeroValue284
 t228:=Tryz.underlying313
 a228:=Tryz.isAgg313
 z228:=Tryz.sizeOf313
 v228:=Tryz.zeroValue313
 t229:=Tryz.underlying98
 a229:=Tryz.isAgg98
 z229:=Tryz.sizeOf98
 v229:=Tryz.zeroValue98 }
end Go.Proofs
namespace Go.Proofs.YthkkgdpomhhjjaaGreatDoor
section
open Go.RowKit Go.Maps Go.ChangeMaps
theorem encStr_name (l:List Name):(l.map (fun x:Name=>x.data.toList)).map Go.Proofs.encStr=l.map Value.string:=by
 rw [List.map_map];congr 1
def SortStrPost (w:World) (base g len cap:Nat) (ns:List Name) (e:Ending) (w':World):Prop:=
 ∃ ts:List Name,e=.returned (.tuple #[])/\ts.Perm ns/\w'.ownsRow base 9 1 (.slice (some ⟨g,0,none⟩) len cap) len (ts.map Value.string)/\Turn (·=g) w w'
theorem names_of (l:List (List UInt8)):(l.map fun b=>(⟨b.toArray⟩:Name)).map (fun x:Name=>x.data.toList)=l:=by
 rw [List.map_map];conv=>rhs;rw [<- List.map_id l]
 congr 1
theorem sortStrs_any {w:World} {base g len cap:Nat} {ns:List Name} (hl:ns.length=len) (hbig:len < 4611686018427387904) (hown:w.ownsRow base 9 1 (.slice (some ⟨g,0,none⟩) len cap) len (ns.map Value.string)) :
 Calls Tryz.prog 74 #[.slice (some ⟨g,0,none⟩) len cap] w (SortStrPost w base g len cap ns):=by
 obtain ⟨hlen,⟨h0,_⟩ | ⟨g',cap',cur,hv,hg,hh,hn,hm,hcs,hx⟩⟩:=hown
 ·cases h0
 cases hv;rw [Nat.mul_one] at hx;have hH:=holds_of_block Go.Proofs.encStr (ss:=ns.map fun x:Name=>x.data.toList) hh (by rw [encStr_name,List.length_map,hl];exact hx);have hcon:=Any.slices_Sort_string Tryz.sortStrs g 0 cap (ns.map fun x:Name=>x.data.toList) w hH (Array.getElem?_eq_some_iff.1 hh).1 (by rw [List.length_map,hl];exact hbig);rw [List.length_map,hl] at hcon;refine hcon.mono ?_;rintro e w' ⟨rfl,n,os,rfl⟩;have hp:((ns.map fun x:Name=>x.data.toList).mergeSort fun x y=>decide (x<=y)).Perm (ns.map fun x:Name=>x.data.toList):=List.mergeSort_perm _ _;generalize ((ns.map fun x:Name=>x.data.toList).mergeSort fun x y=>decide (x<=y))=ts at *;refine ⟨ts.map fun b=>(⟨b.toArray⟩:Name),rfl,?_,?_,turn_sorted Go.Proofs.encStr _⟩
 ·have h1:=hp.map (fun b=>(⟨b.toArray⟩:Name));rw [List.map_map] at h1;have:((fun b=>(⟨b.toArray⟩:Name)) ∘ fun x:Name=>x.data.toList)=id:=by
   funext x
   simp
  rw [this,List.map_id] at h1;exact h1
 ·have h2:=ownsRow_sorted (base:=base) (g:=g) (cap:=cap) (n:=n) (e:=9) (os:=os) Go.Proofs.encStr (ss:=ns.map fun x:Name=>x.data.toList) (ts:=ts) hp.length_eq hg hh (by rw [List.length_map,hl];exact hn) hm hcs;rw [List.length_map,hl,<- names_of ts,encStr_name,names_of] at h2;exact h2
def NamesPost (w:World) (d:Dsk) (e:Ending) (w':World):Prop:=
 ∃ (v:Value) (ns:List Name),e=.returned v/\ns.Perm (d.files.map (·.1))/\w'.ownsRow (w.heap.size+1) 9 1 v ns.length (ns.map Value.string)/\Below w.heap.size w w'
set_option maxRecDepth 100000 in
set_option maxHeartbeats 2000000 in
theorem names_any {w:World} {db:Nat} {o:Owner} {d:Dsk} (h:DiskAt w db o d) (hn:d.files.length<=1000) :
 Calls Tryz.prog 38 #[ptrTo db] w (NamesPost w d):=by
 obtain ⟨mf,ml,l,h⟩:=h;have HD:=Lib.hid h;have hstrip:d.files.map (·.1)=l.map (·.1):=by rw [<- h.strip,List.map_map];rfl
 have HN:Hid (l.length<=1000):=Lib.hid (by rw [<- h.strip,List.length_map] at hn;exact hn);unfold NamesPost;rw [hstrip];obtain ⟨⟨hc0,hc1,hc2,hc3,hc4⟩,hf2,hf3,hf4⟩:=h.head.cells;clear h hc1 hc2 hc3 hc4 hf2 hf3 hf4 hstrip hn;unfold ptrTo;go_enter Tryz.func38,Tryz.ntmps38
 go_wp2_with (at_range;refine wpList_rng _ rfl _ _ rfl 109 Tryz.underlying110 mf l rfl HD.out.files ?_;intro ob hi0)
 go_frame
 have hmf:=HD.out.owned _ _ HD.out.omf;go_loopw [3] (fun v wr=>∃ (todo:List (Name × (Nat × DFile))) (acc:List Name),wr.ownsRow (w.heap.size+1) 9 1 v acc.length (acc.map Value.string)/\IterAt Tryz.prog 9 Value.string (fun x:Nat × DFile=>ptrTo x.1) wr mf w.heap.size l todo/\Below w.heap.size w wr/\Hid ((acc++todo.map (·.1)).Perm (l.map (·.1)))) (fun _ wr=>wr.rangeLeft mf w.heap.size)
 case atStart=>exact ⟨_,[],⟨rfl, .inl ⟨rfl,rfl⟩⟩,hi0,(Below.refl _ _).alloc (Nat.le_refl _) _,Lib.hid (List.Perm.refl _)⟩
 case round=>
  generalize u3=v at *;obtain ⟨todo,acc,hr,hi,hb,hk⟩:=hrel;have HB:=Lib.hid hb;have HR:=Lib.hid hr;clear hb hr hi0;go_wp2_with (at_next;refine wpList_nxt _ rfl _ rfl mf w.heap.size l todo rfl hi ?_ ?_)
  ·rintro rfl;have HK:Hid (acc.Perm (l.map (·.1))):=Lib.hid (by simpa using hk.out);have HL:Hid (acc.length<=1000):=Lib.hid (by
    have h1:=HK.out.length_eq;have h2:=HN.out;rw [List.length_map] at h1;omega)
   clear hk hi;obtain ⟨hlen,⟨rfl,h0⟩ | ⟨g,cap,cur,rfl,hg,hh,hnc,hcm,hcs,hx⟩⟩:=HR.out
   ·have HC:=Lib.hid (Any.slices_Sort_string_none Tryz.sortStrs none 0 wr);go_wp2_with fail
    refine HC.out.mono ?_;rintro e w2 ⟨rfl,rfl⟩;go_wp2;go_ret;exact ⟨_,acc,rfl,HK.out,HR.out,HB.out⟩
   ·have HC:=Lib.hid (sortStrs_any rfl (by have:=HL.out;omega) HR.out);clear hlen hh hcs hx;go_wp2_with fail
    refine HC.out.mono ?_;rintro e w2 ⟨ts,rfl,hp,hr2,ht⟩;have HP2:=Lib.hid hp;have HR2:=Lib.hid hr2;have HT2:=Lib.hid ht;clear hp hr2 ht HC;go_wp2;go_ret;refine ⟨_,ts,rfl,HP2.out.trans HK.out,by rw [HP2.out.length_eq];exact HR2.out,?_⟩;have h0:Turn (fun x=>w.heap.size<=x) w wr:=Turn.ofBelow HB.out;exact (h0.trans HT2.out (fun x hx e=>by omega)).below (Nat.le_refl _) (fun _ h=>h)
  ·intro nm pf f rs w1 ob1 hp hal hi1 hen;have hb1:Below w.heap.size w (setBlock w1 w.heap.size ob1):=by
    have:Turn (fun x=>w.heap.size<=x) w (setBlock w1 w.heap.size ob1):=by
     have h0:Turn (fun x=>w.heap.size<=x) w wr:=Turn.ofBelow HB.out;rcases hal with rfl | rfl
     ·exact h0.setBlock _ _ (.inl (Nat.le_refl _))
     ·exact h0.drew.setBlock _ _ (.inl (Nat.le_refl _))
    exact this.below (Nat.le_refl _) (fun _ h=>h)
   have hr1:(setBlock w1 w.heap.size ob1).ownsRow (w.heap.size+1) 9 1 v acc.length (acc.map Value.string):=by
    refine ownsRow_heap HR.out (fun x hx=>?_);have:=ownsRow_block HR.out x hx;have hne:x≠w.heap.size:=by omega
    rcases hal with rfl | rfl
    ·exact heap_setBlock_none _ hne
    ·exact heap_setBlock_none _ hne
   have HP:=Lib.hid hp;have HI:=Lib.hid hi;have HR1:=Lib.hid hr1;have HB1:=Lib.hid hb1;have HLE:Hid (acc.length<=1000/\w.heap.size+1<=(setBlock w1 w.heap.size ob1).heap.size):=Lib.hid ⟨by
    have h1:=hk.out.length_eq;have h2:=HN.out;simp only [List.length_append,List.length_map] at h1;omega,hi1.lt⟩
   clear hp hi hb1 hr1;unfold ptrTo at hen;generalize hW:setBlock w1 w.heap.size ob1=W at hen HR1 HB1 hi1 HLE ⊢;clear hW;have HI1:=Lib.hid hi1;clear hi1;go_wp2_with (refine wpList_append_str rfl _ _ rfl (w.heap.size+1) _ acc rfl HR1.out nm 1 rfl (by have:=HLE.out;omega) HLE.out.2 (fun v2 w2 h2 ha=>?_))
   obtain ⟨⟨q1,q2,q3,q4,q5⟩,-⟩:=ha;have hsz:(W.alloc (.cells #[.string nm] 9)).heap.size=W.heap.size+1:=by simp
   have hlt:=HLE.out.2;have hblk:∀ x,x<=w.heap.size->w2.heap[x]? = W.heap[x]? := fun x hx=>by
    rw [q5 x (by rw [hsz];omega) (fun e=>by have:=ownsRow_block HR1.out x (by first | exact e | exact e.symm);omega)];exact (MapKept.heap_alloc W _).2 _ (by omega)
   have hi2:IterAt Tryz.prog 9 Value.string (fun x:Nat × DFile=>ptrTo x.1) w2 mf w.heap.size l rs:=HI1.out.kept (hblk _ (by omega)) (hblk _ (Nat.le_refl _));refine ⟨⟨rs,acc++[nm],h2,hi2,?_,Lib.hid ?_⟩,?_⟩
   ·refine HB1.out.trans ⟨by rw [q1];rfl,by rw [q2];rfl,by rw [q3];rfl,by rw [hsz] at q4;omega,fun k hk=>hblk k (by omega)⟩
   ·have h1:=(HP.out.map (·.1)).append_left acc;simp only [List.map_cons] at h1;rw [List.append_assoc];exact h1.symm.trans hk.out
   ·have e2:=HP.out.length_eq;rw [List.length_cons] at e2;rw [hi2.left,HI.out.left];omega
end
section
open Go.RowKit Go.Maps
theorem Best.turn {b b':Bool} {l:List Edg} {out:List Edg} (h:Best b (bestOf b' l) out):Best b l out:=by
 have k:=best_bestOf b' l;refine ⟨h.rise,fun e he=>?_,fun x hx hn=>?_⟩
 ·obtain ⟨h1,h2,h3⟩:=h.mem e he;exact ⟨(k.mem e h1).1,h2,(k.mem e h1).2.2⟩
 ·obtain ⟨y,hy,hs⟩:=k.all x hx hn;obtain ⟨e,he,hs'⟩:=h.all y hy (hs.symm.loop hn);exact ⟨e,he,hs'.trans hs⟩
theorem bestOf_turn (b b':Bool) (l:List Edg):bestOf b (bestOf b' l)=bestOf b l:=(best_bestOf b (bestOf b' l)).turn.eq
end
section
open Go.RowKit
set_option maxRecDepth 100000 in
set_option maxHeartbeats 2000000 in
theorem ahead05_nat (xt xh xx xm yt yh yx ym:Nat) (w:World) :
 Calls Tryz.prog 123 #[.agg #[.int .u32 (xt:Int), .int .u32 (xh:Int), .int .u64 (xx:Int), .int .u32 (xm:Int)], .agg #[.int .u32 (yt:Int), .int .u32 (yh:Int), .int .u64 (yx:Int), .int .u32 (ym:Int)]] w fun e w'=>e=.returned (.bool (decide (xt < yt\/xt=yt/\xh < yh)))/\Below w.heap.size w w':=by
 obtain ⟨r,hr0⟩:∃ r:Bool,r=decide (xt < yt\/xt=yt/\xh < yh):=⟨_,rfl⟩;rw [<- hr0];rcases Nat.lt_trichotomy xt yt with g | g | g
 ·have hr:Hid (r=true):=Lib.hid (by rw [hr0];exact decide_eq_true (.inl g));clear hr0;have g1:((xt:Nat):Int) < (yt:Int):=by omega
  go_enter Tryz.func123,Tryz.ntmps123
  go_wp2;go_ret;exact ⟨by rw [hr.out];rfl,((Below.refl _ _).alloc (Nat.le_refl _) _).alloc (by simp) _⟩
 ·subst g;by_cases g:xh < yh
  ·have hr:Hid (r=true):=Lib.hid (by rw [hr0];exact decide_eq_true (.inr ⟨rfl,g⟩));clear hr0;have g1:((xh:Nat):Int) < (yh:Int):=by omega
   go_enter Tryz.func123,Tryz.ntmps123
   go_wp2;go_ret;exact ⟨by rw [hr.out];rfl,((Below.refl _ _).alloc (Nat.le_refl _) _).alloc (by simp) _⟩
  ·have hr:Hid (r=false):=Lib.hid (by rw [hr0];exact decide_eq_false (by omega));clear hr0;have g1:¬ ((xh:Nat):Int) < (yh:Int):=by omega
   go_enter Tryz.func123,Tryz.ntmps123
   go_wp2;go_ret;exact ⟨by rw [hr.out];rfl,((Below.refl _ _).alloc (Nat.le_refl _) _).alloc (by simp) _⟩
 ·have hr:Hid (r=false):=Lib.hid (by rw [hr0];exact decide_eq_false (by omega));clear hr0;have g1:¬ ((xt:Nat):Int) < (yt:Int):=by omega
  have g2:((xt:Int) == (yt:Int))=false:=by rw [beq_eq_false_iff_ne];omega
  have g3:¬ ((xt:Int)=(yt:Int)):=by omega
  go_enter Tryz.func123,Tryz.ntmps123
  go_wp2;go_ret;exact ⟨by rw [hr.out];rfl,((Below.refl _ _).alloc (Nat.le_refl _) _).alloc (by simp) _⟩
set_option maxRecDepth 100000 in
set_option maxHeartbeats 2000000 in
theorem ahead12_tail (xt xh xx xm yt yh yx ym:Nat) (w:World) :
 Calls Tryz.prog 81 #[.agg #[.int .u32 (xt:Int), .int .u32 (xh:Int), .int .u64 (xx:Int), .int .u32 (xm:Int)], .agg #[.int .u32 (yt:Int), .int .u32 (yh:Int), .int .u64 (yx:Int), .int .u32 (ym:Int)], .int .i64 0] w fun e w'=>e=.returned (.bool (decide (xt < yt\/xt=yt/\xh < yh)))/\Below w.heap.size w w':=by
 obtain ⟨r,hr0⟩:∃ r:Bool,r=decide (xt < yt\/xt=yt/\xh < yh):=⟨_,rfl⟩;rw [<- hr0];rcases Nat.lt_trichotomy xt yt with g | g | g
 ·have hr:Hid (r=true):=Lib.hid (by rw [hr0];exact decide_eq_true (.inl g));clear hr0;have g1:((xt:Nat):Int) < (yt:Int):=by omega
  go_enter Tryz.func81,Tryz.ntmps81
  go_wp2;go_ret;exact ⟨by rw [hr.out];rfl,((Below.refl _ _).alloc (Nat.le_refl _) _).alloc (by simp) _⟩
 ·subst g;by_cases g:xh < yh
  ·have hr:Hid (r=true):=Lib.hid (by rw [hr0];exact decide_eq_true (.inr ⟨rfl,g⟩));clear hr0;have g1:((xh:Nat):Int) < (yh:Int):=by omega
   go_enter Tryz.func81,Tryz.ntmps81
   go_wp2;go_ret;exact ⟨by rw [hr.out];rfl,((Below.refl _ _).alloc (Nat.le_refl _) _).alloc (by simp) _⟩
  ·have hr:Hid (r=false):=Lib.hid (by rw [hr0];exact decide_eq_false (by omega));clear hr0;have g1:¬ ((xh:Nat):Int) < (yh:Int):=by omega
   go_enter Tryz.func81,Tryz.ntmps81
   go_wp2;go_ret;exact ⟨by rw [hr.out];rfl,((Below.refl _ _).alloc (Nat.le_refl _) _).alloc (by simp) _⟩
 ·have hr:Hid (r=false):=Lib.hid (by rw [hr0];exact decide_eq_false (by omega));clear hr0;have g1:¬ ((xt:Nat):Int) < (yt:Int):=by omega
  have g2:((xt:Int) == (yt:Int))=false:=by rw [beq_eq_false_iff_ne];omega
  have g3:¬ ((xt:Int)=(yt:Int)):=by omega
  go_enter Tryz.func81,Tryz.ntmps81
  go_wp2;go_ret;exact ⟨by rw [hr.out];rfl,((Below.refl _ _).alloc (Nat.le_refl _) _).alloc (by simp) _⟩
set_option maxRecDepth 100000 in
set_option maxHeartbeats 2000000 in
theorem ahead12_head (xt xh xx xm yt yh yx ym:Nat) (w:World) :
 Calls Tryz.prog 81 #[.agg #[.int .u32 (xt:Int), .int .u32 (xh:Int), .int .u64 (xx:Int), .int .u32 (xm:Int)], .agg #[.int .u32 (yt:Int), .int .u32 (yh:Int), .int .u64 (yx:Int), .int .u32 (ym:Int)], .int .i64 1] w fun e w'=>e=.returned (.bool (decide (xh < yh\/xh=yh/\xt < yt)))/\Below w.heap.size w w':=by
 obtain ⟨r,hr0⟩:∃ r:Bool,r=decide (xh < yh\/xh=yh/\xt < yt):=⟨_,rfl⟩;rw [<- hr0];rcases Nat.lt_trichotomy xh yh with g | g | g
 ·have hr:Hid (r=true):=Lib.hid (by rw [hr0];exact decide_eq_true (.inl g));clear hr0;have g1:((xh:Nat):Int) < (yh:Int):=by omega
  go_enter Tryz.func81,Tryz.ntmps81
  go_wp2;go_ret;exact ⟨by rw [hr.out];rfl,((Below.refl _ _).alloc (Nat.le_refl _) _).alloc (by simp) _⟩
 ·subst g;by_cases g:xt < yt
  ·have hr:Hid (r=true):=Lib.hid (by rw [hr0];exact decide_eq_true (.inr ⟨rfl,g⟩));clear hr0;have g1:((xt:Nat):Int) < (yt:Int):=by omega
   go_enter Tryz.func81,Tryz.ntmps81
   go_wp2;go_ret;exact ⟨by rw [hr.out];rfl,((Below.refl _ _).alloc (Nat.le_refl _) _).alloc (by simp) _⟩
  ·have hr:Hid (r=false):=Lib.hid (by rw [hr0];exact decide_eq_false (by omega));clear hr0;have g1:¬ ((xt:Nat):Int) < (yt:Int):=by omega
   go_enter Tryz.func81,Tryz.ntmps81
   go_wp2;go_ret;exact ⟨by rw [hr.out];rfl,((Below.refl _ _).alloc (Nat.le_refl _) _).alloc (by simp) _⟩
 ·have hr:Hid (r=false):=Lib.hid (by rw [hr0];exact decide_eq_false (by omega));clear hr0;have g1:¬ ((xh:Nat):Int) < (yh:Int):=by omega
  have g2:((xh:Int) == (yh:Int))=false:=by rw [beq_eq_false_iff_ne];omega
  have g3:¬ ((xh:Int)=(yh:Int)):=by omega
  go_enter Tryz.func81,Tryz.ntmps81
  go_wp2;go_ret;exact ⟨by rw [hr.out];rfl,((Below.refl _ _).alloc (Nat.le_refl _) _).alloc (by simp) _⟩
set_option maxRecDepth 100000 in
set_option maxHeartbeats 2000000 in
theorem better03_nat (xt xh xx xm yt yh yx ym:Nat) (w:World) :
 Calls Tryz.prog 124 #[.agg #[.int .u32 (xt:Int), .int .u32 (xh:Int), .int .u64 (xx:Int), .int .u32 (xm:Int)], .agg #[.int .u32 (yt:Int), .int .u32 (yh:Int), .int .u64 (yx:Int), .int .u32 (ym:Int)]] w fun e w'=>e=.returned (.bool (decide (xx < yx\/xx=yx/\(xm+1) % 4294967296 < (ym+1) % 4294967296)))/\Below w.heap.size w w':=by
 have hw1:IntKind.u32.wrap ((xm:Int)+1)=(((xm+1) % 4294967296:Nat):Int):=by rw [IntKind.wrap_u32];omega
 have hw2:IntKind.u32.wrap ((ym:Int)+1)=(((ym+1) % 4294967296:Nat):Int):=by rw [IntKind.wrap_u32];omega
 generalize (xm+1) % 4294967296=xm1 at *;generalize (ym+1) % 4294967296=ym1 at *;obtain ⟨r,hr0⟩:∃ r:Bool,r=decide (xx < yx\/xx=yx/\xm1 < ym1):=⟨_,rfl⟩;rw [<- hr0];rcases Nat.lt_trichotomy xx yx with g | g | g
 ·have hr:Hid (r=true):=Lib.hid (by rw [hr0];exact decide_eq_true (.inl g));clear hr0;have g1:((xx:Nat):Int) < (yx:Int):=by omega
  go_enter Tryz.func124,Tryz.ntmps124
  go_wp2;go_ret;exact ⟨by rw [hr.out];rfl,((Below.refl _ _).alloc (Nat.le_refl _) _).alloc (by simp) _⟩
 ·subst g;by_cases g:xm1 < ym1
  ·have hr:Hid (r=true):=Lib.hid (by rw [hr0];exact decide_eq_true (.inr ⟨rfl,g⟩));clear hr0;have g1:((xm1:Nat):Int) < (ym1:Int):=by omega
   go_enter Tryz.func124,Tryz.ntmps124
   go_wp2;go_ret;exact ⟨by rw [hr.out];rfl,((Below.refl _ _).alloc (Nat.le_refl _) _).alloc (by simp) _⟩
  ·have hr:Hid (r=false):=Lib.hid (by rw [hr0];exact decide_eq_false (by omega));clear hr0;have g1:¬ ((xm1:Nat):Int) < (ym1:Int):=by omega
   go_enter Tryz.func124,Tryz.ntmps124
   go_wp2;go_ret;exact ⟨by rw [hr.out];rfl,((Below.refl _ _).alloc (Nat.le_refl _) _).alloc (by simp) _⟩
 ·have hr:Hid (r=false):=Lib.hid (by rw [hr0];exact decide_eq_false (by omega));clear hr0;have g1:¬ ((xx:Nat):Int) < (yx:Int):=by omega
  have g2:((xx:Int) == (yx:Int))=false:=by rw [beq_eq_false_iff_ne];omega
  have g3:¬ ((xx:Int)=(yx:Int)):=by omega
  go_enter Tryz.func124,Tryz.ntmps124
  go_wp2;go_ret;exact ⟨by rw [hr.out];rfl,((Below.refl _ _).alloc (Nat.le_refl _) _).alloc (by simp) _⟩
theorem ahead05_any (x y:Edg) (w:World):Calls Tryz.prog 123 #[.agg #[.int .u32 (x.t.toNat:Int), .int .u32 (x.h.toNat:Int), .int .u64 (x.x.toNat:Int), .int .u32 (x.m.toNat:Int)], .agg #[.int .u32 (y.t.toNat:Int), .int .u32 (y.h.toNat:Int), .int .u64 (y.x.toNat:Int), .int .u32 (y.m.toNat:Int)]] w
 fun e w'=>e=.returned (.bool (decide (pk false x < pk false y)))/\Below w.heap.size w w':=by
 refine (ahead05_nat _ _ _ _ _ _ _ _ w).mono fun e w' ⟨he,hb⟩=>⟨he.trans ?_,hb⟩;have h1:=x.h.toNat_lt;have h2:=y.h.toNat_lt;rw [decide_eq_decide.2 (show (x.t.toNat < y.t.toNat\/x.t.toNat=y.t.toNat/\x.h.toNat < y.h.toNat) ↔ pk false x < pk false y by unfold pk;simp only [Bool.false_eq_true,if_false];omega)]
theorem ahead12_any (b:Bool) (x y:Edg) (w:World):Calls Tryz.prog 81 #[.agg #[.int .u32 (x.t.toNat:Int), .int .u32 (x.h.toNat:Int), .int .u64 (x.x.toNat:Int), .int .u32 (x.m.toNat:Int)], .agg #[.int .u32 (y.t.toNat:Int), .int .u32 (y.h.toNat:Int), .int .u64 (y.x.toNat:Int), .int .u32 (y.m.toNat:Int)], .int .i64 (byNum b:Int)] w
 fun e w'=>e=.returned (.bool (decide (pk b x < pk b y)))/\Below w.heap.size w w':=by
 have h1:=x.h.toNat_lt;have h2:=y.h.toNat_lt;have h3:=x.t.toNat_lt;have h4:=y.t.toNat_lt;cases b
 ·refine (ahead12_tail _ _ _ _ _ _ _ _ w).mono fun e w' ⟨he,hb⟩=>⟨he.trans ?_,hb⟩;rw [decide_eq_decide.2 (show (x.t.toNat < y.t.toNat\/x.t.toNat=y.t.toNat/\x.h.toNat < y.h.toNat) ↔ pk false x < pk false y by unfold pk;simp only [Bool.false_eq_true,if_false];omega)]
 ·refine (ahead12_head _ _ _ _ _ _ _ _ w).mono fun e w' ⟨he,hb⟩=>⟨he.trans ?_,hb⟩;rw [decide_eq_decide.2 (show (x.h.toNat < y.h.toNat\/x.h.toNat=y.h.toNat/\x.t.toNat < y.t.toNat) ↔ pk true x < pk true y by unfold pk;simp only [if_true];omega)]
theorem better03_any (x y:Edg) (w:World):Calls Tryz.prog 124 #[.agg #[.int .u32 (x.t.toNat:Int), .int .u32 (x.h.toNat:Int), .int .u64 (x.x.toNat:Int), .int .u32 (x.m.toNat:Int)], .agg #[.int .u32 (y.t.toNat:Int), .int .u32 (y.h.toNat:Int), .int .u64 (y.x.toNat:Int), .int .u32 (y.m.toNat:Int)]] w
 fun e w'=>e=.returned (.bool (decide (rk x < rk y)))/\Below w.heap.size w w':=by
 refine (better03_nat _ _ _ _ _ _ _ _ w).mono fun e w' ⟨he,hb⟩=>⟨he.trans ?_,hb⟩;rw [decide_eq_decide.2 (show (x.x.toNat < y.x.toNat\/x.x.toNat=y.x.toNat/\(x.m.toNat+1) % 4294967296 < (y.m.toNat+1) % 4294967296) ↔ rk x < rk y by unfold rk;omega)]
theorem pairwise_get {b:Bool} {out:List Edg} (h:out.Pairwise (fun x y=>pk b x < pk b y)) {i j:Nat} (hij:i < j) {x y:Edg} (hx:out[i]? = some x) (hy:out[j]? = some y):pk b x < pk b y:=by
 have hi:=(List.getElem?_eq_some_iff.1 hx).1;have hj:=(List.getElem?_eq_some_iff.1 hy).1;have:=List.pairwise_iff_getElem.1 h i j hi hj hij;rw [List.getElem?_eq_getElem hi] at hx;rw [List.getElem?_eq_getElem hj] at hy;rw [Option.some.inj hx,Option.some.inj hy] at this;exact this
theorem Best.lay {b:Bool} {l out:List Edg} {x:Edg} (h:Best b l out) (hx:x.t≠x.h) {k:Nat} (hk:k<=out.length) (h1:∀ (i:Nat) (o:Edg),i < k->out[i]? = some o->pk b o < pk b x) (h2:∀ (i:Nat) (o:Edg),k<=i->out[i]? = some o->pk b x < pk b o) :
 Best b (l++[x]) (out.take k++x::out.drop k):=by
 have hsp:out=out.take k++out.drop k:=(List.take_append_drop k out).symm;have hlt:∀ o∈out.take k,pk b o < pk b x:=fun o ho=>by
  obtain ⟨i,hi,rfl⟩:=List.getElem_of_mem ho;rw [List.length_take] at hi;rw [List.getElem_take];exact h1 i _ (by omega) (List.getElem?_eq_getElem (by omega))
 have hgt:∀ o∈out.drop k,pk b x < pk b o:=fun o ho=>by
  obtain ⟨i,hi,rfl⟩:=List.getElem_of_mem ho;rw [List.length_drop] at hi;rw [List.getElem_drop];exact h2 (k+i) _ (by omega) (List.getElem?_eq_getElem (by omega))
 have hne:∀ o∈out,¬ same o x:=fun o ho hs=>by
  have e:=pk_same (b:=b).2 hs;rw [hsp] at ho;rcases List.mem_append.1 ho with ho | ho
  ·have:=hlt o ho;omega
  ·have:=hgt o ho;omega
 have hr:=h.rise;rw [hsp,List.pairwise_append] at hr;have hmem:∀ o,o∈out.take k++x::out.drop k ↔ o=x\/o∈out:=fun o=>by
  rw [List.mem_append,List.mem_cons];conv=>rhs;rw [hsp,List.mem_append]
  constructor
  ·rintro (h | h | h)
   ·exact .inr (.inl h)
   ·exact .inl h
   ·exact .inr (.inr h)
  ·rintro (h | h | h)
   ·exact .inr (.inl h)
   ·exact .inl h
   ·exact .inr (.inr h)
 refine ⟨?_,fun o ho=>?_,fun y hy hn=>?_⟩
 ·rw [List.pairwise_append,List.pairwise_cons];refine ⟨hr.1,⟨hgt,hr.2.1⟩,fun o ho y hy=>?_⟩;rcases List.mem_cons.1 hy with rfl | hy
  ·exact hlt o ho
  ·exact hr.2.2 o ho y hy
 ·rcases (hmem o).1 ho with rfl | ho
  ·refine ⟨by simp,hx,fun y hy hs=>?_⟩;rcases List.mem_append.1 hy with hy | hy
   ·obtain ⟨o',ho',hs'⟩:=h.all y hy (hs.symm.loop hx);exact absurd (hs'.trans hs) (hne o' ho')
   ·rw [List.mem_singleton.1 hy];exact Nat.le_refl _
  ·obtain ⟨g1,g2,g3⟩:=h.mem o ho;refine ⟨List.mem_append_left _ g1,g2,fun y hy hs=>?_⟩;rcases List.mem_append.1 hy with hy | hy
   ·exact g3 y hy hs
   ·rw [List.mem_singleton.1 hy] at hs;exact absurd hs.symm (hne o ho)
 ·rcases List.mem_append.1 hy with hy | hy
  ·obtain ⟨o,ho,hs⟩:=h.all y hy hn;exact ⟨o,(hmem o).2 (.inr ho),hs⟩
  ·rw [List.mem_singleton.1 hy];exact ⟨x,(hmem x).2 (.inl rfl),rfl,rfl⟩
theorem Best.over {b:Bool} {l out:List Edg} {x o:Edg} (h:Best b l out) {k:Nat} (ho:out[k]? = some o) (hs:same o x) (hr:rk x < rk o):Best b (l++[x]) (out.set k x):=by
 have hk:=(List.getElem?_eq_some_iff.1 ho).1;have hpk:pk b x=pk b o:=(pk_same (b:=b).2 hs).symm;have hget:∀ (i:Nat) (y:Edg),(out.set k x)[i]? = some y->(i=k/\y=x)\/(i≠k/\out[i]? = some y):=fun i y hy=>by
  rw [List.getElem?_set] at hy;split at hy
  ·rename_i e
   first
    | exact .inl ⟨e.symm,(Option.some.inj hy).symm⟩
    | (rw [if_pos hk] at hy;exact .inl ⟨e.symm,(Option.some.inj hy).symm⟩)
  ·rename_i e
   exact .inr ⟨fun e'=>e e'.symm,hy⟩
 have hpkg:∀ (i:Nat) (y:Edg),(out.set k x)[i]? = some y->∃ z,out[i]? = some z/\pk b z=pk b y:=fun i y hy=>by
  rcases hget i y hy with ⟨rfl,rfl⟩ | ⟨_,hy⟩
  ·exact ⟨o,ho,hpk.symm⟩
  ·exact ⟨y,hy,rfl⟩
 have ho':=h.mem o (List.mem_of_getElem? ho);refine ⟨?_,fun y hy=>?_,fun y hy hn=>?_⟩
 ·rw [List.pairwise_iff_getElem];intro i j hi hj hij;obtain ⟨z1,g1,e1⟩:=hpkg i _ (List.getElem?_eq_getElem hi);obtain ⟨z2,g2,e2⟩:=hpkg j _ (List.getElem?_eq_getElem hj);rw [<- e1,<- e2];exact pairwise_get h.rise hij g1 g2
 ·obtain ⟨i,hi,rfl⟩:=List.getElem_of_mem hy;rcases hget i _ (List.getElem?_eq_getElem hi) with ⟨_,e⟩ | ⟨hik,e⟩
  ·rw [e];refine ⟨by simp,hs.loop ho'.2.1,fun z hz hzs=>?_⟩;rcases List.mem_append.1 hz with hz | hz
   ·have:=ho'.2.2 z hz (hzs.trans hs.symm);omega
   ·rw [List.mem_singleton.1 hz];exact Nat.le_refl _
  ·generalize (out.set k x)[i]=y at *;obtain ⟨g1,g2,g3⟩:=h.mem y (List.mem_of_getElem? e);refine ⟨List.mem_append_left _ g1,g2,fun z hz hzs=>?_⟩;rcases List.mem_append.1 hz with hz | hz
   ·exact g3 z hz hzs
   ·rw [List.mem_singleton.1 hz] at hzs;have e1:=pk_same (b:=b).2 (hs.trans hzs);rcases Nat.lt_or_gt_of_ne hik with hlt | hlt
    ·have:=pairwise_get h.rise hlt e ho;omega
    ·have:=pairwise_get h.rise hlt ho e;omega
 ·have hin:∀ (i:Nat) (z:Edg),out[i]? = some z->∃ z'∈out.set k x,same z' z:=fun i z hz=>by
   by_cases hik:i=k
   ·subst hik;rw [ho] at hz;cases hz;exact ⟨x,List.mem_of_getElem? (i:=i) (by rw [List.getElem?_set,if_pos rfl,if_pos hk]),hs.symm⟩
   ·exact ⟨z,List.mem_of_getElem? (i:=i) (by rw [List.getElem?_set,if_neg (fun e=>hik e.symm)];exact hz),rfl,rfl⟩
  rcases List.mem_append.1 hy with hy | hy
  ·obtain ⟨z,hz,hzs⟩:=h.all y hy hn;obtain ⟨i,hi,rfl⟩:=List.getElem_of_mem hz;obtain ⟨z',h1,h2⟩:=hin i _ (List.getElem?_eq_getElem hi);exact ⟨z',h1,h2.trans hzs⟩
  ·rw [List.mem_singleton.1 hy];obtain ⟨z',h1,h2⟩:=hin k o ho;exact ⟨z',h1,h2.trans hs⟩
theorem Best.leave {b:Bool} {l out:List Edg} {x:Edg} (h:Best b l out) (hx:x.t=x.h\/∃ o∈out,same o x/\rk o<=rk x):Best b (l++[x]) out:=by
 refine ⟨h.rise,fun o ho=>?_,fun y hy hn=>?_⟩
 ·obtain ⟨g1,g2,g3⟩:=h.mem o ho;refine ⟨List.mem_append_left _ g1,g2,fun y hy hs=>?_⟩;rcases List.mem_append.1 hy with hy | hy
  ·exact g3 y hy hs
  ·rw [List.mem_singleton.1 hy] at hs ⊢;rcases hx with hx | ⟨o',ho',hs',hr⟩
   ·exact absurd hx (hs.symm.loop g2)
   ·have e:=pk_same (b:=b).2 (hs'.trans hs);obtain ⟨i,hi,rfl⟩:=List.getElem_of_mem ho;obtain ⟨j,hj,rfl⟩:=List.getElem_of_mem ho';rcases Nat.lt_trichotomy i j with hlt | rfl | hlt
    ·have:=pairwise_get h.rise hlt (List.getElem?_eq_getElem hi) (List.getElem?_eq_getElem hj);omega
    ·exact hr
    ·have:=pairwise_get h.rise hlt (List.getElem?_eq_getElem hj) (List.getElem?_eq_getElem hi);omega
 ·rcases List.mem_append.1 hy with hy | hy
  ·exact h.all y hy hn
  ·rw [List.mem_singleton.1 hy] at hn ⊢;rcases hx with hx | ⟨o',ho',hs',_⟩
   ·exact absurd hx hn
   ·exact ⟨o',ho',hs'⟩
theorem edgRow_upd {l:List Edg} {i:Nat} (hi:i < l.length) (x:Edg) :
 edgRow (l.set i x)=((((edgRow l).set (i*4) (.int .u32 (x.t.toNat:Int))).set (i*4+1) (.int .u32 (x.h.toNat:Int))).set (i*4+2) (.int .u64 (x.x.toNat:Int))).set (i*4+3) (.int .u32 (x.m.toNat:Int)):=by
 induction l generalizing i with
 | nil=>cases hi
 | cons y l ih=>
   cases i with
   | zero=>simp [edgRow,Edg.cells]
   | succ i=>
     rw [List.set_cons_succ,edgRow,edgRow,ih (by simpa using hi)];have e:(i+1)*4=i*4+1+1+1+1:=by omega
     rw [e];simp only [Edg.cells,List.cons_append,List.nil_append,List.set_cons_succ,Nat.add_assoc,Nat.reduceAdd]
theorem ownsEdges_set {w:World} {base g cap n:Nat} {l:List Edg} (h:ownsEdges w base (.slice (some ⟨g,0,none⟩) n cap) l) {i:Nat} (hi:i < l.length) (x:Edg) :
 ownsEdges ((((w.setCell ⟨g,i*4,none⟩ (.int .u32 (x.t.toNat:Int))).setCell ⟨g,i*4+1,none⟩ (.int .u32 (x.h.toNat:Int))).setCell ⟨g,i*4+2,none⟩ (.int .u64 (x.x.toNat:Int))).setCell ⟨g,i*4+3,none⟩ (.int .u32 (x.m.toNat:Int))) base (.slice (some ⟨g,0,none⟩) n cap) (l.set i x):=by
 have hn:n=l.length:=by
  obtain ⟨a,c,e⟩:=ownsRow_slice h;cases e;rfl
 subst hn;unfold ownsEdges at *;rw [List.length_set,edgRow_upd hi];exact ((((World.ownsRow.stored h _ _).1.stored _ _).1.stored _ _).1.stored _ _).1
theorem ownsEdges_free {w:World} {base g cap n:Nat} {l:List Edg} (h:ownsEdges w base (.slice (some ⟨g,0,none⟩) n cap) l) (j:Nat):w.frozen? ⟨g,j,none⟩=false:=by
 have hn:n=l.length:=by
  obtain ⟨a,c,e⟩:=ownsRow_slice h;cases e;rfl
 subst hn;exact World.ownsRow.frozenAt h j
theorem add_below {w W W':World} {v v':Value} {M:List Edg} {ob:Obj} (hb:Below w.heap.size w W) (hv:ownsEdges W w.heap.size v M) (ha:Appd v (W.alloc ob) W' v'):Below w.heap.size w W':=by
 obtain ⟨hg,_⟩:=ha;have hs:W.heap.size < (W.alloc ob).heap.size:=by simp
 refine hb.trans ⟨hg.os.trans rfl,hg.tape.trans rfl,hg.output.trans rfl,Nat.le_trans (Nat.le_of_lt hs) hg.size,fun x hx=>?_⟩;have:=hb.size;refine (hg.block x (by omega) (fun e=>?_)).trans ((MapKept.heap_alloc W ob).2 x (by omega));have:=(ownBlock_old hv x e.symm).2;omega
end
section
open Go.RowKit Go.Maps
def NewEdges (w:World) (es:List Edg) (e:Ending) (w':World):Prop:=∃ v,e=.returned v/\ownsEdges w' w.heap.size v es/\Below w.heap.size w w'
theorem rdE_cells {w:World} {a:Option Addr} {n cap:Nat} {es:List Edg} (h:RdE w (.slice a n cap) es):n=es.length/\∀ W,Below w.heap.size w W->∀ (i:Nat) (x:Edg),es[i]? = some x->∃ b off,a=some ⟨b,off,none⟩/\W.cell? ⟨b,off+i*4,none⟩=some (.int .u32 (x.t.toNat:Int))/\W.cell? ⟨b,off+i*4+1,none⟩=some (.int .u32 (x.h.toNat:Int))/\W.cell? ⟨b,off+i*4+2,none⟩=some (.int .u64 (x.x.toNat:Int))/\W.cell? ⟨b,off+i*4+3,none⟩=some (.int .u32 (x.m.toNat:Int)):=by
 have hn:n=es.length:=by
  obtain ⟨a',cap',he,_⟩:=h;cases he;rfl
 refine ⟨hn,fun W hB i x hx=>?_⟩;obtain ⟨a',cap',hve,hce⟩:=h.below hB;cases hve;rcases hce with h0 | ⟨b,off,h1,hc⟩
 ·have:=lt_of_get hx;omega
 ·exact ⟨b,off,h1,hc i x hx⟩
theorem take_snoc {es:List Edg} {i:Nat} {x:Edg} (h:es[i]? = some x):es.take (i+1)=es.take i++[x]:=by
 have hl:=lt_of_get h;rw [List.take_succ_eq_append_getElem hl];rw [List.getElem?_eq_getElem hl] at h;rw [Option.some.inj h]
theorem below_stores {w W:World} {g:Nat} (hb:Below w.heap.size w W) (hg:w.heap.size<=g) (a1 a2 a3 a4:Nat) (v1 v2 v3 v4:Value):Below w.heap.size w ((((W.setCell ⟨g,a1,none⟩ v1).setCell ⟨g,a2,none⟩ v2).setCell ⟨g,a3,none⟩ v3).setCell ⟨g,a4,none⟩ v4):=
 (((hb.setCell hg _).setCell hg _).setCell hg _).setCell hg _
theorem heap_stores {W:World} {g b:Nat} {ob:Option Obj} (hb:W.heap[b]? = ob) (hne:b≠g) (a1 a2 a3 a4:Nat) (v1 v2 v3 v4:Value):((((W.setCell ⟨g,a1,none⟩ v1).setCell ⟨g,a2,none⟩ v2).setCell ⟨g,a3,none⟩ v3).setCell ⟨g,a4,none⟩ v4).heap[b]? = ob:=by
 rw [Below.heap_setCell _ _ _ _ hne,Below.heap_setCell _ _ _ _ hne,Below.heap_setCell _ _ _ _ hne,Below.heap_setCell _ _ _ _ hne];exact hb
theorem shift_set {out:List Edg} {x y:Edg} {k at':Nat} (hk:at' < k) (hkl:k<=out.length) (hy:out[k - 1]? = some y):(out.take k++x::out.drop k).set k y=out.take (k - 1)++y::out.drop (k - 1):=by
 have h1:(out.take k).length=k:=by rw [List.length_take];omega
 rw [List.set_append_right _ _ (by omega),h1,Nat.sub_self,List.set_cons_zero];obtain ⟨q,rfl⟩:∃ q,k=q+1:=⟨k - 1,by omega⟩;rw [Nat.add_sub_cancel] at hy ⊢;have hq:q < out.length:=by omega
 rw [List.getElem?_eq_getElem hq] at hy;rw [List.take_succ_eq_append_getElem hq,List.append_assoc,List.drop_eq_getElem_cons hq,Option.some.inj hy];rfl
theorem shift_get {out:List Edg} {x y:Edg} {k:Nat} (hk:0 < k) (hkl:k<=out.length) (hy:out[k - 1]? = some y):(out.take k++x::out.drop k)[k - 1]? = some y:=by
 rw [List.getElem?_append_left (by rw [List.length_take];omega),List.getElem?_take,if_pos (by omega)];exact hy
theorem shift_last {out:List Edg} {x y:Edg} {k:Nat} (hkl:k<=out.length):(out.take k++y::out.drop k).set k x=out.take k++x::out.drop k:=by
 have h1:(out.take k).length=k:=by rw [List.length_take];omega
 rw [List.set_append_right _ _ (by omega),h1,Nat.sub_self,List.set_cons_zero]
def RedHead (w:World) (es:List Edg) (i:Nat) (v:Value) (W:World):Prop:=∃ out:List Edg,ownsEdges W w.heap.size v out/\Best false (es.take i) out/\out.length<=i/\Below w.heap.size w W
set_option maxRecDepth 100000 in
set_option maxHeartbeats 8000000 in
theorem reduce_any (v:Value) (es:List Edg) (w:World) (hv:RdE w v es) (hl:es.length<=10000):Calls Tryz.prog 80 #[v] w (NewEdges w (bestOf false es)):=by
 have HV:=Lib.hid hv;obtain ⟨a,cap,rfl,-⟩:=hv;obtain ⟨-,hcells⟩:=rdE_cells HV.out;have HC:=Lib.hid hcells;have HX:Hid (∀ i,i < es.length->∃ x,es[i]? = some x):=Lib.hid (fun i hi=>⟨_,List.getElem?_eq_getElem hi⟩);have HALL:Hid (es.take es.length=es):=Lib.hid (List.take_of_length_le (Nat.le_refl _));clear hcells;generalize hN:es.length=N at *;have HN:=Lib.hid hN;clear hN;go_enter Tryz.func80,Tryz.ntmps80
 go_wp2;go_loopw [3,4] (fun ov iv W=>∃ i:Nat,i<=N/\iv=.int .i64 (i:Int)/\RedHead w es i ov W) (fun _ iv _=>N - (intOf iv).toNat)
 case atStart=>exact ⟨0,Nat.zero_le _,rfl,[],World.ownsRow_nil _ _ _ _,Best.nil _,Nat.le_refl _,Below.refl _ _⟩
 case round=>
  generalize u3=ov at *;generalize wr=W0 at *;obtain ⟨i,hi,rfl,out,hr,hbest,hol,hb⟩:=hrel;have HR:=Lib.hid hr;have HBEST:=Lib.hid hbest;have HB:=Lib.hid hb;have hz:w.heap.size<=W0.heap.size:=hb.size;clear hr hbest hb;by_cases hlt:i < N
  ·obtain ⟨x,hx⟩:=HX.out i hlt;obtain ⟨be,oe,rfl,f0,f1,f2,f3⟩:=HC.out W0 HB.out i x hx;have HTK:=Lib.hid (take_snoc hx);clear hx;go_upto_region 6 with (fail)
   have HB1:Hid (Below W0.heap.size W0 (W0.alloc (.cells #[.int .u32 (x.t.toNat:Int), .int .u32 (x.h.toNat:Int), .int .u64 (x.x.toNat:Int), .int .u32 (x.m.toNat:Int)] 64))):=Lib.hid ((Below.refl _ _).alloc (Nat.le_refl _) _);have HQ1:Hid ((W0.alloc (.cells #[.int .u32 (x.t.toNat:Int), .int .u32 (x.h.toNat:Int), .int .u64 (x.x.toNat:Int), .int .u32 (x.m.toNat:Int)] 64)).heap[W0.heap.size]? = some (.cells #[.int .u32 (x.t.toNat:Int), .int .u32 (x.h.toNat:Int), .int .u64 (x.x.toNat:Int), .int .u32 (x.m.toNat:Int)] 64)):=Lib.hid (heap_alloc_new W0 _);have hs1:W0.heap.size < (W0.alloc (.cells #[.int .u32 (x.t.toNat:Int), .int .u32 (x.h.toNat:Int), .int .u64 (x.x.toNat:Int), .int .u32 (x.m.toNat:Int)] 64)).heap.size:=by simp
   clear f0 f1 f2 f3;generalize W0.alloc (.cells #[.int .u32 (x.t.toNat:Int), .int .u32 (x.h.toNat:Int), .int .u64 (x.x.toNat:Int), .int .u32 (x.m.toNat:Int)] 64)=W1 at *;have HBW1:=Lib.hid (HB.out.trans (HB1.out.mono hz));have HR1:Hid (ownsEdges W1 w.heap.size ov out):=Lib.hid (ownsRow_below HR.out HB1.out);have HNX:Hid (∀ y,ov.ownBlock=some y->y < W0.heap.size):=Lib.hid (fun y hy=>(ownBlock_old HR.out y hy).1);generalize W0.heap.size=xb at *;have hz1:w.heap.size<=W1.heap.size:=by omega
   clear HB HB1;have hxc:∀ W:World,W.heap[xb]? = some (.cells #[.int .u32 (x.t.toNat:Int), .int .u32 (x.h.toNat:Int), .int .u64 (x.x.toNat:Int), .int .u32 (x.m.toNat:Int)] 64)->W.cell? ⟨xb,0,none⟩=some (.int .u32 (x.t.toNat:Int))/\W.cell? ⟨xb,1,none⟩=some (.int .u32 (x.h.toNat:Int))/\W.cell? ⟨xb,2,none⟩=some (.int .u64 (x.x.toNat:Int))/\W.cell? ⟨xb,3,none⟩=some (.int .u32 (x.m.toNat:Int)):=fun W hW=>by
    refine ⟨?_,?_,?_,?_⟩<;>rw [cells_cell hW]<;>rfl
   have HXC:=Lib.hid hxc;clear hxc;by_cases hloop:x.t=x.h
   ·have HBL:Hid (Best false (es.take (i+1)) out):=Lib.hid (by rw [HTK.out];exact HBEST.out.leave (.inl hloop));obtain ⟨c0,c1,-,-⟩:=HXC.out W1 HQ1.out;rw [hloop] at c0;clear hloop;go_wp2;go_roundw
    case rel=>exact ⟨i+1,by omega,by go_num,out,HR1.out,HBL.out,by omega,HBW1.out⟩
    case measure=>simp [intOf];omega
   ·obtain ⟨a1,a2,a3,a4,a5⟩:=u32_ne hloop;have HLOOP:=Lib.hid hloop;obtain ⟨c0,c1,-,-⟩:=HXC.out W1 HQ1.out;obtain ⟨oa,oc,hve⟩:∃ oa oc,ov=.slice oa out.length oc:=ownsRow_slice HR1.out;subst hve;have HOC:Hid (∀ W,Below W1.heap.size W1 W->∀ (j:Nat) (o:Edg),out[j]? = some o->∃ g,oa=some ⟨g,0,none⟩/\W.cell? ⟨g,j*4,none⟩=some (.int .u32 (o.t.toNat:Int))/\W.cell? ⟨g,j*4+1,none⟩=some (.int .u32 (o.h.toNat:Int))/\W.cell? ⟨g,j*4+2,none⟩=some (.int .u64 (o.x.toNat:Int))/\W.cell? ⟨g,j*4+3,none⟩=some (.int .u32 (o.m.toNat:Int))):=Lib.hid (fun W hB j o ho=>by
     rcases ownsEdges_shape HR1.out with ⟨h1,h2⟩ | ⟨g,cap,h1,hg,hc1,hc2⟩
     ·rw [h1] at ho;cases ho
     ·cases h1;obtain ⟨e0,e1,e2,e3⟩:=ownsEdges_cells HR1.out ho;exact ⟨g,rfl,cellBelow hB e0,cellBelow hB e1,cellBelow hB e2,cellBelow hB e3⟩)
    have HOX:Hid (∀ j,j < out.length->∃ o,out[j]? = some o):=Lib.hid (fun j hj=>⟨_,List.getElem?_eq_getElem hj⟩);generalize hn0:out.length=n0 at *;have HN0:=Lib.hid hn0;clear hn0;go_wp2;go_loopw [6] (fun kv W=>∃ k:Nat,k<=n0/\kv=.int .i64 (k:Int)/\(∀ (j:Nat) (o:Edg),j < k->out[j]? = some o->pk false o < pk false x)/\Below W1.heap.size W1 W) (fun kv _=>n0 - (intOf kv).toNat)
    case atStart=>exact ⟨0,Nat.zero_le _,rfl,(fun j o hj=>absurd hj (Nat.not_lt_zero _)),Below.refl _ _⟩
    case round=>
     generalize wr=W2 at *;clear a1 a2 a3 a4 a5 c0 c1;obtain ⟨k,hk,rfl,hlo,hb2⟩:=hrel;have HLO:=Lib.hid hlo;have HB2:=Lib.hid hb2;clear hlo hb2;have HX2:Hid (∀ W,Below W2.heap.size W2 W->W.heap[xb]? = some (.cells #[.int .u32 (x.t.toNat:Int), .int .u32 (x.h.toNat:Int), .int .u64 (x.x.toNat:Int), .int .u32 (x.m.toNat:Int)] 64)):=Lib.hid (fun W hB=>((hB.block _ (Nat.lt_of_lt_of_le hs1 HB2.out.size)).trans (HB2.out.block _ hs1)).trans HQ1.out);by_cases hkl:k < n0
     ·obtain ⟨o,ho⟩:=HOX.out k hkl;have HO:=Lib.hid ho;clear ho;obtain ⟨g,rfl,-⟩:=HOC.out W2 HB2.out k o HO.out;have HOW:Hid (∀ W,Below W2.heap.size W2 W->W.cell? ⟨g,k*4,none⟩=some (.int .u32 (o.t.toNat:Int))/\W.cell? ⟨g,k*4+1,none⟩=some (.int .u32 (o.h.toNat:Int))/\W.cell? ⟨g,k*4+2,none⟩=some (.int .u64 (o.x.toNat:Int))/\W.cell? ⟨g,k*4+3,none⟩=some (.int .u32 (o.m.toNat:Int))):=Lib.hid (fun W hB=>by
       obtain ⟨g',e,r⟩:=HOC.out W (HB2.out.trans (hB.mono HB2.out.size)) k o HO.out;cases e;exact r)
      have hcall:=Lib.hid (fun W=>ahead05_any o x W);obtain ⟨r,hr0⟩:∃ r:Bool,r=decide (pk false o < pk false x):=⟨_,rfl⟩;rw [<- hr0] at hcall;have HRR:=Lib.hid hr0;clear hr0;go_wp2_with fail
      refine wq W2 ?_;iterate 8 (refine qo (fun K hK=>?_);go_simp;refine hK _ ?_;clear hK K)
      refine qo (fun K hK=>?_) (fun w' hw'=>by obtain ⟨e0,e1,e2,e3⟩:=HOW.out w' hw';go_simp<;>rfl);go_simp;refine hK _ ?_;clear hK K;refine qo (fun K hK=>?_) (fun w' hw'=>by obtain ⟨e0,e1,e2,e3⟩:=HXC.out w' (HX2.out w' hw');go_simp<;>rfl);go_simp;refine hK _ ?_;clear hK K;refine qc (fun w' hw'=>(hcall.out w').mono fun e w'' ⟨he,hb⟩=>⟨he,hw'.trans (hb.mono hw'.size)⟩) (fun K hK=>?_);go_simp;refine hK _ ?_;clear hK K;refine qo (fun K hK=>?_);go_simp;refine hK _ ?_;clear hK K;refine wpQuiet_nil ?_;intro W3 hb3;have HB3:=Lib.hid (HB2.out.trans (hb3.mono HB2.out.size));have HX3:Hid (∀ W,Below W3.heap.size W3 W->W.heap[xb]? = some (.cells #[.int .u32 (x.t.toNat:Int), .int .u32 (x.h.toNat:Int), .int .u64 (x.x.toNat:Int), .int .u32 (x.m.toNat:Int)] 64)):=Lib.hid (fun W hB=>HX2.out W (hb3.trans (hB.mono hb3.size)));clear hb3 HX2;cases r with
      | true=>
        have HLO':Hid (∀ (j:Nat) (o':Edg),j < k+1->out[j]? = some o'->pk false o' < pk false x):=Lib.hid (fun j o' hj ho'=>by
         rcases Nat.lt_or_ge j k with h | h
         ·exact HLO.out j o' h ho'
         ·obtain rfl:j=k:=by omega
          rw [HO.out] at ho';rw [<- Option.some.inj ho'];exact of_decide_eq_true HRR.out.symm)
        go_wp2;go_roundw
        case rel=>exact ⟨k+1,by omega,by go_num,HLO'.out,HB3.out⟩
        case measure=>simp [intOf];omega
      | false=>
        have HGE:Hid (¬ pk false o < pk false x):=Lib.hid (of_decide_eq_false HRR.out.symm);have HOW3:Hid (∀ W,Below W3.heap.size W3 W->W.cell? ⟨g,k*4,none⟩=some (.int .u32 (o.t.toNat:Int))/\W.cell? ⟨g,k*4+1,none⟩=some (.int .u32 (o.h.toNat:Int))/\W.cell? ⟨g,k*4+2,none⟩=some (.int .u64 (o.x.toNat:Int))/\W.cell? ⟨g,k*4+3,none⟩=some (.int .u32 (o.m.toNat:Int))):=Lib.hid (fun W hB=>by
         obtain ⟨g',e,r⟩:=HOC.out W (HB3.out.trans (hB.mono HB3.out.size)) k o HO.out;cases e;exact r)
        have hcall2:=Lib.hid (fun W=>ahead05_any x o W);obtain ⟨r2,hr2⟩:∃ r:Bool,r=decide (pk false x < pk false o):=⟨_,rfl⟩;rw [<- hr2] at hcall2;have HRR2:=Lib.hid hr2;clear hr2 hcall HOW;go_wp2_with fail
        refine wq W3 ?_;iterate 5 (refine qo (fun K hK=>?_);go_simp;refine hK _ ?_;clear hK K)
        refine qo (fun K hK=>?_) (fun w' hw'=>by obtain ⟨e0,e1,e2,e3⟩:=HXC.out w' (HX3.out w' hw');go_simp<;>rfl);go_simp;refine hK _ ?_;clear hK K;iterate 3 (refine qo (fun K hK=>?_);go_simp;refine hK _ ?_;clear hK K)
        refine qo (fun K hK=>?_) (fun w' hw'=>by obtain ⟨e0,e1,e2,e3⟩:=HOW3.out w' hw';go_simp<;>rfl);go_simp;refine hK _ ?_;clear hK K;refine qc (fun w' hw'=>(hcall2.out w').mono fun e w'' ⟨he,hb⟩=>⟨he,hw'.trans (hb.mono hw'.size)⟩) (fun K hK=>?_);go_simp;refine hK _ ?_;clear hK K;iterate 2 (refine qo (fun K hK=>?_);go_simp;refine hK _ ?_;clear hK K)
        refine wpQuiet_nil ?_;intro W4 hb4;have HB4:=Lib.hid (HB3.out.trans (hb4.mono HB3.out.size));have HX4:Hid (∀ W,Below W4.heap.size W4 W->W.heap[xb]? = some (.cells #[.int .u32 (x.t.toNat:Int), .int .u32 (x.h.toNat:Int), .int .u64 (x.x.toNat:Int), .int .u32 (x.m.toNat:Int)] 64)):=Lib.hid (fun W hB=>HX3.out W (hb4.trans (hB.mono hb4.size)));clear hb4 HX3 hcall2 HOW3;cases r2 with
        | false=>
          have HPK:Hid (pk false o=pk false x):=Lib.hid (by
           have h1:=HGE.out;have h2:=of_decide_eq_false HRR2.out.symm;omega)
          have HOW4:Hid (∀ W,Below W4.heap.size W4 W->W.cell? ⟨g,k*4,none⟩=some (.int .u32 (o.t.toNat:Int))/\W.cell? ⟨g,k*4+1,none⟩=some (.int .u32 (o.h.toNat:Int))/\W.cell? ⟨g,k*4+2,none⟩=some (.int .u64 (o.x.toNat:Int))/\W.cell? ⟨g,k*4+3,none⟩=some (.int .u32 (o.m.toNat:Int))):=Lib.hid (fun W hB=>by
           obtain ⟨g',e,r⟩:=HOC.out W (HB4.out.trans (hB.mono HB4.out.size)) k o HO.out;cases e;exact r)
          have hcall3:=Lib.hid (fun W=>better03_any x o W);obtain ⟨r3,hr3⟩:∃ r:Bool,r=decide (rk x < rk o):=⟨_,rfl⟩;rw [<- hr3] at hcall3;have HRR3:=Lib.hid hr3;clear hr3;go_wp2_with fail
          refine wq W4 ?_;refine qo (fun K hK=>?_) (fun w' hw'=>by obtain ⟨e0,e1,e2,e3⟩:=HXC.out w' (HX4.out w' hw');go_simp<;>rfl);go_simp;refine hK _ ?_;clear hK K;iterate 3 (refine qo (fun K hK=>?_);go_simp;refine hK _ ?_;clear hK K)
          refine qo (fun K hK=>?_) (fun w' hw'=>by obtain ⟨e0,e1,e2,e3⟩:=HOW4.out w' hw';go_simp<;>rfl);go_simp;refine hK _ ?_;clear hK K;refine qc (fun w' hw'=>(hcall3.out w').mono fun e w'' ⟨he,hb⟩=>⟨he,hw'.trans (hb.mono hw'.size)⟩) (fun K hK=>?_);go_simp;refine hK _ ?_;clear hK K;refine wpQuiet_nil ?_;intro W5 hb5;have HB5:=Lib.hid (HB4.out.trans (hb5.mono HB4.out.size));have HR5:Hid (ownsEdges W5 w.heap.size (.slice (some ⟨g,0,none⟩) n0 oc) out):=Lib.hid (ownsRow_below HR1.out HB5.out);have HX5:Hid (W5.heap[xb]? = some (.cells #[.int .u32 (x.t.toNat:Int), .int .u32 (x.h.toNat:Int), .int .u64 (x.x.toNat:Int), .int .u32 (x.m.toNat:Int)] 64)):=Lib.hid (HX4.out W5 hb5);have HBW5:=Lib.hid (HBW1.out.trans (HB5.out.mono hz1));clear hb5 HX4 hcall3 HOW4;cases r3 with
          | true=>
            have HBO:Hid (Best false (es.take (i+1)) (out.set k x)):=Lib.hid (by
             rw [HTK.out];exact HBEST.out.over HO.out (pk_same.1 HPK.out) (of_decide_eq_true HRR3.out.symm))
            have hown:=ownsEdges_set HR5.out (i:=k) (by rw [HN0.out];exact hkl) x;obtain ⟨e0,e1,e2,e3⟩:=ownsEdges_cells (by rw [HN0.out];exact HR5.out) HO.out;obtain ⟨c0,c1,c2,c3⟩:=HXC.out W5 HX5.out;have z0:=ownsEdges_free HR5.out (k*4);have z1:=ownsEdges_free HR5.out (k*4+1);have z2:=ownsEdges_free HR5.out (k*4+2);have z3:=ownsEdges_free HR5.out (k*4+3);have hgw:w.heap.size<=g:=ownsRow_block HR5.out g rfl;have HBS:=Lib.hid (below_stores HBW5.out hgw (k*4) (k*4+1) (k*4+2) (k*4+3) (.int .u32 (x.t.toNat:Int)) (.int .u32 (x.h.toNat:Int)) (.int .u64 (x.x.toNat:Int)) (.int .u32 (x.m.toNat:Int)));have HOWN:=Lib.hid hown;clear hown;go_wp2;go_roundw
            case rel=>exact ⟨i+1,by omega,by go_num,out.set k x,HOWN.out,HBO.out,by rw [List.length_set,HN0.out];omega,HBS.out⟩
            case measure=>simp [intOf];omega
          | false=>
            have HBL:Hid (Best false (es.take (i+1)) out):=Lib.hid (by
             rw [HTK.out];exact HBEST.out.leave (.inr ⟨o,List.mem_of_getElem? HO.out,pk_same.1 HPK.out,by have:=of_decide_eq_false HRR3.out.symm;omega⟩))
            go_wp2;go_roundw
            case rel=>exact ⟨i+1,by omega,by go_num,out,HR5.out,HBL.out,by rw [HN0.out];omega,HBW5.out⟩
            case measure=>simp [intOf];omega
        | true=>
          have HLAY:Hid (Best false (es.take (i+1)) (out.take k++x::out.drop k)):=Lib.hid (by
           rw [HTK.out];refine HBEST.out.lay HLOOP.out (by rw [HN0.out];exact hk) HLO.out (fun j o' hj ho'=>?_);have h1:pk false x < pk false o:=of_decide_eq_true HRR2.out.symm;rcases Nat.eq_or_lt_of_le hj with rfl | hlt
           ·rw [HO.out] at ho';rw [<- Option.some.inj ho'];exact h1
           ·exact Nat.lt_trans h1 (pairwise_get HBEST.out.rise hlt HO.out ho'))
          have HBX:=HB4;clear HX4 HRR HRR2;have HRx:Hid (ownsEdges W4 w.heap.size (.slice (some ⟨g,0,none⟩) n0 oc) out):=Lib.hid (ownsRow_below HR1.out HBX.out);have hzx:w.heap.size<=W4.heap.size:=Nat.le_trans hz1 HBX.out.size;have hln:out.length<=100000:=by rw [HN0.out];omega
          have hxx:xb < W4.heap.size:=Nat.lt_of_lt_of_le hs1 HBX.out.size;have HX0:Hid (W4.heap[xb]? = some (.cells #[.int .u32 (x.t.toNat:Int), .int .u32 (x.h.toNat:Int), .int .u64 (x.x.toNat:Int), .int .u32 (x.m.toNat:Int)] 64)):=Lib.hid ((HBX.out.block _ hs1).trans HQ1.out);obtain ⟨c0,c1,c2,c3⟩:=HXC.out W4 HX0.out;go_wp2_with (at_builtin;refine wpList_append_edge rfl _ _ rfl w.heap.size _ out rfl HRx.out x 1 rfl hln hzx ?_)
          intro v6 W6 hr6 ha6;have HB6:=Lib.hid (add_below (HBW1.out.trans (HBX.out.mono hz1)) HRx.out ha6);have hal:W4.heap.size < (W4.alloc (.cells #[.int .u32 (x.t.toNat:Int), .int .u32 (x.h.toNat:Int), .int .u64 (x.x.toNat:Int), .int .u32 (x.m.toNat:Int)] 64)).heap.size:=by simp
          have HXB6:Hid (W6.heap[xb]? = some (.cells #[.int .u32 (x.t.toNat:Int), .int .u32 (x.h.toNat:Int), .int .u64 (x.x.toNat:Int), .int .u32 (x.m.toNat:Int)] 64)):=Lib.hid (((ha6.1.block xb (by omega) (fun e=>by have:=HNX.out xb e.symm;omega)).trans ((MapKept.heap_alloc W4 _).2 xb hxx)).trans HX0.out);have hnx6:∀ y,v6.ownBlock=some y->xb≠y:=fun y hy e=>by
           rcases ha6.2 with h | h
           ·rw [h] at hy;have:=HNX.out y hy;omega
           ·rw [h] at hy;have:=Option.some.inj hy;omega
          obtain ⟨n1,hn1⟩:∃ n1:Nat,n1=n0+1:=⟨_,rfl⟩;have hlen6:(out++[x]).length=n1:=by rw [List.length_append,HN0.out,hn1];rfl
          obtain ⟨g6,c6,rfl⟩:∃ g c,v6=.slice (some ⟨g,0,none⟩) n1 c:=by
           rcases ownsEdges_shape hr6 with ⟨h1,_⟩ | ⟨g,c,h1,_⟩
           ·simp at h1
           ·exact ⟨g,c,by rw [<- hlen6];exact h1⟩
          have hne6:xb≠g6:=hnx6 g6 rfl;have hg6:w.heap.size<=g6:=ownsRow_block hr6 g6 rfl;have hn1':(n1:Int) - 1=(n0:Int):=by omega
          have hn1p:n0 < n1:=by omega
          have hcap6:n1<=c6/\c6<=maxLen:=by
           rcases ownsEdges_shape hr6 with ⟨h1,_⟩ | ⟨g,c,h1,_,h2,h3⟩
           ·simp at h1
           ·rw [hlen6] at h1 h2;cases h1;exact ⟨h2,h3⟩
          obtain ⟨hcap61,hcap62⟩:=hcap6;unfold maxLen at hcap62;have HR6:Hid (ownsEdges W6 w.heap.size (.slice (some ⟨g6,0,none⟩) n1 c6) (out.take n0++x::out.drop n0)):=Lib.hid (by
           rw [List.take_of_length_le (by rw [HN0.out];exact Nat.le_refl _),List.drop_of_length_le (by rw [HN0.out];exact Nat.le_refl _)];exact hr6)
          have HN1:=Lib.hid hn1;clear hr6 ha6 hnx6 hlen6 hn1 hal c0 c1 c2 c3;go_wp2;go_loopw [7] (fun kv W=>∃ (kk:Nat) (y:Edg),k<=kk/\kk<=n0/\kv=.int .i64 (kk:Int)/\ownsEdges W w.heap.size (.slice (some ⟨g6,0,none⟩) n1 c6) (out.take kk++y::out.drop kk)/\Below w.heap.size w W/\W.heap[xb]? = some (.cells #[.int .u32 (x.t.toNat:Int), .int .u32 (x.h.toNat:Int), .int .u64 (x.x.toNat:Int), .int .u32 (x.m.toNat:Int)] 64)) (fun kv _=>(intOf kv).toNat)
          case atStart=>exact ⟨n0,x,hk,Nat.le_refl _,rfl,HR6.out,HB6.out,HXB6.out⟩
          case round=>
           generalize wr=W7 at *;obtain ⟨kk,y,hkk1,hkk2,rfl,hr7,hb7,hx7⟩:=hrel;have HR7:=Lib.hid hr7;have HB7:=Lib.hid hb7;have HX7:=Lib.hid hx7;clear hr7 hb7 hx7;have hMl:(out.take kk++y::out.drop kk).length=n1:=by
            rw [List.length_append,List.length_cons,List.length_take,List.length_drop,HN0.out,HN1.out];omega
           have HML:=Lib.hid hMl;clear hMl;have HKY:Hid ((out.take kk++y::out.drop kk)[kk]? = some y):=Lib.hid (by
            rw [List.getElem?_append_right (by rw [List.length_take];omega),List.length_take,HN0.out,Nat.min_eq_left hkk2,Nat.sub_self];rfl)
           obtain ⟨p0,p1,p2,p3⟩:=ownsEdges_cells (by rw [HML.out];exact HR7.out) HKY.out;have z0:=ownsEdges_free HR7.out (kk*4);have z1:=ownsEdges_free HR7.out (kk*4+1);have z2:=ownsEdges_free HR7.out (kk*4+2);have z3:=ownsEdges_free HR7.out (kk*4+3);by_cases hgt:k < kk
           ·obtain ⟨q,hq⟩:∃ q:Nat,(q:Int)=(kk:Int) - 1:=⟨kk - 1,by omega⟩;have hq':(kk:Int) - 1=(q:Int):=hq.symm;have hqk:kk - 1=q:=by omega
            have HQK:=Lib.hid hqk;have hqn:q < n1:=by omega
            have hql:q < out.length:=by rw [HN0.out];omega
            obtain ⟨z,hz⟩:∃ z,out[q]? = some z:=⟨_,List.getElem?_eq_getElem hql⟩;have hzz:out[kk - 1]? = some z:=by rw [hqk];exact hz
            have HZ:Hid ((out.take kk++y::out.drop kk)[q]? = some z):=Lib.hid (by
             have:=shift_get (x:=y) (by omega) (by rw [HN0.out];exact hkk2) hzz;rw [hqk] at this;exact this)
            have HSET:Hid ((out.take kk++y::out.drop kk).set kk z=out.take q++z::out.drop q):=Lib.hid (by
             have:=shift_set (x:=y) hgt (by rw [HN0.out];exact hkk2) hzz;rw [hqk] at this;exact this)
            have hown:=ownsEdges_set HR7.out (i:=kk) (by rw [HML.out];omega) z;rw [HSET.out] at hown;have HOWN:=Lib.hid hown;obtain ⟨s0,s1,s2,s3⟩:=ownsEdges_cells (by rw [HML.out];exact HR7.out) HZ.out;have HBS:=Lib.hid (below_stores HB7.out hg6 (kk*4) (kk*4+1) (kk*4+2) (kk*4+3) (.int .u32 (z.t.toNat:Int)) (.int .u32 (z.h.toNat:Int)) (.int .u64 (z.x.toNat:Int)) (.int .u32 (z.m.toNat:Int)));have HXS:=Lib.hid (heap_stores HX7.out hne6 (kk*4) (kk*4+1) (kk*4+2) (kk*4+3) (.int .u32 (z.t.toNat:Int)) (.int .u32 (z.h.toNat:Int)) (.int .u64 (z.x.toNat:Int)) (.int .u32 (z.m.toNat:Int)));clear hq hqk hz hzz hown hql;go_wp2;go_roundw
            case rel=>exact ⟨q,z,by omega,by omega,by first | rfl | go_num,HOWN.out,HBS.out,HXS.out⟩
            case measure=>simp [intOf];omega
           ·obtain rfl:kk=k:=by omega
            obtain ⟨c0,c1,c2,c3⟩:=HXC.out W7 HX7.out;have hown:=ownsEdges_set HR7.out (i:=kk) (by rw [HML.out];omega) x;rw [shift_last (by rw [HN0.out];exact hkk2)] at hown;have HOWN:=Lib.hid hown;have HBS:=Lib.hid (below_stores HB7.out hg6 (kk*4) (kk*4+1) (kk*4+2) (kk*4+3) (.int .u32 (x.t.toNat:Int)) (.int .u32 (x.h.toNat:Int)) (.int .u64 (x.x.toNat:Int)) (.int .u32 (x.m.toNat:Int)));have hkn1:kk < n1:=by omega
            clear hown;go_wp2;go_roundw
            case rel=>exact ⟨i+1,by omega,by go_num,out.take kk++x::out.drop kk,HOWN.out,HLAY.out,by rw [List.length_append,List.length_cons,List.length_take,List.length_drop,HN0.out];omega,HBS.out⟩
            case measure=>simp [intOf];omega
     ·obtain rfl:n0=k:=by omega
      have HLAY:Hid (Best false (es.take (i+1)) (out.take n0++x::out.drop n0)):=Lib.hid (by
       rw [HTK.out];refine HBEST.out.lay HLOOP.out (by rw [HN0.out];exact Nat.le_refl _) HLO.out (fun j o' hj ho'=>?_);have:=lt_of_get ho';rw [HN0.out] at this;omega)
      have hdd:decide ((n0:Int) < (n0:Int))=false:=decide_eq_false (by omega);have hdd':decide (n0 < n0)=false:=decide_eq_false (by omega);go_wp2_with fail
      go_quiet (fail)
      have hb3:Below W2.heap.size W2 (W2.drewN nq):=below_drewN (Below.refl _ _) _;have HB3:=Lib.hid (HB2.out.trans (hb3.mono HB2.out.size));clear hb3;generalize W2.drewN nq=W3 at *;go_wp2_with fail
      go_quiet (fail)
      have hb4:Below W3.heap.size W3 (W3.drewN nq):=below_drewN (Below.refl _ _) _;have HBX:=Lib.hid (HB3.out.trans (hb4.mono HB3.out.size));clear hb4 hdd hdd';generalize W3.drewN nq=W4 at *;have HRx:Hid (ownsEdges W4 w.heap.size (.slice oa n0 oc) out):=Lib.hid (ownsRow_below HR1.out HBX.out);have hzx:w.heap.size<=W4.heap.size:=Nat.le_trans hz1 HBX.out.size;have hln:out.length<=100000:=by rw [HN0.out];omega
      have hxx:xb < W4.heap.size:=Nat.lt_of_lt_of_le hs1 HBX.out.size;have HX0:Hid (W4.heap[xb]? = some (.cells #[.int .u32 (x.t.toNat:Int), .int .u32 (x.h.toNat:Int), .int .u64 (x.x.toNat:Int), .int .u32 (x.m.toNat:Int)] 64)):=Lib.hid ((HBX.out.block _ hs1).trans HQ1.out);obtain ⟨c0,c1,c2,c3⟩:=HXC.out W4 HX0.out;go_wp2_with (at_builtin;refine wpList_append_edge rfl _ _ rfl w.heap.size _ out rfl HRx.out x 1 rfl hln hzx ?_)
      intro v6 W6 hr6 ha6;have HB6:=Lib.hid (add_below (HBW1.out.trans (HBX.out.mono hz1)) HRx.out ha6);have hal:W4.heap.size < (W4.alloc (.cells #[.int .u32 (x.t.toNat:Int), .int .u32 (x.h.toNat:Int), .int .u64 (x.x.toNat:Int), .int .u32 (x.m.toNat:Int)] 64)).heap.size:=by simp
      have HXB6:Hid (W6.heap[xb]? = some (.cells #[.int .u32 (x.t.toNat:Int), .int .u32 (x.h.toNat:Int), .int .u64 (x.x.toNat:Int), .int .u32 (x.m.toNat:Int)] 64)):=Lib.hid (((ha6.1.block xb (by omega) (fun e=>by have:=HNX.out xb e.symm;omega)).trans ((MapKept.heap_alloc W4 _).2 xb hxx)).trans HX0.out);have hnx6:∀ y,v6.ownBlock=some y->xb≠y:=fun y hy e=>by
       rcases ha6.2 with h | h
       ·rw [h] at hy;have:=HNX.out y hy;omega
       ·rw [h] at hy;have:=Option.some.inj hy;omega
      obtain ⟨n1,hn1⟩:∃ n1:Nat,n1=n0+1:=⟨_,rfl⟩;have hlen6:(out++[x]).length=n1:=by rw [List.length_append,HN0.out,hn1];rfl
      obtain ⟨g6,c6,rfl⟩:∃ g c,v6=.slice (some ⟨g,0,none⟩) n1 c:=by
       rcases ownsEdges_shape hr6 with ⟨h1,_⟩ | ⟨g,c,h1,_⟩
       ·simp at h1
       ·exact ⟨g,c,by rw [<- hlen6];exact h1⟩
      have hne6:xb≠g6:=hnx6 g6 rfl;have hg6:w.heap.size<=g6:=ownsRow_block hr6 g6 rfl;have hn1':(n1:Int) - 1=(n0:Int):=by omega
      have hn1p:n0 < n1:=by omega
      have hcap6:n1<=c6/\c6<=maxLen:=by
       rcases ownsEdges_shape hr6 with ⟨h1,_⟩ | ⟨g,c,h1,_,h2,h3⟩
       ·simp at h1
       ·rw [hlen6] at h1 h2;cases h1;exact ⟨h2,h3⟩
      obtain ⟨hcap61,hcap62⟩:=hcap6;unfold maxLen at hcap62;have HR6:Hid (ownsEdges W6 w.heap.size (.slice (some ⟨g6,0,none⟩) n1 c6) (out.take n0++x::out.drop n0)):=Lib.hid (by
       rw [List.take_of_length_le (by rw [HN0.out];exact Nat.le_refl _),List.drop_of_length_le (by rw [HN0.out];exact Nat.le_refl _)];exact hr6)
      have HN1:=Lib.hid hn1;clear hr6 ha6 hnx6 hlen6 hn1 hal c0 c1 c2 c3;go_wp2;go_loopw [7] (fun kv W=>∃ (kk:Nat) (y:Edg),n0<=kk/\kk<=n0/\kv=.int .i64 (kk:Int)/\ownsEdges W w.heap.size (.slice (some ⟨g6,0,none⟩) n1 c6) (out.take kk++y::out.drop kk)/\Below w.heap.size w W/\W.heap[xb]? = some (.cells #[.int .u32 (x.t.toNat:Int), .int .u32 (x.h.toNat:Int), .int .u64 (x.x.toNat:Int), .int .u32 (x.m.toNat:Int)] 64)) (fun kv _=>(intOf kv).toNat)
      case atStart=>exact ⟨n0,x,hk,Nat.le_refl _,rfl,HR6.out,HB6.out,HXB6.out⟩
      case round=>
       generalize wr=W7 at *;obtain ⟨kk,y,hkk1,hkk2,rfl,hr7,hb7,hx7⟩:=hrel;have HR7:=Lib.hid hr7;have HB7:=Lib.hid hb7;have HX7:=Lib.hid hx7;clear hr7 hb7 hx7;have hMl:(out.take kk++y::out.drop kk).length=n1:=by
        rw [List.length_append,List.length_cons,List.length_take,List.length_drop,HN0.out,HN1.out];omega
       have HML:=Lib.hid hMl;clear hMl;have HKY:Hid ((out.take kk++y::out.drop kk)[kk]? = some y):=Lib.hid (by
        rw [List.getElem?_append_right (by rw [List.length_take];omega),List.length_take,HN0.out,Nat.min_eq_left hkk2,Nat.sub_self];rfl)
       obtain ⟨p0,p1,p2,p3⟩:=ownsEdges_cells (by rw [HML.out];exact HR7.out) HKY.out;have z0:=ownsEdges_free HR7.out (kk*4);have z1:=ownsEdges_free HR7.out (kk*4+1);have z2:=ownsEdges_free HR7.out (kk*4+2);have z3:=ownsEdges_free HR7.out (kk*4+3);by_cases hgt:n0 < kk
       ·omega
       ·obtain rfl:kk=n0:=by omega
        obtain ⟨c0,c1,c2,c3⟩:=HXC.out W7 HX7.out;have hown:=ownsEdges_set HR7.out (i:=kk) (by rw [HML.out];omega) x;rw [shift_last (by rw [HN0.out];exact hkk2)] at hown;have HOWN:=Lib.hid hown;have HBS:=Lib.hid (below_stores HB7.out hg6 (kk*4) (kk*4+1) (kk*4+2) (kk*4+3) (.int .u32 (x.t.toNat:Int)) (.int .u32 (x.h.toNat:Int)) (.int .u64 (x.x.toNat:Int)) (.int .u32 (x.m.toNat:Int)));have hkn1:kk < n1:=by omega
        clear hown;go_wp2;go_roundw
        case rel=>exact ⟨i+1,by omega,by go_num,out.take kk++x::out.drop kk,HOWN.out,HLAY.out,by rw [List.length_append,List.length_cons,List.length_take,List.length_drop,HN0.out];omega,HBS.out⟩
        case measure=>simp [intOf];omega
  ·obtain rfl:N=i:=by omega
   go_wp2;go_ret;refine ⟨_,rfl,?_,HB.out⟩;have h:=HBEST.out;rw [HALL.out] at h;rw [<- h.eq];exact HR.out
theorem edg_eq {x y:Edg}:(y.t=x.t/\y.h=x.h/\y.x=x.x/\y.m=x.m) ↔ y=x:=by
 cases x;cases y;simp
instance edgDec:DecidableEq Edg:=fun y x=>decidable_of_iff (y.t=x.t/\y.h=x.h/\y.x=x.x/\y.m=x.m) edg_eq
noncomputable section
def outM (es:List Edg) (v:Nat):List Edg:=ofL false v (bestOf false es)
def inM (es:List Edg) (v:Nat):List Edg:=ofL true v (bestOf true es)
def onceL (l:List Nat):List Nat:=l.foldl (fun a x=>if x∈a then a else a++[x]) []
def nearM (es:List Edg) (v:Nat):List Nat:=onceL ((outM es v).map (·.h.toNat)++(inM es v).map (·.t.toNat))
structure Cnd where
 v:Nat
 k:Nat
 n:List Nat
def keyN (i o s:Nat) (x:Vrt):Nat:=(keyP i o s x.l.toNat x.g.toNat).toNat
def candM (es:List Edg) (v:Nat) (x:Vrt):Cnd:=⟨v,keyN (inM es v).length (outM es v).length (cutsM (outM es) (fun _=>false) (inM es v) (UInt32.ofNat v)).length x,nearM es v⟩
def candsM (es:List Edg) (vs:List Vrt):List Cnd:=vs.zipIdx.filterMap fun p=>if p.1.r=4294967295 then some (candM es p.2 p.1) else none
def AheadC (a b:Cnd):Prop:=a.k < b.k\/a.k=b.k/\a.v < b.v
instance (a b:Cnd):Decidable (AheadC a b):=by unfold AheadC;infer_instance
def LateC (cs:List Cnd) (v:Nat):Prop:=∃ a∈cs,∃ b∈cs,b.v∈a.n/\a.v≠b.v/\(AheadC a b/\b.v=v\/¬ AheadC a b/\a.v=v)
instance (cs:List Cnd) (v:Nat):Decidable (LateC cs v):=by unfold LateC;infer_instance
def pickM (cs:List Cnd):List Nat:=(cs.map (·.v)).filter fun v=>¬ LateC cs v
def chosenM (es:List Edg) (vs:List Vrt):List Nat:=pickM (candsM es vs)
def stayM (es:List Edg) (ch:List Nat):List Edg:=(bestOf false es).filter fun x=>x.t.toNat ∉ ch/\x.h.toNat ∉ ch
def cutM (es:List Edg) (ch:List Nat) (v:Nat):List Edg:=cutsM (outM es) (fun w=>decide (w∈ch)) (inM es v) (UInt32.ofNat v)
def rawM (es:List Edg) (ch:List Nat):List Edg:=stayM es ch++ch.flatMap (cutM es ch)
def upM (es:List Edg) (ch:List Nat):List Edg:=ch.flatMap (outM es)
def downM (es:List Edg) (ch:List Nat):List Edg:=ch.flatMap (inM es)
def goneM (lv:UInt32) (vs:List Vrt) (w:Nat):List Vrt:=vs.modify w fun x=>⟨x.r,if x.l < lv then lv else x.l,x.g+1⟩
def tookM (es:List Edg) (was:List Vrt) (done gen:Nat) (vs:List Vrt) (i v:Nat):List Vrt:=
 (nearM es v).foldl (goneM (((was[v]?).map (·.l)).getD 0+1)) (vs.modify v fun x=>⟨UInt32.ofNat (done+i),UInt32.ofNat (gen+1),x.g⟩)
def vertsM (es:List Edg) (was:List Vrt) (done gen:Nat) (ch:List Nat):List Vrt:=ch.zipIdx.foldl (fun vs p=>tookM es was done gen vs p.2 p.1) was
end
end
section
open Go.RowKit Go.Maps
theorem ofL_mem {b:Bool} {v:Nat} {l:List Edg} {x:Edg} (h:x∈ofL b v l):x∈l/\end1 b x=v:=by
 unfold ofL at h;rw [List.mem_filter] at h;exact ⟨h.1,of_decide_eq_true h.2⟩
section
variable {w0 w w':World} {pb db n:Nat} {o o':Owner} {d d':Dsk} {L L':Logic}
theorem Held.kept (h:Held w0 w pb db n o d L):Kept 131072 w0 w pb db n o d L:=⟨h.pool,h.new,h.below,h.armed,h.dead,h.quota⟩
theorem Held.gen (h:Held w0 w pb db n o d L) {gen:Nat} (hg:gen<=1048576) (hp:PowAt w0):GenAt w o gen:=
 .inr ⟨hg,hp.kept (h.below.block _ hp.lt),by
  cases e:o 0 with
  | none=>rfl
  | some t=>
    have h1:=h.new _ _ e;have h2:=hp.lt;omega⟩
theorem Held.rebase {w1:World} (h:Held w1 w pb db n o d L) (hb:Below w0.heap.size w0 w1):Held w0 w pb db n o d L:=
 ⟨h.pool,fun x t hx=>Nat.le_trans hb.size (h.new x t hx),hb.trans (h.below.mono hb.size),h.armed,h.dead,h.quota⟩
end
end
section
open Go.RowKit Go.Maps
theorem rawL_one {es:List Edg} {L:Logic} (h:RawL es L) (hk:(L.map (·.1)).Nodup):L.length=1:=by
 obtain ⟨⟨fl,h1⟩,h2,_⟩:=h;have h3:∀ x∈L.map (·.1),x=nmX:=fun x hx=>by
  rw [mem_keys] at hx;apply Classical.byContradiction;intro hne;rw [h2 x hne] at hx;cases hx
 have h4:nmX∈L.map (·.1):=by rw [mem_keys,h1];rfl
 match L,hk,h3,h4 with
 | [p],_,_,_=>rfl
 | p::q::l,hk,h3,_=>
   have e1:=h3 p.1 (by simp);have e2:=h3 q.1 (by simp);simp only [List.map_cons,List.nodup_cons,List.mem_cons] at hk;exact absurd (.inl (e1.trans e2.symm)) hk.1
theorem rdE_own {w:World} {base:Nat} {v:Value} {es:List Edg} (h:ownsEdges w base v es):RdE w v es:=by
 rcases ownsEdges_shape h with ⟨rfl,h1⟩ | ⟨g,cap,rfl,hg,hc1,hc2⟩
 ·obtain ⟨a,cap,rfl⟩:=ownsRow_slice h;exact ⟨a,cap,rfl, .inl rfl⟩
 ·refine ⟨some ⟨g,0,none⟩,cap,rfl, .inr ⟨g,0,rfl,fun j x hx=>?_⟩⟩;obtain ⟨h1,h2,h3,h4⟩:=ownsEdges_cells h hx;rw [Nat.zero_add];exact ⟨h1,h2,h3,h4⟩
end
section
open Go.RowKit Go.Maps
section
variable {S:Nat->Prop} {w0 w w':World} {pb db n gb gen N ob ib vb:Nat} {o o':Owner} {d d':Dsk} {L L':Logic}
theorem GraphAt.movedS (h:GraphAt w o gb pb gen N ob ib vb) (hm:Moved S n pb db w o d w' o' d' L') (hs:∀ x,x < w.heap.size->¬ S x):GraphAt w' o' gb pb gen N ob ib vb:=
 ⟨h.raw.moved hm h.ogb (hs _ h.raw.lt),h.out.moved hm h.oob (hs _ h.out.lt),h.inn.moved hm h.oib (hs _ h.inn.lt),h.verts.moved hm h.ovb (hs _ h.verts.lt),hm.free h.raw.lt h.ogb,hm.free h.out.lt h.oob,hm.free h.inn.lt h.oib,hm.free h.verts.lt h.ovb⟩
def edgVal (x:Edg):Value:=.agg #[.int .u32 (x.t.toNat:Int), .int .u32 (x.h.toNat:Int), .int .u64 (x.x.toNat:Int), .int .u32 (x.m.toNat:Int)]
theorem held_edges (HW:WriteSaid) (h:Held w0 w pb db n o d L) (hq:need L<=131072) (hg:GraphAt w o gb pb gen N ob ib vb) {es:List Edg} {fl:Bool} (hL:mget L (sName 101 gen)=some (edgeFile es fl)) :
 Calls Tryz.prog 27 #[ptrTo gb] w fun e w'=>∃ d' o',e=.returned (.tuple #[.int .i64 (es.length:Int), .int .i64 0])/\Moved (fun _=>False) n pb db w o d w' o' d' L:=by
 refine (graphEdges_any HW h.pool hg hL).mono ?_;rintro e w' ⟨c,d',o',⟨x,rfl,hx⟩,hm,he⟩;have h0:c=0:=h.fine' hm he hq;subst h0;rw [hx rfl];exact ⟨d',o',rfl,hm⟩
theorem held_edge (HW:WriteSaid) (h:Held w0 w pb db n o d L) (hq:need L<=131072) (hg:GraphAt w o gb pb gen N ob ib vb) {es:List Edg} {fl:Bool} (hL:mget L (sName 101 gen)=some (edgeFile es fl)) {i:Nat} {x:Edg} (hi:es[i]? = some x) :
 Calls Tryz.prog 28 #[ptrTo gb, .int .i64 (i:Int)] w fun e w'=>∃ d' o',e=.returned (.tuple #[edgVal x, .int .i64 0])/\Moved (fun _=>False) n pb db w o d w' o' d' L:=by
 refine (graphEdge_in HW h.pool hg hL hi).mono ?_;rintro e w' ⟨c,d',o',y,rfl,hm,he,hy,-⟩;have h0:c=0:=h.fine' hm he hq;subst h0;rw [hy rfl];exact ⟨d',o',rfl,hm⟩
def HeldOf (n pb db:Nat) (w:World) (o:Owner) (d:Dsk) (L:Logic) (ts:List Edg) (e:Ending) (w':World):Prop:=
 ∃ v d' o',e=.returned (.tuple #[v, .int .i64 0])/\Moved (fun _=>False) n pb db w o d w' o' d' L/\ownsEdges w' w.heap.size v ts/\∀ x,v.ownBlock=some x->o' x=none
theorem held_out (HW:WriteSaid) (h:Held w0 w pb db n o d L) (hq:need L<=131072) (hg:GraphAt w o gb pb gen N ob ib vb) {es:List Edg} (hL:mget L (sName 101 gen)=some (edgeFile (bestOf false es) true)) (hl:es.length<=1000) {v:Nat} (hv:v < N) (hN:N<=1000) :
 Calls Tryz.prog 21 #[ptrTo gb, .int .u32 (v:Int)] w (HeldOf n pb db w o d L (ofL false v (bestOf false es))):=by
 refine (graphOut_in HW h.pool hg hL (rise_bestOf false es) (by have:=bestOf_length false es;omega) hv (by omega)).mono ?_;rintro e w' ⟨v',c,d',o',rfl,hm,he,hv',-⟩;have h0:c=0:=h.fine' hm he hq;subst h0;obtain ⟨h1,h2⟩:=hv' rfl;exact ⟨v',d',o',rfl,hm,h1,h2⟩
theorem held_in (HW:WriteSaid) (h:Held w0 w pb db n o d L) (hq:need L<=131072) (hg:GraphAt w o gb pb gen N ob ib vb) {es:List Edg} (hL:mget L (sName 114 gen)=some (edgeFile (bestOf true es) true)) (hl:es.length<=1000) {v:Nat} (hv:v < N) (hN:N<=1000) :
 Calls Tryz.prog 22 #[ptrTo gb, .int .u32 (v:Int)] w (HeldOf n pb db w o d L (ofL true v (bestOf true es))):=by
 refine (graphIn_in HW h.pool hg hL (rise_bestOf true es) (by have:=bestOf_length true es;omega) hv (by omega)).mono ?_;rintro e w' ⟨v',c,d',o',rfl,hm,he,hv',-⟩;have h0:c=0:=h.fine' hm he hq;subst h0;obtain ⟨h1,h2⟩:=hv' rfl;exact ⟨v',d',o',rfl,hm,h1,h2⟩
theorem held_vert (HW:WriteSaid) (h:Held w0 w pb db n o d L) (hq:need L<=131072) {vs:List Vrt} {fl:Bool} (hg:GraphAt w o gb pb gen vs.length ob ib vb) (hL:mget L (sName 118 gen)=some (vertFile vs fl)) {v:Nat} (hv:v < vs.length) (hv':v < 4294967296) :
 Calls Tryz.prog 23 #[ptrTo gb, .int .u32 (v:Int)] w fun e w'=>∃ d' o',e=.returned (.tuple #[vrtVal vs[v], .int .i64 0])/\Moved (fun _=>False) n pb db w o d w' o' d' L:=by
 refine (graphVert_in HW h.pool hg hL rfl v hv hv').mono ?_;rintro e w' ⟨c,d',o',rfl,hm,he⟩;have h0:c=0:=h.fine' hm he hq;subst h0;exact ⟨d',o',rfl,hm⟩
end
def undig (l:List UInt8):Nat:=l.foldl (fun a b=>a*10+(b.toNat - 48)) 0
theorem undig_dec (k:Nat):undig (Lib.decDigits k)=k:=by
 induction k using Nat.strongRecOn with
 | _ k ih=>
   have hd:∀ j,j < 10->(UInt8.ofNat (48+j)).toNat - 48=j:=by decide
   rw [Lib.decDigits];by_cases h:k < 10
   ·rw [dif_pos h];unfold undig;simp only [List.foldl_cons,List.foldl_nil];rw [hd k h];omega
   ·rw [dif_neg h];unfold undig;rw [List.foldl_append];have:=ih (k / 10) (by omega);unfold undig at this;rw [this];simp only [List.foldl_cons,List.foldl_nil];rw [hd (k % 10) (by omega)];omega
theorem sName_gen_ne {c c':UInt8} {k k':Nat} (h:k≠k'):sName c k≠sName c' k':=by
 unfold sName;intro e;have h1:=congrArg (fun x:ByteArray=>x.data.toList) e;simp only [List.cons_append,List.nil_append,List.cons.injEq] at h1;have h2:=congrArg undig h1.2.2;rw [undig_dec,undig_dec] at h2;exact h h2
end
end Go.Proofs.YthkkgdpomhhjjaaGreatDoor
