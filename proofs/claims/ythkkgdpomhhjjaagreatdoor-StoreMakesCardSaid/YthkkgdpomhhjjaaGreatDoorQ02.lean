/-
  Joined.
-/
import Derived.Test.YthkkgdpomhhjjaaGreatDoorQ01
import Derived.WalkSpells
import Derived.Deep.MidRow
import Derived.Lib.ConvBytes
import Derived.Lib.SmallJoins
import Derived.DeepKeys4
namespace Go.Proofs.YthkkgdpomhhjjaaGreatDoor
section
open Go.RowKit
theorem ownsRow_new0 (w:World):(w.alloc (.cells #[] 5)).ownsRow w.heap.size 5 1 (.slice (some ⟨w.heap.size,0,none⟩) 0 0) 0 []:=
 ⟨rfl, .inr ⟨w.heap.size,0,#[],rfl,Nat.le_refl _,heap_alloc_new _ _,Nat.le_refl _,by unfold maxLen;omega,rfl,rfl⟩⟩
set_option maxRecDepth 100000 in
set_option maxHeartbeats 1000000 in
theorem clone_any (v:Value) (bs:List UInt8) (w:World) (hv:Rd w v bs) (hl:bs.length<=140737488355328) :
 Calls Tryz.prog 50 #[v] w (NewBytes w bs):=by
 obtain ⟨i0,hi,hz0,hz1,hz2⟩:=info_parts info_u8;obtain ⟨a,cap,rfl,hlc,hcm,hc⟩:=hv;have Hl:=Lib.hid hl;have Hm:=Lib.hid hcm;have Hc:=Lib.hid hlc;clear hl hcm hlc;have hn:=fun (W:World) (a:Option Addr) (n c:Nat)=>Lib.run_eql_slice_nil (P:=Tryz.prog) W 39 5 a n c 0 0 Tryz.underlying39;cases a with
 | none=>
   have h0:bs=[]:=by
    rcases hc with hc | ⟨b,off,ha,_⟩
    ·exact List.length_eq_zero_iff.1 hc
    ·cases ha
   subst h0;clear hc;go_enter Tryz.func50,Tryz.ntmps50
   go_wp2_with fail
   go_ret;exact ⟨_,rfl,ownsRow_nil _ _ _,Below.refl _ _⟩
 | some ad=>
   have HC:Hid (∀ j u,(bs.map bv)[j]? = some u->(w.alloc (.cells #[] 5)).cell? (ad.add j)=some u):=Lib.hid fun j u hj=>by
    rcases hc with hc | ⟨b,off,ha,hc⟩
    ·have:bs=[]:=List.length_eq_zero_iff.1 hc;subst this;simp at hj
    ·cases ha;rw [List.getElem?_map] at hj;by_cases hjl:j < bs.length
     ·rw [List.getElem?_eq_getElem hjl] at hj;simp only [Option.map_some,Option.some.injEq] at hj;subst hj;have:=hc j hjl;rw [Addr.add_mid,World.cell?_alloc_lt _ _ _ (World.block_lt_of_cell? _ _ this)];exact this
     ·rw [List.getElem?_eq_none (by omega)] at hj;simp at hj
   clear hc;go_enter Tryz.func50,Tryz.ntmps50
   go_wp2_with (at_builtin;refine wpList_append_own _ rfl _ _ 39 rfl w.heap.size 5 i0 (.int .u8 0) 1 1 Tryz.underlying39 hi hz0 hz1 hz2 rfl (by decide) _ _ _ rfl (ownsRow_new0 w) ad bs.length cap (bs.map bv) rfl ?c1 HC.out ?c2 ?c3 ?c4 ?c5 ?_)
   case c1=>simp
   case c2=>simp [bv_oneCell]
   case c3=>have:=Hl.out;unfold maxLen;omega
   case c4=>have:=Hl.out;omega
   case c5=>simp
   intro v' w1 hown1 hgr _;have hB1:Hid (Below w.heap.size w w1):=Lib.hid (((Below.refl _ _).alloc (Nat.le_refl _) _).grown hgr (by simp) (fun k hk=>by cases hk;exact Nat.le_refl _));have ho1:Hid (w1.ownsRow w.heap.size 5 1 v' bs.length (bs.map bv)):=Lib.hid (by simpa using hown1);clear hown1 hgr;go_wp2;go_ret;exact ⟨v',rfl,ho1.out,hB1.out⟩
set_option maxHeartbeats 1000000 in
theorem sized4_any (w:World):Calls Tryz.prog 294 #[.int .i64 4] w fun e w'=>e=.returned (.bool true)/\Below w.heap.size w w':=by
 go_enter Tryz.func294,Tryz.ntmps294
 go_wp2;go_rounds 4
 go_ret;exact ⟨rfl,(Below.refl _ _).alloc (Nat.le_refl _) _⟩
set_option maxHeartbeats 1000000 in
theorem sized2_any (w:World):Calls Tryz.prog 294 #[.int .i64 2] w fun e w'=>e=.returned (.bool true)/\Below w.heap.size w w':=by
 go_enter Tryz.func294,Tryz.ntmps294
 go_wp2;go_rounds 3
 go_ret;exact ⟨rfl,(Below.refl _ _).alloc (Nat.le_refl _) _⟩
set_option maxHeartbeats 1000000 in
theorem Put4_any (v:Value) (bs:List UInt8) (x:Nat) (w:World) (hv:Rd w v bs) (hl:bs.length<=1000000) :
 Calls Tryz.prog 265 #[v, .int .u64 x, .int .i64 4] w (NewBytes w (bs++le x 4)):=by
 go_enter Tryz.func265,Tryz.ntmps265
 go_wp2_with fail
 refine (clone_any v bs _ hv (by omega)).mono ?_;rintro e w1 ⟨v1,rfl,ho1,hb1⟩;go_wp2_with fail
 refine (sized4_any _).mono ?_;rintro e w2 ⟨rfl,hb2⟩;have ho2:w2.ownsRow w.heap.size 5 1 v1 bs.length (bs.map bv):=ownsRow_below ho1 hb2;have hB2:=hb1.trans (hb2.mono hb1.size);go_wp2_with fail
 refine (put64_any w.heap.size bs.length v1 bs x 4 _ (by omega) (by omega) hB2.size ho2).mono ?_;rintro e w3 ⟨v3,rfl,ho3,hb3⟩;go_wp2_with fail
 go_ret;exact ⟨v3,rfl,by simpa [le_length] using ho3,hB2.trans hb3⟩
set_option maxHeartbeats 1000000 in
theorem Put2_any (v:Value) (bs:List UInt8) (x:Nat) (w:World) (hv:Rd w v bs) (hl:bs.length<=1000000) :
 Calls Tryz.prog 265 #[v, .int .u64 x, .int .i64 2] w (NewBytes w (bs++le x 2)):=by
 go_enter Tryz.func265,Tryz.ntmps265
 go_wp2_with fail
 refine (clone_any v bs _ hv (by omega)).mono ?_;rintro e w1 ⟨v1,rfl,ho1,hb1⟩;go_wp2_with fail
 refine (sized2_any _).mono ?_;rintro e w2 ⟨rfl,hb2⟩;have ho2:w2.ownsRow w.heap.size 5 1 v1 bs.length (bs.map bv):=ownsRow_below ho1 hb2;have hB2:=hb1.trans (hb2.mono hb1.size);go_wp2_with fail
 refine (put64_any w.heap.size bs.length v1 bs x 2 _ (by omega) (by omega) hB2.size ho2).mono ?_;rintro e w3 ⟨v3,rfl,ho3,hb3⟩;go_wp2_with fail
 go_ret;exact ⟨v3,rfl,by simpa [le_length] using ho3,hB2.trans hb3⟩
set_option maxHeartbeats 1000000 in
theorem number4_any (v:Value) (bs:List UInt8) (k:Nat) (w:World) (hv:Rd w v bs) (hl:k+4<=bs.length) (hb:bs.length<=1000000) :
 Calls Tryz.prog 278 #[v, .int .i64 k, .int .i64 4] w fun e w'=>e=.returned (.int .u64 (unle ((bs.drop k).take 4)))/\Below w.heap.size w w':=by
 have hr:Hid (∀ W,Below w.heap.size w W->Rd W v bs):=Lib.hid fun W h=>hv.below h;obtain ⟨a,cap,rfl,hlc,hcm,hc⟩:=hv;clear hc;unfold maxLen at hcm;go_enter Tryz.func278,Tryz.ntmps278
 go_wp2_with fail
 go_in
 go_wp2_with fail
 refine (sized4_any _).mono ?_;rintro e w1 ⟨rfl,hb1⟩;go_wp2_with fail
 refine (take64_any _ (bs.drop k) 4 _ (by omega) (by rw [List.length_drop];omega) ((hr.out _ hb1).from (by omega)).2).mono ?_;rintro e w2 ⟨v2,n2,rfl,_,rfl⟩;go_wp2_with fail
 go_ret;exact ⟨rfl,below_drewN hb1 _⟩
set_option maxHeartbeats 1000000 in
theorem number2_any (v:Value) (bs:List UInt8) (k:Nat) (w:World) (hv:Rd w v bs) (hl:k+2<=bs.length) (hb:bs.length<=1000000) :
 Calls Tryz.prog 278 #[v, .int .i64 k, .int .i64 2] w fun e w'=>e=.returned (.int .u64 (unle ((bs.drop k).take 2)))/\Below w.heap.size w w':=by
 have hr:Hid (∀ W,Below w.heap.size w W->Rd W v bs):=Lib.hid fun W h=>hv.below h;obtain ⟨a,cap,rfl,hlc,hcm,hc⟩:=hv;clear hc;unfold maxLen at hcm;go_enter Tryz.func278,Tryz.ntmps278
 go_wp2_with fail
 go_in
 go_wp2_with fail
 refine (sized2_any _).mono ?_;rintro e w1 ⟨rfl,hb1⟩;go_wp2_with fail
 refine (take64_any _ (bs.drop k) 2 _ (by omega) (by rw [List.length_drop];omega) ((hr.out _ hb1).from (by omega)).2).mono ?_;rintro e w2 ⟨v2,n2,rfl,_,rfl⟩;go_wp2_with fail
 go_ret;exact ⟨rfl,below_drewN hb1 _⟩
def headBytes (t n s z:Nat):List UInt8:=le t 4++le n 4++le s 2++le z 2
theorem Rd_own {w:World} {base:Nat} {v:Value} {bs:List UInt8} (h:w.ownsRow base 5 1 v bs.length (bs.map bv)):Rd w v bs:=by
 obtain ⟨h1,⟨rfl,h0⟩ | ⟨g,cap,cur,rfl,hg,hh,hn,hm,hs,hx⟩⟩:=h
 ·exact ⟨none,0,by rw [h0],by omega,by unfold maxLen;omega, .inl h0⟩
 ·refine ⟨some ⟨g,0,none⟩,cap,rfl,hn,hm, .inr ⟨g,0,rfl,fun j hj=>?_⟩⟩;simp only [World.cell?,hh,Nat.zero_add];have h2:(cur.toList.take (bs.length*1))[j]? = (bs.map bv)[j]? := by rw [hx]
  rw [List.getElem?_take_of_lt (by omega),List.getElem?_map,List.getElem?_eq_getElem hj] at h2;simpa using h2
set_option maxHeartbeats 2000000 in
theorem head_any (t n s z:Nat) (w:World) :
 Calls Tryz.prog 264 #[.agg #[.int .u64 t, .int .u64 n, .int .u64 s, .int .u64 z]] w (NewBytes w (headBytes t n s z)):=by
 go_enter Tryz.func264,Tryz.ntmps264
 go_wp2;go_region_held3 (fun w'=>w'.cell? ⟨w.heap.size,0,none⟩=some (.int .u64 t)/\w'.cell? ⟨w.heap.size,1,none⟩=some (.int .u64 n)/\w'.cell? ⟨w.heap.size,2,none⟩=some (.int .u64 s)/\w'.cell? ⟨w.heap.size,3,none⟩=some (.int .u64 z)) (go_keep)
  (first
    | (go_at_call 265;refine (Put4_any v1 (le t 4) n _ (Rd_own ho1) (by rw [le_length];omega)).mono ?_;rintro e w2 ⟨v2,rfl,ho2,hb2⟩;replace ho2:=ownsRow_base ho2 (by simpa using hb1.size);replace hb2:=hb1.trans (hb2.mono (by simpa using hb1.size));have q2:=(box_kept4 hb2))
    | (go_at_call 265;refine (Put4_any (.slice none 0 0) [] t _ ⟨none,0,rfl,by simp,by unfold maxLen;omega, .inl rfl⟩ (by simp)).mono ?_;rintro e w1 ⟨v1,rfl,ho1,hb1⟩;simp only [World.size_drew,World.size_alloc] at hb1 ho1;have q1:=(box_kept4 hb1)))
 clear q1;have hb2':Below (w.heap.size+1) (w.alloc (.cells #[.int .u64 t, .int .u64 n, .int .u64 s, .int .u64 z] 344)).drew w2.drew:=hb2.drew;have ho2':w2.drew.ownsRow (w.heap.size+1) 5 1 v2 (le t 4++le n 4).length ((le t 4++le n 4).map bv):=ho2;obtain ⟨q20,q21,q22,q23⟩:=q2;go_wp2;go_region_held3 (fun w'=>w'.cell? ⟨w.heap.size,0,none⟩=some (.int .u64 t)/\w'.cell? ⟨w.heap.size,1,none⟩=some (.int .u64 n)/\w'.cell? ⟨w.heap.size,2,none⟩=some (.int .u64 s)/\w'.cell? ⟨w.heap.size,3,none⟩=some (.int .u64 z)) (go_keep)
  (first
    | (go_at_call 265;refine (Put2_any v3 (le t 4++le n 4++le s 2) z _ (Rd_own ho3) (by simp [le_length])).mono ?_;rintro e w4 ⟨v4,rfl,ho4,hb4⟩;replace ho4:=ownsRow_base ho4 (by simpa using hb3.size);replace hb4:=hb3.trans (hb4.mono (by simpa using hb3.size));have q4:=(box_kept4 hb4))
    | (go_at_call 265;refine (Put2_any v2 (le t 4++le n 4) s _ (Rd_own ho2') (by simp [le_length])).mono ?_;rintro e w3 ⟨v3,rfl,ho3,hb3⟩;replace ho3:=ownsRow_base ho3 (by simpa using hb2'.size);replace hb3:=hb2'.trans (hb3.mono (by simpa using hb2'.size));have q3:=(box_kept4 hb3)))
 go_wp2;go_ret;exact ⟨v4,rfl,by simpa [headBytes] using ownsRow_base ho4 (Nat.le_succ _),(((Below.refl _ _).alloc (Nat.le_refl _) _).drew).trans (hb4.mono (Nat.le_succ _))⟩
def pageBody (tag num:Nat) (bs:List UInt8):List UInt8:=headBytes tag num bs.length 0++bs++List.replicate (240 - bs.length) 0
def mkPage (tag num:Nat) (bs:List UInt8):List UInt8:=pageBody tag num bs++le (crcOf (pageBody tag num bs)) 4
theorem headBytes_length (t n s z:Nat):(headBytes t n s z).length=12:=by simp [headBytes,le_length]
theorem pageBody_length (tag num:Nat) (bs:List UInt8) (h:bs.length<=240):(pageBody tag num bs).length=252:=by
 simp [pageBody,headBytes_length];omega
theorem mkPage_length (tag num:Nat) (bs:List UInt8) (h:bs.length<=240):(mkPage tag num bs).length=256:=by
 simp [mkPage,pageBody_length _ _ _ h,le_length]
def NewBytesOk (w:World) (bs:List UInt8) (e:Ending) (w':World):Prop:=
 ∃ v,e=.returned (.tuple #[v, .int .i64 0])/\w'.ownsRow w.heap.size 5 1 v bs.length (bs.map bv)/\Below w.heap.size w w'
set_option maxHeartbeats 2000000 in
theorem make_any (tag num:Nat) (v:Value) (bs:List UInt8) (w:World) (hv:Rd w v bs) (hl:bs.length<=240) (ht:tag < 4294967296) (hn:num < 4294967296) :
 Calls Tryz.prog 229 #[.int .u32 tag, .int .u32 num,v] w (NewBytesOk w (mkPage tag num bs)):=by
 have hr:Hid (∀ W,Below w.heap.size w W->Rd W v bs):=Lib.hid fun W h=>hv.below h;obtain ⟨a,cap,rfl,hlc,hcm,hc⟩:=hv;clear hc;unfold maxLen at hcm;go_enter Tryz.func229,Tryz.ntmps229
 go_wp2_with fail
 have hh:=head_any tag num bs.length 0 w;refine hh.mono ?_;rintro e w1 ⟨v1,rfl,ho1,hb1⟩;rw [headBytes_length] at ho1;have hR1:=Lib.hid (hr.out _ hb1);have hB1:=Lib.hid hb1;have hO1:=Lib.hid ho1;clear hh hb1 ho1;go_wp2_with (at_builtin;refine wpList_append_rd rfl _ _ 39 rfl w.heap.size 5 Tryz.underlying39 info_u8 v1 12 _ rfl hO1.out _ bs rfl hR1.out ?c1 ?c2 ?_)
 case c1=>omega
 case c2=>exact hB1.out.size
 intro v2 w2 ho2 hg2 _;have hB2:Hid (Below w.heap.size w w2):=Lib.hid (hB1.out.grown hg2 hB1.out.size (ownsRow_block hO1.out));have hO2:Hid (w2.ownsRow w.heap.size 5 1 v2 (12+bs.length) ((headBytes tag num bs.length 0++bs).map bv)):=Lib.hid (by simpa using ho2);have hv2:Hid (∃ a2 c2,v2=.slice a2 (12+bs.length) c2):=Lib.hid (by
  obtain ⟨_,⟨rfl,h0⟩ | ⟨g,cp,cur,rfl,_⟩⟩:=ho2
  ·omega
  ·exact ⟨_,_,rfl⟩)
 obtain ⟨a2,c2,hv2⟩:=hv2.out;subst hv2;clear ho2 hg2 hO1 hR1 hB1;go_wp2_with (at_builtin;refine wpList_append_zeros rfl _ _ 39 3 .i64 rfl w.heap.size 5 Tryz.underlying39 Tryz.underlying3 info_u8 _ (12+bs.length) _ rfl hO2.out (240 - bs.length) ?c3 ?c1 ?c2 ?_)
 case c3=>show Value.int .i64 _=Value.int .i64 _;congr 1;omega
 case c1=>omega
 case c2=>exact hB2.out.size
 intro v3 w3 ho3 hg3 _;have hB3:Hid (Below w.heap.size w w3):=Lib.hid (hB2.out.grown hg3 hB2.out.size (ownsRow_block hO2.out));have hO3:Hid (w3.ownsRow w.heap.size 5 1 v3 (pageBody tag num bs).length ((pageBody tag num bs).map bv)):=Lib.hid (by
  rw [pageBody_length _ _ _ hl];rw [show 12+bs.length+(240 - bs.length)=252 by omega] at ho3;simpa [pageBody] using ho3)
 have hlen:=Lib.hid (pageBody_length tag num bs hl);have hcrc:Hid (mkPage tag num bs=pageBody tag num bs++le (crcOf (pageBody tag num bs)) 4):=Lib.hid rfl;have hlt:=crcOf_lt (pageBody tag num bs);clear ho3 hg3 hO2 hB2 hv2;generalize pageBody tag num bs=body at *;go_wp2_with fail
 refine (sum_any v3 body _ (Rd_own hO3.out)).mono ?_;rintro e w4 ⟨rfl,hb4⟩;have hB4:Hid (Below w.heap.size w w4):=Lib.hid (hB3.out.trans (hb4.mono hB3.out.size));have hO4:=Lib.hid (ownsRow_below hO3.out hb4);clear hb4 hO3 hB3;generalize crcOf body=crc at *;go_wp2_with fail
 refine (Put4_any v3 body crc _ (Rd_own hO4.out) (by rw [hlen.out];omega)).mono ?_;rintro e w5 ⟨v5,rfl,ho5,hb5⟩;have hB5:Hid (Below w.heap.size w w5):=Lib.hid (hB4.out.trans (hb5.mono hB4.out.size));have hO5:=Lib.hid (ownsRow_base ho5 hB4.out.size);clear hb5 ho5 hO4 hB4;go_wp2_with fail
 go_ret2
 exact ⟨v5,rfl,by rw [hcrc.out];exact hO5.out,hB5.out⟩
theorem Rd_bytesWorld (w:World) (s:ByteArray) (hs:s.size<=1000):Rd (Lib.bytesWorld w 5 s) (.slice (some ⟨w.heap.size,0,none⟩) s.size (grownCap w s.size 0 5)) s.data.toList:=by
 refine ⟨_,_,rfl,?_,grownCap_le_maxLen w s.size 0 _ (by unfold maxLen;omega), .inr ⟨w.heap.size,0,rfl,fun j hj=>?_⟩⟩
 ·exact grownCap_ge w s.size 0 _
 ·rw [Nat.zero_add,Lib.bytesWorld_cell w _ s j hj];have hj':s.data[j]? = some s.data[j]:=Array.getElem?_eq_getElem _;simp [bv,hj']
set_option maxRecDepth 100000 in
set_option maxHeartbeats 1000000 in
theorem tag_any (s:ByteArray) (w:World) (hs:s.size<=1000) :
 Calls Tryz.prog 209 #[.string s] w fun e w'=>e=.returned (.int .u32 (crcOf s.data.toList))/\Below w.heap.size w w':=by
 have hr:=Lib.hid (Rd_bytesWorld w s hs);have hb:=Lib.hid (Joins.below_bytesWorld w.heap.size w 5 s (Nat.le_refl _));have hcv:=fun W=>Lib.run_convert_string_bytes (P:=Tryz.prog) W 9 39 5 s Tryz.underlying9 Tryz.underlying39 Tryz.underlying5;go_enter Tryz.func209,Tryz.ntmps209
 go_wp2_with fail
 refine (sum_any _ _ _ hr.out).mono ?_;rintro e w1 ⟨rfl,hb1⟩;go_wp2_with fail
 go_ret;exact ⟨rfl,hb.out.trans (hb1.mono hb.out.size)⟩
end
section
open Go.RowKit Go.Maps Go.MapKept
open Go.ChangeMaps (setBlock heap_setBlock_same heap_setBlock_other)
structure Turn (S:Nat->Prop) (w w':World):Prop where
 os:w'.os=w.os
 tape:w'.tape=w.tape
 output:w'.output=w.output
 size:w.heap.size<=w'.heap.size
 block:∀ k,k < w.heap.size->¬ S k->w'.heap[k]? = w.heap[k]?
section
variable {S S':Nat->Prop} {w w' w'':World}
theorem Turn.refl (S:Nat->Prop) (w:World):Turn S w w:=⟨rfl,rfl,rfl,Nat.le_refl _,fun _ _ _=>rfl⟩
theorem Turn.trans (h:Turn S w w') (k:Turn S' w' w'') (hs:∀ x,x < w.heap.size->S' x->S x):Turn S w w'':=
 ⟨k.os.trans h.os,k.tape.trans h.tape,k.output.trans h.output,Nat.le_trans h.size k.size,fun x hx hn=>(k.block x (Nat.lt_of_lt_of_le hx h.size) (fun h'=>hn (hs x hx h'))).trans (h.block x hx hn)⟩
theorem Turn.mono (h:Turn S w w') (hs:∀ x,x < w.heap.size->S x->S' x):Turn S' w w':=⟨h.os,h.tape,h.output,h.size,fun x hx hn=>h.block x hx (fun h'=>hn (hs x hx h'))⟩
theorem Turn.ofBelow (h:Below w.heap.size w w'):Turn S w w':=⟨h.os,h.tape,h.output,h.size,fun x hx _=>h.block x hx⟩
theorem Turn.below (h:Turn S w w') {n:Nat} (hn:n<=w.heap.size) (hs:∀ x,S x->n<=x):Below n w w':=⟨h.os,h.tape,h.output,h.size,fun x hx=>h.block x (Nat.lt_of_lt_of_le hx hn) (fun h'=>absurd (hs x h') (by omega))⟩
theorem Turn.thenBelow (h:Turn S w w') (k:Below w'.heap.size w' w''):Turn S w w'':=h.trans (S':=fun _=>False) (Turn.ofBelow k) (fun _ _ h=>h.elim)
theorem Turn.alloc (h:Turn S w w') (o:Obj):Turn S w (w'.alloc o):=h.thenBelow ((Below.refl _ _).alloc (Nat.le_refl _) o)
theorem Turn.drew (h:Turn S w w'):Turn S w w'.drew:=h.thenBelow (Below.refl _ _).drew
theorem Turn.drewN (h:Turn S w w') (n:Nat):Turn S w (w'.drewN n):=⟨h.os,h.tape,h.output,h.size,h.block⟩
theorem Turn.setCell (h:Turn S w w') (a:Addr) (u:Value) (ha:S a.block\/w.heap.size<=a.block):Turn S w (w'.setCell a u):=by
 refine h.trans (S':=fun x=>x=a.block) ⟨rfl,rfl,rfl,by simp,fun x _ hn=>Below.heap_setCell _ _ _ _ hn⟩ (fun x hx e=>?_);subst e;rcases ha with ha | ha
 ·exact ha
 ·omega
theorem Turn.grown {row:Option Nat} (h:Turn S w w') (hg:w'.grownBy w'' row) (hr:∀ k,row=some k->S k\/w.heap.size<=k):Turn S w w'':=by
 refine h.trans (S':=fun x=>row=some x) ⟨hg.os,hg.tape,hg.output,hg.size,fun x hx hn=>hg.block x hx (fun e=>hn e.symm)⟩ (fun x hx e=>?_);rcases hr x e with h | h
 ·exact h
 ·omega
theorem heap_setBlock_none {w:World} {b:Nat} (ob:Obj) {x:Nat} (hx:x≠b):(setBlock w b ob).heap[x]? = w.heap[x]? := by
 unfold setBlock;simp only [Array.getElem?_setIfInBounds];rw [if_neg (fun e=>hx e.symm)]
theorem Turn.setBlock (h:Turn S w w') (b:Nat) (ob:Obj) (hb:S b\/w.heap.size<=b):Turn S w (setBlock w' b ob):=by
 refine h.trans (S':=fun x=>x=b) ⟨rfl,rfl,rfl,by simp [ChangeMaps.setBlock],fun x _ hn=>heap_setBlock_none ob hn⟩ (fun x hx e=>?_);subst e;rcases hb with ha | ha
 ·exact ha
 ·omega
theorem Turn.cell (h:Turn S w w') {a:Addr} {v:Value} (hc:w.cell? a=some v) (hs:¬ S a.block):w'.cell? a=some v:=by
 rw [World.cell?_of_block (w:=w) (h.block a.block (World.block_lt_of_cell? _ _ hc) hs)];exact hc
theorem Turn.ownsRow (h:Turn S w w') {base:Nat} {e:TypeId} {size:Nat} {v:Value} {n:Nat} {xs:List Value} (hr:w.ownsRow base e size v n xs) (hs:∀ b,v.ownBlock=some b->¬ S b):w'.ownsRow base e size v n xs:=by
 obtain ⟨hl,hr⟩:=hr;refine ⟨hl,?_⟩;rcases hr with hr | ⟨g,cap,cur,hv,hg,hh,r⟩
 ·exact .inl hr
 ·have hlt:g < w.heap.size:=(Array.getElem?_eq_some_iff.1 hh).1;exact .inr ⟨g,cap,cur,hv,hg,(h.block g hlt (hs g (by rw [hv];rfl))).trans hh,r⟩
theorem Turn.rd (h:Turn S w w') {v:Value} {bs:List UInt8} (hr:Rd w v bs) (hs:∀ b,v.ownBlock=some b->¬ S b):Rd w' v bs:=by
 obtain ⟨a,cap,he,hlc,hcm,hc⟩:=hr;refine ⟨a,cap,he,hlc,hcm,?_⟩;rcases hc with hc | ⟨b,off,ha,hc⟩
 ·exact .inl hc
 ·exact .inr ⟨b,off,ha,fun j hj=>h.cell (hc j hj) (hs b (by rw [he,ha];rfl))⟩
end
abbrev Tag:=Nat × Nat
abbrev Owner:=Nat->Option Tag
def Owner.In (o:Owner) (C:Nat->Prop) (x:Nat):Prop:=∃ t,o x=some t/\C t.1
def Owner.set (o:Owner) (b:Nat) (t:Tag):Owner:=fun x=>if x=b then some t else o x
@[simp] theorem Owner.set_same (o:Owner) (b:Nat) (t:Tag):o.set b t b=some t:=by simp [Owner.set]
theorem Owner.set_other (o:Owner) {b x:Nat} (t:Tag) (h:x≠b):o.set b t x=o x:=by simp [Owner.set,h]
theorem Owner.ne {o:Owner} {x y:Nat} {s t:Tag} (hx:o x=some s) (hy:o y=some t) (h:s≠t):x≠y:=by
 intro e;rw [e,hy] at hx;exact h (Option.some.inj hx).symm
theorem Owner.not_in {o:Owner} {C:Nat->Prop} {x:Nat} {t:Tag} (hx:o x=some t) (h:¬ C t.1):¬ o.In C x:=by
 rintro ⟨s,hs,hc⟩;rw [hx] at hs;cases hs;exact h hc
theorem Owner.not_in_none {o:Owner} {C:Nat->Prop} {x:Nat} (hx:o x=none):¬ o.In C x:=by
 rintro ⟨s,hs,_⟩;rw [hx] at hs;cases hs
def OGrow (n:Nat) (o o':Owner):Prop:=∀ x,x < n->o' x=o x
theorem OGrow.refl (n:Nat) (o:Owner):OGrow n o o:=fun _ _=>rfl
theorem OGrow.trans {n n':Nat} {o o' o'':Owner} (h:OGrow n o o') (k:OGrow n' o' o'') (hn:n<=n'):OGrow n o o'':=fun x hx=>(k x (by omega)).trans (h x hx)
theorem OGrow.set {n:Nat} {o o':Owner} (h:OGrow n o o') {b:Nat} (hb:n<=b) (t:Tag):OGrow n o (o'.set b t):=fun x hx=>by rw [Owner.set_other _ _ (by omega)];exact h x hx
theorem Turn.owned {o o':Owner} {C:Nat->Prop} {w w' w'':World} (h:Turn (o.In C) w w') (hg:OGrow w.heap.size o o') (k:Turn (o'.In C) w' w''):Turn (o.In C) w w'':=
 h.trans k fun x hx ⟨t,ht,hc⟩=>⟨t,by rw [<- hg x hx];exact ht,hc⟩
theorem Tryz.laidOut':laidOutB Tryz.prog=true:=by kernel_rfl
theorem keyed_string:Keyed Tryz.prog 9:=string_keyed Tryz.underlying9
theorem string_inj:∀ a b:ByteArray,Value.string a=Value.string b->a=b:=fun _ _ h=>by cases h;rfl
theorem good_string {s:ByteArray} (h:s.size<=maxLen):Good Tryz.prog 9 (.string s):=⟨.string s.data.toList,by simp [keyOf,mapKey,Tryz.underlying9,h]⟩
theorem row_dkey:(116:TypeId) < Tryz.prog.types.size:=of_decide_eq_true (by kernel_rfl)
theorem wide_dkey:(match Tryz.prog.underlying 116 with | some (.array _ _) | some (.struct _)=>true | _=>false)=true:=by rw [Tryz.underlying116]
set_option maxRecDepth 100000 in
theorem keyed_dkey:Keyed Tryz.prog 116:=Keyed.of_law (deep_law_laid Tryz.laidOut' (m:=2) (by omega) row_dkey (by kernel_rfl) wide_dkey)
def nameNum (k:ByteArray × Nat):Value:=.agg #[.string k.1, .int .i64 (k.2:Int)]
theorem nameNum_inj:∀ a b,nameNum a=nameNum b->a=b:=by
 rintro ⟨a,n⟩ ⟨b,m⟩ h;simp only [nameNum,Value.agg.injEq,Array.mk.injEq,List.cons.injEq,Value.string.injEq,Value.int.injEq,true_and,and_true] at h;obtain ⟨rfl,h⟩:=h;rw [Int.ofNat_inj.1 h]
set_option maxRecDepth 100000 in
theorem good_dkey {s:ByteArray} {n:Nat} (h:s.size<=maxLen) (hn:n < 9223372036854775808):Good Tryz.prog 116 (nameNum (s,n)):=by
 have h1:Tryz.prog.keyType 116=true:=by kernel_rfl
 have h2:Tryz.prog.cellsOf 116=2:=by kernel_rfl
 have h3:Tryz.prog.cellsOf 9=1:=by kernel_rfl
 have h4:Tryz.prog.cellsOf 3=1:=by kernel_rfl
 have h5:(Lit.int .i64 (n:Int)).wf=true:=by
  have:(Lit.int .i64 (n:Int)).wf=(decide (-9223372036854775808<=(n:Int)) && decide ((n:Int)<=9223372036854775807)):=by rfl
  rw [this];simp;omega
 have hk:∀ d,Tryz.prog.keyLits (d+2) 116 [.string s, .int .i64 (n:Int)]=some [.string s.data.toList, .int .i64 (n:Int)]:=by
  intro d;simp [Program.keyLits,Tryz.underlying116,Tryz.underlying9,Tryz.underlying3,h2,h3,h4,h,h5]
 unfold Good nameNum keyOf;rw [Tryz.underlying116];simp only [h1,Value.formed,Tryz.underlying116,h2];have hk':Tryz.prog.keyLits (Tryz.prog.types.size+1) 116 (Value.agg #[.string s, .int .i64 (n:Int)]).cells.toList=some [.string s.data.toList, .int .i64 (n:Int)]:=hk (Tryz.prog.types.size - 1);rw [hk'];exact ⟨_,rfl⟩
end
section
open Go.RowKit
set_option maxHeartbeats 1000000 in
theorem nonzero_any (w:World):Calls Tryz.prog 280 #[.int .u8 0] w fun e w'=>e=.returned (.bool false)/\w=w':=by
 go_enter Tryz.func280,Tryz.ntmps280
 go_wp2;go_ret;exact ⟨rfl,rfl⟩
set_option maxHeartbeats 1000000 in
theorem indexZero_any (v:Value) (k:Nat) (w:World) (hv:Rd w v (List.replicate k 0)) :
 Calls Tryz.prog 299 #[v, .func (.func 280) #[] #[]] w fun e w'=>e=.returned (.int .i64 (-1))/\w=w':=by
 obtain ⟨a,cap,he,hlc,hcm,hc⟩:=hv;rw [List.length_replicate] at he hlc;have HC:=Lib.hid hc;clear hc;subst he;unfold maxLen at hcm;go_enter Tryz.func299,Tryz.ntmps299
 go_wp2;go_loop [8] (fun i=>∃ j:Nat,j<=k/\i=.int .i64 j) (fun i=>k - (intOf i).toNat)
 case atStart=>exact ⟨0,by omega,rfl⟩
 case round=>
  obtain ⟨j,hj,rfl⟩:=hrel;by_cases hlt:j < k
  ·rcases HC.out with hc | ⟨b,off,rfl,hc⟩
   ·rw [List.length_replicate] at hc;omega
   have hcell:=hc j (by simpa using hlt);rw [List.getElem_replicate] at hcell;have hb0:bv 0=.int .u8 0:=rfl;rw [hb0] at hcell;clear hc hb0;go_wp2_with (go_at_call 280;refine (nonzero_any _).mono ?_;rintro e w' ⟨rfl,rfl⟩)
   go_round
   case rel=>exact ⟨j+1,by omega,by go_num⟩
   case measure=>simp [intOf];omega
  ·obtain rfl:j=k:=by omega
   go_wp2_with fail
   go_ret;exact ⟨rfl,rfl⟩
set_option maxHeartbeats 1000000 in
theorem containsZero_any (v:Value) (k:Nat) (w:World) (hv:Rd w v (List.replicate k 0)) :
 Calls Tryz.prog 279 #[v, .func (.func 280) #[] #[]] w fun e w'=>e=.returned (.bool false)/\w=w':=by
 go_enter Tryz.func279,Tryz.ntmps279
 go_wp2_with fail
 refine (indexZero_any v k _ hv).mono ?_;rintro e w' ⟨rfl,rfl⟩;go_wp2_with fail
 go_ret;exact ⟨rfl,rfl⟩
structure PageReads (tag num:Nat) (bs p:List UInt8):Prop where
 len:p.length=256
 sum:unle ((p.drop 252).take 4)=crcOf (p.take 252)
 tag:unle ((p.drop 0).take 4)=tag
 num:unle ((p.drop 4).take 4)=num
 size:unle ((p.drop 8).take 2)=bs.length
 none:unle ((p.drop 10).take 2)=0
 zeros:(p.drop (12+bs.length)).take (240 - bs.length)=List.replicate (240 - bs.length) 0
 body:(p.drop 12).take bs.length=bs
theorem take_app (a b:List UInt8) (n:Nat) (h:a.length=n):(a++b).take n=a:=by rw [<- h];exact List.take_left
theorem drop_app (a b:List UInt8) (n:Nat) (h:a.length=n):(a++b).drop n=b:=by rw [<- h];exact List.drop_left
theorem mkPage_reads (tag num:Nat) (bs:List UInt8) (hl:bs.length<=240) (ht:tag < 4294967296) (hn:num < 4294967296):PageReads tag num bs (mkPage tag num bs):=by
 have hb:=pageBody_length tag num bs hl;have e:mkPage tag num bs=le tag 4++(le num 4++(le bs.length 2++(le 0 2++(bs++(List.replicate (240 - bs.length) 0++le (crcOf (pageBody tag num bs)) 4))))):=by
  simp [mkPage,pageBody,headBytes]
 have p252:(mkPage tag num bs).take 252=pageBody tag num bs:=take_app _ _ _ hb;have d252:(mkPage tag num bs).drop 252=le (crcOf (pageBody tag num bs)) 4:=drop_app _ _ _ hb;have d4:(mkPage tag num bs).drop 4=le num 4++(le bs.length 2++(le 0 2++(bs++(List.replicate (240 - bs.length) 0++le (crcOf (pageBody tag num bs)) 4)))):=by rw [e];exact drop_app _ _ _ (le_length _ _)
 have d8:(mkPage tag num bs).drop 8=le bs.length 2++(le 0 2++(bs++(List.replicate (240 - bs.length) 0++le (crcOf (pageBody tag num bs)) 4))):=by
  rw [show 8=4+4 from rfl,<- List.drop_drop,d4];exact drop_app _ _ _ (le_length _ _)
 have d10:(mkPage tag num bs).drop 10=le 0 2++(bs++(List.replicate (240 - bs.length) 0++le (crcOf (pageBody tag num bs)) 4)):=by
  rw [show 10=8+2 from rfl,<- List.drop_drop,d8];exact drop_app _ _ _ (le_length _ _)
 have d12:(mkPage tag num bs).drop 12=bs++(List.replicate (240 - bs.length) 0++le (crcOf (pageBody tag num bs)) 4):=by
  rw [show 12=10+2 from rfl,<- List.drop_drop,d10];exact drop_app _ _ _ (le_length _ _)
 have hc:=crcOf_lt (pageBody tag num bs);refine ⟨mkPage_length tag num bs hl,?_,?_,?_,?_,?_,?_,?_⟩
 ·rw [d252,p252,List.take_of_length_le (by rw [le_length];exact Nat.le_refl _),unle_le];exact Nat.mod_eq_of_lt hc
 ·rw [e,List.drop_zero,take_app _ _ _ (le_length _ _),unle_le];exact Nat.mod_eq_of_lt ht
 ·rw [d4,take_app _ _ _ (le_length _ _),unle_le];exact Nat.mod_eq_of_lt hn
 ·rw [d8,take_app _ _ _ (le_length _ _),unle_le];exact Nat.mod_eq_of_lt (by omega)
 ·rw [d10,take_app _ _ _ (le_length _ _),unle_le]
 ·rw [<- List.drop_drop,d12,drop_app _ _ _ rfl,take_app _ _ _ (by simp)]
 ·rw [d12,take_app _ _ _ rfl]
set_option maxHeartbeats 2000000 in
theorem open_any (tag num:Nat) (v:Value) (bs p:List UInt8) (w:World) (hv:Rd w v p) (hp:PageReads tag num bs p) (hl:bs.length<=240) (ht:tag < 4294967296) (hn:num < 4294967296) :
 Calls Tryz.prog 238 #[v, .int .u32 tag, .int .u32 num] w (NewBytesOk w bs):=by
 have hr:Hid (∀ W,Below w.heap.size w W->Rd W v p):=Lib.hid fun W h=>hv.below h;obtain ⟨a,cap,he,hlc,hcm,hc⟩:=hv;rw [hp.len] at he hlc;subst he;clear hc;unfold maxLen at hcm;have HP:=Lib.hid hp;clear hp;go_enter Tryz.func238,Tryz.ntmps238
 go_wp2_with fail
 go_step3
 go_wp2_with fail
 obtain ⟨w1,hw1⟩:∃ w1,w1=w.alloc (.cells #[.int .u64 0, .int .u64 0, .int .u64 0, .int .u64 0] 344):=⟨_,rfl⟩;have hB1:Hid (Below w.heap.size w w1):=Lib.hid (by rw [hw1];exact (Below.refl _ _).alloc (Nat.le_refl _) _);have hh1:Hid (w1.heap[w.heap.size]? = some (.cells #[.int .u64 0, .int .u64 0, .int .u64 0, .int .u64 0] 344 (0,0))):=Lib.hid (by rw [hw1];exact heap_alloc_new _ _);have hz1:Hid (w1.heap.size=w.heap.size+1):=Lib.hid (by rw [hw1];simp);rw [<- hw1];clear hw1;have hC0:Below w1.heap.size w1 w1.drew:=(Below.refl _ _).drew;have hcrc:Hid (unle ((p.drop 252).take 4)=crcOf (p.take 252)):=Lib.hid HP.out.sum;have hneq:(((crcOf (p.take 252):Nat):Int) != ((crcOf (p.take 252):Nat):Int))=false:=by simp
 have hlt:=crcOf_lt (p.take 252);have hc252:(252:Int)<=(cap:Int):=by omega
 have hw64:IntKind.u64.wrap ((crcOf (p.take 252):Nat):Int)=((crcOf (p.take 252):Nat):Int):=wraps_u64 _ (by omega) (by omega);refine wp_region_quiet_in (Below w1.heap.size w1) (by kernel_rfl) (by kernel_rfl) hC0 ?_;iterate 5 (refine q_op rfl (fun w' hw'=>(by go_simp;rfl)) (fun K hK=>?_);go_simp;refine hK _ ?_;clear hK K)
 refine q_call rfl (fun w' hw'=>(by go_simp)) (fun w' hw'=>((number4_any (.slice a 256 cap) p 252 w' (hr.out _ (hB1.out.trans (hw'.mono hB1.out.size))) (by rw [HP.out.len];omega) (by rw [HP.out.len];omega)).mono (fun e w'' h=>⟨h.1,hw'.trans (h.2.mono hw'.size)⟩))) (fun K hK=>?_);go_simp;refine hK _ ?_;clear hK K;rw [hcrc.out];iterate 2 (refine q_op rfl (fun w' hw'=>(by go_simp;rfl)) (fun K hK=>?_);go_simp;refine hK _ ?_;clear hK K)
 refine q_call rfl (fun w' hw'=>(by go_simp)) (fun w' hw'=>((sum_any (.slice a 252 cap) (p.take 252) w' ((hr.out _ (hB1.out.trans (hw'.mono hB1.out.size))).to (by rw [HP.out.len];omega))).mono (fun e w'' h=>⟨h.1,hw'.trans (h.2.mono hw'.size)⟩))) (fun K hK=>?_);go_simp;refine hK _ ?_;clear hK K;iterate 3 (refine q_op rfl (fun w' hw'=>(by go_simp;rfl)) (fun K hK=>?_);go_simp;refine hK _ ?_;clear hK K)
 refine wpQuiet_nil ?_;intro w2 hw2;clear hC0;have hB2:Hid (Below w.heap.size w w2):=Lib.hid (hB1.out.trans (hw2.mono hB1.out.size));have hh2:Hid (w2.heap[w.heap.size]? = some (.cells #[.int .u64 0, .int .u64 0, .int .u64 0, .int .u64 0] 344 (0,0))):=Lib.hid (by rw [hw2.block _ (by rw [hz1.out];omega)];exact hh1.out);have hz2:Hid (w.heap.size < w2.heap.size):=Lib.hid (by have:=hw2.size;have:=hz1.out;omega);clear hw2 hB1 hh1 hz1;go_wp2_with fail
 refine (number4_any (.slice a 256 cap) p 0 _ (hr.out _ hB2.out) (by rw [HP.out.len];omega) (by rw [HP.out.len];omega)).mono ?_;rintro e w3 ⟨rfl,hb⟩;have hB3:Hid (Below w.heap.size w w3):=Lib.hid (hB2.out.trans (hb.mono hB2.out.size));have hh3:Hid (w3.heap[w.heap.size]? = some (.cells #[.int .u64 0, .int .u64 0, .int .u64 0, .int .u64 0] 344 (0,0))):=Lib.hid (by rw [hb.block _ hz2.out];exact hh2.out);have hz3:Hid (w.heap.size < w3.heap.size):=Lib.hid (Nat.lt_of_lt_of_le hz2.out hb.size);rw [HP.out.tag];clear hb hB2 hh2 hz2;clear hneq hw64 hlt hcrc;go_wp2_with fail
 refine (number4_any (.slice a 256 cap) p 4 _ (hr.out _ hB3.out) (by rw [HP.out.len];omega) (by rw [HP.out.len];omega)).mono ?_;rintro e w4 ⟨rfl,hb⟩;have hB4:Hid (Below w.heap.size w w4):=Lib.hid (hB3.out.trans (hb.mono hB3.out.size));have hh4:Hid (w4.heap[w.heap.size]? = some (.cells #[.int .u64 0, .int .u64 0, .int .u64 0, .int .u64 0] 344 (0,0))):=Lib.hid (by rw [hb.block _ hz3.out];exact hh3.out);have hz4:Hid (w.heap.size < w4.heap.size):=Lib.hid (Nat.lt_of_lt_of_le hz3.out hb.size);rw [HP.out.num];clear hb hB3 hh3 hz3;go_wp2_with fail
 refine (number2_any (.slice a 256 cap) p 8 _ (hr.out _ hB4.out) (by rw [HP.out.len];omega) (by rw [HP.out.len];omega)).mono ?_;rintro e w5 ⟨rfl,hb⟩;have hB5:Hid (Below w.heap.size w w5):=Lib.hid (hB4.out.trans (hb.mono hB4.out.size));have hh5:Hid (w5.heap[w.heap.size]? = some (.cells #[.int .u64 0, .int .u64 0, .int .u64 0, .int .u64 0] 344 (0,0))):=Lib.hid (by rw [hb.block _ hz4.out];exact hh4.out);have hz5:Hid (w.heap.size < w5.heap.size):=Lib.hid (Nat.lt_of_lt_of_le hz4.out hb.size);rw [HP.out.size];clear hb hB4 hh4 hz4;go_wp2_with fail
 refine (number2_any (.slice a 256 cap) p 10 _ (hr.out _ hB5.out) (by rw [HP.out.len];omega) (by rw [HP.out.len];omega)).mono ?_;rintro e w6 ⟨rfl,hb⟩;have hB6:Hid (Below w.heap.size w w6):=Lib.hid (hB5.out.trans (hb.mono hB5.out.size));have hh6:Hid (w6.heap[w.heap.size]? = some (.cells #[.int .u64 0, .int .u64 0, .int .u64 0, .int .u64 0] 344 (0,0))):=Lib.hid (by rw [hb.block _ hz5.out];exact hh5.out);have hz6:Hid (w.heap.size < w6.heap.size):=Lib.hid (Nat.lt_of_lt_of_le hz5.out hb.size);rw [HP.out.none];clear hb hB5 hh5 hz5;have b0:w6.cell? ⟨w.heap.size,0,none⟩=some (.int .u64 0):=by simp [World.cell?,hh6.out]
 have b1:w6.cell? ⟨w.heap.size,1,none⟩=some (.int .u64 0):=by simp [World.cell?,hh6.out]
 have b2:w6.cell? ⟨w.heap.size,2,none⟩=some (.int .u64 0):=by simp [World.cell?,hh6.out]
 have b3:w6.cell? ⟨w.heap.size,3,none⟩=some (.int .u64 0):=by simp [World.cell?,hh6.out]
 have f6:∀ k,w6.frozen? ⟨w.heap.size,k,none⟩=false:=fun k=>by simp [World.frozen?,hh6.out]
 have n1:((tag:Int) != (tag:Int))=false:=by simp
 have hB7:Hid (Below w.heap.size w ((((w6.setCell ⟨w.heap.size,0,none⟩ (.int .u64 tag)).setCell ⟨w.heap.size,1,none⟩ (.int .u64 num)).setCell ⟨w.heap.size,2,none⟩ (.int .u64 bs.length)).setCell ⟨w.heap.size,3,none⟩ (.int .u64 0))):=
  Lib.hid ((((hB6.out.setCell (Nat.le_refl _) _).setCell (Nat.le_refl _) _).setCell (Nat.le_refl _) _).setCell (Nat.le_refl _) _)
 have hR7:=Lib.hid (hr.out _ hB7.out);go_wp2_with fail
 refine (containsZero_any _ (252 - (12+bs.length)) _ ?_).mono ?_
 ·have h1:=hR7.out.sub (i:=12+bs.length) (k:=252 - (12+bs.length)) (by rw [HP.out.len];omega);have h2:=HP.out.zeros;rw [show 240 - bs.length=252 - (12+bs.length) by omega] at h2;rw [h2] at h1;exact h1
 rintro e w' ⟨rfl,rfl⟩;have hc12:(12:Int)+bs.length<=(cap:Int):=by omega
 go_wp2_with fail
 refine (clone_any _ bs _ ?_ (by omega)).mono ?_
 ·have h1:=hR7.out.sub (i:=12) (k:=bs.length) (by rw [HP.out.len];omega);rw [HP.out.body] at h1;exact h1
 rintro e w8 ⟨v8,rfl,ho8,hb8⟩;have hO8:=Lib.hid (ownsRow_base ho8 hB7.out.size);have hB8:=Lib.hid (hB7.out.trans (hb8.mono hB7.out.size));clear ho8 hb8;go_wp2_with fail
 rw [Exit.noGoto_ret];go_ret2
 exact ⟨v8,rfl,hO8.out,hB8.out⟩
end
section
open Go.RowKit Go.Maps Go.MapKept
open Go.ChangeMaps (setBlock heap_setBlock_same heap_setBlock_other)
abbrev Name:=ByteArray
structure DFile where
 now:List UInt8
 lasts:List UInt8
structure Dsk where
 files:List (Name × DFile)
 loose:List ((Name × Nat) × Unit)
 quota:Nat
 armed:Nat
 dead:Bool
namespace Dsk
def tick (d:Dsk):Dsk:=if 0 < d.armed then { d with armed:=d.armed - 1,dead:=d.dead || d.armed - 1 == 0 } else d
def err (d:Dsk):Nat:=if d.dead then 6 else 0
end Dsk
def sect (n:Nat):Nat:=(n+63) / 64
def usedOf (fs:List (Name × DFile)):Nat:=(fs.map (fun p=>sect p.2.now.length)).sum
structure Dsk.Ok (d:Dsk):Prop where
 quota:d.quota<=1048576
 armed:d.armed < 9223372036854775808
 used:usedOf d.files<=1048576
theorem usedOf_perm {a b:List (Name × DFile)} (h:a.Perm b):usedOf a=usedOf b:=(h.map _).sum_nat
theorem usedOf_del_le (fs:List (Name × DFile)) (name:Name):usedOf (mdel fs name)<=usedOf fs:=by
 unfold usedOf mdel;induction fs with
 | nil=>simp
 | cons p fs ih=>
   by_cases h:p.1=name
   ·rw [List.filter_cons_of_neg (by simpa using h)];simp only [List.map_cons,List.sum_cons];omega
   ·rw [List.filter_cons_of_pos (by simpa using h)];simp only [List.map_cons,List.sum_cons];omega
theorem usedOf_put (fs:List (Name × DFile)) (name:Name) (f:DFile):usedOf (mput fs name f)=sect f.now.length+usedOf (mdel fs name):=by
 unfold usedOf mput;simp
theorem usedOf_get {fs:List (Name × DFile)} {name:Name} {f:DFile} (hk:(fs.map (·.1)).Nodup) (h:mget fs name=some f):usedOf fs=sect f.now.length+usedOf (mdel fs name):=by
 rw [<- usedOf_put fs name f];obtain ⟨j,hj⟩:=List.mem_iff_getElem?.1 (mget_mem h);have h1:=set_perm hk hj f;have:fs.set j (name,f)=fs:=by
  obtain ⟨hlt,e⟩:=List.getElem?_eq_some_iff.1 hj;rw [<- e];exact List.set_getElem_self hlt
 rw [this] at h1;exact usedOf_perm h1
def okByte (b:UInt8):Bool:=(decide (97<=b.toNat) && decide (b.toNat<=122)) || (decide (48<=b.toNat) && decide (b.toNat<=57)) || b.toNat == 46 || b.toNat == 45
def okName (s:Name):Bool:=s.data.toList.all okByte && decide (1<=s.size) && decide (s.size<=24)
theorem okName_size {s:Name} (h:okName s=true):s.size<=24:=by
 unfold okName at h;simp at h;exact h.2
def ptrTo (b:Nat):Value:=.pointer (some ⟨b,0,none⟩)
theorem cells_cell {w:World} {b:Nat} {cs:Array Value} {t:TypeId} (h:w.heap[b]? = some (.cells cs t)) (i:Nat):w.cell? ⟨b,i,none⟩=cs[i]? := by
 simp [World.cell?,h]
theorem cells_frozen {w:World} {b:Nat} {cs:Array Value} {t:TypeId} (h:w.heap[b]? = some (.cells cs t)) (i:Nat):w.frozen? ⟨b,i,none⟩=false:=by
 simp [World.frozen?,h]
theorem cells_set {w:World} {b:Nat} {cs:Array Value} {t:TypeId} (h:w.heap[b]? = some (.cells cs t)) (i:Nat) (u:Value):(w.setCell ⟨b,i,none⟩ u).heap[b]? = some (.cells (cs.setIfInBounds i u) t):=by
 simp [World.setCell,Array.getElem?_modify,h]
def ofDisk (c:Nat):Prop:=c < 6
structure FileAt (w:World) (o:Owner) (pf:Nat) (f:DFile):Prop where
 own:o pf=some (3,0)
 rows:∃ t v u,w.heap[pf]? = some (.cells #[v,u] t)/\w.ownsRow 0 5 1 v f.now.length (f.now.map bv)/\(∀ b,v.ownBlock=some b->o b=some (4,pf)) /\
  w.ownsRow 0 5 1 u f.lasts.length (f.lasts.map bv)/\∀ b,u.ownBlock=some b->o b=some (5,pf)
 most:f.now.length<=16777216/\f.lasts.length<=16777216
def DiskHead (w:World) (db mf ml:Nat) (quota armed:Nat) (dead:Bool):Prop:=
 ∃ t,w.heap[db]? = some (.cells #[.map (some mf), .map (some ml), .int .i64 (quota:Int), .int .i64 (armed:Int), .bool dead] t)
abbrev FileMap:=MapAt Tryz.prog 9 Value.string (fun x:Nat × DFile=>ptrTo x.1)
abbrev LooseMap:=MapAt Tryz.prog 116 nameNum (fun _:Unit=>.bool true)
structure DiskIn (w:World) (db:Nat) (o:Owner) (mf ml:Nat) (l:List (Name × (Nat × DFile))) (d:Dsk):Prop where
 odb:o db=some (0,0)
 omf:o mf=some (1,0)
 oml:o ml=some (2,0)
 head:DiskHead w db mf ml d.quota d.armed d.dead
 files:FileMap w mf l
 strip:l.map (fun p=>(p.1,p.2.2))=d.files
 apart:(l.map (·.2.1)).Nodup
 each:∀ p∈l,FileAt w o p.2.1 p.2.2
 loose:LooseMap w ml d.loose
 owned:∀ x t,o x=some t->x < w.heap.size
 ok:d.Ok
def DiskAt (w:World) (db:Nat) (o:Owner) (d:Dsk):Prop:=∃ mf ml l,DiskIn w db o mf ml l d
section
variable {S:Nat->Prop} {w w':World} {o o':Owner} {db mf ml pf:Nat} {l:List (Name × (Nat × DFile))} {d:Dsk} {f:DFile}
theorem Turn.heap (ht:Turn S w w') {b:Nat} {x:Obj} (h:w.heap[b]? = some x) (hs:¬ S b):w'.heap[b]? = some x:=
 (ht.block b (Array.getElem?_eq_some_iff.1 h).1 hs).trans h
theorem FileAt.kept' (h:FileAt w o pf f) (ht:Turn S w w') (hp:¬ S pf) (h4:∀ x,o x=some (4,pf)->¬ S x) (h5:∀ x,o x=some (5,pf)->¬ S x) (ho:∀ x t,o x=some t->o' x=some t):FileAt w' o' pf f:=by
 obtain ⟨h1,⟨t,v,u,h2,h3,k4,h6,h7⟩,h8⟩:=h;exact ⟨ho _ _ h1,⟨t,v,u,ht.heap h2 hp,ht.ownsRow h3 (fun b hb=>h4 b (k4 b hb)),fun b hb=>ho _ _ (k4 b hb),ht.ownsRow h6 (fun b hb=>h5 b (h7 b hb)),fun b hb=>ho _ _ (h7 b hb)⟩,h8⟩
theorem FileAt.kept (h:FileAt w o pf f) (ht:Turn S w w') (hs:∀ x t,o x=some t->3<=t.1->t.1 < 6->¬ S x) (ho:∀ x t,o x=some t->o' x=some t):FileAt w' o' pf f:=
 h.kept' ht (hs _ _ h.own (by decide) (by decide)) (fun x hx=>hs x _ hx (by show 3<=4;decide) (by show 4 < 6;decide)) (fun x hx=>hs x _ hx (by show 3<=5;decide) (by show 5 < 6;decide)) ho
theorem DiskHead.kept {q a:Nat} {b:Bool} (h:DiskHead w db mf ml q a b) (ht:Turn S w w') (hs:¬ S db):DiskHead w' db mf ml q a b:=by
 obtain ⟨t,h⟩:=h;exact ⟨t,ht.heap h hs⟩
theorem DiskHead.cells {q a:Nat} {b:Bool} (h:DiskHead w db mf ml q a b) :
 (w.cell? ⟨db,0,none⟩=some (.map (some mf))/\w.cell? ⟨db,1,none⟩=some (.map (some ml))/\w.cell? ⟨db,2,none⟩=some (.int .i64 (q:Int))/\w.cell? ⟨db,3,none⟩=some (.int .i64 (a:Int))/\w.cell? ⟨db,4,none⟩=some (.bool b)) /\
   w.frozen? ⟨db,2,none⟩=false/\w.frozen? ⟨db,3,none⟩=false/\w.frozen? ⟨db,4,none⟩=false:=by
 obtain ⟨t,h⟩:=h;refine ⟨⟨?_,?_,?_,?_,?_⟩,cells_frozen h _,cells_frozen h _,cells_frozen h _⟩<;>rw [cells_cell h]<;>rfl
theorem DiskHead.set {q a:Nat} {b:Bool} (h:DiskHead w db mf ml q a b) (a':Nat) (b':Bool):DiskHead ((w.setCell ⟨db,3,none⟩ (.int .i64 (a':Int))).setCell ⟨db,4,none⟩ (.bool b')) db mf ml q a' b':=by
 obtain ⟨t,h⟩:=h;exact ⟨t,by rw [cells_set (cells_set h _ _)];rfl⟩
theorem MapAt.turn {κ υ:Type} {P:Program} {kt:TypeId} {ek:κ->Value} {ev:υ->Value} {b:Nat} {m:List (κ × υ)} (h:MapAt P kt ek ev w b m) (ht:Turn S w w') (hs:¬ S b):MapAt P kt ek ev w' b m:=
 h.kept (ht.block b h.lt hs)
theorem DiskIn.kept (h:DiskIn w db o mf ml l d) (ht:Turn S w w') (hs:∀ x t,o x=some t->t.1 < 6->¬ S x) (ho:∀ x t,o x=some t->o' x=some t) (hb:∀ x t,o' x=some t->x < w'.heap.size):DiskIn w' db o' mf ml l d where
 odb:=ho _ _ h.odb
 omf:=ho _ _ h.omf
 oml:=ho _ _ h.oml
 head:=h.head.kept ht (hs _ _ h.odb (by decide))
 files:=h.files.turn ht (hs _ _ h.omf (by decide))
 strip:=h.strip
 apart:=h.apart
 each:=fun p hp=>(h.each p hp).kept ht (fun x t hx _ hl=>hs x t hx hl) ho
 loose:=h.loose.turn ht (hs _ _ h.oml (by decide))
 owned:=hb
 ok:=h.ok
theorem DiskAt.kept (h:DiskAt w db o d) (ht:Turn S w w') (hs:∀ x t,o x=some t->t.1 < 6->¬ S x) (ho:∀ x t,o x=some t->o' x=some t) (hb:∀ x t,o' x=some t->x < w'.heap.size):DiskAt w' db o' d:=by
 obtain ⟨mf,ml,l,h⟩:=h;exact ⟨mf,ml,l,h.kept ht hs ho hb⟩
theorem DiskIn.below (h:DiskIn w db o mf ml l d) (hb:Below w.heap.size w w'):DiskIn w' db o mf ml l d:=
 h.kept (S:=fun _=>False) (Turn.ofBelow hb) (fun _ _ _ _ h=>h) (fun _ _ h=>h) (fun x t hx=>Nat.lt_of_lt_of_le (h.owned x t hx) hb.size)
theorem DiskAt.below (h:DiskAt w db o d) (hb:Below w.heap.size w w'):DiskAt w' db o d:=by
 obtain ⟨mf,ml,l,h⟩:=h;exact ⟨mf,ml,l,h.below hb⟩
theorem DiskIn.reHead (h:DiskIn w db o mf ml l d) (ht:Turn (·=db) w w') {q a:Nat} {b:Bool} (hh:DiskHead w' db mf ml q a b) (hq:q<=1048576) (ha:a < 9223372036854775808):DiskIn w' db o mf ml l { d with quota:=q,armed:=a,dead:=b } where
 odb:=h.odb
 omf:=h.omf
 oml:=h.oml
 head:=hh
 files:=h.files.turn ht (Owner.ne h.omf h.odb (by decide))
 strip:=h.strip
 apart:=h.apart
 each:=fun p hp=>(h.each p hp).kept ht (fun x t hx h3 _=>Owner.ne hx h.odb (fun e=>by rw [e] at h3;exact absurd h3 (by decide))) (fun _ _ h=>h)
 loose:=h.loose.turn ht (Owner.ne h.oml h.odb (by decide))
 owned:=fun x t hx=>Nat.lt_of_lt_of_le (h.owned x t hx) ht.size
 ok:=⟨hq,ha,h.ok.used⟩
theorem DiskIn.reFiles (h:DiskIn w db o mf ml l d) (ht:Turn S w w') (hS:∀ x,S x->x=mf\/∃ t,o x=some t/\3<=t.1) (hk:∀ x t,o x=some t->o' x=some t) {l':List (Name × (Nat × DFile))} (hfiles:FileMap w' mf l')
 (hapart:(l'.map (·.2.1)).Nodup) (heach:∀ p∈l',FileAt w' o' p.2.1 p.2.2) (howned:∀ x t,o' x=some t->x < w'.heap.size) (hused:usedOf (l'.map (fun p=>(p.1,p.2.2)))<=1048576) :
 DiskIn w' db o' mf ml l' { d with files:=l'.map (fun p=>(p.1,p.2.2)) }:=by
 have hn:∀ x t,o x=some t->t.1 < 3->x≠mf->¬ S x:=fun x t hx ht hxm hs=>by
  rcases hS x hs with e | ⟨s,e,h3⟩
  ·exact hxm e
  ·rw [hx] at e;cases e;omega
 exact {
  odb:=hk _ _ h.odb
  omf:=hk _ _ h.omf
  oml:=hk _ _ h.oml
  head:=h.head.kept ht (hn _ _ h.odb (by decide) (Owner.ne h.odb h.omf (by decide)))
  files:=hfiles
  strip:=rfl
  apart:=hapart
  each:=heach
  loose:=h.loose.turn ht (hn _ _ h.oml (by decide) (Owner.ne h.oml h.omf (by decide)))
  owned:=howned
  ok:=⟨h.ok.quota,h.ok.armed,hused⟩ }
end
section
variable {l:List (Name × (Nat × DFile))} {name:Name}
def bare (l:List (Name × (Nat × DFile))):List (Name × DFile):=l.map (fun p=>(p.1,p.2.2))
theorem strip_get:mget (bare l) name=(mget l name).map (·.2):=by
 unfold bare mget;induction l with
 | nil=>rfl
 | cons p l ih=>
   by_cases h:p.1=name
   ·simp [h]
   ·rw [List.map_cons,List.find?_cons_of_neg (by simpa using h),List.find?_cons_of_neg (by simpa using h)];exact ih
theorem strip_del:bare (mdel l name)=mdel (bare l) name:=by
 unfold bare mdel;rw [List.filter_map];rfl
theorem strip_put {x:Nat × DFile}:bare (mput l name x)=mput (bare l) name x.2:=by
 unfold mput;rw [<- strip_del];rfl
theorem pf_del (h:(l.map (·.2.1)).Nodup):((mdel l name).map (·.2.1)).Nodup:=(List.filter_sublist.map _).nodup h
theorem pf_inj (h:(l.map (·.2.1)).Nodup) {p q:Name × (Nat × DFile)} (hp:p∈l) (hq:q∈l) (e:p.2.1=q.2.1):p=q:=by
 induction l with
 | nil=>cases hp
 | cons x l ih=>
   rw [List.map_cons,List.nodup_cons] at h;rcases List.mem_cons.1 hp with rfl | hp
   ·rcases List.mem_cons.1 hq with rfl | hq
    ·rfl
    ·exact absurd (List.mem_map.2 ⟨q,hq,e.symm⟩) h.1
   ·rcases List.mem_cons.1 hq with e2 | hq
    ·rw [<- e2,<- e] at h;exact absurd (List.mem_map.2 ⟨p,hp,rfl⟩) h.1
    ·exact ih h.2 hp hq
theorem pf_put (h:(l.map (·.2.1)).Nodup) {x:Nat × DFile} (hx:mget l name=some x) (f:DFile):((mput l name (x.1,f)).map (·.2.1)).Nodup:=by
 unfold mput;rw [List.map_cons,List.nodup_cons];refine ⟨fun hm=>?_,pf_del h⟩;obtain ⟨q,hq,e⟩:=List.mem_map.1 hm;obtain ⟨hq,hne⟩:=mem_mdel.1 hq;have:=pf_inj h hq (mget_mem hx) e;rw [this] at hne;exact hne rfl
theorem mput_same {κ υ:Type} [DecidableEq κ] {m:List (κ × υ)} (hk:(m.map (·.1)).Nodup) {k:κ} {v:υ} (h:mget m k=some v):(mput m k v).Perm m:=by
 obtain ⟨j,hj⟩:=List.mem_iff_getElem?.1 (mget_mem h);refine (set_perm hk hj v).symm.trans ?_;have:m.set j (k,v)=m:=by
  obtain ⟨hlt,e⟩:=List.getElem?_eq_some_iff.1 hj;rw [<- e];exact List.set_getElem_self hlt
 rw [this]
theorem perm_back {α β:Type} {g:α->β} {L X:List β} (h:L.Perm X):∀ {m:List α},X=m.map g->∃ l:List α,l.Perm m/\L=l.map g:=by
 induction h with
 | nil=>exact fun {m} e=>⟨m, .refl _,e⟩
 | cons x _ ih=>
   intro m e;cases m with
   | nil=>cases e
   | cons p m=>
     rw [List.map_cons,List.cons.injEq] at e;obtain ⟨l,hl,e2⟩:=ih e.2;exact ⟨p::l,hl.cons p,by rw [List.map_cons,e.1,e2]⟩
 | swap x y l=>
   intro m e;match m,e with
   | p::q::m,e=>
     rw [List.map_cons,List.map_cons,List.cons.injEq,List.cons.injEq] at e;exact ⟨q::p::m, .swap _ _ _,by rw [List.map_cons,List.map_cons,e.1,e.2.1,e.2.2]⟩
 | trans _ _ ih1 ih2=>
   intro m e;obtain ⟨l2,h2,e2⟩:=ih2 e;obtain ⟨l1,h1,e1⟩:=ih1 e2;exact ⟨l1,h1.trans h2,e1⟩
theorem MapAt.reval {κ υ:Type} {P:Program} {kt:TypeId} {ek:κ->Value} {ev:υ->Value} {w:World} {b:Nat} {m m':List (κ × υ)} (h:MapAt P kt ek ev w b m) (he:m.map (fun p=>(ek p.1,ev p.2))=m'.map (fun p=>(ek p.1,ev p.2))):MapAt P kt ek ev w b m':=by
 obtain ⟨es,clock,l,hb,hp,h1,h2,h3⟩:=h;have hpp:(l.map (fun p=>(ek p.1,ev p.2))).Perm (m'.map (fun p=>(ek p.1,ev p.2))):=he ▸ hp.map _;rw [<- h2] at hpp;obtain ⟨l',hl',e⟩:∃ l':List (κ × υ),l'.Perm m'/\es.toList.map (fun e=>(e.key,e.val))=l'.map (fun p=>(ek p.1,ev p.2)):=by
  exact perm_back hpp rfl
 refine ⟨es,clock,l',hb,hl',h1,e,fun p hpm=>?_⟩;have hmem:(ek p.1,ev p.2)∈m.map (fun p=>(ek p.1,ev p.2)):=by
  rw [he];exact List.mem_map.2 ⟨p,hl'.mem_iff.1 hpm,rfl⟩
 obtain ⟨q,hq,e1⟩:=List.mem_map.1 hmem;have:=h3 q (hp.mem_iff.2 hq);rw [(Prod.mk.inj e1).1] at this;exact this
end
set_option maxHeartbeats 1000000 in
theorem begin_any {w:World} {db:Nat} {o:Owner} {d:Dsk} (h:DiskAt w db o d) :
 Calls Tryz.prog 138 #[ptrTo db] w fun e w'=>e=.returned (.int .i64 (d.tick.err:Int))/\DiskAt w' db o d.tick/\Turn (o.In ofDisk) w w':=by
 obtain ⟨mf,ml,l,h⟩:=h;obtain ⟨⟨hc0,hc1,hc2,hc3,hc4⟩,hf2,hf3,hf4⟩:=h.head.cells;have HD:=Lib.hid h;have ha:=h.ok.armed;have HA:=Lib.hid ha;clear h ha;unfold ptrTo;by_cases h0:0 < d.armed
 ·have g0:((d.armed:Int) > 0):=by omega
  have e1:wrap64 ((d.armed:Int) - 1)=((d.armed - 1:Nat):Int):=by
   have:=HA.out;unfold wrap64;omega
  have HE:∀ a' b',a' < 9223372036854775808->DiskIn ((w.setCell ⟨db,3,none⟩ (.int .i64 ((a':Nat):Int))).setCell ⟨db,4,none⟩ (.bool b')) db o mf ml l { d with armed:=a',dead:=b' }:=fun a' b' ha'=>
   HD.out.reHead (((Turn.refl (·=db) w).setCell _ _ (.inl rfl)).setCell _ _ (.inl rfl)) (HD.out.head.set a' b') HD.out.ok.quota ha'
  have HT:∀ u v,Turn (o.In ofDisk) w ((w.setCell ⟨db,3,none⟩ u).setCell ⟨db,4,none⟩ v):=fun u v=>
   ((Turn.refl _ _).setCell _ _ (.inl ⟨_,HD.out.odb,by show 0 < 6;decide⟩)).setCell _ _ (.inl ⟨_,HD.out.odb,by show 0 < 6;decide⟩)
  have HE:=Lib.hid HE;have HT:=Lib.hid HT;have et:d.tick={ d with armed:=d.armed - 1,dead:=d.dead || d.armed - 1 == 0 }:=by unfold Dsk.tick;rw [if_pos h0]
  unfold Dsk.err;rw [et];clear et;by_cases h1:d.armed=1
  ·have e3:d.armed - 1=0:=by omega
   rw [h1] at hc3;clear e1 g0;have hx:(d.armed - 1 == 0)=true:=by rw [e3];rfl
   rw [hx,Bool.or_true,e3];clear hx e3 h1 h0;cases hd:d.dead with
   | true=>
     rw [hd] at hc4;go_enter Tryz.func138,Tryz.ntmps138
     go_wp2;go_ret;exact ⟨rfl,⟨mf,ml,l,HE.out 0 true (by omega)⟩,HT.out _ _⟩
   | false=>
     rw [hd] at hc4;go_enter Tryz.func138,Tryz.ntmps138
     go_wp2;go_ret;exact ⟨rfl,⟨mf,ml,l,HE.out 0 true (by omega)⟩,HT.out _ _⟩
  ·have g1:¬ (((d.armed - 1:Nat):Int)=0):=by omega
   have g2:(d.armed - 1 == 0)=false:=by simp;omega
   rw [g2,Bool.or_false];cases hd:d.dead with
   | true=>
     rw [hd] at hc4;go_enter Tryz.func138,Tryz.ntmps138
     go_wp2;go_ret;exact ⟨rfl,⟨mf,ml,l,HE.out _ _ (by have:=HA.out;omega)⟩,HT.out _ _⟩
   | false=>
     rw [hd] at hc4;go_enter Tryz.func138,Tryz.ntmps138
     go_wp2;go_ret;exact ⟨rfl,⟨mf,ml,l,HE.out _ _ (by have:=HA.out;omega)⟩,HT.out _ _⟩
 ·have g0:¬ ((d.armed:Int) > 0):=by omega
  have et:d.tick=d:=by unfold Dsk.tick;rw [if_neg h0]
  rw [et];unfold Dsk.err;cases hd:d.dead with
  | true=>
    rw [hd] at hc4;go_enter Tryz.func138,Tryz.ntmps138
    go_wp2;go_ret;exact ⟨rfl,⟨mf,ml,l,HD.out⟩,Turn.refl _ _⟩
  | false=>
    rw [hd] at hc4;go_enter Tryz.func138,Tryz.ntmps138
    go_wp2;go_ret;exact ⟨rfl,⟨mf,ml,l,HD.out⟩,Turn.refl _ _⟩
end
section
open Go.RowKit Go.Maps Go.MapKept
open Go.ChangeMaps (setBlock heap_setBlock_same heap_setBlock_other)
set_option maxHeartbeats 1000000 in
theorem look_any {w:World} {db:Nat} {o:Owner} {d:Dsk} (h:DiskAt w db o d) :
 Calls Tryz.prog 263 #[ptrTo db] w fun e w'=>e=.returned (.int .i64 (d.err:Int))/\w=w':=by
 obtain ⟨mf,ml,l,h⟩:=h;obtain ⟨⟨hc0,hc1,hc2,hc3,hc4⟩,hf2,hf3,hf4⟩:=h.head.cells;clear h;unfold ptrTo Dsk.err;cases hd:d.dead with
 | true=>
   rw [hd] at hc4;go_enter Tryz.func263,Tryz.ntmps263
   go_wp2;go_ret;exact ⟨rfl,rfl⟩
 | false=>
   rw [hd] at hc4;go_enter Tryz.func263,Tryz.ntmps263
   go_wp2;go_ret;exact ⟨rfl,rfl⟩
theorem sectors_any (n:Nat) (w:World) (h':n<=1099511627776) :
 Calls Tryz.prog 266 #[.int .i64 (n:Int)] w fun e w'=>e=.returned (.int .i64 (((n+63) / 64:Nat):Int))/\w=w':=by
 go_enter Tryz.func266,Tryz.ntmps266
 go_wp2;go_ret;refine ⟨?_,rfl⟩;simp;omega
theorem okName_false {s:Name} {j:Nat} (hj:j < s.data.toList.length) (h:okByte s.data.toList[j]=false):okName s=false:=by
 unfold okName;have:s.data.toList.all okByte=false:=by
  rw [List.all_eq_false];exact ⟨_,List.getElem_mem hj,by rw [h];decide⟩
 rw [this];rfl
def OkTo (s:Name) (j:Nat):Prop:=∀ k (h:k < s.data.toList.length),k < j->okByte s.data.toList[k]=true
theorem OkTo.all {s:Name} (h:OkTo s s.size):s.data.toList.all okByte=true:=by
 rw [List.all_eq_true];intro b hb;obtain ⟨k,hk,rfl⟩:=List.getElem_of_mem hb;exact h k hk (by rw [Array.length_toList] at hk;exact hk)
set_option linter.unusedSimpArgs false in
set_option maxRecDepth 100000 in
set_option maxHeartbeats 4000000 in
theorem right_any (s:Name) (w:World) (hs:s.size<=1000) :
 Calls Tryz.prog 199 #[.string s] w fun e w'=>e=.returned (.bool (okName s))/\Below w.heap.size w w':=by
 have hr:=Lib.hid (Rd_bytesWorld w s hs);have hb:=Lib.hid (Joins.below_bytesWorld w.heap.size w 5 s (Nat.le_refl _));have hcv:=fun W=>Lib.run_convert_string_bytes (P:=Tryz.prog) W 9 39 5 s Tryz.underlying9 Tryz.underlying39 Tryz.underlying5;go_enter Tryz.func199,Tryz.ntmps199
 go_wp2;clear hcv;have hlen:s.data.toList.length=s.size:=by rw [Array.length_toList];rfl
 have hl:=Lib.hid hlen;clear hlen;obtain ⟨a,cap,hv,_,_,hc⟩:=hr.out;simp only [Value.slice.injEq] at hv;obtain ⟨rfl,hv2,_⟩:=hv;have HC:=Lib.hid hc;clear hc hv2 hr;go_loop [8] (fun i=>∃ j:Nat,j<=s.size/\i=.int .i64 j/\OkTo s j) (fun i=>s.size - (intOf i).toNat)
 case atStart=>exact ⟨0,by omega,rfl,fun k _ h=>by omega⟩
 case round=>
  obtain ⟨j,hj,rfl,hok⟩:=hrel;by_cases hlt:j < s.size
  ·have hjl:j < s.data.toList.length:=by rw [hl.out];exact hlt
   rcases HC.out with hc | ⟨b,off,hbo,hc⟩
   ·have:=hl.out;omega
   simp only [Option.some.injEq,Addr.mk.injEq] at hbo;obtain ⟨rfl,rfl,_⟩:=hbo;have hcell:=hc j hjl;rw [Nat.zero_add] at hcell;clear hc;unfold bv at hcell;have hby:=(s.data.toList[j]).toNat_lt;generalize hB:s.data.toList[j]=B at hcell hby
   have HB:=Lib.hid hB;clear hB;generalize hN:B.toNat=N at hcell hby
   have HN:=Lib.hid hN;clear hN;have hbad:Hid (okByte B=false->okName s=false):=Lib.hid (fun h=>okName_false hjl (by rw [HB.out];exact h));have hgood:Hid (okByte B=true->OkTo s (j+1)):=Lib.hid (fun h k hk hkj=>by
    by_cases e:k=j
    ·subst e;rw [HB.out];exact h
    ·exact hok k hk (by omega))
   have hdef:Hid (okByte B=((decide (97<=N) && decide (N<=122)) || (decide (48<=N) && decide (N<=57)) || N == 46 || N == 45)):=Lib.hid (by unfold okByte;rw [HN.out]);clear HB HN;go_wp2;all_goals first
    | (go_ret
       have hz:okName s=false:=hbad.out (by rw [hdef.out];(try simp only [beq_eq_false_iff_ne,beq_iff_eq] at *);simp;omega);rw [hz];exact ⟨rfl,hb.out⟩)
    | (go_round
       case rel=>
        refine ⟨_,_,_,⟨j+1,by omega,?_,hgood.out ?_⟩,rfl,rfl,rfl⟩
        ·go_num
        ·rw [hdef.out];(try simp only [beq_eq_false_iff_ne,beq_iff_eq] at *);simp;omega
       case measure=>simp [intOf];omega)
  ·obtain rfl:j=s.size:=by omega
   have hall:=Lib.hid hok.all;clear hok;by_cases h1:1<=s.size
   ·by_cases h2:s.size<=24
    ·go_wp2;go_ret;refine ⟨?_,hb.out⟩;unfold okName;rw [hall.out];simp [h1,h2];omega
    ·go_wp2;go_ret;refine ⟨?_,hb.out⟩;unfold okName;rw [hall.out];simp [h1,h2];omega
   ·go_wp2;go_ret;refine ⟨?_,hb.out⟩;unfold okName;rw [hall.out];simp [h1]
def findOf (l:List (Name × (Nat × DFile))) (name:Name) (fine:Bool):Value × Nat:=
 if okName name && fine then (match mget l name with | some x=>(ptrTo x.1,0) | none=>(.pointer none,3)) else (.pointer none,1)
set_option maxRecDepth 100000 in
set_option maxHeartbeats 1000000 in
theorem find_any {w:World} {db mf ml:Nat} {o:Owner} {l:List (Name × (Nat × DFile))} {d:Dsk} (h:DiskIn w db o mf ml l d) (name:Name) (fine:Bool) (hs:name.size<=1000) :
 Calls Tryz.prog 139 #[ptrTo db, .string name, .bool fine] w fun e w'=>e=.returned (.tuple #[(findOf l name fine).1, .int .i64 ((findOf l name fine).2:Int)])/\Below w.heap.size w w':=by
 have HD:=Lib.hid h;clear h;unfold ptrTo;cases hok:okName name with
 | false=>
   have e1:findOf l name fine=(.pointer none,1):=by unfold findOf;rw [hok];rfl
   rw [e1];have HOK:=Lib.hid hok;clear hok;go_enter Tryz.func139,Tryz.ntmps139
   go_wp2_with fail
   refine (right_any _ _ hs).mono ?_;rintro e w1 ⟨rfl,hb1⟩;rw [HOK.out];go_wp2;go_returns
   exact ⟨rfl,hb1⟩
 | true=>
   have HOK:=Lib.hid hok;cases fine with
   | false=>
     have e1:findOf l name false=(.pointer none,1):=by unfold findOf;rw [hok];rfl
     rw [e1];clear hok;go_enter Tryz.func139,Tryz.ntmps139
     go_wp2_with fail
     refine (right_any _ _ hs).mono ?_;rintro e w1 ⟨rfl,hb1⟩;rw [HOK.out];go_wp2;go_returns
     exact ⟨rfl,hb1⟩
   | true=>
     have hg:=good_string (s:=name) (by unfold maxLen;omega);have hz:∀ W:World,(zeroValue 109).run Tryz.prog W=.ok (.pointer none) W:=fun W=>by kernel_rfl
     cases hm:mget l name with
     | none=>
       have e1:findOf l name true=(.pointer none,3):=by unfold findOf;rw [hok,hm];rfl
       rw [e1];have HM:=Lib.hid hm;clear hm hok e1;go_enter Tryz.func139,Tryz.ntmps139
       go_wp2_with fail
       refine (right_any _ _ hs).mono ?_;rintro e w1 ⟨rfl,hb1⟩;rw [HOK.out];have HD1:=Lib.hid (HD.out.below hb1);obtain ⟨⟨hc0,hc1,hc2,hc3,hc4⟩,hf2,hf3,hf4⟩:=HD1.out.head.cells;go_wp2_with (at_lookup;refine wpList_look _ rfl _ _ _ _ rfl 109 keyed_string string_inj Tryz.underlying110 (hz _) mf l rfl HD1.out.files name rfl hg ?_;rw [HM.out])
       go_returns
       exact ⟨rfl,hb1⟩
     | some x=>
       have e1:findOf l name true=(ptrTo x.1,0):=by unfold findOf;rw [hok,hm];rfl
       rw [e1];have HM:=Lib.hid hm;clear hm hok e1;go_enter Tryz.func139,Tryz.ntmps139
       go_wp2_with fail
       refine (right_any _ _ hs).mono ?_;rintro e w1 ⟨rfl,hb1⟩;rw [HOK.out];have HD1:=Lib.hid (HD.out.below hb1);obtain ⟨⟨hc0,hc1,hc2,hc3,hc4⟩,hf2,hf3,hf4⟩:=HD1.out.head.cells;go_wp2_with (at_lookup;refine wpList_look _ rfl _ _ _ _ rfl 109 keyed_string string_inj Tryz.underlying110 (hz _) mf l rfl HD1.out.files name rfl hg ?_;rw [HM.out];simp only [Option.map_some,Option.getD_some,ptrTo])
       go_returns
       exact ⟨rfl,hb1⟩
namespace Dsk
def settle (d:Dsk) (name:Name):Dsk:={ d with loose:=d.loose.filter (fun p=>decide (p.1.1≠name)) }
end Dsk
def Settling (L:List ((Name × Nat) × Unit)) (name:Name) (m todo:List ((Name × Nat) × Unit)):Prop:=
 (∀ p,p∈m ↔ p∈L/\(p.1.1≠name\/p∈todo))/\∀ p∈todo,p∈L
theorem Settling.struck {L m todo rs:List ((Name × Nat) × Unit)} {name:Name} {p:(Name × Nat) × Unit} (h:Settling L name m todo) (hp:todo.Perm (p::rs)) (hn:∀ q∈rs,q.1≠p.1) (hpn:p.1.1=name):Settling L name (mdel m p.1) rs:=by
 refine ⟨fun q=>?_,fun q hq=>h.2 q (hp.mem_iff.2 (by simp [hq]))⟩;rw [mem_mdel,h.1 q,hp.mem_iff,List.mem_cons];constructor
 ·rintro ⟨⟨h1,h2⟩,h3⟩;refine ⟨h1,?_⟩;rcases h2 with h2 | rfl | h2
  ·exact .inl h2
  ·exact absurd rfl h3
  ·exact .inr h2
 ·rintro ⟨h1,h2⟩;rcases h2 with h2 | h2
  ·exact ⟨⟨h1, .inl h2⟩,fun e=>h2 (by rw [e];exact hpn)⟩
  ·exact ⟨⟨h1, .inr (.inr h2)⟩,hn q h2⟩
theorem Settling.passed {L m todo rs:List ((Name × Nat) × Unit)} {name:Name} {p:(Name × Nat) × Unit} (h:Settling L name m todo) (hp:todo.Perm (p::rs)) (hpn:p.1.1≠name):Settling L name m rs:=by
 refine ⟨fun q=>?_,fun q hq=>h.2 q (hp.mem_iff.2 (by simp [hq]))⟩;rw [h.1 q,hp.mem_iff,List.mem_cons];constructor
 ·rintro ⟨h1,h2⟩;refine ⟨h1,?_⟩;rcases h2 with h2 | rfl | h2
  ·exact .inl h2
  ·exact .inl hpn
  ·exact .inr h2
 ·rintro ⟨h1,h2⟩;rcases h2 with h2 | h2
  ·exact ⟨h1, .inl h2⟩
  ·exact ⟨h1, .inr (.inr h2)⟩
theorem Settling.done {L m:List ((Name × Nat) × Unit)} {name:Name} (h:Settling L name m []) (hm:(m.map (·.1)).Nodup) (hl:(L.map (·.1)).Nodup):m.Perm (L.filter (fun p=>decide (p.1.1≠name))):=by
 have n1:m.Nodup:=List.Pairwise.of_map _ (fun _ _ h e=>h (by rw [e])) hm;have n2:L.Nodup:=List.Pairwise.of_map _ (fun _ _ h e=>h (by rw [e])) hl;refine (List.perm_ext_iff_of_nodup n1 (n2.filter _)).2 fun q=>?_;rw [h.1 q,List.mem_filter];simp
theorem DiskIn.reLoose {w w':World} {db mf ml:Nat} {o:Owner} {l:List (Name × (Nat × DFile))} {d:Dsk} (h:DiskIn w db o mf ml l d) (ht:Turn (·=ml) w w') {s:List ((Name × Nat) × Unit)} (hl:LooseMap w' ml s):DiskIn w' db o mf ml l { d with loose:=s } where
 odb:=h.odb
 omf:=h.omf
 oml:=h.oml
 head:=h.head.kept ht (Owner.ne h.odb h.oml (by decide))
 files:=h.files.turn ht (Owner.ne h.omf h.oml (by decide))
 strip:=h.strip
 apart:=h.apart
 each:=fun p hp=>(h.each p hp).kept ht (fun x t hx h3 _=>Owner.ne hx h.oml (fun e=>by rw [e] at h3;exact absurd h3 (by decide))) (fun _ _ h=>h)
 loose:=hl
 owned:=fun x t hx=>Nat.lt_of_lt_of_le (h.owned x t hx) ht.size
 ok:=⟨h.ok.quota,h.ok.armed,h.ok.used⟩
set_option maxRecDepth 100000 in
set_option maxHeartbeats 2000000 in
theorem settle_all {w:World} {db mf ml:Nat} {o:Owner} {l:List (Name × (Nat × DFile))} {d:Dsk} (h:DiskIn w db o mf ml l d) (name:Name) :
 Calls Tryz.prog 140 #[ptrTo db, .string name, .func (.func 141) #[] #[]] w fun e w'=>e=.returned (.tuple #[])/\DiskIn w' db o mf ml l (d.settle name)/\Turn (·=ml) w w':=by
 have HD:=Lib.hid h;obtain ⟨⟨hc0,hc1,hc2,hc3,hc4⟩,hf2,hf3,hf4⟩:=h.head.cells;clear h hc0 hc2 hc3 hc4 hf2 hf3 hf4;unfold ptrTo;go_enter Tryz.func140,Tryz.ntmps140
 go_wp2_with (at_range;refine wpList_rng _ rfl _ _ rfl 4 Tryz.underlying111 ml d.loose rfl HD.out.loose ?_;intro ob hi0)
 go_frame
 go_loopw [] (fun wr=>∃ m todo,IterAt Tryz.prog 116 nameNum (fun _:Unit=>.bool true) wr ml w.heap.size m todo/\Turn (·=ml) w wr/\Settling d.loose name m todo) (fun wr=>wr.rangeLeft ml w.heap.size)
 case atStart=>exact ⟨_,_,hi0,(Turn.refl _ _).alloc _,fun p=>⟨fun hp=>⟨hp, .inr hp⟩,fun hp=>hp.1⟩,fun p hp=>hp⟩
 case round=>
  obtain ⟨m,todo,hi,ht,hs⟩:=hrel;go_wp2_with (at_next;refine wpList_nxt _ rfl _ rfl ml w.heap.size m todo rfl hi ?_ ?_)
  ·rintro rfl;go_wp2;go_end0
   refine ⟨rfl,HD.out.reLoose ht (hi.map.perm (hs.done hi.map.keys HD.out.loose.keys)),ht⟩
  ·intro nm n u rs w1 ob1 hp hal hi1 hen;have ht1:Turn (·=ml) w (setBlock w1 w.heap.size ob1):=by
    rcases hal with rfl | rfl
    ·exact ht.setBlock _ _ (.inr (Nat.le_refl _))
    ·exact ht.drew.setBlock _ _ (.inr (Nat.le_refl _))
   have hc1':(setBlock w1 w.heap.size ob1).cell? ⟨db,1,none⟩=some (.map (some ml)):=ht1.cell hc1 (Owner.ne HD.out.odb HD.out.oml (by decide));have hpt:((nm,n),u)∈todo:=hp.mem_iff.2 (by simp);have hpm:((nm,n),u)∈m:=(hs.1 _).2 ⟨hs.2 _ hpt, .inr hpt⟩;have hgood:Hid (Good Tryz.prog 116 (nameNum (nm,n))):=Lib.hid (hi.map.good _ hpm);have hnd:Hid (∀ p∈rs,p.1≠(nm,n)):=Lib.hid (by
    have h1:=(hp.map (·.1)).nodup_iff.1 hi.keys;rw [List.map_cons,List.nodup_cons] at h1;exact fun p hp e=>h1.1 (List.mem_map.2 ⟨p,hp,e⟩))
   clear hpt hpm;have HP:=Lib.hid hp;have HI:=Lib.hid hi;have HS:=Lib.hid hs;have HT:=Lib.hid ht1;have HL:=Lib.hid hal;clear hp hi hs ht1 hal ht;unfold nameNum at hen;generalize hW:setBlock w1 w.heap.size ob1=W at hen hc1' HT hi1;clear hW hi0 HL ob1 w1;go_wp2
   ·rename_i heq
    obtain rfl:nm=name:=WideShapes.bytes_inj (by rw [<- ByteArray.toList_eq,<- ByteArray.toList_eq];exact heq);clear heq;have ht2:Turn (·=ml) w (W.alloc (.cells #[.string nm, .int .i64 n] 116)):=HT.out.alloc _;have hlt:∀ {b},b < W.heap.size->(W.alloc (.cells #[.string nm, .int .i64 n] 116)).heap[b]? = W.heap[b]? := fun h=>(MapKept.heap_alloc W _).2 _ h;have hi2:=hi1.kept (hlt hi1.map.lt) (hlt hi1.lt);have k0:(W.alloc (.cells #[.string nm, .int .i64 n] 116)).cell? ⟨W.heap.size,0,none⟩=some (.string nm):=by rw [cells_cell (heap_alloc_new _ _)];rfl
    have k1:(W.alloc (.cells #[.string nm, .int .i64 n] 116)).cell? ⟨W.heap.size,1,none⟩=some (.int .i64 n):=by rw [cells_cell (heap_alloc_new _ _)];rfl
    have k2:(W.alloc (.cells #[.string nm, .int .i64 n] 116)).cell? ⟨db,1,none⟩=some (.map (some ml)):=ht2.cell hc1 (Owner.ne HD.out.odb HD.out.oml (by decide));have hlt2:=HI.out.left;clear hi1 hlt;generalize hW2:W.alloc (.cells #[.string nm, .int .i64 n] 116)=W2 at ht2 hi2 k0 k1 k2 ⊢;generalize hX:W.heap.size=X at k0 k1 ⊢;clear hW2 hX hen hc1' HT;refine wp_region_quiet_tail (fun w'=>∃ n,w'=W2.drewN n) 5 (by kernel_rfl) (by kernel_rfl) ⟨1,rfl⟩ ?_;simp only [List.take_succ_cons,List.take_zero,List.drop_succ_cons,List.drop_zero];repeat go_big_quiet_step (fail)
    refine wpQuiet_nil ?_;rintro _ ⟨nq,rfl⟩;have hi3:IterAt Tryz.prog 116 nameNum (fun _:Unit=>.bool true) (W2.drewN nq) ml w.heap.size m rs:=hi2.kept rfl rfl;clear hi2 k0 k1 k2;go_wp2_with (at_delete;refine wpList_delIter _ rfl _ _ 111 rfl 4 keyed_dkey nameNum_inj Tryz.underlying111 ml w.heap.size m rs rfl hi3 (nm,n) rfl hgood.out hnd.out ?_;intro es clock hi4;go_frame)
    go_roundw
    case rel=>exact ⟨_,_,hi4,(ht2.drewN nq).setBlock _ _ (.inl rfl),HS.out.struck HP.out hnd.out rfl⟩
    case measure=>
     have e1:=hi4.left;have e2:=HP.out.length_eq;rw [List.length_cons] at e2;rw [e1,hlt2];omega
   ·rename_i hne
    have hlt:∀ {b},b < W.heap.size->(W.alloc (.cells #[.string nm, .int .i64 n] 116)).heap[b]? = W.heap[b]? := fun h=>(MapKept.heap_alloc W _).2 _ h;have hi2:=hi1.kept (hlt hi1.map.lt) (hlt hi1.lt);go_roundw
    case rel=>exact ⟨_,_,hi2,HT.out.alloc _,HS.out.passed HP.out (fun e=>hne (congrArg ByteArray.toList e))⟩
    case measure=>
     have e1:=hi2.left;have e2:=HP.out.length_eq;rw [List.length_cons] at e2;rw [e1,HI.out.left];omega
def DiskPost (w:World) (db:Nat) (o:Owner) (d':Dsk) (w':World):Prop:=
 ∃ o',DiskAt w' db o' d'/\Turn (o.In ofDisk) w w'/\OGrow w.heap.size o o'
theorem DiskPost.of {w w':World} {db:Nat} {o:Owner} {d':Dsk} (h:DiskAt w' db o d') (ht:Turn (o.In ofDisk) w w'):DiskPost w db o d' w':=⟨o,h,ht,OGrow.refl _ _⟩
theorem find_cases {w:World} {db mf ml:Nat} {o:Owner} {l:List (Name × (Nat × DFile))} {d:Dsk} (h:DiskIn w db o mf ml l d) (name:Name) (fine:Bool) :
 ((okName name && fine)=false/\findOf l name fine=(.pointer none,1)) \/
 ((okName name && fine)=true/\mget d.files name=none/\mget l name=none/\findOf l name fine=(.pointer none,3)) \/
 ∃ pf f,(okName name && fine)=true/\mget d.files name=some f/\mget l name=some (pf,f)/\findOf l name fine=(.pointer (some ⟨pf,0,none⟩),0):=by
 have hg:mget d.files name=(mget l name).map (·.2):=by rw [<- h.strip];exact strip_get
 unfold findOf;cases hok:(okName name && fine) with
 | false=>exact .inl ⟨rfl,rfl⟩
 | true=>
   cases hm:mget l name with
   | none=>exact .inr (.inl ⟨rfl,by rw [hg,hm];rfl,rfl,rfl⟩)
   | some x=>exact .inr (.inr ⟨x.1,x.2,rfl,by rw [hg,hm];rfl,rfl,rfl⟩)
theorem DiskIn.get {w:World} {db mf ml:Nat} {o:Owner} {l:List (Name × (Nat × DFile))} {d:Dsk} (h:DiskIn w db o mf ml l d) {name:Name} {pf:Nat} {f:DFile} (hg:mget l name=some (pf,f)):mget d.files name=some f:=by
 have e:mget (bare l) name=(mget l name).map (·.2):=strip_get;rw [<- h.strip,show l.map (fun p=>(p.1,p.2.2))=bare l from rfl,e,hg];rfl
theorem DiskIn.fileKeys {w:World} {db mf ml:Nat} {o:Owner} {l:List (Name × (Nat × DFile))} {d:Dsk} (h:DiskIn w db o mf ml l d):(d.files.map (·.1)).Nodup:=by
 rw [<- h.strip,List.map_map];exact h.files.keys
theorem DiskIn.in_ml {w:World} {db mf ml:Nat} {o:Owner} {l:List (Name × (Nat × DFile))} {d:Dsk} (h:DiskIn w db o mf ml l d):o.In ofDisk ml:=⟨_,h.oml,by show 2 < 6;decide⟩
namespace Dsk
def create (d:Dsk) (name:Name):Dsk × Nat:=
 if d.tick.dead then (d.tick,6) else if okName name=false then (d.tick,1) else if (mget d.files name).isSome then (d.tick,4) else ({ d.tick with files:=mput d.files name ⟨[],[]⟩ },0)
theorem tick_files (d:Dsk):d.tick.files=d.files:=by unfold tick;split<;>rfl
theorem tick_loose (d:Dsk):d.tick.loose=d.loose:=by unfold tick;split<;>rfl
theorem tick_quota (d:Dsk):d.tick.quota=d.quota:=by unfold tick;split<;>rfl
end Dsk
theorem DiskIn.newFile {w w1:World} {db mf ml:Nat} {o:Owner} {l:List (Name × (Nat × DFile))} {d:Dsk} (h:DiskIn w db o mf ml l d) (name:Name) {t:TypeId} {ob:Obj}
 (hw:w1=setBlock (w.alloc (.cells #[.slice none 0 0, .slice none 0 0] t)) mf ob) (hf:FileMap w1 mf (mput l name (w.heap.size,⟨[],[]⟩))) :
 DiskIn w1 db (o.set w.heap.size (3,0)) mf ml (mput l name (w.heap.size,⟨[],[]⟩)) { d with files:=mput d.files name ⟨[],[]⟩ }:=by
 have ht:Turn (·=mf) w w1:=by
  rw [hw];exact ((Turn.refl (·=mf) w).alloc _).setBlock _ _ (.inl rfl)
 have hmf:mf < w.heap.size:=h.files.lt;have hN:∀ x,o x=none\/x < w.heap.size:=fun x=>by
  cases hx:o x with
  | none=>exact .inl rfl
  | some t=>exact .inr (h.owned x t hx)
 have ho:∀ x t,o x=some t->(o.set w.heap.size (3,0)) x=some t:=fun x t hx=>by
  rw [Owner.set_other _ _ (by have:=h.owned x t hx;omega)];exact hx
 have hsz:w.heap.size < w1.heap.size:=by
  rw [hw];simp [setBlock]
 have e1:mput d.files name ⟨[],[]⟩=(mput l name (w.heap.size,⟨[],[]⟩)).map (fun p=>(p.1,p.2.2)):=by
  rw [<- h.strip];exact (strip_put (x:=(w.heap.size,(⟨[],[]⟩:DFile)))).symm
 rw [e1];refine h.reFiles ht (fun x hx=>.inl hx) ho hf ?_ ?_ ?_ (by rw [<- e1,usedOf_put];have:=usedOf_del_le d.files name;have:=h.ok.used;simp [sect];omega)
 ·unfold mput;rw [List.map_cons,List.nodup_cons];refine ⟨fun hm=>?_,pf_del h.apart⟩;obtain ⟨q,hq,e⟩:=List.mem_map.1 hm;have:=h.owned _ _ (h.each q (mem_mdel.1 hq).1).own;dsimp only at e;omega
 ·intro p hp;rcases List.mem_cons.1 hp with rfl | hp
  ·refine ⟨by simp,⟨t, .slice none 0 0, .slice none 0 0,?_,ownsRow_nil _ _ _,fun b hb=>by simp [Value.ownBlock] at hb,ownsRow_nil _ _ _,fun b hb=>by simp [Value.ownBlock] at hb⟩,by simp⟩;show w1.heap[w.heap.size]? = _;rw [hw,heap_setBlock_none _ (by omega)];exact heap_alloc_new _ _
  ·have hp':=(mem_mdel.1 hp).1;exact (h.each p hp').kept ht (fun x t hx h3 _=>Owner.ne hx h.omf (fun e=>by rw [e] at h3;exact absurd h3 (by decide))) ho
 ·intro x t hx;by_cases e:x=w.heap.size
  ·rw [e];exact hsz
  ·rw [Owner.set_other _ _ e] at hx;have:=h.owned x t hx;omega
set_option maxRecDepth 100000 in
set_option maxHeartbeats 2000000 in
theorem create_any {w:World} {db:Nat} {o:Owner} {d:Dsk} (h:DiskAt w db o d) (name:Name) (hs:name.size<=1000) :
 Calls Tryz.prog 153 #[ptrTo db, .string name] w fun e w'=>e=.returned (.int .i64 ((d.create name).2:Int))/\DiskPost w db o (d.create name).1 w':=by
 have H:=Lib.hid h;clear h;unfold ptrTo;cases hd:d.tick.dead with
 | true=>
   have e1:d.create name=(d.tick,6):=by unfold Dsk.create;rw [hd];rfl
   have e2:d.tick.err=6:=by unfold Dsk.err;rw [hd];rfl
   have E2:=Lib.hid e2;rw [e1];clear hd e1 e2;go_enter Tryz.func153,Tryz.ntmps153
   go_wp2_with fail
   refine (begin_any H.out).mono ?_;rintro e w1 ⟨rfl,hd1,ht1⟩;rw [E2.out];go_wp2;go_ret;exact ⟨rfl, .of hd1 ht1⟩
 | false=>
   have e2:d.tick.err=0:=by unfold Dsk.err;rw [hd];rfl
   have E2:=Lib.hid e2;have HDD:=Lib.hid hd;clear hd e2;go_enter Tryz.func153,Tryz.ntmps153
   go_wp2_with fail
   refine (begin_any H.out).mono ?_;rintro e w1 ⟨rfl,⟨mf,ml,l,hd1⟩,ht1⟩;rw [E2.out];have HD1:=Lib.hid hd1;have HT1:=Lib.hid ht1;have hfc:=find_cases hd1 name true;rw [Dsk.tick_files] at hfc;clear hd1 ht1;go_wp2_with fail
   refine (find_any HD1.out name true hs).mono ?_;rintro e w2 ⟨rfl,hb2⟩;have HD2:=Lib.hid (HD1.out.below hb2);have HT2:=Lib.hid (HT1.out.thenBelow hb2);clear hb2;rcases hfc with ⟨q1,q2⟩ | ⟨q1,q2,q3,q4⟩ | ⟨pf,f,q1,q2,q3,q4⟩
   ·have e1:d.create name=(d.tick,1):=by
     unfold Dsk.create;rw [HDD.out];rw [Bool.and_true] at q1;rw [q1];rfl
    rw [q2];have E1:=Lib.hid e1;clear e1 q2 q1;go_wp2;go_ret;rw [E1.out];exact ⟨rfl, .of ⟨_,_,_,HD2.out⟩ HT2.out⟩
   ·have e1:d.create name=({ d.tick with files:=mput d.files name ⟨[],[]⟩ },0):=by
     unfold Dsk.create;rw [HDD.out];rw [Bool.and_true] at q1;rw [q1,q2];rfl
    rw [q4];have E1:=Lib.hid e1;have hg:=good_string (s:=name) (by unfold maxLen;omega);clear e1 q4 q3 q2 q1;obtain ⟨⟨hc0,hc1,hc2,hc3,hc4⟩,hf2,hf3,hf4⟩:=HD2.out.head.cells;clear hc1 hc2 hc3 hc4 hf2 hf3 hf4;have hfm:Hid (FileMap (w2.alloc (.cells #[.slice none 0 0, .slice none 0 0] 108)) mf l):=Lib.hid (HD2.out.files.kept ((MapKept.heap_alloc _ _).2 _ HD2.out.files.lt));go_wp2_with (at_mapUpdate;refine wpList_put _ rfl _ _ _ _ rfl 109 keyed_string string_inj Tryz.underlying110 mf l rfl hfm.out name (w2.heap.size,⟨[],[]⟩) rfl rfl hg ?_;intro es clock hm;have HM:=Lib.hid hm;clear hm)
    go_ret;rw [E1.out];have hN:=HD2.out.newFile name rfl HM.out;rw [Dsk.tick_files] at hN;exact ⟨rfl,_,⟨_,_,_,hN⟩,(HT2.out.alloc _).setBlock _ _ (.inl ⟨_,HD2.out.omf,by show 1 < 6;decide⟩),(OGrow.refl _ _).set HT2.out.size _⟩
   ·have e1:d.create name=(d.tick,4):=by
     unfold Dsk.create;rw [HDD.out];rw [Bool.and_true] at q1;rw [q1,q2];rfl
    rw [q4];have E1:=Lib.hid e1;clear e1 q4 q3 q2 q1;go_wp2;go_ret;rw [E1.out];exact ⟨rfl, .of ⟨_,_,_,HD2.out⟩ HT2.out⟩
namespace Dsk
def remove (d:Dsk) (name:Name):Dsk × Nat:=
 if d.tick.dead then (d.tick,6) else if okName name=false then (d.tick,1) else match mget d.files name with
  | none=>(d.tick,3)
  | some _=>({ d.tick with files:=mdel d.files name,loose:=d.loose.filter (fun p=>decide (p.1.1≠name)) },0)
def sync (d:Dsk) (name:Name):Dsk × Nat:=
 if d.tick.dead then (d.tick,6) else if okName name=false then (d.tick,1) else match mget d.files name with
  | none=>(d.tick,3)
  | some f=>({ d.tick with files:=mput d.files name ⟨f.now,f.now⟩,loose:=d.loose.filter (fun p=>decide (p.1.1≠name)) },0)
end Dsk
theorem DiskIn.dropFile {w w1:World} {db mf ml:Nat} {o:Owner} {l:List (Name × (Nat × DFile))} {d:Dsk} (h:DiskIn w db o mf ml l d) (name:Name) {ob:Obj}
 (hw:w1=setBlock w mf ob) (hf:FileMap w1 mf (mdel l name)):DiskIn w1 db o mf ml (mdel l name) { d with files:=mdel d.files name }:=by
 have ht:Turn (·=mf) w w1:=by
  rw [hw];exact (Turn.refl (·=mf) w).setBlock _ _ (.inl rfl)
 have e1:mdel d.files name=(mdel l name).map (fun p=>(p.1,p.2.2)):=by
  rw [<- h.strip];exact strip_del.symm
 rw [e1];refine h.reFiles ht (fun x hx=>.inl hx) (fun _ _ h=>h) hf (pf_del h.apart) ?_ (fun x t hx=>Nat.lt_of_lt_of_le (h.owned x t hx) ht.size) (by rw [<- e1];exact Nat.le_trans (usedOf_del_le _ _) h.ok.used);intro p hp;exact (h.each p (mem_mdel.1 hp).1).kept ht (fun x t hx h3 _=>Owner.ne hx h.omf (fun e=>by rw [e] at h3;exact absurd h3 (by decide))) (fun _ _ h=>h)
set_option maxRecDepth 100000 in
set_option maxHeartbeats 2000000 in
theorem remove_any {w:World} {db:Nat} {o:Owner} {d:Dsk} (h:DiskAt w db o d) (name:Name) (hs:name.size<=1000) :
 Calls Tryz.prog 96 #[ptrTo db, .string name] w fun e w'=>e=.returned (.int .i64 ((d.remove name).2:Int))/\DiskPost w db o (d.remove name).1 w':=by
 have H:=Lib.hid h;clear h;unfold ptrTo;cases hd:d.tick.dead with
 | true=>
   have e1:d.remove name=(d.tick,6):=by unfold Dsk.remove;rw [hd];rfl
   have e2:d.tick.err=6:=by unfold Dsk.err;rw [hd];rfl
   have E2:=Lib.hid e2;rw [e1];clear hd e1 e2;go_enter Tryz.func96,Tryz.ntmps96
   go_wp2_with fail
   refine (begin_any H.out).mono ?_;rintro e w1 ⟨rfl,hd1,ht1⟩;rw [E2.out];go_wp2;go_ret;exact ⟨rfl, .of hd1 ht1⟩
 | false=>
   have e2:d.tick.err=0:=by unfold Dsk.err;rw [hd];rfl
   have E2:=Lib.hid e2;have HDD:=Lib.hid hd;clear hd e2;go_enter Tryz.func96,Tryz.ntmps96
   go_wp2_with fail
   refine (begin_any H.out).mono ?_;rintro e w1 ⟨rfl,⟨mf,ml,l,hd1⟩,ht1⟩;rw [E2.out];have HD1:=Lib.hid hd1;have HT1:=Lib.hid ht1;have hfc:=find_cases hd1 name true;rw [Dsk.tick_files] at hfc;clear hd1 ht1;go_wp2_with fail
   refine (find_any HD1.out name true hs).mono ?_;rintro e w2 ⟨rfl,hb2⟩;have HD2:=Lib.hid (HD1.out.below hb2);have HT2:=Lib.hid (HT1.out.thenBelow hb2);clear hb2;rcases hfc with ⟨q1,q2⟩ | ⟨q1,q2,q3,q4⟩ | ⟨pf,f,q1,q2,q3,q4⟩
   ·have e1:d.remove name=(d.tick,1):=by
     unfold Dsk.remove;rw [HDD.out];rw [Bool.and_true] at q1;rw [q1];rfl
    rw [q2];have E1:=Lib.hid e1;clear e1 q2 q1;go_wp2;go_ret;rw [E1.out];exact ⟨rfl, .of ⟨_,_,_,HD2.out⟩ HT2.out⟩
   ·have e1:d.remove name=(d.tick,3):=by
     unfold Dsk.remove;rw [HDD.out];rw [Bool.and_true] at q1;rw [q1,q2];rfl
    rw [q4];have E1:=Lib.hid e1;clear e1 q4 q3 q2 q1;go_wp2;go_ret;rw [E1.out];exact ⟨rfl, .of ⟨_,_,_,HD2.out⟩ HT2.out⟩
   ·have e1:d.remove name=({ d.tick with files:=mdel d.files name,loose:=d.loose.filter (fun p=>decide (p.1.1≠name)) },0):=by
     unfold Dsk.remove;rw [HDD.out];rw [Bool.and_true] at q1;rw [q1,q2];rfl
    rw [q4];have E1:=Lib.hid e1;have hg:=good_string (s:=name) (by unfold maxLen;omega);clear e1 q4 q3 q2 q1;obtain ⟨⟨hc0,hc1,hc2,hc3,hc4⟩,hf2,hf3,hf4⟩:=HD2.out.head.cells;clear hc1 hc2 hc3 hc4 hf2 hf3 hf4;go_wp2_with (at_delete;refine wpList_del _ rfl _ _ _ rfl 109 keyed_string string_inj Tryz.underlying110 mf l rfl HD2.out.files name rfl hg ?_;intro es clock hm;have HM:=Lib.hid hm;clear hm)
    have HD3:=Lib.hid (HD2.out.dropFile name rfl HM.out);have HT3:=Lib.hid (HT2.out.setBlock mf (.map es clock) (.inl ⟨_,HD2.out.omf,by show 1 < 6;decide⟩));clear HM hc0;refine (settle_all HD3.out name).mono ?_;rintro e w4 ⟨rfl,hd4,ht4⟩;have HD4:=Lib.hid hd4;have HT4:=Lib.hid (HT3.out.trans ht4 (fun x _ e=>e ▸ HD3.out.in_ml));clear hd4 ht4;go_wp2;go_ret;rw [E1.out];have hN:=HD4.out;unfold Dsk.settle at hN;dsimp only at hN;rw [Dsk.tick_files,Dsk.tick_loose] at hN;exact ⟨rfl, .of ⟨_,_,_,hN⟩ HT4.out⟩
def OfFile (o:Owner) (pf x:Nat):Prop:=x=pf\/o x=some (4,pf)\/o x=some (5,pf)
theorem OfFile.in {o:Owner} {pf x:Nat} (h:OfFile o pf x) (hp:o pf=some (3,0)):o.In ofDisk x:=by
 rcases h with rfl | h | h
 ·exact ⟨_,hp,by show 3 < 6;decide⟩
 ·exact ⟨_,h,by show 4 < 6;decide⟩
 ·exact ⟨_,h,by show 5 < 6;decide⟩
theorem DiskIn.reFile {w w':World} {db mf ml:Nat} {o o':Owner} {l:List (Name × (Nat × DFile))} {d:Dsk} (h:DiskIn w db o mf ml l d) {name:Name} {pf:Nat} {f f':DFile} (hg:mget l name=some (pf,f))
 (ht:Turn (OfFile o pf) w w') (ho:∀ x t,o x=some t->o' x=some t) (hf:FileAt w' o' pf f') (howned:∀ x t,o' x=some t->x < w'.heap.size) (hused:usedOf (mput d.files name f')<=1048576) :
 DiskIn w' db o' mf ml (mput l name (pf,f')) { d with files:=mput d.files name f' }:=by
 have hown:=(h.each _ (mget_mem hg)).own;have e1:mput d.files name f'=(mput l name (pf,f')).map (fun p=>(p.1,p.2.2)):=by
  rw [<- h.strip];exact (strip_put (x:=(pf,f'))).symm
 rw [e1];have hmf:¬ OfFile o pf mf:=by
  rintro (e | e | e)
  ·exact Owner.ne h.omf hown (by decide) e
  ·rw [h.omf] at e;cases e
  ·rw [h.omf] at e;cases e
 refine h.reFiles ht (fun x hx=>.inr ?_) ho ?_ (pf_put h.apart hg f') ?_ howned (by rw [<- e1];exact hused)
 ·rcases hx with rfl | hx | hx
  ·exact ⟨_,hown,by decide⟩
  ·exact ⟨_,hx,by show 3<=4;decide⟩
  ·exact ⟨_,hx,by show 3<=5;decide⟩
 ·have h1:FileMap w mf (mput l name (pf,f)):=h.files.perm (mput_same h.files.keys hg).symm;exact (h1.reval (m':=mput l name (pf,f')) rfl).turn ht hmf
 ·intro p hp;rcases List.mem_cons.1 hp with rfl | hp
  ·exact hf
  ·obtain ⟨hp',hne⟩:=mem_mdel.1 hp;have hpf:p.2.1≠pf:=fun e=>hne (by rw [pf_inj h.apart hp' (mget_mem hg) e]);have hpo:=(h.each p hp').own;refine (h.each p hp').kept' ht ?_ ?_ ?_ ho
   ·rintro (e | e | e)
    ·exact hpf e
    ·rw [hpo] at e;cases e
    ·rw [hpo] at e;cases e
   ·rintro x hx (e | e | e)
    ·rw [e,hown] at hx;cases hx
    ·rw [hx] at e;cases e;exact hpf rfl
    ·rw [hx] at e;cases e
   ·rintro x hx (e | e | e)
    ·rw [e,hown] at hx;cases hx
    ·rw [hx] at e;cases e
    ·rw [hx] at e;cases e;exact hpf rfl
theorem FileAt.cells {w:World} {o:Owner} {pf:Nat} {f:DFile} (h:FileAt w o pf f):∃ v u,(w.cell? ⟨pf,0,none⟩=some v/\w.cell? ⟨pf,1,none⟩=some u)/\(w.frozen? ⟨pf,0,none⟩=false/\w.frozen? ⟨pf,1,none⟩=false) /\
 w.ownsRow 0 5 1 v f.now.length (f.now.map bv)/\(∀ b,v.ownBlock=some b->o b=some (4,pf))/\w.ownsRow 0 5 1 u f.lasts.length (f.lasts.map bv)/\∀ b,u.ownBlock=some b->o b=some (5,pf):=by
 obtain ⟨_,⟨t,v,u,h2,h3⟩,_⟩:=h;exact ⟨v,u,⟨by rw [cells_cell h2];rfl,by rw [cells_cell h2];rfl⟩,⟨cells_frozen h2 _,cells_frozen h2 _⟩,h3⟩
theorem ownsRow_slice {w:World} {base:Nat} {e:TypeId} {size:Nat} {v:Value} {n:Nat} {xs:List Value} (h:w.ownsRow base e size v n xs):∃ a cap,v=.slice a n cap:=by
 obtain ⟨_,h⟩:=h;rcases h with ⟨rfl,rfl⟩ | ⟨g,cap,cur,rfl,_⟩
 ·exact ⟨none,0,rfl⟩
 ·exact ⟨_,cap,rfl⟩
theorem fresh_none {o:Owner} {n b:Nat} (ho:∀ x t,o x=some t->x < n) (hb:n<=b):o b=none:=by
 cases h:o b with
 | none=>rfl
 | some t=>have:=ho b t h;omega
theorem ownBlock_old {w:World} {base:Nat} {e:TypeId} {size:Nat} {v:Value} {n:Nat} {xs:List Value} (h:w.ownsRow base e size v n xs):∀ b,v.ownBlock=some b->b < w.heap.size/\base<=b:=by
 rintro b hb;obtain ⟨_,h⟩:=h;rcases h with ⟨rfl,_⟩ | ⟨g,cap,cur,rfl,hg,hh,_⟩
 ·cases hb
 ·cases hb;exact ⟨(Array.getElem?_eq_some_iff.1 hh).1,hg⟩
def Owner.put (o:Owner) (v:Value) (t:Tag):Owner:=match v.ownBlock with | some b=>o.set b t | none=>o
theorem Owner.put_at {o:Owner} {v:Value} {t:Tag} {b:Nat} (h:v.ownBlock=some b):(o.put v t) b=some t:=by
 unfold Owner.put;rw [h];simp
theorem Owner.put_grow {o:Owner} {v:Value} {t:Tag} {n:Nat} (h:∀ b,v.ownBlock=some b->n<=b):OGrow n o (o.put v t):=by
 intro x hx;unfold Owner.put;cases hv:v.ownBlock with
 | none=>rfl
 | some b=>exact Owner.set_other _ _ (by have:=h b hv;omega)
theorem Owner.put_keep {o:Owner} {v:Value} {s:Tag} (hb:∀ b,v.ownBlock=some b->o b=none):∀ x r,o x=some r->(o.put v s) x=some r:=fun x r hx=>by
 unfold Owner.put;cases e:v.ownBlock with
 | none=>exact hx
 | some b=>
   dsimp only;rw [Owner.set_other _ _ (fun e2=>by rw [e2,hb b e] at hx;cases hx)];exact hx
theorem Owner.put_owned {o:Owner} {v:Value} {t:Tag} {n:Nat} (ho:∀ x t,o x=some t->x < n) (h:∀ b,v.ownBlock=some b->b < n):∀ x s,(o.put v t) x=some s->x < n:=by
 intro x s hx;unfold Owner.put at hx;cases hv:v.ownBlock with
 | none=>rw [hv] at hx;exact ho x s hx
 | some b=>
   rw [hv] at hx;dsimp only at hx;by_cases e:x=b
   ·rw [e];exact h b hv
   ·rw [Owner.set_other _ _ e] at hx;exact ho x s hx
theorem FileAt.store {w:World} {o:Owner} {pf:Nat} {f:DFile} (h:FileAt w o pf f) {v:Value} {bs:List UInt8} {base:Nat} (hv:w.ownsRow base 5 1 v bs.length (bs.map bv)) (hb:∀ b,v.ownBlock=some b->o b=none) (hl:bs.length<=16777216) :
 FileAt (w.setCell ⟨pf,0,none⟩ v) (o.put v (4,pf)) pf { f with now:=bs }/\FileAt (w.setCell ⟨pf,1,none⟩ v) (o.put v (5,pf)) pf { f with lasts:=bs }:=by
 obtain ⟨h1,⟨t,a,c,h2,h3,h4,h5,h6⟩,h7⟩:=h;have hne:∀ b,v.ownBlock=some b->b≠pf:=fun b h e=>by
  have:=hb b h;rw [e,h1] at this;cases this
 have hold:∀ (s:Tag) x r,o x=some r->(o.put v s) x=some r:=fun s=>Owner.put_keep hb;have hrow:∀ (i:Nat) (u z:Value) (xs:List Value) (n base:Nat),w.ownsRow base 5 1 z n xs->(∀ b,z.ownBlock=some b->b≠pf)->(w.setCell ⟨pf,i,none⟩ u).ownsRow 0 5 1 z n xs:=fun i u z xs n base hz hn=>by
  have ht:Turn (·=pf) w (w.setCell ⟨pf,i,none⟩ u):=(Turn.refl (·=pf) w).setCell _ _ (.inl rfl);exact ownsRow_base (ht.ownsRow hz (fun b hb e=>hn b hb e)) (Nat.zero_le _)
 have hpf4:∀ b,a.ownBlock=some b->b≠pf:=fun b hb e=>by have:=h4 b hb;rw [e,h1] at this;cases this
 have hpf5:∀ b,c.ownBlock=some b->b≠pf:=fun b hb e=>by have:=h6 b hb;rw [e,h1] at this;cases this
 refine ⟨⟨hold _ _ _ h1,⟨t,v,c,?_,hrow _ _ _ _ _ _ hv hne,fun b hb=>Owner.put_at hb,hrow _ _ _ _ _ _ h5 hpf5,fun b hb=>hold _ _ _ (h6 b hb)⟩,hl,h7.2⟩,
  ⟨hold _ _ _ h1,⟨t,a,v,?_,hrow _ _ _ _ _ _ h3 hpf4,fun b hb=>hold _ _ _ (h4 b hb),hrow _ _ _ _ _ _ hv hne,fun b hb=>Owner.put_at hb⟩,h7.1,hl⟩⟩
 ·rw [cells_set h2];rfl
 ·rw [cells_set h2];rfl
set_option maxRecDepth 100000 in
set_option maxHeartbeats 2000000 in
theorem sync_any {w:World} {db:Nat} {o:Owner} {d:Dsk} (h:DiskAt w db o d) (name:Name) (hs:name.size<=1000) :
 Calls Tryz.prog 185 #[ptrTo db, .string name] w fun e w'=>e=.returned (.int .i64 ((d.sync name).2:Int))/\DiskPost w db o (d.sync name).1 w':=by
 have H:=Lib.hid h;clear h;unfold ptrTo;cases hd:d.tick.dead with
 | true=>
   have e1:d.sync name=(d.tick,6):=by unfold Dsk.sync;rw [hd];rfl
   have e2:d.tick.err=6:=by unfold Dsk.err;rw [hd];rfl
   have E2:=Lib.hid e2;rw [e1];clear hd e1 e2;go_enter Tryz.func185,Tryz.ntmps185
   go_wp2_with fail
   refine (begin_any H.out).mono ?_;rintro e w1 ⟨rfl,hd1,ht1⟩;rw [E2.out];go_wp2;go_ret;exact ⟨rfl, .of hd1 ht1⟩
 | false=>
   have e2:d.tick.err=0:=by unfold Dsk.err;rw [hd];rfl
   have E2:=Lib.hid e2;have HDD:=Lib.hid hd;clear hd e2;go_enter Tryz.func185,Tryz.ntmps185
   go_wp2_with fail
   refine (begin_any H.out).mono ?_;rintro e w1 ⟨rfl,⟨mf,ml,l,hd1⟩,ht1⟩;rw [E2.out];have HD1:=Lib.hid hd1;have HT1:=Lib.hid ht1;have hfc:=find_cases hd1 name true;rw [Dsk.tick_files] at hfc;clear hd1 ht1;go_wp2_with fail
   refine (find_any HD1.out name true hs).mono ?_;rintro e w2 ⟨rfl,hb2⟩;have HD2:=Lib.hid (HD1.out.below hb2);have HT2:=Lib.hid (HT1.out.thenBelow hb2);clear hb2;rcases hfc with ⟨q1,q2⟩ | ⟨q1,q2,q3,q4⟩ | ⟨pf,f,q1,q2,q3,q4⟩
   ·have e1:d.sync name=(d.tick,1):=by
     unfold Dsk.sync;rw [HDD.out];rw [Bool.and_true] at q1;rw [q1];rfl
    rw [q2];have E1:=Lib.hid e1;clear e1 q2 q1;go_wp2;go_ret;rw [E1.out];exact ⟨rfl, .of ⟨_,_,_,HD2.out⟩ HT2.out⟩
   ·have e1:d.sync name=(d.tick,3):=by
     unfold Dsk.sync;rw [HDD.out];rw [Bool.and_true] at q1;rw [q1,q2];rfl
    rw [q4];have E1:=Lib.hid e1;clear e1 q4 q3 q2 q1;go_wp2;go_ret;rw [E1.out];exact ⟨rfl, .of ⟨_,_,_,HD2.out⟩ HT2.out⟩
   ·have e1:d.sync name=({ d.tick with files:=mput d.files name ⟨f.now,f.now⟩,loose:=d.loose.filter (fun p=>decide (p.1.1≠name)) },0):=by
     unfold Dsk.sync;rw [HDD.out];rw [Bool.and_true] at q1;rw [q1,q2];rfl
    rw [q4];have E1:=Lib.hid e1;have hfa:=HD2.out.each _ (mget_mem q3);have HFA:=Lib.hid hfa;have HQ:=Lib.hid q3;clear e1 q4 q3 q2 q1;obtain ⟨v,u,⟨hp0,hp1⟩,⟨hz0,hz1⟩,hrow,hown,-,-⟩:=hfa.cells;have HROW:=Lib.hid hrow;have HOWN:=Lib.hid hown;have hmost:=Lib.hid hfa.most.1;clear hrow hown hfa hp1;go_wp2_with fail
    refine (clone_any v f.now _ (Rd_own HROW.out) (by have:=hmost.out;omega)).mono ?_;rintro e w3 ⟨v3,rfl,ho3,hb3⟩;have HD3:=Lib.hid (HD2.out.below hb3);have HT3:=Lib.hid (HT2.out.thenBelow hb3);have hfa3:=HD3.out.each _ (mget_mem HQ.out);have HFA3:=Lib.hid hfa3;obtain ⟨v4,u4,⟨-,hp1⟩,⟨-,hp2⟩,-⟩:=hfa3.cells;clear hfa3;obtain ⟨a3,c3,rfl⟩:=ownsRow_slice ho3;have HO3:=Lib.hid ho3;have HB3:=Lib.hid hb3;clear ho3 hb3;go_wp2_with fail
    have hfresh:∀ b,(Value.slice a3 f.now.length c3).ownBlock=some b->o b=none:=fun b hb=>fresh_none HD2.out.owned (ownBlock_old HO3.out b hb).2;have HD4:=Lib.hid (HD3.out.reFile HQ.out ((Turn.refl (OfFile o pf) w3).setCell ⟨pf,1,none⟩ (.slice a3 f.now.length c3) (.inl (.inl rfl))) (o':=o.put (.slice a3 f.now.length c3) (5,pf))
     (Owner.put_keep hfresh)
     (HFA3.out.store HO3.out hfresh hmost.out).2 (fun x t hx=>by
       have:=Owner.put_owned HD3.out.owned (fun b hb=>(ownBlock_old HO3.out b hb).1) x t hx;simpa using this) (by
       have h1:=usedOf_get HD3.out.fileKeys (HD3.out.get HQ.out);rw [usedOf_put];have h2:=HD3.out.ok.used;dsimp only at h1 ⊢;omega))
    have HT4:=Lib.hid (HT3.out.setCell ⟨pf,1,none⟩ (.slice a3 f.now.length c3) (.inl (OfFile.in (.inl rfl) HFA3.out.own)));have HG:=Lib.hid (Owner.put_grow (o:=o) (t:=(5,pf)) (n:=w.heap.size) (fun b hb=>Nat.le_trans HT2.out.size (ownBlock_old HO3.out b hb).2));refine (settle_all HD4.out name).mono ?_;rintro e w5 ⟨rfl,hd5,ht5⟩;have HD5:=Lib.hid hd5;have HT5:=Lib.hid (HT4.out.trans ht5 (fun x _ e=>e ▸ HD3.out.in_ml));clear hd5 ht5;go_wp2;go_ret;rw [E1.out];have hN:=HD5.out;unfold Dsk.settle at hN;dsimp only at hN;rw [Dsk.tick_files,Dsk.tick_loose] at hN;exact ⟨rfl,_,⟨_,_,_,hN⟩,HT5.out,HG.out⟩
end
end Go.Proofs.YthkkgdpomhhjjaaGreatDoor
