/-
  Joined.
-/
import Derived.Test.YthkkgdpomhhjjaaGreatDoorR01
import Derived.Laws.CopyOwn
import Derived.Orders
namespace Go.Proofs.YthkkgdpomhhjjaaGreatDoor
section
open Go.RowKit
set_option maxHeartbeats 1000000 in
theorem nonzero_any (w:World):Calls Tryz.prog 280 #[.int .u8 0] w fun e w'=>e=.returned (.bool false)/\w=w':=by
 go_enter Tryz.func280,Tryz.ntmps280
 go_wp2;go_ret;exact ⟨rfl,rfl⟩
set_option maxHeartbeats 1000000 in
theorem indexZero_any (v:Value) (k:Nat) (w:World) (hv:Rd w v (List.replicate k 0)) :
 Calls Tryz.prog 299 #[v, .func (.func 280) #[] #[]] w fun e w'=>e=.returned (.int .i64 (-1))/\w=w':=by
 obtain ⟨a,cap,he,hlc,hcm,hc⟩:=hv;rw [List.length_replicate] at he hlc;have HC:=Lib.hid hc;clear hc;subst he;unfold maxLen at hcm;go_enter Tryz.func299,Tryz.ntmps299
 go_wp2;go_loop [8] (fun i=>∃ j:Nat,j<=k/\i=.int .i64 j) (fun i=>k - (intOf i).toNat)
 case atStart=>exact ⟨0,by omega,rfl⟩
 case round=>
  obtain ⟨j,hj,rfl⟩:=hrel;by_cases hlt:j < k
  ·rcases HC.out with hc | ⟨b,off,rfl,hc⟩
   ·rw [List.length_replicate] at hc;omega
   have hcell:=hc j (by simpa using hlt);rw [List.getElem_replicate] at hcell;have hb0:bv 0=.int .u8 0:=rfl;rw [hb0] at hcell;clear hc hb0;go_wp2_with (go_at_call 280;refine (nonzero_any _).mono ?_;rintro e w' ⟨rfl,rfl⟩)
   go_round
   case rel=>exact ⟨j+1,by omega,by go_num⟩
   case measure=>simp [intOf];omega
  ·obtain rfl:j=k:=by omega
   go_wp2_with fail
   go_ret;exact ⟨rfl,rfl⟩
set_option maxHeartbeats 1000000 in
theorem containsZero_any (v:Value) (k:Nat) (w:World) (hv:Rd w v (List.replicate k 0)) :
 Calls Tryz.prog 279 #[v, .func (.func 280) #[] #[]] w fun e w'=>e=.returned (.bool false)/\w=w':=by
 go_enter Tryz.func279,Tryz.ntmps279
 go_wp2_with fail
 refine (indexZero_any v k _ hv).mono ?_;rintro e w' ⟨rfl,rfl⟩;go_wp2_with fail
 go_ret;exact ⟨rfl,rfl⟩
structure PageReads (tag num:Nat) (bs p:List UInt8):Prop where
 len:p.length=256
 sum:unle ((p.drop 252).take 4)=crcOf (p.take 252)
 tag:unle ((p.drop 0).take 4)=tag
 num:unle ((p.drop 4).take 4)=num
 size:unle ((p.drop 8).take 2)=bs.length
 none:unle ((p.drop 10).take 2)=0
 zeros:(p.drop (12+bs.length)).take (240 - bs.length)=List.replicate (240 - bs.length) 0
 body:(p.drop 12).take bs.length=bs
theorem take_app (a b:List UInt8) (n:Nat) (h:a.length=n):(a++b).take n=a:=by rw [<- h];exact List.take_left
theorem drop_app (a b:List UInt8) (n:Nat) (h:a.length=n):(a++b).drop n=b:=by rw [<- h];exact List.drop_left
theorem mkPage_reads (tag num:Nat) (bs:List UInt8) (hl:bs.length<=240) (ht:tag < 4294967296) (hn:num < 4294967296):PageReads tag num bs (mkPage tag num bs):=by
 have hb:=pageBody_length tag num bs hl;have e:mkPage tag num bs=le tag 4++(le num 4++(le bs.length 2++(le 0 2++(bs++(List.replicate (240 - bs.length) 0++le (crcOf (pageBody tag num bs)) 4))))):=by
  simp [mkPage,pageBody,headBytes]
 have p252:(mkPage tag num bs).take 252=pageBody tag num bs:=take_app _ _ _ hb;have d252:(mkPage tag num bs).drop 252=le (crcOf (pageBody tag num bs)) 4:=drop_app _ _ _ hb;have d4:(mkPage tag num bs).drop 4=le num 4++(le bs.length 2++(le 0 2++(bs++(List.replicate (240 - bs.length) 0++le (crcOf (pageBody tag num bs)) 4)))):=by rw [e];exact drop_app _ _ _ (le_length _ _)
 have d8:(mkPage tag num bs).drop 8=le bs.length 2++(le 0 2++(bs++(List.replicate (240 - bs.length) 0++le (crcOf (pageBody tag num bs)) 4))):=by
  rw [show 8=4+4 from rfl,<- List.drop_drop,d4];exact drop_app _ _ _ (le_length _ _)
 have d10:(mkPage tag num bs).drop 10=le 0 2++(bs++(List.replicate (240 - bs.length) 0++le (crcOf (pageBody tag num bs)) 4)):=by
  rw [show 10=8+2 from rfl,<- List.drop_drop,d8];exact drop_app _ _ _ (le_length _ _)
 have d12:(mkPage tag num bs).drop 12=bs++(List.replicate (240 - bs.length) 0++le (crcOf (pageBody tag num bs)) 4):=by
  rw [show 12=10+2 from rfl,<- List.drop_drop,d10];exact drop_app _ _ _ (le_length _ _)
 have hc:=crcOf_lt (pageBody tag num bs);refine ⟨mkPage_length tag num bs hl,?_,?_,?_,?_,?_,?_,?_⟩
 ·rw [d252,p252,List.take_of_length_le (by rw [le_length];exact Nat.le_refl _),unle_le];exact Nat.mod_eq_of_lt hc
 ·rw [e,List.drop_zero,take_app _ _ _ (le_length _ _),unle_le];exact Nat.mod_eq_of_lt ht
 ·rw [d4,take_app _ _ _ (le_length _ _),unle_le];exact Nat.mod_eq_of_lt hn
 ·rw [d8,take_app _ _ _ (le_length _ _),unle_le];exact Nat.mod_eq_of_lt (by omega)
 ·rw [d10,take_app _ _ _ (le_length _ _),unle_le]
 ·rw [<- List.drop_drop,d12,drop_app _ _ _ rfl,take_app _ _ _ (by simp)]
 ·rw [d12,take_app _ _ _ rfl]
set_option maxHeartbeats 2000000 in
theorem open_any (tag num:Nat) (v:Value) (bs p:List UInt8) (w:World) (hv:Rd w v p) (hp:PageReads tag num bs p) (hl:bs.length<=240) (ht:tag < 4294967296) (hn:num < 4294967296) :
 Calls Tryz.prog 238 #[v, .int .u32 tag, .int .u32 num] w (NewBytesOk w bs):=by
 have hr:Hid (∀ W,Below w.heap.size w W->Rd W v p):=Lib.hid fun W h=>hv.below h;obtain ⟨a,cap,he,hlc,hcm,hc⟩:=hv;rw [hp.len] at he hlc;subst he;clear hc;unfold maxLen at hcm;have HP:=Lib.hid hp;clear hp;go_enter Tryz.func238,Tryz.ntmps238
 go_wp2_with fail
 go_step3
 go_wp2_with fail
 obtain ⟨w1,hw1⟩:∃ w1,w1=w.alloc (.cells #[.int .u64 0, .int .u64 0, .int .u64 0, .int .u64 0] 344):=⟨_,rfl⟩;have hB1:Hid (Below w.heap.size w w1):=Lib.hid (by rw [hw1];exact (Below.refl _ _).alloc (Nat.le_refl _) _);have hh1:Hid (w1.heap[w.heap.size]? = some (.cells #[.int .u64 0, .int .u64 0, .int .u64 0, .int .u64 0] 344 (0,0))):=Lib.hid (by rw [hw1];exact heap_alloc_new _ _);have hz1:Hid (w1.heap.size=w.heap.size+1):=Lib.hid (by rw [hw1];simp);rw [<- hw1];clear hw1;have hC0:Below w1.heap.size w1 w1.drew:=(Below.refl _ _).drew;have hcrc:Hid (unle ((p.drop 252).take 4)=crcOf (p.take 252)):=Lib.hid HP.out.sum;have hneq:(((crcOf (p.take 252):Nat):Int) != ((crcOf (p.take 252):Nat):Int))=false:=by simp
 have hlt:=crcOf_lt (p.take 252);have hc252:(252:Int)<=(cap:Int):=by omega
 have hw64:IntKind.u64.wrap ((crcOf (p.take 252):Nat):Int)=((crcOf (p.take 252):Nat):Int):=wraps_u64 _ (by omega) (by omega);refine wp_region_quiet_in (Below w1.heap.size w1) (by kernel_rfl) (by kernel_rfl) hC0 ?_;iterate 5 (refine q_op rfl (fun w' hw'=>(by go_simp;rfl)) (fun K hK=>?_);go_simp;refine hK _ ?_;clear hK K)
 refine q_call rfl (fun w' hw'=>(by go_simp)) (fun w' hw'=>((number4_any (.slice a 256 cap) p 252 w' (hr.out _ (hB1.out.trans (hw'.mono hB1.out.size))) (by rw [HP.out.len];omega) (by rw [HP.out.len];omega)).mono (fun e w'' h=>⟨h.1,hw'.trans (h.2.mono hw'.size)⟩))) (fun K hK=>?_);go_simp;refine hK _ ?_;clear hK K;rw [hcrc.out];iterate 2 (refine q_op rfl (fun w' hw'=>(by go_simp;rfl)) (fun K hK=>?_);go_simp;refine hK _ ?_;clear hK K)
 refine q_call rfl (fun w' hw'=>(by go_simp)) (fun w' hw'=>((sum_any (.slice a 252 cap) (p.take 252) w' ((hr.out _ (hB1.out.trans (hw'.mono hB1.out.size))).to (by rw [HP.out.len];omega))).mono (fun e w'' h=>⟨h.1,hw'.trans (h.2.mono hw'.size)⟩))) (fun K hK=>?_);go_simp;refine hK _ ?_;clear hK K;iterate 3 (refine q_op rfl (fun w' hw'=>(by go_simp;rfl)) (fun K hK=>?_);go_simp;refine hK _ ?_;clear hK K)
 refine wpQuiet_nil ?_;intro w2 hw2;clear hC0;have hB2:Hid (Below w.heap.size w w2):=Lib.hid (hB1.out.trans (hw2.mono hB1.out.size));have hh2:Hid (w2.heap[w.heap.size]? = some (.cells #[.int .u64 0, .int .u64 0, .int .u64 0, .int .u64 0] 344 (0,0))):=Lib.hid (by rw [hw2.block _ (by rw [hz1.out];omega)];exact hh1.out);have hz2:Hid (w.heap.size < w2.heap.size):=Lib.hid (by have:=hw2.size;have:=hz1.out;omega);clear hw2 hB1 hh1 hz1;go_wp2_with fail
 refine (number4_any (.slice a 256 cap) p 0 _ (hr.out _ hB2.out) (by rw [HP.out.len];omega) (by rw [HP.out.len];omega)).mono ?_;rintro e w3 ⟨rfl,hb⟩;have hB3:Hid (Below w.heap.size w w3):=Lib.hid (hB2.out.trans (hb.mono hB2.out.size));have hh3:Hid (w3.heap[w.heap.size]? = some (.cells #[.int .u64 0, .int .u64 0, .int .u64 0, .int .u64 0] 344 (0,0))):=Lib.hid (by rw [hb.block _ hz2.out];exact hh2.out);have hz3:Hid (w.heap.size < w3.heap.size):=Lib.hid (Nat.lt_of_lt_of_le hz2.out hb.size);rw [HP.out.tag];clear hb hB2 hh2 hz2;clear hneq hw64 hlt hcrc;go_wp2_with fail
 refine (number4_any (.slice a 256 cap) p 4 _ (hr.out _ hB3.out) (by rw [HP.out.len];omega) (by rw [HP.out.len];omega)).mono ?_;rintro e w4 ⟨rfl,hb⟩;have hB4:Hid (Below w.heap.size w w4):=Lib.hid (hB3.out.trans (hb.mono hB3.out.size));have hh4:Hid (w4.heap[w.heap.size]? = some (.cells #[.int .u64 0, .int .u64 0, .int .u64 0, .int .u64 0] 344 (0,0))):=Lib.hid (by rw [hb.block _ hz3.out];exact hh3.out);have hz4:Hid (w.heap.size < w4.heap.size):=Lib.hid (Nat.lt_of_lt_of_le hz3.out hb.size);rw [HP.out.num];clear hb hB3 hh3 hz3;go_wp2_with fail
 refine (number2_any (.slice a 256 cap) p 8 _ (hr.out _ hB4.out) (by rw [HP.out.len];omega) (by rw [HP.out.len];omega)).mono ?_;rintro e w5 ⟨rfl,hb⟩;have hB5:Hid (Below w.heap.size w w5):=Lib.hid (hB4.out.trans (hb.mono hB4.out.size));have hh5:Hid (w5.heap[w.heap.size]? = some (.cells #[.int .u64 0, .int .u64 0, .int .u64 0, .int .u64 0] 344 (0,0))):=Lib.hid (by rw [hb.block _ hz4.out];exact hh4.out);have hz5:Hid (w.heap.size < w5.heap.size):=Lib.hid (Nat.lt_of_lt_of_le hz4.out hb.size);rw [HP.out.size];clear hb hB4 hh4 hz4;go_wp2_with fail
 refine (number2_any (.slice a 256 cap) p 10 _ (hr.out _ hB5.out) (by rw [HP.out.len];omega) (by rw [HP.out.len];omega)).mono ?_;rintro e w6 ⟨rfl,hb⟩;have hB6:Hid (Below w.heap.size w w6):=Lib.hid (hB5.out.trans (hb.mono hB5.out.size));have hh6:Hid (w6.heap[w.heap.size]? = some (.cells #[.int .u64 0, .int .u64 0, .int .u64 0, .int .u64 0] 344 (0,0))):=Lib.hid (by rw [hb.block _ hz5.out];exact hh5.out);have hz6:Hid (w.heap.size < w6.heap.size):=Lib.hid (Nat.lt_of_lt_of_le hz5.out hb.size);rw [HP.out.none];clear hb hB5 hh5 hz5;have b0:w6.cell? ⟨w.heap.size,0,none⟩=some (.int .u64 0):=by simp [World.cell?,hh6.out]
 have b1:w6.cell? ⟨w.heap.size,1,none⟩=some (.int .u64 0):=by simp [World.cell?,hh6.out]
 have b2:w6.cell? ⟨w.heap.size,2,none⟩=some (.int .u64 0):=by simp [World.cell?,hh6.out]
 have b3:w6.cell? ⟨w.heap.size,3,none⟩=some (.int .u64 0):=by simp [World.cell?,hh6.out]
 have f6:∀ k,w6.frozen? ⟨w.heap.size,k,none⟩=false:=fun k=>by simp [World.frozen?,hh6.out]
 have n1:((tag:Int) != (tag:Int))=false:=by simp
 have hB7:Hid (Below w.heap.size w ((((w6.setCell ⟨w.heap.size,0,none⟩ (.int .u64 tag)).setCell ⟨w.heap.size,1,none⟩ (.int .u64 num)).setCell ⟨w.heap.size,2,none⟩ (.int .u64 bs.length)).setCell ⟨w.heap.size,3,none⟩ (.int .u64 0))):=
  Lib.hid ((((hB6.out.setCell (Nat.le_refl _) _).setCell (Nat.le_refl _) _).setCell (Nat.le_refl _) _).setCell (Nat.le_refl _) _)
 have hR7:=Lib.hid (hr.out _ hB7.out);go_wp2_with fail
 refine (containsZero_any _ (252 - (12+bs.length)) _ ?_).mono ?_
 ·have h1:=hR7.out.sub (i:=12+bs.length) (k:=252 - (12+bs.length)) (by rw [HP.out.len];omega);have h2:=HP.out.zeros;rw [show 240 - bs.length=252 - (12+bs.length) by omega] at h2;rw [h2] at h1;exact h1
 rintro e w' ⟨rfl,rfl⟩;have hc12:(12:Int)+bs.length<=(cap:Int):=by omega
 go_wp2_with fail
 refine (clone_any _ bs _ ?_ (by omega)).mono ?_
 ·have h1:=hR7.out.sub (i:=12) (k:=bs.length) (by rw [HP.out.len];omega);rw [HP.out.body] at h1;exact h1
 rintro e w8 ⟨v8,rfl,ho8,hb8⟩;have hO8:=Lib.hid (ownsRow_base ho8 hB7.out.size);have hB8:=Lib.hid (hB7.out.trans (hb8.mono hB7.out.size));clear ho8 hb8;go_wp2_with fail
 rw [Exit.noGoto_ret];go_ret2
 exact ⟨v8,rfl,hO8.out,hB8.out⟩
end
section
open Go.RowKit Go.Maps Go.MapKept
open Go.ChangeMaps (setBlock heap_setBlock_same heap_setBlock_other)
abbrev Name:=ByteArray
structure DFile where
 now:List UInt8
 lasts:List UInt8
structure Dsk where
 files:List (Name × DFile)
 loose:List ((Name × Nat) × Unit)
 quota:Nat
 armed:Nat
 dead:Bool
namespace Dsk
def tick (d:Dsk):Dsk:=if 0 < d.armed then { d with armed:=d.armed - 1,dead:=d.dead || d.armed - 1 == 0 } else d
def err (d:Dsk):Nat:=if d.dead then 6 else 0
end Dsk
def sect (n:Nat):Nat:=(n+63) / 64
def usedOf (fs:List (Name × DFile)):Nat:=(fs.map (fun p=>sect p.2.now.length)).sum
structure Dsk.Ok (d:Dsk):Prop where
 quota:d.quota<=1048576
 armed:d.armed < 9223372036854775808
 used:usedOf d.files<=1048576
theorem usedOf_perm {a b:List (Name × DFile)} (h:a.Perm b):usedOf a=usedOf b:=(h.map _).sum_nat
theorem usedOf_del_le (fs:List (Name × DFile)) (name:Name):usedOf (mdel fs name)<=usedOf fs:=by
 unfold usedOf mdel;induction fs with
 | nil=>simp
 | cons p fs ih=>
   by_cases h:p.1=name
   ·rw [List.filter_cons_of_neg (by simpa using h)];simp only [List.map_cons,List.sum_cons];omega
   ·rw [List.filter_cons_of_pos (by simpa using h)];simp only [List.map_cons,List.sum_cons];omega
theorem usedOf_put (fs:List (Name × DFile)) (name:Name) (f:DFile):usedOf (mput fs name f)=sect f.now.length+usedOf (mdel fs name):=by
 unfold usedOf mput;simp
theorem usedOf_get {fs:List (Name × DFile)} {name:Name} {f:DFile} (hk:(fs.map (·.1)).Nodup) (h:mget fs name=some f):usedOf fs=sect f.now.length+usedOf (mdel fs name):=by
 rw [<- usedOf_put fs name f];obtain ⟨j,hj⟩:=List.mem_iff_getElem?.1 (mget_mem h);have h1:=set_perm hk hj f;have:fs.set j (name,f)=fs:=by
  obtain ⟨hlt,e⟩:=List.getElem?_eq_some_iff.1 hj;rw [<- e];exact List.set_getElem_self hlt
 rw [this] at h1;exact usedOf_perm h1
def okByte (b:UInt8):Bool:=(decide (97<=b.toNat) && decide (b.toNat<=122)) || (decide (48<=b.toNat) && decide (b.toNat<=57)) || b.toNat == 46 || b.toNat == 45
def okName (s:Name):Bool:=s.data.toList.all okByte && decide (1<=s.size) && decide (s.size<=24)
theorem okName_size {s:Name} (h:okName s=true):s.size<=24:=by
 unfold okName at h;simp at h;exact h.2
def ptrTo (b:Nat):Value:=.pointer (some ⟨b,0,none⟩)
theorem cells_cell {w:World} {b:Nat} {cs:Array Value} {t:TypeId} (h:w.heap[b]? = some (.cells cs t)) (i:Nat):w.cell? ⟨b,i,none⟩=cs[i]? := by
 simp [World.cell?,h]
theorem cells_frozen {w:World} {b:Nat} {cs:Array Value} {t:TypeId} (h:w.heap[b]? = some (.cells cs t)) (i:Nat):w.frozen? ⟨b,i,none⟩=false:=by
 simp [World.frozen?,h]
theorem cells_set {w:World} {b:Nat} {cs:Array Value} {t:TypeId} (h:w.heap[b]? = some (.cells cs t)) (i:Nat) (u:Value):(w.setCell ⟨b,i,none⟩ u).heap[b]? = some (.cells (cs.setIfInBounds i u) t):=by
 simp [World.setCell,Array.getElem?_modify,h]
def ofDisk (c:Nat):Prop:=c < 6
structure FileAt (w:World) (o:Owner) (pf:Nat) (f:DFile):Prop where
 own:o pf=some (3,0)
 rows:∃ t v u,w.heap[pf]? = some (.cells #[v,u] t)/\w.ownsRow 0 5 1 v f.now.length (f.now.map bv)/\(∀ b,v.ownBlock=some b->o b=some (4,pf)) /\
  w.ownsRow 0 5 1 u f.lasts.length (f.lasts.map bv)/\∀ b,u.ownBlock=some b->o b=some (5,pf)
 most:f.now.length<=16777216/\f.lasts.length<=16777216
def DiskHead (w:World) (db mf ml:Nat) (quota armed:Nat) (dead:Bool):Prop:=
 ∃ t,w.heap[db]? = some (.cells #[.map (some mf), .map (some ml), .int .i64 (quota:Int), .int .i64 (armed:Int), .bool dead] t)
abbrev FileMap:=MapAt Tryz.prog 9 Value.string (fun x:Nat × DFile=>ptrTo x.1)
abbrev LooseMap:=MapAt Tryz.prog 116 nameNum (fun _:Unit=>.bool true)
structure DiskIn (w:World) (db:Nat) (o:Owner) (mf ml:Nat) (l:List (Name × (Nat × DFile))) (d:Dsk):Prop where
 odb:o db=some (0,0)
 omf:o mf=some (1,0)
 oml:o ml=some (2,0)
 head:DiskHead w db mf ml d.quota d.armed d.dead
 files:FileMap w mf l
 strip:l.map (fun p=>(p.1,p.2.2))=d.files
 apart:(l.map (·.2.1)).Nodup
 each:∀ p∈l,FileAt w o p.2.1 p.2.2
 loose:LooseMap w ml d.loose
 owned:∀ x t,o x=some t->x < w.heap.size
 ok:d.Ok
def DiskAt (w:World) (db:Nat) (o:Owner) (d:Dsk):Prop:=∃ mf ml l,DiskIn w db o mf ml l d
section
variable {S:Nat->Prop} {w w':World} {o o':Owner} {db mf ml pf:Nat} {l:List (Name × (Nat × DFile))} {d:Dsk} {f:DFile}
theorem Turn.heap (ht:Turn S w w') {b:Nat} {x:Obj} (h:w.heap[b]? = some x) (hs:¬ S b):w'.heap[b]? = some x:=
 (ht.block b (Array.getElem?_eq_some_iff.1 h).1 hs).trans h
theorem FileAt.kept' (h:FileAt w o pf f) (ht:Turn S w w') (hp:¬ S pf) (h4:∀ x,o x=some (4,pf)->¬ S x) (h5:∀ x,o x=some (5,pf)->¬ S x) (ho:∀ x t,o x=some t->o' x=some t):FileAt w' o' pf f:=by
 obtain ⟨h1,⟨t,v,u,h2,h3,k4,h6,h7⟩,h8⟩:=h;exact ⟨ho _ _ h1,⟨t,v,u,ht.heap h2 hp,ht.ownsRow h3 (fun b hb=>h4 b (k4 b hb)),fun b hb=>ho _ _ (k4 b hb),ht.ownsRow h6 (fun b hb=>h5 b (h7 b hb)),fun b hb=>ho _ _ (h7 b hb)⟩,h8⟩
theorem FileAt.kept (h:FileAt w o pf f) (ht:Turn S w w') (hs:∀ x t,o x=some t->3<=t.1->t.1 < 6->¬ S x) (ho:∀ x t,o x=some t->o' x=some t):FileAt w' o' pf f:=
 h.kept' ht (hs _ _ h.own (by decide) (by decide)) (fun x hx=>hs x _ hx (by show 3<=4;decide) (by show 4 < 6;decide)) (fun x hx=>hs x _ hx (by show 3<=5;decide) (by show 5 < 6;decide)) ho
theorem DiskHead.kept {q a:Nat} {b:Bool} (h:DiskHead w db mf ml q a b) (ht:Turn S w w') (hs:¬ S db):DiskHead w' db mf ml q a b:=by
 obtain ⟨t,h⟩:=h;exact ⟨t,ht.heap h hs⟩
theorem DiskHead.cells {q a:Nat} {b:Bool} (h:DiskHead w db mf ml q a b) :
 (w.cell? ⟨db,0,none⟩=some (.map (some mf))/\w.cell? ⟨db,1,none⟩=some (.map (some ml))/\w.cell? ⟨db,2,none⟩=some (.int .i64 (q:Int))/\w.cell? ⟨db,3,none⟩=some (.int .i64 (a:Int))/\w.cell? ⟨db,4,none⟩=some (.bool b)) /\
   w.frozen? ⟨db,2,none⟩=false/\w.frozen? ⟨db,3,none⟩=false/\w.frozen? ⟨db,4,none⟩=false:=by
 obtain ⟨t,h⟩:=h;refine ⟨⟨?_,?_,?_,?_,?_⟩,cells_frozen h _,cells_frozen h _,cells_frozen h _⟩<;>rw [cells_cell h]<;>rfl
theorem DiskHead.set {q a:Nat} {b:Bool} (h:DiskHead w db mf ml q a b) (a':Nat) (b':Bool):DiskHead ((w.setCell ⟨db,3,none⟩ (.int .i64 (a':Int))).setCell ⟨db,4,none⟩ (.bool b')) db mf ml q a' b':=by
 obtain ⟨t,h⟩:=h;exact ⟨t,by rw [cells_set (cells_set h _ _)];rfl⟩
theorem MapAt.turn {κ υ:Type} {P:Program} {kt:TypeId} {ek:κ->Value} {ev:υ->Value} {b:Nat} {m:List (κ × υ)} (h:MapAt P kt ek ev w b m) (ht:Turn S w w') (hs:¬ S b):MapAt P kt ek ev w' b m:=
 h.kept (ht.block b h.lt hs)
theorem DiskIn.kept (h:DiskIn w db o mf ml l d) (ht:Turn S w w') (hs:∀ x t,o x=some t->t.1 < 6->¬ S x) (ho:∀ x t,o x=some t->o' x=some t) (hb:∀ x t,o' x=some t->x < w'.heap.size):DiskIn w' db o' mf ml l d where
 odb:=ho _ _ h.odb
 omf:=ho _ _ h.omf
 oml:=ho _ _ h.oml
 head:=h.head.kept ht (hs _ _ h.odb (by decide))
 files:=h.files.turn ht (hs _ _ h.omf (by decide))
 strip:=h.strip
 apart:=h.apart
 each:=fun p hp=>(h.each p hp).kept ht (fun x t hx _ hl=>hs x t hx hl) ho
 loose:=h.loose.turn ht (hs _ _ h.oml (by decide))
 owned:=hb
 ok:=h.ok
theorem DiskAt.kept (h:DiskAt w db o d) (ht:Turn S w w') (hs:∀ x t,o x=some t->t.1 < 6->¬ S x) (ho:∀ x t,o x=some t->o' x=some t) (hb:∀ x t,o' x=some t->x < w'.heap.size):DiskAt w' db o' d:=by
 obtain ⟨mf,ml,l,h⟩:=h;exact ⟨mf,ml,l,h.kept ht hs ho hb⟩
theorem DiskIn.below (h:DiskIn w db o mf ml l d) (hb:Below w.heap.size w w'):DiskIn w' db o mf ml l d:=
 h.kept (S:=fun _=>False) (Turn.ofBelow hb) (fun _ _ _ _ h=>h) (fun _ _ h=>h) (fun x t hx=>Nat.lt_of_lt_of_le (h.owned x t hx) hb.size)
theorem DiskAt.below (h:DiskAt w db o d) (hb:Below w.heap.size w w'):DiskAt w' db o d:=by
 obtain ⟨mf,ml,l,h⟩:=h;exact ⟨mf,ml,l,h.below hb⟩
theorem DiskIn.reHead (h:DiskIn w db o mf ml l d) (ht:Turn (·=db) w w') {q a:Nat} {b:Bool} (hh:DiskHead w' db mf ml q a b) (hq:q<=1048576) (ha:a < 9223372036854775808):DiskIn w' db o mf ml l { d with quota:=q,armed:=a,dead:=b } where
 odb:=h.odb
 omf:=h.omf
 oml:=h.oml
 head:=hh
 files:=h.files.turn ht (Owner.ne h.omf h.odb (by decide))
 strip:=h.strip
 apart:=h.apart
 each:=fun p hp=>(h.each p hp).kept ht (fun x t hx h3 _=>Owner.ne hx h.odb (fun e=>by rw [e] at h3;exact absurd h3 (by decide))) (fun _ _ h=>h)
 loose:=h.loose.turn ht (Owner.ne h.oml h.odb (by decide))
 owned:=fun x t hx=>Nat.lt_of_lt_of_le (h.owned x t hx) ht.size
 ok:=⟨hq,ha,h.ok.used⟩
theorem DiskIn.reFiles (h:DiskIn w db o mf ml l d) (ht:Turn S w w') (hS:∀ x,S x->x=mf\/∃ t,o x=some t/\3<=t.1) (hk:∀ x t,o x=some t->o' x=some t) {l':List (Name × (Nat × DFile))} (hfiles:FileMap w' mf l')
 (hapart:(l'.map (·.2.1)).Nodup) (heach:∀ p∈l',FileAt w' o' p.2.1 p.2.2) (howned:∀ x t,o' x=some t->x < w'.heap.size) (hused:usedOf (l'.map (fun p=>(p.1,p.2.2)))<=1048576) :
 DiskIn w' db o' mf ml l' { d with files:=l'.map (fun p=>(p.1,p.2.2)) }:=by
 have hn:∀ x t,o x=some t->t.1 < 3->x≠mf->¬ S x:=fun x t hx ht hxm hs=>by
  rcases hS x hs with e | ⟨s,e,h3⟩
  ·exact hxm e
  ·rw [hx] at e;cases e;omega
 exact {
  odb:=hk _ _ h.odb
  omf:=hk _ _ h.omf
  oml:=hk _ _ h.oml
  head:=h.head.kept ht (hn _ _ h.odb (by decide) (Owner.ne h.odb h.omf (by decide)))
  files:=hfiles
  strip:=rfl
  apart:=hapart
  each:=heach
  loose:=h.loose.turn ht (hn _ _ h.oml (by decide) (Owner.ne h.oml h.omf (by decide)))
  owned:=howned
  ok:=⟨h.ok.quota,h.ok.armed,hused⟩ }
end
section
variable {l:List (Name × (Nat × DFile))} {name:Name}
def bare (l:List (Name × (Nat × DFile))):List (Name × DFile):=l.map (fun p=>(p.1,p.2.2))
theorem strip_get:mget (bare l) name=(mget l name).map (·.2):=by
 unfold bare mget;induction l with
 | nil=>rfl
 | cons p l ih=>
   by_cases h:p.1=name
   ·simp [h]
   ·rw [List.map_cons,List.find?_cons_of_neg (by simpa using h),List.find?_cons_of_neg (by simpa using h)];exact ih
theorem strip_del:bare (mdel l name)=mdel (bare l) name:=by
 unfold bare mdel;rw [List.filter_map];rfl
theorem strip_put {x:Nat × DFile}:bare (mput l name x)=mput (bare l) name x.2:=by
 unfold mput;rw [<- strip_del];rfl
theorem pf_del (h:(l.map (·.2.1)).Nodup):((mdel l name).map (·.2.1)).Nodup:=(List.filter_sublist.map _).nodup h
theorem pf_inj (h:(l.map (·.2.1)).Nodup) {p q:Name × (Nat × DFile)} (hp:p∈l) (hq:q∈l) (e:p.2.1=q.2.1):p=q:=by
 induction l with
 | nil=>cases hp
 | cons x l ih=>
   rw [List.map_cons,List.nodup_cons] at h;rcases List.mem_cons.1 hp with rfl | hp
   ·rcases List.mem_cons.1 hq with rfl | hq
    ·rfl
    ·exact absurd (List.mem_map.2 ⟨q,hq,e.symm⟩) h.1
   ·rcases List.mem_cons.1 hq with e2 | hq
    ·rw [<- e2,<- e] at h;exact absurd (List.mem_map.2 ⟨p,hp,rfl⟩) h.1
    ·exact ih h.2 hp hq
theorem pf_put (h:(l.map (·.2.1)).Nodup) {x:Nat × DFile} (hx:mget l name=some x) (f:DFile):((mput l name (x.1,f)).map (·.2.1)).Nodup:=by
 unfold mput;rw [List.map_cons,List.nodup_cons];refine ⟨fun hm=>?_,pf_del h⟩;obtain ⟨q,hq,e⟩:=List.mem_map.1 hm;obtain ⟨hq,hne⟩:=mem_mdel.1 hq;have:=pf_inj h hq (mget_mem hx) e;rw [this] at hne;exact hne rfl
theorem mput_same {κ υ:Type} [DecidableEq κ] {m:List (κ × υ)} (hk:(m.map (·.1)).Nodup) {k:κ} {v:υ} (h:mget m k=some v):(mput m k v).Perm m:=by
 obtain ⟨j,hj⟩:=List.mem_iff_getElem?.1 (mget_mem h);refine (set_perm hk hj v).symm.trans ?_;have:m.set j (k,v)=m:=by
  obtain ⟨hlt,e⟩:=List.getElem?_eq_some_iff.1 hj;rw [<- e];exact List.set_getElem_self hlt
 rw [this]
theorem perm_back {α β:Type} {g:α->β} {L X:List β} (h:L.Perm X):∀ {m:List α},X=m.map g->∃ l:List α,l.Perm m/\L=l.map g:=by
 induction h with
 | nil=>exact fun {m} e=>⟨m, .refl _,e⟩
 | cons x _ ih=>
   intro m e;cases m with
   | nil=>cases e
   | cons p m=>
     rw [List.map_cons,List.cons.injEq] at e;obtain ⟨l,hl,e2⟩:=ih e.2;exact ⟨p::l,hl.cons p,by rw [List.map_cons,e.1,e2]⟩
 | swap x y l=>
   intro m e;match m,e with
   | p::q::m,e=>
     rw [List.map_cons,List.map_cons,List.cons.injEq,List.cons.injEq] at e;exact ⟨q::p::m, .swap _ _ _,by rw [List.map_cons,List.map_cons,e.1,e.2.1,e.2.2]⟩
 | trans _ _ ih1 ih2=>
   intro m e;obtain ⟨l2,h2,e2⟩:=ih2 e;obtain ⟨l1,h1,e1⟩:=ih1 e2;exact ⟨l1,h1.trans h2,e1⟩
theorem MapAt.reval {κ υ:Type} {P:Program} {kt:TypeId} {ek:κ->Value} {ev:υ->Value} {w:World} {b:Nat} {m m':List (κ × υ)} (h:MapAt P kt ek ev w b m) (he:m.map (fun p=>(ek p.1,ev p.2))=m'.map (fun p=>(ek p.1,ev p.2))):MapAt P kt ek ev w b m':=by
 obtain ⟨es,clock,l,hb,hp,h1,h2,h3⟩:=h;have hpp:(l.map (fun p=>(ek p.1,ev p.2))).Perm (m'.map (fun p=>(ek p.1,ev p.2))):=he ▸ hp.map _;rw [<- h2] at hpp;obtain ⟨l',hl',e⟩:∃ l':List (κ × υ),l'.Perm m'/\es.toList.map (fun e=>(e.key,e.val))=l'.map (fun p=>(ek p.1,ev p.2)):=by
  exact perm_back hpp rfl
 refine ⟨es,clock,l',hb,hl',h1,e,fun p hpm=>?_⟩;have hmem:(ek p.1,ev p.2)∈m.map (fun p=>(ek p.1,ev p.2)):=by
  rw [he];exact List.mem_map.2 ⟨p,hl'.mem_iff.1 hpm,rfl⟩
 obtain ⟨q,hq,e1⟩:=List.mem_map.1 hmem;have:=h3 q (hp.mem_iff.2 hq);rw [(Prod.mk.inj e1).1] at this;exact this
end
set_option maxHeartbeats 1000000 in
theorem begin_any {w:World} {db:Nat} {o:Owner} {d:Dsk} (h:DiskAt w db o d) :
 Calls Tryz.prog 138 #[ptrTo db] w fun e w'=>e=.returned (.int .i64 (d.tick.err:Int))/\DiskAt w' db o d.tick/\Turn (o.In ofDisk) w w':=by
 obtain ⟨mf,ml,l,h⟩:=h;obtain ⟨⟨hc0,hc1,hc2,hc3,hc4⟩,hf2,hf3,hf4⟩:=h.head.cells;have HD:=Lib.hid h;have ha:=h.ok.armed;have HA:=Lib.hid ha;clear h ha;unfold ptrTo;by_cases h0:0 < d.armed
 ·have g0:((d.armed:Int) > 0):=by omega
  have e1:wrap64 ((d.armed:Int) - 1)=((d.armed - 1:Nat):Int):=by
   have:=HA.out;unfold wrap64;omega
  have HE:∀ a' b',a' < 9223372036854775808->DiskIn ((w.setCell ⟨db,3,none⟩ (.int .i64 ((a':Nat):Int))).setCell ⟨db,4,none⟩ (.bool b')) db o mf ml l { d with armed:=a',dead:=b' }:=fun a' b' ha'=>
   HD.out.reHead (((Turn.refl (·=db) w).setCell _ _ (.inl rfl)).setCell _ _ (.inl rfl)) (HD.out.head.set a' b') HD.out.ok.quota ha'
  have HT:∀ u v,Turn (o.In ofDisk) w ((w.setCell ⟨db,3,none⟩ u).setCell ⟨db,4,none⟩ v):=fun u v=>
   ((Turn.refl _ _).setCell _ _ (.inl ⟨_,HD.out.odb,by show 0 < 6;decide⟩)).setCell _ _ (.inl ⟨_,HD.out.odb,by show 0 < 6;decide⟩)
  have HE:=Lib.hid HE;have HT:=Lib.hid HT;have et:d.tick={ d with armed:=d.armed - 1,dead:=d.dead || d.armed - 1 == 0 }:=by unfold Dsk.tick;rw [if_pos h0]
  unfold Dsk.err;rw [et];clear et;by_cases h1:d.armed=1
  ·have e3:d.armed - 1=0:=by omega
   rw [h1] at hc3;clear e1 g0;have hx:(d.armed - 1 == 0)=true:=by rw [e3];rfl
   rw [hx,Bool.or_true,e3];clear hx e3 h1 h0;cases hd:d.dead with
   | true=>
     rw [hd] at hc4;go_enter Tryz.func138,Tryz.ntmps138
     go_wp2;go_ret;exact ⟨rfl,⟨mf,ml,l,HE.out 0 true (by omega)⟩,HT.out _ _⟩
   | false=>
     rw [hd] at hc4;go_enter Tryz.func138,Tryz.ntmps138
     go_wp2;go_ret;exact ⟨rfl,⟨mf,ml,l,HE.out 0 true (by omega)⟩,HT.out _ _⟩
  ·have g1:¬ (((d.armed - 1:Nat):Int)=0):=by omega
   have g2:(d.armed - 1 == 0)=false:=by simp;omega
   rw [g2,Bool.or_false];cases hd:d.dead with
   | true=>
     rw [hd] at hc4;go_enter Tryz.func138,Tryz.ntmps138
     go_wp2;go_ret;exact ⟨rfl,⟨mf,ml,l,HE.out _ _ (by have:=HA.out;omega)⟩,HT.out _ _⟩
   | false=>
     rw [hd] at hc4;go_enter Tryz.func138,Tryz.ntmps138
     go_wp2;go_ret;exact ⟨rfl,⟨mf,ml,l,HE.out _ _ (by have:=HA.out;omega)⟩,HT.out _ _⟩
 ·have g0:¬ ((d.armed:Int) > 0):=by omega
  have et:d.tick=d:=by unfold Dsk.tick;rw [if_neg h0]
  rw [et];unfold Dsk.err;cases hd:d.dead with
  | true=>
    rw [hd] at hc4;go_enter Tryz.func138,Tryz.ntmps138
    go_wp2;go_ret;exact ⟨rfl,⟨mf,ml,l,HD.out⟩,Turn.refl _ _⟩
  | false=>
    rw [hd] at hc4;go_enter Tryz.func138,Tryz.ntmps138
    go_wp2;go_ret;exact ⟨rfl,⟨mf,ml,l,HD.out⟩,Turn.refl _ _⟩
end
section
open Go.RowKit Go.Maps Go.MapKept
open Go.ChangeMaps (setBlock heap_setBlock_same heap_setBlock_other)
set_option maxHeartbeats 1000000 in
theorem look_any {w:World} {db:Nat} {o:Owner} {d:Dsk} (h:DiskAt w db o d) :
 Calls Tryz.prog 263 #[ptrTo db] w fun e w'=>e=.returned (.int .i64 (d.err:Int))/\w=w':=by
 obtain ⟨mf,ml,l,h⟩:=h;obtain ⟨⟨hc0,hc1,hc2,hc3,hc4⟩,hf2,hf3,hf4⟩:=h.head.cells;clear h;unfold ptrTo Dsk.err;cases hd:d.dead with
 | true=>
   rw [hd] at hc4;go_enter Tryz.func263,Tryz.ntmps263
   go_wp2;go_ret;exact ⟨rfl,rfl⟩
 | false=>
   rw [hd] at hc4;go_enter Tryz.func263,Tryz.ntmps263
   go_wp2;go_ret;exact ⟨rfl,rfl⟩
theorem sectors_any (n:Nat) (w:World) (h':n<=1099511627776) :
 Calls Tryz.prog 266 #[.int .i64 (n:Int)] w fun e w'=>e=.returned (.int .i64 (((n+63) / 64:Nat):Int))/\w=w':=by
 go_enter Tryz.func266,Tryz.ntmps266
 go_wp2;go_ret;refine ⟨?_,rfl⟩;simp;omega
theorem okName_false {s:Name} {j:Nat} (hj:j < s.data.toList.length) (h:okByte s.data.toList[j]=false):okName s=false:=by
 unfold okName;have:s.data.toList.all okByte=false:=by
  rw [List.all_eq_false];exact ⟨_,List.getElem_mem hj,by rw [h];decide⟩
 rw [this];rfl
def OkTo (s:Name) (j:Nat):Prop:=∀ k (h:k < s.data.toList.length),k < j->okByte s.data.toList[k]=true
theorem OkTo.all {s:Name} (h:OkTo s s.size):s.data.toList.all okByte=true:=by
 rw [List.all_eq_true];intro b hb;obtain ⟨k,hk,rfl⟩:=List.getElem_of_mem hb;exact h k hk (by rw [Array.length_toList] at hk;exact hk)
set_option linter.unusedSimpArgs false in
set_option maxRecDepth 100000 in
set_option maxHeartbeats 4000000 in
theorem right_any (s:Name) (w:World) (hs:s.size<=1000) :
 Calls Tryz.prog 199 #[.string s] w fun e w'=>e=.returned (.bool (okName s))/\Below w.heap.size w w':=by
 have hr:=Lib.hid (Rd_bytesWorld w s hs);have hb:=Lib.hid (Joins.below_bytesWorld w.heap.size w 5 s (Nat.le_refl _));have hcv:=fun W=>Lib.run_convert_string_bytes (P:=Tryz.prog) W 9 39 5 s Tryz.underlying9 Tryz.underlying39 Tryz.underlying5;go_enter Tryz.func199,Tryz.ntmps199
 go_wp2;clear hcv;have hlen:s.data.toList.length=s.size:=by rw [Array.length_toList];rfl
 have hl:=Lib.hid hlen;clear hlen;obtain ⟨a,cap,hv,_,_,hc⟩:=hr.out;simp only [Value.slice.injEq] at hv;obtain ⟨rfl,hv2,_⟩:=hv;have HC:=Lib.hid hc;clear hc hv2 hr;go_loop [8] (fun i=>∃ j:Nat,j<=s.size/\i=.int .i64 j/\OkTo s j) (fun i=>s.size - (intOf i).toNat)
 case atStart=>exact ⟨0,by omega,rfl,fun k _ h=>by omega⟩
 case round=>
  obtain ⟨j,hj,rfl,hok⟩:=hrel;by_cases hlt:j < s.size
  ·have hjl:j < s.data.toList.length:=by rw [hl.out];exact hlt
   rcases HC.out with hc | ⟨b,off,hbo,hc⟩
   ·have:=hl.out;omega
   simp only [Option.some.injEq,Addr.mk.injEq] at hbo;obtain ⟨rfl,rfl,_⟩:=hbo;have hcell:=hc j hjl;rw [Nat.zero_add] at hcell;clear hc;unfold bv at hcell;have hby:=(s.data.toList[j]).toNat_lt;generalize hB:s.data.toList[j]=B at hcell hby
   have HB:=Lib.hid hB;clear hB;generalize hN:B.toNat=N at hcell hby
   have HN:=Lib.hid hN;clear hN;have hbad:Hid (okByte B=false->okName s=false):=Lib.hid (fun h=>okName_false hjl (by rw [HB.out];exact h));have hgood:Hid (okByte B=true->OkTo s (j+1)):=Lib.hid (fun h k hk hkj=>by
    by_cases e:k=j
    ·subst e;rw [HB.out];exact h
    ·exact hok k hk (by omega))
   have hdef:Hid (okByte B=((decide (97<=N) && decide (N<=122)) || (decide (48<=N) && decide (N<=57)) || N == 46 || N == 45)):=Lib.hid (by unfold okByte;rw [HN.out]);clear HB HN;go_wp2;all_goals first
    | (go_ret
       have hz:okName s=false:=hbad.out (by rw [hdef.out];(try simp only [beq_eq_false_iff_ne,beq_iff_eq] at *);simp;omega);rw [hz];exact ⟨rfl,hb.out⟩)
    | (go_round
       case rel=>
        refine ⟨_,_,_,⟨j+1,by omega,?_,hgood.out ?_⟩,rfl,rfl,rfl⟩
        ·go_num
        ·rw [hdef.out];(try simp only [beq_eq_false_iff_ne,beq_iff_eq] at *);simp;omega
       case measure=>simp [intOf];omega)
  ·obtain rfl:j=s.size:=by omega
   have hall:=Lib.hid hok.all;clear hok;by_cases h1:1<=s.size
   ·by_cases h2:s.size<=24
    ·go_wp2;go_ret;refine ⟨?_,hb.out⟩;unfold okName;rw [hall.out];simp [h1,h2];omega
    ·go_wp2;go_ret;refine ⟨?_,hb.out⟩;unfold okName;rw [hall.out];simp [h1,h2];omega
   ·go_wp2;go_ret;refine ⟨?_,hb.out⟩;unfold okName;rw [hall.out];simp [h1]
def findOf (l:List (Name × (Nat × DFile))) (name:Name) (fine:Bool):Value × Nat:=
 if okName name && fine then (match mget l name with | some x=>(ptrTo x.1,0) | none=>(.pointer none,3)) else (.pointer none,1)
set_option maxRecDepth 100000 in
set_option maxHeartbeats 1000000 in
theorem find_any {w:World} {db mf ml:Nat} {o:Owner} {l:List (Name × (Nat × DFile))} {d:Dsk} (h:DiskIn w db o mf ml l d) (name:Name) (fine:Bool) (hs:name.size<=1000) :
 Calls Tryz.prog 139 #[ptrTo db, .string name, .bool fine] w fun e w'=>e=.returned (.tuple #[(findOf l name fine).1, .int .i64 ((findOf l name fine).2:Int)])/\Below w.heap.size w w':=by
 have HD:=Lib.hid h;clear h;unfold ptrTo;cases hok:okName name with
 | false=>
   have e1:findOf l name fine=(.pointer none,1):=by unfold findOf;rw [hok];rfl
   rw [e1];have HOK:=Lib.hid hok;clear hok;go_enter Tryz.func139,Tryz.ntmps139
   go_wp2_with fail
   refine (right_any _ _ hs).mono ?_;rintro e w1 ⟨rfl,hb1⟩;rw [HOK.out];go_wp2;go_returns
   exact ⟨rfl,hb1⟩
 | true=>
   have HOK:=Lib.hid hok;cases fine with
   | false=>
     have e1:findOf l name false=(.pointer none,1):=by unfold findOf;rw [hok];rfl
     rw [e1];clear hok;go_enter Tryz.func139,Tryz.ntmps139
     go_wp2_with fail
     refine (right_any _ _ hs).mono ?_;rintro e w1 ⟨rfl,hb1⟩;rw [HOK.out];go_wp2;go_returns
     exact ⟨rfl,hb1⟩
   | true=>
     have hg:=good_string (s:=name) (by unfold maxLen;omega);have hz:∀ W:World,(zeroValue 109).run Tryz.prog W=.ok (.pointer none) W:=fun W=>by kernel_rfl
     cases hm:mget l name with
     | none=>
       have e1:findOf l name true=(.pointer none,3):=by unfold findOf;rw [hok,hm];rfl
       rw [e1];have HM:=Lib.hid hm;clear hm hok e1;go_enter Tryz.func139,Tryz.ntmps139
       go_wp2_with fail
       refine (right_any _ _ hs).mono ?_;rintro e w1 ⟨rfl,hb1⟩;rw [HOK.out];have HD1:=Lib.hid (HD.out.below hb1);obtain ⟨⟨hc0,hc1,hc2,hc3,hc4⟩,hf2,hf3,hf4⟩:=HD1.out.head.cells;go_wp2_with (at_lookup;refine wpList_look _ rfl _ _ _ _ rfl 109 keyed_string string_inj Tryz.underlying110 (hz _) mf l rfl HD1.out.files name rfl hg ?_;rw [HM.out])
       go_returns
       exact ⟨rfl,hb1⟩
     | some x=>
       have e1:findOf l name true=(ptrTo x.1,0):=by unfold findOf;rw [hok,hm];rfl
       rw [e1];have HM:=Lib.hid hm;clear hm hok e1;go_enter Tryz.func139,Tryz.ntmps139
       go_wp2_with fail
       refine (right_any _ _ hs).mono ?_;rintro e w1 ⟨rfl,hb1⟩;rw [HOK.out];have HD1:=Lib.hid (HD.out.below hb1);obtain ⟨⟨hc0,hc1,hc2,hc3,hc4⟩,hf2,hf3,hf4⟩:=HD1.out.head.cells;go_wp2_with (at_lookup;refine wpList_look _ rfl _ _ _ _ rfl 109 keyed_string string_inj Tryz.underlying110 (hz _) mf l rfl HD1.out.files name rfl hg ?_;rw [HM.out];simp only [Option.map_some,Option.getD_some,ptrTo])
       go_returns
       exact ⟨rfl,hb1⟩
namespace Dsk
def settle (d:Dsk) (name:Name):Dsk:={ d with loose:=d.loose.filter (fun p=>decide (p.1.1≠name)) }
end Dsk
def Settling (L:List ((Name × Nat) × Unit)) (name:Name) (m todo:List ((Name × Nat) × Unit)):Prop:=
 (∀ p,p∈m ↔ p∈L/\(p.1.1≠name\/p∈todo))/\∀ p∈todo,p∈L
theorem Settling.struck {L m todo rs:List ((Name × Nat) × Unit)} {name:Name} {p:(Name × Nat) × Unit} (h:Settling L name m todo) (hp:todo.Perm (p::rs)) (hn:∀ q∈rs,q.1≠p.1) (hpn:p.1.1=name):Settling L name (mdel m p.1) rs:=by
 refine ⟨fun q=>?_,fun q hq=>h.2 q (hp.mem_iff.2 (by simp [hq]))⟩;rw [mem_mdel,h.1 q,hp.mem_iff,List.mem_cons];constructor
 ·rintro ⟨⟨h1,h2⟩,h3⟩;refine ⟨h1,?_⟩;rcases h2 with h2 | rfl | h2
  ·exact .inl h2
  ·exact absurd rfl h3
  ·exact .inr h2
 ·rintro ⟨h1,h2⟩;rcases h2 with h2 | h2
  ·exact ⟨⟨h1, .inl h2⟩,fun e=>h2 (by rw [e];exact hpn)⟩
  ·exact ⟨⟨h1, .inr (.inr h2)⟩,hn q h2⟩
theorem Settling.passed {L m todo rs:List ((Name × Nat) × Unit)} {name:Name} {p:(Name × Nat) × Unit} (h:Settling L name m todo) (hp:todo.Perm (p::rs)) (hpn:p.1.1≠name):Settling L name m rs:=by
 refine ⟨fun q=>?_,fun q hq=>h.2 q (hp.mem_iff.2 (by simp [hq]))⟩;rw [h.1 q,hp.mem_iff,List.mem_cons];constructor
 ·rintro ⟨h1,h2⟩;refine ⟨h1,?_⟩;rcases h2 with h2 | rfl | h2
  ·exact .inl h2
  ·exact .inl hpn
  ·exact .inr h2
 ·rintro ⟨h1,h2⟩;rcases h2 with h2 | h2
  ·exact ⟨h1, .inl h2⟩
  ·exact ⟨h1, .inr (.inr h2)⟩
theorem Settling.done {L m:List ((Name × Nat) × Unit)} {name:Name} (h:Settling L name m []) (hm:(m.map (·.1)).Nodup) (hl:(L.map (·.1)).Nodup):m.Perm (L.filter (fun p=>decide (p.1.1≠name))):=by
 have n1:m.Nodup:=List.Pairwise.of_map _ (fun _ _ h e=>h (by rw [e])) hm;have n2:L.Nodup:=List.Pairwise.of_map _ (fun _ _ h e=>h (by rw [e])) hl;refine (List.perm_ext_iff_of_nodup n1 (n2.filter _)).2 fun q=>?_;rw [h.1 q,List.mem_filter];simp
theorem DiskIn.reLoose {w w':World} {db mf ml:Nat} {o:Owner} {l:List (Name × (Nat × DFile))} {d:Dsk} (h:DiskIn w db o mf ml l d) (ht:Turn (·=ml) w w') {s:List ((Name × Nat) × Unit)} (hl:LooseMap w' ml s):DiskIn w' db o mf ml l { d with loose:=s } where
 odb:=h.odb
 omf:=h.omf
 oml:=h.oml
 head:=h.head.kept ht (Owner.ne h.odb h.oml (by decide))
 files:=h.files.turn ht (Owner.ne h.omf h.oml (by decide))
 strip:=h.strip
 apart:=h.apart
 each:=fun p hp=>(h.each p hp).kept ht (fun x t hx h3 _=>Owner.ne hx h.oml (fun e=>by rw [e] at h3;exact absurd h3 (by decide))) (fun _ _ h=>h)
 loose:=hl
 owned:=fun x t hx=>Nat.lt_of_lt_of_le (h.owned x t hx) ht.size
 ok:=⟨h.ok.quota,h.ok.armed,h.ok.used⟩
set_option maxRecDepth 100000 in
set_option maxHeartbeats 2000000 in
theorem settle_all {w:World} {db mf ml:Nat} {o:Owner} {l:List (Name × (Nat × DFile))} {d:Dsk} (h:DiskIn w db o mf ml l d) (name:Name) :
 Calls Tryz.prog 140 #[ptrTo db, .string name, .func (.func 141) #[] #[]] w fun e w'=>e=.returned (.tuple #[])/\DiskIn w' db o mf ml l (d.settle name)/\Turn (·=ml) w w':=by
 have HD:=Lib.hid h;obtain ⟨⟨hc0,hc1,hc2,hc3,hc4⟩,hf2,hf3,hf4⟩:=h.head.cells;clear h hc0 hc2 hc3 hc4 hf2 hf3 hf4;unfold ptrTo;go_enter Tryz.func140,Tryz.ntmps140
 go_wp2_with (at_range;refine wpList_rng _ rfl _ _ rfl 4 Tryz.underlying111 ml d.loose rfl HD.out.loose ?_;intro ob hi0)
 go_frame
 go_loopw [] (fun wr=>∃ m todo,IterAt Tryz.prog 116 nameNum (fun _:Unit=>.bool true) wr ml w.heap.size m todo/\Turn (·=ml) w wr/\Settling d.loose name m todo) (fun wr=>wr.rangeLeft ml w.heap.size)
 case atStart=>exact ⟨_,_,hi0,(Turn.refl _ _).alloc _,fun p=>⟨fun hp=>⟨hp, .inr hp⟩,fun hp=>hp.1⟩,fun p hp=>hp⟩
 case round=>
  obtain ⟨m,todo,hi,ht,hs⟩:=hrel;go_wp2_with (at_next;refine wpList_nxt _ rfl _ rfl ml w.heap.size m todo rfl hi ?_ ?_)
  ·rintro rfl;go_wp2;go_end0
   refine ⟨rfl,HD.out.reLoose ht (hi.map.perm (hs.done hi.map.keys HD.out.loose.keys)),ht⟩
  ·intro nm n u rs w1 ob1 hp hal hi1 hen;have ht1:Turn (·=ml) w (setBlock w1 w.heap.size ob1):=by
    rcases hal with rfl | rfl
    ·exact ht.setBlock _ _ (.inr (Nat.le_refl _))
    ·exact ht.drew.setBlock _ _ (.inr (Nat.le_refl _))
   have hc1':(setBlock w1 w.heap.size ob1).cell? ⟨db,1,none⟩=some (.map (some ml)):=ht1.cell hc1 (Owner.ne HD.out.odb HD.out.oml (by decide));have hpt:((nm,n),u)∈todo:=hp.mem_iff.2 (by simp);have hpm:((nm,n),u)∈m:=(hs.1 _).2 ⟨hs.2 _ hpt, .inr hpt⟩;have hgood:Hid (Good Tryz.prog 116 (nameNum (nm,n))):=Lib.hid (hi.map.good _ hpm);have hnd:Hid (∀ p∈rs,p.1≠(nm,n)):=Lib.hid (by
    have h1:=(hp.map (·.1)).nodup_iff.1 hi.keys;rw [List.map_cons,List.nodup_cons] at h1;exact fun p hp e=>h1.1 (List.mem_map.2 ⟨p,hp,e⟩))
   clear hpt hpm;have HP:=Lib.hid hp;have HI:=Lib.hid hi;have HS:=Lib.hid hs;have HT:=Lib.hid ht1;have HL:=Lib.hid hal;clear hp hi hs ht1 hal ht;unfold nameNum at hen;generalize hW:setBlock w1 w.heap.size ob1=W at hen hc1' HT hi1;clear hW hi0 HL ob1 w1;go_wp2
   ·rename_i heq
    obtain rfl:nm=name:=WideShapes.bytes_inj (by rw [<- ByteArray.toList_eq,<- ByteArray.toList_eq];exact heq);clear heq;have ht2:Turn (·=ml) w (W.alloc (.cells #[.string nm, .int .i64 n] 116)):=HT.out.alloc _;have hlt:∀ {b},b < W.heap.size->(W.alloc (.cells #[.string nm, .int .i64 n] 116)).heap[b]? = W.heap[b]? := fun h=>(MapKept.heap_alloc W _).2 _ h;have hi2:=hi1.kept (hlt hi1.map.lt) (hlt hi1.lt);have k0:(W.alloc (.cells #[.string nm, .int .i64 n] 116)).cell? ⟨W.heap.size,0,none⟩=some (.string nm):=by rw [cells_cell (heap_alloc_new _ _)];rfl
    have k1:(W.alloc (.cells #[.string nm, .int .i64 n] 116)).cell? ⟨W.heap.size,1,none⟩=some (.int .i64 n):=by rw [cells_cell (heap_alloc_new _ _)];rfl
    have k2:(W.alloc (.cells #[.string nm, .int .i64 n] 116)).cell? ⟨db,1,none⟩=some (.map (some ml)):=ht2.cell hc1 (Owner.ne HD.out.odb HD.out.oml (by decide));have hlt2:=HI.out.left;clear hi1 hlt;generalize hW2:W.alloc (.cells #[.string nm, .int .i64 n] 116)=W2 at ht2 hi2 k0 k1 k2 ⊢;generalize hX:W.heap.size=X at k0 k1 ⊢;clear hW2 hX hen hc1' HT;refine wp_region_quiet_tail (fun w'=>∃ n,w'=W2.drewN n) 5 (by kernel_rfl) (by kernel_rfl) ⟨1,rfl⟩ ?_;simp only [List.take_succ_cons,List.take_zero,List.drop_succ_cons,List.drop_zero];repeat go_big_quiet_step (fail)
    refine wpQuiet_nil ?_;rintro _ ⟨nq,rfl⟩;have hi3:IterAt Tryz.prog 116 nameNum (fun _:Unit=>.bool true) (W2.drewN nq) ml w.heap.size m rs:=hi2.kept rfl rfl;clear hi2 k0 k1 k2;go_wp2_with (at_delete;refine wpList_delIter _ rfl _ _ 111 rfl 4 keyed_dkey nameNum_inj Tryz.underlying111 ml w.heap.size m rs rfl hi3 (nm,n) rfl hgood.out hnd.out ?_;intro es clock hi4;go_frame)
    go_roundw
    case rel=>exact ⟨_,_,hi4,(ht2.drewN nq).setBlock _ _ (.inl rfl),HS.out.struck HP.out hnd.out rfl⟩
    case measure=>
     have e1:=hi4.left;have e2:=HP.out.length_eq;rw [List.length_cons] at e2;rw [e1,hlt2];omega
   ·rename_i hne
    have hlt:∀ {b},b < W.heap.size->(W.alloc (.cells #[.string nm, .int .i64 n] 116)).heap[b]? = W.heap[b]? := fun h=>(MapKept.heap_alloc W _).2 _ h;have hi2:=hi1.kept (hlt hi1.map.lt) (hlt hi1.lt);go_roundw
    case rel=>exact ⟨_,_,hi2,HT.out.alloc _,HS.out.passed HP.out (fun e=>hne (congrArg ByteArray.toList e))⟩
    case measure=>
     have e1:=hi2.left;have e2:=HP.out.length_eq;rw [List.length_cons] at e2;rw [e1,HI.out.left];omega
def DiskPost (w:World) (db:Nat) (o:Owner) (d':Dsk) (w':World):Prop:=
 ∃ o',DiskAt w' db o' d'/\Turn (o.In ofDisk) w w'/\OGrow w.heap.size o o'
theorem DiskPost.of {w w':World} {db:Nat} {o:Owner} {d':Dsk} (h:DiskAt w' db o d') (ht:Turn (o.In ofDisk) w w'):DiskPost w db o d' w':=⟨o,h,ht,OGrow.refl _ _⟩
theorem find_cases {w:World} {db mf ml:Nat} {o:Owner} {l:List (Name × (Nat × DFile))} {d:Dsk} (h:DiskIn w db o mf ml l d) (name:Name) (fine:Bool) :
 ((okName name && fine)=false/\findOf l name fine=(.pointer none,1)) \/
 ((okName name && fine)=true/\mget d.files name=none/\mget l name=none/\findOf l name fine=(.pointer none,3)) \/
 ∃ pf f,(okName name && fine)=true/\mget d.files name=some f/\mget l name=some (pf,f)/\findOf l name fine=(.pointer (some ⟨pf,0,none⟩),0):=by
 have hg:mget d.files name=(mget l name).map (·.2):=by rw [<- h.strip];exact strip_get
 unfold findOf;cases hok:(okName name && fine) with
 | false=>exact .inl ⟨rfl,rfl⟩
 | true=>
   cases hm:mget l name with
   | none=>exact .inr (.inl ⟨rfl,by rw [hg,hm];rfl,rfl,rfl⟩)
   | some x=>exact .inr (.inr ⟨x.1,x.2,rfl,by rw [hg,hm];rfl,rfl,rfl⟩)
theorem DiskIn.get {w:World} {db mf ml:Nat} {o:Owner} {l:List (Name × (Nat × DFile))} {d:Dsk} (h:DiskIn w db o mf ml l d) {name:Name} {pf:Nat} {f:DFile} (hg:mget l name=some (pf,f)):mget d.files name=some f:=by
 have e:mget (bare l) name=(mget l name).map (·.2):=strip_get;rw [<- h.strip,show l.map (fun p=>(p.1,p.2.2))=bare l from rfl,e,hg];rfl
theorem DiskIn.fileKeys {w:World} {db mf ml:Nat} {o:Owner} {l:List (Name × (Nat × DFile))} {d:Dsk} (h:DiskIn w db o mf ml l d):(d.files.map (·.1)).Nodup:=by
 rw [<- h.strip,List.map_map];exact h.files.keys
theorem DiskIn.in_ml {w:World} {db mf ml:Nat} {o:Owner} {l:List (Name × (Nat × DFile))} {d:Dsk} (h:DiskIn w db o mf ml l d):o.In ofDisk ml:=⟨_,h.oml,by show 2 < 6;decide⟩
namespace Dsk
def create (d:Dsk) (name:Name):Dsk × Nat:=
 if d.tick.dead then (d.tick,6) else if okName name=false then (d.tick,1) else if (mget d.files name).isSome then (d.tick,4) else ({ d.tick with files:=mput d.files name ⟨[],[]⟩ },0)
theorem tick_files (d:Dsk):d.tick.files=d.files:=by unfold tick;split<;>rfl
theorem tick_loose (d:Dsk):d.tick.loose=d.loose:=by unfold tick;split<;>rfl
theorem tick_quota (d:Dsk):d.tick.quota=d.quota:=by unfold tick;split<;>rfl
end Dsk
theorem DiskIn.newFile {w w1:World} {db mf ml:Nat} {o:Owner} {l:List (Name × (Nat × DFile))} {d:Dsk} (h:DiskIn w db o mf ml l d) (name:Name) {t:TypeId} {ob:Obj}
 (hw:w1=setBlock (w.alloc (.cells #[.slice none 0 0, .slice none 0 0] t)) mf ob) (hf:FileMap w1 mf (mput l name (w.heap.size,⟨[],[]⟩))) :
 DiskIn w1 db (o.set w.heap.size (3,0)) mf ml (mput l name (w.heap.size,⟨[],[]⟩)) { d with files:=mput d.files name ⟨[],[]⟩ }:=by
 have ht:Turn (·=mf) w w1:=by
  rw [hw];exact ((Turn.refl (·=mf) w).alloc _).setBlock _ _ (.inl rfl)
 have hmf:mf < w.heap.size:=h.files.lt;have hN:∀ x,o x=none\/x < w.heap.size:=fun x=>by
  cases hx:o x with
  | none=>exact .inl rfl
  | some t=>exact .inr (h.owned x t hx)
 have ho:∀ x t,o x=some t->(o.set w.heap.size (3,0)) x=some t:=fun x t hx=>by
  rw [Owner.set_other _ _ (by have:=h.owned x t hx;omega)];exact hx
 have hsz:w.heap.size < w1.heap.size:=by
  rw [hw];simp [setBlock]
 have e1:mput d.files name ⟨[],[]⟩=(mput l name (w.heap.size,⟨[],[]⟩)).map (fun p=>(p.1,p.2.2)):=by
  rw [<- h.strip];exact (strip_put (x:=(w.heap.size,(⟨[],[]⟩:DFile)))).symm
 rw [e1];refine h.reFiles ht (fun x hx=>.inl hx) ho hf ?_ ?_ ?_ (by rw [<- e1,usedOf_put];have:=usedOf_del_le d.files name;have:=h.ok.used;simp [sect];omega)
 ·unfold mput;rw [List.map_cons,List.nodup_cons];refine ⟨fun hm=>?_,pf_del h.apart⟩;obtain ⟨q,hq,e⟩:=List.mem_map.1 hm;have:=h.owned _ _ (h.each q (mem_mdel.1 hq).1).own;dsimp only at e;omega
 ·intro p hp;rcases List.mem_cons.1 hp with rfl | hp
  ·refine ⟨by simp,⟨t, .slice none 0 0, .slice none 0 0,?_,ownsRow_nil _ _ _,fun b hb=>by simp [Value.ownBlock] at hb,ownsRow_nil _ _ _,fun b hb=>by simp [Value.ownBlock] at hb⟩,by simp⟩;show w1.heap[w.heap.size]? = _;rw [hw,heap_setBlock_none _ (by omega)];exact heap_alloc_new _ _
  ·have hp':=(mem_mdel.1 hp).1;exact (h.each p hp').kept ht (fun x t hx h3 _=>Owner.ne hx h.omf (fun e=>by rw [e] at h3;exact absurd h3 (by decide))) ho
 ·intro x t hx;by_cases e:x=w.heap.size
  ·rw [e];exact hsz
  ·rw [Owner.set_other _ _ e] at hx;have:=h.owned x t hx;omega
set_option maxRecDepth 100000 in
set_option maxHeartbeats 2000000 in
theorem create_any {w:World} {db:Nat} {o:Owner} {d:Dsk} (h:DiskAt w db o d) (name:Name) (hs:name.size<=1000) :
 Calls Tryz.prog 153 #[ptrTo db, .string name] w fun e w'=>e=.returned (.int .i64 ((d.create name).2:Int))/\DiskPost w db o (d.create name).1 w':=by
 have H:=Lib.hid h;clear h;unfold ptrTo;cases hd:d.tick.dead with
 | true=>
   have e1:d.create name=(d.tick,6):=by unfold Dsk.create;rw [hd];rfl
   have e2:d.tick.err=6:=by unfold Dsk.err;rw [hd];rfl
   have E2:=Lib.hid e2;rw [e1];clear hd e1 e2;go_enter Tryz.func153,Tryz.ntmps153
   go_wp2_with fail
   refine (begin_any H.out).mono ?_;rintro e w1 ⟨rfl,hd1,ht1⟩;rw [E2.out];go_wp2;go_ret;exact ⟨rfl, .of hd1 ht1⟩
 | false=>
   have e2:d.tick.err=0:=by unfold Dsk.err;rw [hd];rfl
   have E2:=Lib.hid e2;have HDD:=Lib.hid hd;clear hd e2;go_enter Tryz.func153,Tryz.ntmps153
   go_wp2_with fail
   refine (begin_any H.out).mono ?_;rintro e w1 ⟨rfl,⟨mf,ml,l,hd1⟩,ht1⟩;rw [E2.out];have HD1:=Lib.hid hd1;have HT1:=Lib.hid ht1;have hfc:=find_cases hd1 name true;rw [Dsk.tick_files] at hfc;clear hd1 ht1;go_wp2_with fail
   refine (find_any HD1.out name true hs).mono ?_;rintro e w2 ⟨rfl,hb2⟩;have HD2:=Lib.hid (HD1.out.below hb2);have HT2:=Lib.hid (HT1.out.thenBelow hb2);clear hb2;rcases hfc with ⟨q1,q2⟩ | ⟨q1,q2,q3,q4⟩ | ⟨pf,f,q1,q2,q3,q4⟩
   ·have e1:d.create name=(d.tick,1):=by
     unfold Dsk.create;rw [HDD.out];rw [Bool.and_true] at q1;rw [q1];rfl
    rw [q2];have E1:=Lib.hid e1;clear e1 q2 q1;go_wp2;go_ret;rw [E1.out];exact ⟨rfl, .of ⟨_,_,_,HD2.out⟩ HT2.out⟩
   ·have e1:d.create name=({ d.tick with files:=mput d.files name ⟨[],[]⟩ },0):=by
     unfold Dsk.create;rw [HDD.out];rw [Bool.and_true] at q1;rw [q1,q2];rfl
    rw [q4];have E1:=Lib.hid e1;have hg:=good_string (s:=name) (by unfold maxLen;omega);clear e1 q4 q3 q2 q1;obtain ⟨⟨hc0,hc1,hc2,hc3,hc4⟩,hf2,hf3,hf4⟩:=HD2.out.head.cells;clear hc1 hc2 hc3 hc4 hf2 hf3 hf4;have hfm:Hid (FileMap (w2.alloc (.cells #[.slice none 0 0, .slice none 0 0] 108)) mf l):=Lib.hid (HD2.out.files.kept ((MapKept.heap_alloc _ _).2 _ HD2.out.files.lt));go_wp2_with (at_mapUpdate;refine wpList_put _ rfl _ _ _ _ rfl 109 keyed_string string_inj Tryz.underlying110 mf l rfl hfm.out name (w2.heap.size,⟨[],[]⟩) rfl rfl hg ?_;intro es clock hm;have HM:=Lib.hid hm;clear hm)
    go_ret;rw [E1.out];have hN:=HD2.out.newFile name rfl HM.out;rw [Dsk.tick_files] at hN;exact ⟨rfl,_,⟨_,_,_,hN⟩,(HT2.out.alloc _).setBlock _ _ (.inl ⟨_,HD2.out.omf,by show 1 < 6;decide⟩),(OGrow.refl _ _).set HT2.out.size _⟩
   ·have e1:d.create name=(d.tick,4):=by
     unfold Dsk.create;rw [HDD.out];rw [Bool.and_true] at q1;rw [q1,q2];rfl
    rw [q4];have E1:=Lib.hid e1;clear e1 q4 q3 q2 q1;go_wp2;go_ret;rw [E1.out];exact ⟨rfl, .of ⟨_,_,_,HD2.out⟩ HT2.out⟩
namespace Dsk
def remove (d:Dsk) (name:Name):Dsk × Nat:=
 if d.tick.dead then (d.tick,6) else if okName name=false then (d.tick,1) else match mget d.files name with
  | none=>(d.tick,3)
  | some _=>({ d.tick with files:=mdel d.files name,loose:=d.loose.filter (fun p=>decide (p.1.1≠name)) },0)
def sync (d:Dsk) (name:Name):Dsk × Nat:=
 if d.tick.dead then (d.tick,6) else if okName name=false then (d.tick,1) else match mget d.files name with
  | none=>(d.tick,3)
  | some f=>({ d.tick with files:=mput d.files name ⟨f.now,f.now⟩,loose:=d.loose.filter (fun p=>decide (p.1.1≠name)) },0)
end Dsk
theorem DiskIn.dropFile {w w1:World} {db mf ml:Nat} {o:Owner} {l:List (Name × (Nat × DFile))} {d:Dsk} (h:DiskIn w db o mf ml l d) (name:Name) {ob:Obj}
 (hw:w1=setBlock w mf ob) (hf:FileMap w1 mf (mdel l name)):DiskIn w1 db o mf ml (mdel l name) { d with files:=mdel d.files name }:=by
 have ht:Turn (·=mf) w w1:=by
  rw [hw];exact (Turn.refl (·=mf) w).setBlock _ _ (.inl rfl)
 have e1:mdel d.files name=(mdel l name).map (fun p=>(p.1,p.2.2)):=by
  rw [<- h.strip];exact strip_del.symm
 rw [e1];refine h.reFiles ht (fun x hx=>.inl hx) (fun _ _ h=>h) hf (pf_del h.apart) ?_ (fun x t hx=>Nat.lt_of_lt_of_le (h.owned x t hx) ht.size) (by rw [<- e1];exact Nat.le_trans (usedOf_del_le _ _) h.ok.used);intro p hp;exact (h.each p (mem_mdel.1 hp).1).kept ht (fun x t hx h3 _=>Owner.ne hx h.omf (fun e=>by rw [e] at h3;exact absurd h3 (by decide))) (fun _ _ h=>h)
set_option maxRecDepth 100000 in
set_option maxHeartbeats 2000000 in
theorem remove_any {w:World} {db:Nat} {o:Owner} {d:Dsk} (h:DiskAt w db o d) (name:Name) (hs:name.size<=1000) :
 Calls Tryz.prog 96 #[ptrTo db, .string name] w fun e w'=>e=.returned (.int .i64 ((d.remove name).2:Int))/\DiskPost w db o (d.remove name).1 w':=by
 have H:=Lib.hid h;clear h;unfold ptrTo;cases hd:d.tick.dead with
 | true=>
   have e1:d.remove name=(d.tick,6):=by unfold Dsk.remove;rw [hd];rfl
   have e2:d.tick.err=6:=by unfold Dsk.err;rw [hd];rfl
   have E2:=Lib.hid e2;rw [e1];clear hd e1 e2;go_enter Tryz.func96,Tryz.ntmps96
   go_wp2_with fail
   refine (begin_any H.out).mono ?_;rintro e w1 ⟨rfl,hd1,ht1⟩;rw [E2.out];go_wp2;go_ret;exact ⟨rfl, .of hd1 ht1⟩
 | false=>
   have e2:d.tick.err=0:=by unfold Dsk.err;rw [hd];rfl
   have E2:=Lib.hid e2;have HDD:=Lib.hid hd;clear hd e2;go_enter Tryz.func96,Tryz.ntmps96
   go_wp2_with fail
   refine (begin_any H.out).mono ?_;rintro e w1 ⟨rfl,⟨mf,ml,l,hd1⟩,ht1⟩;rw [E2.out];have HD1:=Lib.hid hd1;have HT1:=Lib.hid ht1;have hfc:=find_cases hd1 name true;rw [Dsk.tick_files] at hfc;clear hd1 ht1;go_wp2_with fail
   refine (find_any HD1.out name true hs).mono ?_;rintro e w2 ⟨rfl,hb2⟩;have HD2:=Lib.hid (HD1.out.below hb2);have HT2:=Lib.hid (HT1.out.thenBelow hb2);clear hb2;rcases hfc with ⟨q1,q2⟩ | ⟨q1,q2,q3,q4⟩ | ⟨pf,f,q1,q2,q3,q4⟩
   ·have e1:d.remove name=(d.tick,1):=by
     unfold Dsk.remove;rw [HDD.out];rw [Bool.and_true] at q1;rw [q1];rfl
    rw [q2];have E1:=Lib.hid e1;clear e1 q2 q1;go_wp2;go_ret;rw [E1.out];exact ⟨rfl, .of ⟨_,_,_,HD2.out⟩ HT2.out⟩
   ·have e1:d.remove name=(d.tick,3):=by
     unfold Dsk.remove;rw [HDD.out];rw [Bool.and_true] at q1;rw [q1,q2];rfl
    rw [q4];have E1:=Lib.hid e1;clear e1 q4 q3 q2 q1;go_wp2;go_ret;rw [E1.out];exact ⟨rfl, .of ⟨_,_,_,HD2.out⟩ HT2.out⟩
   ·have e1:d.remove name=({ d.tick with files:=mdel d.files name,loose:=d.loose.filter (fun p=>decide (p.1.1≠name)) },0):=by
     unfold Dsk.remove;rw [HDD.out];rw [Bool.and_true] at q1;rw [q1,q2];rfl
    rw [q4];have E1:=Lib.hid e1;have hg:=good_string (s:=name) (by unfold maxLen;omega);clear e1 q4 q3 q2 q1;obtain ⟨⟨hc0,hc1,hc2,hc3,hc4⟩,hf2,hf3,hf4⟩:=HD2.out.head.cells;clear hc1 hc2 hc3 hc4 hf2 hf3 hf4;go_wp2_with (at_delete;refine wpList_del _ rfl _ _ _ rfl 109 keyed_string string_inj Tryz.underlying110 mf l rfl HD2.out.files name rfl hg ?_;intro es clock hm;have HM:=Lib.hid hm;clear hm)
    have HD3:=Lib.hid (HD2.out.dropFile name rfl HM.out);have HT3:=Lib.hid (HT2.out.setBlock mf (.map es clock) (.inl ⟨_,HD2.out.omf,by show 1 < 6;decide⟩));clear HM hc0;refine (settle_all HD3.out name).mono ?_;rintro e w4 ⟨rfl,hd4,ht4⟩;have HD4:=Lib.hid hd4;have HT4:=Lib.hid (HT3.out.trans ht4 (fun x _ e=>e ▸ HD3.out.in_ml));clear hd4 ht4;go_wp2;go_ret;rw [E1.out];have hN:=HD4.out;unfold Dsk.settle at hN;dsimp only at hN;rw [Dsk.tick_files,Dsk.tick_loose] at hN;exact ⟨rfl, .of ⟨_,_,_,hN⟩ HT4.out⟩
def OfFile (o:Owner) (pf x:Nat):Prop:=x=pf\/o x=some (4,pf)\/o x=some (5,pf)
theorem OfFile.in {o:Owner} {pf x:Nat} (h:OfFile o pf x) (hp:o pf=some (3,0)):o.In ofDisk x:=by
 rcases h with rfl | h | h
 ·exact ⟨_,hp,by show 3 < 6;decide⟩
 ·exact ⟨_,h,by show 4 < 6;decide⟩
 ·exact ⟨_,h,by show 5 < 6;decide⟩
theorem DiskIn.reFile {w w':World} {db mf ml:Nat} {o o':Owner} {l:List (Name × (Nat × DFile))} {d:Dsk} (h:DiskIn w db o mf ml l d) {name:Name} {pf:Nat} {f f':DFile} (hg:mget l name=some (pf,f))
 (ht:Turn (OfFile o pf) w w') (ho:∀ x t,o x=some t->o' x=some t) (hf:FileAt w' o' pf f') (howned:∀ x t,o' x=some t->x < w'.heap.size) (hused:usedOf (mput d.files name f')<=1048576) :
 DiskIn w' db o' mf ml (mput l name (pf,f')) { d with files:=mput d.files name f' }:=by
 have hown:=(h.each _ (mget_mem hg)).own;have e1:mput d.files name f'=(mput l name (pf,f')).map (fun p=>(p.1,p.2.2)):=by
  rw [<- h.strip];exact (strip_put (x:=(pf,f'))).symm
 rw [e1];have hmf:¬ OfFile o pf mf:=by
  rintro (e | e | e)
  ·exact Owner.ne h.omf hown (by decide) e
  ·rw [h.omf] at e;cases e
  ·rw [h.omf] at e;cases e
 refine h.reFiles ht (fun x hx=>.inr ?_) ho ?_ (pf_put h.apart hg f') ?_ howned (by rw [<- e1];exact hused)
 ·rcases hx with rfl | hx | hx
  ·exact ⟨_,hown,by decide⟩
  ·exact ⟨_,hx,by show 3<=4;decide⟩
  ·exact ⟨_,hx,by show 3<=5;decide⟩
 ·have h1:FileMap w mf (mput l name (pf,f)):=h.files.perm (mput_same h.files.keys hg).symm;exact (h1.reval (m':=mput l name (pf,f')) rfl).turn ht hmf
 ·intro p hp;rcases List.mem_cons.1 hp with rfl | hp
  ·exact hf
  ·obtain ⟨hp',hne⟩:=mem_mdel.1 hp;have hpf:p.2.1≠pf:=fun e=>hne (by rw [pf_inj h.apart hp' (mget_mem hg) e]);have hpo:=(h.each p hp').own;refine (h.each p hp').kept' ht ?_ ?_ ?_ ho
   ·rintro (e | e | e)
    ·exact hpf e
    ·rw [hpo] at e;cases e
    ·rw [hpo] at e;cases e
   ·rintro x hx (e | e | e)
    ·rw [e,hown] at hx;cases hx
    ·rw [hx] at e;cases e;exact hpf rfl
    ·rw [hx] at e;cases e
   ·rintro x hx (e | e | e)
    ·rw [e,hown] at hx;cases hx
    ·rw [hx] at e;cases e
    ·rw [hx] at e;cases e;exact hpf rfl
theorem FileAt.cells {w:World} {o:Owner} {pf:Nat} {f:DFile} (h:FileAt w o pf f):∃ v u,(w.cell? ⟨pf,0,none⟩=some v/\w.cell? ⟨pf,1,none⟩=some u)/\(w.frozen? ⟨pf,0,none⟩=false/\w.frozen? ⟨pf,1,none⟩=false) /\
 w.ownsRow 0 5 1 v f.now.length (f.now.map bv)/\(∀ b,v.ownBlock=some b->o b=some (4,pf))/\w.ownsRow 0 5 1 u f.lasts.length (f.lasts.map bv)/\∀ b,u.ownBlock=some b->o b=some (5,pf):=by
 obtain ⟨_,⟨t,v,u,h2,h3⟩,_⟩:=h;exact ⟨v,u,⟨by rw [cells_cell h2];rfl,by rw [cells_cell h2];rfl⟩,⟨cells_frozen h2 _,cells_frozen h2 _⟩,h3⟩
theorem ownsRow_slice {w:World} {base:Nat} {e:TypeId} {size:Nat} {v:Value} {n:Nat} {xs:List Value} (h:w.ownsRow base e size v n xs):∃ a cap,v=.slice a n cap:=by
 obtain ⟨_,h⟩:=h;rcases h with ⟨rfl,rfl⟩ | ⟨g,cap,cur,rfl,_⟩
 ·exact ⟨none,0,rfl⟩
 ·exact ⟨_,cap,rfl⟩
theorem fresh_none {o:Owner} {n b:Nat} (ho:∀ x t,o x=some t->x < n) (hb:n<=b):o b=none:=by
 cases h:o b with
 | none=>rfl
 | some t=>have:=ho b t h;omega
theorem ownBlock_old {w:World} {base:Nat} {e:TypeId} {size:Nat} {v:Value} {n:Nat} {xs:List Value} (h:w.ownsRow base e size v n xs):∀ b,v.ownBlock=some b->b < w.heap.size/\base<=b:=by
 rintro b hb;obtain ⟨_,h⟩:=h;rcases h with ⟨rfl,_⟩ | ⟨g,cap,cur,rfl,hg,hh,_⟩
 ·cases hb
 ·cases hb;exact ⟨(Array.getElem?_eq_some_iff.1 hh).1,hg⟩
def Owner.put (o:Owner) (v:Value) (t:Tag):Owner:=match v.ownBlock with | some b=>o.set b t | none=>o
theorem Owner.put_at {o:Owner} {v:Value} {t:Tag} {b:Nat} (h:v.ownBlock=some b):(o.put v t) b=some t:=by
 unfold Owner.put;rw [h];simp
theorem Owner.put_grow {o:Owner} {v:Value} {t:Tag} {n:Nat} (h:∀ b,v.ownBlock=some b->n<=b):OGrow n o (o.put v t):=by
 intro x hx;unfold Owner.put;cases hv:v.ownBlock with
 | none=>rfl
 | some b=>exact Owner.set_other _ _ (by have:=h b hv;omega)
theorem Owner.put_keep {o:Owner} {v:Value} {s:Tag} (hb:∀ b,v.ownBlock=some b->o b=none):∀ x r,o x=some r->(o.put v s) x=some r:=fun x r hx=>by
 unfold Owner.put;cases e:v.ownBlock with
 | none=>exact hx
 | some b=>
   dsimp only;rw [Owner.set_other _ _ (fun e2=>by rw [e2,hb b e] at hx;cases hx)];exact hx
theorem Owner.put_owned {o:Owner} {v:Value} {t:Tag} {n:Nat} (ho:∀ x t,o x=some t->x < n) (h:∀ b,v.ownBlock=some b->b < n):∀ x s,(o.put v t) x=some s->x < n:=by
 intro x s hx;unfold Owner.put at hx;cases hv:v.ownBlock with
 | none=>rw [hv] at hx;exact ho x s hx
 | some b=>
   rw [hv] at hx;dsimp only at hx;by_cases e:x=b
   ·rw [e];exact h b hv
   ·rw [Owner.set_other _ _ e] at hx;exact ho x s hx
theorem FileAt.store {w:World} {o:Owner} {pf:Nat} {f:DFile} (h:FileAt w o pf f) {v:Value} {bs:List UInt8} {base:Nat} (hv:w.ownsRow base 5 1 v bs.length (bs.map bv)) (hb:∀ b,v.ownBlock=some b->o b=none) (hl:bs.length<=16777216) :
 FileAt (w.setCell ⟨pf,0,none⟩ v) (o.put v (4,pf)) pf { f with now:=bs }/\FileAt (w.setCell ⟨pf,1,none⟩ v) (o.put v (5,pf)) pf { f with lasts:=bs }:=by
 obtain ⟨h1,⟨t,a,c,h2,h3,h4,h5,h6⟩,h7⟩:=h;have hne:∀ b,v.ownBlock=some b->b≠pf:=fun b h e=>by
  have:=hb b h;rw [e,h1] at this;cases this
 have hold:∀ (s:Tag) x r,o x=some r->(o.put v s) x=some r:=fun s=>Owner.put_keep hb;have hrow:∀ (i:Nat) (u z:Value) (xs:List Value) (n base:Nat),w.ownsRow base 5 1 z n xs->(∀ b,z.ownBlock=some b->b≠pf)->(w.setCell ⟨pf,i,none⟩ u).ownsRow 0 5 1 z n xs:=fun i u z xs n base hz hn=>by
  have ht:Turn (·=pf) w (w.setCell ⟨pf,i,none⟩ u):=(Turn.refl (·=pf) w).setCell _ _ (.inl rfl);exact ownsRow_base (ht.ownsRow hz (fun b hb e=>hn b hb e)) (Nat.zero_le _)
 have hpf4:∀ b,a.ownBlock=some b->b≠pf:=fun b hb e=>by have:=h4 b hb;rw [e,h1] at this;cases this
 have hpf5:∀ b,c.ownBlock=some b->b≠pf:=fun b hb e=>by have:=h6 b hb;rw [e,h1] at this;cases this
 refine ⟨⟨hold _ _ _ h1,⟨t,v,c,?_,hrow _ _ _ _ _ _ hv hne,fun b hb=>Owner.put_at hb,hrow _ _ _ _ _ _ h5 hpf5,fun b hb=>hold _ _ _ (h6 b hb)⟩,hl,h7.2⟩,
  ⟨hold _ _ _ h1,⟨t,a,v,?_,hrow _ _ _ _ _ _ h3 hpf4,fun b hb=>hold _ _ _ (h4 b hb),hrow _ _ _ _ _ _ hv hne,fun b hb=>Owner.put_at hb⟩,h7.1,hl⟩⟩
 ·rw [cells_set h2];rfl
 ·rw [cells_set h2];rfl
set_option maxRecDepth 100000 in
set_option maxHeartbeats 2000000 in
theorem sync_any {w:World} {db:Nat} {o:Owner} {d:Dsk} (h:DiskAt w db o d) (name:Name) (hs:name.size<=1000) :
 Calls Tryz.prog 185 #[ptrTo db, .string name] w fun e w'=>e=.returned (.int .i64 ((d.sync name).2:Int))/\DiskPost w db o (d.sync name).1 w':=by
 have H:=Lib.hid h;clear h;unfold ptrTo;cases hd:d.tick.dead with
 | true=>
   have e1:d.sync name=(d.tick,6):=by unfold Dsk.sync;rw [hd];rfl
   have e2:d.tick.err=6:=by unfold Dsk.err;rw [hd];rfl
   have E2:=Lib.hid e2;rw [e1];clear hd e1 e2;go_enter Tryz.func185,Tryz.ntmps185
   go_wp2_with fail
   refine (begin_any H.out).mono ?_;rintro e w1 ⟨rfl,hd1,ht1⟩;rw [E2.out];go_wp2;go_ret;exact ⟨rfl, .of hd1 ht1⟩
 | false=>
   have e2:d.tick.err=0:=by unfold Dsk.err;rw [hd];rfl
   have E2:=Lib.hid e2;have HDD:=Lib.hid hd;clear hd e2;go_enter Tryz.func185,Tryz.ntmps185
   go_wp2_with fail
   refine (begin_any H.out).mono ?_;rintro e w1 ⟨rfl,⟨mf,ml,l,hd1⟩,ht1⟩;rw [E2.out];have HD1:=Lib.hid hd1;have HT1:=Lib.hid ht1;have hfc:=find_cases hd1 name true;rw [Dsk.tick_files] at hfc;clear hd1 ht1;go_wp2_with fail
   refine (find_any HD1.out name true hs).mono ?_;rintro e w2 ⟨rfl,hb2⟩;have HD2:=Lib.hid (HD1.out.below hb2);have HT2:=Lib.hid (HT1.out.thenBelow hb2);clear hb2;rcases hfc with ⟨q1,q2⟩ | ⟨q1,q2,q3,q4⟩ | ⟨pf,f,q1,q2,q3,q4⟩
   ·have e1:d.sync name=(d.tick,1):=by
     unfold Dsk.sync;rw [HDD.out];rw [Bool.and_true] at q1;rw [q1];rfl
    rw [q2];have E1:=Lib.hid e1;clear e1 q2 q1;go_wp2;go_ret;rw [E1.out];exact ⟨rfl, .of ⟨_,_,_,HD2.out⟩ HT2.out⟩
   ·have e1:d.sync name=(d.tick,3):=by
     unfold Dsk.sync;rw [HDD.out];rw [Bool.and_true] at q1;rw [q1,q2];rfl
    rw [q4];have E1:=Lib.hid e1;clear e1 q4 q3 q2 q1;go_wp2;go_ret;rw [E1.out];exact ⟨rfl, .of ⟨_,_,_,HD2.out⟩ HT2.out⟩
   ·have e1:d.sync name=({ d.tick with files:=mput d.files name ⟨f.now,f.now⟩,loose:=d.loose.filter (fun p=>decide (p.1.1≠name)) },0):=by
     unfold Dsk.sync;rw [HDD.out];rw [Bool.and_true] at q1;rw [q1,q2];rfl
    rw [q4];have E1:=Lib.hid e1;have hfa:=HD2.out.each _ (mget_mem q3);have HFA:=Lib.hid hfa;have HQ:=Lib.hid q3;clear e1 q4 q3 q2 q1;obtain ⟨v,u,⟨hp0,hp1⟩,⟨hz0,hz1⟩,hrow,hown,-,-⟩:=hfa.cells;have HROW:=Lib.hid hrow;have HOWN:=Lib.hid hown;have hmost:=Lib.hid hfa.most.1;clear hrow hown hfa hp1;go_wp2_with fail
    refine (clone_any v f.now _ (Rd_own HROW.out) (by have:=hmost.out;omega)).mono ?_;rintro e w3 ⟨v3,rfl,ho3,hb3⟩;have HD3:=Lib.hid (HD2.out.below hb3);have HT3:=Lib.hid (HT2.out.thenBelow hb3);have hfa3:=HD3.out.each _ (mget_mem HQ.out);have HFA3:=Lib.hid hfa3;obtain ⟨v4,u4,⟨-,hp1⟩,⟨-,hp2⟩,-⟩:=hfa3.cells;clear hfa3;obtain ⟨a3,c3,rfl⟩:=ownsRow_slice ho3;have HO3:=Lib.hid ho3;have HB3:=Lib.hid hb3;clear ho3 hb3;go_wp2_with fail
    have hfresh:∀ b,(Value.slice a3 f.now.length c3).ownBlock=some b->o b=none:=fun b hb=>fresh_none HD2.out.owned (ownBlock_old HO3.out b hb).2;have HD4:=Lib.hid (HD3.out.reFile HQ.out ((Turn.refl (OfFile o pf) w3).setCell ⟨pf,1,none⟩ (.slice a3 f.now.length c3) (.inl (.inl rfl))) (o':=o.put (.slice a3 f.now.length c3) (5,pf))
     (Owner.put_keep hfresh)
     (HFA3.out.store HO3.out hfresh hmost.out).2 (fun x t hx=>by
       have:=Owner.put_owned HD3.out.owned (fun b hb=>(ownBlock_old HO3.out b hb).1) x t hx;simpa using this) (by
       have h1:=usedOf_get HD3.out.fileKeys (HD3.out.get HQ.out);rw [usedOf_put];have h2:=HD3.out.ok.used;dsimp only at h1 ⊢;omega))
    have HT4:=Lib.hid (HT3.out.setCell ⟨pf,1,none⟩ (.slice a3 f.now.length c3) (.inl (OfFile.in (.inl rfl) HFA3.out.own)));have HG:=Lib.hid (Owner.put_grow (o:=o) (t:=(5,pf)) (n:=w.heap.size) (fun b hb=>Nat.le_trans HT2.out.size (ownBlock_old HO3.out b hb).2));refine (settle_all HD4.out name).mono ?_;rintro e w5 ⟨rfl,hd5,ht5⟩;have HD5:=Lib.hid hd5;have HT5:=Lib.hid (HT4.out.trans ht5 (fun x _ e=>e ▸ HD3.out.in_ml));clear hd5 ht5;go_wp2;go_ret;rw [E1.out];have hN:=HD5.out;unfold Dsk.settle at hN;dsimp only at hN;rw [Dsk.tick_files,Dsk.tick_loose] at hN;exact ⟨rfl,_,⟨_,_,_,hN⟩,HT5.out,HG.out⟩
namespace Dsk
def sizeOf (d:Dsk) (name:Name):Nat × Nat:=
 if d.dead then (0,6) else if okName name=false then (0,1) else match mget d.files name with
  | none=>(0,3)
  | some f=>(f.now.length,0)
def read (d:Dsk) (name:Name) (off n:Nat):List UInt8 × Nat:=
 if d.dead then ([],6) else if okName name=false then ([],1) else match mget d.files name with
  | none=>([],3)
  | some f=>((f.now.drop off).take n,0)
end Dsk
set_option maxRecDepth 100000 in
set_option maxHeartbeats 2000000 in
theorem size_any {w:World} {db:Nat} {o:Owner} {d:Dsk} (h:DiskAt w db o d) (name:Name) (hs:name.size<=1000) :
 Calls Tryz.prog 228 #[ptrTo db, .string name] w fun e w'=>e=.returned (.tuple #[.int .i64 ((d.sizeOf name).1:Int), .int .i64 ((d.sizeOf name).2:Int)])/\Below w.heap.size w w':=by
 have H:=Lib.hid h;obtain ⟨mf,ml,l,hd1⟩:=h;have HD1:=Lib.hid hd1;have hfc:=find_cases hd1 name true;clear hd1;unfold ptrTo;cases hd:d.dead with
 | true=>
   have e1:d.sizeOf name=(0,6):=by unfold Dsk.sizeOf;rw [hd];rfl
   have e2:d.err=6:=by unfold Dsk.err;rw [hd];rfl
   have E2:=Lib.hid e2;rw [e1];clear hd e1 e2 hfc;go_enter Tryz.func228,Tryz.ntmps228
   go_wp2_with fail
   refine (look_any H.out).mono ?_;rintro e w1 ⟨rfl,rfl⟩;rw [E2.out];go_wp2;go_returns
   exact ⟨rfl,Below.refl _ _⟩
 | false=>
   have e2:d.err=0:=by unfold Dsk.err;rw [hd];rfl
   have E2:=Lib.hid e2;have HDD:=Lib.hid hd;clear hd e2;go_enter Tryz.func228,Tryz.ntmps228
   go_wp2_with fail
   refine (look_any H.out).mono ?_;rintro e w1 ⟨rfl,rfl⟩;rw [E2.out];go_wp2_with fail
   refine (find_any HD1.out name true hs).mono ?_;rintro e w2 ⟨rfl,hb2⟩;have HB2:=Lib.hid hb2;have HD2:=Lib.hid (HD1.out.below hb2);clear hb2;rcases hfc with ⟨q1,q2⟩ | ⟨q1,q2,q3,q4⟩ | ⟨pf,f,q1,q2,q3,q4⟩
   ·have e1:d.sizeOf name=(0,1):=by
     unfold Dsk.sizeOf;rw [HDD.out];rw [Bool.and_true] at q1;rw [q1];rfl
    rw [q2];have E1:=Lib.hid e1;clear e1 q2 q1;go_wp2;go_returns
    rw [E1.out];exact ⟨rfl,HB2.out⟩
   ·have e1:d.sizeOf name=(0,3):=by
     unfold Dsk.sizeOf;rw [HDD.out];rw [Bool.and_true] at q1;rw [q1,q2];rfl
    rw [q4];have E1:=Lib.hid e1;clear e1 q4 q3 q2 q1;go_wp2;go_returns
    rw [E1.out];exact ⟨rfl,HB2.out⟩
   ·have e1:d.sizeOf name=(f.now.length,0):=by
     unfold Dsk.sizeOf;rw [HDD.out];rw [Bool.and_true] at q1;rw [q1,q2];rfl
    rw [q4];have E1:=Lib.hid e1;have hfa:FileAt w2 o pf f:=HD2.out.each _ (mget_mem q3);clear e1 q4 q3 q2 q1;obtain ⟨v,u,⟨hp0,-⟩,-,hrow,-⟩:=hfa.cells;have hmost:=hfa.most.1;obtain ⟨a,c,rfl⟩:=ownsRow_slice hrow;have HROW:=Lib.hid hrow;clear hrow hfa;go_wp2;go_returns
    rw [E1.out];exact ⟨rfl,HB2.out⟩
def ReadPost (w:World) (r:List UInt8 × Nat) (e:Ending) (w':World):Prop:=
 ∃ v,e=.returned (.tuple #[v, .int .i64 (r.2:Int)])/\w'.ownsRow w.heap.size 5 1 v r.1.length (r.1.map bv)/\Below w.heap.size w w'
set_option maxRecDepth 100000 in
set_option maxHeartbeats 2000000 in
theorem read_any {w:World} {db:Nat} {o:Owner} {d:Dsk} (h:DiskAt w db o d) (name:Name) (hs:name.size<=1000) (off n:Nat) (hn:n<=1099511627776) :
 Calls Tryz.prog 237 #[ptrTo db, .string name, .int .i64 (off:Int), .int .i64 (n:Int)] w (ReadPost w (d.read name off n)):=by
 have H:=Lib.hid h;obtain ⟨mf,ml,l,hd1⟩:=h;have HD1:=Lib.hid hd1;have hfc:=find_cases hd1 name true;clear hd1;unfold ptrTo;cases hd:d.dead with
 | true=>
   have e1:d.read name off n=([],6):=by unfold Dsk.read;rw [hd];rfl
   have e2:d.err=6:=by unfold Dsk.err;rw [hd];rfl
   have E2:=Lib.hid e2;rw [e1];clear hd e1 e2 hfc;go_enter Tryz.func237,Tryz.ntmps237
   go_wp2_with fail
   refine (look_any H.out).mono ?_;rintro e w1 ⟨rfl,rfl⟩;rw [E2.out];go_wp2;go_returns
   exact ⟨_,rfl,ownsRow_nil _ _ _,Below.refl _ _⟩
 | false=>
   have e2:d.err=0:=by unfold Dsk.err;rw [hd];rfl
   have E2:=Lib.hid e2;have HDD:=Lib.hid hd;clear hd e2;go_enter Tryz.func237,Tryz.ntmps237
   go_wp2_with fail
   refine (look_any H.out).mono ?_;rintro e w1 ⟨rfl,rfl⟩;rw [E2.out];go_wp2_with fail
   refine (find_any HD1.out name true hs).mono ?_;rintro e w2 ⟨rfl,hb2⟩;have HB2:=Lib.hid hb2;have HD2:=Lib.hid (HD1.out.below hb2);clear hb2;rcases hfc with ⟨q1,q2⟩ | ⟨q1,q2,q3,q4⟩ | ⟨pf,f,q1,q2,q3,q4⟩
   ·have e1:d.read name off n=([],1):=by
     unfold Dsk.read;rw [HDD.out];rw [Bool.and_true] at q1;rw [q1];rfl
    rw [q2];have E1:=Lib.hid e1;clear e1 q2 q1;go_wp2;go_returns
    rw [E1.out];exact ⟨_,rfl,ownsRow_nil _ _ _,HB2.out⟩
   ·have e1:d.read name off n=([],3):=by
     unfold Dsk.read;rw [HDD.out];rw [Bool.and_true] at q1;rw [q1,q2];rfl
    rw [q4];have E1:=Lib.hid e1;clear e1 q4 q3 q2 q1;go_wp2;go_returns
    rw [E1.out];exact ⟨_,rfl,ownsRow_nil _ _ _,HB2.out⟩
   ·have e1:d.read name off n=((f.now.drop off).take n,0):=by
     unfold Dsk.read;rw [HDD.out];rw [Bool.and_true] at q1;rw [q1,q2];rfl
    rw [q4];have E1:=Lib.hid e1;have hfa:FileAt w2 o pf f:=HD2.out.each _ (mget_mem q3);clear e1 q4 q3 q2 q1;obtain ⟨v,u,⟨hp0,-⟩,-,hrow,-⟩:=hfa.cells;have hmost:=hfa.most.1;have hrd:=Rd_own hrow;obtain ⟨a,cap,rfl,hlc,hcm,hc⟩:=id hrd;have HRD:=Lib.hid hrd;unfold maxLen at hcm;clear hrow hfa hc hrd;by_cases hlo:off<=f.now.length
    ·by_cases hnn:n<=f.now.length - off
     ·skip
      have hA:=Lib.hid (fun nq (e:cap=off)=>((((HRD.out.drewN nq).from (k:=off) (by omega)).1 e).to (k:=n) (by rw [List.length_drop];omega)));have hB:=Lib.hid (fun nq=>((((HRD.out.drewN nq).from (k:=off) (by omega)).2).to (k:=n) (by rw [List.length_drop];omega)));go_wp2_with fail
      go_quiet (fail)
      go_wp2_with fail
      all_goals
       refine (clone_any _ ((f.now.drop off).take n) _ (by first | exact hB.out _ | exact hA.out _ rfl | exact hA.out _ (by assumption) | (rw [hn0];first | exact hB.out _ | exact hA.out _ rfl | exact hA.out _ (by assumption))) (by rw [List.length_take,List.length_drop];omega)).mono ?_;rintro e w3 ⟨v3,rfl,ho3,hb3⟩;have HO3:=Lib.hid ho3;have HB3:Hid (Below w2.heap.size w2 w3):=Lib.hid ⟨hb3.os,hb3.tape,hb3.output,hb3.size,hb3.block⟩;clear ho3 hb3;go_wp2_with fail
       go_returns
       rw [E1.out];exact ⟨_,rfl,ownsRow_base HO3.out HB2.out.size,HB2.out.trans (HB3.out.mono HB2.out.size)⟩
     ·skip
      have hq2:(f.now.drop off).take n=(f.now.drop off).take (f.now.length - off):=by
       rw [List.take_of_length_le (by rw [List.length_drop];omega),List.take_of_length_le (by rw [List.length_drop];omega)]
      have EQ2:=Lib.hid hq2;clear hq2;have hA:=Lib.hid (fun nq (e:cap=off)=>((((HRD.out.drewN nq).from (k:=off) (by omega)).1 e).to (k:=(f.now.length - off)) (by rw [List.length_drop];omega)));have hB:=Lib.hid (fun nq=>((((HRD.out.drewN nq).from (k:=off) (by omega)).2).to (k:=(f.now.length - off)) (by rw [List.length_drop];omega)));go_wp2_with fail
      go_quiet (fail)
      go_wp2_with fail
      all_goals
       refine (clone_any _ ((f.now.drop off).take (f.now.length - off)) _ (by first | exact hB.out _ | exact hA.out _ rfl | exact hA.out _ (by assumption) | (rw [hn0];first | exact hB.out _ | exact hA.out _ rfl | exact hA.out _ (by assumption))) (by rw [List.length_take,List.length_drop];omega)).mono ?_;rintro e w3 ⟨v3,rfl,ho3,hb3⟩;have HO3:=Lib.hid ho3;have HB3:Hid (Below w2.heap.size w2 w3):=Lib.hid ⟨hb3.os,hb3.tape,hb3.output,hb3.size,hb3.block⟩;clear ho3 hb3;go_wp2_with fail
       go_returns
       rw [E1.out];rw [EQ2.out];exact ⟨_,rfl,ownsRow_base HO3.out HB2.out.size,HB2.out.trans (HB3.out.mono HB2.out.size)⟩
    ·rcases Nat.eq_zero_or_pos n with hn0 | hn0;all_goals
      have hq2:(f.now.drop off).take n=(f.now.drop f.now.length).take 0:=by
       rw [List.drop_of_length_le (by omega)];simp
      have EQ2:=Lib.hid hq2;clear hq2;have hA:=Lib.hid (fun nq (e:cap=f.now.length)=>((((HRD.out.drewN nq).from (k:=f.now.length) (by omega)).1 e).to (k:=0) (by rw [List.length_drop];omega)));have hB:=Lib.hid (fun nq=>((((HRD.out.drewN nq).from (k:=f.now.length) (by omega)).2).to (k:=0) (by rw [List.length_drop];omega)));go_wp2_with fail
      go_quiet (fail)
      go_wp2_with fail
      all_goals
       refine (clone_any _ ((f.now.drop f.now.length).take 0) _ (by first | exact hB.out _ | exact hA.out _ rfl | exact hA.out _ (by assumption) | (rw [hn0];first | exact hB.out _ | exact hA.out _ rfl | exact hA.out _ (by assumption))) (by rw [List.length_take,List.length_drop];omega)).mono ?_;rintro e w3 ⟨v3,rfl,ho3,hb3⟩;have HO3:=Lib.hid ho3;have HB3:Hid (Below w2.heap.size w2 w3):=Lib.hid ⟨hb3.os,hb3.tape,hb3.output,hb3.size,hb3.block⟩;clear ho3 hb3;go_wp2_with fail
       go_returns
       rw [E1.out];rw [EQ2.out];exact ⟨_,rfl,ownsRow_base HO3.out HB2.out.size,HB2.out.trans (HB3.out.mono HB2.out.size)⟩
def usedIn (l:List (Name × (Nat × DFile))):Nat:=(l.map (fun p=>sect p.2.2.now.length)).sum
theorem usedIn_perm {a b:List (Name × (Nat × DFile))} (h:a.Perm b):usedIn a=usedIn b:=(h.map _).sum_nat
theorem DiskIn.usedIn {w:World} {db mf ml:Nat} {o:Owner} {l:List (Name × (Nat × DFile))} {d:Dsk} (h:DiskIn w db o mf ml l d):usedIn l=usedOf d.files:=by
 rw [<- h.strip];unfold usedOf Proofs.YthkkgdpomhhjjaaGreatDoor.usedIn;rw [List.map_map];rfl
set_option maxRecDepth 100000 in
set_option maxHeartbeats 2000000 in
theorem used_any {w:World} {db:Nat} {o:Owner} {d:Dsk} (h:DiskAt w db o d) :
 Calls Tryz.prog 267 #[ptrTo db] w fun e w'=>e=.returned (.int .i64 (usedOf d.files:Int))/\Below w.heap.size w w':=by
 obtain ⟨mf,ml,l,h⟩:=h;have HD:=Lib.hid h;have hu:=h.usedIn;have hmax:=h.ok.used;rw [<- hu] at hmax ⊢;have HMAX:=Lib.hid hmax;clear hu hmax;obtain ⟨⟨hc0,hc1,hc2,hc3,hc4⟩,hf2,hf3,hf4⟩:=h.head.cells;clear h hc1 hc2 hc3 hc4 hf2 hf3 hf4;unfold ptrTo;go_enter Tryz.func267,Tryz.ntmps267
 go_wp2_with (at_range;refine wpList_rng _ rfl _ _ rfl 109 Tryz.underlying110 mf l rfl HD.out.files ?_;intro ob hi0)
 go_frame
 go_loopw [3] (fun n wr=>∃ (todo:List (Name × (Nat × DFile))) (k:Nat),n=.int .i64 (k:Int)/\IterAt Tryz.prog 9 Value.string (fun x:Nat × DFile=>ptrTo x.1) wr mf w.heap.size l todo/\Below w.heap.size w wr/\Hid (k+usedIn todo=usedIn l)) (fun _ wr=>wr.rangeLeft mf w.heap.size)
 case atStart=>exact ⟨_,0,rfl,hi0,(Below.refl _ _).alloc (Nat.le_refl _) _,Lib.hid (by omega)⟩
 case round=>
  obtain ⟨todo,k,rfl,hi,hb,hk⟩:=hrel;have HB:=Lib.hid hb;clear hb;go_wp2_with (at_next;refine wpList_nxt _ rfl _ rfl mf w.heap.size l todo rfl hi ?_ ?_)
  ·rintro rfl;go_wp2;go_ret;refine ⟨?_,HB.out⟩;have:=hk.out;unfold usedIn at this ⊢;simp at this;rw [<- this];rfl
  ·intro nm pf f rs w1 ob1 hp hal hi1 hen;have hb1:Below w.heap.size w (setBlock w1 w.heap.size ob1):=by
    have:Turn (fun x=>w.heap.size<=x) w (setBlock w1 w.heap.size ob1):=by
     have h0:Turn (fun x=>w.heap.size<=x) w wr:=Turn.ofBelow HB.out;rcases hal with rfl | rfl
     ·exact h0.setBlock _ _ (.inl (Nat.le_refl _))
     ·exact h0.drew.setBlock _ _ (.inl (Nat.le_refl _))
    exact this.below (Nat.le_refl _) (fun _ h=>h)
   have HP:=Lib.hid hp;have HI:=Lib.hid hi;have hmem:(nm,pf,f)∈l:=hi.sub _ (hp.mem_iff.2 (by simp));have HB1:=Lib.hid hb1;have hfa:FileAt (setBlock w1 w.heap.size ob1) o pf f:=(HD.out.below hb1).each _ hmem;obtain ⟨v,u,⟨hp0,-⟩,-,hrow,-⟩:=hfa.cells;have hmost:=hfa.most.1;obtain ⟨a,c,rfl⟩:=ownsRow_slice hrow;clear hp hi hb1 hal hfa hrow hmem;unfold ptrTo at hen;have hsum:k+sect f.now.length+usedIn rs=usedIn l:=by
    have h1:=hk.out;rw [usedIn_perm HP.out] at h1;unfold usedIn at h1 ⊢;simp only [List.map_cons,List.sum_cons] at h1;omega
   have HS:=Lib.hid hsum;have hkk:k+sect f.now.length<=1048576:=by have:=HMAX.out;omega
   have HKK:=Lib.hid hkk;have hk1:k<=1048576:=by omega
   have hk2:sect f.now.length<=1048576:=by omega
   clear hsum hkk;generalize hW:setBlock w1 w.heap.size ob1=W at hen hp0 HB1 hi1;clear hW hi0;go_wp2_with (go_at_call 266;refine (sectors_any _ _ (by omega)).mono ?_;rintro e w2 ⟨rfl,rfl⟩)
   go_roundw
   case rel=>
    refine ⟨rs,k+sect f.now.length,?_,hi1,HB1.out,HS⟩;unfold sect;congr 1
   case measure=>
    have e1:=hi1.left;have e2:=HP.out.length_eq;rw [List.length_cons] at e2;rw [e1,HI.out.left];omega
def Dsk.new (quota:Nat):Dsk:=⟨[],[],quota,0,false⟩
set_option maxRecDepth 100000 in
set_option maxHeartbeats 2000000 in
theorem newDisk_any (quota:Nat) (hq:quota<=1048576) (w:World) :
 Calls Tryz.prog 69 #[.int .i64 (quota:Int)] w fun e w'=>∃ db o,e=.returned (.tuple #[ptrTo db, .int .i64 0])/\DiskAt w' db o (Dsk.new quota)/\Below w.heap.size w w'/\∀ x t,o x=some t->w.heap.size<=x:=by
 have hmk:∀ (t:TypeId) (W:World),(Instr.makeMap t none).run Tryz.prog W=.ok (.map (some W.heap.size)) (W.alloc (.map #[] 0)):=fun _ _=>rfl;go_enter Tryz.func69,Tryz.ntmps69
 go_wp2;go_returns
 let o:Owner:=fun x=>if x=w.heap.size then some (1,0) else if x=w.heap.size+1 then some (2,0) else if x=w.heap.size+1+1 then some (0,0) else none
 have ho:∀ x t,o x=some t->w.heap.size<=x/\x < w.heap.size+3:=by
  intro x t hx;simp only [o] at hx;split at hx
  ·omega
  ·split at hx
   ·omega
   ·split at hx
    ·omega
    ·cases hx
 refine ⟨w.heap.size+1+1,o,?_,⟨w.heap.size,w.heap.size+1,[],?_⟩,?_,fun x t hx=>(ho x t hx).1⟩
 ·rfl
 ·have s1:(w.alloc (.map #[] 0)).heap.size=w.heap.size+1:=by simp
  have s2:((w.alloc (.map #[] 0)).alloc (.map #[] 0)).heap.size=w.heap.size+1+1:=by simp
  have m0:MapAt Tryz.prog 9 Value.string (fun x:Nat × DFile=>ptrTo x.1) (w.alloc (.map #[] 0)) w.heap.size []:=MapAt.made w _ _ _ _;have m1:MapAt Tryz.prog 116 nameNum (fun _:Unit=>.bool true) ((w.alloc (.map #[] 0)).alloc (.map #[] 0)) (w.heap.size+1) []:=by
   have:=MapAt.made (w.alloc (.map #[] 0)) Tryz.prog 116 nameNum (fun _:Unit=>Value.bool true);rw [s1] at this;exact this
  have hh:∀ (W:World) (ob:Obj) (b:Nat),b < W.heap.size->(W.alloc ob).heap[b]? = W.heap[b]? := fun W ob b hb=>(MapKept.heap_alloc W ob).2 b hb;refine { odb:=?_,omf:=?_,oml:=?_,head:=⟨113,?_⟩,files:=?_,strip:=rfl,apart:=by simp,each:=by simp,loose:=?_,owned:=?_,ok:=⟨hq,by show 0 < 9223372036854775808;decide,by simp [usedOf,Dsk.new]⟩ }
  ·simp [o];omega
  ·simp [o]
  ·simp [o]
  ·have:=heap_alloc_new ((w.alloc (.map #[] 0)).alloc (.map #[] 0)) (.cells #[.map (some w.heap.size), .map (some (w.heap.size+1)), .int .i64 (quota:Int), .int .i64 0, .bool false] 113);rw [s2] at this;exact this
  ·exact (m0.kept (hh _ _ _ (by simp))).kept (hh _ _ _ (by simp;omega))
  ·exact m1.kept (hh _ _ _ (by simp))
  ·intro x t hx;have:=(ho x t hx).2;simp;omega
 ·exact (((Below.refl _ _).alloc (Nat.le_refl _) _).alloc (by simp) _).alloc (by simp;omega) _
def over (xs:List UInt8) (off:Nat) (bs:List UInt8):List UInt8:=xs.take off++(bs++xs.drop (off+bs.length))
theorem over_length {xs:List UInt8} {off:Nat} {bs:List UInt8} (h:off+bs.length<=xs.length):(over xs off bs).length=xs.length:=by
 simp [over];omega
theorem over_nil (xs:List UInt8) (off:Nat):over xs off []=xs:=by simp [over]
theorem take_over {α:Type} (C B:List α) (n off:Nat) (h:off+B.length<=n) (hn:n<=C.length) :
 (C.take off++(B++C.drop (off+B.length))).take n=(C.take n).take off++(B++(C.take n).drop (off+B.length)):=by
 rw [List.take_append,List.take_append,List.length_take,List.take_take,List.take_take,List.drop_take,Nat.min_eq_left (show off<=C.length by omega),Nat.min_eq_right (show off<=n by omega),Nat.min_eq_left (show off<=n by omega),List.take_of_length_le (show B.length<=n - off by omega),show n - off - B.length=n - (off+B.length) by omega]
def loosen (m:List ((Name × Nat) × Unit)) (name:Name) (off:Nat):Nat->List ((Name × Nat) × Unit)
 | 0=>m
 | n+1=>mput (loosen m name off n) (name,(off+n) / 64) ()
def DFile.laid (f:DFile) (off:Nat) (bs:List UInt8):DFile:=
 ⟨over (f.now++List.replicate (max f.now.length (off+bs.length) - f.now.length) 0) off bs,f.lasts⟩
namespace Dsk
def write (d:Dsk) (name:Name) (off:Nat) (bs:List UInt8):Dsk × Nat:=
 if d.tick.dead then (d.tick,6) else if okName name=false then (d.tick,1) else match mget d.files name with
  | none=>(d.tick,3)
  | some f=>
    if f.now.length < off then (d.tick,1)
    else if 16777216 < bs.length+off then (d.tick,9)
    else if sect f.now.length < sect (max f.now.length (off+bs.length))/\d.quota < usedOf d.files+(sect (max f.now.length (off+bs.length)) - sect f.now.length) then (d.tick,5)
    else ({ d.tick with files:=mput d.files name (f.laid off bs),loose:=loosen d.loose name off bs.length },0)
end Dsk
theorem wpList_maxNat {P:Program} {w:World} {ops:Array Oper} {rest:List Oper} {o:Oper} {a:Act} {Q:Exit->Act->World->Prop} (hgd:o.guard=none) (x y:Operand) (t t':TypeId)
 (ho:o.op=.call { callee:=.builtin .max,args:=#[x,y],argTypes:=#[t,t'] }) (m n:Nat) {p q:Int} (hx:a.eval x=.int .i64 p) (hy:a.eval y=.int .i64 q) (hp:p=(m:Int)) (hq:q=(n:Int))
 (h:∀ E,E=max m n->wpList P ops Q rest (a.put o.dst (.int .i64 ((E:Nat):Int))) w):wpList P ops Q (o::rest) a w:=by
 refine wpList_plain hgd fun K hK=>?_;have hrun:=run_max_int2 (P:=P) (w:=w) #[t,t'] o.type .i64 .i64 p q;unfold Oper.wp;simp [execOp,ho,resolve,invoke,builtin,hx,hy,hrun,Result.andThen];refine hK _ _ ?_;have:(if q > p then q else p)=((max m n:Nat):Int):=by
  rw [hp,hq];split<;>omega
 have h':=h _ rfl;rw [<- this] at h';exact h'
end
section
open Go
section
variable {P:Program} {ops:Array Oper} {md:Region.Mode} {C:World->Prop}
def behindB (md:Region.Mode) (ops:Array Oper) (n:Nat):Bool:=
 (List.range ops.size).all fun t=>decide (t<=n) || (List.range t).any fun s=>decide (n<=s) && Region.waitsFor md ops t s
theorem mid_waits {n:Nat} {listed:Array Bool} (hs:Region.sinkB md ops n=true) (hc:behindB md ops n=true) (hn:n < ops.size) (inv:HeadInv md ops n listed) :
 ∀ (d i:Nat),n - i=d->i < n->listed.getD i true=false->∀ t,n<=t->t ∉ Region.ready md ops listed:=by
 intro d;induction d using Nat.strongRecOn with
 | _ d ih=>
   intro i hd hi hun t ht hr;obtain ⟨_,ot,hot,hall⟩:=mem_ready.1 hr;have htlt:t < ops.size:=(Array.getElem?_eq_some_iff.1 hot).1;by_cases htn:t=n
   ·subst htn;have h1:=List.all_eq_true.1 hs i (List.mem_range.2 hi);obtain ⟨j,hj,hj2⟩:=List.any_eq_true.1 h1;simp only [Bool.and_eq_true,decide_eq_true_eq] at hj2;obtain ⟨oj,hoj,e,he,hb,hon⟩:=Region.waitsFor_spec hj2.2;have hjle:j<=t:=by have:=List.mem_range.1 hj;omega
    by_cases hjt:j=t
    ·subst hjt;have:oj=ot:=Option.some.inj (hoj.symm.trans hot);subst this;have h2:=hall e he hb;rw [hon,getD_both hun] at h2;cases h2
    ·cases hl:listed.getD j false with
     | true=>
       have h2:=inv.closed j oj hoj hl e he hb;rw [hon,getD_both hun] at h2;cases h2
     | false=>
       have hjs:j < listed.size:=by rw [inv.size];omega
       exact ih (t - j) (by omega) j rfl (by omega) (getD_in hjs hl) t (Nat.le_refl _) hr
   ·have h1:=List.all_eq_true.1 hc t (List.mem_range.2 htlt);simp only [Bool.or_eq_true,decide_eq_true_eq] at h1;rcases h1 with h1 | h1
    ·omega
    ·obtain ⟨s,hsr,hs2⟩:=List.any_eq_true.1 h1;simp only [Bool.and_eq_true,decide_eq_true_eq] at hs2;have hst:=List.mem_range.1 hsr;obtain ⟨o',ho',e,he,hb,hon⟩:=Region.waitsFor_spec hs2.2;have:o'=ot:=Option.some.inj (ho'.symm.trans hot);subst this;have h2:=hall e he hb;rw [hon,getD_both (inv.tail s hs2.1 (by omega))] at h2;cases h2
theorem midAny_first {n i:Nat} {oi:Oper} {v:Value} {L:Array Bool->Act->Prop} (hi:ops[i]? = some oi) (hsel:∀ (j:Nat) (o:Oper) cs b,ops[j]? = some o->o.op≠.select cs b)
 (hs:Region.sinkB md ops n=true) (hc:behindB md ops n=true) (hn:n < ops.size) (hin:i < n)
 (hdone:∀ listed a,L listed a->∀ j∈Region.ready md ops listed,n<=j) (f:Nat) :
 ∀ (listed:Array Bool) (a:Act),HeadInv md ops n listed ->
  (∀ j oj,ops[j]? = some oj->j≠i->listed.getD j true=false->(∀ e∈oj.after,Region.binds md e=true->e.on≠i)->oi.apart ops oj=true) ->
  i∈Region.ready md ops listed->YieldsIn P ops C oi v a ->
  headAny P md ops C n L f (listed.setIfInBounds i true) (a.put oi.dst v)->headAny P md ops C n L (f+1) listed a:=by
 induction f with
 | zero=>
   intro listed a inv _ hr hy H;have hun:=(mem_ready.1 hr).1;refine ⟨fun h=>(by rw [h] at hr;cases hr),fun j hj=>?_⟩;have hjn:j < n:=by
    rcases Nat.lt_or_ge j n with h | h
    ·exact h
    ·exact absurd hj (mid_waits hs hc hn inv _ i rfl hin hun j h)
   refine ⟨hjn,?_⟩;by_cases hji:j=i
   ·subst hji;exact hy.qOp hi H
   ·have:=hdone _ _ H j (ready_mono hj hji);omega
 | succ f ih=>
   intro listed a inv hfree hr hy H;have hun:=(mem_ready.1 hr).1;refine ⟨fun h=>(by rw [h] at hr;cases hr),fun j hj=>?_⟩;have hjn:j < n:=by
    rcases Nat.lt_or_ge j n with h | h
    ·exact h
    ·exact absurd hj (mid_waits hs hc hn inv _ i rfl hin hun j h)
   refine ⟨hjn,?_⟩;by_cases hji:j=i
   ·subst hji;exact hy.qOp hi H
   ·have h1:=(H.2 j (ready_mono hj hji)).2;obtain ⟨hjun,oj,hoj,hall⟩:=mem_ready.1 hj;have hnot:∀ e∈oj.after,Region.binds md e=true->e.on≠i:=fun e he hb heq=>by
     have h1:=hall e he hb;rw [heq,getD_both hun] at h1;cases h1
    have h2:=qOp_put hoj (hfree j oj hoj hji hjun hnot) (fun cs b=>hsel i oi cs b hi) (fun cs b=>hsel j oj cs b hoj) hy h1;have hfree':∀ k ok,ops[k]? = some ok->k≠i->(listed.setIfInBounds j true).getD k true=false ->
     (∀ e∈ok.after,Region.binds md e=true->e.on≠i)->oi.apart ops ok=true:=fun k ok hk hki hun hno=>by
     refine hfree k ok hk hki ?_ hno;by_cases hjk:j=k
     ·subst hjk;exact hjun
     ·rw [getD_set_ne true hjk] at hun;exact hun
    refine qOp_mono (fun a' h3=>ih (listed.setIfInBounds j true) a' (inv.set hj hjn) hfree' (ready_mono hr (Ne.symm hji)) h3.1 ?_) h2;rw [Array.setIfInBounds_comm _ _ hji];exact h3.2
def lexMid (md:Region.Mode) (ops:Array Oper) (g:Nat):Nat->Nat->Array Bool->Bool
 | 0,k,listed=>decide (Region.ready md ops listed=[k]) && Region.lexFrom md ops g (k+1) (listed.setIfInBounds k true)
 | f+1,k,listed=>(Region.ready md ops listed).contains k && Region.free md ops listed k && lexMid md ops g f (k+1) (listed.setIfInBounds k true)
def midB (md:Region.Mode) (ops:Array Oper) (n:Nat):Bool:=
 Region.noSelect ops && decide (n < ops.size) && Region.sinkB md ops n && behindB md ops n && lexMid md ops (ops.size - (n+1)) n 0 (Array.replicate ops.size false)
def midDone (md:Region.Mode) (ops:Array Oper) (g n:Nat) (listed:Array Bool):Prop:=Region.ready md ops listed=[n]/\Region.lexFrom md ops g (n+1) (listed.setIfInBounds n true)=true
theorem midAny_lex {n g:Nat} {Lq:Act->Prop} (hsel:Region.noSelect ops=true) (hs:Region.sinkB md ops n=true) (hc:behindB md ops n=true) (hn:n < ops.size) (l:List Oper) :
 ∀ (k:Nat) (listed:Array Bool) (a:Act),(∀ j,j < l.length->l[j]? = ops[k+j]?)->k+l.length=n->HeadInv md ops n listed ->
 lexMid md ops g l.length k listed=true->wpQuiet P ops C Lq l a ->
 headAny P md ops C n (fun listed' a'=>midDone md ops g n listed'/\Lq a') l.length listed a:=by
 induction l with
 | nil=>
   intro k listed a _ hk _ hB h;have:k=n:=by simpa using hk
   subst this;simp only [List.length_nil,lexMid,Bool.and_eq_true,decide_eq_true_eq] at hB;exact ⟨hB,h⟩
 | cons o l ih=>
   intro k listed a hl hk inv hB h;have h0:ops[k]? = some o:=by simpa using (hl 0 (by simp)).symm
   simp only [List.length_cons,lexMid,Bool.and_eq_true] at hB;obtain ⟨⟨hr,hf⟩,hB'⟩:=hB;have hkn:k < n:=by simp only [List.length_cons] at hk;omega
   have hr':k∈Region.ready md ops listed:=by simpa using hr
   have hst:qOp P ops C k (wpQuiet P ops C Lq l) a:=by unfold qOp;simp only [h0];exact h
   obtain ⟨v,hy,hK⟩:=yieldsIn_of_qOp h0 hst;exact midAny_first h0 (Region.noSelect_spec hsel) hs hc hn hkn (fun listed' a' hL j hj=>by
    have h1:=hL.1.1;rw [h1] at hj;have:j=n:=by simpa using hj
    omega) l.length listed a inv (Region.free_spec h0 hf) hr' hy
    (ih (k+1) _ _ (fun j hj=>by have:=hl (j+1) (by simp;omega);simpa [Nat.add_assoc,Nat.add_comm 1 j] using this) (by simp only [List.length_cons] at hk;omega) (inv.set hr' hkn) hB' hK)
def MidCall (P:Program) (ops:Array Oper) (Q:Exit->Act->World->Prop) (o:Oper) (rest:List Oper) (a:Act) (w:World):Prop:=
 ∃ f args,Region.wanted o (yielded ops a.tmps)=true/\(execOp a.eval o).run P w=.ok (.enter f args) w /\
  Calls P f args w fun e w'=>∃ v,e=.returned v/\wpQuiet P ops (·=w') (fun a'=>Q .normal a' w') rest (a.put o.dst v)
theorem wp_region_mid (C:World->Prop) {id:Nat} {Q:Exit->Act->World->Prop} {a:Act} {w:World} {l:List Oper} (n:Nat) {o:Oper} {rest:List Oper} (hl:l.drop n=o::rest) (hm:P.follows .mixedOrders=true) (hB:midB .any l.toArray n=true) (hC:C w.drew)
 (h:wpQuiet P l.toArray C (fun a'=>∀ w',C w'->MidCall P l.toArray Q o rest a' w') (l.take n) a):(Code.region id l.toArray true).wp P Q a w:=by
 simp only [midB,Bool.and_eq_true,decide_eq_true_eq] at hB;obtain ⟨⟨⟨⟨hsel,hn⟩,hs⟩,hc⟩,hlex⟩:=hB;have hn':n < l.length:=by simpa using hn
 have htl:(l.take n).length=n:=by simp;omega
 have hon:l[n]? = some o:=by
  have:=congrArg (fun x:List Oper=>x[0]?) hl;simpa using this
 have hrest:l.drop (n+1)=rest:=by
  have:=congrArg List.tail hl;simpa using this
 have hrl:rest.length=l.toArray.size - (n+1):=by rw [<- hrest];simp
 have inv0:HeadInv .any l.toArray n (Array.replicate l.toArray.size false):=
  ⟨by simp,fun j oj _ hl=>(by rw [getD_replicate_false] at hl;cases hl),fun t _ ht=>getD_in (by simpa using ht) (getD_replicate_false _ _)⟩
 have H:=midAny_lex (md:=.any) (C:=C) (g:=l.toArray.size - (n+1)) hsel hs hc hn (l.take n) 0 _ a (fun j hj=>by
  have hj':j < n:=by rw [htl] at hj;exact hj
  simp [hj']) (by simpa using htl) inv0 (by rw [htl];exact hlex) h
 refine wp_region_any hm ?_;have:=headAny_any (Q':=Q) (g:=rest.length+1) (fun listed a' w' hw' hL=>by
  obtain ⟨⟨hr,hx⟩,hK⟩:=hL;refine ⟨fun h0=>(by rw [hr] at h0;cases h0),fun i hi=>?_⟩;rw [hr] at hi;have:i=n:=by simpa using hi
  subst this;obtain ⟨f,args,hwant,hrun,hcall⟩:=hK w' hw';have h0:(l.toArray)[i]? = some o:=by simpa using hon
  unfold wpOp;simp only [h0];rw [if_pos hwant];left;unfold Oper.wp;rw [hrun,Oper.upon_enter];refine hcall.mono ?_;rintro e w2 ⟨v,rfl,hq⟩;refine wpAny_of_quiet (Q:=fun a'=>Q .normal a' w2) (C:=(·=w2)) (fun a3 w3 hw3 h3=>by subst hw3;exact h3) _ _ _ _ rfl ?_;refine wpAnyQ_lex hsel rest (i+1) _ _ (fun j=>?_) (by rw [hrl];exact hx) hq;rw [<- hrest,List.getElem?_drop,List.getElem?_toArray]) _ _ _ _ hC H
 rw [htl,hrl,show n+(l.toArray.size - (n+1)+1)=l.toArray.size by omega] at this;exact this
end
end
section
open Go
section
variable {P:Program} {ops:Array Oper} {md:Region.Mode} {C:World->Prop}
def NoP (Q:Exit->Act->World->Prop):Exit->Act->World->Prop
 | .panic _,_,_=>False
 | e,a,w=>Q e a w
theorem NoP.weaken {Q:Exit->Act->World->Prop}:∀ e a w,NoP Q e a w->Q e a w:=by
 intro e a w h;cases e<;>first | exact h | exact h.elim
def wpPure (P:Program) (ops:Array Oper) (Qp:Act->Prop):List Oper->Act->Prop
 | [],a=>Qp a
 | o::rest,a=>∃ v,Yields P ops o v a/\wpPure P ops Qp rest (a.put o.dst v)
theorem p_op {Qp:Act->Prop} {a:Act} {o:Oper} {rest:List Oper} {v:Value} (hw:Region.wanted o (yielded ops a.tmps)=true) (h:∀ w,(execOp a.eval o).run P w=.ok (.value v) w)
 (hk:∀ K:Act->Prop,(∀ a,wpPure P ops Qp rest a->K a)->K (a.put o.dst v)):wpPure P ops Qp (o::rest) a:=
 ⟨v, .inl ⟨hw,h⟩,hk _ fun _ h=>h⟩
theorem p_nil {Qp:Act->Prop} {a:Act} (h:Qp a):wpPure P ops Qp [] a:=h
structure FloatInv (md:Region.Mode) (ops:Array Oper) (lo n:Nat) (listed:Array Bool):Prop where
 head:HeadInv md ops n listed
 low:∀ i,i < lo->listed.getD i true=true
theorem FloatInv.set {lo n i:Nat} {listed:Array Bool} (inv:FloatInv md ops lo n listed) (hi:i∈Region.ready md ops listed) (hin:i < n):FloatInv md ops lo n (listed.setIfInBounds i true):=by
 refine ⟨inv.head.set hi hin,fun j hj=>?_⟩;by_cases e:i=j
 ·subst e;have:=inv.low i hj;have h2:=(mem_ready.1 hi).1;rw [this] at h2;cases h2
 ·rw [getD_set_ne true e];exact inv.low j hj
def floatSink (md:Region.Mode) (ops:Array Oper) (lo n:Nat):Bool:=
 (List.range n).all fun i=>decide (i < lo) || (List.range (n+1)).any fun j=>decide (i < j) && Region.waitsFor md ops j i
theorem float_waits {lo n:Nat} {listed:Array Bool} (hs:floatSink md ops lo n=true) (hc:behindB md ops n=true) (hn:n < ops.size) (inv:FloatInv md ops lo n listed) :
 ∀ (d i:Nat),n - i=d->i < n->listed.getD i true=false->∀ t,n<=t->t ∉ Region.ready md ops listed:=by
 intro d;induction d using Nat.strongRecOn with
 | _ d ih=>
   intro i hd hi hun t ht hr;obtain ⟨_,ot,hot,hall⟩:=mem_ready.1 hr;have htlt:t < ops.size:=(Array.getElem?_eq_some_iff.1 hot).1;by_cases htn:t=n
   ·subst htn;have h1:=List.all_eq_true.1 hs i (List.mem_range.2 hi);simp only [Bool.or_eq_true,decide_eq_true_eq] at h1;rcases h1 with h1 | h1
    ·rw [inv.low i h1] at hun;cases hun
    obtain ⟨j,hj,hj2⟩:=List.any_eq_true.1 h1;simp only [Bool.and_eq_true,decide_eq_true_eq] at hj2;obtain ⟨oj,hoj,e,he,hb,hon⟩:=Region.waitsFor_spec hj2.2;have hjle:j<=t:=by have:=List.mem_range.1 hj;omega
    by_cases hjt:j=t
    ·subst hjt;have:oj=ot:=Option.some.inj (hoj.symm.trans hot);subst this;have h2:=hall e he hb;rw [hon,getD_both hun] at h2;cases h2
    ·cases hl:listed.getD j false with
     | true=>
       have h2:=inv.head.closed j oj hoj hl e he hb;rw [hon,getD_both hun] at h2;cases h2
     | false=>
       have hjs:j < listed.size:=by rw [inv.head.size];omega
       exact ih (t - j) (by omega) j rfl (by omega) (getD_in hjs hl) t (Nat.le_refl _) hr
   ·have h1:=List.all_eq_true.1 hc t (List.mem_range.2 htlt);simp only [Bool.or_eq_true,decide_eq_true_eq] at h1;rcases h1 with h1 | h1
    ·omega
    ·obtain ⟨s,hsr,hs2⟩:=List.any_eq_true.1 h1;simp only [Bool.and_eq_true,decide_eq_true_eq] at hs2;have hst:=List.mem_range.1 hsr;obtain ⟨o',ho',e,he,hb,hon⟩:=Region.waitsFor_spec hs2.2;have:o'=ot:=Option.some.inj (ho'.symm.trans hot);subst this;have h2:=hall e he hb;rw [hon,getD_both (inv.head.tail s hs2.1 (by omega))] at h2;cases h2
theorem floatAny_first {lo n i:Nat} {oi:Oper} {v:Value} {L:Array Bool->Act->Prop} (hi:ops[i]? = some oi) (hsel:∀ (j:Nat) (o:Oper) cs b,ops[j]? = some o->o.op≠.select cs b)
 (hs:floatSink md ops lo n=true) (hc:behindB md ops n=true) (hn:n < ops.size) (hin:i < n)
 (hdone:∀ listed a,L listed a->∀ j∈Region.ready md ops listed,n<=j) (f:Nat) :
 ∀ (listed:Array Bool) (a:Act),FloatInv md ops lo n listed ->
  (∀ j oj,ops[j]? = some oj->j≠i->listed.getD j true=false->(∀ e∈oj.after,Region.binds md e=true->e.on≠i)->oi.apart ops oj=true) ->
  i∈Region.ready md ops listed->YieldsIn P ops C oi v a ->
  headAny P md ops C n L f (listed.setIfInBounds i true) (a.put oi.dst v)->headAny P md ops C n L (f+1) listed a:=by
 induction f with
 | zero=>
   intro listed a inv _ hr hy H;have hun:=(mem_ready.1 hr).1;refine ⟨fun h=>(by rw [h] at hr;cases hr),fun j hj=>?_⟩;have hjn:j < n:=by
    rcases Nat.lt_or_ge j n with h | h
    ·exact h
    ·exact absurd hj (float_waits hs hc hn inv _ i rfl hin hun j h)
   refine ⟨hjn,?_⟩;by_cases hji:j=i
   ·subst hji;exact hy.qOp hi H
   ·have:=hdone _ _ H j (ready_mono hj hji);omega
 | succ f ih=>
   intro listed a inv hfree hr hy H;have hun:=(mem_ready.1 hr).1;refine ⟨fun h=>(by rw [h] at hr;cases hr),fun j hj=>?_⟩;have hjn:j < n:=by
    rcases Nat.lt_or_ge j n with h | h
    ·exact h
    ·exact absurd hj (float_waits hs hc hn inv _ i rfl hin hun j h)
   refine ⟨hjn,?_⟩;by_cases hji:j=i
   ·subst hji;exact hy.qOp hi H
   ·have h1:=(H.2 j (ready_mono hj hji)).2;obtain ⟨hjun,oj,hoj,hall⟩:=mem_ready.1 hj;have hnot:∀ e∈oj.after,Region.binds md e=true->e.on≠i:=fun e he hb heq=>by
     have h1:=hall e he hb;rw [heq,getD_both hun] at h1;cases h1
    have h2:=qOp_put hoj (hfree j oj hoj hji hjun hnot) (fun cs b=>hsel i oi cs b hi) (fun cs b=>hsel j oj cs b hoj) hy h1;have hfree':∀ k ok,ops[k]? = some ok->k≠i->(listed.setIfInBounds j true).getD k true=false ->
     (∀ e∈ok.after,Region.binds md e=true->e.on≠i)->oi.apart ops ok=true:=fun k ok hk hki hun hno=>by
     refine hfree k ok hk hki ?_ hno;by_cases hjk:j=k
     ·subst hjk;exact hjun
     ·rw [getD_set_ne true hjk] at hun;exact hun
    refine qOp_mono (fun a' h3=>ih (listed.setIfInBounds j true) a' (inv.set hj hjn) hfree' (ready_mono hr (Ne.symm hji)) h3.1 ?_) h2;rw [Array.setIfInBounds_comm _ _ hji];exact h3.2
theorem floatAny_lex {lo n g:Nat} {Lq:Act->Prop} (hsel:Region.noSelect ops=true) (hs:floatSink md ops lo n=true) (hc:behindB md ops n=true) (hn:n < ops.size) (l:List Oper) :
 ∀ (k:Nat) (listed:Array Bool) (a:Act),(∀ j,j < l.length->l[j]? = ops[k+j]?)->k+l.length=n->FloatInv md ops lo n listed ->
 Region.lexHead md ops g l.length k listed=true->wpQuiet P ops C Lq l a ->
 headAny P md ops C n (fun listed' a'=>Region.seqB md ops g n listed'=true/\Lq a') l.length listed a:=by
 induction l with
 | nil=>
   intro k listed a _ hk _ hB h;have:k=n:=by simpa using hk
   subst this;exact ⟨by simpa [Region.lexHead] using hB,h⟩
 | cons o l ih=>
   intro k listed a hl hk inv hB h;have h0:ops[k]? = some o:=by simpa using (hl 0 (by simp)).symm
   simp only [List.length_cons,Region.lexHead,Bool.and_eq_true] at hB;obtain ⟨⟨hr,hf⟩,hB'⟩:=hB;have hkn:k < n:=by simp only [List.length_cons] at hk;omega
   have hr':k∈Region.ready md ops listed:=by simpa using hr
   have hst:qOp P ops C k (wpQuiet P ops C Lq l) a:=by unfold qOp;simp only [h0];exact h
   obtain ⟨v,hy,hK⟩:=yieldsIn_of_qOp h0 hst;exact floatAny_first h0 (Region.noSelect_spec hsel) hs hc hn hkn (fun listed' a' hL=>seqB_ready hL.1) l.length listed a inv (Region.free_spec h0 hf) hr' hy
    (ih (k+1) _ _ (fun j hj=>by have:=hl (j+1) (by simp;omega);simpa [Nat.add_assoc,Nat.add_comm 1 j] using this) (by simp only [List.length_cons] at hk;omega) (inv.set hr' hkn) hB' hK)
def lexPure (md:Region.Mode) (ops:Array Oper) (g h:Nat):Nat->Nat->Array Bool->Bool
 | 0,k,listed=>Region.lexHead md ops g h k listed
 | f+1,k,listed=>(Region.ready md ops listed).contains k && Region.free md ops listed k && lexPure md ops g h f (k+1) (listed.setIfInBounds k true)
def floatB (md:Region.Mode) (ops:Array Oper) (lo n:Nat):Bool:=
 Region.noSelect ops && decide (lo<=n) && decide (n < ops.size) && floatSink md ops lo n && behindB md ops n && lexPure md ops (ops.size - n) (n - lo) lo 0 (Array.replicate ops.size false)
theorem floatStart {lo n g h gf:Nat} {Q:Exit->Act->World->Prop} {Lp:Act->Prop} (hsel:Region.noSelect ops=true) (hQ:∀ c a w,¬ Q (.panic c) a w) (hlon:lo<=n) (hn:n < ops.size) (l:List Oper) :
 ∀ (k:Nat) (listed:Array Bool) (a:Act) (w:World),(∀ j,j < l.length->l[j]? = ops[k+j]?)->k+l.length=lo->FloatInv md ops k n listed ->
 lexPure md ops g h l.length k listed=true->wpPure P ops Lp l a ->
 (∀ listed' a',FloatInv md ops lo n listed'->Region.lexHead md ops g h lo listed'=true->Lp a'->wpAny P md ops Q gf listed' a' w) ->
 wpAny P md ops Q (l.length+gf) listed a w:=by
 induction l with
 | nil=>
   intro k listed a w _ hk inv hB h hg;have:k=lo:=by simpa using hk
   subst this;rw [List.length_nil,Nat.zero_add];exact hg listed a inv (by simpa [lexPure] using hB) h
 | cons o l ih=>
   intro k listed a w hl hk inv hB h hg;have h0:ops[k]? = some o:=by simpa using (hl 0 (by simp)).symm
   simp only [List.length_cons,lexPure,Bool.and_eq_true] at hB;obtain ⟨⟨hr,hf⟩,hB'⟩:=hB;obtain ⟨v,hy,hK⟩:=h;have hkl:k < lo:=by simp only [List.length_cons] at hk;omega
   have hr':k∈Region.ready md ops listed:=by simpa using hr
   rw [List.length_cons,show l.length+1+gf=(l.length+gf)+1 by omega];refine wpAny_take h0 hsel hf hr (fun c a w hq=>absurd hq (hQ _ _ _)) hy ?_;refine ih (k+1) _ _ w (fun j hj=>by have:=hl (j+1) (by simp;omega);simpa [Nat.add_assoc,Nat.add_comm 1 j] using this) (by simp only [List.length_cons] at hk;omega) ?_ hB' hK hg;refine ⟨inv.head.set hr' (by omega),fun i hi=>?_⟩;by_cases e:k=i
   ·subst e;exact getD_set_true' (by have:=inv.head.size;omega)
   ·rw [getD_set_ne true e];exact inv.low i (by omega)
where
 getD_set_true' {listed:Array Bool} {i:Nat} (h:i < listed.size):(listed.setIfInBounds i true).getD i true=true:=by
  rw [Array.getD_eq_getD_getElem?,Array.getElem?_setIfInBounds_self_of_lt h];rfl
theorem wp_region_float (C:World->Prop) {id:Nat} {Q:Exit->Act->World->Prop} {a:Act} {w:World} {l:List Oper} (lo n:Nat) (hm:P.follows .mixedOrders=true) (hB:floatB .any l.toArray lo n=true) (hC:C w.drew)
 (h:wpPure P l.toArray (wpQuiet P l.toArray C (fun a'=>∀ w',C w'->wpList P l.toArray (NoP Q) (l.drop n) a' w') ((l.drop lo).take (n - lo))) (l.take lo) a):(Code.region id l.toArray true).wp P Q a w:=by
 refine Code.wp_mono NoP.weaken ?_;simp only [floatB,Bool.and_eq_true,decide_eq_true_eq] at hB;obtain ⟨⟨⟨⟨⟨hsel,hlon⟩,hn⟩,hs⟩,hc⟩,hlex⟩:=hB;have hn':n < l.length:=by simpa using hn
 have htl:(l.take lo).length=lo:=by simp;omega
 have hml:((l.drop lo).take (n - lo)).length=n - lo:=by simp;omega
 have hdl:(l.drop n).length=l.toArray.size - n:=by simp
 have inv0:FloatInv .any l.toArray 0 n (Array.replicate l.toArray.size false):=
  ⟨⟨by simp,fun j oj _ hl=>(by rw [getD_replicate_false] at hl;cases hl),fun t _ ht=>getD_in (by simpa using ht) (getD_replicate_false _ _)⟩,fun i hi=>absurd hi (Nat.not_lt_zero i)⟩
 refine wp_region_any hm ?_;have:=floatStart (P:=P) (md:=.any) (ops:=l.toArray) (lo:=lo) (n:=n) (g:=l.toArray.size - n) (h:=n - lo) (gf:=l.toArray.size - lo) (Q:=NoP Q) hsel (fun c a w h=>h) hlon hn (l.take lo) 0 _ a w.drew (fun j hj=>by
  have hj':j < lo:=by rw [htl] at hj;exact hj
  simp [hj']) (by simpa using htl) inv0 (by rw [htl];exact hlex) h (fun listed' a' inv' hx hq=>by
   have H:=floatAny_lex (md:=.any) (C:=C) (g:=l.toArray.size - n) hsel hs hc hn ((l.drop lo).take (n - lo)) lo listed' a' (fun j hj=>by
    have hj':j < n - lo:=by rw [hml] at hj;exact hj
    simp [hj',List.getElem?_drop]) (by rw [hml];omega) inv' (by rw [hml];exact hx) hq
   have:=headAny_any (Q':=NoP Q) (g:=l.toArray.size - n) (fun listed a' w' hw' hL=>by
    have:=wpAny_of_seq (md:=.any) (Q':=NoP Q) (l.drop n) n listed a' w' (fun j=>by simp [List.getElem?_drop]) (by rw [hdl];exact hL.1) (hL.2 w' hw');rwa [hdl] at this) _ _ _ _ hC H
   rw [hml,show n - lo+(l.toArray.size - n)=l.toArray.size - lo by omega] at this;exact this)
 rw [htl,show lo+(l.toArray.size - lo)=l.toArray.size by omega] at this;exact this
end
end
end Go.Proofs.YthkkgdpomhhjjaaGreatDoor
