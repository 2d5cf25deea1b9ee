/-
  Joined.
-/
import Derived.Test.YthkkgdpomhhjjaaGreatDoorR03
import Derived.Shelf.SlSortCmp.Whole1
import Derived.Ground.SlsfProg
import Derived.Shelf.SlGeneric
import Derived.Test.YthkkgdpomhhjjaaGreatDoorProg
import Derived.Sort.OwnSortedInts
import Derived.Shelf.SlSortCmp.NoneTotal
namespace Go.Proofs.YthkkgdpomhhjjaaGreatDoor
section
open Go.RowKit Go.Maps Go.MapKept
open Go.ChangeMaps (setBlock heap_setBlock_same heap_setBlock_other)
theorem wrap_in {n:Int} (h1:-9223372036854775808<=n) (h2:n<=9223372036854775807):IntKind.i64.wrap n=n:=by
 simp [IntKind.wrap,IntKind.bits,IntKind.signed];omega
set_option maxRecDepth 100000 in
set_option maxHeartbeats 2000000 in
theorem pfPages_any {w:World} {db pf:Nat} {o:Owner} {d:Dsk} {name:Name} (h:DiskAt w db o d) (hp:PfAt w pf db name) (hs:name.size<=1000) :
 Calls Tryz.prog 181 #[ptrTo pf] w fun e w'=>e=.returned (.tuple #[.int .i64 (((d.sizeOf name).1 / 256:Nat):Int), .int .i64 ((d.sizeOf name).2:Int)])/\Below w.heap.size w w':=by
 have H:=Lib.hid h;have HP:=Lib.hid hp;obtain ⟨hb1,hb2⟩:=size_bound h name;have hcall:Hid (∀ W,DiskAt W db o d->Calls Tryz.prog 228 #[ptrTo db, .string name] W fun e w'=>e=.returned (.tuple #[.int .i64 ((d.sizeOf name).1:Int), .int .i64 ((d.sizeOf name).2:Int)])/\Below W.heap.size W w'):=Lib.hid (fun W hW=>size_any hW name hs);clear h hp;unfold ptrTo at hcall ⊢;generalize (d.sizeOf name).1=n at *;generalize (d.sizeOf name).2=c at *;go_enter Tryz.func181,Tryz.ntmps181
 go_wp2;refine wp_region_quiet_in (Below w.heap.size w) (by kernel_rfl) (by kernel_rfl) ((Below.refl _ _).drew) ?_;iterate 3 (refine qo (fun K hK=>?_);go_simp;refine hK _ ?_;clear hK K)
 refine qo (fun K hK=>?_) (fun w' hw'=>by have hc:=(HP.out.below hw').cells.1;unfold ptrTo at hc;go_simp<;>rfl);go_simp;refine hK _ ?_;clear hK K;iterate 3 (refine qo (fun K hK=>?_);go_simp;refine hK _ ?_;clear hK K)
 refine qo (fun K hK=>?_) (fun w' hw'=>by have hc:=(HP.out.below hw').cells.2.1;go_simp<;>rfl);go_simp;refine hK _ ?_;clear hK K;refine qc (fun w' hw'=>(hcall.out w' (H.out.below hw')).mono (fun e w'' h=>⟨h.1,hw'.trans (h.2.mono hw'.size)⟩)) (fun K hK=>?_);go_simp;refine hK _ ?_;clear hK K;iterate 5 (refine qo (fun K hK=>?_);go_simp;refine hK _ ?_;clear hK K)
 refine wpQuiet_nil ?_;intro w3 hw3;go_wp2;go_ret2
 exact ⟨by simp,hw3⟩
def WriteSaid:Prop:=∀ {w:World} {db:Nat} {o:Owner} {d:Dsk},DiskAt w db o d->∀ (name:Name),name.size<=1000->∀ (off:Nat),off<=1099511627776->∀ (sv:Value) (bs:List UInt8),Rd w sv bs->bs.length<=1099511627776->(∀ b,sv.ownBlock=some b->o b=none) ->
    Calls Tryz.prog 230 #[ptrTo db, .string name, .int .i64 (off:Int),sv] w fun e w'=>e=.returned (.int .i64 ((d.write name off bs).2:Int))/\DiskPost w db o (d.write name off bs).1 w'
theorem DiskPost.after {w w1 w2:World} {db:Nat} {o:Owner} {d:Dsk} (hb:Below w.heap.size w w1) (h:DiskPost w1 db o d w2):DiskPost w db o d w2:=by
 obtain ⟨o',h1,h2,h3⟩:=h;exact ⟨o',h1,(Turn.ofBelow hb).trans h2 (fun _ _ hx=>hx),fun x hx=>h3 x (Nat.lt_of_lt_of_le hx hb.size)⟩
theorem DiskPost.then {w w1 w2:World} {db:Nat} {o:Owner} {d:Dsk} (h:DiskPost w db o d w1) (hb:Below w1.heap.size w1 w2):DiskPost w db o d w2:=by
 obtain ⟨o',h1,h2,h3⟩:=h;exact ⟨o',h1.below hb,h2.thenBelow hb,h3⟩
set_option maxRecDepth 100000 in
set_option maxHeartbeats 2000000 in
theorem pfCreate_any {w:World} {db:Nat} {o:Owner} {d:Dsk} (h:DiskAt w db o d) (name:Name) (hs:name.size<=1000) :
 Calls Tryz.prog 105 #[ptrTo db, .string name] w fun e w'=>(∃ v,e=.returned (.tuple #[v, .int .i64 ((d.create name).2:Int)]))/\DiskPost w db o (d.create name).1 w':=by
 have hcall:=Lib.hid (create_any h name hs);clear h;generalize (d.create name).1=d' at *;generalize (d.create name).2=c at *;unfold ptrTo at *;by_cases h0:c=0
 ·subst h0;go_enter Tryz.func105,Tryz.ntmps105
  go_wp2_with fail
  refine hcall.out.mono ?_;rintro e w1 ⟨rfl,hp⟩;go_wp2_with fail
  refine (made_any db name _ hs).mono ?_;rintro e w2 ⟨pf,rfl,-,hb,-⟩;unfold ptrTo;go_wp2;go_ret2
  exact ⟨⟨_,rfl⟩,hp.then hb⟩
 ·have h0':¬ (c:Int)=0:=by omega
  clear h0;go_enter Tryz.func105,Tryz.ntmps105
  go_wp2_with fail
  refine hcall.out.mono ?_;rintro e w1 ⟨rfl,hp⟩;go_wp2;go_ret2
  exact ⟨⟨_,rfl⟩,hp⟩
set_option maxRecDepth 100000 in
set_option maxHeartbeats 2000000 in
theorem pfRead_ok {w:World} {db pf:Nat} {o:Owner} {d:Dsk} {name:Name} (h:DiskAt w db o d) (hp:PfAt w pf db name) (hs:name.size<=1000) (k n:Nat) (b:Pg) (hz:d.sizeOf name=(n,0)) (hk:k < n / 256) (hn:n<=16777216)
 (hr:d.read name (256*k) 256=(mkPage (tagOf name) k b,0)) (hb:b.length<=240) :
 Calls Tryz.prog 196 #[ptrTo pf, .int .i64 (k:Int)] w (NewBytesOk w b):=by
 have hcall:=Lib.hid (pfPages_any h hp hs);rw [hz] at hcall;have H:=Lib.hid h;have HP:=Lib.hid hp;have htag:=tagOf_lt name;have hcall2:Hid (∀ W,DiskAt W db o d->Calls Tryz.prog 237 #[ptrTo db, .string name, .int .i64 ((k:Int)*256), .int .i64 256] W (ReadPost W (mkPage (tagOf name) k b,0))):=Lib.hid (fun W hW=>by
  have:=read_any hW name hs (256*k) 256 (by omega);rw [hr,show ((256*k:Nat):Int)=(k:Int)*256 by omega] at this;exact this)
 have hreads:=Lib.hid (mkPage_reads (tagOf name) k b hb htag (by omega));clear h hp hz hr;unfold ptrTo at *;generalize hT:tagOf name=tag at *;have HT:=Lib.hid hT;clear hT;generalize mkPage tag k b=p at *;obtain ⟨q,hq⟩:∃ q,q=n / 256:=⟨_,rfl⟩;rw [<- hq] at hk hcall;have hqb:q<=65536:=by omega
 clear hq hn;dsimp only at hcall;have hk':¬ ((k:Int) >= (q:Int)):=by omega
 go_enter Tryz.func196,Tryz.ntmps196
 go_wp2_with fail
 refine hcall.out.mono ?_;rintro e w1 ⟨rfl,hb1⟩;have H1:=Lib.hid (H.out.below hb1);have HP1:=Lib.hid (HP.out.below hb1);have HB1:=Lib.hid hb1;clear hb1;obtain ⟨hc0,hc1,hc2⟩:=HP1.out.cells;unfold ptrTo at hc0;go_wp2;have hw256:IntKind.i64.wrap ((k:Int)*256)=(k:Int)*256:=wrap_in (by omega) (by omega);refine wp_region_mid (Below w1.heap.size w1) 10 rfl (by kernel_rfl) (by kernel_rfl) ((Below.refl _ _).drew) ?_;simp only [List.take_succ_cons,List.take_zero];iterate 3 (refine qo (fun K hK=>?_);go_simp;refine hK _ ?_;clear hK K)
 refine qo (fun K hK=>?_) (fun w' hw'=>by have hc:=(HP1.out.below hw').cells.1;unfold ptrTo at hc;go_simp<;>rfl);go_simp;refine hK _ ?_;clear hK K;iterate 3 (refine qo (fun K hK=>?_);go_simp;refine hK _ ?_;clear hK K)
 refine qo (fun K hK=>?_) (fun w' hw'=>by have hc:=(HP1.out.below hw').cells.2.1;go_simp<;>rfl);go_simp;refine hK _ ?_;clear hK K;iterate 2 (refine qo (fun K hK=>?_);go_simp;refine hK _ ?_;clear hK K)
 refine wpQuiet_nil ?_;intro w2 hw2;refine ⟨_,_,rfl,(by go_simp<;>exact ⟨rfl,rfl⟩),?_⟩;refine (hcall2.out _ (H1.out.below hw2)).mono ?_;rintro e w3 ⟨v3,rfl,ho3,hb3⟩;obtain ⟨a3,c3,rfl⟩:=ownsRow_slice ho3;refine ⟨_,rfl,?_⟩;go_simp;iterate 5 (refine qo (fun K hK=>?_);go_simp;refine hK _ ?_;clear hK K)
 refine wpQuiet_nil ?_;have HB2:Hid (Below w.heap.size w w2):=Lib.hid (HB1.out.trans (hw2.mono HB1.out.size));have HB3:Hid (Below w.heap.size w w3):=Lib.hid (HB2.out.trans (hb3.mono HB2.out.size));have HO3:=Lib.hid ho3;have hc3:w3.cell? ⟨pf,2,none⟩=some (.int .u32 (tag:Int)):=by
  have:=((HP1.out.below hw2).below hb3).cells.2.2;rw [HT.out] at this;exact this
 have hk32:k < 4294967296:=by omega
 clear hw2 hb3 ho3 hc0 hc1 hc2 hw256;go_wp2_with fail
 refine (open_any tag k _ b p _ (Rd_own HO3.out) hreads.out hb htag (by omega)).mono ?_;rintro e w4 ⟨v4,rfl,ho4,hb4⟩;go_wp2;go_ret2
 exact ⟨v4,rfl,ownsRow_base ho4 HB3.out.size,HB3.out.trans (hb4.mono HB3.out.size)⟩
theorem pfWrite_size (d:Dsk) (name:Name) (k:Nat) (b:Pg) (n c:Nat) (h:d.sizeOf name=(n,c)):pfWrite d name k b=if c≠0 then (d,c) else if n / 256 < k then (d,1) else d.write name (256*k) (mkPage (tagOf name) k b):=by
 unfold pfWrite;rw [h]
set_option maxRecDepth 100000 in
set_option maxHeartbeats 2000000 in
theorem pfWrite_any (HW:WriteSaid) {w:World} {db pf:Nat} {o:Owner} {d:Dsk} {name:Name} (h:DiskAt w db o d) (hp:PfAt w pf db name) (hs:name.size<=1000) (k:Nat) (hk:k < 65536) (sv:Value) (b:Pg) (hb:b.length<=240) (hv:Rd w sv b) :
 Calls Tryz.prog 182 #[ptrTo pf, .int .i64 (k:Int),sv] w fun e w'=>e=.returned (.int .i64 ((pfWrite d name k b).2:Int))/\DiskPost w db o (pfWrite d name k b).1 w':=by
 have hcall:=Lib.hid (pfPages_any h hp hs);obtain ⟨hn,hc6⟩:=size_bound h name;obtain ⟨n,c,hz⟩:∃ n c,d.sizeOf name=(n,c):=⟨_,_,rfl⟩;have hpw:=Lib.hid (pfWrite_size d name k b n c hz);rw [hz] at hcall hn hc6;have H:=Lib.hid h;have HP:=Lib.hid hp;have HV:=Lib.hid hv;obtain ⟨a0,c0,rfl,-⟩:=hv;have htag:=tagOf_lt name;have hcall2:Hid (∀ W sv p,p.length=256->DiskAt W db o d->Rd W sv p->(∀ b,sv.ownBlock=some b->o b=none)->Calls Tryz.prog 230 #[ptrTo db, .string name, .int .i64 ((k:Int)*256),sv] W fun e w'=>e=.returned (.int .i64 ((d.write name (256*k) p).2:Int))/\DiskPost W db o (d.write name (256*k) p).1 w'):=Lib.hid (fun W sv p hp hW hv hso=>by
  have:=HW hW name hs (256*k) (by omega) sv p hv (by omega) hso;rw [show ((256*k:Nat):Int)=(k:Int)*256 by omega] at this;exact this)
 have hml:=Lib.hid (mkPage_length (tagOf name) k b hb);clear h hp hz;unfold ptrTo at *;generalize hT:tagOf name=tag at *;have HT:=Lib.hid hT;clear hT;obtain ⟨q,hq⟩:∃ q,q=n / 256:=⟨_,rfl⟩;rw [<- hq] at hcall hpw;have hqb:q<=65536:=by omega
 clear hq hn;dsimp only at hcall hc6;by_cases h0:c=0
 ·subst h0;by_cases hkq:q < k
  ·have hr:pfWrite d name k b=(d,1):=by rw [hpw.out,if_neg (by simp),if_pos hkq]
   have HR:=Lib.hid hr;clear hr hpw hml;go_enter Tryz.func182,Tryz.ntmps182
   go_wp2_with fail
   refine hcall.out.mono ?_;rintro e w1 ⟨rfl,hb1⟩;go_wp2;go_ret;rw [HR.out];exact ⟨rfl, .of (H.out.below hb1) (Turn.ofBelow hb1)⟩
  ·have hr:pfWrite d name k b=d.write name (256*k) (mkPage tag k b):=by rw [hpw.out,if_neg (by simp),if_neg hkq]
   have HR:=Lib.hid hr;have hk32:k < 4294967296:=by omega
   clear hr hpw;go_enter Tryz.func182,Tryz.ntmps182
   go_wp2_with fail
   refine hcall.out.mono ?_;rintro e w1 ⟨rfl,hb1⟩;have HB1:=Lib.hid hb1;have hc2:=(HP.out.below hb1).cells.2.2;rw [HT.out] at hc2;clear hb1;go_wp2_with fail
   refine (make_any tag k _ b _ (HV.out.below HB1.out) hb htag (by omega)).mono ?_;rintro e w2 ⟨v2,rfl,ho2,hb2⟩;have HB2:Hid (Below w.heap.size w w2):=Lib.hid (HB1.out.trans (hb2.mono HB1.out.size));have HO2:=Lib.hid (ownsRow_base ho2 HB1.out.size);have HP2:=Lib.hid (HP.out.below HB2.out);generalize hP:mkPage tag k b=p at *;obtain ⟨a2,c2,rfl⟩:=ownsRow_slice ho2;clear hP ho2 hb2 hc2;go_wp2;have hw256:IntKind.i64.wrap ((k:Int)*256)=(k:Int)*256:=wrap_in (by omega) (by omega);refine wp_region_mid (Below w2.heap.size w2) 11 rfl (by kernel_rfl) (by kernel_rfl) ((Below.refl _ _).drew) ?_;simp only [List.take_succ_cons,List.take_zero];iterate 3 (refine qo (fun K hK=>?_);go_simp;refine hK _ ?_;clear hK K)
   refine qo (fun K hK=>?_) (fun w' hw'=>by have hc:=(HP2.out.below hw').cells.1;unfold ptrTo at hc;go_simp<;>rfl);go_simp;refine hK _ ?_;clear hK K;iterate 3 (refine qo (fun K hK=>?_);go_simp;refine hK _ ?_;clear hK K)
   refine qo (fun K hK=>?_) (fun w' hw'=>by have hc:=(HP2.out.below hw').cells.2.1;go_simp<;>rfl);go_simp;refine hK _ ?_;clear hK K;iterate 3 (refine qo (fun K hK=>?_);go_simp;refine hK _ ?_;clear hK K)
   refine wpQuiet_nil ?_;intro w3 hw3;refine ⟨_,_,rfl,(by go_simp<;>exact ⟨rfl,rfl⟩),?_⟩;have HB3:Hid (Below w.heap.size w w3):=Lib.hid (HB2.out.trans (hw3.mono HB2.out.size));have HO3:Hid (w3.ownsRow w.heap.size 5 1 (.slice a2 p.length c2) p.length (p.map bv)):=Lib.hid (ownsRow_base (ownsRow_below HO2.out hw3) (Nat.le_refl _));clear hw3 hw256;refine (hcall2.out _ _ p hml.out (H.out.below HB3.out) (Rd_own HO3.out) (fun b hb=>fresh_none (fun x t hx=>by
    obtain ⟨_,_,_,hd⟩:=H.out;exact hd.owned x t hx) (ownBlock_old HO3.out b hb).2)).mono ?_
   rintro e w4 ⟨rfl,hp4⟩;have HP4:=Lib.hid (DiskPost.after HB3.out hp4);clear hp4;refine ⟨_,rfl,?_⟩;go_simp;refine qo (fun K hK=>?_);go_simp;refine hK _ ?_;clear hK K;refine wpQuiet_nil ?_;go_wp2;go_ret;rw [HR.out];exact ⟨rfl,HP4.out⟩
 ·have h0':¬ (c:Int)=0:=by omega
  have hr:pfWrite d name k b=(d,c):=by rw [hpw.out,if_pos h0]
  have HR:=Lib.hid hr;clear hr hpw h0 hml;go_enter Tryz.func182,Tryz.ntmps182
  go_wp2_with fail
  refine hcall.out.mono ?_;rintro e w1 ⟨rfl,hb1⟩;go_wp2;go_ret;rw [HR.out];exact ⟨rfl, .of (H.out.below hb1) (Turn.ofBelow hb1)⟩
set_option maxRecDepth 100000 in
set_option maxHeartbeats 2000000 in
theorem pfSync_any {w:World} {db pf:Nat} {o:Owner} {d:Dsk} {name:Name} (h:DiskAt w db o d) (hp:PfAt w pf db name) (hs:name.size<=1000) :
 Calls Tryz.prog 122 #[ptrTo pf] w fun e w'=>e=.returned (.int .i64 ((d.sync name).2:Int))/\DiskPost w db o (d.sync name).1 w':=by
 have H:=Lib.hid h;have HP:=Lib.hid hp;have hcall:Hid (∀ W,DiskAt W db o d->Calls Tryz.prog 185 #[ptrTo db, .string name] W fun e w'=>e=.returned (.int .i64 ((d.sync name).2:Int))/\DiskPost W db o (d.sync name).1 w'):=Lib.hid (fun W hW=>sync_any hW name hs);clear h hp;unfold ptrTo at *;generalize (d.sync name).1=d' at *;generalize (d.sync name).2=c at *;go_enter Tryz.func122,Tryz.ntmps122
 go_wp2;refine wp_region_mid (Below w.heap.size w) 8 rfl (by kernel_rfl) (by kernel_rfl) ((Below.refl _ _).drew) ?_;simp only [List.take_succ_cons,List.take_zero];iterate 3 (refine qo (fun K hK=>?_);go_simp;refine hK _ ?_;clear hK K)
 refine qo (fun K hK=>?_) (fun w' hw'=>by have hc:=(HP.out.below hw').cells.1;unfold ptrTo at hc;go_simp<;>rfl);go_simp;refine hK _ ?_;clear hK K;iterate 3 (refine qo (fun K hK=>?_);go_simp;refine hK _ ?_;clear hK K)
 refine qo (fun K hK=>?_) (fun w' hw'=>by have hc:=(HP.out.below hw').cells.2.1;go_simp<;>rfl);go_simp;refine hK _ ?_;clear hK K;refine wpQuiet_nil ?_;intro w3 hw3;refine ⟨_,_,rfl,(by go_simp<;>exact ⟨rfl,rfl⟩),?_⟩;refine (hcall.out _ (H.out.below hw3)).mono ?_;rintro e w4 ⟨rfl,hp4⟩;have HP4:=Lib.hid (DiskPost.after hw3 hp4);clear hp4 hw3;refine ⟨_,rfl,?_⟩;go_simp;refine qo (fun K hK=>?_);go_simp;refine hK _ ?_;clear hK K;refine wpQuiet_nil ?_;go_wp2;go_ret;exact ⟨rfl,HP4.out⟩
theorem RowAt.seven {w:World} {fb:Nat} {l:List Plc} (h:RowAt w fb l) {k:Nat} {v:Value} {f:Frm} (hi:l[k]? = some (v,f)) :
 w.cell? ⟨fb,k*7,none⟩=some (.bool f.full)/\w.cell? ⟨fb,k*7+1,none⟩=some (.string f.name)/\w.cell? ⟨fb,k*7+2,none⟩=some (.int .i64 (f.k:Int))/\w.cell? ⟨fb,k*7+3,none⟩=some v /\
  w.cell? ⟨fb,k*7+4,none⟩=some (.int .i64 0)/\w.cell? ⟨fb,k*7+5,none⟩=some (.bool f.dirty)/\w.cell? ⟨fb,k*7+6,none⟩=some (.bool f.used):=by
 rw [Nat.mul_comm k 7];exact ⟨h.cell (j:=0) hi rfl,h.cell (j:=1) hi rfl,h.cell (j:=2) hi rfl,h.cell (j:=3) hi rfl,h.cell (j:=4) hi rfl,h.cell (j:=5) hi rfl,h.cell (j:=6) hi rfl⟩
def Shaped (l:List Plc):Prop:=∀ p∈l,∃ a c,p.1=.slice a p.2.bytes.length c
theorem PoolIn.shaped {w:World} {pb db fb mb:Nat} {o:Owner} {l:List Plc} {hand mf:Nat} {d:Dsk} (h:PoolIn w pb db fb mb o l hand mf d):Shaped l:=fun p hp=>ownsRow_slice (h.each p hp).1
theorem Shaped.get {l:List Plc} (h:Shaped l) {n k:Nat} (hn:l.length=n) (hk:k < n):∃ a c f,l[k]? = some (.slice a f.bytes.length c,f):=by
 have hkl:k < l.length:=by omega
 obtain ⟨a,c,e⟩:=h l[k] (List.getElem_mem hkl);exact ⟨a,c,l[k].2,by rw [List.getElem?_eq_getElem hkl,<- e]⟩
theorem RowAt.below {w w':World} {fb:Nat} {l:List Plc} (h:RowAt w fb l) (hb:Below w.heap.size w w'):RowAt w' fb l:=h.kept (S:=fun _=>False) (Turn.ofBelow hb) (fun h=>h)
def HeldPost (n:Nat) (w:World) (e:Ending) (w':World):Prop:=∃ r dd:Nat,r<=n/\e=.returned (.tuple #[.int .i64 (r:Int), .int .i64 0, .int .i64 (dd:Int)])/\Below w.heap.size w w'
set_option maxRecDepth 100000 in
set_option maxHeartbeats 2000000 in
theorem held_any {w:World} {pb db fb mb:Nat} {o:Owner} {l:List Plc} {hand mf:Nat} {d:Dsk} (h:PoolIn w pb db fb mb o l hand mf d) :
 Calls Tryz.prog 281 #[ptrTo pb] w (HeldPost l.length w):=by
 have HRow:=Lib.hid h.row;have hn:=h.most;have HS:=Lib.hid h.shaped;obtain ⟨⟨-,hc1,-⟩,-⟩:=h.head.cells;clear h;generalize hN:l.length=n at *;have HN:=Lib.hid hN;clear hN;unfold ptrTo;go_enter Tryz.func281,Tryz.ntmps281
 go_wp2;go_loopw [2,3,4,14] (fun a b c i wr=>∃ k r dd:Nat,k<=n/\r<=k/\dd<=k/\a=.int .i64 (r:Int)/\b=.int .i64 0/\c=.int .i64 (dd:Int)/\i=.int .i64 (k:Int)/\Below w.heap.size w wr) (fun _ _ _ i _=>n - (intOf i).toNat)
 case atStart=>exact ⟨0,0,0,by omega,by omega,by omega,rfl,rfl,rfl,rfl,Below.refl _ _⟩
 case round=>
  obtain ⟨k,r,dd,hk,hr,hd,rfl,rfl,rfl,rfl,hb⟩:=hrel;by_cases hlt:k < n
  ·obtain ⟨a,c,f,hi⟩:=HS.out.get HN.out hlt;obtain ⟨h0,h1,h2,h3,h4,h5,h6⟩:=(HRow.out.below hb).seven hi;have hc1':wr.cell? ⟨pb,1,none⟩=some (.slice (some ⟨fb,0,none⟩) n n):=by rw [hb.cell (p:=⟨pb,1,none⟩) (World.block_lt_of_cell? _ _ hc1)];exact hc1
   have HB:=Lib.hid hb;clear hi hb;cases hfull:f.full<;>cases hdirty:f.dirty<;>rw [hfull] at h0<;>rw [hdirty] at h5<;>clear hfull hdirty;all_goals
    go_wp2;go_roundw
    case rel=>first
     | exact ⟨k+1,r,dd,by omega,by omega,by omega,rfl,rfl,rfl,by go_num,HB.out.alloc HB.out.size _⟩
     | exact ⟨k+1,r+1,dd,by omega,by omega,by omega,by go_num,rfl,rfl,by go_num,HB.out.alloc HB.out.size _⟩
     | exact ⟨k+1,r,dd+1,by omega,by omega,by omega,rfl,rfl,by go_num,by go_num,HB.out.alloc HB.out.size _⟩
     | exact ⟨k+1,r+1,dd+1,by omega,by omega,by omega,by go_num,rfl,by go_num,by go_num,HB.out.alloc HB.out.size _⟩
    case measure=>simp [intOf];omega
  ·obtain rfl:k=n:=by omega
   go_wp2;go_ret3
   exact ⟨r,dd,hr,rfl,hb⟩
set_option maxRecDepth 100000 in
set_option maxHeartbeats 2000000 in
theorem note_any {w:World} {pb db fb mb:Nat} {o:Owner} {l:List Plc} {hand mf:Nat} {d:Dsk} (h:PoolIn w pb db fb mb o l hand mf d) :
 Calls Tryz.prog 240 #[ptrTo pb] w fun e w'=>e=.returned (.tuple #[])/\(∃ mf',PoolIn w' pb db fb mb o l hand mf' d)/\Turn (·=pb) w w':=by
 have hcall:=Lib.hid (held_any h);have H:=Lib.hid h;have hmf:=h.full;have hn:=h.most;clear h;unfold ptrTo at *;go_enter Tryz.func240,Tryz.ntmps240
 go_wp2_with fail
 refine hcall.out.mono ?_;rintro e w1 ⟨r,dd,hr,rfl,hb⟩;have H1:=Lib.hid (H.out.below hb);obtain ⟨⟨-,-,-,-,hc4,hc5⟩,-,hf4,hf5⟩:=H1.out.head.cells;have HB:=Lib.hid hb;clear hb;have hpb:=Lib.hid H1.out.head.lt;obtain ⟨m,hm⟩:∃ m:Nat,m=max mf r:=⟨_,rfl⟩;have hml:m<=l.length:=by omega
 have HM:=Lib.hid hm;clear hm;go_wp2_with (refine wpList_maxNat rfl _ _ _ _ rfl mf r rfl rfl rfl rfl ?_;intro E hE;rw [<- HM.out] at hE;subst hE)
 go_end0
 exact ⟨rfl,⟨E,H1.out.reHead (((Turn.refl (·=pb) w1).setCell _ _ (.inl rfl)).setCell _ _ (.inl rfl)) ((H1.out.head.setFull E).setPins) H1.out.hand hml⟩,(((Turn.ofBelow (S:=(·=pb)) HB.out).setCell ⟨pb,4,none⟩ _ (.inl rfl)).setCell ⟨pb,5,none⟩ _ (.inl rfl))⟩
theorem map_set {l:List Plc} {i:Nat} {q:Plc}:(l.set i q).map (·.2)=(l.map (·.2)).set i q.2:=by rw [List.map_set]
theorem map_get {l:List Plc} {i:Nat} {p:Plc} (h:l[i]? = some p):(l.map (·.2))[i]? = some p.2:=by rw [List.getElem?_map,h];rfl
theorem IsWhere.del {fs:List Frm} {m:List ((Name × Nat) × Nat)} (h:IsWhere fs m) {i:Nat} {fr:Frm} (hi:fs[i]? = some fr) (hf:fr.full=true):IsWhere (fs.set i Frm.none) (mdel m (fr.name,fr.k)):=by
 intro n k j;rw [mget_mdel,get_set (lt_of_get hi)];have hme:=(h fr.name fr.k i).2 ⟨fr,hi,hf,rfl,rfl⟩;constructor
 ·intro hj;by_cases e:(n,k)=(fr.name,fr.k)
  ·rw [if_pos e] at hj;cases hj
  ·rw [if_neg e] at hj;obtain ⟨fj,h1,h2,h3,h4⟩:=(h n k j).1 hj;have hne:j≠i:=by
    rintro rfl;rw [hi] at h1;cases h1;exact e (by rw [h3,h4])
   rw [if_neg hne];exact ⟨fj,h1,h2,h3,h4⟩
 ·rintro ⟨fj,h1,h2,h3,h4⟩;by_cases hne:j=i
  ·rw [if_pos hne] at h1;cases h1;cases h2
  ·rw [if_neg hne] at h1;have hj:=(h n k j).2 ⟨fj,h1,h2,h3,h4⟩;have e:(n,k)≠(fr.name,fr.k):=by
    intro e;cases e;rw [hme] at hj;cases hj;exact hne rfl
   rw [if_neg e];exact hj
theorem IsWhere.put {fs:List Frm} {m:List ((Name × Nat) × Nat)} (h:IsWhere fs m) {i:Nat} {fr x:Frm} (hi:fs[i]? = some fr) (hf:fr.full=false) (hx:x.full=true) (hn:mget m (x.name,x.k)=none):IsWhere (fs.set i x) (mput m (x.name,x.k) i):=by
 intro n k j;rw [mget_mput,get_set (lt_of_get hi)];constructor
 ·intro hj;by_cases e:(n,k)=(x.name,x.k)
  ·rw [if_pos e] at hj;cases hj;rw [if_pos rfl];cases e;exact ⟨x,rfl,hx,rfl,rfl⟩
  ·rw [if_neg e] at hj;obtain ⟨fj,h1,h2,h3,h4⟩:=(h n k j).1 hj;have hne:j≠i:=by
    rintro rfl;rw [hi] at h1;cases h1;rw [hf] at h2;cases h2
   rw [if_neg hne];exact ⟨fj,h1,h2,h3,h4⟩
 ·rintro ⟨fj,h1,h2,h3,h4⟩;by_cases hne:j=i
  ·rw [if_pos hne] at h1;cases h1;rw [if_pos (by rw [h3,h4]),hne]
  ·rw [if_neg hne] at h1;have hj:=(h n k j).2 ⟨fj,h1,h2,h3,h4⟩;have e:(n,k)≠(x.name,x.k):=by
    intro e;cases e;rw [hn] at hj;cases hj
   rw [if_neg e];exact hj
theorem IsWhere.same {fs:List Frm} {m:List ((Name × Nat) × Nat)} (h:IsWhere fs m) {i:Nat} {fr x:Frm} (hi:fs[i]? = some fr) (h1:x.full=fr.full) (h2:x.name=fr.name) (h3:x.k=fr.k):IsWhere (fs.set i x) m:=by
 intro n k j;rw [h n k j,get_set (lt_of_get hi)];by_cases e:j=i
 ·subst e;rw [if_pos rfl,hi];constructor
  ·rintro ⟨f,g1,g2,g3,g4⟩;cases g1;exact ⟨x,rfl,h1.trans g2,h2.trans g3,h3.trans g4⟩
  ·rintro ⟨f,g1,g2,g3,g4⟩;cases g1;exact ⟨fr,rfl,h1.symm.trans g2,h2.symm.trans g3,h3.symm.trans g4⟩
 ·rw [if_neg e]
theorem RowAt.setAll' {w:World} {fb:Nat} {l:List Plc} (h:RowAt w fb l) {i:Nat} (hi:i < l.length) (q:Plc):RowAt (w.setCells fb (i*7) (frmCells q.1 q.2)) fb (l.set i q):=by
 rw [Nat.mul_comm i 7];exact h.setAll hi q
theorem PoolIn.setFrame {w w':World} {pb db fb mb:Nat} {o o':Owner} {l:List Plc} {hand mf:Nat} {d:Dsk} (h:PoolIn w pb db fb mb o l hand mf d) {i:Nat} {q:Plc} (hr:RowAt w' fb (l.set i q)) (ht:Turn (fun x=>x=fb\/x=mb) w w')
 (ho:∀ x t,o x=some t->o' x=some t) (hb:∀ x t,o' x=some t->x < w'.heap.size) (hm:∃ m,WhereMap w' mb m/\IsWhere ((l.map (·.2)).set i q.2) m) (hq:w'.ownsRow 0 5 1 q.1 q.2.bytes.length (q.2.bytes.map bv)/\∀ b,q.1.ownBlock=some b->o' b=some (9,0)) :
 PoolIn w' pb db fb mb o' (l.set i q) hand mf d:=
 h.reRow ht (List.length_set) hr ho hb (by rw [map_set];exact hm) (fun p hp=>by
  rcases List.mem_or_eq_of_mem_set hp with hp | rfl
  ·exact .inl hp
  ·exact .inr hq)
set_option maxRecDepth 100000 in
set_option maxHeartbeats 2000000 in
theorem empty_any {w:World} {pb db fb mb:Nat} {o:Owner} {l:List Plc} {hand mf:Nat} {d:Dsk} (h:PoolIn w pb db fb mb o l hand mf d) {i:Nat} {v:Value} {f:Frm} (hi:l[i]? = some (v,f)) (hf:f.full=true) (hs:f.name.size<=1000) (hk:f.k < 9223372036854775808) :
 Calls Tryz.prog 95 #[ptrTo pb, .int .i64 (i:Int)] w fun e w'=>e=.returned (.tuple #[])/\PoolIn w' pb db fb mb o (l.set i (.slice none 0 0,Frm.none)) hand mf d/\Turn (fun x=>x=fb\/x=mb) w w':=by
 have H:=Lib.hid h;have HI:=Lib.hid hi;have hn:=h.most;have hil:i < l.length:=lt_of_get hi;have HRow:=Lib.hid h.row;obtain ⟨⟨-,hc1,hc2,-⟩,-⟩:=h.head.cells;obtain ⟨h0,h1,h2,h3,h4,h5,h6⟩:=h.row.seven hi;obtain ⟨m,hm1,hm2⟩:=h.wher;have HM1:=Lib.hid hm1;have HM2:=Lib.hid hm2;have hg:=Lib.hid (good_pkey (s:=f.name) (n:=f.k) (by unfold maxLen;omega) hk);have HF:=Lib.hid hf;clear h hi hm1 hm2 h0 h3 h4 h5 h6 hf;unfold ptrTo;generalize hN:l.length=n at *;have HN:=Lib.hid hN;clear hN;go_enter Tryz.func95,Tryz.ntmps95
 go_wp2;go_still_tail 12,(by kernel_rfl)
 refine wpList_del _ rfl _ _ _ rfl 3 keyed_pkey nameNum_inj Tryz.underlying148 mb m rfl HM1.out (f.name,f.k) rfl hg.out ?_;intro es clock hm;have hT:Turn (·=mb) w (setBlock { w with drawn:=w.drawn+1 } mb (.map es clock)):=(Turn.refl (·=mb) w).drew.setBlock mb _ (.inl rfl);have HM3:=Lib.hid hm;have HT3:=Lib.hid hT;clear hm hT;generalize setBlock { w with drawn:=w.drawn+1 } mb (.map es clock)=w3 at *;have HR3:=Lib.hid (HRow.out.kept HT3.out (Owner.ne H.out.ofb H.out.omb (by decide)));have hc1':w3.cell? ⟨pb,1,none⟩=some (.slice (some ⟨fb,0,none⟩) n n):=HT3.out.cell hc1 (Owner.ne H.out.opb H.out.omb (by decide));clear hc1 hc2 h1 h2;obtain ⟨k0,k1,k2,k3,k4,k5,k6⟩:=HR3.out.seven HI.out;have kz:∀ j,w3.frozen? ⟨fb,j,none⟩=false:=HR3.out.free;go_wp2;go_end0
 have hrow:RowAt (w3.setCells fb (i*7) (frmCells (.slice none 0 0) Frm.none)) fb (l.set i (.slice none 0 0,Frm.none)):=HR3.out.setAll' (by rw [HN.out];exact hil) (.slice none 0 0,Frm.none);have hturn:Turn (fun x=>x=fb\/x=mb) w (w3.setCells fb (i*7) (frmCells (.slice none 0 0) Frm.none)):=(HT3.out.mono (fun x _ e=>.inr e)).setCells fb _ _ (.inl (.inl rfl));have hmap:WhereMap (w3.setCells fb (i*7) (frmCells (.slice none 0 0) Frm.none)) mb (mdel m (f.name,f.k)):=HM3.out.turn ((Turn.refl (·=fb) w3).setCells fb _ _ (.inl rfl)) (Owner.ne H.out.omb H.out.ofb (by decide));exact ⟨rfl,H.out.setFrame hrow hturn (fun _ _ h=>h) (fun x t hx=>Nat.lt_of_lt_of_le (H.out.owned x t hx) hturn.size) ⟨_,hmap,HM2.out.del (map_get HI.out) HF.out⟩ ⟨ownsRow_nil _ _ _,fun b hb=>by simp [Value.ownBlock] at hb⟩,hturn⟩
theorem RowAt.drew {w:World} {fb:Nat} {l:List Plc} (h:RowAt w fb l):RowAt w.drew fb l:=h
theorem IsWhere.none {fs:List Frm} {m:List ((Name × Nat) × Nat)} (h:IsWhere fs m) {n:Name} {k:Nat} (hn:∀ (j:Nat) (fj:Frm),fs[j]? = some fj->fj.full=true->fj.name=n->fj.k=k->False):mget m (n,k)=none:=by
 cases e:mget m (n,k) with
 | none=>rfl
 | some j=>
   obtain ⟨fj,h1,h2,h3,h4⟩:=(h n k j).1 e;exact (hn j fj h1 h2 h3 h4).elim
set_option maxRecDepth 100000 in
set_option maxHeartbeats 800000 in
theorem fill_any {w:World} {pb db fb mb:Nat} {o:Owner} {l:List Plc} {hand mf:Nat} {d:Dsk} (h:PoolIn w pb db fb mb o l hand mf d) {i:Nat} {p:Plc} (hi:l[i]? = some p) (hf:p.2.full=false) (f:Frm) {a:Option Addr} {c base:Nat}
 (hv:w.ownsRow base 5 1 (.slice a f.bytes.length c) f.bytes.length (f.bytes.map bv)) (hvo:∀ b,(Value.slice a f.bytes.length c).ownBlock=some b->o b=none)
 (hnew:∀ (j:Nat) (fj:Frm),(l.map (·.2))[j]? = some fj->fj.full=true->fj.name=f.name->fj.k=f.k->False) (hs:f.name.size<=1000) (hk:f.k < 9223372036854775808) (b0:Bool) :
 Calls Tryz.prog 198 #[ptrTo pb, .int .i64 (i:Int), .agg #[.bool b0, .string f.name, .int .i64 (f.k:Int), .slice a f.bytes.length c, .int .i64 0, .bool f.dirty, .bool f.used]] w fun e w'=>e=.returned (.tuple #[]) /\
  (∃ mf',PoolIn w' pb db fb mb (o.put (.slice a f.bytes.length c) (9,0)) (l.set i (.slice a f.bytes.length c,{ f with full:=true })) hand mf' d)/\Turn (fun x=>x=fb\/x=mb\/x=pb) w w':=by
 have H:=Lib.hid h;have HI:=Lib.hid hi;have hn:=h.most;have hil:i < l.length:=lt_of_get hi;have HRow:=Lib.hid h.row;obtain ⟨⟨-,hc1,hc2,-⟩,-⟩:=h.head.cells;obtain ⟨m,hm1,hm2⟩:=h.wher;have HM1:=Lib.hid hm1;have HM2:=Lib.hid hm2;have HV:=Lib.hid hv;have HVO:=Lib.hid hvo;have HNEW:=Lib.hid hnew;have hg:=Lib.hid (good_pkey (s:=f.name) (n:=f.k) (by unfold maxLen;omega) hk);have HF:=Lib.hid hf;have HOW:=Lib.hid h.owned;have hpbl:=h.head.lt;have hfbl:=h.row.lt;have hmbl:=hm1.lt;have hp1:pb≠fb:=Owner.ne h.opb h.ofb (by decide);have hp2:pb≠mb:=Owner.ne h.opb h.omb (by decide);have hp3:mb≠fb:=Owner.ne h.omb h.ofb (by decide);have HP1:=Lib.hid hp1;have HP2:=Lib.hid hp2;have HP3:=Lib.hid hp3;clear h hi hm1 hm2 hf hv hvo hnew hp1 hp2 hp3;unfold ptrTo;generalize hN:l.length=n at *;have HN:=Lib.hid hN;clear hN;go_enter Tryz.func198,Tryz.ntmps198
 go_wp2;have hB1:Below w.heap.size w (w.alloc (.cells #[.bool true, .string f.name, .int .i64 (f.k:Int), .slice a f.bytes.length c, .int .i64 0, .bool f.dirty, .bool f.used] 172)):=(Below.refl _ _).alloc (Nat.le_refl _) _;have hx:=heap_alloc_new w (.cells #[.bool true, .string f.name, .int .i64 (f.k:Int), .slice a f.bytes.length c, .int .i64 0, .bool f.dirty, .bool f.used] 172);have hbxn:w.heap.size < (w.alloc (.cells #[.bool true, .string f.name, .int .i64 (f.k:Int), .slice a f.bytes.length c, .int .i64 0, .bool f.dirty, .bool f.used] 172)).heap.size:=by simp
 generalize w.alloc (.cells #[.bool true, .string f.name, .int .i64 (f.k:Int), .slice a f.bytes.length c, .int .i64 0, .bool f.dirty, .bool f.used] 172)=W1 at *;obtain ⟨bx,hbx⟩:∃ bx,bx=w.heap.size:=⟨_,rfl⟩;rw [<- hbx] at hx;have hxf:bx≠fb:=by omega
 have hxm:bx≠mb:=by omega
 have hxp:bx≠pb:=by omega
 have x0:W1.cell? ⟨bx,0,none⟩=some (.bool true):=by rw [cells_cell hx];rfl
 have x1:W1.cell? ⟨bx,1,none⟩=some (.string f.name):=by rw [cells_cell hx];rfl
 have x2:W1.cell? ⟨bx,2,none⟩=some (.int .i64 (f.k:Int)):=by rw [cells_cell hx];rfl
 have x3:W1.cell? ⟨bx,3,none⟩=some (.slice a f.bytes.length c):=by rw [cells_cell hx];rfl
 have x4:W1.cell? ⟨bx,4,none⟩=some (.int .i64 0):=by rw [cells_cell hx];rfl
 have x5:W1.cell? ⟨bx,5,none⟩=some (.bool f.dirty):=by rw [cells_cell hx];rfl
 have x6:W1.cell? ⟨bx,6,none⟩=some (.bool f.used):=by rw [cells_cell hx];rfl
 have HX:=Lib.hid hx;have HB1:=Lib.hid hB1;have HR1:=Lib.hid (HRow.out.below hB1);have hd1:W1.cell? ⟨pb,1,none⟩=some (.slice (some ⟨fb,0,none⟩) n n):=by rw [hB1.cell (p:=⟨pb,1,none⟩) hpbl];exact hc1
 have hd2:W1.cell? ⟨pb,2,none⟩=some (.map (some mb)):=by rw [hB1.cell (p:=⟨pb,2,none⟩) hpbl];exact hc2
 rw [<- hbx];have HBX:=Lib.hid hbx;have HXF:=Lib.hid hxf;have HXM:=Lib.hid hxm;have HXP:=Lib.hid hxp;obtain ⟨q,hq⟩:∃ q:Plc,l[i]? = some q:=⟨_,HI.out⟩;obtain ⟨qv,qf⟩:=q;obtain ⟨k0,k1,k2,k3,k4,k5,k6⟩:=HR1.out.seven hq;have kz:∀ j,W1.frozen? ⟨fb,j,none⟩=false:=HR1.out.free;clear hx hB1 hbx hxf hxm hxp hc1 hc2 hq;go_still_tail 7,(by kernel_rfl)
 go_wp2;change Code.wp _ _ _ _ (World.drew (World.setCells W1 fb (i*7) (frmCells (.slice a f.bytes.length c) { f with full:=true })));have hrow:RowAt (World.drew (W1.setCells fb (i*7) (frmCells (.slice a f.bytes.length c) { f with full:=true }))) fb (l.set i (.slice a f.bytes.length c,{ f with full:=true })):=(HR1.out.setAll' (by rw [HN.out];exact hil) (.slice a f.bytes.length c,{ f with full:=true })).drew;have ht1:Turn (·=fb) W1 (World.drew (W1.setCells fb (i*7) (frmCells (.slice a f.bytes.length c) { f with full:=true }))):=((Turn.refl (·=fb) W1).setCells fb _ _ (.inl rfl)).drew;generalize World.drew (W1.setCells fb (i*7) (frmCells (.slice a f.bytes.length c) { f with full:=true }))=W2 at *;have e2:W2.cell? ⟨pb,2,none⟩=some (.map (some mb)):=ht1.cell hd2 HP1.out;have y1:W2.cell? ⟨bx,1,none⟩=some (.string f.name):=ht1.cell x1 HXF.out;have y2:W2.cell? ⟨bx,2,none⟩=some (.int .i64 (f.k:Int)):=ht1.cell x2 HXF.out;have HM2':Hid (WhereMap W2 mb m):=Lib.hid ((HM1.out.kept (HB1.out.block mb hmbl)).turn ht1 HP3.out);have HRW:=Lib.hid hrow;have HT2:Hid (Turn (fun x=>x=fb\/x=mb) w W2):=Lib.hid ((Turn.ofBelow HB1.out).trans ht1 (fun x _ e=>.inl e));have HV2:Hid (W2.ownsRow 0 5 1 (.slice a f.bytes.length c) f.bytes.length (f.bytes.map bv)):=Lib.hid (ht1.ownsRow (ownsRow_base (ownsRow_below HV.out HB1.out) (Nat.zero_le _)) (fun b hb e=>by
  have h1:=HVO.out b hb;rw [e,H.out.ofb] at h1;cases h1))
 clear hrow ht1 x0 x1 x2 x3 x4 x5 x6 k0 k1 k2 k3 k4 k5 k6 kz hd1 hd2;go_still_tail 7,(by kernel_rfl)
 refine wpList_put _ rfl _ _ _ _ rfl 3 keyed_pkey nameNum_inj Tryz.underlying148 mb m rfl HM2'.out (f.name,f.k) i rfl rfl hg.out ?_;intro es clock hm;have hT:Turn (·=mb) W2 (setBlock { W2 with drawn:=W2.drawn+1 } mb (.map es clock)):=(Turn.refl (·=mb) W2).drew.setBlock mb _ (.inl rfl);have HM3:=Lib.hid hm;have HT3:=Lib.hid hT;clear hm hT;generalize setBlock { W2 with drawn:=W2.drawn+1 } mb (.map es clock)=W3 at *;have HT4:Hid (Turn (fun x=>x=fb\/x=mb) w W3):=Lib.hid (HT2.out.trans HT3.out (fun x _ e=>.inr e));have HP:Hid (PoolIn W3 pb db fb mb (o.put (.slice a f.bytes.length c) (9,0)) (l.set i (.slice a f.bytes.length c,{ f with full:=true })) hand mf d):=Lib.hid (H.out.setFrame (HRW.out.kept HT3.out (fun e=>HP3.out e.symm)) HT4.out
  (Owner.put_keep HVO.out) (Owner.put_owned (fun x t hx=>Nat.lt_of_lt_of_le (HOW.out x t hx) HT4.out.size) (fun b hb=>Nat.lt_of_lt_of_le (ownBlock_old HV2.out b hb).1 HT3.out.size))
  ⟨_,HM3.out,HM2.out.put (x:={ f with full:=true }) (map_get HI.out) HF.out rfl (HM2.out.none HNEW.out)⟩
  ⟨HT3.out.ownsRow HV2.out (fun b hb e=>by
   have h1:=HVO.out b hb;rw [e,H.out.omb] at h1;cases h1),fun b hb=>Owner.put_at hb⟩)
 have hcall:=Lib.hid (note_any HP.out);unfold ptrTo at hcall;clear e2 y1 y2;go_wp2_with fail
 refine hcall.out.mono ?_;rintro e W4 ⟨rfl,⟨mf',hp4⟩,ht4⟩;have HP4:=Lib.hid hp4;have HT5:=Lib.hid ht4;clear hp4 ht4;go_wp2;go_end0
 exact ⟨rfl,⟨mf',HP4.out⟩,(HT4.out.mono (fun x _ e=>e.elim .inl (fun e=>.inr (.inl e)))).trans HT5.out (fun x _ e=>.inr (.inr e))⟩
def OnDiskPost (w:World) (db:Nat) (d:Dsk) (name:Name) (e:Ending) (w':World):Prop:=
 ∃ (v:Value) (n:Nat),e=.returned (.tuple #[v, .int .i64 (n:Int), .int .i64 (pfOpen d name:Int)])/\Below w.heap.size w w' /\
  (pfOpen d name=0->n=(d.sizeOf name).1 / 256/\∃ pf,v=ptrTo pf/\PfAt w' pf db name/\w.heap.size<=pf)
theorem pfOpen_zero {d:Dsk} {name:Name} (h:pfOpen d name=0):(d.sizeOf name).2=0:=by
 unfold pfOpen at h;split at h
 ·exact h
 ·rename_i h2;omega
set_option maxRecDepth 100000 in
set_option maxHeartbeats 2000000 in
theorem onDisk_any {w:World} {pb db fb mb:Nat} {o:Owner} {l:List Plc} {hand mf:Nat} {d:Dsk} (h:PoolIn w pb db fb mb o l hand mf d) (name:Name) (hs:name.size<=1000) :
 Calls Tryz.prog 119 #[ptrTo pb, .string name] w (OnDiskPost w db d name):=by
 have H:=Lib.hid h;obtain ⟨⟨hc0,-⟩,-⟩:=h.head.cells;have hcall:=Lib.hid (pfOpen_any h.disk name hs);have hsz:=size_bound h.disk name;obtain ⟨hsz1,-⟩:=hsz;clear h;unfold ptrTo at *;by_cases hz:pfOpen d name=0
 ·have hz2:=pfOpen_zero hz;have HZ:=Lib.hid hz;have HZ2:=Lib.hid hz2;rw [hz] at hcall;clear hz hz2;go_enter Tryz.func119,Tryz.ntmps119
  go_wp2_with fail
  refine hcall.out.mono ?_;rintro e w1 ⟨v,rfl,hb1,hy,-⟩;obtain ⟨pf,rfl,hp,hl⟩:=hy rfl;have HB1:=Lib.hid hb1;have HP:=Lib.hid hp;have hcall2:=Lib.hid (pfPages_any (H.out.below hb1).disk hp hs);rw [HZ2.out] at hcall2;have HPF:=Lib.hid (show pf=pf from rfl);clear hb1 hp hy;unfold ptrTo at *;generalize hq:(d.sizeOf name).1 / 256=q at *;have HQ:=Lib.hid hq;clear hq;go_wp2_with fail
  refine hcall2.out.mono ?_;rintro e w2 ⟨rfl,hb2⟩;go_wp2;go_ret3
  refine ⟨_,q,?_,HB1.out.trans (hb2.mono HB1.out.size),fun _=>⟨HQ.out.symm,pf,rfl,HP.out.below hb2,hl⟩⟩;rw [HZ.out];rfl
 ·have hz':¬ (pfOpen d name:Int)=0:=by omega
  have HZ:=Lib.hid hz;generalize hq:pfOpen d name=q at *;have HQ:=Lib.hid hq;clear hz hq;go_enter Tryz.func119,Tryz.ntmps119
  go_wp2_with fail
  refine hcall.out.mono ?_;rintro e w1 ⟨v,rfl,hb1,-,hy⟩;obtain rfl:=hy HZ.out;go_wp2;go_ret3
  exact ⟨_,0,by rw [HQ.out];rfl,hb1,fun h=>absurd (HQ.out.symm.trans h) HZ.out⟩
set_option maxRecDepth 100000 in
set_option maxHeartbeats 2000000 in
theorem poolCreate_any {w:World} {pb db fb mb:Nat} {o:Owner} {l:List Plc} {hand mf:Nat} {d:Dsk} (h:PoolIn w pb db fb mb o l hand mf d) (name:Name) (hs:name.size<=1000) :
 Calls Tryz.prog 71 #[ptrTo pb, .string name] w fun e w'=>e=.returned (.int .i64 ((d.create name).2:Int))/\DiskPost w db o (d.create name).1 w':=by
 obtain ⟨⟨hc0,-⟩,-⟩:=h.head.cells;have hcall:=Lib.hid (pfCreate_any h.disk name hs);clear h;unfold ptrTo at *;generalize (d.create name).1=d' at *;generalize (d.create name).2=c at *;go_enter Tryz.func71,Tryz.ntmps71
 go_wp2_with fail
 refine hcall.out.mono ?_;rintro e w1 ⟨⟨v,rfl⟩,hp⟩;have HP:=Lib.hid hp;clear hp;go_wp2;go_ret;exact ⟨rfl,HP.out⟩
def pagesStep (name:Name) (n:Nat) (f:Frm):Nat:=if f.full=true/\f.dirty=true/\f.name=name then max n (f.k+1) else n
def pagesTo (name:Name) (n0:Nat) (fs:List Frm):Nat:=fs.foldl (pagesStep name) n0
theorem pagesTo_snoc (name:Name) (n0:Nat) {fs:List Frm} {k:Nat} {f:Frm} (h:fs[k]? = some f):pagesTo name n0 (fs.take (k+1))=pagesStep name (pagesTo name n0 (fs.take k)) f:=by
 have hk:=lt_of_get h;have e:fs[k]=f:=by
  rw [List.getElem?_eq_getElem hk] at h;exact Option.some.inj h
 unfold pagesTo;rw [List.take_succ_eq_append_getElem hk,List.foldl_append,e];rfl
theorem pagesTo_le (name:Name) {B:Nat} (fs:List Frm) (h:∀ f∈fs,f.k < B):∀ n0,n0<=B->pagesTo name n0 fs<=B:=by
 induction fs with
 | nil=>intro n0 hn;exact hn
 | cons f fs ih=>
   intro n0 hn;have hf:=h f (by simp);unfold pagesTo at ih ⊢;rw [List.foldl_cons];refine ih (fun g hg=>h g (by simp [hg])) _ ?_;unfold pagesStep;split<;>omega
theorem bytes_ne {a b:ByteArray} (h:a≠b):(a.toList == b.toList)=false:=by
 cases e:(a.toList == b.toList) with
 | false=>rfl
 | true=>exact absurd (WideShapes.bytes_inj (by rw [<- ByteArray.toList_eq,<- ByteArray.toList_eq];exact eq_of_beq e)) h
set_option maxRecDepth 100000 in
set_option maxHeartbeats 2000000 in
theorem pages_any {w:World} {pb db fb mb:Nat} {o:Owner} {l:List Plc} {hand mf:Nat} {d:Dsk} (h:PoolIn w pb db fb mb o l hand mf d) (hks:∀ p∈l,p.2.k < 65536) (name:Name) (hs:name.size<=1000) :
 Calls Tryz.prog 92 #[ptrTo pb, .string name] w fun e w'=>e=.returned (.tuple #[.int .i64 ((if pfOpen d name=0 then pagesTo name ((d.sizeOf name).1 / 256) (l.map (·.2)) else 0:Nat):Int), .int .i64 (pfOpen d name:Int)])/\Below w.heap.size w w':=by
 have H:=Lib.hid h;have HRow:=Lib.hid h.row;have hn:=h.most;have HS:=Lib.hid h.shaped;have HKS:=Lib.hid hks;obtain ⟨⟨-,hc1,-⟩,-⟩:=h.head.cells;have hcall:=Lib.hid (onDisk_any h name hs);obtain ⟨hsz,-⟩:=size_bound h.disk name;clear h hks;unfold ptrTo at *;generalize hN:l.length=n at *;have HN:=Lib.hid hN;clear hN;by_cases hz:pfOpen d name=0
 ·rw [if_pos hz];have HZ:=Lib.hid hz;clear hz;go_enter Tryz.func92,Tryz.ntmps92
  go_wp2_with fail
  refine hcall.out.mono ?_;rintro e w1 ⟨v,q,rfl,hb1,hy⟩;obtain ⟨hq,pf,rfl,-,-⟩:=hy HZ.out;have hq2:q<=65536:=by omega
  have HQ:=Lib.hid hq;rw [HZ.out];have HB1:=Lib.hid hb1;have hd1:w1.cell? ⟨pb,1,none⟩=some (.slice (some ⟨fb,0,none⟩) n n):=by rw [hb1.cell (p:=⟨pb,1,none⟩) (World.block_lt_of_cell? _ _ hc1)];exact hc1
  have HR1:=Lib.hid (HRow.out.below hb1);clear hb1 hy hq hc1 hcall;unfold ptrTo;have hbound:Hid (∀ k,pagesTo name q ((l.map (·.2)).take k)<=65536):=Lib.hid fun k=>pagesTo_le name _ (fun f hf=>by
   obtain ⟨p,hp,rfl⟩:=List.mem_map.1 (List.mem_of_mem_take hf);exact HKS.out p hp) q hq2
  go_wp2;go_loopw [7,28] (fun a i wr=>∃ k:Nat,k<=n/\i=.int .i64 (k:Int)/\a=.int .i64 ((pagesTo name q ((l.map (·.2)).take k):Nat):Int)/\Below w1.heap.size w1 wr) (fun _ i _=>n - (intOf i).toNat)
  case atStart=>exact ⟨0,Nat.zero_le _,rfl,rfl,Below.refl _ _⟩
  case round=>
   obtain ⟨k,hk,rfl,rfl,hb⟩:=hrel;by_cases hlt:k < n
   ·obtain ⟨a,c,f,hi⟩:=HS.out.get HN.out hlt;obtain ⟨h0,h1,h2,h3,h4,h5,h6⟩:=(HR1.out.below hb).seven hi;have hd1':wr.cell? ⟨pb,1,none⟩=some (.slice (some ⟨fb,0,none⟩) n n):=by rw [hb.cell (p:=⟨pb,1,none⟩) (World.block_lt_of_cell? _ _ hd1)];exact hd1
    have hfk:f.k < 65536:=HKS.out _ (List.mem_of_getElem? hi);have HST:=Lib.hid (pagesTo_snoc name q (map_get hi));have hbk:=hbound.out k;have HB:=Lib.hid hb;clear hi hb;obtain ⟨t,ht⟩:∃ t,t=pagesTo name q ((l.map (·.2)).take k):=⟨_,rfl⟩;rw [<- ht] at HST hbk ⊢;clear ht;obtain ⟨full,nm,fk,bs,dirty,used⟩:=f;dsimp only at *;by_cases hnm:nm=name
    case' pos=>have hbq:(nm.toList == name.toList)=true:=by rw [hnm];exact beq_self_eq_true _
    case' neg=>have hbq:(nm.toList == name.toList)=false:=bytes_ne hnm
    all_goals
     have HNM:=Lib.hid hnm;clear hnm;cases full<;>cases dirty
    all_goals
     go_wp2_with (refine wpList_maxNat rfl _ _ _ _ rfl t (fk+1) rfl rfl rfl rfl ?_;intro E hE;have HE:=Lib.hid hE;clear hE)
     go_roundw
     case rel=>
      refine ⟨k+1,by omega,by go_num,?_,HB.out.alloc HB.out.size _⟩;have hnm:=HNM.out;rw [HST.out];first
       | (simp [pagesStep];done)
       | (simp [pagesStep,hnm];done)
       | (rw [HE.out];simp [pagesStep,hnm];done)
     case measure=>simp [intOf];omega
   ·obtain rfl:k=n:=by omega
    go_wp2;go_ret2
    refine ⟨?_,HB1.out.trans (hb.mono HB1.out.size)⟩;rw [List.take_of_length_le (by rw [List.length_map,HN.out];exact Nat.le_refl _),HZ.out,<- HQ.out];rfl
 ·rw [if_neg hz];have hz':¬ (pfOpen d name:Int)=0:=by omega
  go_enter Tryz.func92,Tryz.ntmps92
  go_wp2_with fail
  refine hcall.out.mono ?_;rintro e w1 ⟨v,q2,rfl,hb1,-⟩;go_wp2;go_ret2
  exact ⟨rfl,hb1⟩
end
end Go.Proofs.YthkkgdpomhhjjaaGreatDoor
namespace Go.Proofs
open Go.Shelf
def Tryz.sortInts_ren:Go.Shelf.Ren:=⟨fun | 6=>183 | 15=>87 | 14=>231 | 28=>135 | 29=>136 | 20=>268 | 21=>269 | 22=>270 | 23=>271 | 24=>272 | 25=>273 | 26=>274 | 27=>275 | 46=>295 | 47=>192 | 48=>193 | 49=>296 | 50=>297 | 57=>314 | n=>n,fun | 22=>214 | 24=>3 | 25=>272 | 3=>3 | 39=>159 | 0=>0 | 53=>26 | 55=>62 | 4=>4 | 46=>221 | 45=>220 | 50=>225 | 5=>5 | 9=>9 | 66=>280 | 70=>284 | 76=>313 | 77=>98 | n=>n,fun | n=>n⟩
theorem Tryz.sortInts:Go.Proofs.SlLaysF.n6 Tryz.prog Tryz.sortInts_ren:={
 mixed:=by kernel_rfl
 f6:=⟨Tryz.f183.name,by decide,Tryz.func183.trans (congrArg some (by kernel_rfl))⟩
 f14:=⟨Tryz.f231.name,by decide,Tryz.func231.trans (congrArg some (by kernel_rfl))⟩
 f15:=Tryz.func87.trans (congrArg some (by kernel_rfl))
 f20:=⟨Tryz.f268.name,by decide,Tryz.func268.trans (congrArg some (by kernel_rfl))⟩
 f21:=⟨Tryz.f269.name,by decide,Tryz.func269.trans (congrArg some (by kernel_rfl))⟩
 f22:=⟨Tryz.f270.name,by decide,Tryz.func270.trans (congrArg some (by kernel_rfl))⟩
 f23:=⟨Tryz.f271.name,by decide,Tryz.func271.trans (congrArg some (by kernel_rfl))⟩
 f24:=⟨Tryz.f272.name,by decide,Tryz.func272.trans (congrArg some (by kernel_rfl))⟩
 f25:=⟨Tryz.f273.name,by decide,Tryz.func273.trans (congrArg some (by kernel_rfl))⟩
 f26:=⟨Tryz.f274.name,by decide,Tryz.func274.trans (congrArg some (by kernel_rfl))⟩
 f27:=⟨Tryz.f275.name,by decide,Tryz.func275.trans (congrArg some (by kernel_rfl))⟩
 f28:=Tryz.func135.trans (congrArg some (by kernel_rfl))
 f29:=Tryz.func136.trans (congrArg some (by kernel_rfl))
 f46:=⟨Tryz.f295.name,by decide,Tryz.func295.trans (congrArg some (by kernel_rfl))⟩
 f47:=Tryz.func192.trans (congrArg some (by kernel_rfl))
 f48:=Tryz.func193.trans (congrArg some (by kernel_rfl))
 f49:=⟨Tryz.f296.name,by decide,Tryz.func296.trans (congrArg some (by kernel_rfl))⟩
 f50:=⟨Tryz.f297.name,by decide,Tryz.func297.trans (congrArg some (by kernel_rfl))⟩
 f57:=⟨Tryz.f314.name,by decide,Tryz.func314.trans (congrArg some (by kernel_rfl))⟩
 t0:=Tryz.underlying0
 a0:=Tryz.isAgg0
 z0:=Tryz.sizeOf0
 v0:=Tryz.zeroValue0
 t3:=Tryz.underlying3
 a3:=Tryz.isAgg3
 z3:=Tryz.sizeOf3
 v3:=Tryz.zeroValue3
 t4:=Tryz.underlying4
 a4:=Tryz.isAgg4
 z4:=Tryz.sizeOf4
 v4:=Tryz.zeroValue4
 t5:=Tryz.underlying5
 a5:=Tryz.isAgg5
 z5:=Tryz.sizeOf5
 v5:=Tryz.zeroValue5
 t9:=Tryz.underlying9
 a9:=Tryz.isAgg9
 z9:=Tryz.sizeOf9
 v9:=Tryz.zeroValue9
 t22:=Tryz.underlying214
 a22:=Tryz.isAgg214
 z22:=Tryz.sizeOf214
 v22:=Tryz.zeroValue214
 a24:=Tryz.isAgg3
 z24:=Tryz.sizeOf3
 t25:=Tryz.underlying272
 a25:=Tryz.isAgg272
 z25:=Tryz.sizeOf272
 v25:=Tryz.zeroValue272
 t39:=Tryz.underlying159
 a39:=Tryz.isAgg159
 z39:=Tryz.sizeOf159
 v39:=Tryz.zeroValue159
 t45:=Tryz.underlying220
 a45:=Tryz.isAgg220
 z45:=Tryz.sizeOf220
 v45:=Tryz.zeroValue220
 t46:=Tryz.underlying221
 a46:=Tryz.isAgg221
 z46:=Tryz.sizeOf221
 v46:=Tryz.zeroValue221
 t50:=Tryz.underlying225
 a50:=Tryz.isAgg225
 z50:=Tryz.sizeOf225
 v50:=Tryz.zeroValue225
 t53:=Tryz.underlying26
 a53:=Tryz.isAgg26
 z53:=Tryz.sizeOf26
 v53:=Tryz.zeroValue26
 t55:=Tryz.underlying62
 a55:=Tryz.isAgg62
 z55:=Tryz.sizeOf62
 v55:=Tryz.zeroValue62
 t66:=Tryz.underlying280
 a66:=Tryz.isAgg280
 z66:=Tryz.sizeOf280
 v66:=Tryz.zeroValue280
 t70:=Tryz.underlying284
 a70:=Tryz.isAgg284
 z70:=Tryz.sizeOf284
 v70:=Tryz.zeroValue284
 t76:=Tryz.underlying313
 a76:=Tryz.isAgg313
 z76:=Tryz.sizeOf313
 v76:=Tryz.zeroValue313
 t77:=Tryz.underlying98
 a77:=Tryz.isAgg98
 z77:=Tryz.sizeOf98
 v77:=Tryz.zeroValue98 }
end Go.Proofs
namespace Go.Proofs.YthkkgdpomhhjjaaGreatDoor
section
open Go.RowKit
section
variable {α:Type} [Inhabited α]
theorem holds_of_block (enc:α->Value) {w:World} {g:Nat} {cur:Array Value} {e:TypeId} {ss:List α} (hb:w.heap[g]? = some (.cells cur e (0,0))) (ht:cur.toList.take ss.length=ss.map enc):Go.Sort.Holds enc w g 0 ss.toArray:=by
 intro j hj;have hj':j < ss.length:=by simpa using hj
 refine ⟨?_,by simp [World.frozen?,hb]⟩;have h1:(cur.toList.take ss.length)[j]? = (ss.map enc)[j]? := by rw [ht]
 rw [List.getElem?_take_of_lt hj'] at h1;simp only [World.cell?,hb,Nat.zero_add];simp only [Option.isSome_none,Bool.false_eq_true,if_false];rw [<- Array.getElem?_toList,h1];simp [hj']
theorem heap_sorted (enc:α->Value) {w:World} {g n:Nat} {os:Array Obj} {cur:Array Value} {e:TypeId} {fr:Nat × Nat} (d:Array α) (hb:w.heap[g]? = some (.cells cur e fr)) :
 (Go.Sort.grow (Go.Sort.putRow enc (Go.Sort.ahead w n) g 0 d) os).heap[g]? = some (.cells (Go.Sort.putCells enc 0 d cur) e fr):=by
 have hg:g < w.heap.size:=(Array.getElem?_eq_some_iff.1 hb).1;rw [Go.Sort.heap_grow_old _ _ (by simpa using hg)];simp [Go.Sort.putRow,Go.Sort.mapBlock,Go.Sort.ahead,Array.getElem?_modify,hb,Go.Sort.onCells]
theorem turn_sorted (enc:α->Value) {w:World} {g n:Nat} {os:Array Obj} (d:Array α):Turn (·=g) w (Go.Sort.grow (Go.Sort.putRow enc (Go.Sort.ahead w n) g 0 d) os):=by
 refine ⟨rfl,rfl,rfl,by simp,fun k hk hne=>?_⟩;rw [Go.Sort.heap_grow_old _ _ (by simpa using hk)];have:g≠k:=fun e=>hne e.symm;simp [Go.Sort.putRow,Go.Sort.mapBlock,Go.Sort.ahead,Array.getElem?_modify,this]
theorem take_putCells (enc:α->Value) (cur:Array Value) (ts:List α) (h:ts.length<=cur.size):(Go.Sort.putCells enc 0 ts.toArray cur).toList.take ts.length=ts.map enc:=by
 apply List.ext_getElem?;intro j;by_cases hj:j < ts.length
 ·rw [List.getElem?_take_of_lt hj,Array.getElem?_toList];simp [Go.Sort.putCells,hj,show j < cur.size by omega]
 ·rw [List.getElem?_take_eq_none (by omega),List.getElem?_eq_none (by simp;omega)]
theorem ownsRow_sorted (enc:α->Value) {w:World} {base g cap n:Nat} {e:TypeId} {os:Array Obj} {cur:Array Value} {ss ts:List α} (hl:ts.length=ss.length) (hbase:base<=g) (hb:w.heap[g]? = some (.cells cur e (0,0)))
 (h1:ss.length<=cap) (h2:cap<=maxLen) (h3:cur.size=cap*1) :
 (Go.Sort.grow (Go.Sort.putRow enc (Go.Sort.ahead w n) g 0 ts.toArray) os).ownsRow base e 1 (.slice (some ⟨g,0,none⟩) ss.length cap) ss.length (ts.map enc):=
 ⟨by simp [hl], .inr ⟨g,cap,_,rfl,hbase,heap_sorted enc _ hb,h1,h2,by simp [Go.Sort.putCells,h3],by rw [Nat.mul_one,<- hl];exact take_putCells enc cur ts (by omega)⟩⟩
end
def SortPost {α:Type} [Inhabited α] (enc:α->Value) (cf:α->α->Int) (w:World) (base:Nat) (elem:TypeId) (g len cap:Nat) (ss:List α) (e:Ending) (w':World):Prop:=
 e=.returned (.tuple #[])/\∃ ts:List α,ts.Perm ss/\ts.Pairwise (fun x y=>¬ cf y x < 0)/\w'.ownsRow base elem 1 (.slice (some ⟨g,0,none⟩) len cap) len (ts.map enc)/\Turn (·=g) w w'
theorem sortInts_any {α:Type} [Inhabited α] (enc:α->Value) (h1:OneCell enc) (cf:α->α->Int) (hO:Go.Sort.SWO (ltOf cf)) (f:Nat) (cb:Array Value) {w:World} {base g len cap:Nat} {elem:TypeId} {ss:List α} (hl:ss.length=len) (hbig:len < 4611686018427387904)
 (hown:w.ownsRow base elem 1 (.slice (some ⟨g,0,none⟩) len cap) len (ss.map enc)) (eg:∀ args w,(callFunc f args).run Tryz.prog w=.ok (.enter f args) w) (hcmp:CmpLays1 Tryz.prog f cb enc cf g 0 len w) :
 Calls Tryz.prog 183 #[.slice (some ⟨g,0,none⟩) len cap, .func (.func f) #[] cb] w (SortPost enc cf w base elem g len cap ss):=by
 obtain ⟨hlen,⟨h0,_⟩ | ⟨g',cap',cur,hv,hg,hh,hn,hm,hcs,hx⟩⟩:=hown
 ·cases h0
 cases hv;rw [Nat.mul_one] at hx;have hH:=holds_of_block enc (ss:=ss) hh (by rw [hl];exact hx);have hsz:ss.toArray.size=len:=by simpa using hl
 have hcon:=Any.slices_SortFunc Tryz.sortInts enc h1 cf hO f cb g 0 cap ss.toArray w eg (by rw [hsz];exact hcmp) hH (Array.getElem?_eq_some_iff.1 hh).1 (by rw [hsz];exact hbig);rw [hsz] at hcon;refine hcon.mono ?_;rintro e w' ⟨rfl,d',n,os,hp,hs,rfl⟩;obtain ⟨hp1,_,hp3⟩:=hp;rw [hsz] at hp1;have hd':d'=d'.toList.toArray:=by simp
 have hdl:d'.toList.length=ss.length:=by rw [Array.length_toList,hp1,hl]
 refine ⟨rfl,d'.toList,?_,?_,?_,turn_sorted enc d'⟩
 ·have e1:(d'.extract 0 len).toList=d'.toList:=by rw [<- hp1];simp
  have e2:(ss.toArray.extract 0 len).toList=ss:=by rw [<- hsz];simp
  rw [e1,e2] at hp3;exact hp3
 ·rw [List.pairwise_iff_getElem];intro i j hi hj hij;have h2:=hs i j (Nat.zero_le _) hij (by rw [<- hp1];simpa using hj);unfold ltOf at h2;rw [decide_eq_false_iff_not] at h2;rw [Array.length_toList] at hi hj;rw [getElem!_pos d' j hj,getElem!_pos d' i hi] at h2;simpa using h2
 ·have:=ownsRow_sorted enc (w:=w) (base:=base) (g:=g) (cap:=cap) (n:=n) (os:=os) (ss:=ss) (ts:=d'.toList) hdl hg hh (by omega) hm hcs;rw [hl] at this;unfold sortWorld;simpa using this
end
section
open Go.RowKit Go.Maps Go.MapKept
open Go.ChangeMaps (setBlock heap_setBlock_same heap_setBlock_other)
theorem info_int:(Tryz.prog.info? 3).map (fun i=>(i.zero,i.size,i.bytes))=some (some (.int .i64 0),1,8):=by kernel_rfl
def told (fs:List Frm) (name:Name) (lo hi:Nat) (k:Nat):List Nat:=(List.range k).filter (fun i=>isDirty name lo hi (fs.getD i Frm.none))
theorem told_succ {fs:List Frm} {name:Name} {lo hi k:Nat} {f:Frm} (h:fs[k]? = some f):told fs name lo hi (k+1)=if isDirty name lo hi f=true then told fs name lo hi k++[k] else told fs name lo hi k:=by
 unfold told;rw [List.range_succ,List.filter_append,List.filter_cons,getD_of h];split
 ·rfl
 ·simp
theorem told_lt {fs:List Frm} {name:Name} {lo hi k:Nat}:∀ i∈told fs name lo hi k,i < k:=fun i hi=>by
 unfold told at hi;exact List.mem_range.1 (List.mem_filter.1 hi).1
theorem told_length (fs:List Frm) (name:Name) (lo hi k:Nat):(told fs name lo hi k).length<=k:=by
 unfold told;have:=List.length_filter_le (fun i=>isDirty name lo hi (fs.getD i Frm.none)) (List.range k);simpa using this
theorem told_told (fs:List Frm) (name:Name) (lo hi:Nat) {ls:List Nat} (hp:ls.Perm (told fs name lo hi fs.length)) (hr:ls.Pairwise (fun a b=>kOf fs a<=kOf fs b)):Told fs name lo hi ls:=by
 refine ⟨fun i=>?_,hr,hp.nodup_iff.2 ?_⟩
 ·rw [hp.mem_iff];unfold told;rw [List.mem_filter,List.mem_range];constructor
  ·rintro ⟨h1,h2⟩;refine ⟨fs[i],List.getElem?_eq_getElem h1,?_⟩;rw [getD_of (List.getElem?_eq_getElem h1)] at h2;exact h2
  ·rintro ⟨fr,h1,h2⟩;exact ⟨lt_of_get h1,by rw [getD_of h1];exact h2⟩
 ·unfold told;exact List.nodup_range.filter _
def encN (i:Nat):Value:=.int .i64 (i:Int)
set_option maxRecDepth 100000 in
set_option maxHeartbeats 1000000 in
theorem dirtyCmp_any {W:World} {bx pb fb n i j ki kj:Nat} (h0:W.cell? ⟨bx,0,none⟩=some (ptrTo pb)) (h1:W.cell? ⟨pb,1,none⟩=some (.slice (some ⟨fb,0,none⟩) n n)) (hi:i < n) (hj:j < n)
 (h2:W.cell? ⟨fb,i*7+2,none⟩=some (.int .i64 (ki:Int))) (h3:W.cell? ⟨fb,j*7+2,none⟩=some (.int .i64 (kj:Int))) (hki:ki < 65536) (hkj:kj < 65536) :
 Calls Tryz.prog 184 #[.int .i64 (i:Int), .int .i64 (j:Int), .pointer (some ⟨bx,0,none⟩)] W fun e w'=>e=.returned (.int .i64 ((ki:Int) - (kj:Int)))/\∃ q,w'=W.drewN q:=by
 unfold ptrTo at h0;have hw:IntKind.i64.wrap ((ki:Int) - (kj:Int))=(ki:Int) - (kj:Int):=wrap_in (by omega) (by omega);go_enter Tryz.func184,Tryz.ntmps184
 go_wp2;go_quiet (fail)
 go_wp2;go_ret;exact ⟨rfl,_,rfl⟩
theorem sortTold_any {fs:List Frm} {name:Name} {lo hi:Nat} {wr:World} {base g cap n hand bx pb fb:Nat} {kOfs:Nat->Nat} (ho:wr.ownsRow base 3 1 (.slice (some ⟨g,0,none⟩) (told fs name lo hi n).length cap) (told fs name lo hi n).length ((told fs name lo hi n).map encN))
 (hh:hand < n) (hlt:∀ i∈told fs name lo hi n,i < n) (hle:(told fs name lo hi n).length<=n) (hn:n<=4096) (h0:wr.cell? ⟨bx,0,none⟩=some (ptrTo pb)) (h1:wr.cell? ⟨pb,1,none⟩=some (.slice (some ⟨fb,0,none⟩) n n))
 (hk:∀ i,i < n->wr.cell? ⟨fb,i*7+2,none⟩=some (.int .i64 ((kOfs i:Nat):Int))/\kOfs i < 65536) (g1:bx≠g) (g2:pb≠g) (g3:fb≠g) :
 Calls Tryz.prog 183 #[.slice (some ⟨g,0,none⟩) (told fs name lo hi n).length cap, .func (.func 184) #[] #[.pointer (some ⟨bx,0,none⟩)]] wr fun e w'=>∃ ls:List Nat,e=.returned (.tuple #[])/\ls.Perm (told fs name lo hi n) /\
  ls.Pairwise (fun a b=>kOfs a<=kOfs b)/\w'.ownsRow base 3 1 (.slice (some ⟨g,0,none⟩) (told fs name lo hi n).length cap) (told fs name lo hi n).length (ls.map encN)/\Turn (·=g) wr w':=by
 generalize told fs name lo hi n=ts at *;letI:Inhabited (Fin n):=⟨⟨hand,hh⟩⟩
 let ss:List (Fin n):=ts.attach.map (fun x=>⟨x.1,hlt x.1 x.2⟩)
 have hssv:ss.map (fun x=>x.1)=ts:=by
  simp only [ss,List.map_map,Function.comp_def];exact List.attach_map_subtype_val ts
 have hsse:ss.map (fun x:Fin n=>encN x.1)=ts.map encN:=by
  have:=congrArg (List.map encN) hssv;rw [List.map_map] at this;exact this
 have hssl:ss.length=ts.length:=by simp [ss]
 have hltO:∀ x y:Fin n,ltOf (fun x y:Fin n=>((kOfs x.1:Nat):Int) - ((kOfs y.1:Nat):Int)) x y=decide (kOfs x.1 < kOfs y.1):=fun x y=>by
  show decide (((kOfs x.1:Nat):Int) - ((kOfs y.1:Nat):Int) < 0)=_;by_cases h:kOfs x.1 < kOfs y.1
  ·rw [decide_eq_true h,decide_eq_true (by omega)]
  ·rw [decide_eq_false h,decide_eq_false (by omega)]
 have hcmp:CmpReads Tryz.prog 184 #[.pointer (some ⟨bx,0,none⟩)] (fun x:Fin n=>encN x.1) (fun x y=>((kOfs x.1:Nat):Int) - ((kOfs y.1:Nat):Int)) g 0 ts.length wr:=fun m os dk _ x y=>by
  have ht:Turn (·=g) wr (sortWorld (fun x:Fin n=>encN x.1) wr g 0 m dk os):=turn_sorted _ dk;exact dirtyCmp_any (ht.cell h0 g1) (ht.cell h1 g2) x.2 y.2 (ht.cell (hk x.1 x.2).1 g3) (ht.cell (hk y.1 y.2).1 g3) (hk x.1 x.2).2 (hk y.1 y.2).2
 refine (sortInts_any (fun x:Fin n=>encN x.1) (fun _=>rfl) (fun x y=>((kOfs x.1:Nat):Int) - ((kOfs y.1:Nat):Int)) ⟨fun x=>by rw [hltO];simp,fun x y z h1 h2=>by rw [hltO] at *;simp at *;omega,fun x y z h1 h2=>by rw [hltO] at *;simp at *;omega⟩
  184 #[.pointer (some ⟨bx,0,none⟩)] (ss:=ss) hssl (by omega) (by rw [hsse];exact ho) (enters_of Tryz.func184 (by kernel_rfl) rfl) hcmp.lays).mono ?_
 rintro e w' ⟨rfl,tl,hp,hr,ho',ht⟩;refine ⟨tl.map (fun x=>x.1),rfl,?_,?_,?_,ht⟩
 ·rw [<- hssv];exact hp.map _
 ·rw [List.pairwise_map];exact hr.imp (fun {a b} h=>by
   have h':¬ (((kOfs b.1:Nat):Int) - ((kOfs a.1:Nat):Int) < 0):=h;show kOfs a.1<=kOfs b.1;omega)
 ·rw [List.map_map];exact ho'
def DirtyPost (w:World) (fs:List Frm) (name:Name) (lo hi:Nat) (e:Ending) (w':World):Prop:=
 ∃ v ls,e=.returned v/\w'.ownsRow w.heap.size 3 1 v ls.length (ls.map encN)/\Told fs name lo hi ls/\Below w.heap.size w w'
set_option maxRecDepth 100000 in
set_option maxHeartbeats 4000000 in
theorem dirty_any {w:World} {pb db fb mb:Nat} {o:Owner} {l:List Plc} {hand mf:Nat} {d:Dsk} (h:PoolIn w pb db fb mb o l hand mf d) (hks:∀ p∈l,p.2.k < 65536) (name:Name) (lo hi:Nat) :
 Calls Tryz.prog 121 #[ptrTo pb, .string name, .int .i64 (lo:Int), .int .i64 (hi:Int)] w (DirtyPost w (l.map (·.2)) name lo hi):=by
 obtain ⟨i0,hi0,hz0,hz1,hz2⟩:=info_parts info_int;have H:=Lib.hid h;have HRow:=Lib.hid h.row;have hn:=h.most;have HS:=Lib.hid h.shaped;have HKS:=Lib.hid hks;have hpbl:=h.head.lt;have hfbl:=h.row.lt;have hhand:=h.hand;obtain ⟨⟨-,hc1,-⟩,-⟩:=h.head.cells;clear h hks;unfold ptrTo;generalize hN:l.length=n at *;have HN:=Lib.hid hN;clear hN;go_enter Tryz.func121,Tryz.ntmps121
 have hb1:Below w.heap.size w (w.alloc (.cells #[.pointer (some ⟨pb,0,none⟩)] 72)):=(Below.refl _ _).alloc (Nat.le_refl _) _;have hx:=heap_alloc_new w (.cells #[.pointer (some ⟨pb,0,none⟩)] 72);have hsz:w.heap.size < (w.alloc (.cells #[.pointer (some ⟨pb,0,none⟩)] 72)).heap.size:=by simp
 have hd1:(w.alloc (.cells #[.pointer (some ⟨pb,0,none⟩)] 72)).cell? ⟨pb,1,none⟩=some (.slice (some ⟨fb,0,none⟩) n n):=by rw [hb1.cell (p:=⟨pb,1,none⟩) hpbl];exact hc1
 have HR1:=Lib.hid (HRow.out.below hb1);have HB1:=Lib.hid hb1;have HX:=Lib.hid hx;clear hb1 hx hc1;go_wp2_with fail
 generalize w.alloc (.cells #[.pointer (some ⟨pb,0,none⟩)] 72)=W1 at *;go_loopw [9,17] (fun v i wr=>∃ k:Nat,k<=n/\i=.int .i64 (k:Int)/\wr.ownsRow (w.heap.size+1) 3 1 v (told (l.map (·.2)) name lo hi k).length ((told (l.map (·.2)) name lo hi k).map encN)/\Below (w.heap.size+1) W1 wr) (fun _ i _=>n - (intOf i).toNat)
 case atStart=>exact ⟨0,Nat.zero_le _,rfl,ownsRow_nil _ _ _,Below.refl _ _⟩
 case round=>
  obtain ⟨k,hk,rfl,ho,hb⟩:=hrel;by_cases hlt:k < n
  ·obtain ⟨a,c,f,hi'⟩:=HS.out.get HN.out hlt;have hrow:RowAt wr fb l:=HR1.out.kept (S:=fun x=>w.heap.size+1<=x) ⟨hb.os,hb.tape,hb.output,hb.size,fun x _ hx=>hb.block x (by omega)⟩ (by omega);obtain ⟨h0,h1,h2,h3,h4,h5,h6⟩:=hrow.seven hi';have hd1':wr.cell? ⟨pb,1,none⟩=some (.slice (some ⟨fb,0,none⟩) n n):=by rw [hb.cell (p:=⟨pb,1,none⟩) (show pb < w.heap.size+1 by omega)];exact hd1
   have hfk:f.k < 65536:=HKS.out _ (List.mem_of_getElem? hi');have HST:=Lib.hid (told_succ (name:=name) (lo:=lo) (hi:=hi) (map_get hi'));have htl:=told_length (l.map (·.2)) name lo hi k;have HB:=Lib.hid hb;have HO:=Lib.hid ho;have hbs:w.heap.size+1<=wr.heap.size:=Nat.le_trans hsz hb.size;clear hi' hb hrow ho;obtain ⟨t,ht⟩:∃ t,t=told (l.map (·.2)) name lo hi k:=⟨_,rfl⟩;rw [<- ht] at HST htl HO;clear ht;obtain ⟨full,nm,fk,bs,dirty,used⟩:=f;dsimp only at *;cases full with
   | false=>
     go_wp2;go_roundw
     case rel=>
      refine ⟨k+1,by omega,by go_num,?_,HB.out.alloc hbs _⟩;have e:=HST.out;rw [if_neg (by simp [isDirty])] at e;rw [e];exact HO.out.alloc _
     case measure=>simp [intOf];omega
   | true=>
     cases dirty with
     | false=>
       go_wp2;go_roundw
       case rel=>
        refine ⟨k+1,by omega,by go_num,?_,HB.out.alloc hbs _⟩;have e:=HST.out;rw [if_neg (by simp [isDirty])] at e;rw [e];exact HO.out.alloc _
       case measure=>simp [intOf];omega
     | true=>
       by_cases hnm:nm=name
       ·have hbq:(nm.toList == name.toList)=true:=by rw [hnm];exact beq_self_eq_true _
        have HNM:=Lib.hid hnm;clear hnm;by_cases hl1:lo<=fk
        ·by_cases hl2:fk < hi
         ·have hl1':((fk:Int) >= (lo:Int)):=by omega
          have hl2':((fk:Int) < (hi:Int)):=by omega
          go_wp2_with (at_builtin;refine wpList_append_own _ rfl _ _ 214 rfl (w.heap.size+1) 3 i0 (.int .i64 0) 1 8 Tryz.underlying214 hi0 hz0 hz1 hz2 rfl (by decide) _ _ _ rfl ((HO.out.alloc _).alloc _) ⟨wr.heap.size+1,0,none⟩ 1 1 [encN k] rfl rfl ?c1 ?c2 ?c3 ?c4 ?c5 ?_)
          case c1=>
           intro j u hj;match j,hj with
           | 0,hj=>
             cases hj;simp [Addr_add,encN]
          case c2=>simp [encN,Value.oneCell']
          case c3=>unfold maxLen;omega
          case c4=>omega
          case c5=>simp;omega
          intro v' w2 hown hgr _;have hB2:Hid (Below (w.heap.size+1) W1 w2):=Lib.hid (((HB.out.alloc hbs _).alloc (by simp;omega) _).grown hgr (by simp;omega) (ownsRow_block HO.out));have hO2:Hid (w2.ownsRow (w.heap.size+1) 3 1 v' (t++[k]).length ((t++[k]).map encN)):=Lib.hid (by simpa using hown);clear hown hgr;go_wp2;go_roundw
          case rel=>
           refine ⟨k+1,by omega,by go_num,?_,hB2.out⟩;have e:=HST.out;rw [if_pos (by simp [isDirty,HNM.out];omega)] at e;rw [e];exact hO2.out
          case measure=>simp [intOf];omega
         ·have hl2':¬ ((fk:Int) < (hi:Int)):=by omega
          go_wp2;go_roundw
          case rel=>
           refine ⟨k+1,by omega,by go_num,?_,HB.out.alloc hbs _⟩;have e:=HST.out;rw [if_neg (by simp [isDirty];omega)] at e;rw [e];exact HO.out.alloc _
          case measure=>simp [intOf];omega
        ·have hl1':¬ ((fk:Int) >= (lo:Int)):=by omega
         go_wp2;go_roundw
         case rel=>
          refine ⟨k+1,by omega,by go_num,?_,HB.out.alloc hbs _⟩;have e:=HST.out;rw [if_neg (by simp [isDirty];omega)] at e;rw [e];exact HO.out.alloc _
         case measure=>simp [intOf];omega
       ·have hbq:(nm.toList == name.toList)=false:=bytes_ne hnm;have HNM:=Lib.hid hnm;clear hnm;go_wp2;go_roundw
        case rel=>
         refine ⟨k+1,by omega,by go_num,?_,HB.out.alloc hbs _⟩;have e:=HST.out;rw [if_neg (by simp [isDirty,HNM.out])] at e;rw [e];exact HO.out.alloc _
        case measure=>simp [intOf];omega
  ·obtain rfl:k=n:=by omega
   have HB:=Lib.hid hb;obtain ⟨a9,c9,rfl⟩:=ownsRow_slice ho;have HO:=Lib.hid ho;have hd1':wr.cell? ⟨pb,1,none⟩=some (.slice (some ⟨fb,0,none⟩) k k):=by rw [hb.cell (p:=⟨pb,1,none⟩) (show pb < w.heap.size+1 by omega)];exact hd1
   have HD1:=Lib.hid hd1';have HRW:Hid (RowAt wr fb l):=Lib.hid (HR1.out.kept (S:=fun x=>w.heap.size+1<=x) ⟨hb.os,hb.tape,hb.output,hb.size,fun x _ hx=>hb.block x (by omega)⟩ (by omega));have HBX:Hid (wr.cell? ⟨w.heap.size,0,none⟩=some (ptrTo pb)):=Lib.hid (by
    rw [hb.cell (p:=⟨w.heap.size,0,none⟩) (show w.heap.size < w.heap.size+1 by omega),cells_cell HX.out];rfl)
   have hBall:Hid (Below w.heap.size w wr):=Lib.hid (HB1.out.trans (hb.mono (Nat.le_succ _)));have hlen:(l.map (·.2)).length=k:=by rw [List.length_map,HN.out]
   have HLEN:=Lib.hid hlen;clear hb ho hd1' hlen hd1;rcases Nat.eq_zero_or_pos (told (l.map (·.2)) name lo hi k).length with hz | hpos
   ·have hnil:told (l.map (·.2)) name lo hi k=[]:=List.eq_nil_of_length_eq_zero hz;have HNIL:=Lib.hid hnil;rw [hz] at HO ⊢;clear hz hnil;have hcall:=Lib.hid (AnyF.slices_SortFunc_none (P:=Tryz.prog) (ρ:=Tryz.sortInts_ren) { Tryz.sortInts with } a9 c9 (.func (.func 184) #[] #[.pointer (some ⟨w.heap.size,0,none⟩)]) wr);go_wp2_with fail
    refine hcall.out.mono ?_;rintro e w' ⟨rfl,rfl⟩;go_wp2;go_ret;refine ⟨_,[],rfl,?_,told_told _ _ _ _ (by rw [HLEN.out,HNIL.out]) List.Pairwise.nil,hBall.out⟩;have:=HO.out;rw [HNIL.out] at this;exact ownsRow_base this (Nat.le_succ _)
   ·have hshape:∃ g,a9=some ⟨g,0,none⟩/\w.heap.size+1<=g:=by
     obtain ⟨_,⟨h1,h2⟩ | ⟨g,cap,cur,h1,h2,_⟩⟩:=HO.out
     ·omega
     ·cases h1;exact ⟨g,rfl,h2⟩
    obtain ⟨g,rfl,hg⟩:=hshape;have hcall:=Lib.hid (sortTold_any (name:=name) (lo:=lo) (hi:=hi) (bx:=w.heap.size) (fs:=l.map (·.2)) (kOfs:=fun i=>kOf (l.map (·.2)) i) HO.out hhand (fun i hi=>told_lt i hi) (told_length _ _ _ _ _) hn HBX.out HD1.out (fun i hi=>by
     obtain ⟨a,c,f,hi'⟩:=HS.out.get HN.out hi;refine ⟨?_,?_⟩
     ·rw [(HRW.out.seven hi').2.2.1];unfold kOf;rw [getD_of (map_get hi')]
     ·unfold kOf;rw [getD_of (map_get hi')];exact HKS.out _ (List.mem_of_getElem? hi')) (by omega) (by omega) (by omega))
    go_wp2_with fail
    refine hcall.out.mono ?_;rintro e w' ⟨ls,rfl,hp,hr,ho',ht⟩;have HP:=Lib.hid hp;have HR:=Lib.hid hr;have HO':=Lib.hid ho';have HT:=Lib.hid ht;have hll:ls.length=(told (l.map (·.2)) name lo hi k).length:=hp.length_eq;have HLL:=Lib.hid hll;clear hp hr ho' ht hll;go_wp2;go_ret;refine ⟨_,ls,rfl,?_,told_told _ _ _ _ (by rw [HLEN.out];exact HP.out) HR.out,hBall.out.trans (HT.out.below (by have:=hBall.out.size;omega) (fun x e=>by omega))⟩;rw [HLL.out];exact ownsRow_base HO'.out (Nat.le_succ _)
def Fit (l:List Plc):Prop:=∀ p∈l,p.2.bytes.length<=240/\p.2.k < 65536
theorem RowAt.set' {w:World} {fb:Nat} {l:List Plc} (h:RowAt w fb l) {i:Nat} {p q:Plc} (hi:l[i]? = some p) {j:Nat} (hj:j < 7) {v:Value} (hv:(frmCells p.1 p.2).set j v=frmCells q.1 q.2):RowAt (w.setCell ⟨fb,i*7+j,none⟩ v) fb (l.set i q):=by
 rw [Nat.mul_comm i 7];exact h.set hi hj hv
theorem PoolIn.mark {w:World} {pb db fb mb:Nat} {o:Owner} {l:List Plc} {hand mf:Nat} {d:Dsk} (h:PoolIn w pb db fb mb o l hand mf d) {i:Nat} {v:Value} {f x:Frm} (hi:l[i]? = some (v,f)) {j:Nat} (hj:j < 7) {u:Value} (hv:(frmCells v f).set j u=frmCells v x)
 (h1:x.full=f.full) (h2:x.name=f.name) (h3:x.k=f.k) (h4:x.bytes=f.bytes):PoolIn (w.setCell ⟨fb,i*7+j,none⟩ u) pb db fb mb o (l.set i (v,x)) hand mf d:=by
 have ht:Turn (fun y=>y=fb\/y=mb) w (w.setCell ⟨fb,i*7+j,none⟩ u):=(Turn.refl _ _).setCell _ _ (.inl (.inl rfl));refine h.setFrame (h.row.set' hi hj hv) ht (fun _ _ h=>h) (fun y t hy=>by have:=h.owned y t hy;simpa using this) ?_ ?_
 ·obtain ⟨m,m1,m2⟩:=h.wher;exact ⟨m,m1.turn ((Turn.refl (·=fb) w).setCell _ _ (.inl rfl)) (Owner.ne h.omb h.ofb (by decide)),m2.same (map_get hi) h1 h2 h3⟩
 ·have he:=h.each _ (List.mem_of_getElem? hi);dsimp only at he ⊢;rw [h4];exact ⟨((Turn.refl (·=fb) w).setCell ⟨fb,i*7+j,none⟩ u (.inl rfl)).ownsRow he.1 (fun b hb=>Owner.ne (he.2 b hb) h.ofb (by decide)),he.2⟩
theorem PoolIn.in_fb {w:World} {pb db fb mb:Nat} {o:Owner} {l:List Plc} {hand mf:Nat} {d:Dsk} (h:PoolIn w pb db fb mb o l hand mf d):o.In ofPool fb:=⟨_,h.ofb,show 7 < 10 by decide⟩
def PutsPost (w:World) (pb db fb mb:Nat) (o:Owner) (l:List Plc) (hand mf:Nat) (r:(Dsk × List Frm) × Nat) (e:Ending) (w':World):Prop:=
 ∃ o' l',e=.returned (.int .i64 (r.2:Int))/\PoolIn w' pb db fb mb o' l' hand mf r.1.1/\l'.map (·.2)=r.1.2/\l'.length=l.length/\Fit l'/\Turn (o.In ofPool) w w'/\OGrow w.heap.size o o'
theorem Fit.set {l:List Plc} (h:Fit l) {i:Nat} {q:Plc} (hq:q.2.bytes.length<=240/\q.2.k < 65536):Fit (l.set i q):=fun p hp=>by
 rcases List.mem_or_eq_of_mem_set hp with hp | rfl
 ·exact h p hp
 ·exact hq
set_option maxRecDepth 100000 in
set_option maxHeartbeats 4000000 in
theorem put_any (HW:WriteSaid) {w:World} {pb db fb mb pf:Nat} {o:Owner} {l:List Plc} {hand mf:Nat} {d:Dsk} {name:Name} (h:PoolIn w pb db fb mb o l hand mf d) (hfit:Fit l) (hs:name.size<=1000) (hp:PfAt w pf db name) (hpo:o pf=none) {v:Value} {base:Nat} {ls:List Nat}
 (hv:w.ownsRow base 3 1 v ls.length (ls.map encN)) (hvo:∀ b,v.ownBlock=some b->o b=none) (hls:∀ i∈ls,i < l.length) (hll:ls.length<=100000) :
 Calls Tryz.prog 120 #[ptrTo pb,ptrTo pf,v] w (PutsPost w pb db fb mb o l hand mf (putAll name ls d (l.map (·.2)))):=by
 have H:=Lib.hid h;have HF:=Lib.hid hfit;have HP:=Lib.hid hp;have HPO:=Lib.hid hpo;have HV:=Lib.hid hv;have HVO:=Lib.hid hvo;have HLS:=Lib.hid hls;obtain ⟨va,vc,rfl⟩:=ownsRow_slice hv;have hpfl:=hp.lt;have hn:=h.most;clear h hfit hp hpo hv hvo hls;unfold ptrTo;generalize hN:ls.length=n at *;have HN:=Lib.hid hN;clear hN;go_enter Tryz.func120,Tryz.ntmps120
 go_wp2;go_loopw [12] (fun i wr=>∃ (j:Nat) (d':Dsk) (l':List Plc) (o':Owner),j<=n/\i=.int .i64 (j:Int)/\PoolIn wr pb db fb mb o' l' hand mf d'/\putAll name ls d (l.map (·.2))=putAll name (ls.drop j) d' (l'.map (·.2))/\l'.length=l.length/\Fit l'/\Turn (o.In ofPool) w wr/\OGrow w.heap.size o o') (fun i _=>n - (intOf i).toNat)
 case atStart=>exact ⟨0,d,l,o,Nat.zero_le _,rfl,H.out,rfl,rfl,HF.out,Turn.refl _ _,OGrow.refl _ _⟩
 case round=>
  obtain ⟨j,d',l',o',hj,rfl,hp',hput,hlen,hfit',ht,hg⟩:=hrel;by_cases hlt:j < n
  ·have hjl:j < ls.length:=by rw [HN.out];exact hlt
   have hx:∃ x,ls[j]? = some x:=⟨_,List.getElem?_eq_getElem hjl⟩;obtain ⟨x,hx⟩:=hx;have hxl:x < l'.length:=by rw [hlen];exact HLS.out x (List.mem_of_getElem? hx)
   obtain ⟨a,c,f,hi⟩:=hp'.shaped.get rfl hxl;have hff:=hfit' _ (List.mem_of_getElem? hi);obtain ⟨hfb,hfk⟩:=hff;dsimp only at hfb hfk;have hrow:=ht.ownsRow HV.out (fun b hb=>Owner.not_in_none (HVO.out b hb));have hvc:∃ g,va=some ⟨g,0,none⟩/\wr.cell? ⟨g,j,none⟩=some (encN x):=by
    obtain ⟨_,⟨h1,h2⟩ | ⟨g,cap,cur,h1,h2,h3,h4,h5,h6,h7⟩⟩:=hrow
    ·omega
    ·cases h1;refine ⟨g,rfl,?_⟩;rw [cells_cell h3];have e:(cur.toList.take (n*1))[j]? = (ls.map encN)[j]? := by rw [h7]
     rw [List.getElem?_take_of_lt (by omega),List.getElem?_map,hx] at e;simpa using e
   obtain ⟨g,rfl,hcx⟩:=hvc;unfold encN at hcx;have hdrop:ls.drop j=x::ls.drop (j+1):=by
    rw [List.drop_eq_getElem_cons hjl];congr 1;rw [List.getElem?_eq_getElem hjl] at hx;exact Option.some.inj hx
   rw [hdrop,putAll,getD_of (map_get hi)] at hput;dsimp only at hput;have HPUT:=Lib.hid hput;have HP':=Lib.hid hp';have HI:=Lib.hid hi;have HLEN:=Lib.hid hlen;have HFIT:=Lib.hid hfit';have HT:=Lib.hid ht;have HG:=Lib.hid hg;have hpf:Hid (PfAt wr pf db name):=Lib.hid (HP.out.kept ht (Owner.not_in_none HPO.out));have hcall:Hid (∀ W,Below wr.heap.size wr W->Calls Tryz.prog 182 #[ptrTo pf, .int .i64 (f.k:Int), .slice a f.bytes.length c] W fun e w'=>e=.returned (.int .i64 ((pfWrite d' name f.k f.bytes).2:Int))/\DiskPost W db o' (pfWrite d' name f.k f.bytes).1 w'):=Lib.hid (fun W hW=>
    pfWrite_any HW (hp'.disk.below hW) (hpf.out.below hW) hs f.k hfk _ f.bytes hfb (Rd_own (ownsRow_below (hp'.each _ (List.mem_of_getElem? hi)).1 hW)))
   have hxn:x < l.length:=by rw [<- hlen];exact hxl
   have HWF:Hid (∀ W,Below wr.heap.size wr W->(W.cell? ⟨pb,1,none⟩=some (.slice (some ⟨fb,0,none⟩) l.length l.length)/\W.cell? ⟨fb,x*7+2,none⟩=some (.int .i64 (f.k:Int))/\W.cell? ⟨fb,x*7+3,none⟩=some (.slice a f.bytes.length c))):=Lib.hid (fun W hW=>by
    have h1:=hp'.below hW;obtain ⟨⟨-,g1,-⟩,-⟩:=h1.head.cells;obtain ⟨-,-,g2,g3,-⟩:=h1.row.seven hi;rw [hlen] at g1;exact ⟨g1,g2,g3⟩)
   clear hput hp' hi hlen hfit' ht hg hx hxl hrow hdrop;unfold ptrTo at hcall;generalize (pfWrite d' name f.k f.bytes).1=d2 at *;generalize (pfWrite d' name f.k f.bytes).2=cc at *;by_cases hc0:cc=0
   ·subst hc0;have hput2:putAll name ls d (l.map (·.2))=putAll name (ls.drop (j+1)) d2 ((l'.map (·.2)).set x { f with dirty:=false }):=by rw [HPUT.out,if_neg (by simp)]
    have HPUT2:=Lib.hid hput2;clear hput2 HPUT;go_wp2;refine wp_region_mid (Below wr.heap.size wr) 18 rfl (by kernel_rfl) (by kernel_rfl) ((Below.refl _ _).drew) ?_;simp only [List.take_succ_cons,List.take_zero];iterate 4 (refine qo (fun K hK=>?_);go_simp;refine hK _ ?_;clear hK K)
    refine qo (fun K hK=>?_) (fun w' hw'=>by have hc:=(HWF.out w' hw').1;go_simp<;>rfl);go_simp;refine hK _ ?_;clear hK K;iterate 4 (refine qo (fun K hK=>?_);go_simp;refine hK _ ?_;clear hK K)
    refine qo (fun K hK=>?_) (fun w' hw'=>by have hc:=(HWF.out w' hw').2.1;go_simp<;>rfl);go_simp;refine hK _ ?_;clear hK K;iterate 3 (refine qo (fun K hK=>?_);go_simp;refine hK _ ?_;clear hK K)
    refine qo (fun K hK=>?_) (fun w' hw'=>by have hc:=(HWF.out w' hw').1;go_simp<;>rfl);go_simp;refine hK _ ?_;clear hK K;iterate 3 (refine qo (fun K hK=>?_);go_simp;refine hK _ ?_;clear hK K)
    refine qo (fun K hK=>?_) (fun w' hw'=>by have hc:=(HWF.out w' hw').2.2;go_simp<;>rfl);go_simp;refine hK _ ?_;clear hK K;refine wpQuiet_nil ?_;intro w3 hw3;refine ⟨_,_,rfl,(by go_simp<;>exact ⟨rfl,rfl⟩),?_⟩;refine (hcall.out _ hw3).mono ?_;rintro e w4 ⟨rfl,hp4⟩;obtain ⟨o2,hd2,ht2,hg2⟩:=DiskPost.after hw3 hp4;have HP2:=Lib.hid (HP'.out.reDisk hd2 ht2 hg2);have HT2:=Lib.hid (HT.out.owned HG.out ht2.pool);have HG2:=Lib.hid (HG.out.trans hg2 HT.out.size);clear hd2 ht2 hg2 hp4 hw3;obtain ⟨⟨-,g1,-⟩,-⟩:=HP2.out.head.cells;rw [HLEN.out] at g1;obtain ⟨-,-,-,-,-,g5,-⟩:=HP2.out.row.seven HI.out;have gz:=HP2.out.row.free (x*7+5);refine ⟨_,rfl,?_⟩;go_simp;refine qo (fun K hK=>?_);go_simp;refine hK _ ?_;clear hK K;refine wpQuiet_nil ?_;go_wp2;go_roundw
    case rel=>
     have hm:=HP2.out.mark (j:=5) (u:=.bool false) (x:={ f with dirty:=false }) HI.out (by decide) rfl rfl rfl rfl rfl;refine ⟨j+1,d2,_,o2,by omega,by go_num,hm,by rw [HPUT2.out,map_set],by rw [List.length_set];exact HLEN.out,HFIT.out.set ⟨hfb,hfk⟩,?_,HG2.out⟩;exact HT2.out.trans ((Turn.refl (o2.In ofPool) w4).setCell ⟨fb,x*7+5,none⟩ (.bool false) (.inl HP2.out.in_fb)) (fun y hy ⟨t,ht1,ht2⟩=>⟨t,by rw [<- HG2.out y hy];exact ht1,ht2⟩)
    case measure=>simp [intOf];omega
   ·have hput2:putAll name ls d (l.map (·.2))=((d2,l'.map (·.2)),cc):=by rw [HPUT.out,if_pos hc0]
    have HPUT2:=Lib.hid hput2;have hc0':¬ (cc:Int)=0:=by omega
    clear hput2 HPUT hc0;go_wp2;refine wp_region_mid (Below wr.heap.size wr) 18 rfl (by kernel_rfl) (by kernel_rfl) ((Below.refl _ _).drew) ?_;simp only [List.take_succ_cons,List.take_zero];iterate 4 (refine qo (fun K hK=>?_);go_simp;refine hK _ ?_;clear hK K)
    refine qo (fun K hK=>?_) (fun w' hw'=>by have hc:=(HWF.out w' hw').1;go_simp<;>rfl);go_simp;refine hK _ ?_;clear hK K;iterate 4 (refine qo (fun K hK=>?_);go_simp;refine hK _ ?_;clear hK K)
    refine qo (fun K hK=>?_) (fun w' hw'=>by have hc:=(HWF.out w' hw').2.1;go_simp<;>rfl);go_simp;refine hK _ ?_;clear hK K;iterate 3 (refine qo (fun K hK=>?_);go_simp;refine hK _ ?_;clear hK K)
    refine qo (fun K hK=>?_) (fun w' hw'=>by have hc:=(HWF.out w' hw').1;go_simp<;>rfl);go_simp;refine hK _ ?_;clear hK K;iterate 3 (refine qo (fun K hK=>?_);go_simp;refine hK _ ?_;clear hK K)
    refine qo (fun K hK=>?_) (fun w' hw'=>by have hc:=(HWF.out w' hw').2.2;go_simp<;>rfl);go_simp;refine hK _ ?_;clear hK K;refine wpQuiet_nil ?_;intro w3 hw3;refine ⟨_,_,rfl,(by go_simp<;>exact ⟨rfl,rfl⟩),?_⟩;refine (hcall.out _ hw3).mono ?_;rintro e w4 ⟨rfl,hp4⟩;obtain ⟨o2,hd2,ht2,hg2⟩:=DiskPost.after hw3 hp4;have HP2:=Lib.hid (HP'.out.reDisk hd2 ht2 hg2);have HT2:=Lib.hid (HT.out.owned HG.out ht2.pool);have HG2:=Lib.hid (HG.out.trans hg2 HT.out.size);clear hd2 ht2 hg2 hp4 hw3;refine ⟨_,rfl,?_⟩;go_simp;refine qo (fun K hK=>?_);go_simp;refine hK _ ?_;clear hK K;refine wpQuiet_nil ?_;go_wp2;go_ret;rw [HPUT2.out];exact ⟨o2,l',rfl,HP2.out,rfl,HLEN.out,HFIT.out,HT2.out,HG2.out⟩
  ·obtain rfl:j=n:=by omega
   have hdrop:ls.drop j=[]:=List.drop_eq_nil_of_le (by rw [HN.out];exact Nat.le_refl _);rw [hdrop,putAll] at hput;have HPUT:=Lib.hid hput;have HP':=Lib.hid hp';have HLEN:=Lib.hid hlen;have HFIT:=Lib.hid hfit';have HT:=Lib.hid ht;have HG:=Lib.hid hg;clear hput hp' hlen hfit' ht hg hdrop;go_wp2;go_ret;rw [HPUT.out];exact ⟨o',l',rfl,HP'.out,rfl,HLEN.out,HFIT.out,HT.out,HG.out⟩
theorem Sound.fit {d:Dsk} {fs:List Frm} {L:Logic} (h:Sound d fs L):∀ fr∈fs,fr.bytes.length<=240/\fr.k < 65536:=fun fr hfr=>by
 cases hf:fr.full with
 | false=>rw [h.blank fr hfr hf];exact ⟨by simp [Frm.none],by simp [Frm.none]⟩
 | true=>
   obtain ⟨ps,fl,hL,hk⟩:=h.frames fr hfr hf;obtain ⟨f,dp,q⟩:=h.paged _ _ _ hL;have:=lt_of_get hk;have:=q.most;exact ⟨q.short _ (List.mem_of_getElem? hk),by omega⟩
theorem Sound.fitPlc {d:Dsk} {l:List Plc} {L:Logic} (h:Sound d (l.map (·.2)) L):Fit l:=fun p hp=>h.fit p.2 (List.mem_map.2 ⟨p,hp,rfl⟩)
theorem Sound.onDisk {d:Dsk} {fs:List Frm} {L:Logic} (h:Sound d fs L) {n:Name} {ps:List Pg} {fl:Bool} (hL:mget L n=some (.inl (ps,fl))) :
 ∃ f dp,OnDisk d fs n ps fl f dp/\(d.dead=false->d.sizeOf n=(256*dp.length,0)/\pfOpen d n=0)/\(d.dead=true->d.sizeOf n=(0,6)/\pfOpen d n=6):=by
 obtain ⟨f,dp,q⟩:=h.paged _ _ _ hL;have hs:=Dsk.sizeOf_ok (h.ok n (by rw [hL];rfl)) q.get;have hl:f.now.length=256*dp.length:=by rw [q.now,pagesFrom_length _ q.sdp]
 refine ⟨f,dp,q,fun hd=>?_,fun hd=>?_⟩
 ·rw [hd,if_neg (by simp),hl] at hs;refine ⟨hs,?_⟩;unfold pfOpen;rw [hs];simp
 ·rw [hd,if_pos rfl] at hs;refine ⟨hs,?_⟩;unfold pfOpen;rw [hs];simp
theorem Told.length_le {fs:List Frm} {name:Name} {lo hi:Nat} {ls:List Nat} (t:Told fs name lo hi ls):ls.length<=fs.length:=by
 have hp:ls.Perm ((List.range fs.length).filter (fun x=>decide (x∈ls))):=by
  refine (List.perm_ext_iff_of_nodup t.nodup (List.nodup_range.filter _)).2 fun x=>?_;rw [List.mem_filter,List.mem_range,decide_eq_true_eq];refine ⟨fun hx=>⟨?_,hx⟩,fun hx=>hx.2⟩;obtain ⟨fr,h1,_⟩:=(t.mem x).1 hx;exact lt_of_get h1
 have h1:=List.length_filter_le (fun x=>decide (x∈ls)) (List.range fs.length);rw [hp.length_eq];simpa using h1
theorem okName_1000 {n:Name} (h:okName n=true):n.size<=1000:=by have:=okName_size h;omega
def Cleaned (fs fs':List Frm):Prop:=fs'.length=fs.length/\∀ (i:Nat) (fr:Frm),fs[i]? = some fr->∃ dd,fs'[i]? = some { fr with dirty:=dd }/\(dd=true->fr.dirty=true)
theorem Cleaned.refl (fs:List Frm):Cleaned fs fs:=⟨rfl,fun _ fr h=>⟨fr.dirty,h,id⟩⟩
def BackPost (w:World) (pb db fb mb:Nat) (o:Owner) (l:List Plc) (hand mf:Nat) (d:Dsk) (L:Logic) (i:Nat) (e:Ending) (w':World):Prop:=
 ∃ o' l' d' c,e=.returned (.int .i64 ((c:Nat):Int))/\PoolIn w' pb db fb mb o' l' hand mf d'/\Sound d' (l'.map (·.2)) L/\Onward d d'/\Cleaned (l.map (·.2)) (l'.map (·.2))/\(c=0\/Err d d' L c) /\
  (c=0->∃ fr,(l'.map (·.2))[i]? = some fr/\fr.dirty=false)/\Turn (o.In ofPool) w w'/\OGrow w.heap.size o o'
set_option maxRecDepth 100000 in
set_option maxHeartbeats 4000000 in
theorem back_any (HW:WriteSaid) {w:World} {pb db fb mb:Nat} {o:Owner} {l:List Plc} {hand mf:Nat} {d:Dsk} {L:Logic} (h:PoolIn w pb db fb mb o l hand mf d) (hg:Sound d (l.map (·.2)) L) {i:Nat} {v:Value} {f:Frm} (hi:l[i]? = some (v,f)) (hfull:f.full=true) (hdirty:f.dirty=true) :
 Calls Tryz.prog 239 #[ptrTo pb, .int .i64 (i:Int)] w (BackPost w pb db fb mb o l hand mf d L i):=by
 obtain ⟨i0,hi0,hz0,hz1,hz2⟩:=info_parts info_int;obtain ⟨ps,fl,hL,hpk⟩:=hg.frames f (List.mem_of_getElem? (map_get hi)) hfull;obtain ⟨df,dp,q,hlive,hdead⟩:=hg.onDisk hL;have hok:=okName_1000 (hg.ok f.name (by rw [hL];rfl));have hfit:=hg.fitPlc;have hfk:=(hfit _ (List.mem_of_getElem? hi)).2;have hil:i < l.length:=lt_of_get hi;have hn:=h.most;have H:=Lib.hid h;have HG:=Lib.hid hg;have HI:=Lib.hid hi;have HQ:=Lib.hid q;have HFIT:=Lib.hid hfit;have HL:=Lib.hid hL;have HFULL:=Lib.hid hfull;have HDIRTY:=Lib.hid hdirty;have hcell:(w.cell? ⟨pb,1,none⟩=some (.slice (some ⟨fb,0,none⟩) l.length l.length)/\w.cell? ⟨fb,i*7+1,none⟩=some (.string f.name)/\w.cell? ⟨fb,i*7+2,none⟩=some (.int .i64 (f.k:Int))):=by
  obtain ⟨⟨-,g1,-⟩,-⟩:=h.head.cells;obtain ⟨-,g2,g3,-⟩:=h.row.seven hi;exact ⟨g1,g2,g3⟩
 obtain ⟨hc1,hc2,hc3⟩:=hcell;have hcall:Hid (∀ W,Below w.heap.size w W->Calls Tryz.prog 119 #[ptrTo pb, .string f.name] W (OnDiskPost W db d f.name)):=Lib.hid (fun W hW=>onDisk_any (h.below hW) f.name hok);have HSZ:=Lib.hid (size_bound h.disk f.name).1;clear h hg hi q hfit hL hfull hdirty hpk;dsimp only at hfk;unfold ptrTo at *;generalize hN:l.length=n at *;have HN:=Lib.hid hN;clear hN;cases hd:d.dead with
 | true=>
   obtain ⟨-,hpo⟩:=hdead hd;have HPO:=Lib.hid hpo;have HD:=Lib.hid hd;clear hd hpo hlive hdead;go_enter Tryz.func239,Tryz.ntmps239
   go_wp2;go_quiet (fail)
   go_wp2_with fail
   refine (hcall.out _ (below_drewN (Below.refl _ _) _)).mono ?_;rintro e w1 ⟨v1,n1,rfl,hb1,-⟩;rw [HPO.out];have hB:Below w.heap.size w w1:=(below_drewN (Below.refl _ _) _).trans hb1;have HB:=Lib.hid hB;clear hB hb1;go_wp2;go_ret;exact ⟨o,l,d,6,rfl,H.out.below HB.out,HG.out,Onward.refl d,Cleaned.refl _, .inr (.inr ⟨rfl,HD.out⟩),fun h=>absurd h (by decide),Turn.ofBelow HB.out,OGrow.refl _ _⟩
 | false=>
   obtain ⟨hsz,hpo⟩:=hlive hd;have HPO:=Lib.hid hpo;have HSZ2:=Lib.hid hsz;clear hd hpo hlive hdead hsz;go_enter Tryz.func239,Tryz.ntmps239
   go_wp2;go_quiet (fail)
   go_wp2_with fail
   refine (hcall.out _ (below_drewN (Below.refl _ _) _)).mono ?_;rintro e w1 ⟨v1,n1,rfl,hb1,hy⟩;obtain ⟨hn1,pf,rfl,hp,hpl⟩:=hy HPO.out;rw [HPO.out];rw [HSZ2.out] at hn1;have hB:Below w.heap.size w w1:=(below_drewN (Below.refl _ _) _).trans hb1;have HB:=Lib.hid hB;have HPF:=Lib.hid hp;have hpl2:w.heap.size<=pf:=by simpa using hpl
   have HN1:Hid (n1=dp.length):=Lib.hid (by dsimp only at hn1;omega);clear hB hb1 hp hn1 hy hpl;unfold ptrTo;have hcall2:=Lib.hid (dirty_any (H.out.below HB.out) (fun p hp=>(HFIT.out p hp).2) f.name n1 f.k);unfold ptrTo at hcall2;go_wp2_with fail
   refine hcall2.out.mono ?_;rintro e w2 ⟨v2,ls,rfl,ho2,htold,hb2⟩;obtain ⟨a2,c2,rfl⟩:=ownsRow_slice ho2;have HB2:=Lib.hid (HB.out.trans (hb2.mono HB.out.size));have HO2:=Lib.hid ho2;have HT:=Lib.hid htold;have hlsl:ls.length<=n:=by
    have h1:=htold.length_le;rw [List.length_map,HN.out] at h1;exact h1
   have HPF2:=Lib.hid (HPF.out.below hb2);have hs2:w.heap.size<=w2.heap.size:=HB2.out.size;have hs1:w1.heap.size<=w2.heap.size:=hb2.size;clear ho2 htold hb2;go_wp2_with (at_builtin;refine wpList_append_own _ rfl _ _ 214 rfl w1.heap.size 3 i0 (.int .i64 0) 1 8 Tryz.underlying214 hi0 hz0 hz1 hz2 rfl (by decide) _ _ _ rfl (HO2.out.alloc _) ⟨w2.heap.size,0,none⟩ 1 1 [encN i] rfl rfl ?c1 ?c2 ?c3 ?c4 ?c5 ?_)
   case c1=>
    intro j u hj;match j,hj with
    | 0,hj=>
      cases hj;simp [Addr_add,encN]
   case c2=>simp [encN,Value.oneCell']
   case c3=>unfold maxLen;omega
   case c4=>omega
   case c5=>simp;omega
   intro v3 w3 ho3 hgr3 _;have hB3:Hid (Below w.heap.size w w3):=Lib.hid ((HB2.out.alloc HB2.out.size _).grown hgr3 (by simp;omega) (fun k hk=>by have:=ownsRow_block HO2.out k hk;have:=HB.out.size;omega));have hO3:Hid (w3.ownsRow w1.heap.size 3 1 v3 (ls++[i]).length ((ls++[i]).map encN)):=Lib.hid (by simpa using ho3);have hPF3:Hid (PfAt w3 pf db f.name):=Lib.hid (by
    obtain ⟨t,ht⟩:=HPF2.out;have hpf1:=HPF.out.lt;have hpf2:=HPF2.out.lt;refine ⟨t,?_⟩;rw [hgr3.block pf (by simp;omega) (fun e=>by have:=ownsRow_block HO2.out pf e.symm;omega),(MapKept.heap_alloc _ _).2 pf hpf2];exact ht)
   obtain ⟨a3,c3,rfl⟩:=ownsRow_slice ho3;clear ho3 hgr3;have hls3:∀ x∈ls++[i],x < l.length:=fun x hx=>by
    rcases List.mem_append.1 hx with hx | hx
    ·obtain ⟨fr,h1,_⟩:=(HT.out.mem x).1 hx;have:=lt_of_get h1;rwa [List.length_map] at this
    ·rw [List.mem_singleton.1 hx,HN.out];exact hil
   have hcall3:=Lib.hid (put_any HW (H.out.below hB3.out) HFIT.out hok hPF3.out (fresh_none H.out.owned hpl2) hO3.out (fun b hb=>fresh_none H.out.owned (by have:=ownsRow_block hO3.out b hb;have:=HB.out.size;omega)) hls3 (by simp;omega));obtain ⟨d',fs',ec,hr,hg',hon,hlen',hmark,he⟩:=Sound.puts HL.out (ls++[i]) d (l.map (·.2)) df dp HG.out HQ.out (by
    have h1:=HT.out;rw [HN1.out] at h1;exact h1.puts_one HG.out (map_get HI.out) HFULL.out HDIRTY.out)
   rw [hr] at hcall3;have HG':=Lib.hid hg';have HON:=Lib.hid hon;have HLEN':=Lib.hid hlen';have HMARK:=Lib.hid hmark;have HE:=Lib.hid he;unfold ptrTo at hcall3;clear hr hg' hon hlen' hmark he hls3;go_wp2_with fail
   refine hcall3.out.mono ?_;rintro e w4 ⟨o',l',rfl,hp4,hl4,hlen4,hfit4,ht4,hg4⟩;dsimp only at hl4 hp4;have HP4:=Lib.hid hp4;have HL4:=Lib.hid hl4;have HT4:=Lib.hid ((Turn.ofBelow hB3.out).trans ht4 (fun _ _ h=>h):Turn (o.In ofPool) w w4);have HG4:Hid (OGrow w.heap.size o o'):=Lib.hid (fun x hx=>hg4 x (Nat.lt_of_lt_of_le hx hB3.out.size));clear hp4 hl4 hlen4 hfit4 ht4 hg4;go_wp2;go_ret;refine ⟨o',l',d',ec,rfl,HP4.out,by rw [HL4.out];exact HG'.out,HON.out,⟨by rw [HL4.out];exact HLEN'.out,fun j fr hj=>?_⟩,HE.out,fun hc=>?_,HT4.out,HG4.out⟩
   ·obtain ⟨dd,h1,h2,_⟩:=HMARK.out j fr hj;exact ⟨dd,by rw [HL4.out];exact h1,h2⟩
   ·obtain ⟨dd,h1,_,_,h4⟩:=HMARK.out i f (map_get HI.out);exact ⟨_,by rw [HL4.out];exact h1,h4 hc (by simp)⟩
def Fewer (fs fs':List Frm):Prop:=fs'.length=fs.length/\∀ (j:Nat) (x:Frm),fs'[j]? = some x->x.full=true->∃ y,fs[j]? = some y/\y.full=true/\y.name=x.name/\y.k=x.k
theorem Fewer.refl (fs:List Frm):Fewer fs fs:=⟨rfl,fun _ x h hf=>⟨x,h,hf,rfl,rfl⟩⟩
theorem Fewer.trans {a b c:List Frm} (h:Fewer a b) (k:Fewer b c):Fewer a c:=⟨k.1.trans h.1,fun j x hx hf=>by
 obtain ⟨y,h1,h2,h3,h4⟩:=k.2 j x hx hf;obtain ⟨z,g1,g2,g3,g4⟩:=h.2 j y h1 h2;exact ⟨z,g1,g2,g3.trans h3,g4.trans h4⟩⟩
def Struck (fs fs':List Frm):Prop:=fs'.length=fs.length/\∀ (j:Nat) (x:Frm),fs[j]? = some x->∃ u,fs'[j]? = some { x with used:=u }
theorem Struck.refl (fs:List Frm):Struck fs fs:=⟨rfl,fun _ x h=>⟨x.used,h⟩⟩
theorem Struck.fewer {fs fs':List Frm} (h:Struck fs fs'):Fewer fs fs':=⟨h.1,fun j x hx hf=>by
 have hl:j < fs.length:=by rw [<- h.1];exact lt_of_get hx
 obtain ⟨u,hu⟩:=h.2 j fs[j] (List.getElem?_eq_getElem hl);rw [hx] at hu;cases hu;exact ⟨fs[j],List.getElem?_eq_getElem hl,hf,rfl,rfl⟩⟩
theorem Cleaned.fewer {fs fs':List Frm} (h:Cleaned fs fs'):Fewer fs fs':=⟨h.1,fun j x hx hf=>by
 have hl:j < fs.length:=by rw [<- h.1];exact lt_of_get hx
 obtain ⟨u,hu,_⟩:=h.2 j fs[j] (List.getElem?_eq_getElem hl);rw [hx] at hu;cases hu;exact ⟨fs[j],List.getElem?_eq_getElem hl,hf,rfl,rfl⟩⟩
theorem Fewer.none {fs:List Frm} {i:Nat} (hi:i < fs.length):Fewer fs (fs.set i Frm.none):=⟨List.length_set,fun j x hx hf=>by
 rw [get_set hi] at hx;by_cases e:j=i
 ·rw [if_pos e] at hx;cases hx;cases hf
 ·rw [if_neg e] at hx;exact ⟨x,hx,hf,rfl,rfl⟩⟩
theorem Struck.set {fs fs':List Frm} (h:Struck fs fs') {i:Nat} {x:Frm} (hi:fs'[i]? = some x) (u:Bool):Struck fs (fs'.set i { x with used:=u }):=⟨List.length_set.trans h.1,fun j y hy=>by
 obtain ⟨v,hv⟩:=h.2 j y hy;rw [get_set (lt_of_get hi)];by_cases e:j=i
 ·subst e;rw [hv] at hi;cases hi;exact ⟨u,by rw [if_pos rfl]⟩
 ·exact ⟨v,by rw [if_neg e];exact hv⟩⟩
theorem Struck.sound {d:Dsk} {fs fs':List Frm} {L:Logic} (h:Struck fs fs') (hg:Sound d fs L) (hall:∀ fr∈fs,fr.full=true):Sound d fs' L:=
 hg.used h.1 fun i f f' hi hi'=>by
  obtain ⟨u,hu⟩:=h.2 i f hi;rw [hi'] at hu;cases hu;exact ⟨rfl,fun hf=>by rw [hall f (List.mem_of_getElem? hi)] at hf;cases hf⟩
def TookPost (w:World) (pb db fb mb:Nat) (o:Owner) (l:List Plc) (mf:Nat) (d:Dsk) (L:Logic) (e:Ending) (w':World):Prop:=
 ∃ o' l' hand' d' c i,e=.returned (.tuple #[.int .i64 ((i:Nat):Int), .int .i64 ((c:Nat):Int)])/\PoolIn w' pb db fb mb o' l' hand' mf d'/\Sound d' (l'.map (·.2)) L/\Onward d d'/\(c=0\/Err d d' L c) /\
  (c=0->∃ p,l'[i]? = some p/\p.2.full=false)/\Fewer (l.map (·.2)) (l'.map (·.2))/\Turn (o.In ofPool) w w'/\OGrow w.heap.size o o'
theorem mod_cast' (i n:Nat):((i:Int)+1) % (n:Int)=(((i+1) % n:Nat):Int):=by
 rw [Int.natCast_emod];rfl
def FullTo (fs:List Frm) (k:Nat):Prop:=∀ (j:Nat) (x:Frm),j < k->fs[j]? = some x->x.full=true
set_option maxRecDepth 100000 in
set_option maxHeartbeats 4000000 in
theorem take_any (HW:WriteSaid) {w:World} {pb db fb mb:Nat} {o:Owner} {l:List Plc} {hand mf:Nat} {d:Dsk} {L:Logic} (h:PoolIn w pb db fb mb o l hand mf d) (hg:Sound d (l.map (·.2)) L) :
 Calls Tryz.prog 197 #[ptrTo pb] w (TookPost w pb db fb mb o l mf d L):=by
 have H:=Lib.hid h;have HG:=Lib.hid hg;have HRow:=Lib.hid h.row;have hn:=h.most;have HS:=Lib.hid h.shaped;have hhand:=h.hand;have hpbl:=h.head.lt;obtain ⟨⟨-,hc1,-,hc3,-⟩,-⟩:=h.head.cells;clear h hg;unfold ptrTo;generalize hN:l.length=n at *;have HN:=Lib.hid hN;clear hN;go_enter Tryz.func197,Tryz.ntmps197
 go_wp2;go_step3
 go_wp2;go_loopw [15] (fun i wr=>∃ k:Nat,k<=n/\i=.int .i64 (k:Int)/\FullTo (l.map (·.2)) k/\Below w.heap.size w wr) (fun i _=>n - (intOf i).toNat)
 case atStart=>exact ⟨0,Nat.zero_le _,rfl,fun j x hj=>absurd hj (Nat.not_lt_zero j),Below.refl _ _⟩
 case round=>
  obtain ⟨k,hk,rfl,hft,hb⟩:=hrel;by_cases hlt:k < n
  ·obtain ⟨a,c,f,hi⟩:=HS.out.get HN.out hlt;obtain ⟨h0,h1,h2,h3,h4,h5,h6⟩:=(HRow.out.below hb).seven hi;have hc1':wr.cell? ⟨pb,1,none⟩=some (.slice (some ⟨fb,0,none⟩) n n):=by rw [hb.cell (p:=⟨pb,1,none⟩) hpbl];exact hc1
   have HB:=Lib.hid hb;have HFT:=Lib.hid hft;have HI:=Lib.hid hi;clear hi hb hft;cases hfull:f.full with
   | false=>
     rw [hfull] at h0;have HFULL:=Lib.hid hfull;clear hfull;go_wp2;rw [Exit.noGoto_ret];go_ret2
     exact ⟨o,l,hand,d,0,k,rfl,H.out.below (HB.out.alloc HB.out.size _),HG.out,Onward.refl d, .inl rfl,fun _=>⟨_,HI.out,HFULL.out⟩,Fewer.refl _,Turn.ofBelow (HB.out.alloc HB.out.size _),OGrow.refl _ _⟩
   | true=>
     rw [hfull] at h0;have HFULL:=Lib.hid hfull;clear hfull;go_wp2;go_roundw
     case rel=>
      refine ⟨k+1,by omega,by go_num,fun j x hj hx=>?_,HB.out.alloc HB.out.size _⟩;by_cases e:j=k
      ·subst e;rw [map_get HI.out] at hx;cases hx;exact HFULL.out
      ·exact HFT.out j x (by omega) hx
     case measure=>simp [intOf];omega
  ·obtain rfl:k=n:=by omega
   have hall:∀ fr∈l.map (·.2),fr.full=true:=fun fr hfr=>by
    obtain ⟨j,hj⟩:=List.mem_iff_getElem?.1 hfr;exact hft j fr (by have:=lt_of_get hj;rw [List.length_map,HN.out] at this;exact this) hj
   have HALL:=Lib.hid hall;have H1:=Lib.hid (H.out.below hb);have HB:=Lib.hid hb;clear hft hb hall hc1 hc3;obtain ⟨⟨-,hc1,-,hc3,-⟩,-⟩:=H1.out.head.cells;rw [HN.out] at hc1;go_wp2;go_step3
   go_wp2;generalize wr=W1 at *;go_loopw [6,35] (fun i c wr=>∃ (tt ii:Nat) (l2:List Plc),tt<=2*k/\c=.int .i64 (tt:Int)/\i=.int .i64 (ii:Int)/\ii=(hand+tt) % k/\PoolIn wr pb db fb mb o l2 hand mf d/\Struck (l.map (·.2)) (l2.map (·.2)) /\
    (∀ s,s < tt->∀ x,(l2.map (·.2))[(hand+s) % k]? = some x->x.used=false)/\Turn (·=fb) W1 wr) (fun _ c _=>2*k - (intOf c).toNat)
   case atStart=>exact ⟨0,hand,l,by omega,rfl,rfl,(Nat.mod_eq_of_lt hhand).symm,H1.out,Struck.refl _,fun s hs=>absurd hs (Nat.not_lt_zero s),Turn.refl _ _⟩
   case round=>
    obtain ⟨tt,ii,l2,htt,rfl,rfl,hii,hp2,hst,hsw,ht2⟩:=hrel;have hlen2:l2.length=k:=by
     have:=hst.1;rw [List.length_map,List.length_map,HN.out] at this;exact this
    have hik:ii < k:=by rw [hii];exact Nat.mod_lt _ (by omega)
    obtain ⟨a,c,f,hi⟩:=hp2.shaped.get hlen2 hik;obtain ⟨h0,h1,h2,h3,h4,h5,h6⟩:=hp2.row.seven hi;have hz:=hp2.row.free (ii*7+6);obtain ⟨⟨-,hc1,-,hc3,-⟩,-⟩:=hp2.head.cells;rw [hlen2] at hc1;have hm:=mod_cast' ii k;have HII:=Lib.hid hii;have HP2:=Lib.hid hp2;have HST:=Lib.hid hst;have HSW:=Lib.hid hsw;have HT2:=Lib.hid ht2;have HLEN2:=Lib.hid hlen2;have HI:=Lib.hid hi;have HM:=Lib.hid hm;clear hii hp2 hst hsw ht2 hlen2 hi hm;by_cases hcont:tt < 2*k/\f.used=true
    ·obtain ⟨hlt,hu⟩:=hcont;rw [hu] at h6;clear hu;go_wp2;go_roundw
     case rel=>
      have hmark:=HP2.out.mark (j:=6) (u:=.bool false) (x:={ f with used:=false }) HI.out (by decide) rfl rfl rfl rfl rfl;refine ⟨tt+1,(ii+1) % k,_,by omega,by go_num,?_,?_,hmark,?_,?_,HT2.out.setCell _ _ (.inl rfl)⟩
      ·rw [HM.out]
      ·rw [HII.out,Nat.mod_add_mod,Nat.add_assoc]
      ·rw [map_set];exact HST.out.set (map_get HI.out) false
      ·intro s hs x hx;rw [map_set,get_set (by rw [List.length_map,HLEN2.out];exact hik)] at hx;by_cases e:(hand+s) % k=ii
       ·rw [if_pos e] at hx;cases hx;rfl
       ·rw [if_neg e] at hx;refine HSW.out s ?_ x hx;rcases Nat.lt_or_ge s tt with h | h
        ·exact h
        ·obtain rfl:s=tt:=by omega
         exact absurd HII.out.symm e
     case measure=>simp [intOf];omega
    ·have hused:f.used=false:=by
      by_cases hlt:tt < 2*k
      ·cases hu:f.used with
       | false=>rfl
       | true=>exact absurd ⟨hlt,hu⟩ hcont
      ·obtain rfl:tt=2*k:=by omega
       refine HSW.out 0 (by omega) f ?_;have e1:ii=hand:=by rw [HII.out,Nat.mul_comm,Nat.add_mul_mod_self_left,Nat.mod_eq_of_lt hhand]
       rw [Nat.add_zero,Nat.mod_eq_of_lt hhand,<- e1];exact map_get HI.out
     rw [hused] at h6;clear hcont hused;have hfull:f.full=true:=by
      have hl:ii < (l.map (·.2)).length:=by rw [List.length_map,HN.out];exact hik
      obtain ⟨u,hu⟩:=HST.out.2 ii _ (List.getElem?_eq_getElem hl);rw [map_get HI.out] at hu;have e:=Option.some.inj hu;dsimp only at e;have h1:=HALL.out _ (List.getElem_mem hl);rw [e];exact h1
     have HSD:Hid (Sound d (l2.map (·.2)) L):=Lib.hid (HST.out.sound HG.out HALL.out);have HTW:Hid (Turn (o.In ofPool) w wr):=Lib.hid ((Turn.ofBelow HB.out).trans HT2.out (fun x _ e=>e ▸ H.out.in_fb));have HFULL:=Lib.hid hfull;have hnk:f.name.size<=1000/\f.k < 9223372036854775808:=by
      obtain ⟨ps,fl,hL,hk'⟩:=HSD.out.frames f (List.mem_of_getElem? (map_get HI.out)) hfull;have:=(HSD.out.fitPlc _ (List.mem_of_getElem? HI.out)).2;exact ⟨okName_1000 (HSD.out.ok f.name (by rw [hL];rfl)),by dsimp only at this;omega⟩
     obtain ⟨hns,hkb⟩:=hnk;clear hfull;cases hdirty:f.dirty with
     | false=>
       rw [hdirty] at h5;have HDIRTY:=Lib.hid hdirty;clear hdirty;by_cases hlt:tt < 2*k
       all_goals
        go_wp2_with fail
        refine (empty_any (HP2.out.below ((Below.refl _ _).alloc (Nat.le_refl _) _)) HI.out HFULL.out hns hkb).mono ?_;rintro e w6 ⟨rfl,hp6,ht6⟩;have HP6:=Lib.hid hp6;have HT6:=Lib.hid ht6;clear hp6 ht6;obtain ⟨⟨-,hc1,-⟩,hz3,-⟩:=HP6.out.head.cells;obtain ⟨⟨-,-,-,hc3,-⟩,-⟩:=HP6.out.head.cells;rw [List.length_set,HLEN2.out] at hc1;go_wp2;rw [Exit.noGoto_ret];go_ret2
        rw [HM.out];have hil:ii < l2.length:=lt_of_get HI.out;refine ⟨o,l2.set ii (.slice none 0 0,Frm.none),(ii+1) % k,d,0,ii,rfl,HP6.out.reHead ((Turn.refl (·=pb) w6).setCell ⟨pb,3,none⟩ _ (.inl rfl)) (HP6.out.head.setHand _) (by rw [List.length_set,HLEN2.out];exact Nat.mod_lt _ (by omega)) HP6.out.full,?_,Onward.refl d, .inl rfl,fun _=>⟨(.slice none 0 0,Frm.none),by rw [get_set hil,if_pos rfl],rfl⟩,?_,?_,OGrow.refl _ _⟩
        ·rw [map_set];exact HSD.out.reset (map_get HI.out) HDIRTY.out rfl (.inl rfl)
        ·rw [map_set];exact HST.out.fewer.trans (Fewer.none (by rw [List.length_map];exact hil))
        ·refine ((HTW.out.alloc _).trans (HT6.out.mono (S':=o.In ofPool) (fun x _ e=>e.elim (fun e=>e ▸ HP6.out.in_fb) (fun e=>e ▸ ⟨_,HP6.out.omb,show 8 < 10 by decide⟩))) ?_).trans ((Turn.refl (o.In ofPool) w6).setCell ⟨pb,3,none⟩ _ (.inl ⟨_,HP6.out.opb,show 6 < 10 by decide⟩)) ?_;all_goals
          intro x hx ⟨t,h1,h2⟩;exact ⟨t,by exact h1,h2⟩
     | true=>
       rw [hdirty] at h5;have HDIRTY:=Lib.hid hdirty;clear hdirty;by_cases hlt:tt < 2*k
       all_goals
        go_wp2_with fail
        refine (back_any HW (HP2.out.below ((Below.refl _ _).alloc (Nat.le_refl _) _)) HSD.out HI.out HFULL.out HDIRTY.out).mono ?_;rintro e w5 ⟨o5,l5,d5,c5,rfl,hp5,hg5,hon5,hcl5,he5,hcl0,ht5,hgr5⟩;have HP5:=Lib.hid hp5;have HG5:=Lib.hid hg5;have HON5:=Lib.hid hon5;have HCL5:=Lib.hid hcl5;have HE5:=Lib.hid he5;have HC0:=Lib.hid hcl0;have HTA:Hid (Turn (o.In ofPool) w w5):=Lib.hid ((HTW.out.alloc _).trans ht5 (fun _ _ h=>h));have HGA:Hid (OGrow w.heap.size o o5):=Lib.hid (fun x hx=>hgr5 x (by have:=HTW.out.size;simp;omega));have hlen5:l5.length=k:=by
         have:=hcl5.1;rw [List.length_map,List.length_map,HLEN2.out] at this;exact this
        have HLEN5:=Lib.hid hlen5;clear hp5 hg5 hon5 hcl5 he5 hcl0 ht5 hgr5 hlen5;by_cases hc5:c5=0
        ·subst hc5;have hf5:∃ v5 f5,l5[ii]? = some (v5,f5)/\f5.full=true/\f5.dirty=false/\f5.name=f.name/\f5.k=f.k:=by
          obtain ⟨fr,h1,h2⟩:=HC0.out rfl;obtain ⟨dd,g1,_⟩:=HCL5.out.2 ii f (map_get HI.out);rw [h1] at g1;have e:=Option.some.inj g1;have hl5:ii < l5.length:=by rw [HLEN5.out];exact hik
          have e2:l5[ii].2=fr:=by
           rw [List.getElem?_map,List.getElem?_eq_getElem hl5] at h1;exact Option.some.inj h1
          refine ⟨l5[ii].1,fr,by rw [List.getElem?_eq_getElem hl5,<- e2],?_,h2,by rw [e],by rw [e]⟩;rw [e];exact HFULL.out
         obtain ⟨v5,f5,hi5,hff5,hfd5,hfn5,hfk5⟩:=hf5;have HI5:=Lib.hid hi5;have HFD5:=Lib.hid hfd5;have hns5:f5.name.size<=1000:=by rw [hfn5];exact hns
         have hkb5:f5.k < 9223372036854775808:=by rw [hfk5];exact hkb
         have hcall5:=Lib.hid (empty_any HP5.out hi5 hff5 hns5 hkb5);clear hi5 hfd5 hff5 hfn5 hfk5;go_wp2_with fail
         refine hcall5.out.mono ?_;rintro e w6 ⟨rfl,hp6,ht6⟩;have HP6:=Lib.hid hp6;have HT6:=Lib.hid ht6;clear hp6 ht6;obtain ⟨⟨-,hc1,-⟩,hz3,-⟩:=HP6.out.head.cells;obtain ⟨⟨-,-,-,hc3,-⟩,-⟩:=HP6.out.head.cells;rw [List.length_set,HLEN5.out] at hc1;go_wp2;rw [Exit.noGoto_ret];go_ret2
         rw [HM.out];have hil:ii < l5.length:=lt_of_get HI5.out;refine ⟨o5,l5.set ii (.slice none 0 0,Frm.none),(ii+1) % k,d5,0,ii,rfl,HP6.out.reHead ((Turn.refl (·=pb) w6).setCell ⟨pb,3,none⟩ _ (.inl rfl)) (HP6.out.head.setHand _) (by rw [List.length_set,HLEN5.out];exact Nat.mod_lt _ (by omega)) HP6.out.full,?_,HON5.out, .inl rfl,fun _=>⟨(.slice none 0 0,Frm.none),by rw [get_set hil,if_pos rfl],rfl⟩,?_,?_,HGA.out⟩
         ·rw [map_set];exact HG5.out.reset (map_get HI5.out) HFD5.out rfl (.inl rfl)
         ·rw [map_set];exact (HST.out.fewer.trans HCL5.out.fewer).trans (Fewer.none (by rw [List.length_map];exact hil))
         ·refine (HTA.out.trans (HT6.out.mono (S':=o5.In ofPool) (fun x _ e=>e.elim (fun e=>e ▸ HP6.out.in_fb) (fun e=>e ▸ ⟨_,HP6.out.omb,show 8 < 10 by decide⟩))) ?_).trans ((Turn.refl (o5.In ofPool) w6).setCell ⟨pb,3,none⟩ _ (.inl ⟨_,HP6.out.opb,show 6 < 10 by decide⟩)) ?_;all_goals
           intro x hx ⟨t,h1,h2⟩;exact ⟨t,by first | (rw [<- HGA.out x hx];exact h1) | exact h1,h2⟩
        ·have hc5':¬ (c5:Int)=0:=by omega
         obtain ⟨⟨-,-,-,hc3,-⟩,hz3,-⟩:=HP5.out.head.cells;have HC5:=Lib.hid hc5;clear hc5;go_wp2;rw [Exit.noGoto_ret];go_ret2
         refine ⟨o5,l5,ii,d5,c5,0,rfl,HP5.out.reHead ((Turn.refl (·=pb) w5).setCell ⟨pb,3,none⟩ _ (.inl rfl)) (HP5.out.head.setHand _) (by rw [HLEN5.out];exact hik) HP5.out.full,HG5.out,HON5.out,HE5.out,fun h=>absurd h HC5.out,HST.out.fewer.trans HCL5.out.fewer,?_,HGA.out⟩;exact HTA.out.trans ((Turn.refl (o5.In ofPool) w5).setCell ⟨pb,3,none⟩ _ (.inl ⟨_,HP5.out.opb,show 6 < 10 by decide⟩)) (fun x hx ⟨t,h1,h2⟩=>⟨t,by rw [<- HGA.out x hx];exact h1,h2⟩)
end
end Go.Proofs.YthkkgdpomhhjjaaGreatDoor
