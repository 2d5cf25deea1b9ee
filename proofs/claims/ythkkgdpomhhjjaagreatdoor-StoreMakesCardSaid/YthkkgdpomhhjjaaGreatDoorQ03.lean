/-
  Joined.
-/
import Derived.Test.YthkkgdpomhhjjaaGreatDoorQ02
import Derived.Laws.CopyOwn
import Derived.Orders
namespace Go.Proofs.YthkkgdpomhhjjaaGreatDoor
section
open Go.RowKit Go.Maps Go.MapKept
open Go.ChangeMaps (setBlock heap_setBlock_same heap_setBlock_other)
namespace Dsk
def sizeOf (d:Dsk) (name:Name):Nat × Nat:=
 if d.dead then (0,6) else if okName name=false then (0,1) else match mget d.files name with
  | none=>(0,3)
  | some f=>(f.now.length,0)
def read (d:Dsk) (name:Name) (off n:Nat):List UInt8 × Nat:=
 if d.dead then ([],6) else if okName name=false then ([],1) else match mget d.files name with
  | none=>([],3)
  | some f=>((f.now.drop off).take n,0)
end Dsk
set_option maxRecDepth 100000 in
set_option maxHeartbeats 2000000 in
theorem size_any {w:World} {db:Nat} {o:Owner} {d:Dsk} (h:DiskAt w db o d) (name:Name) (hs:name.size<=1000) :
 Calls Tryz.prog 228 #[ptrTo db, .string name] w fun e w'=>e=.returned (.tuple #[.int .i64 ((d.sizeOf name).1:Int), .int .i64 ((d.sizeOf name).2:Int)])/\Below w.heap.size w w':=by
 have H:=Lib.hid h;obtain ⟨mf,ml,l,hd1⟩:=h;have HD1:=Lib.hid hd1;have hfc:=find_cases hd1 name true;clear hd1;unfold ptrTo;cases hd:d.dead with
 | true=>
   have e1:d.sizeOf name=(0,6):=by unfold Dsk.sizeOf;rw [hd];rfl
   have e2:d.err=6:=by unfold Dsk.err;rw [hd];rfl
   have E2:=Lib.hid e2;rw [e1];clear hd e1 e2 hfc;go_enter Tryz.func228,Tryz.ntmps228
   go_wp2_with fail
   refine (look_any H.out).mono ?_;rintro e w1 ⟨rfl,rfl⟩;rw [E2.out];go_wp2;go_returns
   exact ⟨rfl,Below.refl _ _⟩
 | false=>
   have e2:d.err=0:=by unfold Dsk.err;rw [hd];rfl
   have E2:=Lib.hid e2;have HDD:=Lib.hid hd;clear hd e2;go_enter Tryz.func228,Tryz.ntmps228
   go_wp2_with fail
   refine (look_any H.out).mono ?_;rintro e w1 ⟨rfl,rfl⟩;rw [E2.out];go_wp2_with fail
   refine (find_any HD1.out name true hs).mono ?_;rintro e w2 ⟨rfl,hb2⟩;have HB2:=Lib.hid hb2;have HD2:=Lib.hid (HD1.out.below hb2);clear hb2;rcases hfc with ⟨q1,q2⟩ | ⟨q1,q2,q3,q4⟩ | ⟨pf,f,q1,q2,q3,q4⟩
   ·have e1:d.sizeOf name=(0,1):=by
     unfold Dsk.sizeOf;rw [HDD.out];rw [Bool.and_true] at q1;rw [q1];rfl
    rw [q2];have E1:=Lib.hid e1;clear e1 q2 q1;go_wp2;go_returns
    rw [E1.out];exact ⟨rfl,HB2.out⟩
   ·have e1:d.sizeOf name=(0,3):=by
     unfold Dsk.sizeOf;rw [HDD.out];rw [Bool.and_true] at q1;rw [q1,q2];rfl
    rw [q4];have E1:=Lib.hid e1;clear e1 q4 q3 q2 q1;go_wp2;go_returns
    rw [E1.out];exact ⟨rfl,HB2.out⟩
   ·have e1:d.sizeOf name=(f.now.length,0):=by
     unfold Dsk.sizeOf;rw [HDD.out];rw [Bool.and_true] at q1;rw [q1,q2];rfl
    rw [q4];have E1:=Lib.hid e1;have hfa:FileAt w2 o pf f:=HD2.out.each _ (mget_mem q3);clear e1 q4 q3 q2 q1;obtain ⟨v,u,⟨hp0,-⟩,-,hrow,-⟩:=hfa.cells;have hmost:=hfa.most.1;obtain ⟨a,c,rfl⟩:=ownsRow_slice hrow;have HROW:=Lib.hid hrow;clear hrow hfa;go_wp2;go_returns
    rw [E1.out];exact ⟨rfl,HB2.out⟩
def ReadPost (w:World) (r:List UInt8 × Nat) (e:Ending) (w':World):Prop:=
 ∃ v,e=.returned (.tuple #[v, .int .i64 (r.2:Int)])/\w'.ownsRow w.heap.size 5 1 v r.1.length (r.1.map bv)/\Below w.heap.size w w'
set_option maxRecDepth 100000 in
set_option maxHeartbeats 2000000 in
theorem read_any {w:World} {db:Nat} {o:Owner} {d:Dsk} (h:DiskAt w db o d) (name:Name) (hs:name.size<=1000) (off n:Nat) (hn:n<=1099511627776) :
 Calls Tryz.prog 237 #[ptrTo db, .string name, .int .i64 (off:Int), .int .i64 (n:Int)] w (ReadPost w (d.read name off n)):=by
 have H:=Lib.hid h;obtain ⟨mf,ml,l,hd1⟩:=h;have HD1:=Lib.hid hd1;have hfc:=find_cases hd1 name true;clear hd1;unfold ptrTo;cases hd:d.dead with
 | true=>
   have e1:d.read name off n=([],6):=by unfold Dsk.read;rw [hd];rfl
   have e2:d.err=6:=by unfold Dsk.err;rw [hd];rfl
   have E2:=Lib.hid e2;rw [e1];clear hd e1 e2 hfc;go_enter Tryz.func237,Tryz.ntmps237
   go_wp2_with fail
   refine (look_any H.out).mono ?_;rintro e w1 ⟨rfl,rfl⟩;rw [E2.out];go_wp2;go_returns
   exact ⟨_,rfl,ownsRow_nil _ _ _,Below.refl _ _⟩
 | false=>
   have e2:d.err=0:=by unfold Dsk.err;rw [hd];rfl
   have E2:=Lib.hid e2;have HDD:=Lib.hid hd;clear hd e2;go_enter Tryz.func237,Tryz.ntmps237
   go_wp2_with fail
   refine (look_any H.out).mono ?_;rintro e w1 ⟨rfl,rfl⟩;rw [E2.out];go_wp2_with fail
   refine (find_any HD1.out name true hs).mono ?_;rintro e w2 ⟨rfl,hb2⟩;have HB2:=Lib.hid hb2;have HD2:=Lib.hid (HD1.out.below hb2);clear hb2;rcases hfc with ⟨q1,q2⟩ | ⟨q1,q2,q3,q4⟩ | ⟨pf,f,q1,q2,q3,q4⟩
   ·have e1:d.read name off n=([],1):=by
     unfold Dsk.read;rw [HDD.out];rw [Bool.and_true] at q1;rw [q1];rfl
    rw [q2];have E1:=Lib.hid e1;clear e1 q2 q1;go_wp2;go_returns
    rw [E1.out];exact ⟨_,rfl,ownsRow_nil _ _ _,HB2.out⟩
   ·have e1:d.read name off n=([],3):=by
     unfold Dsk.read;rw [HDD.out];rw [Bool.and_true] at q1;rw [q1,q2];rfl
    rw [q4];have E1:=Lib.hid e1;clear e1 q4 q3 q2 q1;go_wp2;go_returns
    rw [E1.out];exact ⟨_,rfl,ownsRow_nil _ _ _,HB2.out⟩
   ·have e1:d.read name off n=((f.now.drop off).take n,0):=by
     unfold Dsk.read;rw [HDD.out];rw [Bool.and_true] at q1;rw [q1,q2];rfl
    rw [q4];have E1:=Lib.hid e1;have hfa:FileAt w2 o pf f:=HD2.out.each _ (mget_mem q3);clear e1 q4 q3 q2 q1;obtain ⟨v,u,⟨hp0,-⟩,-,hrow,-⟩:=hfa.cells;have hmost:=hfa.most.1;have hrd:=Rd_own hrow;obtain ⟨a,cap,rfl,hlc,hcm,hc⟩:=id hrd;have HRD:=Lib.hid hrd;unfold maxLen at hcm;clear hrow hfa hc hrd;by_cases hlo:off<=f.now.length
    ·by_cases hnn:n<=f.now.length - off
     ·skip
      have hA:=Lib.hid (fun nq (e:cap=off)=>((((HRD.out.drewN nq).from (k:=off) (by omega)).1 e).to (k:=n) (by rw [List.length_drop];omega)));have hB:=Lib.hid (fun nq=>((((HRD.out.drewN nq).from (k:=off) (by omega)).2).to (k:=n) (by rw [List.length_drop];omega)));go_wp2_with fail
      go_quiet (fail)
      go_wp2_with fail
      all_goals
       refine (clone_any _ ((f.now.drop off).take n) _ (by first | exact hB.out _ | exact hA.out _ rfl | exact hA.out _ (by assumption) | (rw [hn0];first | exact hB.out _ | exact hA.out _ rfl | exact hA.out _ (by assumption))) (by rw [List.length_take,List.length_drop];omega)).mono ?_;rintro e w3 ⟨v3,rfl,ho3,hb3⟩;have HO3:=Lib.hid ho3;have HB3:Hid (Below w2.heap.size w2 w3):=Lib.hid ⟨hb3.os,hb3.tape,hb3.output,hb3.size,hb3.block⟩;clear ho3 hb3;go_wp2_with fail
       go_returns
       rw [E1.out];exact ⟨_,rfl,ownsRow_base HO3.out HB2.out.size,HB2.out.trans (HB3.out.mono HB2.out.size)⟩
     ·skip
      have hq2:(f.now.drop off).take n=(f.now.drop off).take (f.now.length - off):=by
       rw [List.take_of_length_le (by rw [List.length_drop];omega),List.take_of_length_le (by rw [List.length_drop];omega)]
      have EQ2:=Lib.hid hq2;clear hq2;have hA:=Lib.hid (fun nq (e:cap=off)=>((((HRD.out.drewN nq).from (k:=off) (by omega)).1 e).to (k:=(f.now.length - off)) (by rw [List.length_drop];omega)));have hB:=Lib.hid (fun nq=>((((HRD.out.drewN nq).from (k:=off) (by omega)).2).to (k:=(f.now.length - off)) (by rw [List.length_drop];omega)));go_wp2_with fail
      go_quiet (fail)
      go_wp2_with fail
      all_goals
       refine (clone_any _ ((f.now.drop off).take (f.now.length - off)) _ (by first | exact hB.out _ | exact hA.out _ rfl | exact hA.out _ (by assumption) | (rw [hn0];first | exact hB.out _ | exact hA.out _ rfl | exact hA.out _ (by assumption))) (by rw [List.length_take,List.length_drop];omega)).mono ?_;rintro e w3 ⟨v3,rfl,ho3,hb3⟩;have HO3:=Lib.hid ho3;have HB3:Hid (Below w2.heap.size w2 w3):=Lib.hid ⟨hb3.os,hb3.tape,hb3.output,hb3.size,hb3.block⟩;clear ho3 hb3;go_wp2_with fail
       go_returns
       rw [E1.out];rw [EQ2.out];exact ⟨_,rfl,ownsRow_base HO3.out HB2.out.size,HB2.out.trans (HB3.out.mono HB2.out.size)⟩
    ·rcases Nat.eq_zero_or_pos n with hn0 | hn0;all_goals
      have hq2:(f.now.drop off).take n=(f.now.drop f.now.length).take 0:=by
       rw [List.drop_of_length_le (by omega)];simp
      have EQ2:=Lib.hid hq2;clear hq2;have hA:=Lib.hid (fun nq (e:cap=f.now.length)=>((((HRD.out.drewN nq).from (k:=f.now.length) (by omega)).1 e).to (k:=0) (by rw [List.length_drop];omega)));have hB:=Lib.hid (fun nq=>((((HRD.out.drewN nq).from (k:=f.now.length) (by omega)).2).to (k:=0) (by rw [List.length_drop];omega)));go_wp2_with fail
      go_quiet (fail)
      go_wp2_with fail
      all_goals
       refine (clone_any _ ((f.now.drop f.now.length).take 0) _ (by first | exact hB.out _ | exact hA.out _ rfl | exact hA.out _ (by assumption) | (rw [hn0];first | exact hB.out _ | exact hA.out _ rfl | exact hA.out _ (by assumption))) (by rw [List.length_take,List.length_drop];omega)).mono ?_;rintro e w3 ⟨v3,rfl,ho3,hb3⟩;have HO3:=Lib.hid ho3;have HB3:Hid (Below w2.heap.size w2 w3):=Lib.hid ⟨hb3.os,hb3.tape,hb3.output,hb3.size,hb3.block⟩;clear ho3 hb3;go_wp2_with fail
       go_returns
       rw [E1.out];rw [EQ2.out];exact ⟨_,rfl,ownsRow_base HO3.out HB2.out.size,HB2.out.trans (HB3.out.mono HB2.out.size)⟩
def usedIn (l:List (Name × (Nat × DFile))):Nat:=(l.map (fun p=>sect p.2.2.now.length)).sum
theorem usedIn_perm {a b:List (Name × (Nat × DFile))} (h:a.Perm b):usedIn a=usedIn b:=(h.map _).sum_nat
theorem DiskIn.usedIn {w:World} {db mf ml:Nat} {o:Owner} {l:List (Name × (Nat × DFile))} {d:Dsk} (h:DiskIn w db o mf ml l d):usedIn l=usedOf d.files:=by
 rw [<- h.strip];unfold usedOf Proofs.YthkkgdpomhhjjaaGreatDoor.usedIn;rw [List.map_map];rfl
set_option maxRecDepth 100000 in
set_option maxHeartbeats 2000000 in
theorem used_any {w:World} {db:Nat} {o:Owner} {d:Dsk} (h:DiskAt w db o d) :
 Calls Tryz.prog 267 #[ptrTo db] w fun e w'=>e=.returned (.int .i64 (usedOf d.files:Int))/\Below w.heap.size w w':=by
 obtain ⟨mf,ml,l,h⟩:=h;have HD:=Lib.hid h;have hu:=h.usedIn;have hmax:=h.ok.used;rw [<- hu] at hmax ⊢;have HMAX:=Lib.hid hmax;clear hu hmax;obtain ⟨⟨hc0,hc1,hc2,hc3,hc4⟩,hf2,hf3,hf4⟩:=h.head.cells;clear h hc1 hc2 hc3 hc4 hf2 hf3 hf4;unfold ptrTo;go_enter Tryz.func267,Tryz.ntmps267
 go_wp2_with (at_range;refine wpList_rng _ rfl _ _ rfl 109 Tryz.underlying110 mf l rfl HD.out.files ?_;intro ob hi0)
 go_frame
 go_loopw [3] (fun n wr=>∃ (todo:List (Name × (Nat × DFile))) (k:Nat),n=.int .i64 (k:Int)/\IterAt Tryz.prog 9 Value.string (fun x:Nat × DFile=>ptrTo x.1) wr mf w.heap.size l todo/\Below w.heap.size w wr/\Hid (k+usedIn todo=usedIn l)) (fun _ wr=>wr.rangeLeft mf w.heap.size)
 case atStart=>exact ⟨_,0,rfl,hi0,(Below.refl _ _).alloc (Nat.le_refl _) _,Lib.hid (by omega)⟩
 case round=>
  obtain ⟨todo,k,rfl,hi,hb,hk⟩:=hrel;have HB:=Lib.hid hb;clear hb;go_wp2_with (at_next;refine wpList_nxt _ rfl _ rfl mf w.heap.size l todo rfl hi ?_ ?_)
  ·rintro rfl;go_wp2;go_ret;refine ⟨?_,HB.out⟩;have:=hk.out;unfold usedIn at this ⊢;simp at this;rw [<- this];rfl
  ·intro nm pf f rs w1 ob1 hp hal hi1 hen;have hb1:Below w.heap.size w (setBlock w1 w.heap.size ob1):=by
    have:Turn (fun x=>w.heap.size<=x) w (setBlock w1 w.heap.size ob1):=by
     have h0:Turn (fun x=>w.heap.size<=x) w wr:=Turn.ofBelow HB.out;rcases hal with rfl | rfl
     ·exact h0.setBlock _ _ (.inl (Nat.le_refl _))
     ·exact h0.drew.setBlock _ _ (.inl (Nat.le_refl _))
    exact this.below (Nat.le_refl _) (fun _ h=>h)
   have HP:=Lib.hid hp;have HI:=Lib.hid hi;have hmem:(nm,pf,f)∈l:=hi.sub _ (hp.mem_iff.2 (by simp));have HB1:=Lib.hid hb1;have hfa:FileAt (setBlock w1 w.heap.size ob1) o pf f:=(HD.out.below hb1).each _ hmem;obtain ⟨v,u,⟨hp0,-⟩,-,hrow,-⟩:=hfa.cells;have hmost:=hfa.most.1;obtain ⟨a,c,rfl⟩:=ownsRow_slice hrow;clear hp hi hb1 hal hfa hrow hmem;unfold ptrTo at hen;have hsum:k+sect f.now.length+usedIn rs=usedIn l:=by
    have h1:=hk.out;rw [usedIn_perm HP.out] at h1;unfold usedIn at h1 ⊢;simp only [List.map_cons,List.sum_cons] at h1;omega
   have HS:=Lib.hid hsum;have hkk:k+sect f.now.length<=1048576:=by have:=HMAX.out;omega
   have HKK:=Lib.hid hkk;have hk1:k<=1048576:=by omega
   have hk2:sect f.now.length<=1048576:=by omega
   clear hsum hkk;generalize hW:setBlock w1 w.heap.size ob1=W at hen hp0 HB1 hi1;clear hW hi0;go_wp2_with (go_at_call 266;refine (sectors_any _ _ (by omega)).mono ?_;rintro e w2 ⟨rfl,rfl⟩)
   go_roundw
   case rel=>
    refine ⟨rs,k+sect f.now.length,?_,hi1,HB1.out,HS⟩;unfold sect;congr 1
   case measure=>
    have e1:=hi1.left;have e2:=HP.out.length_eq;rw [List.length_cons] at e2;rw [e1,HI.out.left];omega
def Dsk.new (quota:Nat):Dsk:=⟨[],[],quota,0,false⟩
set_option maxRecDepth 100000 in
set_option maxHeartbeats 2000000 in
theorem newDisk_any (quota:Nat) (hq:quota<=1048576) (w:World) :
 Calls Tryz.prog 69 #[.int .i64 (quota:Int)] w fun e w'=>∃ db o,e=.returned (.tuple #[ptrTo db, .int .i64 0])/\DiskAt w' db o (Dsk.new quota)/\Below w.heap.size w w'/\∀ x t,o x=some t->w.heap.size<=x:=by
 have hmk:∀ (t:TypeId) (W:World),(Instr.makeMap t none).run Tryz.prog W=.ok (.map (some W.heap.size)) (W.alloc (.map #[] 0)):=fun _ _=>rfl;go_enter Tryz.func69,Tryz.ntmps69
 go_wp2;go_returns
 let o:Owner:=fun x=>if x=w.heap.size then some (1,0) else if x=w.heap.size+1 then some (2,0) else if x=w.heap.size+1+1 then some (0,0) else none
 have ho:∀ x t,o x=some t->w.heap.size<=x/\x < w.heap.size+3:=by
  intro x t hx;simp only [o] at hx;split at hx
  ·omega
  ·split at hx
   ·omega
   ·split at hx
    ·omega
    ·cases hx
 refine ⟨w.heap.size+1+1,o,?_,⟨w.heap.size,w.heap.size+1,[],?_⟩,?_,fun x t hx=>(ho x t hx).1⟩
 ·rfl
 ·have s1:(w.alloc (.map #[] 0)).heap.size=w.heap.size+1:=by simp
  have s2:((w.alloc (.map #[] 0)).alloc (.map #[] 0)).heap.size=w.heap.size+1+1:=by simp
  have m0:MapAt Tryz.prog 9 Value.string (fun x:Nat × DFile=>ptrTo x.1) (w.alloc (.map #[] 0)) w.heap.size []:=MapAt.made w _ _ _ _;have m1:MapAt Tryz.prog 116 nameNum (fun _:Unit=>.bool true) ((w.alloc (.map #[] 0)).alloc (.map #[] 0)) (w.heap.size+1) []:=by
   have:=MapAt.made (w.alloc (.map #[] 0)) Tryz.prog 116 nameNum (fun _:Unit=>Value.bool true);rw [s1] at this;exact this
  have hh:∀ (W:World) (ob:Obj) (b:Nat),b < W.heap.size->(W.alloc ob).heap[b]? = W.heap[b]? := fun W ob b hb=>(MapKept.heap_alloc W ob).2 b hb;refine { odb:=?_,omf:=?_,oml:=?_,head:=⟨113,?_⟩,files:=?_,strip:=rfl,apart:=by simp,each:=by simp,loose:=?_,owned:=?_,ok:=⟨hq,by show 0 < 9223372036854775808;decide,by simp [usedOf,Dsk.new]⟩ }
  ·simp [o];omega
  ·simp [o]
  ·simp [o]
  ·have:=heap_alloc_new ((w.alloc (.map #[] 0)).alloc (.map #[] 0)) (.cells #[.map (some w.heap.size), .map (some (w.heap.size+1)), .int .i64 (quota:Int), .int .i64 0, .bool false] 113);rw [s2] at this;exact this
  ·exact (m0.kept (hh _ _ _ (by simp))).kept (hh _ _ _ (by simp;omega))
  ·exact m1.kept (hh _ _ _ (by simp))
  ·intro x t hx;have:=(ho x t hx).2;simp;omega
 ·exact (((Below.refl _ _).alloc (Nat.le_refl _) _).alloc (by simp) _).alloc (by simp;omega) _
def over (xs:List UInt8) (off:Nat) (bs:List UInt8):List UInt8:=xs.take off++(bs++xs.drop (off+bs.length))
theorem over_length {xs:List UInt8} {off:Nat} {bs:List UInt8} (h:off+bs.length<=xs.length):(over xs off bs).length=xs.length:=by
 simp [over];omega
theorem over_nil (xs:List UInt8) (off:Nat):over xs off []=xs:=by simp [over]
theorem take_over {α:Type} (C B:List α) (n off:Nat) (h:off+B.length<=n) (hn:n<=C.length) :
 (C.take off++(B++C.drop (off+B.length))).take n=(C.take n).take off++(B++(C.take n).drop (off+B.length)):=by
 rw [List.take_append,List.take_append,List.length_take,List.take_take,List.take_take,List.drop_take,Nat.min_eq_left (show off<=C.length by omega),Nat.min_eq_right (show off<=n by omega),Nat.min_eq_left (show off<=n by omega),List.take_of_length_le (show B.length<=n - off by omega),show n - off - B.length=n - (off+B.length) by omega]
def loosen (m:List ((Name × Nat) × Unit)) (name:Name) (off:Nat):Nat->List ((Name × Nat) × Unit)
 | 0=>m
 | n+1=>mput (loosen m name off n) (name,(off+n) / 64) ()
def DFile.laid (f:DFile) (off:Nat) (bs:List UInt8):DFile:=
 ⟨over (f.now++List.replicate (max f.now.length (off+bs.length) - f.now.length) 0) off bs,f.lasts⟩
namespace Dsk
def write (d:Dsk) (name:Name) (off:Nat) (bs:List UInt8):Dsk × Nat:=
 if d.tick.dead then (d.tick,6) else if okName name=false then (d.tick,1) else match mget d.files name with
  | none=>(d.tick,3)
  | some f=>
    if f.now.length < off then (d.tick,1)
    else if 16777216 < bs.length+off then (d.tick,9)
    else if sect f.now.length < sect (max f.now.length (off+bs.length))/\d.quota < usedOf d.files+(sect (max f.now.length (off+bs.length)) - sect f.now.length) then (d.tick,5)
    else ({ d.tick with files:=mput d.files name (f.laid off bs),loose:=loosen d.loose name off bs.length },0)
end Dsk
theorem wpList_maxNat {P:Program} {w:World} {ops:Array Oper} {rest:List Oper} {o:Oper} {a:Act} {Q:Exit->Act->World->Prop} (hgd:o.guard=none) (x y:Operand) (t t':TypeId)
 (ho:o.op=.call { callee:=.builtin .max,args:=#[x,y],argTypes:=#[t,t'] }) (m n:Nat) {p q:Int} (hx:a.eval x=.int .i64 p) (hy:a.eval y=.int .i64 q) (hp:p=(m:Int)) (hq:q=(n:Int))
 (h:∀ E,E=max m n->wpList P ops Q rest (a.put o.dst (.int .i64 ((E:Nat):Int))) w):wpList P ops Q (o::rest) a w:=by
 refine wpList_plain hgd fun K hK=>?_;have hrun:=run_max_int2 (P:=P) (w:=w) #[t,t'] o.type .i64 .i64 p q;unfold Oper.wp;simp [execOp,ho,resolve,invoke,builtin,hx,hy,hrun,Result.andThen];refine hK _ _ ?_;have:(if q > p then q else p)=((max m n:Nat):Int):=by
  rw [hp,hq];split<;>omega
 have h':=h _ rfl;rw [<- this] at h';exact h'
end
section
open Go
section
variable {P:Program} {ops:Array Oper} {md:Region.Mode} {C:World->Prop}
def behindB (md:Region.Mode) (ops:Array Oper) (n:Nat):Bool:=
 (List.range ops.size).all fun t=>decide (t<=n) || (List.range t).any fun s=>decide (n<=s) && Region.waitsFor md ops t s
theorem mid_waits {n:Nat} {listed:Array Bool} (hs:Region.sinkB md ops n=true) (hc:behindB md ops n=true) (hn:n < ops.size) (inv:HeadInv md ops n listed) :
 ∀ (d i:Nat),n - i=d->i < n->listed.getD i true=false->∀ t,n<=t->t ∉ Region.ready md ops listed:=by
 intro d;induction d using Nat.strongRecOn with
 | _ d ih=>
   intro i hd hi hun t ht hr;obtain ⟨_,ot,hot,hall⟩:=mem_ready.1 hr;have htlt:t < ops.size:=(Array.getElem?_eq_some_iff.1 hot).1;by_cases htn:t=n
   ·subst htn;have h1:=List.all_eq_true.1 hs i (List.mem_range.2 hi);obtain ⟨j,hj,hj2⟩:=List.any_eq_true.1 h1;simp only [Bool.and_eq_true,decide_eq_true_eq] at hj2;obtain ⟨oj,hoj,e,he,hb,hon⟩:=Region.waitsFor_spec hj2.2;have hjle:j<=t:=by have:=List.mem_range.1 hj;omega
    by_cases hjt:j=t
    ·subst hjt;have:oj=ot:=Option.some.inj (hoj.symm.trans hot);subst this;have h2:=hall e he hb;rw [hon,getD_both hun] at h2;cases h2
    ·cases hl:listed.getD j false with
     | true=>
       have h2:=inv.closed j oj hoj hl e he hb;rw [hon,getD_both hun] at h2;cases h2
     | false=>
       have hjs:j < listed.size:=by rw [inv.size];omega
       exact ih (t - j) (by omega) j rfl (by omega) (getD_in hjs hl) t (Nat.le_refl _) hr
   ·have h1:=List.all_eq_true.1 hc t (List.mem_range.2 htlt);simp only [Bool.or_eq_true,decide_eq_true_eq] at h1;rcases h1 with h1 | h1
    ·omega
    ·obtain ⟨s,hsr,hs2⟩:=List.any_eq_true.1 h1;simp only [Bool.and_eq_true,decide_eq_true_eq] at hs2;have hst:=List.mem_range.1 hsr;obtain ⟨o',ho',e,he,hb,hon⟩:=Region.waitsFor_spec hs2.2;have:o'=ot:=Option.some.inj (ho'.symm.trans hot);subst this;have h2:=hall e he hb;rw [hon,getD_both (inv.tail s hs2.1 (by omega))] at h2;cases h2
theorem midAny_first {n i:Nat} {oi:Oper} {v:Value} {L:Array Bool->Act->Prop} (hi:ops[i]? = some oi) (hsel:∀ (j:Nat) (o:Oper) cs b,ops[j]? = some o->o.op≠.select cs b)
 (hs:Region.sinkB md ops n=true) (hc:behindB md ops n=true) (hn:n < ops.size) (hin:i < n)
 (hdone:∀ listed a,L listed a->∀ j∈Region.ready md ops listed,n<=j) (f:Nat) :
 ∀ (listed:Array Bool) (a:Act),HeadInv md ops n listed ->
  (∀ j oj,ops[j]? = some oj->j≠i->listed.getD j true=false->(∀ e∈oj.after,Region.binds md e=true->e.on≠i)->oi.apart ops oj=true) ->
  i∈Region.ready md ops listed->YieldsIn P ops C oi v a ->
  headAny P md ops C n L f (listed.setIfInBounds i true) (a.put oi.dst v)->headAny P md ops C n L (f+1) listed a:=by
 induction f with
 | zero=>
   intro listed a inv _ hr hy H;have hun:=(mem_ready.1 hr).1;refine ⟨fun h=>(by rw [h] at hr;cases hr),fun j hj=>?_⟩;have hjn:j < n:=by
    rcases Nat.lt_or_ge j n with h | h
    ·exact h
    ·exact absurd hj (mid_waits hs hc hn inv _ i rfl hin hun j h)
   refine ⟨hjn,?_⟩;by_cases hji:j=i
   ·subst hji;exact hy.qOp hi H
   ·have:=hdone _ _ H j (ready_mono hj hji);omega
 | succ f ih=>
   intro listed a inv hfree hr hy H;have hun:=(mem_ready.1 hr).1;refine ⟨fun h=>(by rw [h] at hr;cases hr),fun j hj=>?_⟩;have hjn:j < n:=by
    rcases Nat.lt_or_ge j n with h | h
    ·exact h
    ·exact absurd hj (mid_waits hs hc hn inv _ i rfl hin hun j h)
   refine ⟨hjn,?_⟩;by_cases hji:j=i
   ·subst hji;exact hy.qOp hi H
   ·have h1:=(H.2 j (ready_mono hj hji)).2;obtain ⟨hjun,oj,hoj,hall⟩:=mem_ready.1 hj;have hnot:∀ e∈oj.after,Region.binds md e=true->e.on≠i:=fun e he hb heq=>by
     have h1:=hall e he hb;rw [heq,getD_both hun] at h1;cases h1
    have h2:=qOp_put hoj (hfree j oj hoj hji hjun hnot) (fun cs b=>hsel i oi cs b hi) (fun cs b=>hsel j oj cs b hoj) hy h1;have hfree':∀ k ok,ops[k]? = some ok->k≠i->(listed.setIfInBounds j true).getD k true=false ->
     (∀ e∈ok.after,Region.binds md e=true->e.on≠i)->oi.apart ops ok=true:=fun k ok hk hki hun hno=>by
     refine hfree k ok hk hki ?_ hno;by_cases hjk:j=k
     ·subst hjk;exact hjun
     ·rw [getD_set_ne true hjk] at hun;exact hun
    refine qOp_mono (fun a' h3=>ih (listed.setIfInBounds j true) a' (inv.set hj hjn) hfree' (ready_mono hr (Ne.symm hji)) h3.1 ?_) h2;rw [Array.setIfInBounds_comm _ _ hji];exact h3.2
def lexMid (md:Region.Mode) (ops:Array Oper) (g:Nat):Nat->Nat->Array Bool->Bool
 | 0,k,listed=>decide (Region.ready md ops listed=[k]) && Region.lexFrom md ops g (k+1) (listed.setIfInBounds k true)
 | f+1,k,listed=>(Region.ready md ops listed).contains k && Region.free md ops listed k && lexMid md ops g f (k+1) (listed.setIfInBounds k true)
def midB (md:Region.Mode) (ops:Array Oper) (n:Nat):Bool:=
 Region.noSelect ops && decide (n < ops.size) && Region.sinkB md ops n && behindB md ops n && lexMid md ops (ops.size - (n+1)) n 0 (Array.replicate ops.size false)
def midDone (md:Region.Mode) (ops:Array Oper) (g n:Nat) (listed:Array Bool):Prop:=Region.ready md ops listed=[n]/\Region.lexFrom md ops g (n+1) (listed.setIfInBounds n true)=true
theorem midAny_lex {n g:Nat} {Lq:Act->Prop} (hsel:Region.noSelect ops=true) (hs:Region.sinkB md ops n=true) (hc:behindB md ops n=true) (hn:n < ops.size) (l:List Oper) :
 ∀ (k:Nat) (listed:Array Bool) (a:Act),(∀ j,j < l.length->l[j]? = ops[k+j]?)->k+l.length=n->HeadInv md ops n listed ->
 lexMid md ops g l.length k listed=true->wpQuiet P ops C Lq l a ->
 headAny P md ops C n (fun listed' a'=>midDone md ops g n listed'/\Lq a') l.length listed a:=by
 induction l with
 | nil=>
   intro k listed a _ hk _ hB h;have:k=n:=by simpa using hk
   subst this;simp only [List.length_nil,lexMid,Bool.and_eq_true,decide_eq_true_eq] at hB;exact ⟨hB,h⟩
 | cons o l ih=>
   intro k listed a hl hk inv hB h;have h0:ops[k]? = some o:=by simpa using (hl 0 (by simp)).symm
   simp only [List.length_cons,lexMid,Bool.and_eq_true] at hB;obtain ⟨⟨hr,hf⟩,hB'⟩:=hB;have hkn:k < n:=by simp only [List.length_cons] at hk;omega
   have hr':k∈Region.ready md ops listed:=by simpa using hr
   have hst:qOp P ops C k (wpQuiet P ops C Lq l) a:=by unfold qOp;simp only [h0];exact h
   obtain ⟨v,hy,hK⟩:=yieldsIn_of_qOp h0 hst;exact midAny_first h0 (Region.noSelect_spec hsel) hs hc hn hkn (fun listed' a' hL j hj=>by
    have h1:=hL.1.1;rw [h1] at hj;have:j=n:=by simpa using hj
    omega) l.length listed a inv (Region.free_spec h0 hf) hr' hy
    (ih (k+1) _ _ (fun j hj=>by have:=hl (j+1) (by simp;omega);simpa [Nat.add_assoc,Nat.add_comm 1 j] using this) (by simp only [List.length_cons] at hk;omega) (inv.set hr' hkn) hB' hK)
def MidCall (P:Program) (ops:Array Oper) (Q:Exit->Act->World->Prop) (o:Oper) (rest:List Oper) (a:Act) (w:World):Prop:=
 ∃ f args,Region.wanted o (yielded ops a.tmps)=true/\(execOp a.eval o).run P w=.ok (.enter f args) w /\
  Calls P f args w fun e w'=>∃ v,e=.returned v/\wpQuiet P ops (·=w') (fun a'=>Q .normal a' w') rest (a.put o.dst v)
theorem wp_region_mid (C:World->Prop) {id:Nat} {Q:Exit->Act->World->Prop} {a:Act} {w:World} {l:List Oper} (n:Nat) {o:Oper} {rest:List Oper} (hl:l.drop n=o::rest) (hm:P.follows .mixedOrders=true) (hB:midB .any l.toArray n=true) (hC:C w.drew)
 (h:wpQuiet P l.toArray C (fun a'=>∀ w',C w'->MidCall P l.toArray Q o rest a' w') (l.take n) a):(Code.region id l.toArray true).wp P Q a w:=by
 simp only [midB,Bool.and_eq_true,decide_eq_true_eq] at hB;obtain ⟨⟨⟨⟨hsel,hn⟩,hs⟩,hc⟩,hlex⟩:=hB;have hn':n < l.length:=by simpa using hn
 have htl:(l.take n).length=n:=by simp;omega
 have hon:l[n]? = some o:=by
  have:=congrArg (fun x:List Oper=>x[0]?) hl;simpa using this
 have hrest:l.drop (n+1)=rest:=by
  have:=congrArg List.tail hl;simpa using this
 have hrl:rest.length=l.toArray.size - (n+1):=by rw [<- hrest];simp
 have inv0:HeadInv .any l.toArray n (Array.replicate l.toArray.size false):=
  ⟨by simp,fun j oj _ hl=>(by rw [getD_replicate_false] at hl;cases hl),fun t _ ht=>getD_in (by simpa using ht) (getD_replicate_false _ _)⟩
 have H:=midAny_lex (md:=.any) (C:=C) (g:=l.toArray.size - (n+1)) hsel hs hc hn (l.take n) 0 _ a (fun j hj=>by
  have hj':j < n:=by rw [htl] at hj;exact hj
  simp [hj']) (by simpa using htl) inv0 (by rw [htl];exact hlex) h
 refine wp_region_any hm ?_;have:=headAny_any (Q':=Q) (g:=rest.length+1) (fun listed a' w' hw' hL=>by
  obtain ⟨⟨hr,hx⟩,hK⟩:=hL;refine ⟨fun h0=>(by rw [hr] at h0;cases h0),fun i hi=>?_⟩;rw [hr] at hi;have:i=n:=by simpa using hi
  subst this;obtain ⟨f,args,hwant,hrun,hcall⟩:=hK w' hw';have h0:(l.toArray)[i]? = some o:=by simpa using hon
  unfold wpOp;simp only [h0];rw [if_pos hwant];left;unfold Oper.wp;rw [hrun,Oper.upon_enter];refine hcall.mono ?_;rintro e w2 ⟨v,rfl,hq⟩;refine wpAny_of_quiet (Q:=fun a'=>Q .normal a' w2) (C:=(·=w2)) (fun a3 w3 hw3 h3=>by subst hw3;exact h3) _ _ _ _ rfl ?_;refine wpAnyQ_lex hsel rest (i+1) _ _ (fun j=>?_) (by rw [hrl];exact hx) hq;rw [<- hrest,List.getElem?_drop,List.getElem?_toArray]) _ _ _ _ hC H
 rw [htl,hrl,show n+(l.toArray.size - (n+1)+1)=l.toArray.size by omega] at this;exact this
end
end
section
open Go
section
variable {P:Program} {ops:Array Oper} {md:Region.Mode} {C:World->Prop}
def NoP (Q:Exit->Act->World->Prop):Exit->Act->World->Prop
 | .panic _,_,_=>False
 | e,a,w=>Q e a w
theorem NoP.weaken {Q:Exit->Act->World->Prop}:∀ e a w,NoP Q e a w->Q e a w:=by
 intro e a w h;cases e<;>first | exact h | exact h.elim
def wpPure (P:Program) (ops:Array Oper) (Qp:Act->Prop):List Oper->Act->Prop
 | [],a=>Qp a
 | o::rest,a=>∃ v,Yields P ops o v a/\wpPure P ops Qp rest (a.put o.dst v)
theorem p_op {Qp:Act->Prop} {a:Act} {o:Oper} {rest:List Oper} {v:Value} (hw:Region.wanted o (yielded ops a.tmps)=true) (h:∀ w,(execOp a.eval o).run P w=.ok (.value v) w)
 (hk:∀ K:Act->Prop,(∀ a,wpPure P ops Qp rest a->K a)->K (a.put o.dst v)):wpPure P ops Qp (o::rest) a:=
 ⟨v, .inl ⟨hw,h⟩,hk _ fun _ h=>h⟩
theorem p_nil {Qp:Act->Prop} {a:Act} (h:Qp a):wpPure P ops Qp [] a:=h
structure FloatInv (md:Region.Mode) (ops:Array Oper) (lo n:Nat) (listed:Array Bool):Prop where
 head:HeadInv md ops n listed
 low:∀ i,i < lo->listed.getD i true=true
theorem FloatInv.set {lo n i:Nat} {listed:Array Bool} (inv:FloatInv md ops lo n listed) (hi:i∈Region.ready md ops listed) (hin:i < n):FloatInv md ops lo n (listed.setIfInBounds i true):=by
 refine ⟨inv.head.set hi hin,fun j hj=>?_⟩;by_cases e:i=j
 ·subst e;have:=inv.low i hj;have h2:=(mem_ready.1 hi).1;rw [this] at h2;cases h2
 ·rw [getD_set_ne true e];exact inv.low j hj
def floatSink (md:Region.Mode) (ops:Array Oper) (lo n:Nat):Bool:=
 (List.range n).all fun i=>decide (i < lo) || (List.range (n+1)).any fun j=>decide (i < j) && Region.waitsFor md ops j i
theorem float_waits {lo n:Nat} {listed:Array Bool} (hs:floatSink md ops lo n=true) (hc:behindB md ops n=true) (hn:n < ops.size) (inv:FloatInv md ops lo n listed) :
 ∀ (d i:Nat),n - i=d->i < n->listed.getD i true=false->∀ t,n<=t->t ∉ Region.ready md ops listed:=by
 intro d;induction d using Nat.strongRecOn with
 | _ d ih=>
   intro i hd hi hun t ht hr;obtain ⟨_,ot,hot,hall⟩:=mem_ready.1 hr;have htlt:t < ops.size:=(Array.getElem?_eq_some_iff.1 hot).1;by_cases htn:t=n
   ·subst htn;have h1:=List.all_eq_true.1 hs i (List.mem_range.2 hi);simp only [Bool.or_eq_true,decide_eq_true_eq] at h1;rcases h1 with h1 | h1
    ·rw [inv.low i h1] at hun;cases hun
    obtain ⟨j,hj,hj2⟩:=List.any_eq_true.1 h1;simp only [Bool.and_eq_true,decide_eq_true_eq] at hj2;obtain ⟨oj,hoj,e,he,hb,hon⟩:=Region.waitsFor_spec hj2.2;have hjle:j<=t:=by have:=List.mem_range.1 hj;omega
    by_cases hjt:j=t
    ·subst hjt;have:oj=ot:=Option.some.inj (hoj.symm.trans hot);subst this;have h2:=hall e he hb;rw [hon,getD_both hun] at h2;cases h2
    ·cases hl:listed.getD j false with
     | true=>
       have h2:=inv.head.closed j oj hoj hl e he hb;rw [hon,getD_both hun] at h2;cases h2
     | false=>
       have hjs:j < listed.size:=by rw [inv.head.size];omega
       exact ih (t - j) (by omega) j rfl (by omega) (getD_in hjs hl) t (Nat.le_refl _) hr
   ·have h1:=List.all_eq_true.1 hc t (List.mem_range.2 htlt);simp only [Bool.or_eq_true,decide_eq_true_eq] at h1;rcases h1 with h1 | h1
    ·omega
    ·obtain ⟨s,hsr,hs2⟩:=List.any_eq_true.1 h1;simp only [Bool.and_eq_true,decide_eq_true_eq] at hs2;have hst:=List.mem_range.1 hsr;obtain ⟨o',ho',e,he,hb,hon⟩:=Region.waitsFor_spec hs2.2;have:o'=ot:=Option.some.inj (ho'.symm.trans hot);subst this;have h2:=hall e he hb;rw [hon,getD_both (inv.head.tail s hs2.1 (by omega))] at h2;cases h2
theorem floatAny_first {lo n i:Nat} {oi:Oper} {v:Value} {L:Array Bool->Act->Prop} (hi:ops[i]? = some oi) (hsel:∀ (j:Nat) (o:Oper) cs b,ops[j]? = some o->o.op≠.select cs b)
 (hs:floatSink md ops lo n=true) (hc:behindB md ops n=true) (hn:n < ops.size) (hin:i < n)
 (hdone:∀ listed a,L listed a->∀ j∈Region.ready md ops listed,n<=j) (f:Nat) :
 ∀ (listed:Array Bool) (a:Act),FloatInv md ops lo n listed ->
  (∀ j oj,ops[j]? = some oj->j≠i->listed.getD j true=false->(∀ e∈oj.after,Region.binds md e=true->e.on≠i)->oi.apart ops oj=true) ->
  i∈Region.ready md ops listed->YieldsIn P ops C oi v a ->
  headAny P md ops C n L f (listed.setIfInBounds i true) (a.put oi.dst v)->headAny P md ops C n L (f+1) listed a:=by
 induction f with
 | zero=>
   intro listed a inv _ hr hy H;have hun:=(mem_ready.1 hr).1;refine ⟨fun h=>(by rw [h] at hr;cases hr),fun j hj=>?_⟩;have hjn:j < n:=by
    rcases Nat.lt_or_ge j n with h | h
    ·exact h
    ·exact absurd hj (float_waits hs hc hn inv _ i rfl hin hun j h)
   refine ⟨hjn,?_⟩;by_cases hji:j=i
   ·subst hji;exact hy.qOp hi H
   ·have:=hdone _ _ H j (ready_mono hj hji);omega
 | succ f ih=>
   intro listed a inv hfree hr hy H;have hun:=(mem_ready.1 hr).1;refine ⟨fun h=>(by rw [h] at hr;cases hr),fun j hj=>?_⟩;have hjn:j < n:=by
    rcases Nat.lt_or_ge j n with h | h
    ·exact h
    ·exact absurd hj (float_waits hs hc hn inv _ i rfl hin hun j h)
   refine ⟨hjn,?_⟩;by_cases hji:j=i
   ·subst hji;exact hy.qOp hi H
   ·have h1:=(H.2 j (ready_mono hj hji)).2;obtain ⟨hjun,oj,hoj,hall⟩:=mem_ready.1 hj;have hnot:∀ e∈oj.after,Region.binds md e=true->e.on≠i:=fun e he hb heq=>by
     have h1:=hall e he hb;rw [heq,getD_both hun] at h1;cases h1
    have h2:=qOp_put hoj (hfree j oj hoj hji hjun hnot) (fun cs b=>hsel i oi cs b hi) (fun cs b=>hsel j oj cs b hoj) hy h1;have hfree':∀ k ok,ops[k]? = some ok->k≠i->(listed.setIfInBounds j true).getD k true=false ->
     (∀ e∈ok.after,Region.binds md e=true->e.on≠i)->oi.apart ops ok=true:=fun k ok hk hki hun hno=>by
     refine hfree k ok hk hki ?_ hno;by_cases hjk:j=k
     ·subst hjk;exact hjun
     ·rw [getD_set_ne true hjk] at hun;exact hun
    refine qOp_mono (fun a' h3=>ih (listed.setIfInBounds j true) a' (inv.set hj hjn) hfree' (ready_mono hr (Ne.symm hji)) h3.1 ?_) h2;rw [Array.setIfInBounds_comm _ _ hji];exact h3.2
theorem floatAny_lex {lo n g:Nat} {Lq:Act->Prop} (hsel:Region.noSelect ops=true) (hs:floatSink md ops lo n=true) (hc:behindB md ops n=true) (hn:n < ops.size) (l:List Oper) :
 ∀ (k:Nat) (listed:Array Bool) (a:Act),(∀ j,j < l.length->l[j]? = ops[k+j]?)->k+l.length=n->FloatInv md ops lo n listed ->
 Region.lexHead md ops g l.length k listed=true->wpQuiet P ops C Lq l a ->
 headAny P md ops C n (fun listed' a'=>Region.seqB md ops g n listed'=true/\Lq a') l.length listed a:=by
 induction l with
 | nil=>
   intro k listed a _ hk _ hB h;have:k=n:=by simpa using hk
   subst this;exact ⟨by simpa [Region.lexHead] using hB,h⟩
 | cons o l ih=>
   intro k listed a hl hk inv hB h;have h0:ops[k]? = some o:=by simpa using (hl 0 (by simp)).symm
   simp only [List.length_cons,Region.lexHead,Bool.and_eq_true] at hB;obtain ⟨⟨hr,hf⟩,hB'⟩:=hB;have hkn:k < n:=by simp only [List.length_cons] at hk;omega
   have hr':k∈Region.ready md ops listed:=by simpa using hr
   have hst:qOp P ops C k (wpQuiet P ops C Lq l) a:=by unfold qOp;simp only [h0];exact h
   obtain ⟨v,hy,hK⟩:=yieldsIn_of_qOp h0 hst;exact floatAny_first h0 (Region.noSelect_spec hsel) hs hc hn hkn (fun listed' a' hL=>seqB_ready hL.1) l.length listed a inv (Region.free_spec h0 hf) hr' hy
    (ih (k+1) _ _ (fun j hj=>by have:=hl (j+1) (by simp;omega);simpa [Nat.add_assoc,Nat.add_comm 1 j] using this) (by simp only [List.length_cons] at hk;omega) (inv.set hr' hkn) hB' hK)
def lexPure (md:Region.Mode) (ops:Array Oper) (g h:Nat):Nat->Nat->Array Bool->Bool
 | 0,k,listed=>Region.lexHead md ops g h k listed
 | f+1,k,listed=>(Region.ready md ops listed).contains k && Region.free md ops listed k && lexPure md ops g h f (k+1) (listed.setIfInBounds k true)
def floatB (md:Region.Mode) (ops:Array Oper) (lo n:Nat):Bool:=
 Region.noSelect ops && decide (lo<=n) && decide (n < ops.size) && floatSink md ops lo n && behindB md ops n && lexPure md ops (ops.size - n) (n - lo) lo 0 (Array.replicate ops.size false)
theorem floatStart {lo n g h gf:Nat} {Q:Exit->Act->World->Prop} {Lp:Act->Prop} (hsel:Region.noSelect ops=true) (hQ:∀ c a w,¬ Q (.panic c) a w) (hlon:lo<=n) (hn:n < ops.size) (l:List Oper) :
 ∀ (k:Nat) (listed:Array Bool) (a:Act) (w:World),(∀ j,j < l.length->l[j]? = ops[k+j]?)->k+l.length=lo->FloatInv md ops k n listed ->
 lexPure md ops g h l.length k listed=true->wpPure P ops Lp l a ->
 (∀ listed' a',FloatInv md ops lo n listed'->Region.lexHead md ops g h lo listed'=true->Lp a'->wpAny P md ops Q gf listed' a' w) ->
 wpAny P md ops Q (l.length+gf) listed a w:=by
 induction l with
 | nil=>
   intro k listed a w _ hk inv hB h hg;have:k=lo:=by simpa using hk
   subst this;rw [List.length_nil,Nat.zero_add];exact hg listed a inv (by simpa [lexPure] using hB) h
 | cons o l ih=>
   intro k listed a w hl hk inv hB h hg;have h0:ops[k]? = some o:=by simpa using (hl 0 (by simp)).symm
   simp only [List.length_cons,lexPure,Bool.and_eq_true] at hB;obtain ⟨⟨hr,hf⟩,hB'⟩:=hB;obtain ⟨v,hy,hK⟩:=h;have hkl:k < lo:=by simp only [List.length_cons] at hk;omega
   have hr':k∈Region.ready md ops listed:=by simpa using hr
   rw [List.length_cons,show l.length+1+gf=(l.length+gf)+1 by omega];refine wpAny_take h0 hsel hf hr (fun c a w hq=>absurd hq (hQ _ _ _)) hy ?_;refine ih (k+1) _ _ w (fun j hj=>by have:=hl (j+1) (by simp;omega);simpa [Nat.add_assoc,Nat.add_comm 1 j] using this) (by simp only [List.length_cons] at hk;omega) ?_ hB' hK hg;refine ⟨inv.head.set hr' (by omega),fun i hi=>?_⟩;by_cases e:k=i
   ·subst e;exact getD_set_true' (by have:=inv.head.size;omega)
   ·rw [getD_set_ne true e];exact inv.low i (by omega)
where
 getD_set_true' {listed:Array Bool} {i:Nat} (h:i < listed.size):(listed.setIfInBounds i true).getD i true=true:=by
  rw [Array.getD_eq_getD_getElem?,Array.getElem?_setIfInBounds_self_of_lt h];rfl
theorem wp_region_float (C:World->Prop) {id:Nat} {Q:Exit->Act->World->Prop} {a:Act} {w:World} {l:List Oper} (lo n:Nat) (hm:P.follows .mixedOrders=true) (hB:floatB .any l.toArray lo n=true) (hC:C w.drew)
 (h:wpPure P l.toArray (wpQuiet P l.toArray C (fun a'=>∀ w',C w'->wpList P l.toArray (NoP Q) (l.drop n) a' w') ((l.drop lo).take (n - lo))) (l.take lo) a):(Code.region id l.toArray true).wp P Q a w:=by
 refine Code.wp_mono NoP.weaken ?_;simp only [floatB,Bool.and_eq_true,decide_eq_true_eq] at hB;obtain ⟨⟨⟨⟨⟨hsel,hlon⟩,hn⟩,hs⟩,hc⟩,hlex⟩:=hB;have hn':n < l.length:=by simpa using hn
 have htl:(l.take lo).length=lo:=by simp;omega
 have hml:((l.drop lo).take (n - lo)).length=n - lo:=by simp;omega
 have hdl:(l.drop n).length=l.toArray.size - n:=by simp
 have inv0:FloatInv .any l.toArray 0 n (Array.replicate l.toArray.size false):=
  ⟨⟨by simp,fun j oj _ hl=>(by rw [getD_replicate_false] at hl;cases hl),fun t _ ht=>getD_in (by simpa using ht) (getD_replicate_false _ _)⟩,fun i hi=>absurd hi (Nat.not_lt_zero i)⟩
 refine wp_region_any hm ?_;have:=floatStart (P:=P) (md:=.any) (ops:=l.toArray) (lo:=lo) (n:=n) (g:=l.toArray.size - n) (h:=n - lo) (gf:=l.toArray.size - lo) (Q:=NoP Q) hsel (fun c a w h=>h) hlon hn (l.take lo) 0 _ a w.drew (fun j hj=>by
  have hj':j < lo:=by rw [htl] at hj;exact hj
  simp [hj']) (by simpa using htl) inv0 (by rw [htl];exact hlex) h (fun listed' a' inv' hx hq=>by
   have H:=floatAny_lex (md:=.any) (C:=C) (g:=l.toArray.size - n) hsel hs hc hn ((l.drop lo).take (n - lo)) lo listed' a' (fun j hj=>by
    have hj':j < n - lo:=by rw [hml] at hj;exact hj
    simp [hj',List.getElem?_drop]) (by rw [hml];omega) inv' (by rw [hml];exact hx) hq
   have:=headAny_any (Q':=NoP Q) (g:=l.toArray.size - n) (fun listed a' w' hw' hL=>by
    have:=wpAny_of_seq (md:=.any) (Q':=NoP Q) (l.drop n) n listed a' w' (fun j=>by simp [List.getElem?_drop]) (by rw [hdl];exact hL.1) (hL.2 w' hw');rwa [hdl] at this) _ _ _ _ hC H
   rw [hml,show n - lo+(l.toArray.size - n)=l.toArray.size - lo by omega] at this;exact this)
 rw [htl,show lo+(l.toArray.size - lo)=l.toArray.size by omega] at this;exact this
end
end
section
open Go.RowKit Go.Maps Go.MapKept
open Go.ChangeMaps (setBlock heap_setBlock_same heap_setBlock_other)
theorem FileAt.extend {w w4:World} {o:Owner} {pf:Nat} {f:DFile} (h:FileAt w o pf f) {v v':Value} (hc:w.cell? ⟨pf,0,none⟩=some v) (hown:∀ b,v.ownBlock=some b->o b=some (4,pf)) {bs:List UInt8} (hv:w4.ownsRow 0 5 1 v' bs.length (bs.map bv))
 (hg:w.grownBy w4 v.ownBlock) (hal:v'.ownBlock=v.ownBlock\/v'.ownBlock=some w.heap.size) (ho:∀ x t,o x=some t->x < w.heap.size) (hl:bs.length<=16777216) :
 FileAt (w4.setCell ⟨pf,0,none⟩ v') (o.put v' (4,pf)) pf { f with now:=bs }/\(∀ x r,o x=some r->(o.put v' (4,pf)) x=some r)/\Turn (OfFile o pf) w (w4.setCell ⟨pf,0,none⟩ v')/\OGrow w.heap.size o (o.put v' (4,pf)) /\
  (∀ x t,(o.put v' (4,pf)) x=some t->x < (w4.setCell ⟨pf,0,none⟩ v').heap.size)/\(w4.setCell ⟨pf,0,none⟩ v').cell? ⟨pf,0,none⟩=some v':=by
 have hput:∀ b,v'.ownBlock=some b->o b=some (4,pf)\/b=w.heap.size:=fun b hb=>by
  rcases hal with e | e
  ·exact .inl (hown b (by rw [<- e];exact hb))
  ·rw [e] at hb;exact .inr (Option.some.inj hb).symm
 have hkeep:∀ x r,o x=some r->(o.put v' (4,pf)) x=some r:=fun x r hx=>by
  unfold Owner.put;cases e:v'.ownBlock with
  | none=>exact hx
  | some b=>
    dsimp only;by_cases ex:x=b
    ·subst ex;rcases hput x e with h1 | h1
     ·rw [h1] at hx;cases hx;simp
     ·have:=ho x r hx;omega
    ·rw [Owner.set_other _ _ ex];exact hx
 have hgrow:OGrow w.heap.size o (o.put v' (4,pf)):=fun x hx=>by
  cases e:o x with
  | some r=>exact hkeep x r e
  | none=>
    unfold Owner.put;cases e2:v'.ownBlock with
    | none=>exact e
    | some b=>
      dsimp only;have hne:x≠b:=by
       rintro rfl;rcases hput x e2 with h1 | h1
       ·rw [e] at h1;cases h1
       ·omega
      rw [Owner.set_other _ _ hne];exact e
 have hT4:Turn (OfFile o pf) w w4:=(Turn.refl (OfFile o pf) w).grown hg (fun k hk=>.inl (.inr (.inl (hown k hk))));have hT5:=hT4.setCell ⟨pf,0,none⟩ v' (.inl (.inl rfl));have hsz:(w4.setCell ⟨pf,0,none⟩ v').heap.size=w4.heap.size:=by simp
 have hvlt:∀ b,v'.ownBlock=some b->b < w4.heap.size:=fun b hb=>(ownBlock_old hv b hb).1;obtain ⟨h1,⟨t,a,c,h2,h3,h4,h5,h6⟩,h7⟩:=h;have hva:a=v:=by
  rw [cells_cell h2] at hc;simpa using hc
 subst hva;have hpne:∀ b,v'.ownBlock=some b->b≠pf:=fun b hb e=>by
  rcases hput b hb with h | h
  ·rw [e,h1] at h;cases h
  ·have:=ho pf _ h1;omega
 have hpb:w4.heap[pf]? = w.heap[pf]? := hg.block pf (ho _ _ h1) (fun e=>by have:=hown pf e.symm;rw [h1] at this;cases this);refine ⟨⟨hkeep _ _ h1,⟨t,v',c,?_,?_,fun b hb=>Owner.put_at hb,?_,fun b hb=>hkeep _ _ (h6 b hb)⟩,hl,h7.2⟩,hkeep,hT5,hgrow,?_,by rw [cells_cell (cells_set (hpb.trans h2) 0 v')];rfl⟩
 ·rw [cells_set (hpb.trans h2)];rfl
 ·exact ((Turn.refl (·=pf) w4).setCell ⟨pf,0,none⟩ v' (.inl rfl)).ownsRow hv (fun b hb e=>hpne b hb e)
 ·refine ((Turn.refl (fun x=>x=pf\/a.ownBlock=some x) w).grown hg (fun k hk=>.inl (.inr hk))).setCell ⟨pf,0,none⟩ v' (.inl (.inl rfl)) |>.ownsRow h5 (fun b hb e=>?_);have hb5:=h6 b hb;rcases e with e | e
  ·rw [e,h1] at hb5;cases hb5
  ·have:=hown b e;rw [hb5] at this;cases this
 ·intro x r hx;rw [hsz];unfold Owner.put at hx;cases e:v'.ownBlock with
  | none=>
    rw [e] at hx;exact Nat.lt_of_lt_of_le (ho x r hx) hg.size
  | some b=>
    rw [e] at hx;dsimp only at hx;by_cases ex:x=b
    ·rw [ex];exact hvlt b e
    ·rw [Owner.set_other _ _ ex] at hx;exact Nat.lt_of_lt_of_le (ho x r hx) hg.size
theorem FileAt.recopy {w w':World} {o:Owner} {pf:Nat} {f:DFile} (h:FileAt w o pf f) {v:Value} (hc:w.cell? ⟨pf,0,none⟩=some v) (hown:∀ b,v.ownBlock=some b->o b=some (4,pf)) {bs:List UInt8} (hv:w'.ownsRow 0 5 1 v bs.length (bs.map bv))
 (ht:Turn (fun x=>v.ownBlock=some x) w w') (hl:bs.length<=16777216):FileAt w' o pf { f with now:=bs }:=by
 obtain ⟨h1,⟨t,a,c,h2,h3,h4,h5,h6⟩,h7⟩:=h;have hva:a=v:=by
  rw [cells_cell h2] at hc;simpa using hc
 subst hva;refine ⟨h1,⟨t,a,c,?_,hv,hown,?_,h6⟩,hl,h7.2⟩
 ·exact ht.heap h2 (fun e=>by have:=hown pf e;rw [h1] at this;cases this)
 ·exact ht.ownsRow h5 (fun b hb e=>by have:=hown b e;rw [h6 b hb] at this;cases this)
theorem wrapIn {n:Int} (h1:-9223372036854775808<=n) (h2:n<=9223372036854775807):IntKind.i64.wrap n=n:=by
 simp [IntKind.wrap,IntKind.bits,IntKind.signed];omega
theorem grow_sum {n E:Nat} (h:n<=E):n+(E - n)=E:=by omega
theorem grow_len {xs:List UInt8} {E:Nat} (h:xs.length<=E):(xs++List.replicate (E - xs.length) (0:UInt8)).length=E:=by simp;omega
theorem grow_row {w:World} {v:Value} {xs:List UInt8} {E:Nat} (h:w.ownsRow 0 5 1 v (xs.length+(E - xs.length)) (xs.map bv++(List.replicate (E - xs.length) (0:UInt8)).map bv)) (hE:xs.length<=E) :
 w.ownsRow 0 5 1 v (xs++List.replicate (E - xs.length) (0:UInt8)).length ((xs++List.replicate (E - xs.length) (0:UInt8)).map bv):=by
 rw [grow_len hE,List.map_append];rw [grow_sum hE] at h;exact h
theorem grown_cell {w w':World} {row:Option Nat} (h:w.grownBy w' row) {b i:Nat} (hb:some b≠row) (hl:b < w.heap.size):w'.cell? ⟨b,i,none⟩=w.cell? ⟨b,i,none⟩:=World.cell?_of_block (h.block b hl hb)
theorem grown_frozen {w w':World} {row:Option Nat} (h:w.grownBy w' row) {b i:Nat} (hb:some b≠row) (hl:b < w.heap.size):w'.frozen? ⟨b,i,none⟩=w.frozen? ⟨b,i,none⟩:=World.frozen?_of_block (h.block b hl hb)
theorem FileAt.apart {w:World} {o:Owner} {pf:Nat} {f:DFile} (h:FileAt w o pf f) {v:Value} (hown:∀ b,v.ownBlock=some b->o b=some (4,pf)):some pf≠v.ownBlock:=fun e=>by
 have:=hown pf e.symm;rw [h.own] at this;cases this
theorem slice_cap {w:World} {base:Nat} {e:TypeId} {a:Option Addr} {n c:Nat} {xs:List Value} {m:Nat} (h:w.ownsRow base e 1 (.slice a m c) n xs):n<=c:=by
 obtain ⟨_,h⟩:=h;rcases h with ⟨h1,h2⟩ | ⟨g,cap,cur,h1,_,_,h2,_⟩
 ·omega
 ·cases h1;exact h2
theorem slice_at {w:World} {base:Nat} {e:TypeId} {a:Option Addr} {n c:Nat} {xs:List Value} {m g:Nat} (h:w.ownsRow base e 1 (.slice a m c) n xs) (hg:(Value.slice a m c).ownBlock=some g) (off:Nat):a.map (fun x=>x.add off)=some ⟨g,off,none⟩:=by
 obtain ⟨_,h⟩:=h;rcases h with ⟨h1,h2⟩ | ⟨g',cap,cur,h1,_⟩
 ·cases h1;cases hg
 ·cases h1;cases hg;rw [Option.map_some,Addr_add,Nat.zero_add]
theorem mput_mput {κ υ:Type} [DecidableEq κ] (m:List (κ × υ)) (k:κ) (a b:υ):mput (mput m k a) k b=mput m k b:=by
 unfold mput mdel;rw [List.filter_cons_of_neg (by simp),List.filter_filter];simp
theorem run_copy_over {P:Program} {w:World} (dT sT ty elem:TypeId) (hu:P.underlying dT=some (.slice elem)) (hsz:(P.info? elem).map (·.size)=some 1)
 (base:Nat) (v:Value) (xs bs:List UInt8) (hown:w.ownsRow base elem 1 v xs.length (xs.map bv)) (off:Nat) (hfit:off+bs.length<=xs.length)
 (dLen:Nat) (hdl:dLen=xs.length - off) (sv:Value) (hsv:Rd w sv bs) :
 ∃ w',(∀ (dp:Option Addr) (dCap:Nat),(0 < bs.length->∀ g,v.ownBlock=some g->dp=some ⟨g,off,none⟩)->(Builtin.copy_ #[dT,sT] ty #[.slice dp dLen dCap,sv]).run P w=.ok (goInt bs.length) w')/\w'.ownsRow base elem 1 v xs.length ((over xs off bs).map bv)/\Turn (fun x=>v.ownBlock=some x) w w':=by
 obtain ⟨sp,sCap,rfl,hsl,hsc,hcells⟩:=hsv;by_cases h0:bs.length=0
 ·obtain rfl:bs=[]:=List.eq_nil_of_length_eq_zero h0;refine ⟨w,fun dp dCap _=>run_copy_none (P:=P) w dT sT ty elem dp sp dLen dCap 0 sCap hu hsz (by simp),?_,Turn.refl _ _⟩;rw [over_nil];exact hown
 ·rcases hcells with hc | ⟨b,so,rfl,hc⟩
  ·exact absurd hc h0
  obtain ⟨hl,⟨rfl,hz⟩ | ⟨g,cap,cur,rfl,hg,hh,hn,hm,hcs,hx⟩⟩:=hown
  ·omega
  have hcl:cur.toList.length=cap*1:=by rw [Array.length_toList,hcs]
  have hx1:cur.toList.take xs.length=xs.map bv:=by rw [Nat.mul_one] at hx;exact hx
  have hrun:=fun dCap=>run_copy_row (P:=P) w dT sT ty elem g off dLen dCap ⟨b,so,none⟩ bs.length sCap cur elem (bs.map bv) hu hsz hh (by
   rw [List.length_map,hdl];exact (Nat.min_eq_left (by omega)).symm) (by
   intro j x hj;rw [List.getElem?_map] at hj;by_cases hjl:j < bs.length
   ·rw [List.getElem?_eq_getElem hjl] at hj;simp only [Option.map_some,Option.some.injEq] at hj;subst hj;rw [Addr_add];exact hc j hjl
   ·rw [List.getElem?_eq_none (by omega)] at hj;simp at hj) (by
   rw [List.length_map,hcs];omega) (by simp [bv_oneCell])
  simp only [List.length_map] at hrun;refine ⟨_,fun dp dCap hdp=>(by rw [hdp (by omega) g rfl];exact hrun dCap),⟨?_, .inr ⟨g,cap,_,rfl,hg,setRow_heap w g _ _ elem _ hh,hn,hm,?_,?_⟩⟩,?_⟩
  ·rw [List.length_map,over_length hfit,Nat.mul_one]
  ·simp only [List.size_toArray,List.length_append,List.length_take,List.length_drop,List.length_map];omega
  ·rw [Nat.mul_one];unfold over;have h1:=take_over cur.toList (bs.map bv) xs.length off (by rw [List.length_map];exact hfit) (by omega);rw [List.length_map] at h1;rw [List.append_assoc,h1,hx1,List.map_append,List.map_append,List.map_take,List.map_drop]
  ·exact ⟨rfl,rfl,rfl,by simp [World.setRow],fun k _ hk=>setRow_other w g k _ (fun e=>hk (by rw [e];rfl))⟩
theorem FileAt.lt {w:World} {o:Owner} {pf:Nat} {f:DFile} (h:FileAt w o pf f):pf < w.heap.size:=by
 obtain ⟨_,⟨t,v,u,h2,_⟩,_⟩:=h;exact (Array.getElem?_eq_some_iff.1 h2).1
set_option maxRecDepth 100000 in
set_option maxHeartbeats 8000000 in
theorem write_any {w:World} {db:Nat} {o:Owner} {d:Dsk} (h:DiskAt w db o d) (name:Name) (hs:name.size<=1000) (off:Nat) (hoff:off<=1099511627776) (sv:Value) (bs:List UInt8) (hsv:Rd w sv bs) (hbl:bs.length<=1099511627776) (hso:∀ b,sv.ownBlock=some b->o b=none) :
 Calls Tryz.prog 230 #[ptrTo db, .string name, .int .i64 (off:Int),sv] w fun e w'=>e=.returned (.int .i64 ((d.write name off bs).2:Int))/\DiskPost w db o (d.write name off bs).1 w':=by
 have H:=Lib.hid h;have HSV:=Lib.hid hsv;have HSO:=Lib.hid hso;obtain ⟨sa,scap,rfl,-⟩:=hsv;clear h hso;unfold ptrTo;cases hd:d.tick.dead with
 | true=>
   have e1:d.write name off bs=(d.tick,6):=by unfold Dsk.write;rw [hd];rfl
   have e2:d.tick.err=6:=by unfold Dsk.err;rw [hd];rfl
   have E2:=Lib.hid e2;rw [e1];clear hd e1 e2;go_enter Tryz.func230,Tryz.ntmps230
   go_wp2_with fail
   refine (begin_any H.out).mono ?_;rintro e w1 ⟨rfl,hd1,ht1⟩;rw [E2.out];go_wp2;go_ret;exact ⟨rfl, .of hd1 ht1⟩
 | false=>
   have e2:d.tick.err=0:=by unfold Dsk.err;rw [hd];rfl
   have E2:=Lib.hid e2;have HDD:=Lib.hid hd;clear hd e2;go_enter Tryz.func230,Tryz.ntmps230
   go_wp2_with fail
   refine (begin_any H.out).mono ?_;rintro e w1 ⟨rfl,⟨mf,ml,l,hd1⟩,ht1⟩;rw [E2.out];have HD1:=Lib.hid hd1;have HT1:=Lib.hid ht1;have hfc:=find_cases hd1 name true;rw [Dsk.tick_files] at hfc;clear hd1 ht1;go_wp2_with fail
   refine (find_any HD1.out name true hs).mono ?_;rintro e w2 ⟨rfl,hb2⟩;have HD2:=Lib.hid (HD1.out.below hb2);have HT2:=Lib.hid (HT1.out.thenBelow hb2);clear hb2;rcases hfc with ⟨q1,q2⟩ | ⟨q1,q2,q3,q4⟩ | ⟨pf,f,q1,q2,q3,q4⟩
   ·have e1:d.write name off bs=(d.tick,1):=by
     unfold Dsk.write;rw [HDD.out];rw [Bool.and_true] at q1;rw [q1];rfl
    rw [q2];have E1:=Lib.hid e1;clear e1 q2 q1;go_wp2;go_ret;rw [E1.out];exact ⟨rfl, .of ⟨_,_,_,HD2.out⟩ HT2.out⟩
   ·have e1:d.write name off bs=(d.tick,3):=by
     unfold Dsk.write;rw [HDD.out];rw [Bool.and_true] at q1;rw [q1,q2];rfl
    rw [q4];have E1:=Lib.hid e1;clear e1 q4 q3 q2 q1;go_wp2;go_ret;rw [E1.out];exact ⟨rfl, .of ⟨_,_,_,HD2.out⟩ HT2.out⟩
   ·have e1:d.write name off bs=if f.now.length < off then (d.tick,1)
     else if 16777216 < bs.length+off then (d.tick,9)
     else if sect f.now.length < sect (max f.now.length (off+bs.length))/\d.quota < usedOf d.files+(sect (max f.now.length (off+bs.length)) - sect f.now.length) then (d.tick,5)
     else ({ d.tick with files:=mput d.files name (f.laid off bs),loose:=loosen d.loose name off bs.length },0):=by
     unfold Dsk.write;rw [HDD.out];rw [Bool.and_true] at q1;rw [q1,q2];rfl
    rw [q4];have E1:=Lib.hid e1;have hfa:FileAt w2 o pf f:=HD2.out.each _ (mget_mem q3);have HFA:=Lib.hid hfa;have HQ:=Lib.hid q3;clear e1 q4 q3 q2 q1;obtain ⟨v,u,⟨hp0,-⟩,⟨hz0,-⟩,hrow,hown,-,-⟩:=hfa.cells;have hmost:=hfa.most.1;obtain ⟨va,vc,rfl⟩:=ownsRow_slice hrow;have HROW:=Lib.hid hrow;have HOWN:=Lib.hid hown;clear hrow hown hfa;by_cases hlo:f.now.length < off
    ·go_wp2;go_ret;rw [E1.out,if_pos hlo];exact ⟨rfl, .of ⟨_,_,_,HD2.out⟩ HT2.out⟩
    ·by_cases hmany:16777216 < bs.length+off
     ·go_wp2;go_ret;rw [E1.out,if_neg hlo,if_pos hmany];exact ⟨rfl, .of ⟨_,_,_,HD2.out⟩ HT2.out⟩
     ·go_wp2_with (refine wpList_maxNat rfl _ _ _ _ rfl f.now.length (off+bs.length) rfl rfl rfl (by omega) ?_;intro E hE;have HE:=Lib.hid hE;have hE1:f.now.length<=E:=(by omega);have hE2:off+bs.length<=E:=(by omega);have hE3:E<=16777216:=(by omega);clear hE)
      go_quiet ((go_at_call 266;exact Calls.quiet_of_same ((sectors_any _ _ (by omega)).mono (fun e w' h=>⟨h.1,h.2.symm⟩))))
      go_wp2_with fail
      obtain ⟨M,hM⟩:∃ M:Nat,M=sect E - sect f.now.length:=⟨_,rfl⟩;have hM':((E:Int)+63) / 64 - ((f.now.length:Int)+63) / 64=(M:Int):=by
       unfold sect at hM;omega
      rw [hM'];have hMb:M<=1048576:=by unfold sect at hM;omega
      have HM:=Lib.hid hM;clear hM hM';rcases Nat.lt_or_ge 0 M with hpos | hneg0;case' inl=>
       have hpos':(0:Int) < (M:Int):=by omega
       have hu:=HD2.out.ok.used;obtain ⟨U,hU⟩:∃ U:Nat,U=usedOf d.tick.files:=⟨_,rfl⟩;rw [<- hU] at hu;have HU:=Lib.hid hU;clear hU;obtain ⟨Q,hQ⟩:∃ Q:Nat,Q=d.tick.quota:=⟨_,rfl⟩;have hQb:=HD2.out.ok.quota;rw [<- hQ] at hQb;have HQQ:=Lib.hid hQ;clear hQ;have hwU:IntKind.i64.wrap ((U:Int)+(M:Int))=(U:Int)+(M:Int):=by
        simp [IntKind.wrap,IntKind.bits,IntKind.signed];omega
       refine wp_region_quiet_in (Below w2.heap.size w2) (by kernel_rfl) (by kernel_rfl) ((below_drewN (Below.refl _ _) _).drew) ?_;refine q_op rfl (fun w' hw'=>(by go_simp;rfl)) (fun K hK=>?_);go_simp;refine hK _ ?_;clear hK K;refine q_op rfl (fun w' hw'=>(by go_simp;rfl)) (fun K hK=>?_);go_simp;refine hK _ ?_;clear hK K;refine q_op rfl (fun w' hw'=>(by go_simp;rfl)) (fun K hK=>?_);go_simp;refine hK _ ?_;clear hK K;refine q_op rfl (fun w' hw'=>(by go_simp;rfl)) (fun K hK=>?_);go_simp;refine hK _ ?_;clear hK K;refine q_call rfl (fun w' hw'=>(by go_simp;rfl)) (fun w' hw'=>((used_any (db:=db) (o:=o) (d:=d.tick) ⟨mf,ml,l,HD2.out.below hw'⟩).mono (fun e w'' h=>⟨h.1,hw'.trans (h.2.mono hw'.size)⟩))) (fun K hK=>?_);go_simp;refine hK _ ?_;clear hK K;rw [<- HU.out];iterate 5 (refine q_op rfl (fun w' hw'=>(by go_simp;rfl)) (fun K hK=>?_);go_simp;refine hK _ ?_;clear hK K)
       refine q_op (v:=.int .i64 (Q:Int)) rfl (fun w' hw'=>(by have hcq:=(HD2.out.below hw').head.cells.1.2.2.1;rw [<- HQQ.out] at hcq;go_simp)) (fun K hK=>?_);go_simp;refine hK _ ?_;clear hK K;iterate 2 (refine q_op rfl (fun w' hw'=>(by go_simp;rfl)) (fun K hK=>?_);go_simp;refine hK _ ?_;clear hK K)
       refine wpQuiet_nil ?_;intro w3 hw3;have HD3:=Lib.hid (HD2.out.below hw3);have HT3:=Lib.hid (HT2.out.thenBelow hw3);have HB3:=Lib.hid hw3;clear hw3;by_cases hfull:Q < U+M
       ·go_wp2;go_ret;rw [E1.out,if_neg hlo,if_neg hmany,if_pos ⟨by have:=HM.out;rw [<- HE.out];omega,by
         have h1:=HM.out;have h2:=HE.out;have h3:=HU.out;have h4:=HQQ.out
         rw [Dsk.tick_files] at h3;rw [Dsk.tick_quota] at h4;rw [<- h2,<- h3,<- h4,<- h1];exact hfull⟩]
        exact ⟨rfl, .of ⟨_,_,_,HD3.out⟩ HT3.out⟩
       have hrefuse:Hid (¬ (sect f.now.length < sect (max f.now.length (off+bs.length))/\d.quota < usedOf d.files+(sect (max f.now.length (off+bs.length)) - sect f.now.length))):=Lib.hid (by
        have h1:=HM.out;have h2:=HE.out;have h3:=HU.out;have h4:=HQQ.out
        rw [Dsk.tick_files] at h3;rw [Dsk.tick_quota] at h4;rw [<- h2,<- h3,<- h4,<- h1];exact fun h=>hfull h.2)
       have hroom:Hid (usedOf d.files+M<=1048576):=Lib.hid (by
        have h3:=HU.out;rw [Dsk.tick_files] at h3;rw [<- h3];omega)
       go_wp2;refine wp_region_float (Below w2.heap.size w2) 1 12 (by kernel_rfl) (by kernel_rfl) ((HB3.out.drew)) ?_
      case' inr=>
       have hrefuse:Hid (¬ (sect f.now.length < sect (max f.now.length (off+bs.length))/\d.quota < usedOf d.files+(sect (max f.now.length (off+bs.length)) - sect f.now.length))):=Lib.hid (by
        have h1:=HM.out;have h2:=HE.out
        rw [<- h2];exact fun h=>by omega)
       have hroom:Hid (usedOf d.files+M<=1048576):=Lib.hid (by
        have h3:=HD2.out.ok.used;rw [Dsk.tick_files] at h3;omega)
       have hdec:decide ((0:Int) < (M:Int))=false:=by
        have:M=0:=by omega
        simp [this]
       have hdec2:decide (0 < M)=false:=by
        have:M=0:=by omega
        simp [this]
       have hdec3:¬ 0 < M:=by omega
       clear hneg0 hMb;go_quiet (fail)
       go_wp2;refine wp_region_float (Below w2.heap.size w2) 1 12 (by kernel_rfl) (by kernel_rfl) (((below_drewN (below_drewN (Below.refl _ _) _) _).drew)) ?_
      all_goals
       simp only [List.take_succ_cons,List.take_zero,List.drop_succ_cons,List.drop_zero];refine p_op rfl (fun w'=>(by go_simp<;>rfl)) (fun K hK=>?_);go_simp;refine hK _ ?_;clear hK K;refine p_nil ?_;iterate 3 (refine qo (fun K hK=>?_);go_simp;refine hK _ ?_;clear hK K)
       refine qo (fun K hK=>?_) (fun w' hw'=>by have hc:=hw'.cell (p:=⟨pf,0,none⟩) (HFA.out.lt);rw [hp0] at hc;go_simp<;>rfl);go_simp;refine hK _ ?_;clear hK K;iterate 4 (refine qo (fun K hK=>?_);go_simp;refine hK _ ?_;clear hK K)
       refine qo (fun K hK=>?_) (fun w' hw'=>by have hc:=hw'.cell (p:=⟨pf,0,none⟩) (HFA.out.lt);rw [hp0] at hc;go_simp<;>rfl);go_simp;refine hK _ ?_;clear hK K;have hwE:IntKind.i64.wrap ((E:Int) - (f.now.length:Int))=(E:Int) - (f.now.length:Int):=wrapIn (by omega) (by omega);iterate 2 (refine qo (fun K hK=>?_);go_simp;refine hK _ ?_;clear hK K)
       refine wpQuiet_nil ?_;intro w4 hw4;have HD4:=Lib.hid (HD2.out.below hw4);have HT4:=Lib.hid (HT2.out.thenBelow hw4);have HR4:=Lib.hid (ownsRow_below HROW.out hw4);have hp4:w4.cell? ⟨pf,0,none⟩=some (.slice va f.now.length vc):=by rw [hw4.cell (p:=⟨pf,0,none⟩) HFA.out.lt];exact hp0
       have HP4:=Lib.hid hp4;have hz4:w4.frozen? ⟨pf,0,none⟩=false:=by rw [hw4.frozen (p:=⟨pf,0,none⟩) HFA.out.lt];exact hz0
       have HFA4:Hid (FileAt w4 o pf f):=Lib.hid (HD4.out.each _ (mget_mem HQ.out));clear hw4 hp0 hz0 HFA;refine wpList_append_zeros rfl _ _ 39 3 .i64 rfl 0 5 Tryz.underlying39 Tryz.underlying3 info_u8 _ f.now.length _ rfl HR4.out (E - f.now.length) (by show Value.int .i64 _=Value.int .i64 _;congr 1;omega) (by omega) (Nat.zero_le _) ?_;intro v5 w5 ho5 hg5 hal5;rw [grow_sum hE1] at ho5;obtain ⟨a5,c5,rfl⟩:=ownsRow_slice ho5;have HX5:=Lib.hid (HFA4.out.extend HP4.out HOWN.out (grow_row (by rw [grow_sum hE1];exact ho5) hE1) hg5 hal5 HD4.out.owned (by rw [grow_len hE1];exact hE3));have hp5:w5.cell? ⟨pf,0,none⟩=some (.slice va f.now.length vc):=by rw [grown_cell hg5 (HFA4.out.apart HOWN.out) HFA4.out.lt];exact HP4.out
       have hz5:w5.frozen? ⟨pf,0,none⟩=false:=by rw [grown_frozen hg5 (HFA4.out.apart HOWN.out) HFA4.out.lt];exact hz4
       have HO5:=Lib.hid ho5;clear ho5 hg5 hal5 hz4 hp4;go_wp2;simp only [NoP];have hE5:E<=c5:=slice_cap HO5.out;have hf1:(f.now++List.replicate (E - f.now.length) (0:UInt8)).length=E:=grow_len hE1;have HD6:=Lib.hid (HD4.out.reFile HQ.out HX5.out.2.2.1 HX5.out.2.1 HX5.out.1 HX5.out.2.2.2.2.1 (by
        have h1:=usedOf_get HD4.out.fileKeys (HD4.out.get HQ.out);rw [usedOf_put];dsimp only at h1 ⊢;rw [hf1];have h2:=hroom.out;have h3:=HM.out;rw [Dsk.tick_files] at h1 ⊢;omega))
       have HT6:=Lib.hid (HT4.out.trans HX5.out.2.2.1 (fun x _ hx=>OfFile.in hx HFA4.out.own));have HFA6:=Lib.hid HX5.out.1;have HC6:=Lib.hid HX5.out.2.2.2.2.2;have HK6:=Lib.hid HX5.out.2.1;have HG6:=Lib.hid HX5.out.2.2.2.1;have HN1:=Lib.hid hf1;have hp6:=HC6.out;clear HX5 HO5 hp5 hz5 hf1 hwE;generalize w5.setCell ⟨pf,0,none⟩ (.slice a5 E c5)=w6 at *;generalize hxs:f.now++List.replicate (E - f.now.length) (0:UInt8)=xs at *;have HLAID:Hid (f.laid off bs=⟨over xs off bs,f.lasts⟩):=Lib.hid (by unfold DFile.laid;rw [<- HE.out,hxs]);clear hxs;have HS6:=Lib.hid (HT6.out.rd HSV.out (fun b hb=>Owner.not_in_none (HSO.out b hb)));have hrow6:w6.ownsRow 0 5 1 (.slice a5 E c5) xs.length (xs.map bv)/\∀ b,(Value.slice a5 E c5).ownBlock=some b->(o.put (.slice a5 E c5) (4,pf)) b=some (4,pf):=by
        obtain ⟨v,u,⟨h0,-⟩,-,h1,h2,-⟩:=HFA6.out.cells;obtain rfl:v=.slice a5 E c5:=Option.some.inj (h0.symm.trans HC6.out);exact ⟨h1,h2⟩
       have HR6:=Lib.hid hrow6;clear hrow6;obtain ⟨w7,hrun7,ho7,ht7⟩:=run_copy_over (P:=Tryz.prog) (w:=w6) 39 39 3 5 Tryz.underlying39 (by kernel_rfl) 0 (.slice a5 E c5) xs bs HR6.out.1 off (by rw [HN1.out];exact hE2) (E - off) (by rw [HN1.out]) (.slice sa bs.length scap) HS6.out;have hrunA:=hrun7 (a5.map (fun x=>x.add off)) (c5 - off) (fun _ g hg=>slice_at HR6.out.1 hg off);have hrunB:c5=off->_:=fun hc=>hrun7 a5 0 (fun h=>absurd h (by omega));clear hrun7;have HO7:=Lib.hid ho7;have HT7:=Lib.hid ht7;clear ho7 ht7;have hov:(over xs off bs).length=E:=by rw [over_length (by rw [HN1.out];exact hE2),HN1.out]
       have HD7:=Lib.hid (HD6.out.reFile (f:={ f with now:=xs }) (by rw [mget_mput,if_pos rfl]) (HT7.out.mono (S':=OfFile (o.put (.slice a5 E c5) (4,pf)) pf) (fun x _ hx=>.inr (.inl (HR6.out.2 x hx)))) (fun _ _ h=>h) (HFA6.out.recopy HC6.out HR6.out.2 (by rw [hov];have h:=HO7.out;rw [HN1.out] at h;exact h) HT7.out (by rw [hov];exact hE3)) (fun x t hx=>Nat.lt_of_lt_of_le (HD6.out.owned x t hx) HT7.out.size) (by
        have h1:=HD6.out.ok.used;rw [mput_mput];dsimp only at h1 ⊢;rw [usedOf_put] at h1 ⊢;dsimp only at h1 ⊢;rw [hov];rw [HN1.out] at h1;exact h1))
       have HT8:=Lib.hid (HT6.out.trans HT7.out (S':=fun x=>(Value.slice a5 E c5).ownBlock=some x) (fun x hx e=>by
        rcases Nat.lt_or_ge x w4.heap.size with h1 | h1
        ·have h2:=HG6.out x h1;have h3:=HR6.out.2 x e;rw [h2] at h3;exact ⟨_,h3,by show 4 < 6;decide⟩
        ·have:=HT4.out.size;omega))
       clear hov HFA6 HC6 HO7 HT7 HS6;obtain ⟨⟨-,hc7,-⟩,-⟩:=HD7.out.head.cells;have hb7:bs.length<=16777216:=by omega
       by_cases hcap:c5=off
       case' pos=>
        have hrunC:=hrunB hcap;clear hrunA
       clear hrunB;all_goals
        go_wp2;go_loopw [103] (fun i wr=>∃ k:Nat,k<=bs.length/\i=.int .i64 (k:Int)/\Turn (·=ml) w7 wr/\LooseMap wr ml (loosen d.loose name off k)) (fun i _=>bs.length - (intOf i).toNat)
        case atStart=>exact ⟨0,Nat.zero_le _,rfl,Turn.refl _ _,by have:=HD7.out.loose;dsimp only at this;rw [Dsk.tick_loose] at this;exact this⟩
        case round=>
         obtain ⟨k,hk,rfl,ht,hm⟩:=hrel;by_cases hlt0:k < bs.length/\c5≠off
         ·first
          | exact absurd hcap hlt0.2
          | (obtain ⟨hlt,-⟩:=hlt0
             have hc8:wr.cell? ⟨db,1,none⟩=some (.map (some ml)):=ht.cell hc7 (Owner.ne HD7.out.odb HD7.out.oml (by decide));have hgk:Hid (Good Tryz.prog 116 (nameNum (name,(off+k) / 64))):=Lib.hid (good_dkey (by unfold maxLen;omega) (by omega));have HM8:=Lib.hid hm;have HT9:=Lib.hid ht;clear hm ht;go_wp2_with (at_mapUpdate;refine wpList_put _ rfl _ _ _ _ rfl 4 keyed_dkey nameNum_inj Tryz.underlying111 ml (loosen d.loose name off k) rfl HM8.out (name,(off+k) / 64) () (by show Value.agg #[Value.string name,Value.int .i64 (((off:Int)+(k:Int)) / 64)]=nameNum (name,(off+k) / 64);unfold nameNum;rw [show (((off+k) / 64:Nat):Int)=((off:Int)+(k:Int)) / 64 by omega]) rfl hgk.out ?_;intro es clock hm9)
             go_roundw
             case rel=>exact ⟨k+1,by omega,by go_num,HT9.out.setBlock ml _ (.inl rfl),hm9⟩
             case measure=>simp [intOf];omega)
         ·obtain rfl:k=bs.length:=by omega
          have HDF:=Lib.hid (HD7.out.reLoose ht hm);have HTF:=Lib.hid (HT8.out.trans ht (S':=fun x=>x=ml) (fun x _ e=>⟨_,e ▸ HD2.out.oml,by show 2 < 6;decide⟩));clear hm ht;go_wp2;go_ret;rw [E1.out,if_neg hlo,if_neg hmany,if_neg hrefuse.out];have hN:=HDF.out;simp only [mput_mput,Dsk.tick_files] at hN;rw [HLAID.out];exact ⟨rfl,_,⟨_,_,_,hN⟩,HTF.out,fun x hx=>HG6.out x (Nat.lt_of_lt_of_le hx HT4.out.size)⟩
end
section
open Go.RowKit
abbrev Pg:=List UInt8
def tagOf (n:Name):Nat:=crcOf n.data.toList
theorem tagOf_lt (n:Name):tagOf n < 4294967296:=crcOf_lt _
def pagesFrom (tag:Nat):Nat->List Pg->List UInt8
 | _,[]=>[]
 | k,b::r=>mkPage tag k b++pagesFrom tag (k+1) r
def Short (ps:List Pg):Prop:=∀ b∈ps,b.length<=240
theorem Short.cons {b:Pg} {r:List Pg} (h:Short (b::r)):b.length<=240/\Short r:=⟨h b (by simp),fun x hx=>h x (by simp [hx])⟩
theorem pagesFrom_length {tag:Nat} (ps:List Pg) (h:Short ps):∀ k,(pagesFrom tag k ps).length=256*ps.length:=by
 induction ps with
 | nil=>intro k;rfl
 | cons b r ih=>
   intro k;rw [pagesFrom,List.length_append,mkPage_length _ _ _ h.cons.1,ih h.cons.2,List.length_cons];omega
theorem pagesFrom_append {tag:Nat} (a b:List Pg):∀ k,pagesFrom tag k (a++b)=pagesFrom tag k a++pagesFrom tag (k+a.length) b:=by
 induction a with
 | nil=>intro k;rfl
 | cons x a ih=>
   intro k;rw [List.cons_append,pagesFrom,pagesFrom,ih,List.append_assoc,List.length_cons,show k+1+a.length=k+(a.length+1) by omega]
theorem split_at {α:Type} {l:List α} {j:Nat} (h:j < l.length):l=l.take j++l[j]::l.drop (j+1):=by
 rw [List.getElem_cons_drop,List.take_append_drop]
theorem Short.take {ps:List Pg} (h:Short ps) (n:Nat):Short (ps.take n):=fun b hb=>h b (List.mem_of_mem_take hb)
theorem pagesFrom_get {tag k j:Nat} {ps:List Pg} (h:Short ps) (hj:j < ps.length):((pagesFrom tag k ps).drop (256*j)).take 256=mkPage tag (k+j) ps[j]:=by
 have e:pagesFrom tag k ps=pagesFrom tag k (ps.take j)++(mkPage tag (k+j) ps[j]++pagesFrom tag (k+j+1) (ps.drop (j+1))):=by
  conv=>lhs;rw [split_at hj,pagesFrom_append,List.length_take,Nat.min_eq_left (by omega)]
  rfl
 have hl:(pagesFrom tag k (ps.take j)).length=256*j:=by
  rw [pagesFrom_length _ (h.take j),List.length_take,Nat.min_eq_left (by omega)]
 rw [e,drop_app _ _ _ hl,take_app _ _ _ (mkPage_length _ _ _ (h _ (List.getElem_mem hj)))]
theorem pagesFrom_over {tag k j:Nat} {ps:List Pg} {b:Pg} (h:Short ps) (hb:b.length<=240) (hj:j < ps.length):over (pagesFrom tag k ps) (256*j) (mkPage tag (k+j) b)=pagesFrom tag k (ps.set j b):=by
 have e:∀ x:Pg,pagesFrom tag k (ps.take j++x::ps.drop (j+1))=pagesFrom tag k (ps.take j)++(mkPage tag (k+j) x++pagesFrom tag (k+j+1) (ps.drop (j+1))):=fun x=>by
  rw [pagesFrom_append,List.length_take,Nat.min_eq_left (by omega)];rfl
 have hl:(pagesFrom tag k (ps.take j)).length=256*j:=by
  rw [pagesFrom_length _ (h.take j),List.length_take,Nat.min_eq_left (by omega)]
 have hset:ps.set j b=ps.take j++b::ps.drop (j+1):=List.set_eq_take_append_cons_drop.trans (by rw [if_pos hj]);rw [hset,e b];unfold over;rw [mkPage_length _ _ _ hb];conv=>lhs;rw [split_at hj,e ps[j]]
 rw [take_app _ _ _ hl,show 256*j+256=256*j+256 from rfl,<- List.drop_drop,drop_app _ _ _ hl,drop_app _ _ _ (mkPage_length _ _ _ (h _ (List.getElem_mem hj)))]
def setPage (ps:List Pg) (j:Nat) (b:Pg):List Pg:=if j < ps.length then ps.set j b else ps++[b]
theorem setPage_length (ps:List Pg) (j:Nat) (b:Pg) (h:j<=ps.length):(setPage ps j b).length=max ps.length (j+1):=by
 unfold setPage;split
 ·rw [List.length_set];omega
 ·rw [List.length_append,List.length_singleton];omega
theorem setPage_short {ps:List Pg} {j:Nat} {b:Pg} (h:Short ps) (hb:b.length<=240):Short (setPage ps j b):=by
 unfold setPage;split
 ·intro x hx;rcases List.mem_or_eq_of_mem_set hx with hx | rfl
  ·exact h x hx
  ·exact hb
 ·intro x hx;rcases List.mem_append.1 hx with hx | hx
  ·exact h x hx
  ·rw [List.mem_singleton.1 hx];exact hb
theorem setPage_get (ps:List Pg) (j:Nat) (b:Pg) (h:j<=ps.length) (i:Nat):(setPage ps j b)[i]? = if i=j then some b else ps[i]? := by
 unfold setPage;split
 ·rename_i hj
  rw [List.getElem?_set];by_cases e:j=i
  ·subst e;simp [hj]
  ·rw [if_neg e,if_neg (fun e'=>e e'.symm)]
 ·have hj:j=ps.length:=by omega
  subst hj;by_cases e:i=ps.length
  ·subst e;simp
  ·rw [if_neg e];by_cases hl:i < ps.length
   ·rw [List.getElem?_append_left hl]
   ·rw [List.getElem?_eq_none (by simp;omega),List.getElem?_eq_none (by omega)]
theorem laid_page {tag j:Nat} {ps:List Pg} {b:Pg} (h:Short ps) (hb:b.length<=240) (hj:j<=ps.length) {f:DFile} (hf:f.now=pagesFrom tag 0 ps):f.laid (256*j) (mkPage tag j b)=⟨pagesFrom tag 0 (setPage ps j b),f.lasts⟩:=by
 have hl:f.now.length=256*ps.length:=by rw [hf,pagesFrom_length _ h]
 unfold DFile.laid;rw [mkPage_length _ _ _ hb];congr 1;by_cases hlt:j < ps.length
 ·have e:max f.now.length (256*j+256) - f.now.length=0:=by omega
  rw [e,List.replicate_zero,List.append_nil,hf];have:=pagesFrom_over (tag:=tag) (k:=0) h hb hlt;rw [Nat.zero_add] at this;rw [this];unfold setPage;rw [if_pos hlt]
 ·obtain rfl:j=ps.length:=by omega
  have e:max f.now.length (256*ps.length+256) - f.now.length=256:=by omega
  rw [e];unfold setPage over;rw [if_neg (by omega),pagesFrom_append,hf,mkPage_length _ _ _ hb];have hp:=pagesFrom_length (tag:=tag) ps h 0;rw [take_app _ _ _ hp,List.drop_eq_nil_of_le (by rw [List.length_append,List.length_replicate,hp];omega),List.append_nil,Nat.zero_add,pagesFrom,pagesFrom,List.append_nil]
abbrev LFile:=(List Pg × Bool) ⊕ (DFile × (Nat->Prop))
abbrev Logic:=List (Name × LFile)
structure Frm where
 full:Bool
 name:Name
 k:Nat
 bytes:Pg
 dirty:Bool
 used:Bool
def Frm.none:Frm:=⟨false,ByteArray.empty,0,[],false,false⟩
def LFile.need:LFile->Nat
 | .inl x=>4*x.1.length
 | .inr x=>sect x.1.now.length
def need (L:Logic):Nat:=(L.map (fun p=>p.2.need)).sum
def DirtyAt (fs:List Frm) (n:Name) (k:Nat):Prop:=∃ (j:Nat) (fr:Frm),fs[j]? = some fr/\fr.full=true/\fr.dirty=true/\fr.name=n/\fr.k=k
structure OnDisk (d:Dsk) (fs:List Frm) (n:Name) (ps:List Pg) (fl:Bool) (f:DFile) (dp:List Pg):Prop where
 get:mget d.files n=some f
 now:f.now=pagesFrom (tagOf n) 0 dp
 le:dp.length<=ps.length
 most:ps.length<=65536
 short:Short ps
 sdp:Short dp
 each:∀ k,k < ps.length->(k < dp.length/\dp[k]? = ps[k]?)\/DirtyAt fs n k
 lasts:fl=true->dp=ps/\f.lasts=f.now/\(∀ s,((n,s),()) ∉ d.loose)/\∀ k,¬ DirtyAt fs n k
 near:∀ s,((n,s),())∈d.loose->s < 4*dp.length
structure Sound (d:Dsk) (fs:List Frm) (L:Logic):Prop where
 keys:(L.map (·.1)).Nodup
 dkeys:(d.files.map (·.1)).Nodup
 names:∀ n,(mget d.files n).isSome=(mget L n).isSome
 ok:∀ n,(mget L n).isSome=true->okName n=true
 paged:∀ n ps fl,mget L n=some (.inl (ps,fl))->∃ f dp,OnDisk d fs n ps fl f dp
 raws:∀ n f ls,mget L n=some (.inr (f,ls))->mget d.files n=some f/\∀ s,((n,s),())∈d.loose ↔ ls s
 frames:∀ fr∈fs,fr.full=true->∃ ps fl,mget L fr.name=some (.inl (ps,fl))/\ps[fr.k]? = some fr.bytes
 blank:∀ fr∈fs,fr.full=false->fr=Frm.none
 once:∀ (i j:Nat) (fi fj:Frm),fs[i]? = some fi->fs[j]? = some fj->fi.full=true->fj.full=true->fi.name=fj.name->fi.k=fj.k->i=j
 looseIn:∀ n s,((n,s),())∈d.loose->(mget L n).isSome=true
structure Onward (d d':Dsk):Prop where
 quota:d'.quota=d.quota
 calm:d.armed=0->d'.armed=0/\(d.dead=false->d'.dead=false)
 dead:d.dead=true->d'.dead=true
theorem Onward.refl (d:Dsk):Onward d d:=⟨rfl,fun h=>⟨h,id⟩,id⟩
theorem Onward.trans {d d' d'':Dsk} (h:Onward d d') (k:Onward d' d''):Onward d d'':=
 ⟨k.quota.trans h.quota,fun h0=>⟨(k.calm (h.calm h0).1).1,fun hd=>(k.calm (h.calm h0).1).2 ((h.calm h0).2 hd)⟩,fun hd=>k.dead (h.dead hd)⟩
theorem Onward.tick (d:Dsk):Onward d d.tick:=by
 refine ⟨Dsk.tick_quota d,fun h=>?_,fun h=>?_⟩
 ·have:d.tick=d:=by unfold Dsk.tick;rw [if_neg (by omega)]
  rw [this];exact ⟨h,id⟩
 ·unfold Dsk.tick;split
  ·show (d.dead || _)=true;rw [h];rfl
  ·exact h
theorem Onward.of {d d' e:Dsk} (h:Onward d d') (hq:e.quota=d'.quota) (ha:e.armed=d'.armed) (hd:e.dead=d'.dead):Onward d e:=
 ⟨hq.trans h.quota,fun h0=>⟨ha.trans (h.calm h0).1,fun h1=>hd.trans ((h.calm h0).2 h1)⟩,fun h1=>hd.trans (h.dead h1)⟩
theorem Sound.disk {d d':Dsk} {fs:List Frm} {L:Logic} (h:Sound d fs L) (hf:d'.files=d.files) (hl:d'.loose=d.loose):Sound d' fs L where
 keys:=h.keys
 dkeys:=by rw [hf];exact h.dkeys
 names:=by rw [hf];exact h.names
 ok:=h.ok
 paged:=fun n ps fl hg=>by
  obtain ⟨f,dp,k⟩:=h.paged n ps fl hg;exact ⟨f,dp,by rw [hf];exact k.get,k.now,k.le,k.most,k.short,k.sdp,k.each,fun e=>by rw [hl];exact k.lasts e,by rw [hl];exact k.near⟩
 raws:=by rw [hf,hl];exact h.raws
 frames:=h.frames
 blank:=h.blank
 once:=h.once
 looseIn:=by rw [hl];exact h.looseIn
theorem Sound.tick {d:Dsk} {fs:List Frm} {L:Logic} (h:Sound d fs L):Sound d.tick fs L:=h.disk (Dsk.tick_files d) (Dsk.tick_loose d)
end
end Go.Proofs.YthkkgdpomhhjjaaGreatDoor
