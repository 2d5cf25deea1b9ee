/-
  Joined.
-/
import Derived.Test.YthkkgdpomhhjjaaGreatDoorR02
import Derived.Deep.MidRow
import Derived.StillTailTactics
namespace Go.Proofs.YthkkgdpomhhjjaaGreatDoor
section
open Go.RowKit Go.Maps Go.MapKept
open Go.ChangeMaps (setBlock heap_setBlock_same heap_setBlock_other)
theorem FileAt.extend {w w4:World} {o:Owner} {pf:Nat} {f:DFile} (h:FileAt w o pf f) {v v':Value} (hc:w.cell? ⟨pf,0,none⟩=some v) (hown:∀ b,v.ownBlock=some b->o b=some (4,pf)) {bs:List UInt8} (hv:w4.ownsRow 0 5 1 v' bs.length (bs.map bv))
 (hg:w.grownBy w4 v.ownBlock) (hal:v'.ownBlock=v.ownBlock\/v'.ownBlock=some w.heap.size) (ho:∀ x t,o x=some t->x < w.heap.size) (hl:bs.length<=16777216) :
 FileAt (w4.setCell ⟨pf,0,none⟩ v') (o.put v' (4,pf)) pf { f with now:=bs }/\(∀ x r,o x=some r->(o.put v' (4,pf)) x=some r)/\Turn (OfFile o pf) w (w4.setCell ⟨pf,0,none⟩ v')/\OGrow w.heap.size o (o.put v' (4,pf)) /\
  (∀ x t,(o.put v' (4,pf)) x=some t->x < (w4.setCell ⟨pf,0,none⟩ v').heap.size)/\(w4.setCell ⟨pf,0,none⟩ v').cell? ⟨pf,0,none⟩=some v':=by
 have hput:∀ b,v'.ownBlock=some b->o b=some (4,pf)\/b=w.heap.size:=fun b hb=>by
  rcases hal with e | e
  ·exact .inl (hown b (by rw [<- e];exact hb))
  ·rw [e] at hb;exact .inr (Option.some.inj hb).symm
 have hkeep:∀ x r,o x=some r->(o.put v' (4,pf)) x=some r:=fun x r hx=>by
  unfold Owner.put;cases e:v'.ownBlock with
  | none=>exact hx
  | some b=>
    dsimp only;by_cases ex:x=b
    ·subst ex;rcases hput x e with h1 | h1
     ·rw [h1] at hx;cases hx;simp
     ·have:=ho x r hx;omega
    ·rw [Owner.set_other _ _ ex];exact hx
 have hgrow:OGrow w.heap.size o (o.put v' (4,pf)):=fun x hx=>by
  cases e:o x with
  | some r=>exact hkeep x r e
  | none=>
    unfold Owner.put;cases e2:v'.ownBlock with
    | none=>exact e
    | some b=>
      dsimp only;have hne:x≠b:=by
       rintro rfl;rcases hput x e2 with h1 | h1
       ·rw [e] at h1;cases h1
       ·omega
      rw [Owner.set_other _ _ hne];exact e
 have hT4:Turn (OfFile o pf) w w4:=(Turn.refl (OfFile o pf) w).grown hg (fun k hk=>.inl (.inr (.inl (hown k hk))));have hT5:=hT4.setCell ⟨pf,0,none⟩ v' (.inl (.inl rfl));have hsz:(w4.setCell ⟨pf,0,none⟩ v').heap.size=w4.heap.size:=by simp
 have hvlt:∀ b,v'.ownBlock=some b->b < w4.heap.size:=fun b hb=>(ownBlock_old hv b hb).1;obtain ⟨h1,⟨t,a,c,h2,h3,h4,h5,h6⟩,h7⟩:=h;have hva:a=v:=by
  rw [cells_cell h2] at hc;simpa using hc
 subst hva;have hpne:∀ b,v'.ownBlock=some b->b≠pf:=fun b hb e=>by
  rcases hput b hb with h | h
  ·rw [e,h1] at h;cases h
  ·have:=ho pf _ h1;omega
 have hpb:w4.heap[pf]? = w.heap[pf]? := hg.block pf (ho _ _ h1) (fun e=>by have:=hown pf e.symm;rw [h1] at this;cases this);refine ⟨⟨hkeep _ _ h1,⟨t,v',c,?_,?_,fun b hb=>Owner.put_at hb,?_,fun b hb=>hkeep _ _ (h6 b hb)⟩,hl,h7.2⟩,hkeep,hT5,hgrow,?_,by rw [cells_cell (cells_set (hpb.trans h2) 0 v')];rfl⟩
 ·rw [cells_set (hpb.trans h2)];rfl
 ·exact ((Turn.refl (·=pf) w4).setCell ⟨pf,0,none⟩ v' (.inl rfl)).ownsRow hv (fun b hb e=>hpne b hb e)
 ·refine ((Turn.refl (fun x=>x=pf\/a.ownBlock=some x) w).grown hg (fun k hk=>.inl (.inr hk))).setCell ⟨pf,0,none⟩ v' (.inl (.inl rfl)) |>.ownsRow h5 (fun b hb e=>?_);have hb5:=h6 b hb;rcases e with e | e
  ·rw [e,h1] at hb5;cases hb5
  ·have:=hown b e;rw [hb5] at this;cases this
 ·intro x r hx;rw [hsz];unfold Owner.put at hx;cases e:v'.ownBlock with
  | none=>
    rw [e] at hx;exact Nat.lt_of_lt_of_le (ho x r hx) hg.size
  | some b=>
    rw [e] at hx;dsimp only at hx;by_cases ex:x=b
    ·rw [ex];exact hvlt b e
    ·rw [Owner.set_other _ _ ex] at hx;exact Nat.lt_of_lt_of_le (ho x r hx) hg.size
theorem FileAt.recopy {w w':World} {o:Owner} {pf:Nat} {f:DFile} (h:FileAt w o pf f) {v:Value} (hc:w.cell? ⟨pf,0,none⟩=some v) (hown:∀ b,v.ownBlock=some b->o b=some (4,pf)) {bs:List UInt8} (hv:w'.ownsRow 0 5 1 v bs.length (bs.map bv))
 (ht:Turn (fun x=>v.ownBlock=some x) w w') (hl:bs.length<=16777216):FileAt w' o pf { f with now:=bs }:=by
 obtain ⟨h1,⟨t,a,c,h2,h3,h4,h5,h6⟩,h7⟩:=h;have hva:a=v:=by
  rw [cells_cell h2] at hc;simpa using hc
 subst hva;refine ⟨h1,⟨t,a,c,?_,hv,hown,?_,h6⟩,hl,h7.2⟩
 ·exact ht.heap h2 (fun e=>by have:=hown pf e;rw [h1] at this;cases this)
 ·exact ht.ownsRow h5 (fun b hb e=>by have:=hown b e;rw [h6 b hb] at this;cases this)
theorem wrapIn {n:Int} (h1:-9223372036854775808<=n) (h2:n<=9223372036854775807):IntKind.i64.wrap n=n:=by
 simp [IntKind.wrap,IntKind.bits,IntKind.signed];omega
theorem grow_sum {n E:Nat} (h:n<=E):n+(E - n)=E:=by omega
theorem grow_len {xs:List UInt8} {E:Nat} (h:xs.length<=E):(xs++List.replicate (E - xs.length) (0:UInt8)).length=E:=by simp;omega
theorem grow_row {w:World} {v:Value} {xs:List UInt8} {E:Nat} (h:w.ownsRow 0 5 1 v (xs.length+(E - xs.length)) (xs.map bv++(List.replicate (E - xs.length) (0:UInt8)).map bv)) (hE:xs.length<=E) :
 w.ownsRow 0 5 1 v (xs++List.replicate (E - xs.length) (0:UInt8)).length ((xs++List.replicate (E - xs.length) (0:UInt8)).map bv):=by
 rw [grow_len hE,List.map_append];rw [grow_sum hE] at h;exact h
theorem grown_cell {w w':World} {row:Option Nat} (h:w.grownBy w' row) {b i:Nat} (hb:some b≠row) (hl:b < w.heap.size):w'.cell? ⟨b,i,none⟩=w.cell? ⟨b,i,none⟩:=World.cell?_of_block (h.block b hl hb)
theorem grown_frozen {w w':World} {row:Option Nat} (h:w.grownBy w' row) {b i:Nat} (hb:some b≠row) (hl:b < w.heap.size):w'.frozen? ⟨b,i,none⟩=w.frozen? ⟨b,i,none⟩:=World.frozen?_of_block (h.block b hl hb)
theorem FileAt.apart {w:World} {o:Owner} {pf:Nat} {f:DFile} (h:FileAt w o pf f) {v:Value} (hown:∀ b,v.ownBlock=some b->o b=some (4,pf)):some pf≠v.ownBlock:=fun e=>by
 have:=hown pf e.symm;rw [h.own] at this;cases this
theorem slice_cap {w:World} {base:Nat} {e:TypeId} {a:Option Addr} {n c:Nat} {xs:List Value} {m:Nat} (h:w.ownsRow base e 1 (.slice a m c) n xs):n<=c:=by
 obtain ⟨_,h⟩:=h;rcases h with ⟨h1,h2⟩ | ⟨g,cap,cur,h1,_,_,h2,_⟩
 ·omega
 ·cases h1;exact h2
theorem slice_at {w:World} {base:Nat} {e:TypeId} {a:Option Addr} {n c:Nat} {xs:List Value} {m g:Nat} (h:w.ownsRow base e 1 (.slice a m c) n xs) (hg:(Value.slice a m c).ownBlock=some g) (off:Nat):a.map (fun x=>x.add off)=some ⟨g,off,none⟩:=by
 obtain ⟨_,h⟩:=h;rcases h with ⟨h1,h2⟩ | ⟨g',cap,cur,h1,_⟩
 ·cases h1;cases hg
 ·cases h1;cases hg;rw [Option.map_some,Addr_add,Nat.zero_add]
theorem mput_mput {κ υ:Type} [DecidableEq κ] (m:List (κ × υ)) (k:κ) (a b:υ):mput (mput m k a) k b=mput m k b:=by
 unfold mput mdel;rw [List.filter_cons_of_neg (by simp),List.filter_filter];simp
theorem run_copy_over {P:Program} {w:World} (dT sT ty elem:TypeId) (hu:P.underlying dT=some (.slice elem)) (hsz:(P.info? elem).map (·.size)=some 1)
 (base:Nat) (v:Value) (xs bs:List UInt8) (hown:w.ownsRow base elem 1 v xs.length (xs.map bv)) (off:Nat) (hfit:off+bs.length<=xs.length)
 (dLen:Nat) (hdl:dLen=xs.length - off) (sv:Value) (hsv:Rd w sv bs) :
 ∃ w',(∀ (dp:Option Addr) (dCap:Nat),(0 < bs.length->∀ g,v.ownBlock=some g->dp=some ⟨g,off,none⟩)->(Builtin.copy_ #[dT,sT] ty #[.slice dp dLen dCap,sv]).run P w=.ok (goInt bs.length) w')/\w'.ownsRow base elem 1 v xs.length ((over xs off bs).map bv)/\Turn (fun x=>v.ownBlock=some x) w w':=by
 obtain ⟨sp,sCap,rfl,hsl,hsc,hcells⟩:=hsv;by_cases h0:bs.length=0
 ·obtain rfl:bs=[]:=List.eq_nil_of_length_eq_zero h0;refine ⟨w,fun dp dCap _=>run_copy_none (P:=P) w dT sT ty elem dp sp dLen dCap 0 sCap hu hsz (by simp),?_,Turn.refl _ _⟩;rw [over_nil];exact hown
 ·rcases hcells with hc | ⟨b,so,rfl,hc⟩
  ·exact absurd hc h0
  obtain ⟨hl,⟨rfl,hz⟩ | ⟨g,cap,cur,rfl,hg,hh,hn,hm,hcs,hx⟩⟩:=hown
  ·omega
  have hcl:cur.toList.length=cap*1:=by rw [Array.length_toList,hcs]
  have hx1:cur.toList.take xs.length=xs.map bv:=by rw [Nat.mul_one] at hx;exact hx
  have hrun:=fun dCap=>run_copy_row (P:=P) w dT sT ty elem g off dLen dCap ⟨b,so,none⟩ bs.length sCap cur elem (bs.map bv) hu hsz hh (by
   rw [List.length_map,hdl];exact (Nat.min_eq_left (by omega)).symm) (by
   intro j x hj;rw [List.getElem?_map] at hj;by_cases hjl:j < bs.length
   ·rw [List.getElem?_eq_getElem hjl] at hj;simp only [Option.map_some,Option.some.injEq] at hj;subst hj;rw [Addr_add];exact hc j hjl
   ·rw [List.getElem?_eq_none (by omega)] at hj;simp at hj) (by
   rw [List.length_map,hcs];omega) (by simp [bv_oneCell])
  simp only [List.length_map] at hrun;refine ⟨_,fun dp dCap hdp=>(by rw [hdp (by omega) g rfl];exact hrun dCap),⟨?_, .inr ⟨g,cap,_,rfl,hg,setRow_heap w g _ _ elem _ hh,hn,hm,?_,?_⟩⟩,?_⟩
  ·rw [List.length_map,over_length hfit,Nat.mul_one]
  ·simp only [List.size_toArray,List.length_append,List.length_take,List.length_drop,List.length_map];omega
  ·rw [Nat.mul_one];unfold over;have h1:=take_over cur.toList (bs.map bv) xs.length off (by rw [List.length_map];exact hfit) (by omega);rw [List.length_map] at h1;rw [List.append_assoc,h1,hx1,List.map_append,List.map_append,List.map_take,List.map_drop]
  ·exact ⟨rfl,rfl,rfl,by simp [World.setRow],fun k _ hk=>setRow_other w g k _ (fun e=>hk (by rw [e];rfl))⟩
theorem FileAt.lt {w:World} {o:Owner} {pf:Nat} {f:DFile} (h:FileAt w o pf f):pf < w.heap.size:=by
 obtain ⟨_,⟨t,v,u,h2,_⟩,_⟩:=h;exact (Array.getElem?_eq_some_iff.1 h2).1
set_option maxRecDepth 100000 in
set_option maxHeartbeats 8000000 in
theorem write_any {w:World} {db:Nat} {o:Owner} {d:Dsk} (h:DiskAt w db o d) (name:Name) (hs:name.size<=1000) (off:Nat) (hoff:off<=1099511627776) (sv:Value) (bs:List UInt8) (hsv:Rd w sv bs) (hbl:bs.length<=1099511627776) (hso:∀ b,sv.ownBlock=some b->o b=none) :
 Calls Tryz.prog 230 #[ptrTo db, .string name, .int .i64 (off:Int),sv] w fun e w'=>e=.returned (.int .i64 ((d.write name off bs).2:Int))/\DiskPost w db o (d.write name off bs).1 w':=by
 have H:=Lib.hid h;have HSV:=Lib.hid hsv;have HSO:=Lib.hid hso;obtain ⟨sa,scap,rfl,-⟩:=hsv;clear h hso;unfold ptrTo;cases hd:d.tick.dead with
 | true=>
   have e1:d.write name off bs=(d.tick,6):=by unfold Dsk.write;rw [hd];rfl
   have e2:d.tick.err=6:=by unfold Dsk.err;rw [hd];rfl
   have E2:=Lib.hid e2;rw [e1];clear hd e1 e2;go_enter Tryz.func230,Tryz.ntmps230
   go_wp2_with fail
   refine (begin_any H.out).mono ?_;rintro e w1 ⟨rfl,hd1,ht1⟩;rw [E2.out];go_wp2;go_ret;exact ⟨rfl, .of hd1 ht1⟩
 | false=>
   have e2:d.tick.err=0:=by unfold Dsk.err;rw [hd];rfl
   have E2:=Lib.hid e2;have HDD:=Lib.hid hd;clear hd e2;go_enter Tryz.func230,Tryz.ntmps230
   go_wp2_with fail
   refine (begin_any H.out).mono ?_;rintro e w1 ⟨rfl,⟨mf,ml,l,hd1⟩,ht1⟩;rw [E2.out];have HD1:=Lib.hid hd1;have HT1:=Lib.hid ht1;have hfc:=find_cases hd1 name true;rw [Dsk.tick_files] at hfc;clear hd1 ht1;go_wp2_with fail
   refine (find_any HD1.out name true hs).mono ?_;rintro e w2 ⟨rfl,hb2⟩;have HD2:=Lib.hid (HD1.out.below hb2);have HT2:=Lib.hid (HT1.out.thenBelow hb2);clear hb2;rcases hfc with ⟨q1,q2⟩ | ⟨q1,q2,q3,q4⟩ | ⟨pf,f,q1,q2,q3,q4⟩
   ·have e1:d.write name off bs=(d.tick,1):=by
     unfold Dsk.write;rw [HDD.out];rw [Bool.and_true] at q1;rw [q1];rfl
    rw [q2];have E1:=Lib.hid e1;clear e1 q2 q1;go_wp2;go_ret;rw [E1.out];exact ⟨rfl, .of ⟨_,_,_,HD2.out⟩ HT2.out⟩
   ·have e1:d.write name off bs=(d.tick,3):=by
     unfold Dsk.write;rw [HDD.out];rw [Bool.and_true] at q1;rw [q1,q2];rfl
    rw [q4];have E1:=Lib.hid e1;clear e1 q4 q3 q2 q1;go_wp2;go_ret;rw [E1.out];exact ⟨rfl, .of ⟨_,_,_,HD2.out⟩ HT2.out⟩
   ·have e1:d.write name off bs=if f.now.length < off then (d.tick,1)
     else if 16777216 < bs.length+off then (d.tick,9)
     else if sect f.now.length < sect (max f.now.length (off+bs.length))/\d.quota < usedOf d.files+(sect (max f.now.length (off+bs.length)) - sect f.now.length) then (d.tick,5)
     else ({ d.tick with files:=mput d.files name (f.laid off bs),loose:=loosen d.loose name off bs.length },0):=by
     unfold Dsk.write;rw [HDD.out];rw [Bool.and_true] at q1;rw [q1,q2];rfl
    rw [q4];have E1:=Lib.hid e1;have hfa:FileAt w2 o pf f:=HD2.out.each _ (mget_mem q3);have HFA:=Lib.hid hfa;have HQ:=Lib.hid q3;clear e1 q4 q3 q2 q1;obtain ⟨v,u,⟨hp0,-⟩,⟨hz0,-⟩,hrow,hown,-,-⟩:=hfa.cells;have hmost:=hfa.most.1;obtain ⟨va,vc,rfl⟩:=ownsRow_slice hrow;have HROW:=Lib.hid hrow;have HOWN:=Lib.hid hown;clear hrow hown hfa;by_cases hlo:f.now.length < off
    ·go_wp2;go_ret;rw [E1.out,if_pos hlo];exact ⟨rfl, .of ⟨_,_,_,HD2.out⟩ HT2.out⟩
    ·by_cases hmany:16777216 < bs.length+off
     ·go_wp2;go_ret;rw [E1.out,if_neg hlo,if_pos hmany];exact ⟨rfl, .of ⟨_,_,_,HD2.out⟩ HT2.out⟩
     ·go_wp2_with (refine wpList_maxNat rfl _ _ _ _ rfl f.now.length (off+bs.length) rfl rfl rfl (by omega) ?_;intro E hE;have HE:=Lib.hid hE;have hE1:f.now.length<=E:=(by omega);have hE2:off+bs.length<=E:=(by omega);have hE3:E<=16777216:=(by omega);clear hE)
      go_quiet ((go_at_call 266;exact Calls.quiet_of_same ((sectors_any _ _ (by omega)).mono (fun e w' h=>⟨h.1,h.2.symm⟩))))
      go_wp2_with fail
      obtain ⟨M,hM⟩:∃ M:Nat,M=sect E - sect f.now.length:=⟨_,rfl⟩;have hM':((E:Int)+63) / 64 - ((f.now.length:Int)+63) / 64=(M:Int):=by
       unfold sect at hM;omega
      rw [hM'];have hMb:M<=1048576:=by unfold sect at hM;omega
      have HM:=Lib.hid hM;clear hM hM';rcases Nat.lt_or_ge 0 M with hpos | hneg0;case' inl=>
       have hpos':(0:Int) < (M:Int):=by omega
       have hu:=HD2.out.ok.used;obtain ⟨U,hU⟩:∃ U:Nat,U=usedOf d.tick.files:=⟨_,rfl⟩;rw [<- hU] at hu;have HU:=Lib.hid hU;clear hU;obtain ⟨Q,hQ⟩:∃ Q:Nat,Q=d.tick.quota:=⟨_,rfl⟩;have hQb:=HD2.out.ok.quota;rw [<- hQ] at hQb;have HQQ:=Lib.hid hQ;clear hQ;have hwU:IntKind.i64.wrap ((U:Int)+(M:Int))=(U:Int)+(M:Int):=by
        simp [IntKind.wrap,IntKind.bits,IntKind.signed];omega
       refine wp_region_quiet_in (Below w2.heap.size w2) (by kernel_rfl) (by kernel_rfl) ((below_drewN (Below.refl _ _) _).drew) ?_;refine q_op rfl (fun w' hw'=>(by go_simp;rfl)) (fun K hK=>?_);go_simp;refine hK _ ?_;clear hK K;refine q_op rfl (fun w' hw'=>(by go_simp;rfl)) (fun K hK=>?_);go_simp;refine hK _ ?_;clear hK K;refine q_op rfl (fun w' hw'=>(by go_simp;rfl)) (fun K hK=>?_);go_simp;refine hK _ ?_;clear hK K;refine q_op rfl (fun w' hw'=>(by go_simp;rfl)) (fun K hK=>?_);go_simp;refine hK _ ?_;clear hK K;refine q_call rfl (fun w' hw'=>(by go_simp;rfl)) (fun w' hw'=>((used_any (db:=db) (o:=o) (d:=d.tick) ⟨mf,ml,l,HD2.out.below hw'⟩).mono (fun e w'' h=>⟨h.1,hw'.trans (h.2.mono hw'.size)⟩))) (fun K hK=>?_);go_simp;refine hK _ ?_;clear hK K;rw [<- HU.out];iterate 5 (refine q_op rfl (fun w' hw'=>(by go_simp;rfl)) (fun K hK=>?_);go_simp;refine hK _ ?_;clear hK K)
       refine q_op (v:=.int .i64 (Q:Int)) rfl (fun w' hw'=>(by have hcq:=(HD2.out.below hw').head.cells.1.2.2.1;rw [<- HQQ.out] at hcq;go_simp)) (fun K hK=>?_);go_simp;refine hK _ ?_;clear hK K;iterate 2 (refine q_op rfl (fun w' hw'=>(by go_simp;rfl)) (fun K hK=>?_);go_simp;refine hK _ ?_;clear hK K)
       refine wpQuiet_nil ?_;intro w3 hw3;have HD3:=Lib.hid (HD2.out.below hw3);have HT3:=Lib.hid (HT2.out.thenBelow hw3);have HB3:=Lib.hid hw3;clear hw3;by_cases hfull:Q < U+M
       ·go_wp2;go_ret;rw [E1.out,if_neg hlo,if_neg hmany,if_pos ⟨by have:=HM.out;rw [<- HE.out];omega,by
         have h1:=HM.out;have h2:=HE.out;have h3:=HU.out;have h4:=HQQ.out
         rw [Dsk.tick_files] at h3;rw [Dsk.tick_quota] at h4;rw [<- h2,<- h3,<- h4,<- h1];exact hfull⟩]
        exact ⟨rfl, .of ⟨_,_,_,HD3.out⟩ HT3.out⟩
       have hrefuse:Hid (¬ (sect f.now.length < sect (max f.now.length (off+bs.length))/\d.quota < usedOf d.files+(sect (max f.now.length (off+bs.length)) - sect f.now.length))):=Lib.hid (by
        have h1:=HM.out;have h2:=HE.out;have h3:=HU.out;have h4:=HQQ.out
        rw [Dsk.tick_files] at h3;rw [Dsk.tick_quota] at h4;rw [<- h2,<- h3,<- h4,<- h1];exact fun h=>hfull h.2)
       have hroom:Hid (usedOf d.files+M<=1048576):=Lib.hid (by
        have h3:=HU.out;rw [Dsk.tick_files] at h3;rw [<- h3];omega)
       go_wp2;refine wp_region_float (Below w2.heap.size w2) 1 12 (by kernel_rfl) (by kernel_rfl) ((HB3.out.drew)) ?_
      case' inr=>
       have hrefuse:Hid (¬ (sect f.now.length < sect (max f.now.length (off+bs.length))/\d.quota < usedOf d.files+(sect (max f.now.length (off+bs.length)) - sect f.now.length))):=Lib.hid (by
        have h1:=HM.out;have h2:=HE.out
        rw [<- h2];exact fun h=>by omega)
       have hroom:Hid (usedOf d.files+M<=1048576):=Lib.hid (by
        have h3:=HD2.out.ok.used;rw [Dsk.tick_files] at h3;omega)
       have hdec:decide ((0:Int) < (M:Int))=false:=by
        have:M=0:=by omega
        simp [this]
       have hdec2:decide (0 < M)=false:=by
        have:M=0:=by omega
        simp [this]
       have hdec3:¬ 0 < M:=by omega
       clear hneg0 hMb;go_quiet (fail)
       go_wp2;refine wp_region_float (Below w2.heap.size w2) 1 12 (by kernel_rfl) (by kernel_rfl) (((below_drewN (below_drewN (Below.refl _ _) _) _).drew)) ?_
      all_goals
       simp only [List.take_succ_cons,List.take_zero,List.drop_succ_cons,List.drop_zero];refine p_op rfl (fun w'=>(by go_simp<;>rfl)) (fun K hK=>?_);go_simp;refine hK _ ?_;clear hK K;refine p_nil ?_;iterate 3 (refine qo (fun K hK=>?_);go_simp;refine hK _ ?_;clear hK K)
       refine qo (fun K hK=>?_) (fun w' hw'=>by have hc:=hw'.cell (p:=⟨pf,0,none⟩) (HFA.out.lt);rw [hp0] at hc;go_simp<;>rfl);go_simp;refine hK _ ?_;clear hK K;iterate 4 (refine qo (fun K hK=>?_);go_simp;refine hK _ ?_;clear hK K)
       refine qo (fun K hK=>?_) (fun w' hw'=>by have hc:=hw'.cell (p:=⟨pf,0,none⟩) (HFA.out.lt);rw [hp0] at hc;go_simp<;>rfl);go_simp;refine hK _ ?_;clear hK K;have hwE:IntKind.i64.wrap ((E:Int) - (f.now.length:Int))=(E:Int) - (f.now.length:Int):=wrapIn (by omega) (by omega);iterate 2 (refine qo (fun K hK=>?_);go_simp;refine hK _ ?_;clear hK K)
       refine wpQuiet_nil ?_;intro w4 hw4;have HD4:=Lib.hid (HD2.out.below hw4);have HT4:=Lib.hid (HT2.out.thenBelow hw4);have HR4:=Lib.hid (ownsRow_below HROW.out hw4);have hp4:w4.cell? ⟨pf,0,none⟩=some (.slice va f.now.length vc):=by rw [hw4.cell (p:=⟨pf,0,none⟩) HFA.out.lt];exact hp0
       have HP4:=Lib.hid hp4;have hz4:w4.frozen? ⟨pf,0,none⟩=false:=by rw [hw4.frozen (p:=⟨pf,0,none⟩) HFA.out.lt];exact hz0
       have HFA4:Hid (FileAt w4 o pf f):=Lib.hid (HD4.out.each _ (mget_mem HQ.out));clear hw4 hp0 hz0 HFA;refine wpList_append_zeros rfl _ _ 39 3 .i64 rfl 0 5 Tryz.underlying39 Tryz.underlying3 info_u8 _ f.now.length _ rfl HR4.out (E - f.now.length) (by show Value.int .i64 _=Value.int .i64 _;congr 1;omega) (by omega) (Nat.zero_le _) ?_;intro v5 w5 ho5 hg5 hal5;rw [grow_sum hE1] at ho5;obtain ⟨a5,c5,rfl⟩:=ownsRow_slice ho5;have HX5:=Lib.hid (HFA4.out.extend HP4.out HOWN.out (grow_row (by rw [grow_sum hE1];exact ho5) hE1) hg5 hal5 HD4.out.owned (by rw [grow_len hE1];exact hE3));have hp5:w5.cell? ⟨pf,0,none⟩=some (.slice va f.now.length vc):=by rw [grown_cell hg5 (HFA4.out.apart HOWN.out) HFA4.out.lt];exact HP4.out
       have hz5:w5.frozen? ⟨pf,0,none⟩=false:=by rw [grown_frozen hg5 (HFA4.out.apart HOWN.out) HFA4.out.lt];exact hz4
       have HO5:=Lib.hid ho5;clear ho5 hg5 hal5 hz4 hp4;go_wp2;simp only [NoP];have hE5:E<=c5:=slice_cap HO5.out;have hf1:(f.now++List.replicate (E - f.now.length) (0:UInt8)).length=E:=grow_len hE1;have HD6:=Lib.hid (HD4.out.reFile HQ.out HX5.out.2.2.1 HX5.out.2.1 HX5.out.1 HX5.out.2.2.2.2.1 (by
        have h1:=usedOf_get HD4.out.fileKeys (HD4.out.get HQ.out);rw [usedOf_put];dsimp only at h1 ⊢;rw [hf1];have h2:=hroom.out;have h3:=HM.out;rw [Dsk.tick_files] at h1 ⊢;omega))
       have HT6:=Lib.hid (HT4.out.trans HX5.out.2.2.1 (fun x _ hx=>OfFile.in hx HFA4.out.own));have HFA6:=Lib.hid HX5.out.1;have HC6:=Lib.hid HX5.out.2.2.2.2.2;have HK6:=Lib.hid HX5.out.2.1;have HG6:=Lib.hid HX5.out.2.2.2.1;have HN1:=Lib.hid hf1;have hp6:=HC6.out;clear HX5 HO5 hp5 hz5 hf1 hwE;generalize w5.setCell ⟨pf,0,none⟩ (.slice a5 E c5)=w6 at *;generalize hxs:f.now++List.replicate (E - f.now.length) (0:UInt8)=xs at *;have HLAID:Hid (f.laid off bs=⟨over xs off bs,f.lasts⟩):=Lib.hid (by unfold DFile.laid;rw [<- HE.out,hxs]);clear hxs;have HS6:=Lib.hid (HT6.out.rd HSV.out (fun b hb=>Owner.not_in_none (HSO.out b hb)));have hrow6:w6.ownsRow 0 5 1 (.slice a5 E c5) xs.length (xs.map bv)/\∀ b,(Value.slice a5 E c5).ownBlock=some b->(o.put (.slice a5 E c5) (4,pf)) b=some (4,pf):=by
        obtain ⟨v,u,⟨h0,-⟩,-,h1,h2,-⟩:=HFA6.out.cells;obtain rfl:v=.slice a5 E c5:=Option.some.inj (h0.symm.trans HC6.out);exact ⟨h1,h2⟩
       have HR6:=Lib.hid hrow6;clear hrow6;obtain ⟨w7,hrun7,ho7,ht7⟩:=run_copy_over (P:=Tryz.prog) (w:=w6) 39 39 3 5 Tryz.underlying39 (by kernel_rfl) 0 (.slice a5 E c5) xs bs HR6.out.1 off (by rw [HN1.out];exact hE2) (E - off) (by rw [HN1.out]) (.slice sa bs.length scap) HS6.out;have hrunA:=hrun7 (a5.map (fun x=>x.add off)) (c5 - off) (fun _ g hg=>slice_at HR6.out.1 hg off);have hrunB:c5=off->_:=fun hc=>hrun7 a5 0 (fun h=>absurd h (by omega));clear hrun7;have HO7:=Lib.hid ho7;have HT7:=Lib.hid ht7;clear ho7 ht7;have hov:(over xs off bs).length=E:=by rw [over_length (by rw [HN1.out];exact hE2),HN1.out]
       have HD7:=Lib.hid (HD6.out.reFile (f:={ f with now:=xs }) (by rw [mget_mput,if_pos rfl]) (HT7.out.mono (S':=OfFile (o.put (.slice a5 E c5) (4,pf)) pf) (fun x _ hx=>.inr (.inl (HR6.out.2 x hx)))) (fun _ _ h=>h) (HFA6.out.recopy HC6.out HR6.out.2 (by rw [hov];have h:=HO7.out;rw [HN1.out] at h;exact h) HT7.out (by rw [hov];exact hE3)) (fun x t hx=>Nat.lt_of_lt_of_le (HD6.out.owned x t hx) HT7.out.size) (by
        have h1:=HD6.out.ok.used;rw [mput_mput];dsimp only at h1 ⊢;rw [usedOf_put] at h1 ⊢;dsimp only at h1 ⊢;rw [hov];rw [HN1.out] at h1;exact h1))
       have HT8:=Lib.hid (HT6.out.trans HT7.out (S':=fun x=>(Value.slice a5 E c5).ownBlock=some x) (fun x hx e=>by
        rcases Nat.lt_or_ge x w4.heap.size with h1 | h1
        ·have h2:=HG6.out x h1;have h3:=HR6.out.2 x e;rw [h2] at h3;exact ⟨_,h3,by show 4 < 6;decide⟩
        ·have:=HT4.out.size;omega))
       clear hov HFA6 HC6 HO7 HT7 HS6;obtain ⟨⟨-,hc7,-⟩,-⟩:=HD7.out.head.cells;have hb7:bs.length<=16777216:=by omega
       by_cases hcap:c5=off
       case' pos=>
        have hrunC:=hrunB hcap;clear hrunA
       clear hrunB;all_goals
        go_wp2;go_loopw [103] (fun i wr=>∃ k:Nat,k<=bs.length/\i=.int .i64 (k:Int)/\Turn (·=ml) w7 wr/\LooseMap wr ml (loosen d.loose name off k)) (fun i _=>bs.length - (intOf i).toNat)
        case atStart=>exact ⟨0,Nat.zero_le _,rfl,Turn.refl _ _,by have:=HD7.out.loose;dsimp only at this;rw [Dsk.tick_loose] at this;exact this⟩
        case round=>
         obtain ⟨k,hk,rfl,ht,hm⟩:=hrel;by_cases hlt0:k < bs.length/\c5≠off
         ·first
          | exact absurd hcap hlt0.2
          | (obtain ⟨hlt,-⟩:=hlt0
             have hc8:wr.cell? ⟨db,1,none⟩=some (.map (some ml)):=ht.cell hc7 (Owner.ne HD7.out.odb HD7.out.oml (by decide));have hgk:Hid (Good Tryz.prog 116 (nameNum (name,(off+k) / 64))):=Lib.hid (good_dkey (by unfold maxLen;omega) (by omega));have HM8:=Lib.hid hm;have HT9:=Lib.hid ht;clear hm ht;go_wp2_with (at_mapUpdate;refine wpList_put _ rfl _ _ _ _ rfl 4 keyed_dkey nameNum_inj Tryz.underlying111 ml (loosen d.loose name off k) rfl HM8.out (name,(off+k) / 64) () (by show Value.agg #[Value.string name,Value.int .i64 (((off:Int)+(k:Int)) / 64)]=nameNum (name,(off+k) / 64);unfold nameNum;rw [show (((off+k) / 64:Nat):Int)=((off:Int)+(k:Int)) / 64 by omega]) rfl hgk.out ?_;intro es clock hm9)
             go_roundw
             case rel=>exact ⟨k+1,by omega,by go_num,HT9.out.setBlock ml _ (.inl rfl),hm9⟩
             case measure=>simp [intOf];omega)
         ·obtain rfl:k=bs.length:=by omega
          have HDF:=Lib.hid (HD7.out.reLoose ht hm);have HTF:=Lib.hid (HT8.out.trans ht (S':=fun x=>x=ml) (fun x _ e=>⟨_,e ▸ HD2.out.oml,by show 2 < 6;decide⟩));clear hm ht;go_wp2;go_ret;rw [E1.out,if_neg hlo,if_neg hmany,if_neg hrefuse.out];have hN:=HDF.out;simp only [mput_mput,Dsk.tick_files] at hN;rw [HLAID.out];exact ⟨rfl,_,⟨_,_,_,hN⟩,HTF.out,fun x hx=>HG6.out x (Nat.lt_of_lt_of_le hx HT4.out.size)⟩
end
section
open Go.RowKit
abbrev Pg:=List UInt8
def tagOf (n:Name):Nat:=crcOf n.data.toList
theorem tagOf_lt (n:Name):tagOf n < 4294967296:=crcOf_lt _
def pagesFrom (tag:Nat):Nat->List Pg->List UInt8
 | _,[]=>[]
 | k,b::r=>mkPage tag k b++pagesFrom tag (k+1) r
def Short (ps:List Pg):Prop:=∀ b∈ps,b.length<=240
theorem Short.cons {b:Pg} {r:List Pg} (h:Short (b::r)):b.length<=240/\Short r:=⟨h b (by simp),fun x hx=>h x (by simp [hx])⟩
theorem pagesFrom_length {tag:Nat} (ps:List Pg) (h:Short ps):∀ k,(pagesFrom tag k ps).length=256*ps.length:=by
 induction ps with
 | nil=>intro k;rfl
 | cons b r ih=>
   intro k;rw [pagesFrom,List.length_append,mkPage_length _ _ _ h.cons.1,ih h.cons.2,List.length_cons];omega
theorem pagesFrom_append {tag:Nat} (a b:List Pg):∀ k,pagesFrom tag k (a++b)=pagesFrom tag k a++pagesFrom tag (k+a.length) b:=by
 induction a with
 | nil=>intro k;rfl
 | cons x a ih=>
   intro k;rw [List.cons_append,pagesFrom,pagesFrom,ih,List.append_assoc,List.length_cons,show k+1+a.length=k+(a.length+1) by omega]
theorem split_at {α:Type} {l:List α} {j:Nat} (h:j < l.length):l=l.take j++l[j]::l.drop (j+1):=by
 rw [List.getElem_cons_drop,List.take_append_drop]
theorem Short.take {ps:List Pg} (h:Short ps) (n:Nat):Short (ps.take n):=fun b hb=>h b (List.mem_of_mem_take hb)
theorem pagesFrom_get {tag k j:Nat} {ps:List Pg} (h:Short ps) (hj:j < ps.length):((pagesFrom tag k ps).drop (256*j)).take 256=mkPage tag (k+j) ps[j]:=by
 have e:pagesFrom tag k ps=pagesFrom tag k (ps.take j)++(mkPage tag (k+j) ps[j]++pagesFrom tag (k+j+1) (ps.drop (j+1))):=by
  conv=>lhs;rw [split_at hj,pagesFrom_append,List.length_take,Nat.min_eq_left (by omega)]
  rfl
 have hl:(pagesFrom tag k (ps.take j)).length=256*j:=by
  rw [pagesFrom_length _ (h.take j),List.length_take,Nat.min_eq_left (by omega)]
 rw [e,drop_app _ _ _ hl,take_app _ _ _ (mkPage_length _ _ _ (h _ (List.getElem_mem hj)))]
theorem pagesFrom_over {tag k j:Nat} {ps:List Pg} {b:Pg} (h:Short ps) (hb:b.length<=240) (hj:j < ps.length):over (pagesFrom tag k ps) (256*j) (mkPage tag (k+j) b)=pagesFrom tag k (ps.set j b):=by
 have e:∀ x:Pg,pagesFrom tag k (ps.take j++x::ps.drop (j+1))=pagesFrom tag k (ps.take j)++(mkPage tag (k+j) x++pagesFrom tag (k+j+1) (ps.drop (j+1))):=fun x=>by
  rw [pagesFrom_append,List.length_take,Nat.min_eq_left (by omega)];rfl
 have hl:(pagesFrom tag k (ps.take j)).length=256*j:=by
  rw [pagesFrom_length _ (h.take j),List.length_take,Nat.min_eq_left (by omega)]
 have hset:ps.set j b=ps.take j++b::ps.drop (j+1):=List.set_eq_take_append_cons_drop.trans (by rw [if_pos hj]);rw [hset,e b];unfold over;rw [mkPage_length _ _ _ hb];conv=>lhs;rw [split_at hj,e ps[j]]
 rw [take_app _ _ _ hl,show 256*j+256=256*j+256 from rfl,<- List.drop_drop,drop_app _ _ _ hl,drop_app _ _ _ (mkPage_length _ _ _ (h _ (List.getElem_mem hj)))]
def setPage (ps:List Pg) (j:Nat) (b:Pg):List Pg:=if j < ps.length then ps.set j b else ps++[b]
theorem setPage_length (ps:List Pg) (j:Nat) (b:Pg) (h:j<=ps.length):(setPage ps j b).length=max ps.length (j+1):=by
 unfold setPage;split
 ·rw [List.length_set];omega
 ·rw [List.length_append,List.length_singleton];omega
theorem setPage_short {ps:List Pg} {j:Nat} {b:Pg} (h:Short ps) (hb:b.length<=240):Short (setPage ps j b):=by
 unfold setPage;split
 ·intro x hx;rcases List.mem_or_eq_of_mem_set hx with hx | rfl
  ·exact h x hx
  ·exact hb
 ·intro x hx;rcases List.mem_append.1 hx with hx | hx
  ·exact h x hx
  ·rw [List.mem_singleton.1 hx];exact hb
theorem setPage_get (ps:List Pg) (j:Nat) (b:Pg) (h:j<=ps.length) (i:Nat):(setPage ps j b)[i]? = if i=j then some b else ps[i]? := by
 unfold setPage;split
 ·rename_i hj
  rw [List.getElem?_set];by_cases e:j=i
  ·subst e;simp [hj]
  ·rw [if_neg e,if_neg (fun e'=>e e'.symm)]
 ·have hj:j=ps.length:=by omega
  subst hj;by_cases e:i=ps.length
  ·subst e;simp
  ·rw [if_neg e];by_cases hl:i < ps.length
   ·rw [List.getElem?_append_left hl]
   ·rw [List.getElem?_eq_none (by simp;omega),List.getElem?_eq_none (by omega)]
theorem laid_page {tag j:Nat} {ps:List Pg} {b:Pg} (h:Short ps) (hb:b.length<=240) (hj:j<=ps.length) {f:DFile} (hf:f.now=pagesFrom tag 0 ps):f.laid (256*j) (mkPage tag j b)=⟨pagesFrom tag 0 (setPage ps j b),f.lasts⟩:=by
 have hl:f.now.length=256*ps.length:=by rw [hf,pagesFrom_length _ h]
 unfold DFile.laid;rw [mkPage_length _ _ _ hb];congr 1;by_cases hlt:j < ps.length
 ·have e:max f.now.length (256*j+256) - f.now.length=0:=by omega
  rw [e,List.replicate_zero,List.append_nil,hf];have:=pagesFrom_over (tag:=tag) (k:=0) h hb hlt;rw [Nat.zero_add] at this;rw [this];unfold setPage;rw [if_pos hlt]
 ·obtain rfl:j=ps.length:=by omega
  have e:max f.now.length (256*ps.length+256) - f.now.length=256:=by omega
  rw [e];unfold setPage over;rw [if_neg (by omega),pagesFrom_append,hf,mkPage_length _ _ _ hb];have hp:=pagesFrom_length (tag:=tag) ps h 0;rw [take_app _ _ _ hp,List.drop_eq_nil_of_le (by rw [List.length_append,List.length_replicate,hp];omega),List.append_nil,Nat.zero_add,pagesFrom,pagesFrom,List.append_nil]
abbrev LFile:=(List Pg × Bool) ⊕ (DFile × (Nat->Prop))
abbrev Logic:=List (Name × LFile)
structure Frm where
 full:Bool
 name:Name
 k:Nat
 bytes:Pg
 dirty:Bool
 used:Bool
def Frm.none:Frm:=⟨false,ByteArray.empty,0,[],false,false⟩
def LFile.need:LFile->Nat
 | .inl x=>4*x.1.length
 | .inr x=>sect x.1.now.length
def need (L:Logic):Nat:=(L.map (fun p=>p.2.need)).sum
def DirtyAt (fs:List Frm) (n:Name) (k:Nat):Prop:=∃ (j:Nat) (fr:Frm),fs[j]? = some fr/\fr.full=true/\fr.dirty=true/\fr.name=n/\fr.k=k
structure OnDisk (d:Dsk) (fs:List Frm) (n:Name) (ps:List Pg) (fl:Bool) (f:DFile) (dp:List Pg):Prop where
 get:mget d.files n=some f
 now:f.now=pagesFrom (tagOf n) 0 dp
 le:dp.length<=ps.length
 most:ps.length<=65536
 short:Short ps
 sdp:Short dp
 each:∀ k,k < ps.length->(k < dp.length/\dp[k]? = ps[k]?)\/DirtyAt fs n k
 lasts:fl=true->dp=ps/\f.lasts=f.now/\(∀ s,((n,s),()) ∉ d.loose)/\∀ k,¬ DirtyAt fs n k
 near:∀ s,((n,s),())∈d.loose->s < 4*dp.length
structure Sound (d:Dsk) (fs:List Frm) (L:Logic):Prop where
 keys:(L.map (·.1)).Nodup
 dkeys:(d.files.map (·.1)).Nodup
 names:∀ n,(mget d.files n).isSome=(mget L n).isSome
 ok:∀ n,(mget L n).isSome=true->okName n=true
 paged:∀ n ps fl,mget L n=some (.inl (ps,fl))->∃ f dp,OnDisk d fs n ps fl f dp
 raws:∀ n f ls,mget L n=some (.inr (f,ls))->mget d.files n=some f/\∀ s,((n,s),())∈d.loose ↔ ls s
 frames:∀ fr∈fs,fr.full=true->∃ ps fl,mget L fr.name=some (.inl (ps,fl))/\ps[fr.k]? = some fr.bytes
 blank:∀ fr∈fs,fr.full=false->fr=Frm.none
 once:∀ (i j:Nat) (fi fj:Frm),fs[i]? = some fi->fs[j]? = some fj->fi.full=true->fj.full=true->fi.name=fj.name->fi.k=fj.k->i=j
 looseIn:∀ n s,((n,s),())∈d.loose->(mget L n).isSome=true
structure Onward (d d':Dsk):Prop where
 quota:d'.quota=d.quota
 calm:d.armed=0->d'.armed=0/\(d.dead=false->d'.dead=false)
 dead:d.dead=true->d'.dead=true
theorem Onward.refl (d:Dsk):Onward d d:=⟨rfl,fun h=>⟨h,id⟩,id⟩
theorem Onward.trans {d d' d'':Dsk} (h:Onward d d') (k:Onward d' d''):Onward d d'':=
 ⟨k.quota.trans h.quota,fun h0=>⟨(k.calm (h.calm h0).1).1,fun hd=>(k.calm (h.calm h0).1).2 ((h.calm h0).2 hd)⟩,fun hd=>k.dead (h.dead hd)⟩
theorem Onward.tick (d:Dsk):Onward d d.tick:=by
 refine ⟨Dsk.tick_quota d,fun h=>?_,fun h=>?_⟩
 ·have:d.tick=d:=by unfold Dsk.tick;rw [if_neg (by omega)]
  rw [this];exact ⟨h,id⟩
 ·unfold Dsk.tick;split
  ·show (d.dead || _)=true;rw [h];rfl
  ·exact h
theorem Onward.of {d d' e:Dsk} (h:Onward d d') (hq:e.quota=d'.quota) (ha:e.armed=d'.armed) (hd:e.dead=d'.dead):Onward d e:=
 ⟨hq.trans h.quota,fun h0=>⟨ha.trans (h.calm h0).1,fun h1=>hd.trans ((h.calm h0).2 h1)⟩,fun h1=>hd.trans (h.dead h1)⟩
theorem Sound.disk {d d':Dsk} {fs:List Frm} {L:Logic} (h:Sound d fs L) (hf:d'.files=d.files) (hl:d'.loose=d.loose):Sound d' fs L where
 keys:=h.keys
 dkeys:=by rw [hf];exact h.dkeys
 names:=by rw [hf];exact h.names
 ok:=h.ok
 paged:=fun n ps fl hg=>by
  obtain ⟨f,dp,k⟩:=h.paged n ps fl hg;exact ⟨f,dp,by rw [hf];exact k.get,k.now,k.le,k.most,k.short,k.sdp,k.each,fun e=>by rw [hl];exact k.lasts e,by rw [hl];exact k.near⟩
 raws:=by rw [hf,hl];exact h.raws
 frames:=h.frames
 blank:=h.blank
 once:=h.once
 looseIn:=by rw [hl];exact h.looseIn
theorem Sound.tick {d:Dsk} {fs:List Frm} {L:Logic} (h:Sound d fs L):Sound d.tick fs L:=h.disk (Dsk.tick_files d) (Dsk.tick_loose d)
theorem mem_mput {κ υ:Type} [DecidableEq κ] {m:List (κ × υ)} {k:κ} {v:υ} {p:κ × υ}:p∈mput m k v ↔ p=(k,v)\/p∈m/\p.1≠k:=by
 unfold mput;rw [List.mem_cons,mem_mdel]
theorem mem_loosen {m:List ((Name × Nat) × Unit)} {name:Name} {off c:Nat} {n:Name} {s:Nat} (hn:n≠name):((n,s),())∈loosen m name off c ↔ ((n,s),())∈m:=by
 induction c with
 | zero=>exact Iff.rfl
 | succ c ih=>
   rw [loosen,mem_mput,ih];constructor
   ·rintro (h | h)
    ·exact absurd (Prod.mk.inj (Prod.mk.inj h).1).1 hn
    ·exact h.1
   ·intro h;exact .inr ⟨h,fun e=>hn (Prod.mk.inj e).1⟩
theorem loosen_near {m:List ((Name × Nat) × Unit)} {name:Name} {off c:Nat} {s:Nat}:((name,s),())∈loosen m name off c->((name,s),())∈m\/s<=(off+c - 1) / 64:=by
 induction c with
 | zero=>exact fun h=>.inl h
 | succ c ih=>
   rw [loosen,mem_mput];rintro (h | h)
   ·obtain rfl:s=(off+c) / 64:=(Prod.mk.inj (Prod.mk.inj h).1).2;exact .inr (by rw [show off+(c+1) - 1=off+c by omega];exact Nat.le_refl _)
   ·rcases ih h.1 with h1 | h1
    ·exact .inl h1
    ·exact .inr (Nat.le_trans h1 (Nat.div_le_div_right (by omega)))
theorem isSome_mput {κ υ:Type} [DecidableEq κ] (m:List (κ × υ)) (k:κ) (v:υ) (k':κ):(mget (mput m k v) k').isSome=(decide (k'=k) || (mget m k').isSome):=by
 rw [mget_mput];by_cases h:k'=k
 ·simp [h]
 ·simp [h]
theorem isSome_mdel {κ υ:Type} [DecidableEq κ] (m:List (κ × υ)) (k:κ) (k':κ):(mget (mdel m k) k').isSome=(decide (k'≠k) && (mget m k').isSome):=by
 rw [mget_mdel];by_cases h:k'=k
 ·simp [h]
 ·simp [h]
theorem perm_of_same {κ:Type} [DecidableEq κ] {a b:List κ} (ha:a.Nodup) (hb:b.Nodup) (h:∀ k,k∈a ↔ k∈b):a.Perm b:=(List.perm_ext_iff_of_nodup ha hb).2 h
theorem mem_keys {κ υ:Type} [DecidableEq κ] {m:List (κ × υ)} {k:κ}:k∈m.map (·.1) ↔ (mget m k).isSome=true:=by
 constructor
 ·intro h;obtain ⟨p,hp,rfl⟩:=List.mem_map.1 h;cases e:mget m p.1 with
  | none=>exact absurd rfl (mget_none.1 e p hp)
  | some v=>rfl
 ·intro h;cases e:mget m k with
  | none=>rw [e] at h;cases h
  | some v=>exact List.mem_map.2 ⟨_,mget_mem e,rfl⟩
theorem sum_keys {κ υ:Type} [DecidableEq κ] {m:List (κ × υ)} (hn:(m.map (·.1)).Nodup) (g:υ->Nat):(m.map (fun p=>g p.2)).sum=((m.map (·.1)).map (fun k=>((mget m k).map g).getD 0)).sum:=by
 rw [List.map_map];congr 1;apply List.map_congr_left;intro p hp;have:mget m p.1=some p.2:=mget_of_mem hn hp;simp [this]
theorem sum_le {α:Type} (l:List α) (f g:α->Nat) (h:∀ x∈l,f x<=g x):(l.map f).sum<=(l.map g).sum:=by
 induction l with
 | nil=>simp
 | cons x l ih=>
   simp only [List.map_cons,List.sum_cons];have h1:=h x (by simp);have h2:=ih (fun y hy=>h y (by simp [hy]));omega
theorem Sound.samekeys {d:Dsk} {fs:List Frm} {L:Logic} (h:Sound d fs L):(d.files.map (·.1)).Perm (L.map (·.1)):=
 perm_of_same h.dkeys h.keys fun n=>by rw [mem_keys,mem_keys,h.names n]
theorem Sound.used_le {d:Dsk} {fs:List Frm} {L:Logic} (h:Sound d fs L):usedOf d.files<=need L:=by
 have e1:usedOf d.files=((d.files.map (·.1)).map (fun k=>((mget d.files k).map (fun f:DFile=>sect f.now.length)).getD 0)).sum:=sum_keys h.dkeys (fun f=>sect f.now.length);have e2:need L=((L.map (·.1)).map (fun k=>((mget L k).map LFile.need).getD 0)).sum:=sum_keys h.keys LFile.need;have e3:((L.map (·.1)).map (fun k=>((mget L k).map LFile.need).getD 0)).sum=((d.files.map (·.1)).map (fun k=>((mget L k).map LFile.need).getD 0)).sum:=((h.samekeys.map _).sum_nat).symm;rw [e1,e2,e3];refine sum_le _ _ _ fun n hn=>?_;rw [mem_keys,h.names] at hn;cases e:mget L n with
 | none=>rw [e] at hn;cases hn
 | some x=>
   rcases x with ⟨ps,fl⟩ | ⟨f,ls⟩
   ·obtain ⟨f,dp,k⟩:=h.paged n ps fl e;rw [k.get];show sect f.now.length<=4*ps.length;rw [k.now,pagesFrom_length _ k.sdp];have:=k.le;unfold sect;omega
   ·rw [(h.raws n f ls e).1];exact Nat.le_refl _
theorem get_set {α:Type} {fs:List α} {j:Nat} {x:α} (hj:j < fs.length) (i:Nat):(fs.set j x)[i]? = if i=j then some x else fs[i]? := by
 rw [List.getElem?_set];by_cases e:j=i
 ·subst e;simp [hj]
 ·rw [if_neg e,if_neg (fun e'=>e e'.symm)]
theorem lt_of_get {α:Type} {fs:List α} {j:Nat} {x:α} (h:fs[j]? = some x):j < fs.length:=(List.getElem?_eq_some_iff.1 h).1
theorem dirtyAt_set {fs:List Frm} {j:Nat} {fr x:Frm} (hj:fs[j]? = some fr) {n:Name} {k:Nat} (h:DirtyAt fs n k) (hne:¬ (fr.full=true/\fr.dirty=true/\fr.name=n/\fr.k=k)):DirtyAt (fs.set j x) n k:=by
 obtain ⟨i,fi,hi,h1,h2,h3,h4⟩:=h;refine ⟨i,fi,?_,h1,h2,h3,h4⟩;rw [get_set (lt_of_get hj),if_neg]
 ·exact hi
 ·rintro rfl;rw [hj] at hi;cases hi;exact hne ⟨h1,h2,h3,h4⟩
theorem dirtyAt_of_set {fs:List Frm} {j:Nat} {fr x:Frm} (hj:fs[j]? = some fr) {n:Name} {k:Nat} (h:DirtyAt (fs.set j x) n k):DirtyAt fs n k\/(x.full=true/\x.dirty=true/\x.name=n/\x.k=k):=by
 obtain ⟨i,fi,hi,h1,h2,h3,h4⟩:=h;rw [get_set (lt_of_get hj)] at hi;by_cases e:i=j
 ·rw [if_pos e] at hi;cases hi;exact .inr ⟨h1,h2,h3,h4⟩
 ·rw [if_neg e] at hi;exact .inl ⟨i,fi,hi,h1,h2,h3,h4⟩
theorem mem_set_cases {fs:List Frm} {j:Nat} {x fr:Frm} (h:fr∈fs.set j x):fr∈fs\/fr=x:=List.mem_or_eq_of_mem_set h
theorem once_set {fs:List Frm} (h:∀ (i j:Nat) (fi fj:Frm),fs[i]? = some fi->fs[j]? = some fj->fi.full=true->fj.full=true->fi.name=fj.name->fi.k=fj.k->i=j) {j:Nat} {x:Frm} (hj:j < fs.length)
 (hx:x.full=true->∀ (i:Nat) (fi:Frm),i≠j->fs[i]? = some fi->fi.full=true->fi.name=x.name->fi.k=x.k->False) :
 ∀ (i j':Nat) (fi fj:Frm),(fs.set j x)[i]? = some fi->(fs.set j x)[j']? = some fj->fi.full=true->fj.full=true->fi.name=fj.name->fi.k=fj.k->i=j':=by
 intro i j' fi fj hi hj' h1 h2 h3 h4;rw [get_set hj] at hi hj';by_cases e1:i=j
 ·by_cases e2:j'=j
  ·rw [e1,e2]
  ·rw [if_pos e1] at hi;rw [if_neg e2] at hj';cases hi;exact (hx h1 j' fj e2 hj' h2 h3.symm h4.symm).elim
 ·rw [if_neg e1] at hi;by_cases e2:j'=j
  ·rw [if_pos e2] at hj';cases hj';exact (hx h2 i fi e1 hi h1 h3 h4).elim
  ·rw [if_neg e2] at hj';exact h i j' fi fj hi hj' h1 h2 h3 h4
theorem Sound.alone {d:Dsk} {fs:List Frm} {L:Logic} (h:Sound d fs L) {j:Nat} {fr:Frm} (hj:fs[j]? = some fr) (hf:fr.full=true):∀ (i:Nat) (fi:Frm),i≠j->fs[i]? = some fi->fi.full=true->fi.name=fr.name->fi.k=fr.k->False:=
 fun i fi hne hi h1 h2 h3=>hne (h.once i j fi fr hi hj h1 hf h2 h3)
theorem Sound.reset {d:Dsk} {fs:List Frm} {L:Logic} (h:Sound d fs L) {j:Nat} {fr x:Frm} (hj:fs[j]? = some fr) (hd:fr.dirty=false) (hxd:x.dirty=false)
 (hx:x=Frm.none\/(x.full=true/\(∃ ps fl,mget L x.name=some (.inl (ps,fl))/\ps[x.k]? = some x.bytes)/\∀ (i:Nat) (fi:Frm),i≠j->fs[i]? = some fi->fi.full=true->fi.name=x.name->fi.k=x.k->False)) :
 Sound d (fs.set j x) L where
 keys:=h.keys
 dkeys:=h.dkeys
 names:=h.names
 ok:=h.ok
 paged:=fun n ps fl hg=>by
  obtain ⟨f,dp,k⟩:=h.paged n ps fl hg;refine ⟨f,dp,k.get,k.now,k.le,k.most,k.short,k.sdp,fun i hi=>?_,fun e=>?_,k.near⟩
  ·rcases k.each i hi with h1 | h1
   ·exact .inl h1
   ·exact .inr (dirtyAt_set hj h1 (fun e=>by rw [hd] at e;cases e.2.1))
  ·obtain ⟨h1,h2,h3,h4⟩:=k.lasts e;refine ⟨h1,h2,h3,fun i hi=>?_⟩;rcases dirtyAt_of_set hj hi with h5 | h5
   ·exact h4 i h5
   ·rw [hxd] at h5;cases h5.2.1
 raws:=h.raws
 frames:=fun y hy hf=>by
  rcases mem_set_cases hy with hy | rfl
  ·exact h.frames y hy hf
  ·rcases hx with rfl | hx
   ·cases hf
   ·exact hx.2.1
 blank:=fun y hy hf=>by
  rcases mem_set_cases hy with hy | rfl
  ·exact h.blank y hy hf
  ·rcases hx with rfl | hx
   ·rfl
   ·rw [hx.1] at hf;cases hf
 once:=once_set h.once (lt_of_get hj) (fun hf=>by
  rcases hx with rfl | hx
  ·cases hf
  ·exact hx.2.2)
 looseIn:=h.looseIn
theorem Sound.used {d:Dsk} {fs fs':List Frm} {L:Logic} (h:Sound d fs L) (hs:fs'.length=fs.length) (he:∀ (i:Nat) (f f':Frm),fs[i]? = some f->fs'[i]? = some f'->(f'.full,f'.name,f'.k,f'.bytes,f'.dirty)=(f.full,f.name,f.k,f.bytes,f.dirty)/\(f.full=false->f'=f)):Sound d fs' L:=by
 have back:∀ (i:Nat) (f':Frm),fs'[i]? = some f'->∃ f,fs[i]? = some f/\f'.full=f.full/\f'.name=f.name/\f'.k=f.k/\f'.bytes=f.bytes/\f'.dirty=f.dirty/\(f.full=false->f'=f):=fun i f' hi=>by
  have hl:i < fs.length:=by rw [<- hs];exact lt_of_get hi
  have h1:=he i fs[i] f' (List.getElem?_eq_getElem hl) hi;simp only [Prod.mk.injEq] at h1;exact ⟨fs[i],List.getElem?_eq_getElem hl,h1.1.1,h1.1.2.1,h1.1.2.2.1,h1.1.2.2.2.1,h1.1.2.2.2.2,h1.2⟩
 have forth:∀ (i:Nat) (f:Frm),fs[i]? = some f->∃ f',fs'[i]? = some f'/\f'.full=f.full/\f'.name=f.name/\f'.k=f.k/\f'.bytes=f.bytes/\f'.dirty=f.dirty:=fun i f hi=>by
  have hl:i < fs'.length:=by rw [hs];exact lt_of_get hi
  have h1:=he i f fs'[i] hi (List.getElem?_eq_getElem hl);simp only [Prod.mk.injEq] at h1;exact ⟨fs'[i],List.getElem?_eq_getElem hl,h1.1.1,h1.1.2.1,h1.1.2.2.1,h1.1.2.2.2.1,h1.1.2.2.2.2⟩
 have hdirty:∀ n k,DirtyAt fs' n k ↔ DirtyAt fs n k:=fun n k=>by
  constructor
  ·rintro ⟨i,f',hi,a,b,c,e⟩;obtain ⟨f,hf,q1,q2,q3,q4,q5,_⟩:=back i f' hi;exact ⟨i,f,hf,by rw [<- q1];exact a,by rw [<- q5];exact b,by rw [<- q2];exact c,by rw [<- q3];exact e⟩
  ·rintro ⟨i,f,hi,a,b,c,e⟩;obtain ⟨f',hf,q1,q2,q3,q4,q5⟩:=forth i f hi;exact ⟨i,f',hf,by rw [q1];exact a,by rw [q5];exact b,by rw [q2];exact c,by rw [q3];exact e⟩
 exact {
  keys:=h.keys
  dkeys:=h.dkeys
  names:=h.names
  ok:=h.ok
  paged:=fun n ps fl hg=>by
   obtain ⟨f,dp,k⟩:=h.paged n ps fl hg;exact ⟨f,dp,k.get,k.now,k.le,k.most,k.short,k.sdp,fun i hi=>by rw [hdirty];exact k.each i hi,fun e=>by
    obtain ⟨h1,h2,h3,h4⟩:=k.lasts e;exact ⟨h1,h2,h3,fun i=>by rw [hdirty];exact h4 i⟩,k.near⟩
  raws:=h.raws
  frames:=fun y hy hf=>by
   obtain ⟨i,hi⟩:=List.mem_iff_getElem?.1 hy;obtain ⟨f,hg,q1,q2,q3,q4,q5,_⟩:=back i y hi;rw [q2,q3,q4];exact h.frames f (List.mem_of_getElem? hg) (by rw [<- q1];exact hf)
  blank:=fun y hy hf=>by
   obtain ⟨i,hi⟩:=List.mem_iff_getElem?.1 hy;obtain ⟨f,hg,q1,q2,q3,q4,q5,q6⟩:=back i y hi;rw [q6 (by rw [<- q1];exact hf)];exact h.blank f (List.mem_of_getElem? hg) (by rw [<- q1];exact hf)
  once:=fun i j fi fj hi hj h1 h2 h3 h4=>by
   obtain ⟨f,hg,q1,q2,q3,_⟩:=back i fi hi;obtain ⟨g,hg',r1,r2,r3,_⟩:=back j fj hj;exact h.once i j f g hg hg' (by rw [<- q1];exact h1) (by rw [<- r1];exact h2) (by rw [<- q2,<- r2];exact h3) (by rw [<- q3,<- r3];exact h4)
  looseIn:=h.looseIn }
theorem Sound.write {d:Dsk} {fs:List Frm} {L:Logic} (h:Sound d fs L) {j:Nat} {fr:Frm} (hj:fs[j]? = some fr) {name:Name} {ps:List Pg} {fl:Bool} (hL:mget L name=some (.inl (ps,fl))) {k:Nat} {b:Pg} {u:Bool}
 (hk:k<=ps.length) (hk':k < 65536) (hb:b.length<=240) (hx:fr.full=true/\fr.name=name/\fr.k=k\/fr.dirty=false/\∀ (i:Nat) (fi:Frm),i≠j->fs[i]? = some fi->fi.full=true->fi.name=name->fi.k=k->False) :
 Sound d (fs.set j ⟨true,name,k,b,true,u⟩) (mput L name (.inl (setPage ps k b,false))):=by
 have halone:∀ (i:Nat) (fi:Frm),i≠j->fs[i]? = some fi->fi.full=true->fi.name=name->fi.k=k->False:=by
  rcases hx with ⟨h1,h2,h3⟩ | ⟨_,hx⟩
  ·intro i fi hne hi g1 g2 g3;exact h.alone hj h1 i fi hne hi g1 (by rw [g2,h2]) (by rw [g3,h3])
  ·exact hx
 exact {
  keys:=mput_keys h.keys
  dkeys:=h.dkeys
  names:=fun n=>by
   rw [isSome_mput,h.names];by_cases e:n=name
   ·subst e;simp [hL]
   ·simp [e]
  ok:=fun n hn=>by
   rw [isSome_mput] at hn;by_cases e:n=name
   ·subst e;exact h.ok n (by rw [hL];rfl)
   ·exact h.ok n (by simpa [e] using hn)
  paged:=fun n ps' fl' hg=>by
   rw [mget_mput] at hg;by_cases e:n=name
   ·rw [if_pos e] at hg;subst e;simp only [Option.some.injEq,Sum.inl.injEq,Prod.mk.injEq] at hg;obtain ⟨rfl,rfl⟩:=hg;obtain ⟨f,dp,q⟩:=h.paged n ps fl hL;have hle:=q.le;have hmo:=q.most;refine ⟨f,dp,q.get,q.now,by rw [setPage_length _ _ _ hk];omega,by rw [setPage_length _ _ _ hk];omega,setPage_short q.short hb,q.sdp,fun i hi=>?_,fun e=>(by cases e),q.near⟩;by_cases ei:i=k
    ·exact .inr ⟨j,⟨true,n,k,b,true,u⟩,by rw [get_set (lt_of_get hj),if_pos rfl],rfl,rfl,rfl,ei.symm⟩
    ·rw [setPage_get _ _ _ hk,if_neg ei];have hi':i < ps.length:=by
      rw [setPage_length _ _ _ hk] at hi;omega
     rcases q.each i hi' with h1 | h1
     ·exact .inl h1
     ·refine .inr (dirtyAt_set hj h1 fun hc=>?_);rcases hx with hx | hx
      ·exact ei (hc.2.2.2.symm.trans hx.2.2)
      ·rw [hx.1] at hc;cases hc.2.1
   ·rw [if_neg e] at hg;obtain ⟨f,dp,q⟩:=h.paged n ps' fl' hg;refine ⟨f,dp,q.get,q.now,q.le,q.most,q.short,q.sdp,fun i hi=>?_,fun e1=>?_,q.near⟩
    ·rcases q.each i hi with h1 | h1
     ·exact .inl h1
     ·refine .inr (dirtyAt_set hj h1 fun hc=>?_);rcases hx with hx | hx
      ·exact e (hc.2.2.1.symm.trans hx.2.1)
      ·rw [hx.1] at hc;cases hc.2.1
    ·obtain ⟨h1,h2,h3,h4⟩:=q.lasts e1;refine ⟨h1,h2,h3,fun i hi=>?_⟩;rcases dirtyAt_of_set hj hi with h5 | h5
     ·exact h4 i h5
     ·exact e h5.2.2.1.symm
  raws:=fun n f ls hg=>by
   rw [mget_mput] at hg;by_cases e:n=name
   ·rw [if_pos e] at hg;cases hg
   ·rw [if_neg e] at hg;exact h.raws n f ls hg
  frames:=fun y hy hf=>by
   obtain ⟨i,hi⟩:=List.mem_iff_getElem?.1 hy;rw [get_set (lt_of_get hj)] at hi;by_cases ei:i=j
   ·rw [if_pos ei] at hi;cases hi;exact ⟨_,_,by rw [mget_mput,if_pos rfl],by rw [setPage_get _ _ _ hk,if_pos rfl]⟩
   ·rw [if_neg ei] at hi;obtain ⟨ps',fl',h1,h2⟩:=h.frames y (List.mem_of_getElem? hi) hf;by_cases en:y.name=name
    ·rw [en,hL] at h1;simp only [Option.some.injEq,Sum.inl.injEq,Prod.mk.injEq] at h1;obtain ⟨rfl,rfl⟩:=h1;refine ⟨_,_,by rw [mget_mput,if_pos en],?_⟩;rw [setPage_get _ _ _ hk,if_neg (fun ek=>halone i y ei hi hf en ek)];exact h2
    ·exact ⟨ps',fl',by rw [mget_mput,if_neg en];exact h1,h2⟩
  blank:=fun y hy hf=>by
   rcases mem_set_cases hy with hy | rfl
   ·exact h.blank y hy hf
   ·cases hf
  once:=once_set h.once (lt_of_get hj) (fun _=>halone)
  looseIn:=fun n s hs=>by
   rw [isSome_mput,h.looseIn n s hs];simp }
theorem Sound.create {d d':Dsk} {fs:List Frm} {L:Logic} (h:Sound d fs L) {name:Name} (hok:okName name=true) (hn:mget L name=none) (hf:d'.files=mput d.files name ⟨[],[]⟩) (hl:d'.loose=d.loose):Sound d' fs (mput L name (.inl ([],true))) where
 keys:=mput_keys h.keys
 dkeys:=by rw [hf];exact mput_keys h.dkeys
 names:=fun n=>by rw [hf,isSome_mput,isSome_mput,h.names]
 ok:=fun n hs=>by
  rw [isSome_mput] at hs;by_cases e:n=name
  ·rw [e];exact hok
  ·exact h.ok n (by simpa [e] using hs)
 paged:=fun n ps fl hg=>by
  rw [mget_mput] at hg;by_cases e:n=name
  ·subst e;rw [if_pos rfl] at hg;simp only [Option.some.injEq,Sum.inl.injEq,Prod.mk.injEq] at hg;obtain ⟨rfl,rfl⟩:=hg;refine ⟨⟨[],[]⟩,[],by rw [hf,mget_mput,if_pos rfl],rfl,Nat.le_refl _,Nat.zero_le _,(fun _ h=>nomatch h),(fun _ h=>nomatch h),(fun k hk=>absurd hk (Nat.not_lt_zero k)),fun _=>⟨rfl,rfl,fun s hs=>?_,fun k hk=>?_⟩,fun s hs=>?_⟩
   ·rw [hl] at hs;have:=h.looseIn _ _ hs;rw [hn] at this;cases this
   ·obtain ⟨i,fi,hi,h1,h2,h3,h4⟩:=hk;obtain ⟨ps,fl,h5,_⟩:=h.frames fi (List.mem_of_getElem? hi) h1;rw [h3,hn] at h5;cases h5
   ·rw [hl] at hs;have:=h.looseIn _ _ hs;rw [hn] at this;cases this
  ·rw [if_neg e] at hg;obtain ⟨f,dp,q⟩:=h.paged n ps fl hg;exact ⟨f,dp,by rw [hf,mget_mput,if_neg e];exact q.get,q.now,q.le,q.most,q.short,q.sdp,q.each,by rw [hl];exact q.lasts,by rw [hl];exact q.near⟩
 raws:=fun n f ls hg=>by
  rw [mget_mput] at hg;by_cases e:n=name
  ·rw [if_pos e] at hg;cases hg
  ·rw [if_neg e] at hg;rw [hf,mget_mput,if_neg e,hl];exact h.raws n f ls hg
 frames:=fun y hy hfu=>by
  obtain ⟨ps,fl,h1,h2⟩:=h.frames y hy hfu;have hne:y.name≠name:=fun e=>by rw [e,hn] at h1;cases h1
  exact ⟨ps,fl,by rw [mget_mput,if_neg hne];exact h1,h2⟩
 blank:=h.blank
 once:=h.once
 looseIn:=fun n s hs=>by
  rw [hl] at hs;rw [isSome_mput,h.looseIn n s hs];simp
theorem Sound.drop {d d':Dsk} {fs:List Frm} {L:Logic} (h:Sound d fs L) {name:Name} (hno:∀ fr∈fs,fr.full=true->fr.name≠name) (hf:d'.files=mdel d.files name) (hl:d'.loose=d.loose.filter (fun p=>decide (p.1.1≠name))):Sound d' fs (mdel L name):=by
 have hls:∀ n s,((n,s),())∈d'.loose ↔ ((n,s),())∈d.loose/\n≠name:=fun n s=>by rw [hl,List.mem_filter];simp
 exact {
  keys:=mdel_keys h.keys
  dkeys:=by rw [hf];exact mdel_keys h.dkeys
  names:=fun n=>by rw [hf,isSome_mdel,isSome_mdel,h.names]
  ok:=fun n hs=>by
   rw [isSome_mdel] at hs;simp only [Bool.and_eq_true] at hs;exact h.ok n hs.2
  paged:=fun n ps fl hg=>by
   rw [mget_mdel] at hg;by_cases e:n=name
   ·rw [if_pos e] at hg;cases hg
   ·rw [if_neg e] at hg;obtain ⟨f,dp,q⟩:=h.paged n ps fl hg;refine ⟨f,dp,by rw [hf,mget_mdel,if_neg e];exact q.get,q.now,q.le,q.most,q.short,q.sdp,q.each,fun e1=>?_,fun s hs=>q.near s ((hls n s).1 hs).1⟩;obtain ⟨h1,h2,h3,h4⟩:=q.lasts e1;exact ⟨h1,h2,fun s hs=>h3 s ((hls n s).1 hs).1,h4⟩
  raws:=fun n f ls hg=>by
   rw [mget_mdel] at hg;by_cases e:n=name
   ·rw [if_pos e] at hg;cases hg
   ·rw [if_neg e] at hg;obtain ⟨h1,h2⟩:=h.raws n f ls hg;refine ⟨by rw [hf,mget_mdel,if_neg e];exact h1,fun s=>?_⟩;rw [hls,<- h2];exact ⟨fun a=>a.1,fun a=>⟨a,e⟩⟩
  frames:=fun y hy hfu=>by
   obtain ⟨ps,fl,h1,h2⟩:=h.frames y hy hfu;exact ⟨ps,fl,by rw [mget_mdel,if_neg (hno y hy hfu)];exact h1,h2⟩
  blank:=h.blank
  once:=h.once
  looseIn:=fun n s hs=>by
   obtain ⟨h1,h2⟩:=(hls n s).1 hs;rw [isSome_mdel,h.looseIn n s h1];simp [h2] }
theorem Sound.sync {d d':Dsk} {fs:List Frm} {L:Logic} (h:Sound d fs L) {name:Name} {ps:List Pg} {fl:Bool} (hL:mget L name=some (.inl (ps,fl))) (hno:∀ k,¬ DirtyAt fs name k) {f:DFile} (hg:mget d.files name=some f)
 (hf:d'.files=mput d.files name ⟨f.now,f.now⟩) (hl:d'.loose=d.loose.filter (fun p=>decide (p.1.1≠name))):Sound d' fs (mput L name (.inl (ps,true))):=by
 have hls:∀ n s,((n,s),())∈d'.loose ↔ ((n,s),())∈d.loose/\n≠name:=fun n s=>by rw [hl,List.mem_filter];simp
 exact {
  keys:=mput_keys h.keys
  dkeys:=by rw [hf];exact mput_keys h.dkeys
  names:=fun n=>by rw [hf,isSome_mput,isSome_mput,h.names]
  ok:=fun n hs=>by
   rw [isSome_mput] at hs;by_cases e:n=name
   ·rw [e];exact h.ok name (by rw [hL];rfl)
   ·exact h.ok n (by simpa [e] using hs)
  paged:=fun n ps' fl' hg'=>by
   rw [mget_mput] at hg';by_cases e:n=name
   ·subst e;rw [if_pos rfl] at hg';simp only [Option.some.injEq,Sum.inl.injEq,Prod.mk.injEq] at hg';obtain ⟨rfl,rfl⟩:=hg';obtain ⟨f',dp,q⟩:=h.paged n ps fl hL;have:f'=f:=by have:=q.get;rw [hg] at this;exact (Option.some.inj this).symm
    subst this;have hdp:dp=ps:=by
     apply List.ext_getElem?;intro i;by_cases hi:i < ps.length
     ·rcases q.each i hi with h1 | h1
      ·exact h1.2
      ·exact absurd h1 (hno i)
     ·have:=q.le;rw [List.getElem?_eq_none (by omega),List.getElem?_eq_none (by omega)]
    refine ⟨⟨f'.now,f'.now⟩,dp,by rw [hf,mget_mput,if_pos rfl],q.now,q.le,q.most,q.short,q.sdp,q.each,fun _=>⟨hdp,rfl,fun s hs=>((hls n s).1 hs).2 rfl,hno⟩,fun s hs=>absurd rfl ((hls n s).1 hs).2⟩
   ·rw [if_neg e] at hg';obtain ⟨f',dp,q⟩:=h.paged n ps' fl' hg';refine ⟨f',dp,by rw [hf,mget_mput,if_neg e];exact q.get,q.now,q.le,q.most,q.short,q.sdp,q.each,fun e1=>?_,fun s hs=>q.near s ((hls n s).1 hs).1⟩;obtain ⟨h1,h2,h3,h4⟩:=q.lasts e1;exact ⟨h1,h2,fun s hs=>h3 s ((hls n s).1 hs).1,h4⟩
  raws:=fun n f' ls hg'=>by
   rw [mget_mput] at hg';by_cases e:n=name
   ·rw [if_pos e] at hg';cases hg'
   ·rw [if_neg e] at hg';obtain ⟨h1,h2⟩:=h.raws n f' ls hg';refine ⟨by rw [hf,mget_mput,if_neg e];exact h1,fun s=>?_⟩;rw [hls,<- h2];exact ⟨fun a=>a.1,fun a=>⟨a,e⟩⟩
  frames:=fun y hy hfu=>by
   obtain ⟨ps',fl',h1,h2⟩:=h.frames y hy hfu;by_cases e:y.name=name
   ·rw [e,hL] at h1;simp only [Option.some.injEq,Sum.inl.injEq,Prod.mk.injEq] at h1;obtain ⟨rfl,rfl⟩:=h1;exact ⟨_,_,by rw [mget_mput,if_pos e],h2⟩
   ·exact ⟨ps',fl',by rw [mget_mput,if_neg e];exact h1,h2⟩
  blank:=h.blank
  once:=h.once
  looseIn:=fun n s hs=>by
   rw [isSome_mput,h.looseIn n s ((hls n s).1 hs).1];simp }
theorem Sound.back {d d':Dsk} {fs:List Frm} {L:Logic} (h:Sound d fs L) {j:Nat} {fr:Frm} (hj:fs[j]? = some fr) (hfull:fr.full=true) (hdirty:fr.dirty=true) {ps:List Pg} {fl:Bool} (hL:mget L fr.name=some (.inl (ps,fl)))
 {f:DFile} {dp:List Pg} (q:OnDisk d fs fr.name ps fl f dp) (hk:fr.k<=dp.length)
 (hf:d'.files=mput d.files fr.name (f.laid (256*fr.k) (mkPage (tagOf fr.name) fr.k fr.bytes))) (hl:d'.loose=loosen d.loose fr.name (256*fr.k) 256) :
 Sound d' (fs.set j { fr with dirty:=false }) L/\∃ f',OnDisk d' (fs.set j { fr with dirty:=false }) fr.name ps fl f' (setPage dp fr.k fr.bytes):=by
 have hfl:fl=false:=by
  cases e:fl with
  | false=>rfl
  | true=>exact absurd ⟨j,fr,hj,hfull,hdirty,rfl,rfl⟩ ((q.lasts e).2.2.2 fr.k)
 obtain ⟨ps',fl',hL',hpk⟩:=h.frames fr (List.mem_of_getElem? hj) hfull;rw [hL] at hL';simp only [Option.some.injEq,Sum.inl.injEq,Prod.mk.injEq] at hL';obtain ⟨rfl,rfl⟩:=hL';have hkp:fr.k < ps.length:=lt_of_get hpk;have hb:fr.bytes.length<=240:=q.short _ (List.mem_of_getElem? hpk);have hlaid:=laid_page q.sdp hb hk q.now;rw [hlaid] at hf;have hle:=q.le;have hq':OnDisk d' (fs.set j { fr with dirty:=false }) fr.name ps fl ⟨pagesFrom (tagOf fr.name) 0 (setPage dp fr.k fr.bytes),f.lasts⟩ (setPage dp fr.k fr.bytes):=by
  refine ⟨by rw [hf,mget_mput,if_pos rfl],rfl,by rw [setPage_length _ _ _ hk];omega,q.most,q.short,setPage_short q.sdp hb,fun i hi=>?_,fun e=>(by rw [hfl] at e;cases e),fun s hs=>?_⟩;rotate_left
  ·rw [hl] at hs;rw [setPage_length _ _ _ hk];rcases loosen_near hs with h1 | h1
   ·have:=q.near s h1;omega
   ·omega
  rw [setPage_get _ _ _ hk,setPage_length _ _ _ hk];by_cases e:i=fr.k
  ·rw [if_pos e,e];exact .inl ⟨by omega,hpk.symm⟩
  ·rw [if_neg e];rcases q.each i hi with h1 | h1
   ·exact .inl ⟨by omega,h1.2⟩
   ·exact .inr (dirtyAt_set hj h1 (fun hc=>e hc.2.2.2.symm))
 refine ⟨?_,_,hq'⟩;exact {
  keys:=h.keys
  dkeys:=by rw [hf];exact mput_keys h.dkeys
  names:=fun n=>by
   rw [hf,isSome_mput,h.names];by_cases e:n=fr.name
   ·subst e;simp [hL]
   ·simp [e]
  ok:=h.ok
  paged:=fun n ps' fl' hg=>by
   by_cases e:n=fr.name
   ·subst e;rw [hL] at hg;simp only [Option.some.injEq,Sum.inl.injEq,Prod.mk.injEq] at hg;obtain ⟨rfl,rfl⟩:=hg;exact ⟨_,_,hq'⟩
   ·obtain ⟨f',dp',q'⟩:=h.paged n ps' fl' hg;refine ⟨f',dp',by rw [hf,mget_mput,if_neg e];exact q'.get,q'.now,q'.le,q'.most,q'.short,q'.sdp,fun i hi=>?_,fun e1=>?_,fun s hs=>q'.near s (by rw [hl,mem_loosen e] at hs;exact hs)⟩
    ·rcases q'.each i hi with h1 | h1
     ·exact .inl h1
     ·exact .inr (dirtyAt_set hj h1 (fun hc=>e hc.2.2.1.symm))
    ·obtain ⟨h1,h2,h3,h4⟩:=q'.lasts e1;refine ⟨h1,h2,fun s hs=>?_,fun i hi=>?_⟩
     ·rw [hl,mem_loosen e] at hs;exact h3 s hs
     ·rcases dirtyAt_of_set hj hi with h5 | h5
      ·exact h4 i h5
      ·cases h5.2.1
  raws:=fun n f' ls hg=>by
   have e:n≠fr.name:=fun e=>by rw [e,hL] at hg;cases hg
   obtain ⟨h1,h2⟩:=h.raws n f' ls hg;exact ⟨by rw [hf,mget_mput,if_neg e];exact h1,fun s=>by rw [hl,mem_loosen e];exact h2 s⟩
  frames:=fun y hy hfu=>by
   rcases mem_set_cases hy with hy | rfl
   ·exact h.frames y hy hfu
   ·exact ⟨ps,fl,hL,hpk⟩
  blank:=fun y hy hfu=>by
   rcases mem_set_cases hy with hy | rfl
   ·exact h.blank y hy hfu
   ·rw [hfull] at hfu;cases hfu
  once:=once_set h.once (lt_of_get hj) (fun _ i fi hne hi h1 h2 h3=>h.alone hj hfull i fi hne hi h1 h2 h3)
  looseIn:=fun n s hs=>by
   by_cases e:n=fr.name
   ·rw [e,hL];rfl
   ·rw [hl,mem_loosen e] at hs;exact h.looseIn n s hs }
def pfWrite (d:Dsk) (name:Name) (k:Nat) (b:Pg):Dsk × Nat:=
 if (d.sizeOf name).2≠0 then (d,(d.sizeOf name).2)
 else if (d.sizeOf name).1 / 256 < k then (d,1)
 else d.write name (256*k) (mkPage (tagOf name) k b)
def Err (d d':Dsk) (L:Logic) (e:Nat):Prop:=e=5/\d.quota < need L\/e=6/\d'.dead=true
theorem Err.ne {d d':Dsk} {L:Logic} {e:Nat} (h:Err d d' L e):e≠0:=by
 rcases h with h | h<;>omega
theorem Dsk.sizeOf_ok {d:Dsk} {n:Name} {f:DFile} (hok:okName n=true) (hg:mget d.files n=some f):d.sizeOf n=if d.dead=true then (0,6) else (f.now.length,0):=by
 unfold Dsk.sizeOf;cases d.dead with
 | true=>rfl
 | false=>
   rw [hok,hg];rfl
theorem Sound.wback {d:Dsk} {fs:List Frm} {L:Logic} (h:Sound d fs L) {j:Nat} {fr:Frm} (hj:fs[j]? = some fr) (hfull:fr.full=true) (hdirty:fr.dirty=true) {ps:List Pg} {fl:Bool} (hL:mget L fr.name=some (.inl (ps,fl)))
 {f:DFile} {dp:List Pg} (q:OnDisk d fs fr.name ps fl f dp) (hk:fr.k<=dp.length) :
 Onward d (pfWrite d fr.name fr.k fr.bytes).1 /\
 ((pfWrite d fr.name fr.k fr.bytes).2=0/\Sound (pfWrite d fr.name fr.k fr.bytes).1 (fs.set j { fr with dirty:=false }) L/\(∃ f',OnDisk (pfWrite d fr.name fr.k fr.bytes).1 (fs.set j { fr with dirty:=false }) fr.name ps fl f' (setPage dp fr.k fr.bytes)) \/
   Err d (pfWrite d fr.name fr.k fr.bytes).1 L (pfWrite d fr.name fr.k fr.bytes).2/\Sound (pfWrite d fr.name fr.k fr.bytes).1 fs L):=by
 have hok:okName fr.name=true:=h.ok _ (by rw [hL];rfl);obtain ⟨ps',fl',hL',hpk⟩:=h.frames fr (List.mem_of_getElem? hj) hfull;rw [hL] at hL';simp only [Option.some.injEq,Sum.inl.injEq,Prod.mk.injEq] at hL';obtain ⟨rfl,rfl⟩:=hL';have hkp:fr.k < ps.length:=lt_of_get hpk;have hmost:=q.most;have hb:fr.bytes.length<=240:=q.short _ (List.mem_of_getElem? hpk);have hnow:f.now.length=256*dp.length:=by rw [q.now,pagesFrom_length _ q.sdp]
 have hml:(mkPage (tagOf fr.name) fr.k fr.bytes).length=256:=mkPage_length _ _ _ hb;unfold pfWrite;rw [Dsk.sizeOf_ok hok q.get];cases hd:d.dead with
 | true=>
   simp only [if_true];exact ⟨Onward.refl d, .inr ⟨.inr ⟨rfl,hd⟩,h⟩⟩
 | false=>
   simp only [Bool.false_eq_true,if_false,ne_eq,not_true_eq_false];rw [if_neg (show ¬ f.now.length / 256 < fr.k by omega)];unfold Dsk.write;by_cases ht:d.tick.dead=true
   ·rw [if_pos ht];exact ⟨Onward.tick d, .inr ⟨.inr ⟨rfl,ht⟩,h.tick⟩⟩
   ·rw [if_neg ht,if_neg (by rw [hok];simp),q.get];dsimp only;rw [if_neg (show ¬ f.now.length < 256*fr.k by omega),hml,if_neg (show ¬ 16777216 < 256+256*fr.k by omega)];have hnew:=Sound.back (d':={ d.tick with files:=mput d.files fr.name (f.laid (256*fr.k) (mkPage (tagOf fr.name) fr.k fr.bytes)),loose:=loosen d.loose fr.name (256*fr.k) 256 }) h hj hfull hdirty hL q hk rfl rfl;split
    ·rename_i hfullc
     refine ⟨Onward.tick d, .inr ⟨.inl ⟨rfl,?_⟩,h.tick⟩⟩;have h1:=hnew.1.used_le;dsimp only at h1;have h2:=usedOf_get h.dkeys q.get;rw [usedOf_put,laid_page q.sdp hb hk q.now] at h1;dsimp only at h1;rw [pagesFrom_length _ (setPage_short q.sdp hb),setPage_length _ _ _ hk] at h1;have h3:max f.now.length (256*fr.k+256)=256*max dp.length (fr.k+1):=by omega
     rw [h3] at hfullc;omega
    ·refine ⟨(Onward.tick d).of rfl rfl rfl, .inl ⟨rfl,hnew.1,hnew.2⟩⟩
def putAll (name:Name):List Nat->Dsk->List Frm->(Dsk × List Frm) × Nat
 | [],d,fs=>((d,fs),0)
 | i::l,d,fs=>
   if (pfWrite d name (fs.getD i Frm.none).k (fs.getD i Frm.none).bytes).2≠0 then (((pfWrite d name (fs.getD i Frm.none).k (fs.getD i Frm.none).bytes).1,fs),(pfWrite d name (fs.getD i Frm.none).k (fs.getD i Frm.none).bytes).2)
   else putAll name l (pfWrite d name (fs.getD i Frm.none).k (fs.getD i Frm.none).bytes).1 (fs.set i { fs.getD i Frm.none with dirty:=false })
def kOf (fs:List Frm) (i:Nat):Nat:=(fs.getD i Frm.none).k
structure Puts (fs:List Frm) (name:Name) (n:Nat) (l:List Nat):Prop where
 each:∀ i∈l,∃ fr,fs[i]? = some fr/\fr.full=true/\fr.dirty=true/\fr.name=name
 rise:l.Pairwise (fun a b=>kOf fs a < kOf fs b)
 all:∀ p,DirtyAt fs name p->p < n\/(∃ i∈l,kOf fs i=p)\/∀ i∈l,kOf fs i < p
theorem getD_of {fs:List Frm} {i:Nat} {fr:Frm} (h:fs[i]? = some fr):fs.getD i Frm.none=fr:=by
 rw [List.getD_eq_getElem?_getD,h];rfl
theorem kOf_set {fs:List Frm} {i:Nat} {fr x:Frm} (h:fs[i]? = some fr) (hk:x.k=fr.k) (j:Nat):kOf (fs.set i x) j=kOf fs j:=by
 unfold kOf;rw [List.getD_eq_getElem?_getD,List.getD_eq_getElem?_getD,get_set (lt_of_get h)];by_cases e:j=i
 ·rw [if_pos e,e,h];exact hk
 ·rw [if_neg e]
theorem Sound.puts {L:Logic} {name:Name} {ps:List Pg} {fl:Bool} (hL:mget L name=some (.inl (ps,fl))) (l:List Nat) :
 ∀ (d:Dsk) (fs:List Frm) (f:DFile) (dp:List Pg),Sound d fs L->OnDisk d fs name ps fl f dp->Puts fs name dp.length l ->
 ∃ d' fs' e,putAll name l d fs=((d',fs'),e)/\Sound d' fs' L/\Onward d d'/\fs'.length=fs.length/\(∀ i fr,fs[i]? = some fr->∃ dd,fs'[i]? = some { fr with dirty:=dd }/\(dd=true->fr.dirty=true)/\(fr.dirty=false\/i ∉ l->dd=fr.dirty)/\(e=0->i∈l->dd=false))/\(e=0\/Err d d' L e):=by
 induction l with
 | nil=>
   intro d fs f dp h q hp;exact ⟨d,fs,0,rfl,h,Onward.refl d,rfl,fun i fr hi=>⟨fr.dirty,hi,id,fun _=>rfl,fun _ hm=>by cases hm⟩, .inl rfl⟩
 | cons i l ih=>
   intro d fs f dp h q hp;obtain ⟨fr,hi,h1,h2,h3⟩:=hp.each i (by simp);have hrise:=List.pairwise_cons.1 hp.rise;have hki:kOf fs i=fr.k:=by unfold kOf;rw [getD_of hi]
   have hpk:ps[fr.k]? = some fr.bytes:=by
    obtain ⟨ps',fl',hL',hpk⟩:=h.frames fr (List.mem_of_getElem? hi) h1;rw [h3,hL] at hL';simp only [Option.some.injEq,Sum.inl.injEq,Prod.mk.injEq] at hL';rw [hL'.1];exact hpk
   have hk:fr.k<=dp.length:=by
    rcases Nat.lt_or_ge dp.length fr.k with hlt | hge
    ·exfalso
     have hkp:=lt_of_get hpk;rcases q.each dp.length (by omega) with g | g
     ·omega
     ·rcases hp.all _ g with g | ⟨i',hm,g⟩ | g
      ·omega
      ·rcases List.mem_cons.1 hm with rfl | hm
       ·omega
       ·have:=hrise.1 i' hm;omega
      ·have:=g i (by simp);omega
    ·exact hge
   rw [putAll,getD_of hi];subst h3;obtain ⟨hon,⟨he,hg,f',q'⟩ | ⟨he,hg⟩⟩:=h.wback hi h1 h2 hL q hk
   ·rw [if_neg (by rw [he];simp)];have hp':Puts (fs.set i { fr with dirty:=false }) fr.name (setPage dp fr.k fr.bytes).length l:=by
     refine ⟨fun j hj=>?_,?_,fun p hd=>?_⟩
     ·obtain ⟨fj,g1,g2,g3,g4⟩:=hp.each j (by simp [hj]);refine ⟨fj,?_,g2,g3,g4⟩;rw [get_set (lt_of_get hi),if_neg]
      ·exact g1
      ·rintro rfl;have:=hrise.1 j hj;omega
     ·exact hrise.2.imp (fun {a b} hab=>by rw [kOf_set (x:={ fr with dirty:=false }) hi rfl,kOf_set (x:={ fr with dirty:=false }) hi rfl];exact hab)
     ·rw [setPage_length _ _ _ hk];have hd':DirtyAt fs fr.name p:=by
       rcases dirtyAt_of_set hi hd with hd | hd
       ·exact hd
       ·cases hd.2.1
      have hne:p≠fr.k:=by
       rintro rfl;obtain ⟨j,fj,g1,g2,g3,g4,g5⟩:=hd;rw [get_set (lt_of_get hi)] at g1;by_cases e:j=i
       ·rw [if_pos e] at g1;cases g1;cases g3
       ·rw [if_neg e] at g1;exact h.alone hi h1 j fj e g1 g2 g4 g5
      rcases hp.all p hd' with g | ⟨i',hm,g⟩ | g
      ·exact .inl (by omega)
      ·rcases List.mem_cons.1 hm with rfl | hm
       ·omega
       ·exact .inr (.inl ⟨i',hm,by rw [kOf_set (x:={ fr with dirty:=false }) hi rfl];exact g⟩)
      ·exact .inr (.inr fun j hj=>by rw [kOf_set (x:={ fr with dirty:=false }) hi rfl];exact g j (by simp [hj]))
    obtain ⟨d2,fs2,e2,r1,r2,r3,r4,r5,r6⟩:=ih _ _ f' _ hg q' hp';refine ⟨d2,fs2,e2,r1,r2,hon.trans r3,by rw [r4,List.length_set],fun j fj hj=>?_,?_⟩
    ·by_cases e:j=i
     ·subst e;rw [hi] at hj;cases hj;obtain ⟨dd,s1,s2,s3,s4⟩:=r5 j { fr with dirty:=false } (by rw [get_set (lt_of_get hi),if_pos rfl]);have hdd:dd=false:=s3 (.inl rfl);refine ⟨dd,s1,?_,?_,fun _ _=>hdd⟩
      ·intro hd;rw [hdd] at hd;cases hd
      ·rintro (hc | hc)
       ·rw [hc,hdd]
       ·exact absurd (by simp) hc
     ·obtain ⟨dd,s1,s2,s3,s4⟩:=r5 j fj (by rw [get_set (lt_of_get hi),if_neg e];exact hj);refine ⟨dd,s1,s2,fun hc=>s3 (hc.imp id (fun hc hm=>hc (by simp [hm]))),fun he2 hm=>s4 he2 ?_⟩;rcases List.mem_cons.1 hm with rfl | hm
      ·exact absurd rfl e
      ·exact hm
    ·rcases r6 with r6 | r6 | r6
     ·exact .inl r6
     ·exact .inr (.inl ⟨r6.1,by rw [<- hon.quota];exact r6.2⟩)
     ·exact .inr (.inr r6)
   ·rw [if_pos he.ne];exact ⟨_,fs,_,rfl,hg,hon,rfl,fun j fj hj=>⟨fj.dirty,hj,id,fun _=>rfl,fun e=>absurd e he.ne⟩, .inr he⟩
def isDirty (name:Name) (lo hi:Nat) (fr:Frm):Bool:=fr.full && fr.dirty && decide (fr.name=name) && decide (lo<=fr.k) && decide (fr.k < hi)
structure Told (fs:List Frm) (name:Name) (lo hi:Nat) (l:List Nat):Prop where
 mem:∀ i,i∈l ↔ ∃ fr,fs[i]? = some fr/\isDirty name lo hi fr=true
 rise:l.Pairwise (fun a b=>kOf fs a<=kOf fs b)
 nodup:l.Nodup
theorem isDirty_iff {name:Name} {lo hi:Nat} {fr:Frm}:isDirty name lo hi fr=true ↔ fr.full=true/\fr.dirty=true/\fr.name=name/\lo<=fr.k/\fr.k < hi:=by
 unfold isDirty;simp [and_assoc]
theorem Told.strict {d:Dsk} {fs:List Frm} {L:Logic} (h:Sound d fs L) {name:Name} {lo hi:Nat} {l:List Nat} (t:Told fs name lo hi l):l.Pairwise (fun a b=>kOf fs a < kOf fs b):=by
 have h1:=t.rise.and (show l.Pairwise (fun a b=>a≠b) from t.nodup);refine h1.imp_of_mem fun {a b} ha hb hab=>?_;rcases Nat.lt_or_ge (kOf fs a) (kOf fs b) with hlt | hge
 ·exact hlt
 ·obtain ⟨fa,ga,ha'⟩:=(t.mem a).1 ha;obtain ⟨fb,gb,hb'⟩:=(t.mem b).1 hb;rw [isDirty_iff] at ha' hb';have e:kOf fs a=kOf fs b:=Nat.le_antisymm hab.1 hge;unfold kOf at e;rw [getD_of ga,getD_of gb] at e;exact absurd (h.once a b fa fb ga gb ha'.1 hb'.1 (by rw [ha'.2.2.1,hb'.2.2.1]) e) hab.2
theorem Told.puts {d:Dsk} {fs:List Frm} {L:Logic} (h:Sound d fs L) {name:Name} {hi n:Nat} {l:List Nat} (t:Told fs name 0 hi l) (hhi:∀ p,DirtyAt fs name p->p < hi):Puts fs name n l:=by
 refine ⟨fun i hm=>?_,t.strict h,fun p hp=>.inr (.inl ?_)⟩
 ·obtain ⟨fr,g,hd⟩:=(t.mem i).1 hm;rw [isDirty_iff] at hd;exact ⟨fr,g,hd.1,hd.2.1,hd.2.2.1⟩
 ·obtain ⟨j,fj,g1,g2,g3,g4,g5⟩:=hp;have hlt:p < hi:=hhi p ⟨j,fj,g1,g2,g3,g4,g5⟩;refine ⟨j,(t.mem j).2 ⟨fj,g1,isDirty_iff.2 ⟨g2,g3,g4,Nat.zero_le _,by omega⟩⟩,?_⟩;unfold kOf;rw [getD_of g1,g5]
theorem Told.puts_one {d:Dsk} {fs:List Frm} {L:Logic} (h:Sound d fs L) {j:Nat} {fr:Frm} (hj:fs[j]? = some fr) (hfull:fr.full=true) (hdirty:fr.dirty=true) {n:Nat} {l:List Nat} (t:Told fs fr.name n fr.k l):Puts fs fr.name n (l++[j]):=by
 have hkj:kOf fs j=fr.k:=by unfold kOf;rw [getD_of hj]
 refine ⟨fun i hm=>?_,?_,fun p hp=>?_⟩
 ·rcases List.mem_append.1 hm with hm | hm
  ·obtain ⟨fi,g,hd⟩:=(t.mem i).1 hm;rw [isDirty_iff] at hd;exact ⟨fi,g,hd.1,hd.2.1,hd.2.2.1⟩
  ·rw [List.mem_singleton.1 hm];exact ⟨fr,hj,hfull,hdirty,rfl⟩
 ·rw [List.pairwise_append];refine ⟨t.strict h,List.pairwise_singleton _ _,fun a ha b hb=>?_⟩;rw [List.mem_singleton.1 hb,hkj];obtain ⟨fi,g,hd⟩:=(t.mem a).1 ha;rw [isDirty_iff] at hd;unfold kOf;rw [getD_of g];exact hd.2.2.2.2
 ·obtain ⟨i,fi,g1,g2,g3,g4,g5⟩:=id hp;by_cases hn:p < n
  ·exact .inl hn
  ·right;have hki:kOf fs i=p:=by unfold kOf;rw [getD_of g1,g5]
   rcases Nat.lt_trichotomy p fr.k with hlt | rfl | hgt
   ·exact .inl ⟨i,List.mem_append_left _ ((t.mem i).2 ⟨fi,g1,isDirty_iff.2 ⟨g2,g3,g4,by omega,by omega⟩⟩),hki⟩
   ·exact .inl ⟨j,by simp,hkj⟩
   ·refine .inr fun a ha=>?_;rcases List.mem_append.1 ha with ha | ha
    ·obtain ⟨fa,g,hd⟩:=(t.mem a).1 ha;rw [isDirty_iff] at hd;unfold kOf;rw [getD_of g];omega
    ·rw [List.mem_singleton.1 ha,hkj];exact hgt
abbrev Rec:=List UInt8
def Sized (sz:Nat) (rs:List Rec):Prop:=∀ r∈rs,r.length=sz
theorem Sized.cons {sz:Nat} {r:Rec} {rs:List Rec} (h:Sized sz (r::rs)):r.length=sz/\Sized sz rs:=⟨h r (by simp),fun x hx=>h x (by simp [hx])⟩
theorem Sized.take {sz:Nat} {rs:List Rec} (h:Sized sz rs) (n:Nat):Sized sz (rs.take n):=fun b hb=>h b (List.mem_of_mem_take hb)
theorem Sized.drop {sz:Nat} {rs:List Rec} (h:Sized sz rs) (n:Nat):Sized sz (rs.drop n):=fun b hb=>h b (List.mem_of_mem_drop hb)
theorem flat_length {sz:Nat} {rs:List Rec} (h:Sized sz rs):rs.flatten.length=sz*rs.length:=by
 induction rs with
 | nil=>simp
 | cons r rs ih=>
   rw [List.flatten_cons,List.length_append,h.cons.1,ih h.cons.2,List.length_cons,Nat.mul_succ];omega
theorem flat_get {sz:Nat} {rs:List Rec} (h:Sized sz rs) {j:Nat} (hj:j < rs.length):(rs.flatten.drop (sz*j)).take sz=rs[j]:=by
 have e:rs.flatten=(rs.take j).flatten++(rs[j]++(rs.drop (j+1)).flatten):=by
  conv=>lhs;rw [split_at hj]
  rw [List.flatten_append,List.flatten_cons]
 have hl:(rs.take j).flatten.length=sz*j:=by
  rw [flat_length (h.take j),List.length_take,Nat.min_eq_left (by omega)]
 rw [e,drop_app _ _ _ hl,take_app _ _ _ (h _ (List.getElem_mem hj))]
def per (sz:Nat):Nat:=240 / sz
theorem per_pos {sz:Nat} (h1:1<=sz) (h2:sz<=240):1<=per sz:=by
 unfold per;exact (Nat.one_le_div_iff (by omega)).2 h2
theorem per_mul (sz:Nat):sz*per sz<=240:=Nat.mul_div_le 240 sz
theorem per_next {sz:Nat} (h1:1<=sz):240 < sz*(per sz+1):=by
 unfold per;have:=Nat.lt_mul_div_succ 240 (show 0 < sz by omega);exact this
def pagesFor (p n:Nat):Nat:=(n+p - 1) / p
theorem pagesFor_lt {p n k:Nat} (hp:1<=p):k < pagesFor p n ↔ p*k < n:=by
 unfold pagesFor;rw [Nat.lt_iff_add_one_le,Nat.le_div_iff_mul_le (by omega),Nat.add_mul,Nat.mul_comm k p];omega
def pagesOf (p:Nat) (rs:List Rec):List Pg:=(List.range (pagesFor p rs.length)).map fun k=>((rs.drop (p*k)).take p).flatten
theorem pagesOf_length (p:Nat) (rs:List Rec):(pagesOf p rs).length=pagesFor p rs.length:=by simp [pagesOf]
theorem pagesOf_get {p:Nat} {rs:List Rec} (hp:1<=p) (k:Nat):(pagesOf p rs)[k]? = if p*k < rs.length then some ((rs.drop (p*k)).take p).flatten else none:=by
 by_cases h:p*k < rs.length
 ·rw [if_pos h];have hk:k < (pagesOf p rs).length:=by rw [pagesOf_length];exact (pagesFor_lt hp).2 h
  rw [List.getElem?_eq_getElem hk];simp [pagesOf]
 ·rw [if_neg h];apply List.getElem?_eq_none;rw [pagesOf_length];exact Nat.le_of_not_lt fun hk=>h ((pagesFor_lt hp).1 hk)
theorem page_length {p sz:Nat} {rs:List Rec} (hs:Sized sz rs) (k:Nat):((rs.drop (p*k)).take p).flatten.length=sz*min p (rs.length - p*k):=by
 rw [flat_length ((hs.drop _).take _),List.length_take,List.length_drop]
theorem pagesOf_open {p:Nat} {rs:List Rec} (hp:1<=p) (r:Rec) {k:Nat} (h1:p*k < rs.length) (h2:rs.length < p*k+p):pagesOf p (rs++[r])=setPage (pagesOf p rs) k (((rs.drop (p*k)).take p).flatten++r):=by
 apply List.ext_getElem?;intro i;have hk:k<=(pagesOf p rs).length:=by rw [pagesOf_length];exact Nat.le_of_lt ((pagesFor_lt hp).2 h1)
 rw [setPage_get _ _ _ hk,pagesOf_get hp,pagesOf_get hp,List.length_append,List.length_singleton];by_cases e:i=k
 ·subst e;rw [if_pos rfl,if_pos (by omega),List.drop_append_of_le_length (by omega),List.take_of_length_le (by rw [List.length_append,List.length_drop,List.length_singleton];omega),List.take_of_length_le (by rw [List.length_drop];omega),List.flatten_append];simp
 ·rw [if_neg e];rcases Nat.lt_or_gt_of_ne e with hlt | hgt
  ·have:p*i+p<=p*k:=by rw [<- Nat.mul_succ];exact Nat.mul_le_mul_left _ hlt
   rw [if_pos (by omega),if_pos (by omega),List.drop_append_of_le_length (by omega),List.take_append_of_le_length (by rw [List.length_drop];omega)]
  ·have:p*k+p<=p*i:=by rw [<- Nat.mul_succ];exact Nat.mul_le_mul_left _ hgt
   rw [if_neg (by omega),if_neg (by omega)]
theorem pagesOf_new {p:Nat} {rs:List Rec} (hp:1<=p) (r:Rec) {k:Nat} (h:rs.length=p*k):pagesOf p (rs++[r])=setPage (pagesOf p rs) k r/\(pagesOf p rs).length=k:=by
 have hk:(pagesOf p rs).length=k:=by
  rw [pagesOf_length,h];have a:¬ k < pagesFor p (p*k):=fun e=>by have:=(pagesFor_lt hp).1 e;omega
  rcases Nat.eq_zero_or_pos k with rfl | hk
  ·omega
  ·have b:k - 1 < pagesFor p (p*k):=(pagesFor_lt hp).2 (by
    have:p*(k - 1)+p=p*k:=by rw [<- Nat.mul_succ,show (k - 1).succ=k by omega]
    omega)
   omega
 refine ⟨?_,hk⟩;apply List.ext_getElem?;intro i;rw [setPage_get _ _ _ (by omega),pagesOf_get hp,pagesOf_get hp,List.length_append,List.length_singleton];by_cases e:i=k
 ·subst e;rw [if_pos rfl,if_pos (by omega),List.drop_append_of_le_length (by omega),List.drop_eq_nil_of_le (by omega),List.nil_append,List.take_of_length_le (by simp;omega)];simp
 ·rw [if_neg e];rcases Nat.lt_or_gt_of_ne e with hlt | hgt
  ·have:p*i+p<=p*k:=by rw [<- Nat.mul_succ];exact Nat.mul_le_mul_left _ hlt
   rw [if_pos (by omega),if_pos (by omega),List.drop_append_of_le_length (by omega),List.take_append_of_le_length (by rw [List.length_drop];omega)]
  ·have:p*k+p<=p*i:=by rw [<- Nat.mul_succ];exact Nat.mul_le_mul_left _ hgt
   rw [if_neg (by omega),if_neg (by omega)]
theorem last_page {p n:Nat} (hp:1<=p) (h:0 < n):p*(pagesFor p n - 1) < n/\n<=p*(pagesFor p n - 1)+p/\1<=pagesFor p n:=by
 have h1:0 < pagesFor p n:=(pagesFor_lt hp).2 (by omega);have h2:pagesFor p n - 1 < pagesFor p n:=by omega
 have h3:¬ pagesFor p n < pagesFor p n:=Nat.lt_irrefl _;refine ⟨(pagesFor_lt hp).1 h2,?_,h1⟩;rw [pagesFor_lt hp] at h3;have:p*(pagesFor p n - 1)+p=p*pagesFor p n:=by rw [<- Nat.mul_succ,show (pagesFor p n - 1).succ=pagesFor p n by omega]
 omega
theorem page_rec {p sz:Nat} {rs:List Rec} (hs:Sized sz rs) (hp:1<=p) {i:Nat} (hi:i < rs.length) :
 p*(i / p) < rs.length/\((((rs.drop (p*(i / p))).take p).flatten).drop (sz*(i % p))).take sz=rs[i]/\sz*(i % p)+sz<=(((rs.drop (p*(i / p))).take p).flatten).length:=by
 have h1:=Nat.div_add_mod i p;have h2:=Nat.mod_lt i (show 0 < p by omega);have hl:i % p < ((rs.drop (p*(i / p))).take p).length:=by rw [List.length_take,List.length_drop];omega
 refine ⟨by omega,?_,?_⟩
 ·rw [flat_get ((hs.drop _).take _) hl];simp only [List.getElem_take,List.getElem_drop];congr 1
 ·rw [flat_length ((hs.drop _).take _)];have:=Nat.mul_le_mul_left sz (show i % p+1<=_ from hl);rw [Nat.mul_succ] at this;exact this
structure Edg where
 t:UInt32
 h:UInt32
 x:UInt64
 m:UInt32
theorem Edg.ext' {a b:Edg} (h1:a.t=b.t) (h2:a.h=b.h) (h3:a.x=b.x) (h4:a.m=b.m):a=b:=by
 cases a;cases b;simp only at h1 h2 h3 h4;rw [h1,h2,h3,h4]
def pk (by':Bool) (e:Edg):Nat:=if by' then e.h.toNat*4294967296+e.t.toNat else e.t.toNat*4294967296+e.h.toNat
def rk (e:Edg):Nat:=e.x.toNat*4294967296+(e.m.toNat+1) % 4294967296
def same (a b:Edg):Prop:=a.t=b.t/\a.h=b.h
theorem pk_same {b:Bool} {x y:Edg}:pk b x=pk b y ↔ same x y:=by
 have h1:=x.t.toNat_lt;have h2:=x.h.toNat_lt;have h3:=y.t.toNat_lt;have h4:=y.h.toNat_lt;unfold pk same;rw [<- UInt32.toNat_inj,<- UInt32.toNat_inj];cases b
 ·simp only [Bool.false_eq_true,if_false];omega
 ·simp only [if_true];omega
theorem rk_inj {x y:Edg} (h:rk x=rk y):x.x=y.x/\x.m=y.m:=by
 have h1:=x.m.toNat_lt;have h2:=y.m.toNat_lt;unfold rk at h;rw [<- UInt64.toNat_inj,<- UInt32.toNat_inj];omega
def Ahead (b:Bool) (x y:Edg):Prop:=pk b x < pk b y\/pk b x=pk b y/\rk x<=rk y
theorem Ahead.trans {b:Bool} {x y z:Edg} (h:Ahead b x y) (k:Ahead b y z):Ahead b x z:=by unfold Ahead at *;omega
theorem Ahead.total (b:Bool) (x y:Edg):Ahead b x y\/Ahead b y x:=by unfold Ahead;omega
structure Best (b:Bool) (l out:List Edg):Prop where
 rise:out.Pairwise (fun x y=>pk b x < pk b y)
 mem:∀ e∈out,e∈l/\e.t≠e.h/\∀ x∈l,same x e->rk e<=rk x
 all:∀ x∈l,x.t≠x.h->∃ e∈out,same e x
theorem rise_ext {α:Type} {f:α->Nat} {a c:List α} (ha:a.Pairwise (fun x y=>f x < f y)) (hc:c.Pairwise (fun x y=>f x < f y)) (h:∀ x,x∈a ↔ x∈c):a=c:=by
 induction a generalizing c with
 | nil=>
   cases c with
   | nil=>rfl
   | cons y c=>have:=(h y).2 (by simp);cases this
 | cons x a ih=>
   cases c with
   | nil=>have:=(h x).1 (by simp);cases this
   | cons y c=>
     rw [List.pairwise_cons] at ha hc;have hxy:x=y:=by
      rcases List.mem_cons.1 ((h x).1 (by simp)) with e | e
      ·exact e
      ·rcases List.mem_cons.1 ((h y).2 (by simp)) with e' | e'
       ·exact e'.symm
       ·have h1:=hc.1 x e;have h2:=ha.1 y e';omega
     subst hxy;congr 1;refine ih ha.2 hc.2 fun z=>⟨fun hz=>?_,fun hz=>?_⟩
     ·rcases List.mem_cons.1 ((h z).1 (by simp [hz])) with e | e
      ·have:=ha.1 z hz;rw [e] at this;omega
      ·exact e
     ·rcases List.mem_cons.1 ((h z).2 (by simp [hz])) with e | e
      ·have:=hc.1 z hz;rw [e] at this;omega
      ·exact e
theorem same.symm {x y:Edg} (h:same x y):same y x:=⟨h.1.symm,h.2.symm⟩
theorem same.trans {x y z:Edg} (h:same x y) (k:same y z):same x z:=⟨h.1.trans k.1,h.2.trans k.2⟩
theorem same.loop {x y:Edg} (h:same x y) (hx:x.t≠x.h):y.t≠y.h:=by rw [<- h.1,<- h.2];exact hx
theorem Best.sub {b:Bool} {l a c:List Edg} (ha:Best b l a) (hc:Best b l c):∀ x∈a,x∈c:=fun x hx=>by
 obtain ⟨h1,h2,h3⟩:=ha.mem x hx;obtain ⟨e,he,hs⟩:=hc.all x h1 h2;obtain ⟨g1,g2,g3⟩:=hc.mem e he;have h4:=h3 e g1 hs;have h5:=g3 x h1 hs.symm;have h6:=rk_inj (Nat.le_antisymm h4 h5);rw [Edg.ext' hs.symm.1 hs.symm.2 h6.1 h6.2];exact he
theorem Best.unique {b:Bool} {l a c:List Edg} (ha:Best b l a) (hc:Best b l c):a=c:=rise_ext ha.rise hc.rise fun x=>⟨ha.sub hc x,hc.sub ha x⟩
theorem Best.congr {b:Bool} {l l' out:List Edg} (h:Best b l out) (hm:∀ x,x∈l ↔ x∈l'):Best b l' out:=
 ⟨h.rise,fun e he=>⟨(hm e).1 (h.mem e he).1,(h.mem e he).2.1,fun x hx=>(h.mem e he).2.2 x ((hm x).2 hx)⟩,fun x hx=>h.all x ((hm x).2 hx)⟩
theorem Best.nil (b:Bool):Best b [] []:=⟨List.Pairwise.nil,(fun _ h=>nomatch h),(fun _ h=>nomatch h)⟩
theorem Best.trans {b b':Bool} {l m out:List Edg} (h:Best b' l m) (k:Best b m out):Best b l out:=
 ⟨k.rise,fun e he=>by
  obtain ⟨h1,h2,h3⟩:=k.mem e he;refine ⟨(h.mem e h1).1,h2,fun x hx hs=>?_⟩;exact (h.mem e h1).2.2 x hx hs,fun x hx hn=>by
  obtain ⟨e,he,hs⟩:=h.all x hx hn;obtain ⟨e',he',hs'⟩:=k.all e he (hs.symm.loop hn);exact ⟨e',he',hs'.trans hs⟩⟩
theorem Best.both {b:Bool} {l1 l2 m1 m2 out:List Edg} (h1:Best b l1 m1) (h2:Best b l2 m2) (k:Best b (m1++m2) out):Best b (l1++l2) out:=by
 refine ⟨k.rise,fun e he=>?_,fun x hx hn=>?_⟩
 ·obtain ⟨g1,g2,g3⟩:=k.mem e he;refine ⟨?_,g2,fun x hx hs=>?_⟩
  ·rcases List.mem_append.1 g1 with g | g
   ·exact List.mem_append_left _ (h1.mem e g).1
   ·exact List.mem_append_right _ (h2.mem e g).1
  ·have hn:x.t≠x.h:=hs.symm.loop g2;rcases List.mem_append.1 hx with hx | hx
   ·obtain ⟨y,hy,hys⟩:=h1.all x hx hn;have:=(h1.mem y hy).2.2 x hx hys.symm;have:=g3 y (List.mem_append_left _ hy) (hys.trans hs);omega
   ·obtain ⟨y,hy,hys⟩:=h2.all x hx hn;have:=(h2.mem y hy).2.2 x hx hys.symm;have:=g3 y (List.mem_append_right _ hy) (hys.trans hs);omega
 ·rcases List.mem_append.1 hx with hx | hx
  ·obtain ⟨y,hy,hys⟩:=h1.all x hx hn;obtain ⟨e,he,hs⟩:=k.all y (List.mem_append_left _ hy) (hys.symm.loop hn);exact ⟨e,he,hs.trans hys⟩
  ·obtain ⟨y,hy,hys⟩:=h2.all x hx hn;obtain ⟨e,he,hs⟩:=k.all y (List.mem_append_right _ hy) (hys.symm.loop hn);exact ⟨e,he,hs.trans hys⟩
def skips (out:List Edg) (e:Edg):Prop:=e.t=e.h\/∃ y,out.getLast? = some y/\same y e
open Classical in
noncomputable def put1 (out:List Edg) (e:Edg):List Edg:=if skips out e then out else out++[e]
noncomputable def putL (xs:List Edg):List Edg:=xs.foldl put1 []
theorem putL_snoc (xs:List Edg) (e:Edg):putL (xs++[e])=put1 (putL xs) e:=by unfold putL;rw [List.foldl_append];rfl
theorem put1_skip {out:List Edg} {e:Edg} (h:skips out e):put1 out e=out:=by unfold put1;rw [if_pos h]
theorem put1_lay {out:List Edg} {e:Edg} (h:¬ skips out e):put1 out e=out++[e]:=by unfold put1;rw [if_neg h]
theorem put1_length (out:List Edg) (e:Edg):(put1 out e).length<=out.length+1:=by
 by_cases h:skips out e
 ·rw [put1_skip h];omega
 ·rw [put1_lay h];simp
theorem putL_length (xs:List Edg):(putL xs).length<=xs.length:=by
 suffices h:∀ (xs ys:List Edg),(xs.foldl put1 ys).length<=ys.length+xs.length by simpa [putL] using h xs []
 intro xs;induction xs with
 | nil=>intro ys;simp
 | cons x xs ih=>
   intro ys;rw [List.foldl_cons,List.length_cons];have h1:=ih (put1 ys x);have h2:=put1_length ys x;omega
theorem last_of {α:Type} {l:List α} {x:α} (h:l.getLast? = some x):∃ r,l=r++[x]:=by
 rw [List.getLast?_eq_some_iff] at h;exact h
theorem Best.put {b:Bool} {xs out:List Edg} {e:Edg} (h:Best b xs out) (hs:∀ x∈xs,Ahead b x e):Best b (xs++[e]) (put1 out e):=by
 by_cases hsk:skips out e
 ·rw [put1_skip hsk];refine ⟨h.rise,fun o ho=>⟨List.mem_append_left _ (h.mem o ho).1,(h.mem o ho).2.1,fun x hx hxo=>?_⟩,fun x hx hn=>?_⟩
  ·rcases List.mem_append.1 hx with hx | hx
   ·exact (h.mem o ho).2.2 x hx hxo
   ·rw [List.mem_singleton.1 hx] at hxo ⊢;have h1:=hs o (h.mem o ho).1;have h2:pk b e=pk b o:=pk_same.2 hxo;unfold Ahead at h1;omega
  ·rcases List.mem_append.1 hx with hx | hx
   ·exact h.all x hx hn
   ·rw [List.mem_singleton.1 hx] at hn ⊢;rcases hsk with hl | ⟨y,hy,hye⟩
    ·exact absurd hl hn
    ·obtain ⟨r,hr⟩:=last_of hy;exact ⟨y,by rw [hr];simp,hye⟩
 ·rw [put1_lay hsk];have hn:e.t≠e.h:=fun h=>hsk (.inl h);have hgt:∀ o∈out,pk b o < pk b e:=fun o ho=>by
   have h1:=hs o (h.mem o ho).1;rcases Nat.lt_or_ge (pk b o) (pk b e) with hlt | hge
   ·exact hlt
   ·exfalso
    have h2:pk b o=pk b e:=by unfold Ahead at h1;omega
    rcases List.eq_nil_or_concat out with rfl | ⟨r,y,hr⟩
    ·cases ho
    ·have hy:out.getLast? = some y:=by rw [hr];simp
     have hyo:pk b y<=pk b e:=by
      have h3:=hs y (h.mem y (by rw [hr];simp)).1;unfold Ahead at h3;omega
     have hoy:o=y\/pk b o < pk b y:=by
      have h4:=h.rise;rw [hr,List.concat_eq_append,List.pairwise_append] at h4;rw [hr,List.concat_eq_append] at ho;rcases List.mem_append.1 ho with ho | ho
      ·exact .inr (h4.2.2 o ho y (by simp))
      ·exact .inl (List.mem_singleton.1 ho)
     rcases hoy with rfl | hoy
     ·exact hsk (.inr ⟨o,hy,pk_same.1 h2⟩)
     ·omega
  refine ⟨?_,fun o ho=>?_,fun x hx hxn=>?_⟩
  ·rw [List.pairwise_append];exact ⟨h.rise,List.pairwise_singleton _ _,fun o ho z hz=>by rw [List.mem_singleton.1 hz];exact hgt o ho⟩
  ·rcases List.mem_append.1 ho with ho | ho
   ·refine ⟨List.mem_append_left _ (h.mem o ho).1,(h.mem o ho).2.1,fun x hx hxo=>?_⟩;rcases List.mem_append.1 hx with hx | hx
    ·exact (h.mem o ho).2.2 x hx hxo
    ·rw [List.mem_singleton.1 hx] at hxo;have:=pk_same (b:=b).2 hxo;have:=hgt o ho;omega
   ·rw [List.mem_singleton.1 ho];refine ⟨by simp,hn,fun x hx hxo=>?_⟩;rcases List.mem_append.1 hx with hx | hx
    ·obtain ⟨o',ho',hs'⟩:=h.all x hx (hxo.symm.loop hn);have h1:=hgt o' ho';have h2:=pk_same (b:=b).2 (hs'.trans hxo);omega
    ·rw [List.mem_singleton.1 hx];exact Nat.le_refl _
  ·rcases List.mem_append.1 hx with hx | hx
   ·obtain ⟨o,ho,hos⟩:=h.all x hx hxn;exact ⟨o,List.mem_append_left _ ho,hos⟩
   ·rw [List.mem_singleton.1 hx];exact ⟨e,by simp,rfl,rfl⟩
theorem best_putL {b:Bool} {xs:List Edg} (h:xs.Pairwise (Ahead b)):Best b xs (putL xs):=by
 suffices g:∀ (n:Nat) (xs:List Edg),xs.length=n->xs.Pairwise (Ahead b)->Best b xs (putL xs) from g _ xs rfl h
 intro n;induction n with
 | zero=>
   intro xs hl _;obtain rfl:=List.eq_nil_of_length_eq_zero hl;exact Best.nil b
 | succ n ih=>
   intro xs hl hp;rcases List.eq_nil_or_concat xs with rfl | ⟨r,y,hr⟩
   ·simp at hl
   ·rw [List.concat_eq_append] at hr;subst hr;rw [putL_snoc];rw [List.pairwise_append] at hp;exact (ih r (by simpa using hl) hp.1).put fun x hx=>hp.2.2 x hx y (by simp)
noncomputable def bestOf (b:Bool) (l:List Edg):List Edg:=open Classical in putL (l.mergeSort (fun x y=>decide (Ahead b x y)))
theorem best_bestOf (b:Bool) (l:List Edg):Best b l (bestOf b l):=by
 unfold bestOf;refine (best_putL ?_).congr fun x=>List.mem_mergeSort;have:=List.pairwise_mergeSort (le:=fun x y=>@decide (Ahead b x y) (Classical.propDecidable _)) (fun x y z h1 h2=>by
  simp only [decide_eq_true_eq] at h1 h2 ⊢;exact h1.trans h2) (fun x y=>by
  simp only [Bool.or_eq_true,decide_eq_true_eq];exact Ahead.total b x y) l
 refine this.imp fun {x y} h=>?_;simpa using h
theorem Best.eq {b:Bool} {l out:List Edg} (h:Best b l out):out=bestOf b l:=h.unique (best_bestOf b l)
end
section
open Go.RowKit Go.Maps Go.MapKept
open Go.ChangeMaps (setBlock heap_setBlock_same heap_setBlock_other)
abbrev Plc:=Value × Frm
def frmCells (v:Value) (f:Frm):List Value:=[.bool f.full, .string f.name, .int .i64 (f.k:Int),v, .int .i64 0, .bool f.dirty, .bool f.used]
def rowOf:List Plc->List Value
 | []=>[]
 | p::l=>frmCells p.1 p.2++rowOf l
theorem rowOf_length (l:List Plc):(rowOf l).length=7*l.length:=by
 induction l with
 | nil=>rfl
 | cons p l ih=>rw [rowOf,List.length_append,ih,List.length_cons];simp [frmCells];omega
theorem rowOf_get {l:List Plc} {i:Nat} {p:Plc} (h:l[i]? = some p) {j:Nat} (hj:j < 7):(rowOf l)[7*i+j]? = (frmCells p.1 p.2)[j]? := by
 induction l generalizing i with
 | nil=>cases h
 | cons q l ih=>
   rw [rowOf];cases i with
   | zero=>
     cases h;rw [List.getElem?_append_left (by simp [frmCells];omega)];simp
   | succ i=>
     rw [List.getElem?_append_right (by simp [frmCells];omega),<- ih (i:=i) (by simpa using h)];congr 1;simp [frmCells];omega
theorem rowOf_set {l:List Plc} {i:Nat} {p q:Plc} (h:l[i]? = some p) {j:Nat} (hj:j < 7) {v:Value} (hv:(frmCells p.1 p.2).set j v=frmCells q.1 q.2):(rowOf l).set (7*i+j) v=rowOf (l.set i q):=by
 induction l generalizing i with
 | nil=>cases h
 | cons r l ih=>
   cases i with
   | zero=>
     cases h;rw [rowOf,List.set_cons_zero,rowOf,List.set_append_left _ _ (by simp [frmCells];omega)];congr 1;simpa using hv
   | succ i=>
     rw [rowOf,List.set_cons_succ,rowOf,<- ih (i:=i) (by simpa using h),List.set_append_right _ _ (by simp [frmCells];omega)];congr 2;simp [frmCells];omega
theorem take_app' {α:Type} (a b:List α) (n:Nat) (h:a.length=n):(a++b).take n=a:=by rw [<- h];exact List.take_left
theorem cells_setCells {b:Nat} {t:TypeId} (vs:List Value):∀ {w:World} {o:Nat} {cs:List Value},w.heap[b]? = some (.cells cs.toArray t)->o+vs.length<=cs.length ->
 (w.setCells b o vs).heap[b]? = some (.cells (cs.take o++(vs++cs.drop (o+vs.length))).toArray t):=by
 induction vs with
 | nil=>intro w o cs h _;simp [World.setCells,h]
 | cons v vs ih=>
   intro w o cs h ho;rw [List.length_cons] at ho;have h1:=cells_set h o v;rw [List.setIfInBounds_toArray] at h1;rw [World.setCells,ih h1 (by rw [List.length_set];omega)];congr 3;have hset:cs.set o v=cs.take o++v::cs.drop (o+1):=List.set_eq_take_append_cons_drop.trans (by rw [if_pos (by omega)]);have e1:(cs.set o v).take (o+1)=cs.take o++[v]:=by
    rw [hset,show cs.take o++v::cs.drop (o+1)=(cs.take o++[v])++cs.drop (o+1) by simp];exact take_app' _ _ _ (by simp;omega)
   have e2:(cs.set o v).drop (o+1+vs.length)=cs.drop (o+(vs.length+1)):=by
    rw [List.drop_set_of_lt (by omega)];congr 1;omega
   rw [e1,e2,List.append_assoc];rfl
theorem rowOf_split {l:List Plc} {i:Nat} (h:i < l.length) (q:Plc):(rowOf l).take (7*i)++(frmCells q.1 q.2++(rowOf l).drop (7*i+7))=rowOf (l.set i q):=by
 induction l generalizing i with
 | nil=>simp at h
 | cons r l ih=>
   have h7:(frmCells r.1 r.2).length=7:=rfl;cases i with
   | zero=>
     have t2:(frmCells r.1 r.2++rowOf l).drop (7*0+7)=rowOf l:=by
      rw [List.drop_append,List.drop_eq_nil_of_le (by omega),h7];rfl
     rw [rowOf,List.set_cons_zero,rowOf,t2];rfl
   | succ i=>
     have t1:(frmCells r.1 r.2++rowOf l).take (7*(i+1))=frmCells r.1 r.2++(rowOf l).take (7*i):=by
      rw [List.take_append,List.take_of_length_le (by omega),h7,show 7*(i+1) - 7=7*i by omega]
     have t2:(frmCells r.1 r.2++rowOf l).drop (7*(i+1)+7)=(rowOf l).drop (7*i+7):=by
      rw [List.drop_append,List.drop_eq_nil_of_le (by omega),h7,List.nil_append,show 7*(i+1)+7 - 7=7*i+7 by omega]
     rw [rowOf,List.set_cons_succ,rowOf,<- ih (i:=i) (by simpa using h),t1,t2,List.append_assoc]
section
variable {w w':World} {fb:Nat} {l:List Plc}
def RowAt (w:World) (fb:Nat) (l:List Plc):Prop:=∃ t,w.heap[fb]? = some (.cells (rowOf l).toArray t)
theorem RowAt.range (h:RowAt w fb l) {i:Nat} {p:Plc} (hi:l[i]? = some p):w.rangeAt fb (7*i) (frmCells p.1 p.2):=fun j v hv=>by
 obtain ⟨t,h⟩:=h;have hj:j < 7:=lt_of_get hv;rw [cells_cell h,List.getElem?_toArray,rowOf_get hi hj];exact hv
theorem RowAt.cell (h:RowAt w fb l) {i:Nat} {p:Plc} (hi:l[i]? = some p) {j:Nat} {v:Value} (hv:(frmCells p.1 p.2)[j]? = some v):w.cell? ⟨fb,7*i+j,none⟩=some v:=h.range hi j v hv
theorem RowAt.free (h:RowAt w fb l) (i:Nat):w.frozen? ⟨fb,i,none⟩=false:=by
 obtain ⟨t,h⟩:=h;exact cells_frozen h i
theorem RowAt.lt (h:RowAt w fb l):fb < w.heap.size:=by
 obtain ⟨t,h⟩:=h;exact (Array.getElem?_eq_some_iff.1 h).1
theorem RowAt.set (h:RowAt w fb l) {i:Nat} {p q:Plc} (hi:l[i]? = some p) {j:Nat} (hj:j < 7) {v:Value} (hv:(frmCells p.1 p.2).set j v=frmCells q.1 q.2):RowAt (w.setCell ⟨fb,7*i+j,none⟩ v) fb (l.set i q):=by
 obtain ⟨t,h⟩:=h;refine ⟨t,?_⟩;rw [cells_set h,List.setIfInBounds_toArray,rowOf_set hi hj hv]
theorem RowAt.setAll (h:RowAt w fb l) {i:Nat} (hi:i < l.length) (q:Plc):RowAt (w.setCells fb (7*i) (frmCells q.1 q.2)) fb (l.set i q):=by
 obtain ⟨t,h⟩:=h;refine ⟨t,?_⟩;rw [cells_setCells _ h (by rw [rowOf_length];show 7*i+7<=_;omega)];congr 3;exact rowOf_split hi q
theorem RowAt.kept {S:Nat->Prop} (h:RowAt w fb l) (ht:Turn S w w') (hs:¬ S fb):RowAt w' fb l:=by
 obtain ⟨t,h⟩:=h;exact ⟨t,ht.heap h hs⟩
end
theorem Turn.setCells {S:Nat->Prop} {w w':World} (h:Turn S w w') (b o:Nat) (vs:List Value) (hb:S b\/w.heap.size<=b):Turn S w (w'.setCells b o vs):=by
 induction vs generalizing w' o with
 | nil=>exact h
 | cons v vs ih=>exact ih (h.setCell ⟨b,o,none⟩ v hb) (o+1)
abbrev WhereMap:=MapAt Tryz.prog 170 nameNum (fun i:Nat=>.int .i64 (i:Int))
def IsWhere (fs:List Frm) (m:List ((Name × Nat) × Nat)):Prop:=∀ n k i,mget m (n,k)=some i ↔ ∃ fr,fs[i]? = some fr/\fr.full=true/\fr.name=n/\fr.k=k
theorem row_pkey:(170:TypeId) < Tryz.prog.types.size:=of_decide_eq_true (by kernel_rfl)
theorem wide_pkey:(match Tryz.prog.underlying 170 with | some (.array _ _) | some (.struct _)=>true | _=>false)=true:=by rw [Tryz.underlying170]
set_option maxRecDepth 100000 in
theorem keyed_pkey:Keyed Tryz.prog 170:=Keyed.of_law (deep_law_laid Tryz.laidOut' (m:=2) (by omega) row_pkey (by kernel_rfl) wide_pkey)
set_option maxRecDepth 100000 in
theorem good_pkey {s:ByteArray} {n:Nat} (h:s.size<=maxLen) (hn:n < 9223372036854775808):Good Tryz.prog 170 (nameNum (s,n)):=by
 have h1:Tryz.prog.keyType 170=true:=by kernel_rfl
 have h2:Tryz.prog.cellsOf 170=2:=by kernel_rfl
 have h3:Tryz.prog.cellsOf 9=1:=by kernel_rfl
 have h4:Tryz.prog.cellsOf 3=1:=by kernel_rfl
 have h5:(Lit.int .i64 (n:Int)).wf=true:=by
  have:(Lit.int .i64 (n:Int)).wf=(decide (-9223372036854775808<=(n:Int)) && decide ((n:Int)<=9223372036854775807)):=by rfl
  rw [this];simp;omega
 have hk:∀ d,Tryz.prog.keyLits (d+2) 170 [.string s, .int .i64 (n:Int)]=some [.string s.data.toList, .int .i64 (n:Int)]:=by
  intro d;simp [Program.keyLits,Tryz.underlying170,Tryz.underlying9,Tryz.underlying3,h2,h3,h4,h,h5]
 unfold Good nameNum keyOf;rw [Tryz.underlying170];simp only [h1,Value.formed,Tryz.underlying170,h2];have hk':Tryz.prog.keyLits (Tryz.prog.types.size+1) 170 (Value.agg #[.string s, .int .i64 (n:Int)]).cells.toList=some [.string s.data.toList, .int .i64 (n:Int)]:=hk (Tryz.prog.types.size - 1);rw [hk'];exact ⟨_,rfl⟩
def ofPool (c:Nat):Prop:=c < 10
theorem ofDisk_pool {o:Owner} {x:Nat} (h:o.In ofDisk x):o.In ofPool x:=by
 obtain ⟨t,h1,h2⟩:=h;have h2:t.1 < 6:=h2;exact ⟨t,h1,show t.1 < 10 by omega⟩
def PoolHead (w:World) (pb db fb mb n hand mf:Nat):Prop:=
 ∃ t,w.heap[pb]? = some (.cells #[ptrTo db, .slice (some ⟨fb,0,none⟩) n n, .map (some mb), .int .i64 (hand:Int), .int .i64 (mf:Int), .int .i64 0] t)
structure PoolIn (w:World) (pb db fb mb:Nat) (o:Owner) (l:List Plc) (hand mf:Nat) (d:Dsk):Prop where
 disk:DiskAt w db o d
 opb:o pb=some (6,0)
 ofb:o fb=some (7,0)
 omb:o mb=some (8,0)
 head:PoolHead w pb db fb mb l.length hand mf
 row:RowAt w fb l
 wher:∃ m,WhereMap w mb m/\IsWhere (l.map (·.2)) m
 each:∀ p∈l,w.ownsRow 0 5 1 p.1 p.2.bytes.length (p.2.bytes.map bv)/\∀ b,p.1.ownBlock=some b->o b=some (9,0)
 hand:hand < l.length
 most:l.length<=4096
 full:mf<=l.length
def PoolAt (w:World) (pb db n:Nat) (o:Owner) (d:Dsk) (L:Logic):Prop:=
 ∃ fb mb l hand mf,PoolIn w pb db fb mb o l hand mf d/\l.length=n/\Sound d (l.map (·.2)) L
section
variable {S:Nat->Prop} {w w':World} {o o':Owner} {pb db fb mb:Nat} {l:List Plc} {hand mf:Nat} {d d':Dsk} {L:Logic}
theorem PoolHead.kept {n:Nat} (h:PoolHead w pb db fb mb n hand mf) (ht:Turn S w w') (hs:¬ S pb):PoolHead w' pb db fb mb n hand mf:=by
 obtain ⟨t,h⟩:=h;exact ⟨t,ht.heap h hs⟩
theorem PoolHead.cells {n:Nat} (h:PoolHead w pb db fb mb n hand mf) :
 (w.cell? ⟨pb,0,none⟩=some (ptrTo db)/\w.cell? ⟨pb,1,none⟩=some (.slice (some ⟨fb,0,none⟩) n n)/\w.cell? ⟨pb,2,none⟩=some (.map (some mb))/\w.cell? ⟨pb,3,none⟩=some (.int .i64 (hand:Int))/\w.cell? ⟨pb,4,none⟩=some (.int .i64 (mf:Int))/\w.cell? ⟨pb,5,none⟩=some (.int .i64 0)) /\
   w.frozen? ⟨pb,3,none⟩=false/\w.frozen? ⟨pb,4,none⟩=false/\w.frozen? ⟨pb,5,none⟩=false:=by
 obtain ⟨t,h⟩:=h;refine ⟨⟨?_,?_,?_,?_,?_,?_⟩,cells_frozen h _,cells_frozen h _,cells_frozen h _⟩<;>rw [cells_cell h]<;>rfl
theorem PoolHead.setHand {n:Nat} (h:PoolHead w pb db fb mb n hand mf) (a:Nat):PoolHead (w.setCell ⟨pb,3,none⟩ (.int .i64 (a:Int))) pb db fb mb n a mf:=by
 obtain ⟨t,h⟩:=h;exact ⟨t,by rw [cells_set h];rfl⟩
theorem PoolHead.setFull {n:Nat} (h:PoolHead w pb db fb mb n hand mf) (a:Nat):PoolHead (w.setCell ⟨pb,4,none⟩ (.int .i64 (a:Int))) pb db fb mb n hand a:=by
 obtain ⟨t,h⟩:=h;exact ⟨t,by rw [cells_set h];rfl⟩
theorem PoolHead.setPins {n:Nat} (h:PoolHead w pb db fb mb n hand mf):PoolHead (w.setCell ⟨pb,5,none⟩ (.int .i64 0)) pb db fb mb n hand mf:=by
 obtain ⟨t,h⟩:=h;exact ⟨t,by rw [cells_set h];rfl⟩
theorem PoolHead.lt {n:Nat} (h:PoolHead w pb db fb mb n hand mf):pb < w.heap.size:=by
 obtain ⟨t,h⟩:=h;exact (Array.getElem?_eq_some_iff.1 h).1
theorem PoolIn.owned (h:PoolIn w pb db fb mb o l hand mf d):∀ x t,o x=some t->x < w.heap.size:=by
 obtain ⟨_,_,_,hd⟩:=h.disk;exact hd.owned
theorem PoolIn.kept (h:PoolIn w pb db fb mb o l hand mf d) (ht:Turn S w w') (hs:∀ x,o.In ofPool x->¬ S x) (ho:∀ x t,o x=some t->o' x=some t) (hb:∀ x t,o' x=some t->x < w'.heap.size):PoolIn w' pb db fb mb o' l hand mf d where
 disk:=h.disk.kept ht (fun x t hx hl=>hs x ⟨t,hx,show t.1 < 10 by omega⟩) ho hb
 opb:=ho _ _ h.opb
 ofb:=ho _ _ h.ofb
 omb:=ho _ _ h.omb
 head:=h.head.kept ht (hs _ ⟨_,h.opb,show 6 < 10 by decide⟩)
 row:=h.row.kept ht (hs _ ⟨_,h.ofb,show 7 < 10 by decide⟩)
 wher:=by
  obtain ⟨m,h1,h2⟩:=h.wher;exact ⟨m,h1.turn ht (hs _ ⟨_,h.omb,show 8 < 10 by decide⟩),h2⟩
 each:=fun p hp=>⟨ht.ownsRow (h.each p hp).1 (fun b hb=>hs b ⟨_,(h.each p hp).2 b hb,show 9 < 10 by decide⟩),fun b hb=>ho _ _ ((h.each p hp).2 b hb)⟩
 hand:=h.hand
 most:=h.most
 full:=h.full
theorem PoolAt.kept {n:Nat} (h:PoolAt w pb db n o d L) (ht:Turn S w w') (hs:∀ x,o.In ofPool x->¬ S x) (ho:∀ x t,o x=some t->o' x=some t) (hb:∀ x t,o' x=some t->x < w'.heap.size):PoolAt w' pb db n o' d L:=by
 obtain ⟨fb,mb,l,hand,mf,h,hl,g⟩:=h;exact ⟨fb,mb,l,hand,mf,h.kept ht hs ho hb,hl,g⟩
theorem PoolIn.below (h:PoolIn w pb db fb mb o l hand mf d) (hb:Below w.heap.size w w'):PoolIn w' pb db fb mb o l hand mf d:=
 h.kept (S:=fun _=>False) (Turn.ofBelow hb) (fun _ _ h=>h) (fun _ _ h=>h) (fun x t hx=>Nat.lt_of_lt_of_le (h.owned x t hx) hb.size)
theorem PoolAt.below {n:Nat} (h:PoolAt w pb db n o d L) (hb:Below w.heap.size w w'):PoolAt w' pb db n o d L:=by
 obtain ⟨fb,mb,l,hand,mf,h,hl,g⟩:=h;exact ⟨fb,mb,l,hand,mf,h.below hb,hl,g⟩
theorem OGrow.keep {n:Nat} (hg:OGrow n o o') (hb:∀ x t,o x=some t->x < n):∀ x t,o x=some t->o' x=some t:=fun x t hx=>by rw [hg x (hb x t hx)];exact hx
theorem PoolIn.reDisk (h:PoolIn w pb db fb mb o l hand mf d) (hd:DiskAt w' db o' d') (ht:Turn (o.In ofDisk) w w') (hg:OGrow w.heap.size o o'):PoolIn w' pb db fb mb o' l hand mf d' where
 disk:=hd
 opb:=hg.keep h.owned _ _ h.opb
 ofb:=hg.keep h.owned _ _ h.ofb
 omb:=hg.keep h.owned _ _ h.omb
 head:=h.head.kept ht (Owner.not_in h.opb (show ¬ 6 < 6 by decide))
 row:=h.row.kept ht (Owner.not_in h.ofb (show ¬ 7 < 6 by decide))
 wher:=by
  obtain ⟨m,h1,h2⟩:=h.wher;exact ⟨m,h1.turn ht (Owner.not_in h.omb (show ¬ 8 < 6 by decide)),h2⟩
 each:=fun p hp=>⟨ht.ownsRow (h.each p hp).1 (fun b hb=>Owner.not_in ((h.each p hp).2 b hb) (show ¬ 9 < 6 by decide)),fun b hb=>hg.keep h.owned _ _ ((h.each p hp).2 b hb)⟩
 hand:=h.hand
 most:=h.most
 full:=h.full
theorem PoolIn.reHead (h:PoolIn w pb db fb mb o l hand mf d) (ht:Turn (·=pb) w w') {a c:Nat} (hh:PoolHead w' pb db fb mb l.length a c) (ha:a < l.length) (hc:c<=l.length):PoolIn w' pb db fb mb o l a c d where
 disk:=h.disk.kept ht (fun x t hx hl=>Owner.ne hx h.opb (fun e=>by rw [e] at hl;exact absurd hl (by decide))) (fun _ _ h=>h) (fun x t hx=>Nat.lt_of_lt_of_le (h.owned x t hx) ht.size)
 opb:=h.opb
 ofb:=h.ofb
 omb:=h.omb
 head:=hh
 row:=h.row.kept ht (Owner.ne h.ofb h.opb (by decide))
 wher:=by
  obtain ⟨m,h1,h2⟩:=h.wher;exact ⟨m,h1.turn ht (Owner.ne h.omb h.opb (by decide)),h2⟩
 each:=fun p hp=>⟨ht.ownsRow (h.each p hp).1 (fun b hb=>Owner.ne ((h.each p hp).2 b hb) h.opb (by decide)),(h.each p hp).2⟩
 hand:=ha
 most:=h.most
 full:=hc
theorem PoolIn.reRow (h:PoolIn w pb db fb mb o l hand mf d) (ht:Turn (fun x=>x=fb\/x=mb) w w') {l':List Plc} (hl:l'.length=l.length) (hr:RowAt w' fb l') (ho:∀ x t,o x=some t->o' x=some t) (hb:∀ x t,o' x=some t->x < w'.heap.size)
 (hm:∃ m,WhereMap w' mb m/\IsWhere (l'.map (·.2)) m) (he:∀ p∈l',p∈l\/(w'.ownsRow 0 5 1 p.1 p.2.bytes.length (p.2.bytes.map bv)/\∀ b,p.1.ownBlock=some b->o' b=some (9,0))):PoolIn w' pb db fb mb o' l' hand mf d where
 disk:=h.disk.kept ht (fun x t hx hl e=>by
  rcases e with e | e
  ·exact Owner.ne hx h.ofb (fun e=>by rw [e] at hl;exact absurd hl (by decide)) e
  ·exact Owner.ne hx h.omb (fun e=>by rw [e] at hl;exact absurd hl (by decide)) e) ho hb
 opb:=ho _ _ h.opb
 ofb:=ho _ _ h.ofb
 omb:=ho _ _ h.omb
 head:=by
  rw [hl];exact h.head.kept ht (fun e=>by
   rcases e with e | e
   ·exact Owner.ne h.opb h.ofb (by decide) e
   ·exact Owner.ne h.opb h.omb (by decide) e)
 row:=hr
 wher:=hm
 each:=fun p hp=>by
  rcases he p hp with hp | hp
  ·refine ⟨ht.ownsRow (h.each p hp).1 (fun b hb e=>?_),fun b hb=>ho _ _ ((h.each p hp).2 b hb)⟩;rcases e with e | e
   ·exact Owner.ne ((h.each p hp).2 b hb) h.ofb (by decide) e
   ·exact Owner.ne ((h.each p hp).2 b hb) h.omb (by decide) e
  ·exact hp
 hand:=by rw [hl];exact h.hand
 most:=by rw [hl];exact h.most
 full:=by rw [hl];exact h.full
theorem Turn.pool (h:Turn (o.In ofDisk) w w'):Turn (o.In ofPool) w w':=h.mono fun _ _ hx=>ofDisk_pool hx
end
end
section
open Go.RowKit Go.Maps Go.MapKept
open Go.ChangeMaps (setBlock heap_setBlock_same heap_setBlock_other)
def PfAt (w:World) (pf db:Nat) (name:Name):Prop:=∃ t,w.heap[pf]? = some (.cells #[ptrTo db, .string name, .int .u32 (tagOf name:Int)] t)
theorem PfAt.cells {w:World} {pf db:Nat} {name:Name} (h:PfAt w pf db name):w.cell? ⟨pf,0,none⟩=some (ptrTo db)/\w.cell? ⟨pf,1,none⟩=some (.string name)/\w.cell? ⟨pf,2,none⟩=some (.int .u32 (tagOf name:Int)):=by
 obtain ⟨t,h⟩:=h;refine ⟨?_,?_,?_⟩<;>rw [cells_cell h]<;>rfl
theorem PfAt.lt {w:World} {pf db:Nat} {name:Name} (h:PfAt w pf db name):pf < w.heap.size:=by
 obtain ⟨t,h⟩:=h;exact (Array.getElem?_eq_some_iff.1 h).1
theorem PfAt.kept {S:Nat->Prop} {w w':World} {pf db:Nat} {name:Name} (h:PfAt w pf db name) (ht:Turn S w w') (hs:¬ S pf):PfAt w' pf db name:=by
 obtain ⟨t,h⟩:=h;exact ⟨t,ht.heap h hs⟩
theorem PfAt.below {w w':World} {pf db:Nat} {name:Name} (h:PfAt w pf db name) (hb:Below w.heap.size w w'):PfAt w' pf db name:=h.kept (S:=fun _=>False) (Turn.ofBelow hb) (fun h=>h)
set_option maxHeartbeats 1000000 in
theorem made_any (db:Nat) (name:Name) (w:World) (hs:name.size<=1000) :
 Calls Tryz.prog 154 #[ptrTo db, .string name] w fun e w'=>∃ pf,e=.returned (ptrTo pf)/\PfAt w' pf db name/\Below w.heap.size w w'/\w.heap.size<=pf:=by
 unfold ptrTo;go_enter Tryz.func154,Tryz.ntmps154
 go_wp2_with fail
 refine (tag_any name _ hs).mono ?_;rintro e w1 ⟨rfl,hb1⟩;go_wp2;go_ret;exact ⟨w1.heap.size,rfl,⟨_,heap_alloc_new _ _⟩,hb1.alloc hb1.size _,hb1.size⟩
def PfPost (w:World) (db:Nat) (name:Name) (c:Nat) (e:Ending) (w':World):Prop:=
 ∃ v,e=.returned (.tuple #[v, .int .i64 (c:Int)])/\Below w.heap.size w w'/\(c=0->∃ pf,v=ptrTo pf/\PfAt w' pf db name/\w.heap.size<=pf)/\(c≠0->v=.pointer none)
def pfOpen (d:Dsk) (name:Name):Nat:=if (d.sizeOf name).2≠0 then (d.sizeOf name).2 else if (d.sizeOf name).1 % 256≠0 then 7 else 0
theorem size_bound {w:World} {db:Nat} {o:Owner} {d:Dsk} (h:DiskAt w db o d) (name:Name):(d.sizeOf name).1<=16777216/\(d.sizeOf name).2<=6:=by
 obtain ⟨mf,ml,l,h⟩:=h;unfold Dsk.sizeOf;split
 ·exact ⟨by simp,by simp⟩
 ·split
  ·exact ⟨by simp,by simp⟩
  ·split
   ·exact ⟨by simp,by simp⟩
   ·rename_i f hf
    refine ⟨?_,by simp⟩;have hg:mget d.files name=(mget l name).map (·.2):=by rw [<- h.strip];exact strip_get
    rw [hg] at hf;cases hm:mget l name with
    | none=>rw [hm] at hf;cases hf
    | some x=>
      rw [hm] at hf;cases hf;exact (h.each _ (mget_mem hm)).most.1
set_option maxRecDepth 100000 in
set_option maxHeartbeats 2000000 in
theorem pfOpen_any {w:World} {db:Nat} {o:Owner} {d:Dsk} (h:DiskAt w db o d) (name:Name) (hs:name.size<=1000) :
 Calls Tryz.prog 180 #[ptrTo db, .string name] w (PfPost w db name (pfOpen d name)):=by
 have H:=Lib.hid h;have hb:=size_bound h name;obtain ⟨hb1,hb2⟩:=hb;have hc:=Lib.hid (show pfOpen d name=if (d.sizeOf name).2≠0 then (d.sizeOf name).2 else if (d.sizeOf name).1 % 256≠0 then 7 else 0 from rfl);clear h;unfold ptrTo;have hcall:=Lib.hid (size_any H.out name hs);generalize (d.sizeOf name).1=n at *;generalize (d.sizeOf name).2=c at *;generalize pfOpen d name=r at *;by_cases h0:c=0
 ·subst h0;by_cases h1:n % 256=0
  ·have h1':(n:Int) % 256=0:=by omega
   have hr:r=0:=by rw [hc.out,if_neg (by simp),if_neg (by simp [h1])]
   have HR:=Lib.hid hr;have H1:=Lib.hid h1;clear hr h1;go_enter Tryz.func180,Tryz.ntmps180
   go_wp2_with fail
   refine hcall.out.mono ?_;rintro e w1 ⟨rfl,hb3⟩;go_wp2_with fail
   refine (made_any db name _ hs).mono ?_;rintro e w2 ⟨pf,rfl,hp,hb4,hl⟩;unfold ptrTo;go_wp2;go_ret2
   rw [HR.out];exact ⟨_,rfl,hb3.trans (hb4.mono hb3.size),fun _=>⟨pf,rfl,hp,Nat.le_trans hb3.size hl⟩,fun h=>absurd rfl h⟩
  ·have h1':¬ (n:Int) % 256=0:=by omega
   have hr:r=7:=by rw [hc.out,if_neg (by simp),if_pos h1]
   have HR:=Lib.hid hr;clear hr h1;go_enter Tryz.func180,Tryz.ntmps180
   go_wp2_with fail
   refine hcall.out.mono ?_;rintro e w1 ⟨rfl,hb3⟩;go_wp2;go_ret2
   rw [HR.out];exact ⟨_,rfl,hb3,fun h=>absurd h (by decide),fun _=>rfl⟩
 ·have h0':¬ (c:Int)=0:=by omega
  have hr:r=c:=by rw [hc.out,if_pos h0]
  have HR:=Lib.hid hr;have H0:=Lib.hid h0;clear hr h0;go_enter Tryz.func180,Tryz.ntmps180
  go_wp2_with fail
  refine hcall.out.mono ?_;rintro e w1 ⟨rfl,hb3⟩;go_wp2;go_ret2
  rw [HR.out];exact ⟨_,rfl,hb3,fun h=>absurd h H0.out,fun _=>rfl⟩
end
end Go.Proofs.YthkkgdpomhhjjaaGreatDoor
