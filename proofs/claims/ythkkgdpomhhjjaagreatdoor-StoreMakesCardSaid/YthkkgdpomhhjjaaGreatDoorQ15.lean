/-
  Joined.
-/
import Derived.Test.YthkkgdpomhhjjaaGreatDoorQ14
import Derived.Laws.BytesArg
import Derived.Laws.OwnMore
namespace Go.Proofs.YthkkgdpomhhjjaaGreatDoor
section
open Go.RowKit Go.Maps Go.MapKept
section
variable {w w':World} {pb db n sb gb gen N ob ib vb v:Nat} {name:Name} {o o':Owner} {d d':Dsk} {L L':Logic}
set_option maxHeartbeats 1000000 in
theorem storeRight_no (k:Int) (hk:k < 0\/1048576 < k) (w:World):Calls Tryz.prog 66 #[.int .i64 k] w fun e w'=>e=.returned (.bool false)/\w=w':=by
 rcases hk with h | h
 ·have h2:¬ k >= 0:=by omega
  go_enter Tryz.func66,Tryz.ntmps66
  go_wp2;go_ret;exact ⟨rfl,rfl⟩
 ·have h1:¬ k<=1048576:=by omega
  have h2:k >= 0:=by omega
  go_enter Tryz.func66,Tryz.ntmps66
  go_wp2;go_ret;exact ⟨rfl,rfl⟩
set_option maxRecDepth 100000 in
set_option maxHeartbeats 1000000 in
theorem storeMake_no (pb:Nat) (s v:Value) (k:Int) (hk:k < 0\/1048576 < k) (w:World):Calls Tryz.prog 45 #[ptrTo pb,s, .int .i64 k,v] w fun e w'=>e=.returned (.int .i64 1)/\w=w':=by
 have hr:=Lib.hid (storeRight_no k hk);clear hk;unfold ptrTo;go_enter Tryz.func45,Tryz.ntmps45
 go_wp2_with fail
 refine (hr.out _).mono ?_;rintro e w' ⟨rfl,rfl⟩;go_wp2;go_ret;exact ⟨rfl,rfl⟩
set_option maxRecDepth 100000 in
set_option maxHeartbeats 1000000 in
theorem storeOpen_no (pb:Nat) (k:Int) (hk:k < 0\/1048576 < k) (w:World):Calls Tryz.prog 34 #[ptrTo pb, .int .i64 k] w fun e w'=>e=.returned (.tuple #[.pointer none, .int .i64 1])/\w=w':=by
 have hr:=Lib.hid (storeRight_no k hk);clear hk;unfold ptrTo;go_enter Tryz.func34,Tryz.ntmps34
 go_wp2_with fail
 refine (hr.out _).mono ?_;rintro e w' ⟨rfl,rfl⟩;go_wp2;go_ret2
 exact ⟨rfl,rfl⟩
set_option maxRecDepth 100000 in
set_option maxHeartbeats 1000000 in
theorem of_no {x1 x2 x3:Value} (b:Bool) (hg:GraphRaw w gb x1 x2 x3 (.int .i64 (N:Int))) (hv:N<=v) (hv':v < 4294967296) :
 Calls Tryz.prog 54 #[ptrTo gb,ptrTo sb, .int .u32 (v:Int), .func (.func (endFn b)) #[] #[]] w fun e w'=>e=.returned (.tuple #[.slice none 0 0, .int .i64 13])/\Below w.heap.size w w':=by
 obtain ⟨-,-,-,g3,-⟩:=hg.cells;have hgl:=hg.lt;have hge:((v:Int) >= (N:Int)):=by omega
 have hge2:((N:Int)<=(v:Int)):=by omega
 have HT:=Lib.hid (three_boxes w (ptrTo sb) (.int .u32 (v:Int)) (.func (.func (endFn b)) #[] #[]) 119 26 123);clear hg;unfold ptrTo at *;go_enter Tryz.func54,Tryz.ntmps54
 go_wp2_with fail
 obtain ⟨b1,b2,b3,b4⟩:=HT.out;have HB1:=Lib.hid b1;have HX2:=Lib.hid b3;clear b1 b2 b3 b4 HT;unfold ptrTo at *;generalize ((w.alloc (.cells #[.pointer (some ⟨sb,0,none⟩)] 119)).alloc (.cells #[.int .u32 (v:Int)] 26)).alloc (.cells #[.func (.func (endFn b)) #[] #[]] 123)=W1 at *;rw [show w.heap.size+1+1=w.heap.size+2 from rfl];generalize w.heap.size+2=fb at *;generalize w.heap.size+1=vb at *;have K2:Hid (W1.cell? ⟨vb,0,none⟩=some (.int .u32 (v:Int))):=Lib.hid (by rw [cells_cell HX2.out];rfl);have K4:Hid (W1.cell? ⟨gb,3,none⟩=some (.int .i64 (N:Int))):=Lib.hid (by rw [HB1.out.cell hgl];exact g3);have hwv:IntKind.i64.wrap (v:Int)=(v:Int):=by rw [wrap_in]<;>omega
 clear g3;refine wq W1 ?_;refine qo (fun K hK=>?_) (fun w' hw'=>by have z:=cellBelow hw' K2.out;go_simp<;>rfl);go_simp;refine hK _ ?_;clear hK K;iterate 4 (refine qo (fun K hK=>?_);go_simp;refine hK _ ?_;clear hK K)
 refine qo (fun K hK=>?_) (fun w' hw'=>by have z:=cellBelow hw' K4.out;go_simp<;>rfl);go_simp;refine hK _ ?_;clear hK K;refine qo (fun K hK=>?_);go_simp;refine hK _ ?_;clear hK K;refine wpQuiet_nil ?_;intro W2 hw2;have HB2:=Lib.hid (HB1.out.trans (hw2.mono HB1.out.size));clear hw2;go_wp2;go_ret2
 exact ⟨rfl,HB2.out⟩
set_option maxRecDepth 100000 in
set_option maxHeartbeats 1000000 in
theorem graphOut_no (hg:GraphAt w o gb pb gen N ob ib vb) (hv:N<=v) (hv':v < 4294967296) :
 Calls Tryz.prog 21 #[ptrTo gb, .int .u32 (v:Int)] w fun e w'=>e=.returned (.tuple #[.slice none 0 0, .int .i64 13])/\Below w.heap.size w w':=by
 have hof:Hid (Calls Tryz.prog 54 #[ptrTo gb,ptrTo ob, .int .u32 (v:Int), .func (.func 55) #[] #[]] w fun e w'=>e=.returned (.tuple #[.slice none 0 0, .int .i64 13])/\Below w.heap.size w w'):=Lib.hid (of_no false hg.raw hv hv');obtain ⟨g0,-,-,-,-⟩:=hg.raw.cells;clear hg hv hv';unfold ptrTo at *;go_enter Tryz.func21,Tryz.ntmps21
 go_wp2_with fail
 refine hof.out.mono ?_;rintro e w1 ⟨rfl,hb1⟩;have HB1:=Lib.hid hb1;clear hb1;go_wp2;go_ret2
 exact ⟨rfl,HB1.out⟩
set_option maxRecDepth 100000 in
set_option maxHeartbeats 1000000 in
theorem graphIn_no (hg:GraphAt w o gb pb gen N ob ib vb) (hv:N<=v) (hv':v < 4294967296) :
 Calls Tryz.prog 22 #[ptrTo gb, .int .u32 (v:Int)] w fun e w'=>e=.returned (.tuple #[.slice none 0 0, .int .i64 13])/\Below w.heap.size w w':=by
 have hof:Hid (Calls Tryz.prog 54 #[ptrTo gb,ptrTo ib, .int .u32 (v:Int), .func (.func 56) #[] #[]] w fun e w'=>e=.returned (.tuple #[.slice none 0 0, .int .i64 13])/\Below w.heap.size w w'):=Lib.hid (of_no true hg.raw hv hv');obtain ⟨-,g1,-,-,-⟩:=hg.raw.cells;clear hg hv hv';unfold ptrTo at *;go_enter Tryz.func22,Tryz.ntmps22
 go_wp2_with fail
 refine hof.out.mono ?_;rintro e w1 ⟨rfl,hb1⟩;have HB1:=Lib.hid hb1;clear hb1;go_wp2;go_ret2
 exact ⟨rfl,HB1.out⟩
set_option maxRecDepth 100000 in
set_option maxHeartbeats 4000000 in
theorem graphEdge_gen (E:Nat->Dsk->Prop) (h:PoolAt w pb db n o d L) (hg:GraphAt w o gb pb gen N ob ib vb) {i:Int} {x:Edg} (hget0:∀ W,Below w.heap.size w W->Calls Tryz.prog 57 #[ptrTo ob, .int .i64 i] W (RecPostE E n pb db W o d L x.bytes)) :
 Calls Tryz.prog 28 #[ptrTo gb, .int .i64 i] w (ReadEPostE E n pb db w o d L x):=by
 have hrd:Hid (∀ W,Below w.heap.size w W->Calls Tryz.prog 60 #[ptrTo ob, .int .i64 i] W (ReadEPostE E n pb db W o d L x)):=Lib.hid (fun W hW=>storeRead_gen E (h.below hW) (fun W' hW'=>hget0 W' (hW.trans (hW'.mono hW.size))));obtain ⟨g0,-,-,-,-⟩:=hg.raw.cells;have hgl:=hg.raw.lt;have H:=Lib.hid h;clear h hg hget0;unfold ptrTo at *;have HB0:Hid (Below w.heap.size w (w.alloc (.cells #[.int .u32 0, .int .u32 0, .int .u64 0, .int .u32 0] 64))):=Lib.hid ((Below.refl _ _).alloc (Nat.le_refl _) _);have HBX:Hid ((w.alloc (.cells #[.int .u32 0, .int .u32 0, .int .u64 0, .int .u32 0] 64)).heap[w.heap.size]? = some (.cells #[.int .u32 0, .int .u32 0, .int .u64 0, .int .u32 0] 64)):=Lib.hid (heap_alloc_new w _);have HOX:Hid (o w.heap.size=none):=Lib.hid (H.out.fresh (Nat.le_refl _));go_enter Tryz.func28,Tryz.ntmps28
 go_wp2_with fail
 generalize w.alloc (.cells #[.int .u32 0, .int .u32 0, .int .u64 0, .int .u32 0] 64)=W0 at *;refine (hrd.out W0 HB0.out).mono ?_;rintro e w1 ⟨c1,d1,o1,y,rfl,hm1,he1,hy1,hz1⟩;have hbl:w.heap.size < W0.heap.size:=(Array.getElem?_eq_some_iff.1 HBX.out).1;have HM1:=Lib.hid ((Moved.ofBelow H.out HB0.out).trans hm1 (fun _ _ h=>h));have HX1:=Lib.hid (hm1.heap HBX.out HOX.out (fun h=>h));have HE1:=Lib.hid he1;have HY1:=Lib.hid hy1;have HZ1:=Lib.hid hz1;have HOX1:Hid (o1 w.heap.size=none):=Lib.hid (hm1.free hbl HOX.out);clear hm1 he1 hy1 hz1;have hset:Hid (∀ (w2:World) (a b c e:Value),w2.heap[w.heap.size]? = some (.cells #[.int .u32 0, .int .u32 0, .int .u64 0, .int .u32 0] 64)->((((w2.setCell ⟨w.heap.size,0,none⟩ a).setCell ⟨w.heap.size,1,none⟩ b).setCell ⟨w.heap.size,2,none⟩ c).setCell ⟨w.heap.size,3,none⟩ e).heap[w.heap.size]? = some (.cells #[a,b,c,e] 64)):=Lib.hid (fun w2 a b c e h0=>by
  rw [cells_set (cells_set (cells_set (cells_set h0 0 a) 1 b) 2 c) 3 e];rfl)
 have k0:w1.cell? ⟨w.heap.size,0,none⟩=some (.int .u32 0):=by rw [cells_cell HX1.out];rfl
 have k1':w1.cell? ⟨w.heap.size,1,none⟩=some (.int .u32 0):=by rw [cells_cell HX1.out];rfl
 have k2':w1.cell? ⟨w.heap.size,2,none⟩=some (.int .u64 0):=by rw [cells_cell HX1.out];rfl
 have k3':w1.cell? ⟨w.heap.size,3,none⟩=some (.int .u32 0):=by rw [cells_cell HX1.out];rfl
 have z0:=cells_frozen HX1.out 0;have z1:=cells_frozen HX1.out 1;have z2:=cells_frozen HX1.out 2;have z3:=cells_frozen HX1.out 3;have hbl1:w.heap.size < w1.heap.size:=(Array.getElem?_eq_some_iff.1 HX1.out).1;have HX3:=Lib.hid (hset.out w1 (.int .u32 (y.t.toNat:Int)) (.int .u32 (y.h.toNat:Int)) (.int .u64 (y.x.toNat:Int)) (.int .u32 (y.m.toNat:Int)) HX1.out);have HM3:Hid (Moved (fun _=>False) n pb db w o d ((((w1.setCell ⟨w.heap.size,0,none⟩ (.int .u32 (y.t.toNat:Int))).setCell ⟨w.heap.size,1,none⟩ (.int .u32 (y.h.toNat:Int))).setCell ⟨w.heap.size,2,none⟩ (.int .u64 (y.x.toNat:Int))).setCell ⟨w.heap.size,3,none⟩ (.int .u32 (y.m.toNat:Int))) o1 d1 L):=Lib.hid ((((HM1.out.setCell _ _ HOX1.out (.inr (Nat.le_refl _))).setCell _ _ HOX1.out (.inr (Nat.le_refl _))).setCell _ _ HOX1.out (.inr (Nat.le_refl _))).setCell _ _ HOX1.out (.inr (Nat.le_refl _)));go_wp2;generalize ((((w1.setCell ⟨w.heap.size,0,none⟩ (.int .u32 (y.t.toNat:Int))).setCell ⟨w.heap.size,1,none⟩ (.int .u32 (y.h.toNat:Int))).setCell ⟨w.heap.size,2,none⟩ (.int .u64 (y.x.toNat:Int))).setCell ⟨w.heap.size,3,none⟩ (.int .u32 (y.m.toNat:Int)))=w3 at *;have q0:w3.cell? ⟨w.heap.size,0,none⟩=some (.int .u32 (y.t.toNat:Int)):=by rw [cells_cell HX3.out];rfl
 have q1:w3.cell? ⟨w.heap.size,1,none⟩=some (.int .u32 (y.h.toNat:Int)):=by rw [cells_cell HX3.out];rfl
 have q2:w3.cell? ⟨w.heap.size,2,none⟩=some (.int .u64 (y.x.toNat:Int)):=by rw [cells_cell HX3.out];rfl
 have q3:w3.cell? ⟨w.heap.size,3,none⟩=some (.int .u32 (y.m.toNat:Int)):=by rw [cells_cell HX3.out];rfl
 clear k0 k1' k2' k3' z0 z1 z2 z3;exact bodyPost_ret (v:=.tuple #[.agg #[.int .u32 (y.t.toNat:Int), .int .u32 (y.h.toNat:Int), .int .u64 (y.x.toNat:Int), .int .u32 (y.m.toNat:Int)], .int .i64 (c1:Int)]) (by simp [results,Tryz.results28,go_sem,q0,q1,q2,q3]) rfl ⟨c1,d1,o1,y,rfl,HM3.out,HE1.out,HY1.out,HZ1.out⟩
theorem graphEdge_in (HW:WriteSaid) (h:PoolAt w pb db n o d L) (hg:GraphAt w o gb pb gen N ob ib vb) {es:List Edg} {fl:Bool} (hL:mget L (sName 101 gen)=some (edgeFile es fl)) {i:Nat} {x:Edg} (hi:es[i]? = some x) :
 Calls Tryz.prog 28 #[ptrTo gb, .int .i64 (i:Int)] w (ReadEPostE (fun c d'=>c=0\/Err d d' L c) n pb db w o d L x):=by
 have hil:=lt_of_get hi;refine graphEdge_gen _ h hg (fun W hW=>?_);have:=streamGet_in HW (h.below hW) (hg.out.below hW) hg.oob (by decide) (by decide) hL (sized_edges es) (i:=i) (by rw [List.length_map];exact hil);rw [List.getElem_map] at this;rw [List.getElem?_eq_getElem hil] at hi;rw [Option.some.inj hi] at this;exact this
theorem graphEdge_out (HW:WriteSaid) (h:PoolAt w pb db n o d L) (hg:GraphAt w o gb pb gen N ob ib vb) {es:List Edg} {fl:Bool} (hL:mget L (sName 101 gen)=some (edgeFile es fl)) {i:Nat} (hi:es.length<=i) (hi63:i < 9223372036854775808) (hd:d.dead=false) :
 Calls Tryz.prog 28 #[ptrTo gb, .int .i64 (i:Int)] w (ReadEPostE (fun c d'=>c=3\/Err d d' L c) n pb db w o d L edg0):=by
 refine graphEdge_gen _ h hg (fun W hW=>?_);refine (streamGet_out HW (h.below hW) (hg.out.below hW) hg.oob (by decide) (by decide) hL (sized_edges es) (i:=i) (by rw [List.length_map];exact hi) hi63 hd).mono ?_;rintro e w1 ⟨c,d1,o1,rfl,hm,hc⟩;refine ⟨_,c,d1,o1,rfl,hm,hc,fun h0=>?_,fun _=>rfl⟩;subst h0;rcases hc with hc | hc
 ·cases hc
 ·exact absurd rfl hc.ne
theorem graphEdge_neg (h:PoolAt w pb db n o d L) (hg:GraphAt w o gb pb gen N ob ib vb) {i:Int} (hi:i < 0) :
 Calls Tryz.prog 28 #[ptrTo gb, .int .i64 i] w (ReadEPostE (fun c _=>c=1) n pb db w o d L edg0):=by
 refine graphEdge_gen _ h hg (fun W hW=>?_);refine (streamGet_neg i hi ob W).mono ?_;rintro e w1 ⟨rfl,rfl⟩;exact ⟨_,1,d,o,rfl,Moved.refl _ (h.below hW),rfl,fun h0=>absurd h0 (by decide),fun _=>rfl⟩
end
end
section
open Go.RowKit Go.Maps
theorem Best.turn {b b':Bool} {l:List Edg} {out:List Edg} (h:Best b (bestOf b' l) out):Best b l out:=by
 have k:=best_bestOf b' l;refine ⟨h.rise,fun e he=>?_,fun x hx hn=>?_⟩
 ·obtain ⟨h1,h2,h3⟩:=h.mem e he;exact ⟨(k.mem e h1).1,h2,(k.mem e h1).2.2⟩
 ·obtain ⟨y,hy,hs⟩:=k.all x hx hn;obtain ⟨e,he,hs'⟩:=h.all y hy (hs.symm.loop hn);exact ⟨e,he,hs'.trans hs⟩
theorem bestOf_turn (b b':Bool) (l:List Edg):bestOf b (bestOf b' l)=bestOf b l:=(best_bestOf b (bestOf b' l)).turn.eq
theorem rd_string {w:World} {v:Value} {bs:List UInt8} (h:Rd w v bs):Sem.run Tryz.prog (convert 39 9 v) w=.ok (.string ⟨bs.toArray⟩) w:=by
 obtain ⟨a,cap,rfl,hlc,hcm,hc⟩:=h;have go:∀ ad:Addr,a=some ad->(∀ (j:Nat) (hj:j < bs.length),w.cell? (ad.add j)=some (bv bs[j]))->Sem.run Tryz.prog (convert 39 9 (.slice a bs.length cap)) w=.ok (.string ⟨bs.toArray⟩) w:=fun ad e hcell=>by
  subst e;exact run_convert_bytes_back (P:=Tryz.prog) w 39 9 5 ad cap bs Tryz.underlying39 Tryz.underlying5 Tryz.underlying9 hcell
 rcases hc with hc | ⟨b,off,rfl,hcell⟩
 ·cases a with
  | none=>
    have hb:bs=[]:=List.length_eq_zero_iff.1 hc;subst hb;exact run_convert_bytes_nil w 39 5 Tryz.underlying39 Tryz.underlying5 0 cap 9 Tryz.underlying9
  | some ad=>exact go ad rfl (fun j hj=>by omega)
 ·exact go _ rfl (fun j hj=>by rw [Addr_add];exact hcell j hj)
set_option maxRecDepth 100000 in
set_option maxHeartbeats 1000000 in
theorem eqBytes_same {w:World} {u v:Value} {bs:List UInt8} (hu:Rd w u bs) (hv:Rd w v bs) :
 Calls Tryz.prog 17 #[u,v] w fun e w'=>e=.returned (.bool true)/\w=w':=by
 have h1:=rd_string hu;have h2:=rd_string hv;obtain ⟨a,cap,rfl,-⟩:=hu;obtain ⟨a',cap',rfl,-⟩:=hv;generalize bs.length=N at *;go_enter Tryz.func17,Tryz.ntmps17
 go_wp2;go_ret;exact ⟨rfl,rfl⟩
theorem len_mput {L:Logic} {x:Name} (f:LFile) (h:mget L x=none):(mput L x f).length=L.length+1:=by
 unfold mput;rw [mdel_fresh h];rfl
end
section
open Go.RowKit Go.Maps Go.MapKept
theorem info_file:(Tryz.prog.info? 43).map (fun i=>(i.zero,i.size,i.bytes))=some (some (.agg #[.string ByteArray.empty, .slice none 0 0]),2,40):=by kernel_rfl
abbrev TFile:=Name × Value × List UInt8
def rowF:List TFile->List Value
 | []=>[]
 | p::l=>[.string p.1,p.2.1]++rowF l
theorem rowF_append (a b:List TFile):rowF (a++b)=rowF a++rowF b:=by
 induction a with
 | nil=>rfl
 | cons p a ih=>rw [List.cons_append,rowF,rowF,ih,List.append_assoc]
theorem rowF_get {l:List TFile} {i:Nat} {p:TFile} (h:l[i]? = some p):(rowF l)[i*2]? = some (.string p.1)/\(rowF l)[i*2+1]? = some p.2.1:=by
 induction l generalizing i with
 | nil=>cases h
 | cons q l ih=>
   cases i with
   | zero=>cases h;exact ⟨rfl,rfl⟩
   | succ i=>
     have:=ih (i:=i) (by simpa using h);rw [rowF,show (i+1)*2=i*2+1+1 by omega,show i*2+1+1+1=(i*2+1)+1+1 by omega];simpa using this
structure FilesAt (w:World) (base:Nat) (v:Value) (l:List TFile):Prop where
 row:w.ownsRow base 43 2 v l.length (rowF l)
 each:∀ p∈l,w.ownsRow base 5 1 p.2.1 p.2.2.length (p.2.2.map bv)
section
variable {w w':World} {base:Nat} {v v':Value} {l:List TFile}
theorem FilesAt.below (h:FilesAt w base v l) (hb:Below w.heap.size w w'):FilesAt w' base v l:=⟨ownsRow_below h.row hb,fun p hp=>ownsRow_below (h.each p hp) hb⟩
theorem FilesAt.cells {g cap n:Nat} (h:FilesAt w base (.slice (some ⟨g,0,none⟩) n cap) l) {i:Nat} {p:TFile} (hi:l[i]? = some p):w.cell? ⟨g,i*2,none⟩=some (.string p.1)/\w.cell? ⟨g,i*2+1,none⟩=some p.2.1:=by
 have hc:∀ (j:Nat) (u:Value),(rowF l)[j]? = some u->w.cell? ⟨g,j,none⟩=some u:=fun j u hj=>by
  have:=World.ownsRow.cells h.row (g:=g) rfl j u hj;rwa [Addr_add,Nat.zero_add] at this
 obtain ⟨h1,h2⟩:=rowF_get hi;exact ⟨hc _ _ h1,hc _ _ h2⟩
theorem FilesAt.shape (h:FilesAt w base v l):(l=[]/\v=.slice none 0 0)\/∃ g cap,v=.slice (some ⟨g,0,none⟩) l.length cap/\l.length<=cap/\cap<=maxLen:=by
 obtain ⟨_,⟨h1,h2⟩ | ⟨g,cap,cur,rfl,hg,hh,hc,hm,_⟩⟩:=h.row
 ·exact .inl ⟨List.eq_nil_of_length_eq_zero h2,h1⟩
 ·exact .inr ⟨g,cap,rfl,hc,hm⟩
end
theorem wpList_append_file {w:World} {ops:Array Oper} {rest:List Oper} {op:Oper} {a:Act} {Q:Exit->Act->World->Prop} (hgd:op.guard=none) (s x:Operand) (ho:op.op=.call { callee:=.builtin .append,args:=#[s,x],argTypes:=#[36,36] }) (base:Nat) (v:Value) (l:List TFile) (hs:a.eval s=v) (hown:w.ownsRow base 43 2 v l.length (rowF l))
 (y:TFile) (c:Nat) (hx:a.eval x=.slice (some ⟨w.heap.size,0,none⟩) 1 c) (hl:l.length<=1000) (hbase:base<=w.heap.size) (hcell:y.2.1.oneCell'=true)
 (k:∀ v' w',w'.ownsRow base 43 2 v' (l++[y]).length (rowF (l++[y]))->Appd v (w.alloc (.cells #[.string y.1,y.2.1] 43)) w' v'->wpList Tryz.prog ops Q rest (a.put op.dst v') w') :
 wpList Tryz.prog ops Q (op::rest) a (w.alloc (.cells #[.string y.1,y.2.1] 43)):=by
 refine wpList_append_at hgd s x 36 ho base 43 _ 2 40 Tryz.underlying36 info_file rfl (by decide) v l.length (rowF l) hs (World.ownsRow.alloc hown _) ⟨w.heap.size,0,none⟩ 1 c [.string y.1,y.2.1] hx rfl (fun j u hj=>?_) (fun u hu=>by
  simp only [List.mem_cons,List.not_mem_nil,or_false] at hu;rcases hu with rfl | rfl
  ·rfl
  ·exact hcell) (by unfold maxLen;omega) (by omega) (by simp;omega) (fun v' w' h1 h2=>k v' w' ?_ h2)
 ·rw [Addr_add,Nat.zero_add];match j,hj with
  | 0,hj=>cases hj;simp
  | 1,hj=>cases hj;simp
  | j+2,hj=>cases hj
 ·rw [rowF_append,List.length_append];exact h1
def FilesPost (w:World) (d:Dsk) (e:Ending) (w':World):Prop:=
 ∃ v l,e=.returned v/\FilesAt w' w.heap.size v l/\(l.map (·.1)).Perm (d.files.map (·.1))/\(∀ p∈l,∃ f,mget d.files p.1=some f/\p.2.2=f.now)/\Below w.heap.size w w'
set_option maxRecDepth 100000 in
set_option maxHeartbeats 4000000 in
theorem files_any {w:World} {db:Nat} {o:Owner} {d:Dsk} (h:DiskAt w db o d) (hn:d.files.length<=1000) (hs:∀ x∈d.files.map (·.1),x.size<=1000) :
 Calls Tryz.prog 15 #[ptrTo db] w (FilesPost w d):=by
 have hnames:=Lib.hid (names_any h hn);obtain ⟨mf,ml,l,h⟩:=h;have HD:=Lib.hid h;have HS:=Lib.hid hs;have HKEYS:Hid (d.files.map (·.1)=l.map (·.1)):=Lib.hid (by rw [<- h.strip,List.map_map];rfl);have HGET:Hid (∀ x,mget d.files x=(mget l x).map (·.2)):=Lib.hid (fun x=>by rw [<- h.strip];exact strip_get);have hclone:Hid (∀ W v bs,Rd W v bs->bs.length<=16777216->Calls Tryz.prog 50 #[v] W (NewBytes W bs)):=Lib.hid (fun W v bs hv hl=>clone_any v bs W hv (by omega));have HN:Hid (d.files.length<=1000):=Lib.hid hn;clear h hn hs;unfold ptrTo at *;go_enter Tryz.func15,Tryz.ntmps15
 go_wp2_with fail
 refine hnames.out.mono ?_;rintro e w1 ⟨vn,ns,rfl,hperm,hrow,hb1⟩;have HP:=Lib.hid hperm;have HR1:=Lib.hid hrow;have HB1:=Lib.hid hb1;have hnl:ns.length<=1000:=by have h1:=hperm.length_eq;rw [List.length_map] at h1;have:=HN.out;omega
 have HMEM:Hid (∀ i x,ns[i]? = some x->x.size<=1000/\∃ pf f,mget l x=some (pf,f)):=Lib.hid (fun i x hx=>by
  have h1:x∈d.files.map (·.1):=hperm.mem_iff.1 (List.mem_of_getElem? hx);refine ⟨HS.out x h1,?_⟩;rw [HKEYS.out,mem_keys] at h1;obtain ⟨⟨pf,f⟩,h2⟩:=Option.isSome_iff_exists.1 h1;exact ⟨pf,f,h2⟩)
 have HTK:Hid (∀ i x,ns[i]? = some x->ns.take (i+1)=ns.take i++[x]):=Lib.hid (fun i x hx=>by
  have hl:=lt_of_get hx;rw [List.take_succ_eq_append_getElem hl];rw [List.getElem?_eq_getElem hl] at hx;rw [Option.some.inj hx])
 have HALL:Hid (ns.take ns.length=ns):=Lib.hid (List.take_of_length_le (Nat.le_refl _));have HX:Hid (∀ i,i < ns.length->∃ x,ns[i]? = some x):=Lib.hid (fun i hi=>⟨_,List.getElem?_eq_getElem hi⟩);obtain ⟨an,cn,rfl⟩:=ownsRow_slice hrow;clear hperm hrow hb1 hnames;generalize hNN:ns.length=N at *;have HNN:=Lib.hid hNN;clear hNN;go_wp2;go_loopw [3,9] (fun v iv W=>∃ (i:Nat) (fs:List TFile),i<=N/\iv=.int .i64 (i:Int)/\FilesAt W w.heap.size v fs/\fs.map (·.1)=ns.take i/\(∀ p∈fs,∃ f,mget d.files p.1=some f/\p.2.2=f.now)/\W.ownsRow (w.heap.size+1) 9 1 (.slice an N cn) N (ns.map Value.string)/\Below w.heap.size w W) (fun _ iv _=>N - (intOf iv).toNat)
 case atStart=>exact ⟨0,[],Nat.zero_le _,rfl,⟨World.ownsRow_nil _ _ _ _,(fun p hp=>nomatch hp)⟩,rfl,(fun p hp=>nomatch hp),HR1.out,HB1.out⟩
 case round=>
  generalize u3=v at *;generalize wr=W at *;obtain ⟨i,fs,hi,rfl,hf,hfn,hfe,hr,hb⟩:=hrel;have HF:=Lib.hid hf;have HFN:=Lib.hid hfn;have HFE:=Lib.hid hfe;have HR:=Lib.hid hr;have HB:=Lib.hid hb;clear hf hfn hfe hr hb HR1 HB1;by_cases hlt:i < N
  ·obtain ⟨x,hx⟩:=HX.out i hlt;obtain ⟨hxs,pf,f,hxl⟩:=HMEM.out i x hx;have HD1:=Lib.hid (HD.out.below HB.out);have hcell:∃ g,an=some ⟨g,0,none⟩/\N<=cn/\cn<=maxLen/\W.cell? ⟨g,i,none⟩=some (.string x):=by
    obtain ⟨_,⟨h1,h2⟩ | ⟨g,cap,cur,h1,hg,hh,hc,hm,h3,h4⟩⟩:=HR.out
    ·omega
    ·cases h1;refine ⟨g,rfl,hc,hm,?_⟩;rw [cells_cell hh];have h5:(cur.toList.take (N*1))[i]? = (ns.map Value.string)[i]? := by rw [h4]
     rw [List.getElem?_take_of_lt (by omega)] at h5;rw [<- Array.getElem?_toList,h5,List.getElem?_map,hx];rfl
   obtain ⟨g,rfl,hcn1,hcn2,hc⟩:=hcell;unfold maxLen at hcn2;obtain ⟨⟨hc0,-⟩,-⟩:=HD1.out.head.cells;have hmem:(x,pf,f)∈l:=mget_mem hxl;have hfa:=HD1.out.each _ hmem;obtain ⟨fv,fu,⟨hp0,-⟩,-,hrow,-⟩:=hfa.cells;have hmost:=hfa.most.1;have HM:Hid (mget l x=some (pf,f)):=Lib.hid hxl;have HGX:Hid (mget d.files x=some f):=Lib.hid (by rw [HGET.out,hxl];rfl);have HTX:=Lib.hid (HTK.out i x hx);have hcl:=Lib.hid (hclone.out W fv f.now (Rd_own hrow) hmost);have hg:=good_string (s:=x) (by unfold maxLen;omega);obtain ⟨fa,fc,rfl⟩:=ownsRow_slice hrow;have HFL:Hid (fs.length=i):=Lib.hid (by
    have h1:=congrArg List.length HFN.out;rw [List.length_map,List.length_take,HNN.out] at h1;omega)
   have hz:∀ W:World,(zeroValue 109).run Tryz.prog W=.ok (.pointer none) W:=fun W=>by kernel_rfl
   clear hfa hrow hmem hxl hx;generalize hFN:f.now=bs at *;have HBS:=Lib.hid hFN;clear hFN;go_wp2_with (at_lookup;refine wpList_look _ rfl _ _ _ _ rfl 109 keyed_string string_inj Tryz.underlying110 (hz _) mf l rfl HD1.out.files x rfl hg ?_;rw [HM.out];simp only [Option.map_some,Option.getD_some,ptrTo])
   refine hcl.out.mono ?_;rintro e W2 ⟨cv,rfl,hrow2,hb2⟩;have HR2:=Lib.hid (ownsRow_base hrow2 HB.out.size);have HB2:=Lib.hid (HB.out.trans (hb2.mono HB.out.size));have HF2:=Lib.hid (HF.out.below hb2);have HRN2:=Lib.hid (ownsRow_below HR.out hb2);have HCV:=Lib.hid (Rd_own hrow2);have hz2:w.heap.size<=W2.heap.size:=HB2.out.size;have HNEW:Hid (∀ x,cv.ownBlock=some x->W.heap.size<=x/\x < W2.heap.size):=Lib.hid (fun x hx=>⟨ownsRow_block hrow2 x hx,(ownBlock_old hrow2 x hx).1⟩);have hW2:W.heap.size<=W2.heap.size:=hb2.size;obtain ⟨ca,cc,rfl⟩:=ownsRow_slice hrow2;have HOLD:Hid (∀ x,v.ownBlock=some x->x < W.heap.size):=Lib.hid (fun x hx=>(ownBlock_old HF.out.row x hx).1);clear hrow2 hb2 hcl;have hfsl:fs.length<=1000:=by rw [HFL.out];omega
   go_wp2_with (at_builtin;refine wpList_append_file rfl _ _ rfl w.heap.size _ fs rfl HF2.out.row (x, .slice ca bs.length cc,bs) 1 rfl hfsl hz2 rfl ?_)
   intro v3 W3 hrow3 ha3;obtain ⟨hg3,hb3⟩:=ha3;have hal:W2.heap.size < (W2.alloc (.cells #[.string x, .slice ca bs.length cc] 43)).heap.size:=by simp
   have hkeep:∀ y,y < W2.heap.size->v.ownBlock≠some y->W3.heap[y]? = W2.heap[y]? := fun y hy hne=>(hg3.block y (by omega) (fun e=>hne e.symm)).trans ((MapKept.heap_alloc W2 _).2 y hy);have HF3:Hid (FilesAt W3 w.heap.size v3 (fs++[(x, .slice ca bs.length cc,bs)])):=Lib.hid (by
    refine ⟨by rw [List.length_append];exact hrow3,fun p hp=>?_⟩;have hr:W2.ownsRow w.heap.size 5 1 p.2.1 p.2.2.length (p.2.2.map bv):=by
     rcases List.mem_append.1 hp with hp | hp
     ·exact HF2.out.each p hp
     ·rw [List.mem_singleton.1 hp];exact HR2.out
    exact ownsRow_heap hr (fun y hy=>hkeep y (ownBlock_old hr y hy).1 (fun e=>ownsRow_apart hr HF2.out.row (by decide) y hy e)))
   have HRN3:Hid (W3.ownsRow (w.heap.size+1) 9 1 (.slice (some ⟨g,0,none⟩) N cn) N (ns.map Value.string)):=Lib.hid (ownsRow_heap HRN2.out (fun y hy=>hkeep y (ownBlock_old HRN2.out y hy).1 (fun e=>ownsRow_apart HRN2.out HF2.out.row (by decide) y hy e)));have HB3:Hid (Below w.heap.size w W3):=Lib.hid (by
    refine HB2.out.trans ⟨hg3.os.trans rfl,hg3.tape.trans rfl,hg3.output.trans rfl,Nat.le_trans (Nat.le_of_lt hal) hg3.size,fun y hy=>hkeep y (by omega) (fun e=>?_)⟩;have:=(ownBlock_old HF2.out.row y e).2;omega)
   clear hg3 hb3 hkeep hrow3;go_wp2;go_roundw
   case rel=>exact ⟨i+1,fs++[(x, .slice ca bs.length cc,bs)],by omega,by go_num,HF3.out,by rw [List.map_append,HFN.out,HTX.out];rfl,(fun p hp=>(List.mem_append.1 hp).elim (HFE.out p) (fun hp=>by rw [List.mem_singleton.1 hp];exact ⟨f,HGX.out,HBS.out.symm⟩)),HRN3.out,HB3.out⟩
   case measure=>simp [intOf];omega
  ·obtain rfl:N=i:=by omega
   go_wp2;go_ret;refine ⟨v,fs,rfl,HF.out,?_,HFE.out,HB.out⟩;rw [HFN.out,HALL.out];exact HP.out
end
section
open Go.RowKit Go.Maps
section
variable {q q1 q2:Nat} {w0 w w':World} {pb db n pb1 db1 n1 pb2 db2 n2:Nat} {o o1 o1' o2:Owner} {d d1 d1' d2:Dsk} {L L1 L1' L2:Logic} {S:Nat->Prop}
def KeptFiles (q:Nat) (w0 w:World) (pb db n:Nat) (o:Owner) (d:Dsk) (L:Logic) (e:Ending) (w':World):Prop:=
 ∃ v l,e=.returned v/\FilesAt w' w.heap.size v l/\Kept q w0 w' pb db n o d L/\Below w.heap.size w w'/\l.length=L.length/\(l.map (·.1)).Nodup/\(∀ x,x∈l.map (·.1) ↔ (mget L x).isSome=true)/\(∀ p∈l,∃ f,mget d.files p.1=some f/\p.2.2=f.now)
theorem kept_files (h:Kept q w0 w pb db n o d L) (hl:L.length<=1000):Calls Tryz.prog 15 #[ptrTo db] w (KeptFiles q w0 w pb db n o d L):=by
 have hc:=h.count;have H:=h;obtain ⟨_,_,_,_,_,g,_,hs⟩:=h.pool;refine (files_any g.disk (by omega) (fun x hx=>?_)).mono ?_
 ·rw [mem_keys] at hx;exact okName_1000 (hs.ok x (by rw [<- hs.names];exact hx))
 ·rintro e w' ⟨v,l,rfl,hf,hp,he,hb⟩;refine ⟨v,l,rfl,hf,H.later hb,hb,?_,hp.nodup_iff.2 hs.dkeys,fun x=>?_,he⟩
  ·have:=hp.length_eq;rw [List.length_map,List.length_map] at this;omega
  ·rw [hp.mem_iff,mem_keys,hs.names]
theorem Kept.now (h:Kept q w0 w pb db n o d L) {name:Name} {ps:List Pg} (hL:mget L name=some (.inl (ps,true))) {f:DFile} (hf:mget d.files name=some f):f.now=pagesFrom (tagOf name) 0 ps:=by
 obtain ⟨_,_,_,_,_,_,_,hs⟩:=h.pool;obtain ⟨f',dp,k⟩:=hs.paged _ _ _ hL;rw [k.get] at hf;obtain rfl:=Option.some.inj hf;rw [k.now,(k.lasts rfl).1]
end
end
section
open Go.RowKit
set_option maxRecDepth 100000 in
set_option maxHeartbeats 2000000 in
theorem ahead05_nat (xt xh xx xm yt yh yx ym:Nat) (w:World) :
 Calls Tryz.prog 123 #[.agg #[.int .u32 (xt:Int), .int .u32 (xh:Int), .int .u64 (xx:Int), .int .u32 (xm:Int)], .agg #[.int .u32 (yt:Int), .int .u32 (yh:Int), .int .u64 (yx:Int), .int .u32 (ym:Int)]] w fun e w'=>e=.returned (.bool (decide (xt < yt\/xt=yt/\xh < yh)))/\Below w.heap.size w w':=by
 obtain ⟨r,hr0⟩:∃ r:Bool,r=decide (xt < yt\/xt=yt/\xh < yh):=⟨_,rfl⟩;rw [<- hr0];rcases Nat.lt_trichotomy xt yt with g | g | g
 ·have hr:Hid (r=true):=Lib.hid (by rw [hr0];exact decide_eq_true (.inl g));clear hr0;have g1:((xt:Nat):Int) < (yt:Int):=by omega
  go_enter Tryz.func123,Tryz.ntmps123
  go_wp2;go_ret;exact ⟨by rw [hr.out];rfl,((Below.refl _ _).alloc (Nat.le_refl _) _).alloc (by simp) _⟩
 ·subst g;by_cases g:xh < yh
  ·have hr:Hid (r=true):=Lib.hid (by rw [hr0];exact decide_eq_true (.inr ⟨rfl,g⟩));clear hr0;have g1:((xh:Nat):Int) < (yh:Int):=by omega
   go_enter Tryz.func123,Tryz.ntmps123
   go_wp2;go_ret;exact ⟨by rw [hr.out];rfl,((Below.refl _ _).alloc (Nat.le_refl _) _).alloc (by simp) _⟩
  ·have hr:Hid (r=false):=Lib.hid (by rw [hr0];exact decide_eq_false (by omega));clear hr0;have g1:¬ ((xh:Nat):Int) < (yh:Int):=by omega
   go_enter Tryz.func123,Tryz.ntmps123
   go_wp2;go_ret;exact ⟨by rw [hr.out];rfl,((Below.refl _ _).alloc (Nat.le_refl _) _).alloc (by simp) _⟩
 ·have hr:Hid (r=false):=Lib.hid (by rw [hr0];exact decide_eq_false (by omega));clear hr0;have g1:¬ ((xt:Nat):Int) < (yt:Int):=by omega
  have g2:((xt:Int) == (yt:Int))=false:=by rw [beq_eq_false_iff_ne];omega
  have g3:¬ ((xt:Int)=(yt:Int)):=by omega
  go_enter Tryz.func123,Tryz.ntmps123
  go_wp2;go_ret;exact ⟨by rw [hr.out];rfl,((Below.refl _ _).alloc (Nat.le_refl _) _).alloc (by simp) _⟩
set_option maxRecDepth 100000 in
set_option maxHeartbeats 2000000 in
theorem ahead12_tail (xt xh xx xm yt yh yx ym:Nat) (w:World) :
 Calls Tryz.prog 81 #[.agg #[.int .u32 (xt:Int), .int .u32 (xh:Int), .int .u64 (xx:Int), .int .u32 (xm:Int)], .agg #[.int .u32 (yt:Int), .int .u32 (yh:Int), .int .u64 (yx:Int), .int .u32 (ym:Int)], .int .i64 0] w fun e w'=>e=.returned (.bool (decide (xt < yt\/xt=yt/\xh < yh)))/\Below w.heap.size w w':=by
 obtain ⟨r,hr0⟩:∃ r:Bool,r=decide (xt < yt\/xt=yt/\xh < yh):=⟨_,rfl⟩;rw [<- hr0];rcases Nat.lt_trichotomy xt yt with g | g | g
 ·have hr:Hid (r=true):=Lib.hid (by rw [hr0];exact decide_eq_true (.inl g));clear hr0;have g1:((xt:Nat):Int) < (yt:Int):=by omega
  go_enter Tryz.func81,Tryz.ntmps81
  go_wp2;go_ret;exact ⟨by rw [hr.out];rfl,((Below.refl _ _).alloc (Nat.le_refl _) _).alloc (by simp) _⟩
 ·subst g;by_cases g:xh < yh
  ·have hr:Hid (r=true):=Lib.hid (by rw [hr0];exact decide_eq_true (.inr ⟨rfl,g⟩));clear hr0;have g1:((xh:Nat):Int) < (yh:Int):=by omega
   go_enter Tryz.func81,Tryz.ntmps81
   go_wp2;go_ret;exact ⟨by rw [hr.out];rfl,((Below.refl _ _).alloc (Nat.le_refl _) _).alloc (by simp) _⟩
  ·have hr:Hid (r=false):=Lib.hid (by rw [hr0];exact decide_eq_false (by omega));clear hr0;have g1:¬ ((xh:Nat):Int) < (yh:Int):=by omega
   go_enter Tryz.func81,Tryz.ntmps81
   go_wp2;go_ret;exact ⟨by rw [hr.out];rfl,((Below.refl _ _).alloc (Nat.le_refl _) _).alloc (by simp) _⟩
 ·have hr:Hid (r=false):=Lib.hid (by rw [hr0];exact decide_eq_false (by omega));clear hr0;have g1:¬ ((xt:Nat):Int) < (yt:Int):=by omega
  have g2:((xt:Int) == (yt:Int))=false:=by rw [beq_eq_false_iff_ne];omega
  have g3:¬ ((xt:Int)=(yt:Int)):=by omega
  go_enter Tryz.func81,Tryz.ntmps81
  go_wp2;go_ret;exact ⟨by rw [hr.out];rfl,((Below.refl _ _).alloc (Nat.le_refl _) _).alloc (by simp) _⟩
set_option maxRecDepth 100000 in
set_option maxHeartbeats 2000000 in
theorem ahead12_head (xt xh xx xm yt yh yx ym:Nat) (w:World) :
 Calls Tryz.prog 81 #[.agg #[.int .u32 (xt:Int), .int .u32 (xh:Int), .int .u64 (xx:Int), .int .u32 (xm:Int)], .agg #[.int .u32 (yt:Int), .int .u32 (yh:Int), .int .u64 (yx:Int), .int .u32 (ym:Int)], .int .i64 1] w fun e w'=>e=.returned (.bool (decide (xh < yh\/xh=yh/\xt < yt)))/\Below w.heap.size w w':=by
 obtain ⟨r,hr0⟩:∃ r:Bool,r=decide (xh < yh\/xh=yh/\xt < yt):=⟨_,rfl⟩;rw [<- hr0];rcases Nat.lt_trichotomy xh yh with g | g | g
 ·have hr:Hid (r=true):=Lib.hid (by rw [hr0];exact decide_eq_true (.inl g));clear hr0;have g1:((xh:Nat):Int) < (yh:Int):=by omega
  go_enter Tryz.func81,Tryz.ntmps81
  go_wp2;go_ret;exact ⟨by rw [hr.out];rfl,((Below.refl _ _).alloc (Nat.le_refl _) _).alloc (by simp) _⟩
 ·subst g;by_cases g:xt < yt
  ·have hr:Hid (r=true):=Lib.hid (by rw [hr0];exact decide_eq_true (.inr ⟨rfl,g⟩));clear hr0;have g1:((xt:Nat):Int) < (yt:Int):=by omega
   go_enter Tryz.func81,Tryz.ntmps81
   go_wp2;go_ret;exact ⟨by rw [hr.out];rfl,((Below.refl _ _).alloc (Nat.le_refl _) _).alloc (by simp) _⟩
  ·have hr:Hid (r=false):=Lib.hid (by rw [hr0];exact decide_eq_false (by omega));clear hr0;have g1:¬ ((xt:Nat):Int) < (yt:Int):=by omega
   go_enter Tryz.func81,Tryz.ntmps81
   go_wp2;go_ret;exact ⟨by rw [hr.out];rfl,((Below.refl _ _).alloc (Nat.le_refl _) _).alloc (by simp) _⟩
 ·have hr:Hid (r=false):=Lib.hid (by rw [hr0];exact decide_eq_false (by omega));clear hr0;have g1:¬ ((xh:Nat):Int) < (yh:Int):=by omega
  have g2:((xh:Int) == (yh:Int))=false:=by rw [beq_eq_false_iff_ne];omega
  have g3:¬ ((xh:Int)=(yh:Int)):=by omega
  go_enter Tryz.func81,Tryz.ntmps81
  go_wp2;go_ret;exact ⟨by rw [hr.out];rfl,((Below.refl _ _).alloc (Nat.le_refl _) _).alloc (by simp) _⟩
set_option maxRecDepth 100000 in
set_option maxHeartbeats 2000000 in
theorem better03_nat (xt xh xx xm yt yh yx ym:Nat) (w:World) :
 Calls Tryz.prog 124 #[.agg #[.int .u32 (xt:Int), .int .u32 (xh:Int), .int .u64 (xx:Int), .int .u32 (xm:Int)], .agg #[.int .u32 (yt:Int), .int .u32 (yh:Int), .int .u64 (yx:Int), .int .u32 (ym:Int)]] w fun e w'=>e=.returned (.bool (decide (xx < yx\/xx=yx/\(xm+1) % 4294967296 < (ym+1) % 4294967296)))/\Below w.heap.size w w':=by
 have hw1:IntKind.u32.wrap ((xm:Int)+1)=(((xm+1) % 4294967296:Nat):Int):=by rw [IntKind.wrap_u32];omega
 have hw2:IntKind.u32.wrap ((ym:Int)+1)=(((ym+1) % 4294967296:Nat):Int):=by rw [IntKind.wrap_u32];omega
 generalize (xm+1) % 4294967296=xm1 at *;generalize (ym+1) % 4294967296=ym1 at *;obtain ⟨r,hr0⟩:∃ r:Bool,r=decide (xx < yx\/xx=yx/\xm1 < ym1):=⟨_,rfl⟩;rw [<- hr0];rcases Nat.lt_trichotomy xx yx with g | g | g
 ·have hr:Hid (r=true):=Lib.hid (by rw [hr0];exact decide_eq_true (.inl g));clear hr0;have g1:((xx:Nat):Int) < (yx:Int):=by omega
  go_enter Tryz.func124,Tryz.ntmps124
  go_wp2;go_ret;exact ⟨by rw [hr.out];rfl,((Below.refl _ _).alloc (Nat.le_refl _) _).alloc (by simp) _⟩
 ·subst g;by_cases g:xm1 < ym1
  ·have hr:Hid (r=true):=Lib.hid (by rw [hr0];exact decide_eq_true (.inr ⟨rfl,g⟩));clear hr0;have g1:((xm1:Nat):Int) < (ym1:Int):=by omega
   go_enter Tryz.func124,Tryz.ntmps124
   go_wp2;go_ret;exact ⟨by rw [hr.out];rfl,((Below.refl _ _).alloc (Nat.le_refl _) _).alloc (by simp) _⟩
  ·have hr:Hid (r=false):=Lib.hid (by rw [hr0];exact decide_eq_false (by omega));clear hr0;have g1:¬ ((xm1:Nat):Int) < (ym1:Int):=by omega
   go_enter Tryz.func124,Tryz.ntmps124
   go_wp2;go_ret;exact ⟨by rw [hr.out];rfl,((Below.refl _ _).alloc (Nat.le_refl _) _).alloc (by simp) _⟩
 ·have hr:Hid (r=false):=Lib.hid (by rw [hr0];exact decide_eq_false (by omega));clear hr0;have g1:¬ ((xx:Nat):Int) < (yx:Int):=by omega
  have g2:((xx:Int) == (yx:Int))=false:=by rw [beq_eq_false_iff_ne];omega
  have g3:¬ ((xx:Int)=(yx:Int)):=by omega
  go_enter Tryz.func124,Tryz.ntmps124
  go_wp2;go_ret;exact ⟨by rw [hr.out];rfl,((Below.refl _ _).alloc (Nat.le_refl _) _).alloc (by simp) _⟩
theorem ahead05_any (x y:Edg) (w:World):Calls Tryz.prog 123 #[.agg #[.int .u32 (x.t.toNat:Int), .int .u32 (x.h.toNat:Int), .int .u64 (x.x.toNat:Int), .int .u32 (x.m.toNat:Int)], .agg #[.int .u32 (y.t.toNat:Int), .int .u32 (y.h.toNat:Int), .int .u64 (y.x.toNat:Int), .int .u32 (y.m.toNat:Int)]] w
 fun e w'=>e=.returned (.bool (decide (pk false x < pk false y)))/\Below w.heap.size w w':=by
 refine (ahead05_nat _ _ _ _ _ _ _ _ w).mono fun e w' ⟨he,hb⟩=>⟨he.trans ?_,hb⟩;have h1:=x.h.toNat_lt;have h2:=y.h.toNat_lt;rw [decide_eq_decide.2 (show (x.t.toNat < y.t.toNat\/x.t.toNat=y.t.toNat/\x.h.toNat < y.h.toNat) ↔ pk false x < pk false y by unfold pk;simp only [Bool.false_eq_true,if_false];omega)]
theorem ahead12_any (b:Bool) (x y:Edg) (w:World):Calls Tryz.prog 81 #[.agg #[.int .u32 (x.t.toNat:Int), .int .u32 (x.h.toNat:Int), .int .u64 (x.x.toNat:Int), .int .u32 (x.m.toNat:Int)], .agg #[.int .u32 (y.t.toNat:Int), .int .u32 (y.h.toNat:Int), .int .u64 (y.x.toNat:Int), .int .u32 (y.m.toNat:Int)], .int .i64 (byNum b:Int)] w
 fun e w'=>e=.returned (.bool (decide (pk b x < pk b y)))/\Below w.heap.size w w':=by
 have h1:=x.h.toNat_lt;have h2:=y.h.toNat_lt;have h3:=x.t.toNat_lt;have h4:=y.t.toNat_lt;cases b
 ·refine (ahead12_tail _ _ _ _ _ _ _ _ w).mono fun e w' ⟨he,hb⟩=>⟨he.trans ?_,hb⟩;rw [decide_eq_decide.2 (show (x.t.toNat < y.t.toNat\/x.t.toNat=y.t.toNat/\x.h.toNat < y.h.toNat) ↔ pk false x < pk false y by unfold pk;simp only [Bool.false_eq_true,if_false];omega)]
 ·refine (ahead12_head _ _ _ _ _ _ _ _ w).mono fun e w' ⟨he,hb⟩=>⟨he.trans ?_,hb⟩;rw [decide_eq_decide.2 (show (x.h.toNat < y.h.toNat\/x.h.toNat=y.h.toNat/\x.t.toNat < y.t.toNat) ↔ pk true x < pk true y by unfold pk;simp only [if_true];omega)]
theorem better03_any (x y:Edg) (w:World):Calls Tryz.prog 124 #[.agg #[.int .u32 (x.t.toNat:Int), .int .u32 (x.h.toNat:Int), .int .u64 (x.x.toNat:Int), .int .u32 (x.m.toNat:Int)], .agg #[.int .u32 (y.t.toNat:Int), .int .u32 (y.h.toNat:Int), .int .u64 (y.x.toNat:Int), .int .u32 (y.m.toNat:Int)]] w
 fun e w'=>e=.returned (.bool (decide (rk x < rk y)))/\Below w.heap.size w w':=by
 refine (better03_nat _ _ _ _ _ _ _ _ w).mono fun e w' ⟨he,hb⟩=>⟨he.trans ?_,hb⟩;rw [decide_eq_decide.2 (show (x.x.toNat < y.x.toNat\/x.x.toNat=y.x.toNat/\(x.m.toNat+1) % 4294967296 < (y.m.toNat+1) % 4294967296) ↔ rk x < rk y by unfold rk;omega)]
theorem pairwise_get {b:Bool} {out:List Edg} (h:out.Pairwise (fun x y=>pk b x < pk b y)) {i j:Nat} (hij:i < j) {x y:Edg} (hx:out[i]? = some x) (hy:out[j]? = some y):pk b x < pk b y:=by
 have hi:=(List.getElem?_eq_some_iff.1 hx).1;have hj:=(List.getElem?_eq_some_iff.1 hy).1;have:=List.pairwise_iff_getElem.1 h i j hi hj hij;rw [List.getElem?_eq_getElem hi] at hx;rw [List.getElem?_eq_getElem hj] at hy;rw [Option.some.inj hx,Option.some.inj hy] at this;exact this
theorem Best.lay {b:Bool} {l out:List Edg} {x:Edg} (h:Best b l out) (hx:x.t≠x.h) {k:Nat} (hk:k<=out.length) (h1:∀ (i:Nat) (o:Edg),i < k->out[i]? = some o->pk b o < pk b x) (h2:∀ (i:Nat) (o:Edg),k<=i->out[i]? = some o->pk b x < pk b o) :
 Best b (l++[x]) (out.take k++x::out.drop k):=by
 have hsp:out=out.take k++out.drop k:=(List.take_append_drop k out).symm;have hlt:∀ o∈out.take k,pk b o < pk b x:=fun o ho=>by
  obtain ⟨i,hi,rfl⟩:=List.getElem_of_mem ho;rw [List.length_take] at hi;rw [List.getElem_take];exact h1 i _ (by omega) (List.getElem?_eq_getElem (by omega))
 have hgt:∀ o∈out.drop k,pk b x < pk b o:=fun o ho=>by
  obtain ⟨i,hi,rfl⟩:=List.getElem_of_mem ho;rw [List.length_drop] at hi;rw [List.getElem_drop];exact h2 (k+i) _ (by omega) (List.getElem?_eq_getElem (by omega))
 have hne:∀ o∈out,¬ same o x:=fun o ho hs=>by
  have e:=pk_same (b:=b).2 hs;rw [hsp] at ho;rcases List.mem_append.1 ho with ho | ho
  ·have:=hlt o ho;omega
  ·have:=hgt o ho;omega
 have hr:=h.rise;rw [hsp,List.pairwise_append] at hr;have hmem:∀ o,o∈out.take k++x::out.drop k ↔ o=x\/o∈out:=fun o=>by
  rw [List.mem_append,List.mem_cons];conv=>rhs;rw [hsp,List.mem_append]
  constructor
  ·rintro (h | h | h)
   ·exact .inr (.inl h)
   ·exact .inl h
   ·exact .inr (.inr h)
  ·rintro (h | h | h)
   ·exact .inr (.inl h)
   ·exact .inl h
   ·exact .inr (.inr h)
 refine ⟨?_,fun o ho=>?_,fun y hy hn=>?_⟩
 ·rw [List.pairwise_append,List.pairwise_cons];refine ⟨hr.1,⟨hgt,hr.2.1⟩,fun o ho y hy=>?_⟩;rcases List.mem_cons.1 hy with rfl | hy
  ·exact hlt o ho
  ·exact hr.2.2 o ho y hy
 ·rcases (hmem o).1 ho with rfl | ho
  ·refine ⟨by simp,hx,fun y hy hs=>?_⟩;rcases List.mem_append.1 hy with hy | hy
   ·obtain ⟨o',ho',hs'⟩:=h.all y hy (hs.symm.loop hx);exact absurd (hs'.trans hs) (hne o' ho')
   ·rw [List.mem_singleton.1 hy];exact Nat.le_refl _
  ·obtain ⟨g1,g2,g3⟩:=h.mem o ho;refine ⟨List.mem_append_left _ g1,g2,fun y hy hs=>?_⟩;rcases List.mem_append.1 hy with hy | hy
   ·exact g3 y hy hs
   ·rw [List.mem_singleton.1 hy] at hs;exact absurd hs.symm (hne o ho)
 ·rcases List.mem_append.1 hy with hy | hy
  ·obtain ⟨o,ho,hs⟩:=h.all y hy hn;exact ⟨o,(hmem o).2 (.inr ho),hs⟩
  ·rw [List.mem_singleton.1 hy];exact ⟨x,(hmem x).2 (.inl rfl),rfl,rfl⟩
theorem Best.over {b:Bool} {l out:List Edg} {x o:Edg} (h:Best b l out) {k:Nat} (ho:out[k]? = some o) (hs:same o x) (hr:rk x < rk o):Best b (l++[x]) (out.set k x):=by
 have hk:=(List.getElem?_eq_some_iff.1 ho).1;have hpk:pk b x=pk b o:=(pk_same (b:=b).2 hs).symm;have hget:∀ (i:Nat) (y:Edg),(out.set k x)[i]? = some y->(i=k/\y=x)\/(i≠k/\out[i]? = some y):=fun i y hy=>by
  rw [List.getElem?_set] at hy;split at hy
  ·rename_i e
   first
    | exact .inl ⟨e.symm,(Option.some.inj hy).symm⟩
    | (rw [if_pos hk] at hy;exact .inl ⟨e.symm,(Option.some.inj hy).symm⟩)
  ·rename_i e
   exact .inr ⟨fun e'=>e e'.symm,hy⟩
 have hpkg:∀ (i:Nat) (y:Edg),(out.set k x)[i]? = some y->∃ z,out[i]? = some z/\pk b z=pk b y:=fun i y hy=>by
  rcases hget i y hy with ⟨rfl,rfl⟩ | ⟨_,hy⟩
  ·exact ⟨o,ho,hpk.symm⟩
  ·exact ⟨y,hy,rfl⟩
 have ho':=h.mem o (List.mem_of_getElem? ho);refine ⟨?_,fun y hy=>?_,fun y hy hn=>?_⟩
 ·rw [List.pairwise_iff_getElem];intro i j hi hj hij;obtain ⟨z1,g1,e1⟩:=hpkg i _ (List.getElem?_eq_getElem hi);obtain ⟨z2,g2,e2⟩:=hpkg j _ (List.getElem?_eq_getElem hj);rw [<- e1,<- e2];exact pairwise_get h.rise hij g1 g2
 ·obtain ⟨i,hi,rfl⟩:=List.getElem_of_mem hy;rcases hget i _ (List.getElem?_eq_getElem hi) with ⟨_,e⟩ | ⟨hik,e⟩
  ·rw [e];refine ⟨by simp,hs.loop ho'.2.1,fun z hz hzs=>?_⟩;rcases List.mem_append.1 hz with hz | hz
   ·have:=ho'.2.2 z hz (hzs.trans hs.symm);omega
   ·rw [List.mem_singleton.1 hz];exact Nat.le_refl _
  ·generalize (out.set k x)[i]=y at *;obtain ⟨g1,g2,g3⟩:=h.mem y (List.mem_of_getElem? e);refine ⟨List.mem_append_left _ g1,g2,fun z hz hzs=>?_⟩;rcases List.mem_append.1 hz with hz | hz
   ·exact g3 z hz hzs
   ·rw [List.mem_singleton.1 hz] at hzs;have e1:=pk_same (b:=b).2 (hs.trans hzs);rcases Nat.lt_or_gt_of_ne hik with hlt | hlt
    ·have:=pairwise_get h.rise hlt e ho;omega
    ·have:=pairwise_get h.rise hlt ho e;omega
 ·have hin:∀ (i:Nat) (z:Edg),out[i]? = some z->∃ z'∈out.set k x,same z' z:=fun i z hz=>by
   by_cases hik:i=k
   ·subst hik;rw [ho] at hz;cases hz;exact ⟨x,List.mem_of_getElem? (i:=i) (by rw [List.getElem?_set,if_pos rfl,if_pos hk]),hs.symm⟩
   ·exact ⟨z,List.mem_of_getElem? (i:=i) (by rw [List.getElem?_set,if_neg (fun e=>hik e.symm)];exact hz),rfl,rfl⟩
  rcases List.mem_append.1 hy with hy | hy
  ·obtain ⟨z,hz,hzs⟩:=h.all y hy hn;obtain ⟨i,hi,rfl⟩:=List.getElem_of_mem hz;obtain ⟨z',h1,h2⟩:=hin i _ (List.getElem?_eq_getElem hi);exact ⟨z',h1,h2.trans hzs⟩
  ·rw [List.mem_singleton.1 hy];obtain ⟨z',h1,h2⟩:=hin k o ho;exact ⟨z',h1,h2.trans hs⟩
theorem Best.leave {b:Bool} {l out:List Edg} {x:Edg} (h:Best b l out) (hx:x.t=x.h\/∃ o∈out,same o x/\rk o<=rk x):Best b (l++[x]) out:=by
 refine ⟨h.rise,fun o ho=>?_,fun y hy hn=>?_⟩
 ·obtain ⟨g1,g2,g3⟩:=h.mem o ho;refine ⟨List.mem_append_left _ g1,g2,fun y hy hs=>?_⟩;rcases List.mem_append.1 hy with hy | hy
  ·exact g3 y hy hs
  ·rw [List.mem_singleton.1 hy] at hs ⊢;rcases hx with hx | ⟨o',ho',hs',hr⟩
   ·exact absurd hx (hs.symm.loop g2)
   ·have e:=pk_same (b:=b).2 (hs'.trans hs);obtain ⟨i,hi,rfl⟩:=List.getElem_of_mem ho;obtain ⟨j,hj,rfl⟩:=List.getElem_of_mem ho';rcases Nat.lt_trichotomy i j with hlt | rfl | hlt
    ·have:=pairwise_get h.rise hlt (List.getElem?_eq_getElem hi) (List.getElem?_eq_getElem hj);omega
    ·exact hr
    ·have:=pairwise_get h.rise hlt (List.getElem?_eq_getElem hj) (List.getElem?_eq_getElem hi);omega
 ·rcases List.mem_append.1 hy with hy | hy
  ·exact h.all y hy hn
  ·rw [List.mem_singleton.1 hy] at hn ⊢;rcases hx with hx | ⟨o',ho',hs',_⟩
   ·exact absurd hx hn
   ·exact ⟨o',ho',hs'⟩
theorem edgRow_upd {l:List Edg} {i:Nat} (hi:i < l.length) (x:Edg) :
 edgRow (l.set i x)=((((edgRow l).set (i*4) (.int .u32 (x.t.toNat:Int))).set (i*4+1) (.int .u32 (x.h.toNat:Int))).set (i*4+2) (.int .u64 (x.x.toNat:Int))).set (i*4+3) (.int .u32 (x.m.toNat:Int)):=by
 induction l generalizing i with
 | nil=>cases hi
 | cons y l ih=>
   cases i with
   | zero=>simp [edgRow,Edg.cells]
   | succ i=>
     rw [List.set_cons_succ,edgRow,edgRow,ih (by simpa using hi)];have e:(i+1)*4=i*4+1+1+1+1:=by omega
     rw [e];simp only [Edg.cells,List.cons_append,List.nil_append,List.set_cons_succ,Nat.add_assoc,Nat.reduceAdd]
theorem ownsEdges_set {w:World} {base g cap n:Nat} {l:List Edg} (h:ownsEdges w base (.slice (some ⟨g,0,none⟩) n cap) l) {i:Nat} (hi:i < l.length) (x:Edg) :
 ownsEdges ((((w.setCell ⟨g,i*4,none⟩ (.int .u32 (x.t.toNat:Int))).setCell ⟨g,i*4+1,none⟩ (.int .u32 (x.h.toNat:Int))).setCell ⟨g,i*4+2,none⟩ (.int .u64 (x.x.toNat:Int))).setCell ⟨g,i*4+3,none⟩ (.int .u32 (x.m.toNat:Int))) base (.slice (some ⟨g,0,none⟩) n cap) (l.set i x):=by
 have hn:n=l.length:=by
  obtain ⟨a,c,e⟩:=ownsRow_slice h;cases e;rfl
 subst hn;unfold ownsEdges at *;rw [List.length_set,edgRow_upd hi];exact ((((World.ownsRow.stored h _ _).1.stored _ _).1.stored _ _).1.stored _ _).1
theorem ownsEdges_free {w:World} {base g cap n:Nat} {l:List Edg} (h:ownsEdges w base (.slice (some ⟨g,0,none⟩) n cap) l) (j:Nat):w.frozen? ⟨g,j,none⟩=false:=by
 have hn:n=l.length:=by
  obtain ⟨a,c,e⟩:=ownsRow_slice h;cases e;rfl
 subst hn;exact World.ownsRow.frozenAt h j
theorem add_below {w W W':World} {v v':Value} {M:List Edg} {ob:Obj} (hb:Below w.heap.size w W) (hv:ownsEdges W w.heap.size v M) (ha:Appd v (W.alloc ob) W' v'):Below w.heap.size w W':=by
 obtain ⟨hg,_⟩:=ha;have hs:W.heap.size < (W.alloc ob).heap.size:=by simp
 refine hb.trans ⟨hg.os.trans rfl,hg.tape.trans rfl,hg.output.trans rfl,Nat.le_trans (Nat.le_of_lt hs) hg.size,fun x hx=>?_⟩;have:=hb.size;refine (hg.block x (by omega) (fun e=>?_)).trans ((MapKept.heap_alloc W ob).2 x (by omega));have:=(ownBlock_old hv x e.symm).2;omega
end
section
open Go.RowKit Go.Maps
def NewEdges (w:World) (es:List Edg) (e:Ending) (w':World):Prop:=∃ v,e=.returned v/\ownsEdges w' w.heap.size v es/\Below w.heap.size w w'
theorem rdE_cells {w:World} {a:Option Addr} {n cap:Nat} {es:List Edg} (h:RdE w (.slice a n cap) es):n=es.length/\∀ W,Below w.heap.size w W->∀ (i:Nat) (x:Edg),es[i]? = some x->∃ b off,a=some ⟨b,off,none⟩/\W.cell? ⟨b,off+i*4,none⟩=some (.int .u32 (x.t.toNat:Int))/\W.cell? ⟨b,off+i*4+1,none⟩=some (.int .u32 (x.h.toNat:Int))/\W.cell? ⟨b,off+i*4+2,none⟩=some (.int .u64 (x.x.toNat:Int))/\W.cell? ⟨b,off+i*4+3,none⟩=some (.int .u32 (x.m.toNat:Int)):=by
 have hn:n=es.length:=by
  obtain ⟨a',cap',he,_⟩:=h;cases he;rfl
 refine ⟨hn,fun W hB i x hx=>?_⟩;obtain ⟨a',cap',hve,hce⟩:=h.below hB;cases hve;rcases hce with h0 | ⟨b,off,h1,hc⟩
 ·have:=lt_of_get hx;omega
 ·exact ⟨b,off,h1,hc i x hx⟩
theorem take_snoc {es:List Edg} {i:Nat} {x:Edg} (h:es[i]? = some x):es.take (i+1)=es.take i++[x]:=by
 have hl:=lt_of_get h;rw [List.take_succ_eq_append_getElem hl];rw [List.getElem?_eq_getElem hl] at h;rw [Option.some.inj h]
theorem below_stores {w W:World} {g:Nat} (hb:Below w.heap.size w W) (hg:w.heap.size<=g) (a1 a2 a3 a4:Nat) (v1 v2 v3 v4:Value):Below w.heap.size w ((((W.setCell ⟨g,a1,none⟩ v1).setCell ⟨g,a2,none⟩ v2).setCell ⟨g,a3,none⟩ v3).setCell ⟨g,a4,none⟩ v4):=
 (((hb.setCell hg _).setCell hg _).setCell hg _).setCell hg _
theorem heap_stores {W:World} {g b:Nat} {ob:Option Obj} (hb:W.heap[b]? = ob) (hne:b≠g) (a1 a2 a3 a4:Nat) (v1 v2 v3 v4:Value):((((W.setCell ⟨g,a1,none⟩ v1).setCell ⟨g,a2,none⟩ v2).setCell ⟨g,a3,none⟩ v3).setCell ⟨g,a4,none⟩ v4).heap[b]? = ob:=by
 rw [Below.heap_setCell _ _ _ _ hne,Below.heap_setCell _ _ _ _ hne,Below.heap_setCell _ _ _ _ hne,Below.heap_setCell _ _ _ _ hne];exact hb
theorem shift_set {out:List Edg} {x y:Edg} {k at':Nat} (hk:at' < k) (hkl:k<=out.length) (hy:out[k - 1]? = some y):(out.take k++x::out.drop k).set k y=out.take (k - 1)++y::out.drop (k - 1):=by
 have h1:(out.take k).length=k:=by rw [List.length_take];omega
 rw [List.set_append_right _ _ (by omega),h1,Nat.sub_self,List.set_cons_zero];obtain ⟨q,rfl⟩:∃ q,k=q+1:=⟨k - 1,by omega⟩;rw [Nat.add_sub_cancel] at hy ⊢;have hq:q < out.length:=by omega
 rw [List.getElem?_eq_getElem hq] at hy;rw [List.take_succ_eq_append_getElem hq,List.append_assoc,List.drop_eq_getElem_cons hq,Option.some.inj hy];rfl
theorem shift_get {out:List Edg} {x y:Edg} {k:Nat} (hk:0 < k) (hkl:k<=out.length) (hy:out[k - 1]? = some y):(out.take k++x::out.drop k)[k - 1]? = some y:=by
 rw [List.getElem?_append_left (by rw [List.length_take];omega),List.getElem?_take,if_pos (by omega)];exact hy
theorem shift_last {out:List Edg} {x y:Edg} {k:Nat} (hkl:k<=out.length):(out.take k++y::out.drop k).set k x=out.take k++x::out.drop k:=by
 have h1:(out.take k).length=k:=by rw [List.length_take];omega
 rw [List.set_append_right _ _ (by omega),h1,Nat.sub_self,List.set_cons_zero]
def RedHead (w:World) (es:List Edg) (i:Nat) (v:Value) (W:World):Prop:=∃ out:List Edg,ownsEdges W w.heap.size v out/\Best false (es.take i) out/\out.length<=i/\Below w.heap.size w W
set_option maxRecDepth 100000 in
set_option maxHeartbeats 8000000 in
theorem reduce_any (v:Value) (es:List Edg) (w:World) (hv:RdE w v es) (hl:es.length<=10000):Calls Tryz.prog 80 #[v] w (NewEdges w (bestOf false es)):=by
 have HV:=Lib.hid hv;obtain ⟨a,cap,rfl,-⟩:=hv;obtain ⟨-,hcells⟩:=rdE_cells HV.out;have HC:=Lib.hid hcells;have HX:Hid (∀ i,i < es.length->∃ x,es[i]? = some x):=Lib.hid (fun i hi=>⟨_,List.getElem?_eq_getElem hi⟩);have HALL:Hid (es.take es.length=es):=Lib.hid (List.take_of_length_le (Nat.le_refl _));clear hcells;generalize hN:es.length=N at *;have HN:=Lib.hid hN;clear hN;go_enter Tryz.func80,Tryz.ntmps80
 go_wp2;go_loopw [3,4] (fun ov iv W=>∃ i:Nat,i<=N/\iv=.int .i64 (i:Int)/\RedHead w es i ov W) (fun _ iv _=>N - (intOf iv).toNat)
 case atStart=>exact ⟨0,Nat.zero_le _,rfl,[],World.ownsRow_nil _ _ _ _,Best.nil _,Nat.le_refl _,Below.refl _ _⟩
 case round=>
  generalize u3=ov at *;generalize wr=W0 at *;obtain ⟨i,hi,rfl,out,hr,hbest,hol,hb⟩:=hrel;have HR:=Lib.hid hr;have HBEST:=Lib.hid hbest;have HB:=Lib.hid hb;have hz:w.heap.size<=W0.heap.size:=hb.size;clear hr hbest hb;by_cases hlt:i < N
  ·obtain ⟨x,hx⟩:=HX.out i hlt;obtain ⟨be,oe,rfl,f0,f1,f2,f3⟩:=HC.out W0 HB.out i x hx;have HTK:=Lib.hid (take_snoc hx);clear hx;go_upto_region 6 with (fail)
   have HB1:Hid (Below W0.heap.size W0 (W0.alloc (.cells #[.int .u32 (x.t.toNat:Int), .int .u32 (x.h.toNat:Int), .int .u64 (x.x.toNat:Int), .int .u32 (x.m.toNat:Int)] 64))):=Lib.hid ((Below.refl _ _).alloc (Nat.le_refl _) _);have HQ1:Hid ((W0.alloc (.cells #[.int .u32 (x.t.toNat:Int), .int .u32 (x.h.toNat:Int), .int .u64 (x.x.toNat:Int), .int .u32 (x.m.toNat:Int)] 64)).heap[W0.heap.size]? = some (.cells #[.int .u32 (x.t.toNat:Int), .int .u32 (x.h.toNat:Int), .int .u64 (x.x.toNat:Int), .int .u32 (x.m.toNat:Int)] 64)):=Lib.hid (heap_alloc_new W0 _);have hs1:W0.heap.size < (W0.alloc (.cells #[.int .u32 (x.t.toNat:Int), .int .u32 (x.h.toNat:Int), .int .u64 (x.x.toNat:Int), .int .u32 (x.m.toNat:Int)] 64)).heap.size:=by simp
   clear f0 f1 f2 f3;generalize W0.alloc (.cells #[.int .u32 (x.t.toNat:Int), .int .u32 (x.h.toNat:Int), .int .u64 (x.x.toNat:Int), .int .u32 (x.m.toNat:Int)] 64)=W1 at *;have HBW1:=Lib.hid (HB.out.trans (HB1.out.mono hz));have HR1:Hid (ownsEdges W1 w.heap.size ov out):=Lib.hid (ownsRow_below HR.out HB1.out);have HNX:Hid (∀ y,ov.ownBlock=some y->y < W0.heap.size):=Lib.hid (fun y hy=>(ownBlock_old HR.out y hy).1);generalize W0.heap.size=xb at *;have hz1:w.heap.size<=W1.heap.size:=by omega
   clear HB HB1;have hxc:∀ W:World,W.heap[xb]? = some (.cells #[.int .u32 (x.t.toNat:Int), .int .u32 (x.h.toNat:Int), .int .u64 (x.x.toNat:Int), .int .u32 (x.m.toNat:Int)] 64)->W.cell? ⟨xb,0,none⟩=some (.int .u32 (x.t.toNat:Int))/\W.cell? ⟨xb,1,none⟩=some (.int .u32 (x.h.toNat:Int))/\W.cell? ⟨xb,2,none⟩=some (.int .u64 (x.x.toNat:Int))/\W.cell? ⟨xb,3,none⟩=some (.int .u32 (x.m.toNat:Int)):=fun W hW=>by
    refine ⟨?_,?_,?_,?_⟩<;>rw [cells_cell hW]<;>rfl
   have HXC:=Lib.hid hxc;clear hxc;by_cases hloop:x.t=x.h
   ·have HBL:Hid (Best false (es.take (i+1)) out):=Lib.hid (by rw [HTK.out];exact HBEST.out.leave (.inl hloop));obtain ⟨c0,c1,-,-⟩:=HXC.out W1 HQ1.out;rw [hloop] at c0;clear hloop;go_wp2;go_roundw
    case rel=>exact ⟨i+1,by omega,by go_num,out,HR1.out,HBL.out,by omega,HBW1.out⟩
    case measure=>simp [intOf];omega
   ·obtain ⟨a1,a2,a3,a4,a5⟩:=u32_ne hloop;have HLOOP:=Lib.hid hloop;obtain ⟨c0,c1,-,-⟩:=HXC.out W1 HQ1.out;obtain ⟨oa,oc,hve⟩:∃ oa oc,ov=.slice oa out.length oc:=ownsRow_slice HR1.out;subst hve;have HOC:Hid (∀ W,Below W1.heap.size W1 W->∀ (j:Nat) (o:Edg),out[j]? = some o->∃ g,oa=some ⟨g,0,none⟩/\W.cell? ⟨g,j*4,none⟩=some (.int .u32 (o.t.toNat:Int))/\W.cell? ⟨g,j*4+1,none⟩=some (.int .u32 (o.h.toNat:Int))/\W.cell? ⟨g,j*4+2,none⟩=some (.int .u64 (o.x.toNat:Int))/\W.cell? ⟨g,j*4+3,none⟩=some (.int .u32 (o.m.toNat:Int))):=Lib.hid (fun W hB j o ho=>by
     rcases ownsEdges_shape HR1.out with ⟨h1,h2⟩ | ⟨g,cap,h1,hg,hc1,hc2⟩
     ·rw [h1] at ho;cases ho
     ·cases h1;obtain ⟨e0,e1,e2,e3⟩:=ownsEdges_cells HR1.out ho;exact ⟨g,rfl,cellBelow hB e0,cellBelow hB e1,cellBelow hB e2,cellBelow hB e3⟩)
    have HOX:Hid (∀ j,j < out.length->∃ o,out[j]? = some o):=Lib.hid (fun j hj=>⟨_,List.getElem?_eq_getElem hj⟩);generalize hn0:out.length=n0 at *;have HN0:=Lib.hid hn0;clear hn0;go_wp2;go_loopw [6] (fun kv W=>∃ k:Nat,k<=n0/\kv=.int .i64 (k:Int)/\(∀ (j:Nat) (o:Edg),j < k->out[j]? = some o->pk false o < pk false x)/\Below W1.heap.size W1 W) (fun kv _=>n0 - (intOf kv).toNat)
    case atStart=>exact ⟨0,Nat.zero_le _,rfl,(fun j o hj=>absurd hj (Nat.not_lt_zero _)),Below.refl _ _⟩
    case round=>
     generalize wr=W2 at *;clear a1 a2 a3 a4 a5 c0 c1;obtain ⟨k,hk,rfl,hlo,hb2⟩:=hrel;have HLO:=Lib.hid hlo;have HB2:=Lib.hid hb2;clear hlo hb2;have HX2:Hid (∀ W,Below W2.heap.size W2 W->W.heap[xb]? = some (.cells #[.int .u32 (x.t.toNat:Int), .int .u32 (x.h.toNat:Int), .int .u64 (x.x.toNat:Int), .int .u32 (x.m.toNat:Int)] 64)):=Lib.hid (fun W hB=>((hB.block _ (Nat.lt_of_lt_of_le hs1 HB2.out.size)).trans (HB2.out.block _ hs1)).trans HQ1.out);by_cases hkl:k < n0
     ·obtain ⟨o,ho⟩:=HOX.out k hkl;have HO:=Lib.hid ho;clear ho;obtain ⟨g,rfl,-⟩:=HOC.out W2 HB2.out k o HO.out;have HOW:Hid (∀ W,Below W2.heap.size W2 W->W.cell? ⟨g,k*4,none⟩=some (.int .u32 (o.t.toNat:Int))/\W.cell? ⟨g,k*4+1,none⟩=some (.int .u32 (o.h.toNat:Int))/\W.cell? ⟨g,k*4+2,none⟩=some (.int .u64 (o.x.toNat:Int))/\W.cell? ⟨g,k*4+3,none⟩=some (.int .u32 (o.m.toNat:Int))):=Lib.hid (fun W hB=>by
       obtain ⟨g',e,r⟩:=HOC.out W (HB2.out.trans (hB.mono HB2.out.size)) k o HO.out;cases e;exact r)
      have hcall:=Lib.hid (fun W=>ahead05_any o x W);obtain ⟨r,hr0⟩:∃ r:Bool,r=decide (pk false o < pk false x):=⟨_,rfl⟩;rw [<- hr0] at hcall;have HRR:=Lib.hid hr0;clear hr0;go_wp2_with fail
      refine wq W2 ?_;iterate 8 (refine qo (fun K hK=>?_);go_simp;refine hK _ ?_;clear hK K)
      refine qo (fun K hK=>?_) (fun w' hw'=>by obtain ⟨e0,e1,e2,e3⟩:=HOW.out w' hw';go_simp<;>rfl);go_simp;refine hK _ ?_;clear hK K;refine qo (fun K hK=>?_) (fun w' hw'=>by obtain ⟨e0,e1,e2,e3⟩:=HXC.out w' (HX2.out w' hw');go_simp<;>rfl);go_simp;refine hK _ ?_;clear hK K;refine qc (fun w' hw'=>(hcall.out w').mono fun e w'' ⟨he,hb⟩=>⟨he,hw'.trans (hb.mono hw'.size)⟩) (fun K hK=>?_);go_simp;refine hK _ ?_;clear hK K;refine qo (fun K hK=>?_);go_simp;refine hK _ ?_;clear hK K;refine wpQuiet_nil ?_;intro W3 hb3;have HB3:=Lib.hid (HB2.out.trans (hb3.mono HB2.out.size));have HX3:Hid (∀ W,Below W3.heap.size W3 W->W.heap[xb]? = some (.cells #[.int .u32 (x.t.toNat:Int), .int .u32 (x.h.toNat:Int), .int .u64 (x.x.toNat:Int), .int .u32 (x.m.toNat:Int)] 64)):=Lib.hid (fun W hB=>HX2.out W (hb3.trans (hB.mono hb3.size)));clear hb3 HX2;cases r with
      | true=>
        have HLO':Hid (∀ (j:Nat) (o':Edg),j < k+1->out[j]? = some o'->pk false o' < pk false x):=Lib.hid (fun j o' hj ho'=>by
         rcases Nat.lt_or_ge j k with h | h
         ·exact HLO.out j o' h ho'
         ·obtain rfl:j=k:=by omega
          rw [HO.out] at ho';rw [<- Option.some.inj ho'];exact of_decide_eq_true HRR.out.symm)
        go_wp2;go_roundw
        case rel=>exact ⟨k+1,by omega,by go_num,HLO'.out,HB3.out⟩
        case measure=>simp [intOf];omega
      | false=>
        have HGE:Hid (¬ pk false o < pk false x):=Lib.hid (of_decide_eq_false HRR.out.symm);have HOW3:Hid (∀ W,Below W3.heap.size W3 W->W.cell? ⟨g,k*4,none⟩=some (.int .u32 (o.t.toNat:Int))/\W.cell? ⟨g,k*4+1,none⟩=some (.int .u32 (o.h.toNat:Int))/\W.cell? ⟨g,k*4+2,none⟩=some (.int .u64 (o.x.toNat:Int))/\W.cell? ⟨g,k*4+3,none⟩=some (.int .u32 (o.m.toNat:Int))):=Lib.hid (fun W hB=>by
         obtain ⟨g',e,r⟩:=HOC.out W (HB3.out.trans (hB.mono HB3.out.size)) k o HO.out;cases e;exact r)
        have hcall2:=Lib.hid (fun W=>ahead05_any x o W);obtain ⟨r2,hr2⟩:∃ r:Bool,r=decide (pk false x < pk false o):=⟨_,rfl⟩;rw [<- hr2] at hcall2;have HRR2:=Lib.hid hr2;clear hr2 hcall HOW;go_wp2_with fail
        refine wq W3 ?_;iterate 5 (refine qo (fun K hK=>?_);go_simp;refine hK _ ?_;clear hK K)
        refine qo (fun K hK=>?_) (fun w' hw'=>by obtain ⟨e0,e1,e2,e3⟩:=HXC.out w' (HX3.out w' hw');go_simp<;>rfl);go_simp;refine hK _ ?_;clear hK K;iterate 3 (refine qo (fun K hK=>?_);go_simp;refine hK _ ?_;clear hK K)
        refine qo (fun K hK=>?_) (fun w' hw'=>by obtain ⟨e0,e1,e2,e3⟩:=HOW3.out w' hw';go_simp<;>rfl);go_simp;refine hK _ ?_;clear hK K;refine qc (fun w' hw'=>(hcall2.out w').mono fun e w'' ⟨he,hb⟩=>⟨he,hw'.trans (hb.mono hw'.size)⟩) (fun K hK=>?_);go_simp;refine hK _ ?_;clear hK K;iterate 2 (refine qo (fun K hK=>?_);go_simp;refine hK _ ?_;clear hK K)
        refine wpQuiet_nil ?_;intro W4 hb4;have HB4:=Lib.hid (HB3.out.trans (hb4.mono HB3.out.size));have HX4:Hid (∀ W,Below W4.heap.size W4 W->W.heap[xb]? = some (.cells #[.int .u32 (x.t.toNat:Int), .int .u32 (x.h.toNat:Int), .int .u64 (x.x.toNat:Int), .int .u32 (x.m.toNat:Int)] 64)):=Lib.hid (fun W hB=>HX3.out W (hb4.trans (hB.mono hb4.size)));clear hb4 HX3 hcall2 HOW3;cases r2 with
        | false=>
          have HPK:Hid (pk false o=pk false x):=Lib.hid (by
           have h1:=HGE.out;have h2:=of_decide_eq_false HRR2.out.symm;omega)
          have HOW4:Hid (∀ W,Below W4.heap.size W4 W->W.cell? ⟨g,k*4,none⟩=some (.int .u32 (o.t.toNat:Int))/\W.cell? ⟨g,k*4+1,none⟩=some (.int .u32 (o.h.toNat:Int))/\W.cell? ⟨g,k*4+2,none⟩=some (.int .u64 (o.x.toNat:Int))/\W.cell? ⟨g,k*4+3,none⟩=some (.int .u32 (o.m.toNat:Int))):=Lib.hid (fun W hB=>by
           obtain ⟨g',e,r⟩:=HOC.out W (HB4.out.trans (hB.mono HB4.out.size)) k o HO.out;cases e;exact r)
          have hcall3:=Lib.hid (fun W=>better03_any x o W);obtain ⟨r3,hr3⟩:∃ r:Bool,r=decide (rk x < rk o):=⟨_,rfl⟩;rw [<- hr3] at hcall3;have HRR3:=Lib.hid hr3;clear hr3;go_wp2_with fail
          refine wq W4 ?_;refine qo (fun K hK=>?_) (fun w' hw'=>by obtain ⟨e0,e1,e2,e3⟩:=HXC.out w' (HX4.out w' hw');go_simp<;>rfl);go_simp;refine hK _ ?_;clear hK K;iterate 3 (refine qo (fun K hK=>?_);go_simp;refine hK _ ?_;clear hK K)
          refine qo (fun K hK=>?_) (fun w' hw'=>by obtain ⟨e0,e1,e2,e3⟩:=HOW4.out w' hw';go_simp<;>rfl);go_simp;refine hK _ ?_;clear hK K;refine qc (fun w' hw'=>(hcall3.out w').mono fun e w'' ⟨he,hb⟩=>⟨he,hw'.trans (hb.mono hw'.size)⟩) (fun K hK=>?_);go_simp;refine hK _ ?_;clear hK K;refine wpQuiet_nil ?_;intro W5 hb5;have HB5:=Lib.hid (HB4.out.trans (hb5.mono HB4.out.size));have HR5:Hid (ownsEdges W5 w.heap.size (.slice (some ⟨g,0,none⟩) n0 oc) out):=Lib.hid (ownsRow_below HR1.out HB5.out);have HX5:Hid (W5.heap[xb]? = some (.cells #[.int .u32 (x.t.toNat:Int), .int .u32 (x.h.toNat:Int), .int .u64 (x.x.toNat:Int), .int .u32 (x.m.toNat:Int)] 64)):=Lib.hid (HX4.out W5 hb5);have HBW5:=Lib.hid (HBW1.out.trans (HB5.out.mono hz1));clear hb5 HX4 hcall3 HOW4;cases r3 with
          | true=>
            have HBO:Hid (Best false (es.take (i+1)) (out.set k x)):=Lib.hid (by
             rw [HTK.out];exact HBEST.out.over HO.out (pk_same.1 HPK.out) (of_decide_eq_true HRR3.out.symm))
            have hown:=ownsEdges_set HR5.out (i:=k) (by rw [HN0.out];exact hkl) x;obtain ⟨e0,e1,e2,e3⟩:=ownsEdges_cells (by rw [HN0.out];exact HR5.out) HO.out;obtain ⟨c0,c1,c2,c3⟩:=HXC.out W5 HX5.out;have z0:=ownsEdges_free HR5.out (k*4);have z1:=ownsEdges_free HR5.out (k*4+1);have z2:=ownsEdges_free HR5.out (k*4+2);have z3:=ownsEdges_free HR5.out (k*4+3);have hgw:w.heap.size<=g:=ownsRow_block HR5.out g rfl;have HBS:=Lib.hid (below_stores HBW5.out hgw (k*4) (k*4+1) (k*4+2) (k*4+3) (.int .u32 (x.t.toNat:Int)) (.int .u32 (x.h.toNat:Int)) (.int .u64 (x.x.toNat:Int)) (.int .u32 (x.m.toNat:Int)));have HOWN:=Lib.hid hown;clear hown;go_wp2;go_roundw
            case rel=>exact ⟨i+1,by omega,by go_num,out.set k x,HOWN.out,HBO.out,by rw [List.length_set,HN0.out];omega,HBS.out⟩
            case measure=>simp [intOf];omega
          | false=>
            have HBL:Hid (Best false (es.take (i+1)) out):=Lib.hid (by
             rw [HTK.out];exact HBEST.out.leave (.inr ⟨o,List.mem_of_getElem? HO.out,pk_same.1 HPK.out,by have:=of_decide_eq_false HRR3.out.symm;omega⟩))
            go_wp2;go_roundw
            case rel=>exact ⟨i+1,by omega,by go_num,out,HR5.out,HBL.out,by rw [HN0.out];omega,HBW5.out⟩
            case measure=>simp [intOf];omega
        | true=>
          have HLAY:Hid (Best false (es.take (i+1)) (out.take k++x::out.drop k)):=Lib.hid (by
           rw [HTK.out];refine HBEST.out.lay HLOOP.out (by rw [HN0.out];exact hk) HLO.out (fun j o' hj ho'=>?_);have h1:pk false x < pk false o:=of_decide_eq_true HRR2.out.symm;rcases Nat.eq_or_lt_of_le hj with rfl | hlt
           ·rw [HO.out] at ho';rw [<- Option.some.inj ho'];exact h1
           ·exact Nat.lt_trans h1 (pairwise_get HBEST.out.rise hlt HO.out ho'))
          have HBX:=HB4;clear HX4 HRR HRR2;have HRx:Hid (ownsEdges W4 w.heap.size (.slice (some ⟨g,0,none⟩) n0 oc) out):=Lib.hid (ownsRow_below HR1.out HBX.out);have hzx:w.heap.size<=W4.heap.size:=Nat.le_trans hz1 HBX.out.size;have hln:out.length<=100000:=by rw [HN0.out];omega
          have hxx:xb < W4.heap.size:=Nat.lt_of_lt_of_le hs1 HBX.out.size;have HX0:Hid (W4.heap[xb]? = some (.cells #[.int .u32 (x.t.toNat:Int), .int .u32 (x.h.toNat:Int), .int .u64 (x.x.toNat:Int), .int .u32 (x.m.toNat:Int)] 64)):=Lib.hid ((HBX.out.block _ hs1).trans HQ1.out);obtain ⟨c0,c1,c2,c3⟩:=HXC.out W4 HX0.out;go_wp2_with (at_builtin;refine wpList_append_edge rfl _ _ rfl w.heap.size _ out rfl HRx.out x 1 rfl hln hzx ?_)
          intro v6 W6 hr6 ha6;have HB6:=Lib.hid (add_below (HBW1.out.trans (HBX.out.mono hz1)) HRx.out ha6);have hal:W4.heap.size < (W4.alloc (.cells #[.int .u32 (x.t.toNat:Int), .int .u32 (x.h.toNat:Int), .int .u64 (x.x.toNat:Int), .int .u32 (x.m.toNat:Int)] 64)).heap.size:=by simp
          have HXB6:Hid (W6.heap[xb]? = some (.cells #[.int .u32 (x.t.toNat:Int), .int .u32 (x.h.toNat:Int), .int .u64 (x.x.toNat:Int), .int .u32 (x.m.toNat:Int)] 64)):=Lib.hid (((ha6.1.block xb (by omega) (fun e=>by have:=HNX.out xb e.symm;omega)).trans ((MapKept.heap_alloc W4 _).2 xb hxx)).trans HX0.out);have hnx6:∀ y,v6.ownBlock=some y->xb≠y:=fun y hy e=>by
           rcases ha6.2 with h | h
           ·rw [h] at hy;have:=HNX.out y hy;omega
           ·rw [h] at hy;have:=Option.some.inj hy;omega
          obtain ⟨n1,hn1⟩:∃ n1:Nat,n1=n0+1:=⟨_,rfl⟩;have hlen6:(out++[x]).length=n1:=by rw [List.length_append,HN0.out,hn1];rfl
          obtain ⟨g6,c6,rfl⟩:∃ g c,v6=.slice (some ⟨g,0,none⟩) n1 c:=by
           rcases ownsEdges_shape hr6 with ⟨h1,_⟩ | ⟨g,c,h1,_⟩
           ·simp at h1
           ·exact ⟨g,c,by rw [<- hlen6];exact h1⟩
          have hne6:xb≠g6:=hnx6 g6 rfl;have hg6:w.heap.size<=g6:=ownsRow_block hr6 g6 rfl;have hn1':(n1:Int) - 1=(n0:Int):=by omega
          have hn1p:n0 < n1:=by omega
          have hcap6:n1<=c6/\c6<=maxLen:=by
           rcases ownsEdges_shape hr6 with ⟨h1,_⟩ | ⟨g,c,h1,_,h2,h3⟩
           ·simp at h1
           ·rw [hlen6] at h1 h2;cases h1;exact ⟨h2,h3⟩
          obtain ⟨hcap61,hcap62⟩:=hcap6;unfold maxLen at hcap62;have HR6:Hid (ownsEdges W6 w.heap.size (.slice (some ⟨g6,0,none⟩) n1 c6) (out.take n0++x::out.drop n0)):=Lib.hid (by
           rw [List.take_of_length_le (by rw [HN0.out];exact Nat.le_refl _),List.drop_of_length_le (by rw [HN0.out];exact Nat.le_refl _)];exact hr6)
          have HN1:=Lib.hid hn1;clear hr6 ha6 hnx6 hlen6 hn1 hal c0 c1 c2 c3;go_wp2;go_loopw [7] (fun kv W=>∃ (kk:Nat) (y:Edg),k<=kk/\kk<=n0/\kv=.int .i64 (kk:Int)/\ownsEdges W w.heap.size (.slice (some ⟨g6,0,none⟩) n1 c6) (out.take kk++y::out.drop kk)/\Below w.heap.size w W/\W.heap[xb]? = some (.cells #[.int .u32 (x.t.toNat:Int), .int .u32 (x.h.toNat:Int), .int .u64 (x.x.toNat:Int), .int .u32 (x.m.toNat:Int)] 64)) (fun kv _=>(intOf kv).toNat)
          case atStart=>exact ⟨n0,x,hk,Nat.le_refl _,rfl,HR6.out,HB6.out,HXB6.out⟩
          case round=>
           generalize wr=W7 at *;obtain ⟨kk,y,hkk1,hkk2,rfl,hr7,hb7,hx7⟩:=hrel;have HR7:=Lib.hid hr7;have HB7:=Lib.hid hb7;have HX7:=Lib.hid hx7;clear hr7 hb7 hx7;have hMl:(out.take kk++y::out.drop kk).length=n1:=by
            rw [List.length_append,List.length_cons,List.length_take,List.length_drop,HN0.out,HN1.out];omega
           have HML:=Lib.hid hMl;clear hMl;have HKY:Hid ((out.take kk++y::out.drop kk)[kk]? = some y):=Lib.hid (by
            rw [List.getElem?_append_right (by rw [List.length_take];omega),List.length_take,HN0.out,Nat.min_eq_left hkk2,Nat.sub_self];rfl)
           obtain ⟨p0,p1,p2,p3⟩:=ownsEdges_cells (by rw [HML.out];exact HR7.out) HKY.out;have z0:=ownsEdges_free HR7.out (kk*4);have z1:=ownsEdges_free HR7.out (kk*4+1);have z2:=ownsEdges_free HR7.out (kk*4+2);have z3:=ownsEdges_free HR7.out (kk*4+3);by_cases hgt:k < kk
           ·obtain ⟨q,hq⟩:∃ q:Nat,(q:Int)=(kk:Int) - 1:=⟨kk - 1,by omega⟩;have hq':(kk:Int) - 1=(q:Int):=hq.symm;have hqk:kk - 1=q:=by omega
            have HQK:=Lib.hid hqk;have hqn:q < n1:=by omega
            have hql:q < out.length:=by rw [HN0.out];omega
            obtain ⟨z,hz⟩:∃ z,out[q]? = some z:=⟨_,List.getElem?_eq_getElem hql⟩;have hzz:out[kk - 1]? = some z:=by rw [hqk];exact hz
            have HZ:Hid ((out.take kk++y::out.drop kk)[q]? = some z):=Lib.hid (by
             have:=shift_get (x:=y) (by omega) (by rw [HN0.out];exact hkk2) hzz;rw [hqk] at this;exact this)
            have HSET:Hid ((out.take kk++y::out.drop kk).set kk z=out.take q++z::out.drop q):=Lib.hid (by
             have:=shift_set (x:=y) hgt (by rw [HN0.out];exact hkk2) hzz;rw [hqk] at this;exact this)
            have hown:=ownsEdges_set HR7.out (i:=kk) (by rw [HML.out];omega) z;rw [HSET.out] at hown;have HOWN:=Lib.hid hown;obtain ⟨s0,s1,s2,s3⟩:=ownsEdges_cells (by rw [HML.out];exact HR7.out) HZ.out;have HBS:=Lib.hid (below_stores HB7.out hg6 (kk*4) (kk*4+1) (kk*4+2) (kk*4+3) (.int .u32 (z.t.toNat:Int)) (.int .u32 (z.h.toNat:Int)) (.int .u64 (z.x.toNat:Int)) (.int .u32 (z.m.toNat:Int)));have HXS:=Lib.hid (heap_stores HX7.out hne6 (kk*4) (kk*4+1) (kk*4+2) (kk*4+3) (.int .u32 (z.t.toNat:Int)) (.int .u32 (z.h.toNat:Int)) (.int .u64 (z.x.toNat:Int)) (.int .u32 (z.m.toNat:Int)));clear hq hqk hz hzz hown hql;go_wp2;go_roundw
            case rel=>exact ⟨q,z,by omega,by omega,by first | rfl | go_num,HOWN.out,HBS.out,HXS.out⟩
            case measure=>simp [intOf];omega
           ·obtain rfl:kk=k:=by omega
            obtain ⟨c0,c1,c2,c3⟩:=HXC.out W7 HX7.out;have hown:=ownsEdges_set HR7.out (i:=kk) (by rw [HML.out];omega) x;rw [shift_last (by rw [HN0.out];exact hkk2)] at hown;have HOWN:=Lib.hid hown;have HBS:=Lib.hid (below_stores HB7.out hg6 (kk*4) (kk*4+1) (kk*4+2) (kk*4+3) (.int .u32 (x.t.toNat:Int)) (.int .u32 (x.h.toNat:Int)) (.int .u64 (x.x.toNat:Int)) (.int .u32 (x.m.toNat:Int)));have hkn1:kk < n1:=by omega
            clear hown;go_wp2;go_roundw
            case rel=>exact ⟨i+1,by omega,by go_num,out.take kk++x::out.drop kk,HOWN.out,HLAY.out,by rw [List.length_append,List.length_cons,List.length_take,List.length_drop,HN0.out];omega,HBS.out⟩
            case measure=>simp [intOf];omega
     ·obtain rfl:n0=k:=by omega
      have HLAY:Hid (Best false (es.take (i+1)) (out.take n0++x::out.drop n0)):=Lib.hid (by
       rw [HTK.out];refine HBEST.out.lay HLOOP.out (by rw [HN0.out];exact Nat.le_refl _) HLO.out (fun j o' hj ho'=>?_);have:=lt_of_get ho';rw [HN0.out] at this;omega)
      have hdd:decide ((n0:Int) < (n0:Int))=false:=decide_eq_false (by omega);have hdd':decide (n0 < n0)=false:=decide_eq_false (by omega);go_wp2_with fail
      go_quiet (fail)
      have hb3:Below W2.heap.size W2 (W2.drewN nq):=below_drewN (Below.refl _ _) _;have HB3:=Lib.hid (HB2.out.trans (hb3.mono HB2.out.size));clear hb3;generalize W2.drewN nq=W3 at *;go_wp2_with fail
      go_quiet (fail)
      have hb4:Below W3.heap.size W3 (W3.drewN nq):=below_drewN (Below.refl _ _) _;have HBX:=Lib.hid (HB3.out.trans (hb4.mono HB3.out.size));clear hb4 hdd hdd';generalize W3.drewN nq=W4 at *;have HRx:Hid (ownsEdges W4 w.heap.size (.slice oa n0 oc) out):=Lib.hid (ownsRow_below HR1.out HBX.out);have hzx:w.heap.size<=W4.heap.size:=Nat.le_trans hz1 HBX.out.size;have hln:out.length<=100000:=by rw [HN0.out];omega
      have hxx:xb < W4.heap.size:=Nat.lt_of_lt_of_le hs1 HBX.out.size;have HX0:Hid (W4.heap[xb]? = some (.cells #[.int .u32 (x.t.toNat:Int), .int .u32 (x.h.toNat:Int), .int .u64 (x.x.toNat:Int), .int .u32 (x.m.toNat:Int)] 64)):=Lib.hid ((HBX.out.block _ hs1).trans HQ1.out);obtain ⟨c0,c1,c2,c3⟩:=HXC.out W4 HX0.out;go_wp2_with (at_builtin;refine wpList_append_edge rfl _ _ rfl w.heap.size _ out rfl HRx.out x 1 rfl hln hzx ?_)
      intro v6 W6 hr6 ha6;have HB6:=Lib.hid (add_below (HBW1.out.trans (HBX.out.mono hz1)) HRx.out ha6);have hal:W4.heap.size < (W4.alloc (.cells #[.int .u32 (x.t.toNat:Int), .int .u32 (x.h.toNat:Int), .int .u64 (x.x.toNat:Int), .int .u32 (x.m.toNat:Int)] 64)).heap.size:=by simp
      have HXB6:Hid (W6.heap[xb]? = some (.cells #[.int .u32 (x.t.toNat:Int), .int .u32 (x.h.toNat:Int), .int .u64 (x.x.toNat:Int), .int .u32 (x.m.toNat:Int)] 64)):=Lib.hid (((ha6.1.block xb (by omega) (fun e=>by have:=HNX.out xb e.symm;omega)).trans ((MapKept.heap_alloc W4 _).2 xb hxx)).trans HX0.out);have hnx6:∀ y,v6.ownBlock=some y->xb≠y:=fun y hy e=>by
       rcases ha6.2 with h | h
       ·rw [h] at hy;have:=HNX.out y hy;omega
       ·rw [h] at hy;have:=Option.some.inj hy;omega
      obtain ⟨n1,hn1⟩:∃ n1:Nat,n1=n0+1:=⟨_,rfl⟩;have hlen6:(out++[x]).length=n1:=by rw [List.length_append,HN0.out,hn1];rfl
      obtain ⟨g6,c6,rfl⟩:∃ g c,v6=.slice (some ⟨g,0,none⟩) n1 c:=by
       rcases ownsEdges_shape hr6 with ⟨h1,_⟩ | ⟨g,c,h1,_⟩
       ·simp at h1
       ·exact ⟨g,c,by rw [<- hlen6];exact h1⟩
      have hne6:xb≠g6:=hnx6 g6 rfl;have hg6:w.heap.size<=g6:=ownsRow_block hr6 g6 rfl;have hn1':(n1:Int) - 1=(n0:Int):=by omega
      have hn1p:n0 < n1:=by omega
      have hcap6:n1<=c6/\c6<=maxLen:=by
       rcases ownsEdges_shape hr6 with ⟨h1,_⟩ | ⟨g,c,h1,_,h2,h3⟩
       ·simp at h1
       ·rw [hlen6] at h1 h2;cases h1;exact ⟨h2,h3⟩
      obtain ⟨hcap61,hcap62⟩:=hcap6;unfold maxLen at hcap62;have HR6:Hid (ownsEdges W6 w.heap.size (.slice (some ⟨g6,0,none⟩) n1 c6) (out.take n0++x::out.drop n0)):=Lib.hid (by
       rw [List.take_of_length_le (by rw [HN0.out];exact Nat.le_refl _),List.drop_of_length_le (by rw [HN0.out];exact Nat.le_refl _)];exact hr6)
      have HN1:=Lib.hid hn1;clear hr6 ha6 hnx6 hlen6 hn1 hal c0 c1 c2 c3;go_wp2;go_loopw [7] (fun kv W=>∃ (kk:Nat) (y:Edg),n0<=kk/\kk<=n0/\kv=.int .i64 (kk:Int)/\ownsEdges W w.heap.size (.slice (some ⟨g6,0,none⟩) n1 c6) (out.take kk++y::out.drop kk)/\Below w.heap.size w W/\W.heap[xb]? = some (.cells #[.int .u32 (x.t.toNat:Int), .int .u32 (x.h.toNat:Int), .int .u64 (x.x.toNat:Int), .int .u32 (x.m.toNat:Int)] 64)) (fun kv _=>(intOf kv).toNat)
      case atStart=>exact ⟨n0,x,hk,Nat.le_refl _,rfl,HR6.out,HB6.out,HXB6.out⟩
      case round=>
       generalize wr=W7 at *;obtain ⟨kk,y,hkk1,hkk2,rfl,hr7,hb7,hx7⟩:=hrel;have HR7:=Lib.hid hr7;have HB7:=Lib.hid hb7;have HX7:=Lib.hid hx7;clear hr7 hb7 hx7;have hMl:(out.take kk++y::out.drop kk).length=n1:=by
        rw [List.length_append,List.length_cons,List.length_take,List.length_drop,HN0.out,HN1.out];omega
       have HML:=Lib.hid hMl;clear hMl;have HKY:Hid ((out.take kk++y::out.drop kk)[kk]? = some y):=Lib.hid (by
        rw [List.getElem?_append_right (by rw [List.length_take];omega),List.length_take,HN0.out,Nat.min_eq_left hkk2,Nat.sub_self];rfl)
       obtain ⟨p0,p1,p2,p3⟩:=ownsEdges_cells (by rw [HML.out];exact HR7.out) HKY.out;have z0:=ownsEdges_free HR7.out (kk*4);have z1:=ownsEdges_free HR7.out (kk*4+1);have z2:=ownsEdges_free HR7.out (kk*4+2);have z3:=ownsEdges_free HR7.out (kk*4+3);by_cases hgt:n0 < kk
       ·omega
       ·obtain rfl:kk=n0:=by omega
        obtain ⟨c0,c1,c2,c3⟩:=HXC.out W7 HX7.out;have hown:=ownsEdges_set HR7.out (i:=kk) (by rw [HML.out];omega) x;rw [shift_last (by rw [HN0.out];exact hkk2)] at hown;have HOWN:=Lib.hid hown;have HBS:=Lib.hid (below_stores HB7.out hg6 (kk*4) (kk*4+1) (kk*4+2) (kk*4+3) (.int .u32 (x.t.toNat:Int)) (.int .u32 (x.h.toNat:Int)) (.int .u64 (x.x.toNat:Int)) (.int .u32 (x.m.toNat:Int)));have hkn1:kk < n1:=by omega
        clear hown;go_wp2;go_roundw
        case rel=>exact ⟨i+1,by omega,by go_num,out.take kk++x::out.drop kk,HOWN.out,HLAY.out,by rw [List.length_append,List.length_cons,List.length_take,List.length_drop,HN0.out];omega,HBS.out⟩
        case measure=>simp [intOf];omega
  ·obtain rfl:N=i:=by omega
   go_wp2;go_ret;refine ⟨_,rfl,?_,HB.out⟩;have h:=HBEST.out;rw [HALL.out] at h;rw [<- h.eq];exact HR.out
set_option maxRecDepth 100000 in
set_option maxHeartbeats 1000000 in
theorem vast_no {w:World} {ev vv:Value} {es:List Edg} {vs:List Vrt} (g fr:Int) (he:RdE w ev es) (hv:RdV w vv vs) (h1:es.length<=300) (h2:vs.length<=100) :
 Calls Tryz.prog 10 #[.agg #[ev,vv, .int .i64 g, .int .u8 fr]] w fun e w'=>e=.returned (.bool false)/\Below w.heap.size w w':=by
 obtain ⟨ea,ec,rfl,-⟩:=he;obtain ⟨va,vc,rfl,-⟩:=hv;generalize es.length=E at *;generalize vs.length=V at *;have h1':¬ (E:Int) > 300:=by omega
 have h2':¬ (V:Int) > 100:=by omega
 go_enter Tryz.func10,Tryz.ntmps10
 go_wp2;go_ret;exact ⟨rfl,(Below.refl _ _).alloc (Nat.le_refl _) _⟩
set_option maxRecDepth 100000 in
set_option maxHeartbeats 1000000 in
theorem vast_yes {w:World} {ev vv:Value} {es:List Edg} {vs:List Vrt} (g fr:Int) (he:RdE w ev es) (hv:RdV w vv vs) (h:300 < es.length\/100 < vs.length) :
 Calls Tryz.prog 10 #[.agg #[ev,vv, .int .i64 g, .int .u8 fr]] w fun e w'=>e=.returned (.bool true)/\Below w.heap.size w w':=by
 obtain ⟨ea,ec,rfl,-⟩:=he;obtain ⟨va,vc,rfl,-⟩:=hv;generalize es.length=E at *;generalize vs.length=V at *;by_cases h1:300 < E
 ·have h1':(E:Int) > 300:=by omega
  clear h;go_enter Tryz.func10,Tryz.ntmps10
  go_wp2;go_ret;exact ⟨rfl,(Below.refl _ _).alloc (Nat.le_refl _) _⟩
 ·have h1':¬ (E:Int) > 300:=by omega
  have h2':(V:Int) > 100:=by omega
  clear h;go_enter Tryz.func10,Tryz.ntmps10
  go_wp2;go_ret;exact ⟨rfl,(Below.refl _ _).alloc (Nat.le_refl _) _⟩
theorem edg_eq {x y:Edg}:(y.t=x.t/\y.h=x.h/\y.x=x.x/\y.m=x.m) ↔ y=x:=by
 cases x;cases y;simp
instance edgDec:DecidableEq Edg:=fun y x=>decidable_of_iff (y.t=x.t/\y.h=x.h/\y.x=x.x/\y.m=x.m) edg_eq
set_option maxRecDepth 100000 in
set_option maxHeartbeats 4000000 in
theorem sameEdges_yes (u v:Value) (es:List Edg) (w:World) (hu:RdE w u es) (hv:RdE w v es) (hl:es.length<=100000) :
 Calls Tryz.prog 24 #[u,v] w fun e w'=>e=.returned (.bool true)/\Below w.heap.size w w':=by
 obtain ⟨a,n,cap,rfl⟩:∃ a n cap,u=.slice a n cap:=by
  obtain ⟨a,cap,rfl,-⟩:=hu;exact ⟨a,_,cap,rfl⟩
 obtain ⟨a',n',cap',rfl⟩:∃ a n cap,v=.slice a n cap:=by
  obtain ⟨a,cap,rfl,-⟩:=hv;exact ⟨a,_,cap,rfl⟩
 obtain ⟨hn,hcells⟩:=rdE_cells hu;obtain ⟨hn',hcells'⟩:=rdE_cells hv;obtain rfl:n=n':=by omega
 have HC:=Lib.hid hcells;have HC':=Lib.hid hcells';have HX:Hid (∀ i,i < n->∃ y,es[i]? = some y):=Lib.hid (fun i hi=>⟨_,List.getElem?_eq_getElem (by omega)⟩);have hn1:n<=100000:=by omega
 clear hu hv hcells hcells' hn hn' hl;go_enter Tryz.func24,Tryz.ntmps24
 go_wp2;go_loopw [5] (fun iv W=>∃ i:Nat,i<=n/\iv=.int .i64 (i:Int)/\Below w.heap.size w W) (fun iv _=>n - (intOf iv).toNat)
 case atStart=>exact ⟨0,Nat.zero_le _,rfl,Below.refl _ _⟩
 case round=>
  generalize wr=W at *;obtain ⟨i,hi,rfl,hb⟩:=hrel;have HB:=Lib.hid hb;clear hb;by_cases hlt:i < n
  ·obtain ⟨y,hy⟩:=HX.out i hlt;obtain ⟨be,oe,rfl,e0,e1,e2,e3⟩:=HC.out W HB.out i y hy;obtain ⟨be',oe',rfl,f0,f1,f2,f3⟩:=HC'.out W HB.out i y hy;clear hy;go_wp2_with fail
   go_quiet (fail)
   have HB3:=Lib.hid (HB.out.trans ((below_drewN (Below.refl _ _) nq:Below W.heap.size W (W.drewN nq)).mono HB.out.size));clear e0 e1 e2 e3 f0 f1 f2 f3;generalize W.drewN nq=W3 at *;go_wp2;go_roundw
   case rel=>exact ⟨i+1,by omega,by go_num,HB3.out⟩
   case measure=>simp [intOf];omega
  ·obtain rfl:n=i:=by omega
   go_wp2;go_ret;exact ⟨rfl,HB.out⟩
end
section
open Go.RowKit Go.Maps
theorem best_nodup (b:Bool) (l:List Edg):(bestOf b l).Nodup:=
 (best_bestOf b l).rise.imp (fun h e=>by rw [e] at h;omega)
theorem mem_best {b b':Bool} {l:List Edg} {x:Edg} (h:x∈bestOf b l):x∈bestOf b' l:=by
 rw [<- bestOf_turn b b' l] at h;exact ((best_bestOf b (bestOf b' l)).mem x h).1
theorem nodup_le {α:Type} [DecidableEq α] {l₁:List α}:∀ {l₂:List α},l₁.Nodup->(∀ x∈l₁,x∈l₂)->l₁.length<=l₂.length:=by
 induction l₁ with
 | nil=>intro l₂ _ _;exact Nat.zero_le _
 | cons a l ih=>
   intro l₂ h hs;obtain ⟨s,t,rfl⟩:=List.append_of_mem (hs a (by simp));rw [List.nodup_cons] at h;have:=ih (l₂:=s++t) h.2 (fun x hx=>by
    have h1:=hs x (by simp [hx]);rw [List.mem_append,List.mem_cons] at h1;rw [List.mem_append];rcases h1 with h1 | rfl | h1
    ·exact .inl h1
    ·exact absurd hx h.1
    ·exact .inr h1)
   rw [List.length_append] at this;rw [List.length_cons,List.length_append,List.length_cons];omega
theorem best_len (b b':Bool) (l:List Edg):(bestOf b l).length=(bestOf b' l).length:=
 Nat.le_antisymm (nodup_le (best_nodup b l) (fun _ h=>mem_best h)) (nodup_le (best_nodup b' l) (fun _ h=>mem_best h))
theorem ofL_mem {b:Bool} {v:Nat} {l:List Edg} {x:Edg} (h:x∈ofL b v l):x∈l/\end1 b x=v:=by
 unfold ofL at h;rw [List.mem_filter] at h;exact ⟨h.1,of_decide_eq_true h.2⟩
section
variable {w0 w w':World} {pb db n:Nat} {o o':Owner} {d d':Dsk} {L L':Logic}
theorem Held.kept (h:Held w0 w pb db n o d L):Kept 131072 w0 w pb db n o d L:=⟨h.pool,h.new,h.below,h.armed,h.dead,h.quota⟩
theorem Kept.held (h:Kept 131072 w0 w pb db n o d L):Held w0 w pb db n o d L:=⟨h.pool,h.new,h.below,h.armed,h.dead,h.quota⟩
theorem Held.gen (h:Held w0 w pb db n o d L) {gen:Nat} (hg:gen<=1048576) (hp:PowAt w0):GenAt w o gen:=
 .inr ⟨hg,hp.kept (h.below.block _ hp.lt),by
  cases e:o 0 with
  | none=>rfl
  | some t=>
    have h1:=h.new _ _ e;have h2:=hp.lt;omega⟩
theorem Held.rebase {w1:World} (h:Held w1 w pb db n o d L) (hb:Below w0.heap.size w0 w1):Held w0 w pb db n o d L:=
 ⟨h.pool,fun x t hx=>Nat.le_trans hb.size (h.new x t hx),hb.trans (h.below.mono hb.size),h.armed,h.dead,h.quota⟩
end
end
end Go.Proofs.YthkkgdpomhhjjaaGreatDoor
