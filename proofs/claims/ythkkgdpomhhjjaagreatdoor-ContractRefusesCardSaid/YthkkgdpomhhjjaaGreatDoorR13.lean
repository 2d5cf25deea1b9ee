/-
  Joined.
-/
import Derived.Test.YthkkgdpomhhjjaaGreatDoorR12
namespace Go.Proofs.YthkkgdpomhhjjaaGreatDoor
section
open Go.RowKit Go.Maps
section
variable {S:Nat->Prop} {w0 w w' W W':World} {pb db n gb gen N ob ib vb rb done sb:Nat} {o o' o'':Owner} {d d' d'':Dsk} {L L' L'':Logic} {es l:List Edg} {vs:List Vrt} {vv x4 x5 x6 v:Value} {name:Name} {fl:Bool}
theorem Moved.self (h:Moved S n pb db w o d w' o' d' L) {f:LFile} (hL:mget L name=some f):Moved S n pb db w o d w' o' d' (mput L name f):=
 h.congr (mput_keys h.pool.keys) (fun x=>by
  rw [mget_mput];by_cases e:x=name
  ·rw [if_pos e,e,hL]
  ·rw [if_neg e])
def RCreatePost (n pb db:Nat) (w:World) (o:Owner) (d:Dsk) (L:Logic) (name:Name) (e:Ending) (w':World):Prop:=
 ∃ sb d' o',e=.returned (.tuple #[ptrTo sb, .int .i64 0])/\Moved (fun _=>False) n pb db w o d w' o' d' (mput L name (edgeFile [] true))/\StreamAt w' sb pb name 20/\w.heap.size<=sb/\o' sb=none
set_option maxRecDepth 100000 in
set_option maxHeartbeats 4000000 in
theorem roundCreate_any (h:Held w0 w pb db n o d L) (hr:RndAt w rb pb gb gen done x4 x5 x6) (hro:o rb=none) (hok:okName name=true) (hno:mget L name=none) :
 Calls Tryz.prog 101 #[ptrTo rb, .string name] w (RCreatePost n pb db w o d L name):=by
 have hc0:createCode d L name=0:=by
  unfold createCode;rw [h.tick,hok,hno];rfl
 have hcr:=Lib.hid (create_pool h.pool name (okName_1000 hok));unfold CreatePost at hcr;rw [hc0] at hcr;simp only [if_true] at hcr;have HOP:Hid (∀ W o' d',PoolAt W pb db n o' d' (mput L name (edgeFile [] true))->d'.dead=false->Calls Tryz.prog 67 #[ptrTo pb, .string name, .int .i64 20] W (StreamOpenPost W pb name 20 0)):=Lib.hid (fun W o' d' hp hd=>by
  have h3:=streamOpen_any (sz:=20) hp name (okName_1000 hok) (by decide) (by decide);rw [pfOpen_paged hp (by rw [mget_mput,if_pos rfl];rfl),hd] at h3;exact h3)
 obtain ⟨c0,-⟩:=hr.cells;have HR:=Lib.hid hr;have HRO:=Lib.hid hro;have H:=Lib.hid h;clear h hr hro hok hno hc0;unfold ptrTo at *;go_enter Tryz.func101,Tryz.ntmps101
 go_wp2_with fail
 refine hcr.out.mono ?_;rintro e w1 ⟨d1,o1,rfl,hm1,hx1,-⟩;have hop:=Lib.hid (HOP.out w1 o1 d1 hm1.pool (hx1 trivial));have HM1:=Lib.hid hm1;have c1:=(HR.out.moved HRO.out hm1).cells.1;clear hm1 hx1 hcr c0 HOP;unfold ptrTo at *;go_wp2_with fail
 refine hop.out.mono ?_;rintro e w2 ⟨v2,rfl,hb2,hs2,-⟩;obtain ⟨sb,rfl,hst,hsb⟩:=hs2 rfl;have HQ:Hid (RCreatePost n pb db w o d L name (.returned (.tuple #[ptrTo sb, .int .i64 0])) w2):=Lib.hid ⟨sb,d1,o1,rfl,HM1.out.below hb2,hst,Nat.le_trans HM1.out.size hsb,HM1.out.pool.fresh hsb⟩;clear hb2 hs2 hst hsb hop c1;unfold ptrTo at *;go_wp2;go_returns
 exact HQ.out
def PutEPost (S:Nat->Prop) (n pb db:Nat) (w:World) (o:Owner) (d:Dsk) (L:Logic) (name:Name) (es:List Edg) (e:Ending) (w':World):Prop:=
 ∃ fl d' o',e=.returned (.int .i64 0)/\Moved S n pb db w o d w' o' d' (mput L name (edgeFile es fl))
set_option maxRecDepth 100000 in
set_option maxHeartbeats 4000000 in
theorem putE_any (HW:WriteSaid) (h:Held w0 w pb db n o d L) (hst:StreamAt w sb pb name 20) (ho:o sb=none) (hL:mget L name=some (edgeFile es fl)) (hv:RdE w v l) (hvo:∀ b,v.ownBlock=some b->o b=none) (hneed:need L+4*(es.length+l.length)<=131072) (hlen:es.length+l.length < 65535) :
 Calls Tryz.prog 151 #[ptrTo sb,v] w (PutEPost (fun _=>False) n pb db w o d L name (es++l)):=by
 have HADD:Hid (∀ W o' d' fl' rv (x:Edg) (k:Nat),Moved (fun _=>False) n pb db w o d W o' d' (mput L name (edgeFile (es++l.take k) fl'))->l[k]? = some x->Rd W rv x.bytes->(∀ y,rv.ownBlock=some y->o' y=none) ->
  Calls Tryz.prog 72 #[ptrTo sb,rv] W fun e w'=>∃ d'' o'',e=.returned (.int .i64 0)/\Moved (fun _=>False) n pb db w o d w' o'' d'' (mput L name (edgeFile (es++l.take (k+1)) false))):=Lib.hid (fun W o' d' fl' rv x k hm hx hrd hro=>by
  obtain ⟨hk,hx'⟩:=List.getElem?_eq_some_iff.1 hx;refine (streamAdd_any HW hm.pool (hst.moved hm ho (fun e=>e)) (hm.free hst.lt ho) (by decide) (by decide) (by rw [mget_mput,if_pos rfl];rfl) (sized_edges _) (by rw [List.length_map,List.length_append,List.length_take];omega) hrd x.bytes_length hro).mono ?_;rintro e w' ⟨c,d'',o'',rfl,hm2,he2⟩;have he:(es++l.take k).map Edg.bytes++[x.bytes]=(es++l.take (k+1)).map Edg.bytes:=by rw [List.take_succ_eq_append_getElem hk,hx'];simp
  have hh:=h.moved hm (fun _ e=>e.elim);have h0:c=0:=hh.fine' hm2 he2 (by
   have h1:=need_mput_le L name (edgeFile (es++l.take k) fl');have h2:=edgeFile_need (es++l.take k) fl';rw [List.length_append,List.length_take] at h2;omega)
  subst h0;rw [if_pos rfl,mput_mput,he] at hm2;exact ⟨d'',o'',rfl,hm.trans hm2 (fun _ _ e=>e)⟩)
 have HV:Hid (∀ W o' d' L',Moved (fun _=>False) n pb db w o d W o' d' L'->RdE W v l):=Lib.hid (fun W o' d' L' hm=>hv.moved hm hvo);have HM0:Hid (Moved (fun _=>False) n pb db w o d w o d (mput L name (edgeFile (es++l.take 0) fl))):=Lib.hid (by
  rw [List.take_zero,List.append_nil];exact (Moved.refl _ h.pool).self hL)
 obtain ⟨a,cap,rfl,-⟩:=hv;obtain ⟨M,hM⟩:∃ M,M=l.length:=⟨_,rfl⟩;have HM:Hid (M=l.length/\M < 65535):=Lib.hid ⟨hM,by omega⟩;obtain ⟨R,hR⟩:∃ R,R=PutEPost (fun _=>False) n pb db w o d L name (es++l):=⟨_,rfl⟩;have HRP:=Lib.hid hR;rw [<- hR];rw [<- hM] at HV ⊢;clear h hst ho hL hvo hneed hlen hM hR;unfold ptrTo at *;go_enter Tryz.func151,Tryz.ntmps151
 go_wp2_with fail
 go_loopw [10] (fun vi wr=>∃ (k:Nat) (fl':Bool) (o':Owner) (d':Dsk),vi=.int .i64 (k:Int)/\k<=M/\Hid (Moved (fun _=>False) n pb db w o d wr o' d' (mput L name (edgeFile (es++l.take k) fl')))) (fun vi _=>M - (intOf vi).toNat)
 case atStart=>exact ⟨0,fl,o,d,rfl,Nat.zero_le _,HM0⟩
 case round=>
  obtain ⟨k,fl',o1,d1,rfl,hk,HM1⟩:=hrel;clear HM0;generalize wr=W1 at *;by_cases hlt:k < M
  ·have hkz:(k:Int) < (M:Int):=by omega
   have wk:IntKind.i64.wrap ((k:Int)+1)=((k+1:Nat):Int):=by have:=HM.out;rw [wrap_in]<;>omega
   obtain ⟨x,hx⟩:∃ x,l[k]? = some x:=⟨_,List.getElem?_eq_getElem (by have:=HM.out;omega)⟩;have HX:=Lib.hid hx;obtain ⟨a',cap',hve,hce⟩:=HV.out _ _ _ _ HM1.out;obtain ⟨rfl,-,rfl⟩:a=a'/\M=l.length/\cap=cap':=by simpa using hve
   obtain ⟨b,off,rfl,hcf⟩:=hce.resolve_left (by have:=HM.out;omega);obtain ⟨q0,q1,q2,q3⟩:=hcf k _ hx;clear hce hcf hve hx;have HM2:=Lib.hid (HM1.out.alloc (.cells #[.int .u32 (x.t.toNat:Int), .int .u32 (x.h.toNat:Int), .int .u64 (x.x.toNat:Int), .int .u32 (x.m.toNat:Int)] 64));have hre:=Lib.hid (fun W=>edgBytes_any x W);go_wp2_with fail
   refine (hre.out _).mono ?_;rintro e w3 ⟨v3,rfl,ho3,hb3⟩;have hadd:=Lib.hid (HADD.out w3 o1 d1 fl' v3 x k (HM2.out.below hb3) HX.out (Rd_own ho3) (fun y hy=>HM2.out.pool.fresh (ownsRow_block ho3 y hy)));clear ho3 hb3 hre q0 q1 q2 q3;go_wp2_with fail
   refine hadd.out.mono ?_;rintro e w4 ⟨d4,o4,rfl,hm4⟩;have HM4:=Lib.hid hm4;clear hm4 hadd HM1 HM2;go_wp2;go_roundw
   case rel=>exact ⟨k+1,false,o4,d4,by go_num,by omega,HM4⟩
   case measure=>simp [intOf];omega
  ·have hkz:¬ (k:Int) < (M:Int):=by omega
   have HQ:Hid (R (.returned (.int .i64 0)) W1):=Lib.hid (by
    have:=HM1.out;rw [List.take_of_length_le (by have:=HM.out;omega)] at this;rw [HRP.out];exact ⟨fl',d1,o1,rfl,this⟩)
   clear HM1 HRP;go_wp2;exact HQ.out
end
end
section
open Go.RowKit Go.Maps
section
variable {w0 w w' W W':World} {pb db n gb gen N ob ib vb rb mb pc done sb:Nat} {o o' o'':Owner} {d d' d'':Dsk} {L L' L'':Logic} {es l:List Edg} {S:List Nat} {x4 x5 x6 v:Value} {name:Name} {fl:Bool}
theorem ChosenAt.look (h:ChosenAt w mb S) {x:Nat} (hx:x < 4294967296) (b:Bool) (hb:decide (x∈S)=b):∀ w',Below w.heap.size w w'->Sem.run Tryz.prog (Instr.lookup 131 (.map (some mb)) (.int .u32 (x:Int)) false) w'=.ok (.bool b) w':=fun w' hw=>by
 have:=(h.kept (hw.block _ h.lt)).lookup keyed_u32 u32_inj Tryz.underlying131 (Tryz.zeroValue4 w') x (good_u32 hx) false;rw [set_get] at this;rw [<- hb];by_cases e:x∈S
 ·rw [if_pos e] at this;rw [decide_eq_true e];exact this
 ·rw [if_neg e] at this;rw [decide_eq_false e];exact this
theorem run_chosen1 (args:Array Value) (w:World):Sem.run Tryz.prog (callFunc 152 args) w=.ok (.enter 152 args) w:=by go_simp
set_option maxHeartbeats 1000000 in
theorem chosen1_any {t:TypeId} (hp:w.heap[pc]? = some (.cells #[ptrTo rb] t)) (hr:RndAt w rb pb gb gen done (.map (some mb)) x5 x6) (hch:ChosenAt w mb S) {x:Nat} (hx:x < 4294967296) :
 Calls Tryz.prog 152 #[.int .u32 (x:Int), .pointer (some ⟨pc,0,none⟩)] w fun e w'=>e=.returned (.bool (decide (x∈S)))/\Below w.heap.size w w':=by
 have hl:=hch.look hx _ rfl w (Below.refl _ _);generalize decide (x∈S)=b at *;have c0:w.cell? ⟨pc,0,none⟩=some (ptrTo rb):=by rw [cells_cell hp];rfl
 obtain ⟨-,-,-,-,c4,-⟩:=hr.cells;clear hp hr hch hx;unfold ptrTo at *;go_enter Tryz.func152,Tryz.ntmps152
 go_wp2;go_ret;exact ⟨rfl,Below.refl _ _⟩
theorem chosenAv {t:TypeId} (hp:w.heap[pc]? = some (.cells #[ptrTo rb] t)) (hr:RndAt w rb pb gb gen done (.map (some mb)) x5 x6) (hch:ChosenAt w mb S) (h1:o pc=none) (h2:o rb=none) (h3:o mb=none) :
 AvOk w o (.func (.func 152) #[] #[.pointer (some ⟨pc,0,none⟩)]) (fun x=>decide (x∈S)) (fun b=>b=pc\/b=rb\/b=mb):=
 ⟨⟨_,_,rfl,run_chosen1,fun W x hk _ hx=>chosen1_any ((hk pc (.inl rfl)).trans hp) ((hk rb (.inr (.inl rfl))).trans hr) (hch.kept (hk mb (.inr (.inr rfl)))) hx⟩,fun b hb=>by
   rcases hb with rfl | rfl | rfl
   ·exact ⟨(Array.getElem?_eq_some_iff.1 hp).1,h1⟩
   ·exact ⟨hr.lt,h2⟩
   ·exact ⟨hch.lt,h3⟩⟩
theorem netIn_laid (h:NetIn w0 w pb db n o d L gb gen N ob ib vb es) (hm:Moved (fun _=>False) n pb db w o d w' o' d' L') (h1:mget L' (sName 101 gen)=mget L (sName 101 gen)) (h2:mget L' (sName 114 gen)=mget L (sName 114 gen)) (hq:need L'<=131072):NetIn w0 w' pb db n o' d' L' gb gen N ob ib vb es:=
 ⟨h.held.moved hm (fun _ e=>e.elim),hq,h.gr.moved hm,h1.trans h.file,h2.trans h.file',h.len,h.top,h.ends⟩
theorem rdE_one {x:Edg} {t:TypeId}:RdE (w.alloc (.cells #[.int .u32 (x.t.toNat:Int), .int .u32 (x.h.toNat:Int), .int .u64 (x.x.toNat:Int), .int .u32 (x.m.toNat:Int)] t)) (.slice (some ⟨w.heap.size,0,none⟩) 1 1) [x]:=
 ⟨_,1,rfl, .inr ⟨w.heap.size,0,rfl,fun j y hy=>by
  match j,hy with
  | 0,hy=>cases hy;simp
  | j+1,hy=>cases hy⟩⟩
def stayP (S:List Nat) (x:Edg):Bool:=decide (x.t.toNat ∉ S/\x.h.toNat ∉ S)
theorem stayM_eq (es:List Edg) (S:List Nat):stayM es S=(bestOf false es).filter (stayP S):=rfl
set_option maxRecDepth 100000 in
set_option maxHeartbeats 8000000 in
theorem roundStay_any (HW:WriteSaid) (h:NetIn w0 w pb db n o d L gb gen N ob ib vb es) (hr:RndAt w rb pb gb gen done (.map (some mb)) x5 x6) (hro:o rb=none) (hch:ChosenAt w mb S) (hmo:o mb=none) (hst:StreamAt w sb pb name 20) (hso:o sb=none)
 (hL:mget L name=some (edgeFile [] fl)) (h1:name≠sName 101 gen) (h2:name≠sName 114 gen) (hneed:need L+8*es.length+8<=131072) :
 Calls Tryz.prog 102 #[ptrTo rb,ptrTo sb] w (PutEPost (fun _=>False) n pb db w o d L name (stayM es S)):=by
 have hbl:=bestOf_length false es;have HNET:Hid (∀ W o' d' es' fl',Moved (fun _=>False) n pb db w o d W o' d' (mput L name (edgeFile es' fl'))->es'.length<=es.length->NetIn w0 W pb db n o' d' (mput L name (edgeFile es' fl')) gb gen N ob ib vb es):=Lib.hid (fun W o' d' es' fl' hm hl=>netIn_laid h hm (by rw [mget_mput,if_neg h1.symm]) (by rw [mget_mput,if_neg h2.symm]) (by
  have g1:=need_mput_le L name (edgeFile es' fl');have g2:=edgeFile_need es' fl';omega))
 have HM0:Hid (Moved (fun _=>False) n pb db w o d w o d (mput L name (edgeFile [] fl))):=Lib.hid ((Moved.refl _ h.held.pool).self hL);have HL0:=Lib.hid hL;have hedges:=Lib.hid (held_edges HW h.held h.need h.gr h.file);have HKEEP:Hid (∀ W o' d' L',Moved (fun _=>False) n pb db w o d W o' d' L'->RndAt W rb pb gb gen done (.map (some mb)) x5 x6/\ChosenAt W mb S/\StreamAt W sb pb name 20/\o' sb=none):=Lib.hid (fun W o' d' L' hm=>⟨hr.moved hro hm,hch.kept (hm.block hch.lt hmo (fun e=>e)),hst.moved hm hso (fun e=>e),hm.free hst.lt hso⟩);have HPUT:Hid (∀ W o' d' es' fl' v (x:Edg),Moved (fun _=>False) n pb db w o d W o' d' (mput L name (edgeFile es' fl'))->es'.length<=es.length->RdE W v [x]->(∀ b,v.ownBlock=some b->o' b=none) ->
  Calls Tryz.prog 151 #[ptrTo sb,v] W fun e w'=>∃ d'' o'' fl'',e=.returned (.int .i64 0)/\Moved (fun _=>False) n pb db w o d w' o'' d'' (mput L name (edgeFile (es'++[x]) fl''))):=Lib.hid (fun W o' d' es' fl' v x hm hl hv hvo=>by
  have hn:=HNET.out _ _ _ _ _ hm hl;have g1:=need_mput_le L name (edgeFile es' fl');have g2:=edgeFile_need es' fl';have hlen:=h.len;obtain ⟨-,-,k3,k4⟩:=HKEEP.out _ _ _ _ hm;refine (putE_any HW hn.held k3 k4 (by rw [mget_mput,if_pos rfl]) hv hvo (by rw [List.length_singleton];omega) (by rw [List.length_singleton];omega)).mono ?_;rintro e w' ⟨fl'',d'',o'',rfl,hm2⟩;rw [mput_mput] at hm2;exact ⟨d'',o'',fl'',rfl,hm.trans hm2 (fun _ _ e=>e)⟩)
 obtain ⟨-,c1,-⟩:=hr.cells;obtain ⟨B,hB⟩:∃ B,B=bestOf false es:=⟨_,rfl⟩;have HB:Hid (B.length<=es.length/\es.length<=1000):=Lib.hid ⟨by rw [hB];exact hbl,h.len⟩;have HEDGE:Hid (∀ W o' d' es' fl',Moved (fun _=>False) n pb db w o d W o' d' (mput L name (edgeFile es' fl'))->es'.length<=es.length->∀ (i:Nat) (x:Edg),B[i]? = some x->Calls Tryz.prog 28 #[ptrTo gb, .int .i64 (i:Int)] W fun e w'=>∃ d'' o'',e=.returned (.tuple #[edgVal x, .int .i64 0])/\Moved (fun _=>False) n pb db w o d w' o'' d'' (mput L name (edgeFile es' fl'))):=Lib.hid (fun W o' d' es' fl' hm hl i x hx=>by
  have hn:=HNET.out _ _ _ _ _ hm hl;rw [hB] at hx;refine (held_edge HW hn.held hn.need hn.gr hn.file hx).mono ?_;rintro e w' ⟨d'',o'',rfl,hm2⟩;exact ⟨d'',o'',rfl,hm.trans hm2 (fun _ _ e=>e)⟩)
 rw [<- hB] at hedges;rw [stayM_eq,<- hB];obtain ⟨M,hM⟩:∃ M,M=B.length:=⟨_,rfl⟩;have HM:Hid (M=B.length/\M<=1000):=Lib.hid ⟨hM,by have:=HB.out;omega⟩;obtain ⟨R,hR⟩:∃ R,R=PutEPost (fun _=>False) n pb db w o d L name (B.filter (stayP S)):=⟨_,rfl⟩;have HRP:=Lib.hid hR;rw [<- hR];rw [<- hM] at hedges;clear h hr hro hch hmo hst hso hL h1 h2 hneed hbl hB hM hR HNET;unfold ptrTo at *;go_enter Tryz.func102,Tryz.ntmps102
 go_wp2_with fail
 refine hedges.out.mono ?_;rintro e w1 ⟨d1,o1,rfl,hm1⟩;have HM1:Hid (Moved (fun _=>False) n pb db w o d w1 o1 d1 (mput L name (edgeFile (((B.take 0)).filter (stayP S)) fl))):=Lib.hid (by
  refine hm1.congr HM0.out.pool.keys (fun x=>?_);rw [mget_mput];split
  ·rename_i e;rw [e,HL0.out];rfl
  ·rfl)
 clear hm1 hedges c1 HM0;go_wp2_with fail
 go_loopw [23] (fun vi wr=>∃ (i:Nat) (fl':Bool) (o':Owner) (d':Dsk),vi=.int .i64 (i:Int)/\i<=M/\Hid (Moved (fun _=>False) n pb db w o d wr o' d' (mput L name (edgeFile ((B.take i).filter (stayP S)) fl')))) (fun vi _=>M - (intOf vi).toNat)
 case atStart=>exact ⟨0,fl,o1,d1,rfl,Nat.zero_le _,HM1⟩
 case round=>
  obtain ⟨i,fl',o2,d2,rfl,hi,HM2⟩:=hrel;clear HM1;generalize wr=W2 at *;by_cases hlt:i < M
  ·have hiz:(i:Int) < (M:Int):=by omega
   have wi:IntKind.i64.wrap ((i:Int)+1)=((i+1:Nat):Int):=by have:=HM.out;rw [wrap_in]<;>omega
   obtain ⟨x,hx⟩:∃ x,B[i]? = some x:=⟨_,List.getElem?_eq_getElem (by have:=HM.out;omega)⟩;have HTK:Hid ((B.take (i+1)).filter (stayP S)=(B.take i).filter (stayP S)++if stayP S x=true then [x] else []):=Lib.hid (by
    obtain ⟨hl,he⟩:=List.getElem?_eq_some_iff.1 hx;rw [List.take_succ_eq_append_getElem hl,he,List.filter_append,List.filter_cons,List.filter_nil])
   have HLEN:Hid (((B.take i).filter (stayP S)).length<=es.length):=Lib.hid (Nat.le_trans (List.length_filter_le _ _) (by rw [List.length_take];have:=HB.out;omega));have hed:=Lib.hid (HEDGE.out _ _ _ _ _ HM2.out HLEN.out i x hx);obtain ⟨-,c1,-⟩:=(HKEEP.out _ _ _ _ HM2.out).1.cells;clear hx;generalize (B.take i).filter (stayP S)=acc at *;unfold edgVal ptrTo at *;go_wp2_with fail
   refine hed.out.mono ?_;rintro e w3 ⟨d3,o3,rfl,hm3⟩;have HM3:=Lib.hid (hm3.alloc (.cells #[.int .u32 (x.t.toNat:Int), .int .u32 (x.h.toNat:Int), .int .u64 (x.x.toNat:Int), .int .u32 (x.m.toNat:Int)] 64));have HX3:Hid ((w3.alloc (.cells #[.int .u32 (x.t.toNat:Int), .int .u32 (x.h.toNat:Int), .int .u64 (x.x.toNat:Int), .int .u32 (x.m.toNat:Int)] 64)).heap[w3.heap.size]? = some (.cells #[.int .u32 (x.t.toNat:Int), .int .u32 (x.h.toNat:Int), .int .u64 (x.x.toNat:Int), .int .u32 (x.m.toNat:Int)] 64)):=Lib.hid (heap_alloc_new _ _);clear hm3 hed HM2 c1;go_wp2_with fail
   generalize hxb:w3.heap.size=xb at *;clear hxb;generalize w3.alloc (.cells #[.int .u32 (x.t.toNat:Int), .int .u32 (x.h.toNat:Int), .int .u64 (x.x.toNat:Int), .int .u32 (x.m.toNat:Int)] 64)=W3 at *;have F:Hid (∀ w',Below W3.heap.size W3 w'->w'.cell? ⟨rb,4,none⟩=some (.map (some mb))/\w'.cell? ⟨xb,0,none⟩=some (.int .u32 (x.t.toNat:Int))/\w'.cell? ⟨xb,1,none⟩=some (.int .u32 (x.h.toNat:Int))):=Lib.hid (fun w' hw'=>by
    have hc:w'.heap[xb]? = some (.cells #[.int .u32 (x.t.toNat:Int), .int .u32 (x.h.toNat:Int), .int .u64 (x.x.toNat:Int), .int .u32 (x.m.toNat:Int)] 64):=(hw'.block _ (Array.getElem?_eq_some_iff.1 HX3.out).1).trans HX3.out;exact ⟨((HKEEP.out _ _ _ _ HM3.out).1.below hw').cells.2.2.2.2.1,by rw [cells_cell hc];rfl,by rw [cells_cell hc];rfl⟩)
   have hch3:=(HKEEP.out _ _ _ _ HM3.out).2.1;by_cases ht:x.t.toNat∈S
   ·have HL1:=Lib.hid (hch3.look x.t.toNat_lt true (decide_eq_true ht));have HE:Hid (stayP S x=false):=Lib.hid (by unfold stayP;simp [ht]);clear ht hch3;refine wq W3 ?_;iterate 3 (refine qo (fun K hK=>?_);go_simp;refine hK _ ?_;clear hK K)
    refine qo (fun K hK=>?_) (fun w' hw'=>by obtain ⟨f1,f2,f3⟩:=F.out w' hw';go_simp<;>rfl);go_simp;refine hK _ ?_;clear hK K;refine qo (fun K hK=>?_);go_simp;refine hK _ ?_;clear hK K;refine qo (fun K hK=>?_) (fun w' hw'=>by obtain ⟨f1,f2,f3⟩:=F.out w' hw';go_simp<;>rfl);go_simp;refine hK _ ?_;clear hK K;refine qo (fun K hK=>?_) (fun w' hw'=>by have hl:=HL1.out w' hw';go_simp<;>rfl);go_simp;refine hK _ ?_;clear hK K;refine qo (fun K hK=>?_);go_simp;refine hK _ ?_;clear hK K;iterate 7 go_big_quiet_skip
    refine qo (fun K hK=>?_);go_simp;refine hK _ ?_;clear hK K;refine wpQuiet_nil ?_;intro w4 hb4;have HM4:Hid (Moved (fun _=>False) n pb db w o d w4 o3 d3 (mput L name (edgeFile ((B.take (i+1)).filter (stayP S)) fl'))):=Lib.hid (by rw [HTK.out,HE.out,if_neg (by simp),List.append_nil];exact HM3.out.below hb4);clear hb4 F HL1;go_wp2;go_roundw
    case rel=>exact ⟨i+1,fl',o3,d3,by go_num,by omega,HM4⟩
    case measure=>simp [intOf];omega
   ·have HL1:=Lib.hid (hch3.look x.t.toNat_lt false (decide_eq_false ht));by_cases hh:x.h.toNat∈S
    ·have HL2:=Lib.hid (hch3.look x.h.toNat_lt true (decide_eq_true hh));have HE:Hid (stayP S x=false):=Lib.hid (by unfold stayP;simp [hh]);clear ht hh hch3;refine wq W3 ?_;iterate 3 (refine qo (fun K hK=>?_);go_simp;refine hK _ ?_;clear hK K)
     refine qo (fun K hK=>?_) (fun w' hw'=>by obtain ⟨f1,f2,f3⟩:=F.out w' hw';go_simp<;>rfl);go_simp;refine hK _ ?_;clear hK K;refine qo (fun K hK=>?_);go_simp;refine hK _ ?_;clear hK K;refine qo (fun K hK=>?_) (fun w' hw'=>by obtain ⟨f1,f2,f3⟩:=F.out w' hw';go_simp<;>rfl);go_simp;refine hK _ ?_;clear hK K;refine qo (fun K hK=>?_) (fun w' hw'=>by have hl:=HL1.out w' hw';go_simp<;>rfl);go_simp;refine hK _ ?_;clear hK K;refine qo (fun K hK=>?_);go_simp;refine hK _ ?_;clear hK K;iterate 3 (refine qo (fun K hK=>?_);go_simp;refine hK _ ?_;clear hK K)
     refine qo (fun K hK=>?_) (fun w' hw'=>by obtain ⟨f1,f2,f3⟩:=F.out w' hw';go_simp<;>rfl);go_simp;refine hK _ ?_;clear hK K;refine qo (fun K hK=>?_);go_simp;refine hK _ ?_;clear hK K;refine qo (fun K hK=>?_) (fun w' hw'=>by obtain ⟨f1,f2,f3⟩:=F.out w' hw';go_simp<;>rfl);go_simp;refine hK _ ?_;clear hK K;refine qo (fun K hK=>?_) (fun w' hw'=>by have hl:=HL2.out w' hw';go_simp<;>rfl);go_simp;refine hK _ ?_;clear hK K;refine qo (fun K hK=>?_);go_simp;refine hK _ ?_;clear hK K;refine wpQuiet_nil ?_;intro w4 hb4;have HM4:Hid (Moved (fun _=>False) n pb db w o d w4 o3 d3 (mput L name (edgeFile ((B.take (i+1)).filter (stayP S)) fl'))):=Lib.hid (by rw [HTK.out,HE.out,if_neg (by simp),List.append_nil];exact HM3.out.below hb4);clear hb4 F HL1 HL2;go_wp2;go_roundw
     case rel=>exact ⟨i+1,fl',o3,d3,by go_num,by omega,HM4⟩
     case measure=>simp [intOf];omega
    ·have HL2:=Lib.hid (hch3.look x.h.toNat_lt false (decide_eq_false hh));have HE:Hid (stayP S x=true):=Lib.hid (by unfold stayP;simp [ht,hh]);clear ht hh hch3;refine wq W3 ?_;iterate 3 (refine qo (fun K hK=>?_);go_simp;refine hK _ ?_;clear hK K)
     refine qo (fun K hK=>?_) (fun w' hw'=>by obtain ⟨f1,f2,f3⟩:=F.out w' hw';go_simp<;>rfl);go_simp;refine hK _ ?_;clear hK K;refine qo (fun K hK=>?_);go_simp;refine hK _ ?_;clear hK K;refine qo (fun K hK=>?_) (fun w' hw'=>by obtain ⟨f1,f2,f3⟩:=F.out w' hw';go_simp<;>rfl);go_simp;refine hK _ ?_;clear hK K;refine qo (fun K hK=>?_) (fun w' hw'=>by have hl:=HL1.out w' hw';go_simp<;>rfl);go_simp;refine hK _ ?_;clear hK K;refine qo (fun K hK=>?_);go_simp;refine hK _ ?_;clear hK K;iterate 3 (refine qo (fun K hK=>?_);go_simp;refine hK _ ?_;clear hK K)
     refine qo (fun K hK=>?_) (fun w' hw'=>by obtain ⟨f1,f2,f3⟩:=F.out w' hw';go_simp<;>rfl);go_simp;refine hK _ ?_;clear hK K;refine qo (fun K hK=>?_);go_simp;refine hK _ ?_;clear hK K;refine qo (fun K hK=>?_) (fun w' hw'=>by obtain ⟨f1,f2,f3⟩:=F.out w' hw';go_simp<;>rfl);go_simp;refine hK _ ?_;clear hK K;refine qo (fun K hK=>?_) (fun w' hw'=>by have hl:=HL2.out w' hw';go_simp<;>rfl);go_simp;refine hK _ ?_;clear hK K;refine qo (fun K hK=>?_);go_simp;refine hK _ ?_;clear hK K;refine wpQuiet_nil ?_;intro w4 hb4;have HM4:=Lib.hid (HM3.out.below hb4);have hx4:w4.heap[xb]? = some (.cells #[.int .u32 (x.t.toNat:Int), .int .u32 (x.h.toNat:Int), .int .u64 (x.x.toNat:Int), .int .u32 (x.m.toNat:Int)] 64):=(hb4.block _ (Array.getElem?_eq_some_iff.1 HX3.out).1).trans HX3.out;have q0:w4.cell? ⟨xb,0,none⟩=some (.int .u32 (x.t.toNat:Int)):=by rw [cells_cell hx4];rfl
     have q1:w4.cell? ⟨xb,1,none⟩=some (.int .u32 (x.h.toNat:Int)):=by rw [cells_cell hx4];rfl
     have q2:w4.cell? ⟨xb,2,none⟩=some (.int .u64 (x.x.toNat:Int)):=by rw [cells_cell hx4];rfl
     have q3:w4.cell? ⟨xb,3,none⟩=some (.int .u32 (x.m.toNat:Int)):=by rw [cells_cell hx4];rfl
     have hput:=Lib.hid (HPUT.out (w4.alloc (.cells #[.int .u32 (x.t.toNat:Int), .int .u32 (x.h.toNat:Int), .int .u64 (x.x.toNat:Int), .int .u32 (x.m.toNat:Int)] 64)) o3 d3 acc fl' (.slice (some ⟨w4.heap.size,0,none⟩) 1 1) x (HM4.out.alloc _) HLEN.out rdE_one (fun b hb=>by cases hb;exact HM4.out.pool.fresh (Nat.le_refl _)));clear hb4 F HL1 HL2 HX3 HM3 hx4;go_wp2_with fail
     refine hput.out.mono ?_;rintro e w5 ⟨d5,o5,fl5,rfl,hm5⟩;have HM5:Hid (Moved (fun _=>False) n pb db w o d w5 o5 d5 (mput L name (edgeFile ((B.take (i+1)).filter (stayP S)) fl5))):=Lib.hid (by rw [HTK.out,HE.out,if_pos rfl];exact hm5);clear hm5 hput HM4 q0 q1 q2 q3;go_wp2;go_roundw
     case rel=>exact ⟨i+1,fl5,o5,d5,by go_num,by omega,HM5⟩
     case measure=>simp [intOf];omega
  ·have hiz:¬ (i:Int) < (M:Int):=by omega
   have HQ:Hid (R (.returned (.int .i64 0)) W2):=Lib.hid (by
    have:=HM2.out;rw [List.take_of_length_le (by have:=HM.out;omega)] at this;rw [HRP.out];exact ⟨fl',d2,o2,rfl,this⟩)
   clear HM2 HRP;go_wp2;exact HQ.out
end
end
section
open Go.RowKit Go.Maps
theorem wrap_succ32 (a:UInt32):IntKind.u32.wrap ((a.toNat:Int)+1)=((a+1).toNat:Int):=by
 rw [IntKind.wrap_u32,UInt32.toNat_add];have:=a.toNat_lt;show ((a.toNat:Int)+1) % 4294967296=(((a.toNat+1) % 4294967296:Nat):Int);omega
theorem vrtRow_set0 {l:List Vrt} {i:Nat} {y:Vrt} (r:UInt32) (h:l[i]? = some y):(vrtRow l).set (i*3) (.int .u32 (r.toNat:Int))=vrtRow (l.set i ⟨r,y.l,y.g⟩):=by
 induction l generalizing i with
 | nil=>cases h
 | cons a l ih=>
   cases i with
   | zero=>cases h;rfl
   | succ i=>rw [Nat.succ_mul];have:=ih (i:=i) h;simp only [vrtRow,List.set_cons_succ,List.cons_append,List.nil_append];rw [this]
theorem vrtRow_set1 {l:List Vrt} {i:Nat} {y:Vrt} (r:UInt32) (h:l[i]? = some y):(vrtRow l).set (i*3+1) (.int .u32 (r.toNat:Int))=vrtRow (l.set i ⟨y.r,r,y.g⟩):=by
 induction l generalizing i with
 | nil=>cases h
 | cons a l ih=>
   cases i with
   | zero=>cases h;rfl
   | succ i=>rw [Nat.succ_mul,show i*3+3+1=i*3+1+3 by omega];have:=ih (i:=i) h;simp only [vrtRow,List.set_cons_succ,List.cons_append,List.nil_append];rw [this]
theorem vrtRow_set2 {l:List Vrt} {i:Nat} {y:Vrt} (r:UInt32) (h:l[i]? = some y):(vrtRow l).set (i*3+2) (.int .u32 (r.toNat:Int))=vrtRow (l.set i ⟨y.r,y.l,r⟩):=by
 induction l generalizing i with
 | nil=>cases h
 | cons a l ih=>
   cases i with
   | zero=>cases h;rfl
   | succ i=>rw [Nat.succ_mul,show i*3+3+2=i*3+2+3 by omega];have:=ih (i:=i) h;simp only [vrtRow,List.set_cons_succ,List.cons_append,List.nil_append];rw [this]
theorem need_swap {L:Logic} {k:Name} {f:LFile} (hk:(L.map (·.1)).Nodup) (h:mget L k=some f) (f':LFile):need (mput L k f')+f.need=f'.need+need L:=by
 have e:need (mput L k f)=need L:=need_congr hk (mput_keys hk) fun x=>by
  rw [mget_mput];by_cases e:x=k
  ·rw [if_pos e,e,h]
  ·rw [if_neg e]
 unfold mput at e ⊢;rw [need_cons] at e ⊢;dsimp only at e ⊢;omega
def eN (es:List Edg):Nat:=(edgeFile es true).need
theorem eN_eq (es:List Edg) (fl:Bool):(edgeFile es fl).need=eN es:=rfl
theorem eN_le (es:List Edg):eN es<=4*es.length:=edgeFile_need es true
structure RL (L0 L:Logic) (nX nU nD:Name) (R U D:List Edg):Prop where
 x:∃ f,mget L nX=some (edgeFile R f)
 u:∃ f,mget L nU=some (edgeFile U f)
 d:∃ f,mget L nD=some (edgeFile D f)
 oth:∀ y,y≠nX->y≠nU->y≠nD->mget L y=mget L0 y
 need:need L<=need L0+eN R+eN U+eN D
section
variable {S:Nat->Prop} {w0 w w' W W':World} {pb db n gb gen N ob ib vb rb mb pc done sb g vk base:Nat} {o o' o'':Owner} {d d' d'':Dsk} {L0 L L' L'':Logic} {es l R U D:List Edg} {vs vs':List Vrt} {x4 x5 x6 v:Value} {name nX nU nD:Name} {fl:Bool}
theorem rl_putX (h:RL L0 L nX nU nD R U D) (hk:(L.map (·.1)).Nodup) (h1:nX≠nU) (h2:nX≠nD) (R':List Edg) (fl:Bool):RL L0 (mput L nX (edgeFile R' fl)) nX nU nD R' U D:=by
 obtain ⟨f,hf⟩:=h.x;refine ⟨⟨fl,by rw [mget_mput,if_pos rfl]⟩,?_,?_,fun y h3 h4 h5=>by rw [mget_mput,if_neg h3];exact h.oth y h3 h4 h5,?_⟩
 ·rw [mget_mput,if_neg h1.symm];exact h.u
 ·rw [mget_mput,if_neg h2.symm];exact h.d
 ·have:=need_swap hk hf (edgeFile R' fl);have:=h.need;rw [eN_eq,eN_eq] at *;omega
theorem rl_putU (h:RL L0 L nX nU nD R U D) (hk:(L.map (·.1)).Nodup) (h1:nX≠nU) (h2:nU≠nD) (R':List Edg) (fl:Bool):RL L0 (mput L nU (edgeFile R' fl)) nX nU nD R R' D:=by
 obtain ⟨f,hf⟩:=h.u;refine ⟨?_,⟨fl,by rw [mget_mput,if_pos rfl]⟩,?_,fun y h3 h4 h5=>by rw [mget_mput,if_neg h4];exact h.oth y h3 h4 h5,?_⟩
 ·rw [mget_mput,if_neg h1];exact h.x
 ·rw [mget_mput,if_neg h2.symm];exact h.d
 ·have:=need_swap hk hf (edgeFile R' fl);have:=h.need;rw [eN_eq,eN_eq] at *;omega
theorem rl_putD (h:RL L0 L nX nU nD R U D) (hk:(L.map (·.1)).Nodup) (h1:nX≠nD) (h2:nU≠nD) (R':List Edg) (fl:Bool):RL L0 (mput L nD (edgeFile R' fl)) nX nU nD R U R':=by
 obtain ⟨f,hf⟩:=h.d;refine ⟨?_,?_,⟨fl,by rw [mget_mput,if_pos rfl]⟩,fun y h3 h4 h5=>by rw [mget_mput,if_neg h5];exact h.oth y h3 h4 h5,?_⟩
 ·rw [mget_mput,if_neg h1];exact h.x
 ·rw [mget_mput,if_neg h2];exact h.u
 ·have:=need_swap hk hf (edgeFile R' fl);have:=h.need;rw [eN_eq,eN_eq] at *;omega
structure RNm (gen:Nat) (nX nU nD:Name):Prop where
 xu:nX≠nU
 xd:nX≠nD
 ud:nU≠nD
 x1:nX≠sName 101 gen
 x2:nX≠sName 114 gen
 u1:nU≠sName 101 gen
 u2:nU≠sName 114 gen
 d1:nD≠sName 101 gen
 d2:nD≠sName 114 gen
theorem VertsAt.keptB {w w':World} {v:Value} {vs:List Vrt} (h:VertsAt w v vs) (hb:∀ b,v.ownBlock=some b->w'.heap[b]? = w.heap[b]?):VertsAt w' v vs:=by
 obtain ⟨a,cap,rfl,h1,h2,h3⟩:=h;refine ⟨a,cap,rfl,h1,h2,h3.imp id ?_⟩;rintro ⟨b,off,rfl,hc⟩;refine ⟨b,off,rfl,fun i hi=>?_⟩;obtain ⟨k0,k1,k2⟩:=hc i hi;have e:=hb b rfl;refine ⟨?_,?_,?_⟩
 ·rw [World.cell?_of_block (a:=⟨b,off+i*3,none⟩) e];exact k0
 ·rw [World.cell?_of_block (a:=⟨b,off+i*3+1,none⟩) e];exact k1
 ·rw [World.cell?_of_block (a:=⟨b,off+i*3+2,none⟩) e];exact k2
structure OutIn (w0 W:World) (pb db n:Nat) (o:Owner) (d:Dsk) (L0 L:Logic) (gb gen N ob ib vb:Nat) (es:List Edg) (rb mb g vk done:Nat) (x5:Value) (S:List Nat) (nX nU nD:Name) (xb ub eb:Nat) (wv:Value) (was:List Vrt) (R U D:List Edg) (vs:List Vrt) (base:Nat):Prop where
 net:NetIn w0 W pb db n o d L gb gen N ob ib vb es
 rnd:RndAt W rb pb gb gen done (.map (some mb)) x5 (.slice (some ⟨g,0,none⟩) N vk)
 of:RndOf w0 W o rb gb ob ib vb
 ch:ChosenAt W mb S
 omb:o mb=none
 rl:RL L0 L nX nU nD R U D
 nm:RNm gen nX nU nD
 sx:StreamAt W xb pb nX 20
 su:StreamAt W ub pb nU 20
 sd:StreamAt W eb pb nD 20
 ox:o xb=none
 ou:o ub=none
 od:o eb=none
 wrow:VertsAt W wv was
 own:∀ b,wv.ownBlock=some b->b < W.heap.size/\o b=none
 wlen:was.length=N
 row:ownsVrts W base (.slice (some ⟨g,0,none⟩) N vk) vs
 len:vs.length=N
 og:o g=none
 g0:w0.heap.size<=g
 gne:g≠rb/\g≠mb/\g≠gb/\g≠ob/\g≠ib/\g≠vb/\g≠xb/\g≠ub/\g≠eb/\wv.ownBlock≠some g
section
variable {xb ub eb:Nat} {wv:Value} {was:List Vrt} {S:List Nat}
theorem OutIn.moved (h:OutIn w0 W pb db n o d L0 L gb gen N ob ib vb es rb mb g vk done x5 S nX nU nD xb ub eb wv was R U D vs base) (hm:Moved (fun _=>False) n pb db W o d W' o' d' L') {R' U' D':List Edg} (hl:RL L0 L' nX nU nD R' U' D') (hq:need L0+eN R'+eN U'+eN D'<=131072) :
 OutIn w0 W' pb db n o' d' L0 L' gb gen N ob ib vb es rb mb g vk done x5 S nX nU nD xb ub eb wv was R' U' D' vs base where
 net:=netIn_laid h.net hm (by rw [hl.oth _ h.nm.x1.symm h.nm.u1.symm h.nm.d1.symm,h.rl.oth _ h.nm.x1.symm h.nm.u1.symm h.nm.d1.symm]) (by rw [hl.oth _ h.nm.x2.symm h.nm.u2.symm h.nm.d2.symm,h.rl.oth _ h.nm.x2.symm h.nm.u2.symm h.nm.d2.symm]) (by have:=hl.need;omega)
 rnd:=h.rnd.moved h.of.free hm
 of:=h.of.moved hm
 ch:=h.ch.kept (hm.block h.ch.lt h.omb (fun e=>e))
 omb:=hm.free h.ch.lt h.omb
 rl:=hl
 nm:=h.nm
 sx:=h.sx.moved hm h.ox (fun e=>e)
 su:=h.su.moved hm h.ou (fun e=>e)
 sd:=h.sd.moved hm h.od (fun e=>e)
 ox:=hm.free h.sx.lt h.ox
 ou:=hm.free h.su.lt h.ou
 od:=hm.free h.sd.lt h.od
 wrow:=h.wrow.keptB (fun b hb=>hm.block (h.own b hb).1 (h.own b hb).2 (fun e=>e))
 own:=fun b hb=>⟨Nat.lt_of_lt_of_le (h.own b hb).1 hm.size,hm.free (h.own b hb).1 (h.own b hb).2⟩
 wlen:=h.wlen
 row:=hm.ownsRow h.row (fun b hb=>by cases hb;exact ⟨h.og,fun e=>e⟩)
 len:=h.len
 og:=hm.free (ownBlock_old h.row g rfl).1 h.og
 g0:=h.g0
 gne:=h.gne
theorem OutIn.below (h:OutIn w0 W pb db n o d L0 L gb gen N ob ib vb es rb mb g vk done x5 S nX nU nD xb ub eb wv was R U D vs base) (hb:Below W.heap.size W W') (hq:need L0+eN R+eN U+eN D<=131072) :
 OutIn w0 W' pb db n o d L0 L gb gen N ob ib vb es rb mb g vk done x5 S nX nU nD xb ub eb wv was R U D vs base:=h.moved (Moved.ofBelow h.net.held.pool hb) h.rl hq
theorem OutIn.set (h:OutIn w0 W pb db n o d L0 L gb gen N ob ib vb es rb mb g vk done x5 S nX nU nD xb ub eb wv was R U D vs base) (j:Nat) (u:Value) (hr:(vrtRow vs).set j u=vrtRow vs') (hl:vs'.length=vs.length) :
 OutIn w0 (W.setCell ⟨g,j,none⟩ u) pb db n o d L0 L gb gen N ob ib vb es rb mb g vk done x5 S nX nU nD xb ub eb wv was R U D vs' base:=by
 obtain ⟨n1,n2,n3,n4,n5,n6,n7,n8,n9,n10⟩:=h.gne;have hm:Moved (·=g) n pb db W o d (W.setCell ⟨g,j,none⟩ u) o d L:=(Moved.refl _ h.net.held.pool).setCell _ _ h.og (.inl rfl);have hk:∀ b,b≠g->(W.setCell ⟨g,j,none⟩ u).heap[b]? = W.heap[b]? := fun b hb=>Below.heap_setCell _ _ _ _ hb;have hg:=h.net.gr;have hsz:(W.setCell ⟨g,j,none⟩ u).heap.size=W.heap.size:=by simp
 exact {
  net:=⟨h.net.held.moved hm (fun _ e=>e ▸ h.g0),h.net.need,⟨hg.raw.moved hm hg.ogb n3.symm,hg.out.moved hm hg.oob n4.symm,hg.inn.moved hm hg.oib n5.symm,hg.verts.moved hm hg.ovb n6.symm,hg.ogb,hg.oob,hg.oib,hg.ovb⟩,h.net.file,h.net.file',h.net.len,h.net.top,h.net.ends⟩
  rnd:=(hk rb n1.symm).trans h.rnd
  of:=⟨h.of.new,by rw [hsz];exact h.of.lt,h.of.free,h.of.graph⟩
  ch:=h.ch.kept (hk mb n2.symm)
  omb:=h.omb
  rl:=h.rl
  nm:=h.nm
  sx:=h.sx.kept (hk _ n7.symm)
  su:=h.su.kept (hk _ n8.symm)
  sd:=h.sd.kept (hk _ n9.symm)
  ox:=h.ox
  ou:=h.ou
  od:=h.od
  wrow:=h.wrow.keptB (fun b hb=>hk b (fun e=>n10 (e ▸ hb)))
  own:=fun b hb=>⟨by rw [hsz];exact (h.own b hb).1,(h.own b hb).2⟩
  wlen:=h.wlen
  row:=by
   have h1:=(World.ownsRow.stored (by have:=h.row;rwa [ownsVrts,h.len] at this) j u).1;rw [hr] at h1;unfold ownsVrts;rw [hl,h.len];exact h1
  len:=hl.trans h.len
  og:=h.og
  g0:=h.g0
  gne:=h.gne }
end
end
end
section
open Go.RowKit Go.Maps
section
variable {w0 w w' W W':World} {pb db n gb gen N ob ib vb rb mb done g vk base xb ub eb:Nat} {o o' o'':Owner} {d d' d'':Dsk} {L0 L L' L'':Logic} {es R U D:List Edg} {vs vs' was:List Vrt} {x5 wv:Value} {S:List Nat} {nX nU nD:Name}
def OutPost (w0 w:World) (pb db n:Nat) (o:Owner) (d:Dsk) (L0:Logic) (gb gen N ob ib vb:Nat) (es:List Edg) (rb mb g vk done:Nat) (x5:Value) (S:List Nat) (nX nU nD:Name) (xb ub eb:Nat) (wv:Value) (was:List Vrt) (R U D:List Edg) (vs:List Vrt) (base:Nat) (e:Ending) (w':World):Prop:=
 ∃ d' o' L',e=.returned (.int .i64 0)/\Moved (·=g) n pb db w o d w' o' d' L'/\OutIn w0 w' pb db n o' d' L0 L' gb gen N ob ib vb es rb mb g vk done x5 S nX nU nD xb ub eb wv was R U D vs base
theorem OutIn.put (HW:WriteSaid) (h:OutIn w0 W pb db n o d L0 L gb gen N ob ib vb es rb mb g vk done x5 S nX nU nD xb ub eb wv was R U D vs base) {sb:Nat} {name:Name} {A l:List Edg} {v:Value} {fl:Bool}
 (hst:StreamAt W sb pb name 20) (hso:o sb=none) (hL:mget L name=some (edgeFile A fl)) (hv:RdE W v l) (hvo:∀ b,v.ownBlock=some b->o b=none) (hA:A.length<=R.length+U.length+D.length) (hq:need L0+8*(l.length+R.length+U.length+D.length)<=131072) :
 Calls Tryz.prog 151 #[ptrTo sb,v] W (PutEPost (fun _=>False) n pb db W o d L name (A++l)):=by
 have:=h.rl.need;have:=eN_le R;have:=eN_le U;have:=eN_le D;exact putE_any HW h.net.held hst hso hL hv hvo (by omega) (by omega)
theorem vset_same {l:List Vrt} {i:Nat} {y:Vrt} (h:l[i]? = some y):l.set i y=l:=by
 refine List.ext_getElem? fun j=>?_;rw [List.getElem?_set];by_cases e:i=j
 ·subst e;rw [if_pos rfl,if_pos (lt_of_get h),h]
 ·rw [if_neg e]
theorem modify_set {l:List Vrt} {i:Nat} {y:Vrt} {f:Vrt->Vrt} (h:l[i]? = some y):l.modify i f=l.set i (f y):=by
 refine List.ext_getElem? fun j=>?_;rw [List.getElem?_modify,List.getElem?_set];by_cases e:i=j
 ·subst e;rw [if_pos rfl,if_pos (lt_of_get h),h];simp
 ·rw [if_neg e];simp [e]
def RdF (w:World) (o:Owner) (v:Value) (l:List Edg):Prop:=RdE w v l/\∀ b,v.ownBlock=some b->b < w.heap.size/\o b=none
theorem RdF.moved {v:Value} {l:List Edg} (h:RdF w o v l) (hm:Moved (fun _=>False) n pb db w o d w' o' d' L'):RdF w' o' v l:=
 ⟨h.1.moved hm (fun b hb=>(h.2 b hb).2),fun b hb=>⟨Nat.lt_of_lt_of_le (h.2 b hb).1 hm.size,hm.free (h.2 b hb).1 (h.2 b hb).2⟩⟩
theorem RdF.of {v:Value} {l:List Edg} (h:ownsEdges w base v l) (ho:∀ b,v.ownBlock=some b->o b=none):RdF w o v l:=⟨rdE_own h,fun b hb=>⟨(ownBlock_old h b hb).1,ho b hb⟩⟩
section
variable {pc:Nat} {oo:Owner} {dd:Dsk} {ob':Obj}
theorem out_step (h:OutIn w0 W pb db n o d L0 L gb gen N ob ib vb es rb mb g vk done x5 S nX nU nD xb ub eb wv was R U D vs base/\W.heap[pc]? = some ob'/\o pc=none/\Moved (·=g) n pb db w oo dd W o d L) (hm:Moved (fun _=>False) n pb db W o d W' o' d' L') {R' U' D':List Edg} (hl:RL L0 L' nX nU nD R' U' D') (hq:need L0+eN R'+eN U'+eN D'<=131072) :
 OutIn w0 W' pb db n o' d' L0 L' gb gen N ob ib vb es rb mb g vk done x5 S nX nU nD xb ub eb wv was R' U' D' vs base/\W'.heap[pc]? = some ob'/\o' pc=none/\Moved (·=g) n pb db w oo dd W' o' d' L':=
 ⟨h.1.moved hm hl hq,hm.heap h.2.1 h.2.2.1 (fun e=>e),hm.free (Array.getElem?_eq_some_iff.1 h.2.1).1 h.2.2.1,h.2.2.2.trans hm (fun _ _ e=>e.elim)⟩
theorem out_set (h:OutIn w0 W pb db n o d L0 L gb gen N ob ib vb es rb mb g vk done x5 S nX nU nD xb ub eb wv was R U D vs base/\W.heap[pc]? = some ob'/\o pc=none/\Moved (·=g) n pb db w oo dd W o d L) (hne:pc≠g) (j:Nat) (u:Value) (hr:(vrtRow vs).set j u=vrtRow vs') (hl:vs'.length=vs.length) :
 OutIn w0 (W.setCell ⟨g,j,none⟩ u) pb db n o d L0 L gb gen N ob ib vb es rb mb g vk done x5 S nX nU nD xb ub eb wv was R U D vs' base/\(W.setCell ⟨g,j,none⟩ u).heap[pc]? = some ob'/\o pc=none/\Moved (·=g) n pb db w oo dd (W.setCell ⟨g,j,none⟩ u) o d L:=
 ⟨h.1.set j u hr hl,by rw [Below.heap_setCell _ _ _ _ hne];exact h.2.1,h.2.2.1,h.2.2.2.setCell _ _ h.1.og (.inl rfl)⟩
theorem out_setd (h:OutIn w0 W pb db n o d L0 L gb gen N ob ib vb es rb mb g vk done x5 S nX nU nD xb ub eb wv was R U D vs base/\W.heap[pc]? = some ob'/\o pc=none/\Moved (·=g) n pb db w oo dd W o d L) (hne:pc≠g) (j:Nat) (u:Value) (hr:(vrtRow vs).set j u=vrtRow vs') (hl:vs'.length=vs.length) (hq:need L0+eN R+eN U+eN D<=131072) :
 OutIn w0 (W.setCell ⟨g,j,none⟩ u).drew pb db n o d L0 L gb gen N ob ib vb es rb mb g vk done x5 S nX nU nD xb ub eb wv was R U D vs' base/\(W.setCell ⟨g,j,none⟩ u).drew.heap[pc]? = some ob'/\o pc=none/\Moved (·=g) n pb db w oo dd (W.setCell ⟨g,j,none⟩ u).drew o d L:=
 have h1:=out_set h hne j u hr hl;out_step h1 (Moved.ofBelow h1.1.net.held.pool (Below.refl _ _).drew) h1.1.rl hq
end
end
end
section
open Go.RowKit Go.Maps
def vN (vs:List Vrt):Nat:=(vertFile vs true).need
structure Rounded (L L':Logic) (gen:Nat) (R U D:List Edg) (vs:List Vrt):Prop where
 e:mget L' (sName 101 (gen+1))=some (edgeFile (bestOf false R) true)
 r:mget L' (sName 114 (gen+1))=some (edgeFile (bestOf true R) true)
 v:mget L' (sName 118 (gen+1))=some (vertFile vs true)
 u:mget L' (sName 117 (gen+1))=some (edgeFile U true)
 d:mget L' (sName 100 (gen+1))=some (edgeFile D true)
 oth:∀ y,y≠sName 101 (gen+1)->y≠sName 114 (gen+1)->y≠sName 118 (gen+1)->y≠sName 117 (gen+1)->y≠sName 100 (gen+1)->mget L' y=mget L y
 need:need L'<=need L+eN (bestOf false R)+eN (bestOf true R)+vN vs+eN U+eN D
theorem need_mdel_le (L:Logic) (k:Name):need (mdel L k)<=need L:=by
 have h1:=need_mput_le L k (.inl (([]:List Pg),true));unfold mput at h1;rw [need_cons] at h1;dsimp only at h1;have:LFile.need (.inl (([]:List Pg),true))=0:=rfl;omega
theorem need_del {L:Logic} {k:Name} {f:LFile} (hk:(L.map (·.1)).Nodup) (h:mget L k=some f):need (mdel L k)+f.need=need L:=by
 have:=need_swap hk h (.inl (([]:List Pg),true));unfold mput at this;rw [need_cons] at this;dsimp only at this;have:LFile.need (.inl (([]:List Pg),true))=0:=rfl;omega
theorem makeL_oth {L:Logic} {gen:Nat} {R:List Edg} {vs:List Vrt} {y:Name} (h1:y≠sName 101 gen) (h2:y≠sName 114 gen) (h3:y≠sName 118 gen):mget (makeL L gen R vs) y=mget L y:=by
 unfold makeL;rw [mget_mput,if_neg h3,mget_mput,if_neg h2,mget_mput,if_neg h1]
theorem rounded_of {L L3:Logic} {gen:Nat} {R U D:List Edg} {vs:List Vrt} (hk:(L3.map (·.1)).Nodup) (h:RL L L3 (sName 120 (gen+1)) (sName 117 (gen+1)) (sName 100 (gen+1)) R U D) (hx:mget L (sName 120 (gen+1))=none) :
 Rounded L (mdel (mput (mput (makeL L3 (gen+1) R vs) (sName 117 (gen+1)) (edgeFile U true)) (sName 100 (gen+1)) (edgeFile D true)) (sName 120 (gen+1))) gen R U D vs:=by
 have ne:∀ {c c':UInt8},c≠c'->sName c (gen+1)≠sName c' (gen+1):=fun h=>sName_ne h _ _;obtain ⟨f1,f2,f3⟩:=makeL_files L3 (gen+1) R vs;have hmo:∀ y,y≠sName 101 (gen+1)->y≠sName 114 (gen+1)->y≠sName 118 (gen+1)->mget (makeL L3 (gen+1) R vs) y=mget L3 y:=fun y h1 h2 h3=>makeL_oth h1 h2 h3;have hmk:((makeL L3 (gen+1) R vs).map (·.1)).Nodup:=by unfold makeL;exact mput_keys (mput_keys (mput_keys hk))
 obtain ⟨fx,hfx⟩:=h.x;obtain ⟨fu,hfu⟩:=h.u;obtain ⟨fd,hfd⟩:=h.d;refine ⟨?_,?_,?_,?_,?_,fun y h1 h2 h3 h4 h5=>?_,?_⟩
 ·rw [mget_mdel,if_neg (ne (by decide)),mget_mput,if_neg (ne (by decide)),mget_mput,if_neg (ne (by decide)),f1]
 ·rw [mget_mdel,if_neg (ne (by decide)),mget_mput,if_neg (ne (by decide)),mget_mput,if_neg (ne (by decide)),f2]
 ·rw [mget_mdel,if_neg (ne (by decide)),mget_mput,if_neg (ne (by decide)),mget_mput,if_neg (ne (by decide)),f3]
 ·rw [mget_mdel,if_neg (ne (by decide)),mget_mput,if_neg (ne (by decide)),mget_mput,if_pos rfl]
 ·rw [mget_mdel,if_neg (ne (by decide)),mget_mput,if_pos rfl]
 ·rw [mget_mdel];by_cases e:y=sName 120 (gen+1)
  ·rw [if_pos e,e,hx]
  ·rw [if_neg e,mget_mput,if_neg h5,mget_mput,if_neg h4,hmo y h1 h2 h3,h.oth y e h4 h5]
 ·have g1:=need_del (L:=mput (mput (makeL L3 (gen+1) R vs) (sName 117 (gen+1)) (edgeFile U true)) (sName 100 (gen+1)) (edgeFile D true)) (k:=sName 120 (gen+1)) (f:=edgeFile R fx) (mput_keys (mput_keys hmk)) (by rw [mget_mput,if_neg (ne (by decide)),mget_mput,if_neg (ne (by decide)),hmo _ (ne (by decide)) (ne (by decide)) (ne (by decide)),hfx]);have g2:=need_swap (L:=mput (makeL L3 (gen+1) R vs) (sName 117 (gen+1)) (edgeFile U true)) (k:=sName 100 (gen+1)) (f:=edgeFile D fd) (mput_keys hmk) (by rw [mget_mput,if_neg (ne (by decide)),hmo _ (ne (by decide)) (ne (by decide)) (ne (by decide)),hfd]) (edgeFile D true);have g3:=need_swap (L:=makeL L3 (gen+1) R vs) (k:=sName 117 (gen+1)) (f:=edgeFile U fu) hmk (by rw [hmo _ (ne (by decide)) (ne (by decide)) (ne (by decide)),hfu]) (edgeFile U true);have g4:=need_mput_le (mput (mput L3 (sName 101 (gen+1)) (edgeFile (bestOf false R) true)) (sName 114 (gen+1)) (edgeFile (bestOf true R) true)) (sName 118 (gen+1)) (vertFile vs true);have g5:=need_mput_le (mput L3 (sName 101 (gen+1)) (edgeFile (bestOf false R) true)) (sName 114 (gen+1)) (edgeFile (bestOf true R) true);have g6:=need_mput_le L3 (sName 101 (gen+1)) (edgeFile (bestOf false R) true);have g7:=h.need;have g8:(vertFile vs true).need=vN vs:=rfl;rw [eN_eq,eN_eq] at g2 g3;rw [eN_eq] at g1 g5 g6;rw [g8] at g4;change need (makeL L3 (gen+1) R vs)<=_ at g4;omega
end
section
open Go Go.RowKit
section
variable {P:Program} {C:World->Prop} {val:Nat->Value} {Dn:Nat->World->Prop} {l:List Oper} {a0:Act}
structure FixInv (C:World->Prop) (val:Nat->Value) (Dn:Nat->World->Prop) (l:List Oper) (a0:Act) (listed:Array Bool) (a:Act) (w:World):Prop where
 size:listed.size=l.length
 cls:C w
 tsz:a.tmps.size=a0.tmps.size
 dfr:a.defers=a0.defers
 out:∀ k,(∀ o∈l,o.dst≠some k)->a.tmps[k]? = a0.tmps[k]?
 slot:∀ (i:Nat) (o:Oper) (k:Nat),l[i]? = some o->o.dst=some k->listed.getD i true=true->a.tmps[k]? = some (val i)
 dn:∀ i,i < l.length->listed.getD i true=true->Dn i w
def FixDeps (val:Nat->Value) (l:List Oper) (a0:Act) (o:Oper) (a:Act):Prop:=
 (∀ k,(∀ o∈l,o.dst≠some k)->a.tmps[k]? = a0.tmps[k]?)/\∀ e∈o.after,Region.binds .any e=true->∀ (oj:Oper) (k:Nat),l[e.on]? = some oj->oj.dst=some k->a.tmps[k]? = some (val e.on)
theorem FixDeps.get {o:Oper} {a:Act} (h:FixDeps val l a0 o a) (j:Nat) {oj:Oper} {k:Nat} (hj:(o.after.toList.any fun e=>decide (e.on=j) && Region.binds .any e)=true) (ho:l[j]? = some oj) (hk:oj.dst=some k):a.tmps[k]? = some (val j):=by
 rw [List.any_eq_true] at hj;obtain ⟨e,he,h1⟩:=hj;rw [Bool.and_eq_true,decide_eq_true_eq] at h1;obtain ⟨rfl,h2⟩:=h1;exact h.2 e (by simpa using he) h2 oj k ho hk
theorem FixDeps.old {o:Oper} {a:Act} (h:FixDeps val l a0 o a) (k:Nat) {v:Value} (hk:(l.all fun o=>decide (o.dst≠some k))=true) (h0:a0.tmps[k]? = some v):a.tmps[k]? = some v:=by
 refine (h.1 k fun o ho=>?_).trans h0;rw [List.all_eq_true] at hk;simpa using hk o ho
def FixStep (P:Program) (C:World->Prop) (val:Nat->Value) (Dn:Nat->World->Prop) (i:Nat) (o:Oper) (a:Act) (w:World):Prop:=
 ∃ w',((execOp a.eval o).run P w=.ok (.value (val i)) w'\/o.dst=none/\(execOp a.eval o).run P w=.ok .skip w')/\C w'/\Dn i w'/\∀ j,Dn j w->Dn j w'
theorem wpAny_fix {Q:Exit->Act->World->Prop} (hB:relB l a0.tmps.size=true)
 (hstep:∀ (i:Nat) (o:Oper),l[i]? = some o->∀ a w,C w->FixDeps val l a0 o a->FixStep P C val Dn i o a w)
 (hend:∀ listed a w,FixInv C val Dn l a0 listed a w->Region.ready .any l.toArray listed=[]->Q .normal a w) (f:Nat) :
 ∀ (listed:Array Bool) (a:Act) (w:World),FixInv C val Dn l a0 listed a w->listed.toList.count false<=f->wpAny P .any l.toArray Q f listed a w:=by
 simp only [relB,Bool.and_eq_true,List.all_eq_true] at hB;obtain ⟨⟨hg,hb⟩,hd⟩:=hB;induction f with
 | zero=>
   intro listed a w inv hf;have hr:Region.ready .any l.toArray listed=[]:=by
    unfold Region.ready;rw [List.filter_eq_nil_iff];intro i _;have:listed.getD i true=true:=by
     rw [Array.getD_eq_getD_getElem?];cases h:listed[i]? with
     | none=>rfl
     | some b=>
       cases b with
       | true=>rfl
       | false=>
         have h1:false∈listed.toList:=List.mem_of_getElem? (by rw [Array.getElem?_toList];exact h);have:=List.count_pos_iff.2 h1;omega
    rw [this];simp
   exact ⟨hr,hend _ _ _ inv hr⟩
 | succ f ih=>
   intro listed a w inv hf;refine ⟨hend _ _ _ inv,fun i hi=>?_⟩;obtain ⟨hun,o,ho,hall⟩:=mem_ready.1 hi;have ho':l[i]? = some o:=by simpa using ho
   have hol:o∈l:=List.mem_of_getElem? ho';have hil:i < l.length:=(List.getElem?_eq_some_iff.1 ho').1;have hw:Region.wanted o (yielded l.toArray a.tmps)=true:=by
    unfold Region.wanted;rw [show o.guard=none by simpa using hg o hol]
   obtain ⟨w',hrun,hC,hD,hK⟩:=hstep i o ho' a w inv.cls ⟨inv.out,fun e he hbn oj k hoj hk=>inv.slot _ oj k hoj hk (by
    have h1:=hall e he hbn;rw [Array.getD_eq_getD_getElem?] at h1 ⊢;cases h2:listed[e.on]? with
    | none=>rw [h2] at h1;cases h1
    | some b=>rw [h2] at h1;exact h1)⟩
   have hoth:∀ j,i≠j->(listed.setIfInBounds i true).getD j true=true->listed.getD j true=true:=fun j hij h=>by
    rw [Array.getD_eq_getD_getElem?,Array.getElem?_setIfInBounds_ne hij] at h;rw [Array.getD_eq_getD_getElem?];exact h
   unfold wpOp;rw [ho];simp only [hw,if_true];refine .inl ?_;have key:wpAny P .any l.toArray Q f (listed.setIfInBounds i true) (a.put o.dst (val i)) w':=by
    refine ih _ _ _ ⟨by rw [Array.size_setIfInBounds];exact inv.size,hC,by rw [actPut_size];exact inv.tsz,by rw [actPut_defers];exact inv.dfr,fun k hk=>(actPut_other _ _ _ _ (hk o hol)).trans (inv.out k hk),fun j oj k hoj hk hlj=>?_,fun j hj hlj=>?_⟩ ?_
    ·by_cases hij:i=j
     ·subst hij;rw [ho'] at hoj;obtain rfl:=Option.some.inj hoj;have hkb:=hb o hol;rw [hk] at hkb;have hkb:k < a0.tmps.size:=by simpa using hkb
      unfold Act.put;rw [hk];rw [<- inv.tsz] at hkb;simp [hkb]
     ·refine (actPut_other _ _ _ _ (fun e=>?_)).trans (inv.slot j oj k hoj hk (hoth j hij hlj));have h4:=hd i (List.mem_range.2 hil) j (List.mem_range.2 (List.getElem?_eq_some_iff.1 hoj).1);rw [ho',hoj] at h4;simp [e,hk,hij] at h4
    ·by_cases hij:i=j
     ·subst hij;exact hD
     ·exact hK j (inv.dn j hj (hoth j hij hlj))
    ·have hf1:listed[i]? = some false:=by
      rw [Array.getD_eq_getD_getElem?] at hun;cases h:listed[i]? with
      | none=>rw [h] at hun;cases hun
      | some b=>rw [h] at hun;simp at hun;rw [hun]
     have hlt:i < listed.toList.length:=by rw [Array.length_toList,inv.size];exact hil
     rw [Array.toList_setIfInBounds];have h1:listed.toList[i]? = some false:=by rw [Array.getElem?_toList];exact hf1
     have h2:listed.toList.count false=(listed.toList.set i true).count false+1:=by
      rw [List.count_set hlt];rw [List.getElem?_eq_getElem hlt] at h1;have h3:=Option.some.inj h1;rw [h3];have h4:0 < listed.toList.count false:=List.count_pos_iff.2 (List.mem_of_getElem? (by rw [List.getElem?_eq_getElem hlt,h3]));rw [if_pos (by decide),if_neg (by decide)];omega
     omega
   unfold Oper.wp;rcases hrun with hrun | ⟨hdn,hrun⟩
   ·rw [hrun];exact key
   ·rw [hrun];rw [hdn] at key;show wpAny P .any l.toArray Q f _ (a.put o.dst undef) w';rw [hdn];exact key
def ordB (l:List Oper):Bool:=(List.range l.length).all fun i=>match l[i]? with | some o=>o.after.toList.all (fun e=>!Region.binds .any e || decide (e.on < i)) | none=>true
def fixPut (val:Nat->Value):Act->Nat->List Oper->Act
 | a,_,[]=>a
 | a,k,o::l=>fixPut val (a.put o.dst (val k)) (k+1) l
theorem fixPut_eq (l:List Oper):∀ (a:Act) (k:Nat),fixPut val a k l=relPut a l ((List.range' k l.length).map val):=by
 induction l with
 | nil=>intro a k;rfl
 | cons o l ih=>intro a k;rw [fixPut,ih,List.length_cons,List.range'_succ,List.map_cons,relPut]
theorem wp_region_fix {id:Nat} {Q:Exit->Act->World->Prop} {w:World} (C:World->Prop) (val:Nat->Value) (Dn:Nat->World->Prop) (hm:P.follows .mixedOrders=true) (hB:relB l a0.tmps.size=true) (hA:ordB l=true) (hC:C w.drew)
 (hstep:∀ (i:Nat) (o:Oper),l[i]? = some o->∀ a w,C w->FixDeps val l a0 o a->FixStep P C val Dn i o a w)
 (hend:∀ w',C w'->(∀ i,i < l.length->Dn i w')->Q .normal (fixPut val a0 0 l) w'):(Code.region id l.toArray true).wp P Q a0 w:=by
 refine wp_region_any hm ?_;refine wpAny_fix hB hstep (fun listed a w inv hr=>?_) _ _ _ _ ⟨by simp,hC,rfl,rfl,fun _ _=>rfl,fun i o k ho _ hl=>?_,fun i hi hl=>?_⟩ (Nat.le_trans List.count_le_length (by simp))
 ·have hall:∀ i,i < l.length->listed.getD i true=true:=by
   intro i;induction i using Nat.strongRecOn with
   | _ i ih=>
     intro hi;by_cases hd:listed.getD i true=true
     ·exact hd
     ·exfalso
      have hm:i∈Region.ready .any l.toArray listed:=by
       refine mem_ready.2 ⟨by simpa using hd,l[i],by simp [hi],fun e he hbn=>?_⟩;unfold ordB at hA;rw [List.all_eq_true] at hA;have h1:=hA i (List.mem_range.2 hi);rw [List.getElem?_eq_getElem hi] at h1;simp only [List.all_eq_true] at h1;have h2:=h1 e (by simpa using he);rw [hbn] at h2;have h2:e.on < i:=by simpa using h2
       have h3:=ih e.on h2 (by omega);have hs:e.on < listed.size:=by rw [inv.size];omega
       rw [Array.getD_eq_getD_getElem?,Array.getElem?_eq_getElem hs] at h3 ⊢;exact h3
      rw [hr] at hm;cases hm
  have ha:a=relPut a0 l ((List.range l.length).map val):=by
   simp only [relB,Bool.and_eq_true,List.all_eq_true] at hB;obtain ⟨⟨_,h2⟩,h3⟩:=hB;obtain ⟨k1,k2,k3⟩:=relPut_keep l a0 ((List.range l.length).map val);refine rel_act_ext (by rw [k1,inv.tsz]) (by rw [k2,inv.dfr]) (fun k hk=>?_);rw [k1] at hk;by_cases he:∃ o∈l,o.dst=some k
   ·obtain ⟨o,ho,hok⟩:=he;obtain ⟨i,hi⟩:=List.mem_iff_getElem?.1 ho;have hil:=(List.getElem?_eq_some_iff.1 hi).1;rw [inv.slot i o k hi hok (hall i hil)];refine (relPut_at l a0 _ i o k _ hi hok (by simp [hil]) hk (fun j oj hj hjk=>?_)).symm;have h4:=h3 j (List.mem_range.2 (List.getElem?_eq_some_iff.1 hj).1) i (List.mem_range.2 hil);rw [hj,hi] at h4;by_cases e:j=i
    ·exact e
    ·simp [hjk,hok,e] at h4
   ·have hno:∀ o∈l,o.dst≠some k:=fun o ho e=>he ⟨o,ho,e⟩;rw [k3 k hno,inv.out k hno]
  rw [ha,List.range_eq_range',<- fixPut_eq];exact hend w inv.cls fun i hi=>inv.dn i hi (hall i hi)
 ·have hil:i < l.length:=(List.getElem?_eq_some_iff.1 ho).1;rw [Array.getD_eq_getD_getElem?] at hl;simp [hil] at hl
 ·rw [Array.getD_eq_getD_getElem?] at hl;simp [hi] at hl
theorem fix_read {i:Nat} {o:Oper} {a:Act} {w:World} (hC:C w) (hD:Dn i w) (h:(execOp a.eval o).run P w=.ok (.value (val i)) w):FixStep P C val Dn i o a w:=⟨w, .inl h,hC,hD,fun _ h=>h⟩
end
end
section
open Go.RowKit Go.Maps
section
variable {w0 w w' W W':World} {pb db n gb gen N ob ib vb rb mb done g vk base xb ub eb:Nat} {o o' o'':Owner} {d d' d'':Dsk} {L0 L L' L'':Logic} {es R U D:List Edg} {vs vs' was:List Vrt} {x5 wv:Value} {S:List Nat} {nX nU nD:Name}
set_option maxRecDepth 100000 in
set_option maxHeartbeats 16000000 in
theorem roundOut_any (HW:WriteSaid) (h:OutIn w0 w pb db n o d L0 L gb gen N ob ib vb es rb mb g vk done x5 S nX nU nD xb ub eb wv was R U D vs base) (i v:Nat) (hv:v < N) (hi:done+i < 4294967296) (hgen:gen < 1048576) (hbase:base<=w.heap.size)
 (hdeg:(inM es v).length*(outM es v).length<=100000) (hq:need L0+8*(R.length+U.length+D.length+(outM es v).length+(inM es v).length+(cutM es S v).length)<=131072) :
 Calls Tryz.prog 103 #[ptrTo rb, .int .i64 (i:Int), .int .u32 (v:Int),wv,ptrTo xb,ptrTo ub,ptrTo eb] w
  (OutPost w0 w pb db n o d L0 gb gen N ob ib vb es rb mb g vk done x5 S nX nU nD xb ub eb wv was (R++cutM es S v) (U++outM es v) (D++inM es v) (tookM es was done gen vs i v) base):=by
 obtain ⟨wa,wk,rfl,-⟩:=h.wrow;have hN:N<=1000:=h.net.top;obtain ⟨V,hV⟩:∃ V,V=UInt32.ofNat v:=⟨_,rfl⟩;have hVv:V.toNat=v:=by rw [hV,UInt32.toNat_ofNat'];exact Nat.mod_eq_of_lt (by omega)
 have HV:=Lib.hid (show V=UInt32.ofNat v/\V.toNat=v from ⟨hV,hVv⟩);obtain ⟨RK,hRK⟩:∃ x:UInt32,x=UInt32.ofNat (done+i):=⟨_,rfl⟩;obtain ⟨LV,hLV⟩:∃ x:UInt32,x=UInt32.ofNat (gen+1):=⟨_,rfl⟩;have hRn:RK.toNat=done+i:=by rw [hRK,UInt32.toNat_ofNat'];exact Nat.mod_eq_of_lt (by omega)
 have hLn:LV.toNat=gen+1:=by rw [hLV,UInt32.toNat_ofNat'];exact Nat.mod_eq_of_lt (by omega)
 have HRL:=Lib.hid (show RK=UInt32.ofNat (done+i)/\LV=UInt32.ofNat (gen+1) from ⟨hRK,hLV⟩);have HWR:Hid (IntKind.u32.wrap (i:Int)=(i:Int)/\IntKind.u32.wrap ((done:Int)+(i:Int))=(RK.toNat:Int)/\IntKind.i64.wrap ((gen:Int)+1)=((gen+1:Nat):Int)/\((gen:Int)+1) % 4294967296=(LV.toNat:Int)/\IntKind.u32.wrap ((gen:Int)+1)=(LV.toNat:Int)):=Lib.hid ⟨wraps_u32 _ (by omega) (by omega),by rw [wraps_u32 _ (by omega) (by omega),hRn];omega,by rw [wrap_in]<;>omega,by rw [hLn];omega,by rw [IntKind.wrap_u32,hLn];omega⟩;have HQ:=Lib.hid hq;have HDG:=Lib.hid hdeg;have HRM:Hid (need L0+eN R+eN U+eN D<=131072):=Lib.hid (by have:=eN_le R;have:=eN_le U;have:=eN_le D;omega);have HNN:=Lib.hid hN;have HBS:=Lib.hid hbase;have HVN:=Lib.hid hv;obtain ⟨PST,hPST⟩:∃ P,P=OutPost w0 w pb db n o d L0 gb gen N ob ib vb es rb mb g vk done x5 S nX nU nD xb ub eb (.slice wa was.length wk) was (R++cutM es S v) (U++outM es v) (D++inM es v) (tookM es was done gen vs i v) base:=⟨_,rfl⟩;have HPST:=Lib.hid hPST;rw [<- hPST];have H1:Hid (OutIn w0 (w.alloc (.cells #[ptrTo rb] 130)) pb db n o d L0 L gb gen N ob ib vb es rb mb g vk done x5 S nX nU nD xb ub eb (.slice wa was.length wk) was R U D vs base/\(w.alloc (.cells #[ptrTo rb] 130)).heap[w.heap.size]? = some (.cells #[ptrTo rb] 130)/\o w.heap.size=none/\w.heap.size≠g):=Lib.hid ⟨h.below ((Below.refl _ _).alloc (Nat.le_refl _) _) (by have:=eN_le R;have:=eN_le U;have:=eN_le D;omega),heap_alloc_new _ _,h.net.held.pool.fresh (Nat.le_refl _),fun e=>by have:=(ownBlock_old h.row g rfl).1;omega⟩;have HM1:Hid (Moved (·=g) n pb db w o d (w.alloc (.cells #[ptrTo rb] 130)) o d L):=Lib.hid ((Moved.refl _ h.net.held.pool).alloc _);have c1:=h.rnd.cells.2.1;have hrl:=h.rnd.lt;clear h hq hdeg hN hbase hv hPST hV hVv hRK hLV hRn hLn hi hgen;unfold ptrTo at *;go_enter Tryz.func103,Tryz.ntmps103
 go_wp2_with fail
 clear c1 hrl;have HS1:Hid (OutIn w0 (w.alloc (.cells #[.pointer (some ⟨rb,0,none⟩)] 130)) pb db n o d L0 L gb gen N ob ib vb es rb mb g vk done x5 S nX nU nD xb ub eb (.slice wa was.length wk) was R U D vs base/\(w.alloc (.cells #[.pointer (some ⟨rb,0,none⟩)] 130)).heap[w.heap.size]? = some (.cells #[.pointer (some ⟨rb,0,none⟩)] 130)/\o w.heap.size=none/\Moved (·=g) n pb db w o d (w.alloc (.cells #[.pointer (some ⟨rb,0,none⟩)] 130)) o d L):=Lib.hid ⟨H1.out.1,H1.out.2.1,H1.out.2.2.1,HM1.out⟩;have HPG:Hid (w.heap.size≠g):=Lib.hid H1.out.2.2.2;clear H1 HM1;generalize w.alloc (.cells #[.pointer (some ⟨rb,0,none⟩)] 130)=W1 at *;obtain ⟨pc,hpc⟩:∃ x,x=w.heap.size:=⟨_,rfl⟩;rw [<- hpc] at HS1 HPG ⊢;clear hpc;have hout:=Lib.hid (HS1.out.1.net.out HW HVN.out);unfold HeldOf ptrTo at hout;refine hout.out.mono ?_;rintro e w2 ⟨ov,d2,o2,rfl,hm2,ho2,hf2⟩;obtain ⟨oa,oc,rfl⟩:=ownsRow_slice ho2;have HS2:=Lib.hid (out_step HS1.out hm2 HS1.out.1.rl HRM.out);have HOV2:=Lib.hid (RdF.of ho2 hf2);have hin:=Lib.hid (HS2.out.1.net.inn HW HVN.out);have c0:w2.cell? ⟨pc,0,none⟩=some (.pointer (some ⟨rb,0,none⟩)):=by rw [cells_cell HS2.out.2.1];rfl
 have c1:w2.cell? ⟨rb,1,none⟩=some (.pointer (some ⟨gb,0,none⟩)):=HS2.out.1.rnd.cells.2.1;unfold HeldOf ptrTo at hin;clear hm2 ho2 hf2 hout HS1;go_wp2_with fail
 refine hin.out.mono ?_;rintro e w3 ⟨iv,d3,o3,rfl,hm3,hi3,hf3⟩;obtain ⟨ia,ic,rfl⟩:=ownsRow_slice hi3;have HS3:=Lib.hid (out_step HS2.out hm3 HS2.out.1.rl HRM.out);have HOV3:=Lib.hid (HOV2.out.moved hm3);have HIV3:=Lib.hid (RdF.of hi3 hf3);clear hm3 hi3 hf3 hin HS2 HOV2 c0 c1;have F:Hid (∀ w',Below w3.heap.size w3 w'->w'.cell? ⟨pc,0,none⟩=some (.pointer (some ⟨rb,0,none⟩))/\w'.cell? ⟨rb,1,none⟩=some (.pointer (some ⟨gb,0,none⟩))):=Lib.hid (fun w' hw'=>by
  have hs:=out_step HS3.out (Moved.ofBelow HS3.out.1.net.held.pool hw') HS3.out.1.rl HRM.out;exact ⟨by rw [cells_cell hs.2.1];rfl,hs.1.rnd.cells.2.1⟩)
 go_wp2_with fail
 refine wp_region_mid (Below w3.heap.size w3) 12 rfl (by kernel_rfl) (by kernel_rfl) ((Below.refl _ _).drew) ?_;simp only [List.take_succ_cons,List.take_zero];refine qo (fun K hK=>?_) (fun w' hw'=>by obtain ⟨f0,f1⟩:=F.out w' hw';go_simp<;>rfl);go_simp;refine hK _ ?_;clear hK K;iterate 2 (refine qo (fun K hK=>?_);go_simp;refine hK _ ?_;clear hK K)
 refine qo (fun K hK=>?_) (fun w' hw'=>by obtain ⟨f0,f1⟩:=F.out w' hw';go_simp<;>rfl);go_simp;refine hK _ ?_;clear hK K;refine qo (fun K hK=>?_);go_simp;refine hK _ ?_;clear hK K;refine qo (fun K hK=>?_) (fun w' hw'=>by obtain ⟨f0,f1⟩:=F.out w' hw';go_simp<;>rfl);go_simp;refine hK _ ?_;clear hK K;iterate 2 (refine qo (fun K hK=>?_);go_simp;refine hK _ ?_;clear hK K)
 refine qo (fun K hK=>?_) (fun w' hw'=>by obtain ⟨f0,f1⟩:=F.out w' hw';go_simp<;>rfl);go_simp;refine hK _ ?_;clear hK K;iterate 3 (refine qo (fun K hK=>?_);go_simp;refine hK _ ?_;clear hK K)
 refine wpQuiet_nil ?_;intro w4 hw4;refine ⟨_,_,rfl,(by go_simp<;>exact ⟨rfl,rfl⟩),?_⟩;have HS4:=Lib.hid (out_step HS3.out (Moved.ofBelow HS3.out.1.net.held.pool hw4) HS3.out.1.rl HRM.out);have HOV4:=Lib.hid (HOV3.out.moved (Moved.ofBelow (n:=n) HS3.out.1.net.held.pool hw4));have HIV4:=Lib.hid (HIV3.out.moved (Moved.ofBelow (n:=n) HS3.out.1.net.held.pool hw4));have hmk:=Lib.hid (shortMake_any HW HS4.out.1.net (chosenAv HS4.out.2.1 HS4.out.1.rnd HS4.out.1.ch HS4.out.2.2.1 HS4.out.1.of.free HS4.out.1.omb) V (by rw [HV.out.2];exact HVN.out) (by rw [HV.out.2];exact HDG.out));have hce:cutsM (outM es) (fun x=>decide (x∈S)) (inM es v) V=cutM es S v:=by unfold cutM;rw [<- HV.out.1]
 rw [HV.out.2,hce] at hmk;unfold CutsPost outFn inFn ptrTo at hmk;clear hw4 F HS3 HOV3 HIV3 hce;refine hmk.out.mono ?_;rintro e w5 ⟨cv,d5,o5,rfl,hm5,hcr,hcf⟩;have HS5:=Lib.hid (out_step HS4.out hm5 HS4.out.1.rl HRM.out);have HOV5:=Lib.hid (HOV4.out.moved hm5);have HIV5:=Lib.hid (HIV4.out.moved hm5);have HCV5:Hid (RdF w5 o5 cv (cutM es S v)):=Lib.hid ⟨hcr,fun b hb=>⟨(hcf b hb).2.2,(hcf b hb).1⟩⟩;obtain ⟨ca,cc,rfl,-⟩:=hcr;clear hm5 hcf hmk HS4 HOV4 HIV4;refine ⟨_,rfl,?_⟩;go_simp;iterate 5 (refine qo (fun K hK=>?_);go_simp;refine hK _ ?_;clear hK K)
 refine wpQuiet_nil ?_;obtain ⟨fu,hfu⟩:=HS5.out.1.rl.u;have hpu:=Lib.hid (HS5.out.1.put HW HS5.out.1.su HS5.out.1.ou hfu HOV5.out.1 (fun b hb=>(HOV5.out.2 b hb).2) (by omega) (by have:=HQ.out;omega));unfold PutEPost ptrTo at hpu;clear hfu;go_wp2_with fail
 refine hpu.out.mono ?_;rintro e w6 ⟨f6,d6,o6,rfl,hm6⟩;have HS6:=Lib.hid (out_step HS5.out hm6 (rl_putU HS5.out.1.rl HS5.out.1.net.held.pool.keys HS5.out.1.nm.xu HS5.out.1.nm.ud (U++outM es v) f6) (by have:=HQ.out;have:=eN_le R;have:=eN_le (U++outM es v);have:=eN_le D;rw [List.length_append] at *;omega));have HIV6:=Lib.hid (HIV5.out.moved hm6);have HCV6:=Lib.hid (HCV5.out.moved hm6);clear hm6 hpu HS5 HOV5 HIV5 HCV5;obtain ⟨fd,hfd⟩:=HS6.out.1.rl.d;have hpd:=Lib.hid (HS6.out.1.put HW HS6.out.1.sd HS6.out.1.od hfd HIV6.out.1 (fun b hb=>(HIV6.out.2 b hb).2) (by omega) (by have:=HQ.out;rw [List.length_append];omega));unfold PutEPost ptrTo at hpd;clear hfd;go_wp2_with fail
 refine hpd.out.mono ?_;rintro e w7 ⟨f7,d7,o7,rfl,hm7⟩;have HS7:=Lib.hid (out_step HS6.out hm7 (rl_putD HS6.out.1.rl HS6.out.1.net.held.pool.keys HS6.out.1.nm.xd HS6.out.1.nm.ud (D++inM es v) f7) (by have:=HQ.out;have:=eN_le R;have:=eN_le (U++outM es v);have:=eN_le (D++inM es v);rw [List.length_append] at *;omega));have HCV7:=Lib.hid (HCV6.out.moved hm7);clear hm7 hpd HS6 HIV6 HCV6;obtain ⟨fx,hfx⟩:=HS7.out.1.rl.x;have hpx:=Lib.hid (HS7.out.1.put HW HS7.out.1.sx HS7.out.1.ox hfx HCV7.out.1 (fun b hb=>(HCV7.out.2 b hb).2) (by omega) (by have:=HQ.out;rw [List.length_append,List.length_append];omega));unfold PutEPost ptrTo at hpx;clear hfx;go_wp2_with fail
 refine hpx.out.mono ?_;rintro e w8 ⟨f8,d8,o8,rfl,hm8⟩;have HRM8:Hid (need L0+eN (R++cutM es S v)+eN (U++outM es v)+eN (D++inM es v)<=131072):=Lib.hid (by have:=HQ.out;have:=eN_le (R++cutM es S v);have:=eN_le (U++outM es v);have:=eN_le (D++inM es v);rw [List.length_append] at *;omega);have HS8:=Lib.hid (out_step HS7.out hm8 (rl_putX HS7.out.1.rl HS7.out.1.net.held.pool.keys HS7.out.1.nm.xu HS7.out.1.nm.xd (R++cutM es S v) f8) HRM8.out);clear hm8 hpx HS7 HCV7;generalize mput (mput (mput L nU (edgeFile (U++outM es v) f6)) nD (edgeFile (D++inM es v) f7)) nX (edgeFile (R++cutM es S v) f8)=L8 at *;generalize R++cutM es S v=R8 at *;generalize U++outM es v=U8 at *;generalize D++inM es v=D8 at *;obtain ⟨y,hy⟩:∃ y,vs[v]? = some y:=⟨_,List.getElem?_eq_getElem (by have:=HVN.out;have:=HS8.out.1.len;omega)⟩;have HY:=Lib.hid hy;obtain ⟨pp,hpp⟩:∃ p,p=v*3:=⟨_,rfl⟩;have HPP:=Lib.hid hpp;obtain ⟨n1,-⟩:=HS8.out.1.gne;have n2:=HPG.out;have hvn:=HVN.out;clear hy hpp;obtain ⟨C,hC⟩:∃ C:World->Prop,C=fun W=>∃ r l,(OutIn w0 W pb db n o8 d8 L0 L8 gb gen N ob ib vb es rb mb g vk done x5 S nX nU nD xb ub eb (.slice wa was.length wk) was R8 U8 D8 (vs.set v ⟨r,l,y.g⟩) base/\W.heap[pc]? = some (.cells #[.pointer (some ⟨rb,0,none⟩)] 130)/\o8 pc=none/\Moved (·=g) n pb db w o d W o8 d8 L8):=⟨_,rfl⟩;have HC:=Lib.hid hC;have F:Hid (∀ W,C W->W.cell? ⟨pc,0,none⟩=some (.pointer (some ⟨rb,0,none⟩))/\W.cell? ⟨rb,2,none⟩=some (.int .i64 (gen:Int))/\W.cell? ⟨rb,3,none⟩=some (.int .u32 (done:Int))/\W.cell? ⟨rb,6,none⟩=some (.slice (some ⟨g,0,none⟩) N vk)):=Lib.hid (fun W hw=>by
  rw [HC.out] at hw;obtain ⟨r,l,hs⟩:=hw;obtain ⟨-,-,h2,h3,-,-,h6,-⟩:=hs.1.rnd.cells;exact ⟨by rw [cells_cell hs.2.1];rfl,h2,h3,h6⟩)
 have HLV:Hid (v < vs.length):=Lib.hid (lt_of_get HY.out);have G:Hid (∀ W,C W->(∃ r l,W.cell? ⟨g,pp,none⟩=some (.int .u32 ((r:UInt32).toNat:Int))/\W.cell? ⟨g,pp+1,none⟩=some (.int .u32 ((l:UInt32).toNat:Int))/\OutIn w0 W pb db n o8 d8 L0 L8 gb gen N ob ib vb es rb mb g vk done x5 S nX nU nD xb ub eb (.slice wa was.length wk) was R8 U8 D8 (vs.set v ⟨r,l,y.g⟩) base/\W.heap[pc]? = some (.cells #[.pointer (some ⟨rb,0,none⟩)] 130)/\o8 pc=none/\Moved (·=g) n pb db w o d W o8 d8 L8)/\W.frozen? ⟨g,pp,none⟩=false/\W.frozen? ⟨g,pp+1,none⟩=false):=Lib.hid (fun W hw=>by
  rw [HC.out] at hw;obtain ⟨r,l,hs⟩:=hw;have hrow:=hs.1.row;rw [<- hs.1.len] at hrow;obtain ⟨q0,q1,-⟩:=ownsVrts_cells hrow (List.getElem?_set_self HLV.out);rw [<- HPP.out] at q0 q1;exact ⟨⟨r,l,q0,q1,hs⟩,World.ownsRow.frozenAt hrow pp,World.ownsRow.frozenAt hrow (pp+1)⟩)
 have ST:Hid (∀ W,C W->C (W.setCell ⟨g,pp,none⟩ (.int .u32 (RK.toNat:Int)))/\C (W.setCell ⟨g,pp+1,none⟩ (.int .u32 (LV.toNat:Int)))):=Lib.hid (fun W hw=>by
  rw [HC.out] at hw ⊢;obtain ⟨r,l,hs⟩:=hw;have hg:=List.getElem?_set_self (a:=⟨r,l,y.g⟩) HLV.out;have h1:=out_set hs HPG.out pp (.int .u32 (RK.toNat:Int)) (by rw [HPP.out];exact vrtRow_set0 RK hg) (by simp);have h2:=out_set hs HPG.out (pp+1) (.int .u32 (LV.toNat:Int)) (by rw [HPP.out];exact vrtRow_set1 LV hg) (by simp);rw [List.set_set] at h1 h2;exact ⟨⟨_,_,h1⟩,⟨_,_,h2⟩⟩)
 have HC0:Hid (C w8.drew):=Lib.hid (by
  have h1:=out_step HS8.out (Moved.ofBelow HS8.out.1.net.held.pool (Below.refl _ _).drew) HS8.out.1.rl HRM8.out;rw [HC.out];refine ⟨y.r,y.l,?_⟩;rw [show vs.set v ⟨y.r,y.l,y.g⟩=vs from vset_same HY.out];exact h1)
 have HFIN:Hid (∀ W,C W->W.cell? ⟨g,pp,none⟩=some (.int .u32 (RK.toNat:Int))->W.cell? ⟨g,pp+1,none⟩=some (.int .u32 (LV.toNat:Int))->(OutIn w0 W pb db n o8 d8 L0 L8 gb gen N ob ib vb es rb mb g vk done x5 S nX nU nD xb ub eb (.slice wa was.length wk) was R8 U8 D8 (vs.modify v fun x=>⟨RK,LV,x.g⟩) base/\W.heap[pc]? = some (.cells #[.pointer (some ⟨rb,0,none⟩)] 130)/\o8 pc=none/\Moved (·=g) n pb db w o d W o8 d8 L8)):=Lib.hid (fun W hw h1 h2=>by
  obtain ⟨⟨r,l,q0,q1,hs⟩,-⟩:=G.out W hw;rw [h1] at q0;rw [h2] at q1;have e1:r=RK:=UInt32.toNat_inj.1 (by simp at q0;omega);have e2:l=LV:=UInt32.toNat_inj.1 (by simp at q1;omega);rw [e1,e2] at hs;rw [modify_set HY.out];exact hs)
 obtain ⟨z1,z2,z3,z4,z5⟩:=HWR.out;clear hC HS8 HY;go_wp2_with fail
 refine wp_region_fix C (fun q=>match q with
  | 0=>.pointer (some ⟨rb,0,none⟩) | 1=>.pointer (some ⟨rb,0,none⟩) | 2=>.pointer (some ⟨rb,6,none⟩) | 3=>.slice (some ⟨g,0,none⟩) N vk | 4=>.int .u32 (v:Int)
  | 5=>.pointer (some ⟨rb,0,none⟩) | 6=>.pointer (some ⟨rb,0,none⟩) | 7=>.pointer (some ⟨rb,6,none⟩) | 8=>.slice (some ⟨g,0,none⟩) N vk | 9=>.int .u32 (v:Int)
  | 10=>.pointer (some ⟨rb,0,none⟩) | 11=>.pointer (some ⟨rb,0,none⟩) | 12=>.pointer (some ⟨rb,3,none⟩) | 13=>.int .u32 (done:Int) | 14=>.int .i64 (i:Int) | 15=>.int .u32 (i:Int) | 16=>.int .u32 (RK.toNat:Int)
  | 17=>.pointer (some ⟨rb,0,none⟩) | 18=>.pointer (some ⟨rb,0,none⟩) | 19=>.pointer (some ⟨rb,2,none⟩) | 20=>.int .i64 (gen:Int) | 21=>.int .i64 ((gen:Int)+1) | 22=>.int .u32 (LV.toNat:Int)
  | 23=>.pointer (some ⟨g,pp,none⟩) | 24=>.pointer (some ⟨g,pp,none⟩) | 26=>.pointer (some ⟨g,pp,none⟩) | 27=>.pointer (some ⟨g,pp+1,none⟩) | _=>undef)
  (fun q W=>match q with | 25=>W.cell? ⟨g,pp,none⟩=some (.int .u32 (RK.toNat:Int)) | 28=>W.cell? ⟨g,pp+1,none⟩=some (.int .u32 (LV.toNat:Int)) | _=>True) (by kernel_rfl) (by kernel_rfl) (by kernel_rfl) HC0.out ?_ ?_
 ·intro j oo ho a W hW hd;obtain ⟨f0,f2,f3,f6⟩:=F.out W hW;obtain ⟨⟨r,l,g0,g1,-⟩,fr0,fr1⟩:=G.out W hW;match j,ho with
  | 0,ho=>cases ho;have h7:=hd.old 7 rfl rfl;exact fix_read hW trivial (by go_simp)
  | 1,ho=>cases ho;have d0:=hd.get 0 rfl rfl rfl;exact fix_read hW trivial (by go_simp)
  | 2,ho=>cases ho;have d1:=hd.get 1 rfl rfl rfl;exact fix_read hW trivial (by go_simp)
  | 3,ho=>cases ho;have d2:=hd.get 2 rfl rfl rfl;exact fix_read hW trivial (by go_simp)
  | 4,ho=>cases ho;have h2:=hd.old 2 rfl rfl;exact fix_read hW trivial (by go_simp)
  | 5,ho=>cases ho;have h7:=hd.old 7 rfl rfl;exact fix_read hW trivial (by go_simp)
  | 6,ho=>cases ho;have d5:=hd.get 5 rfl rfl rfl;exact fix_read hW trivial (by go_simp)
  | 7,ho=>cases ho;have d6:=hd.get 6 rfl rfl rfl;exact fix_read hW trivial (by go_simp)
  | 8,ho=>cases ho;have d7:=hd.get 7 rfl rfl rfl;exact fix_read hW trivial (by go_simp)
  | 9,ho=>cases ho;have h2:=hd.old 2 rfl rfl;exact fix_read hW trivial (by go_simp)
  | 10,ho=>cases ho;have h7:=hd.old 7 rfl rfl;exact fix_read hW trivial (by go_simp)
  | 11,ho=>cases ho;have d10:=hd.get 10 rfl rfl rfl;exact fix_read hW trivial (by go_simp)
  | 12,ho=>cases ho;have d11:=hd.get 11 rfl rfl rfl;exact fix_read hW trivial (by go_simp)
  | 13,ho=>cases ho;have d12:=hd.get 12 rfl rfl rfl;exact fix_read hW trivial (by go_simp)
  | 14,ho=>cases ho;have h1:=hd.old 1 rfl rfl;exact fix_read hW trivial (by go_simp)
  | 15,ho=>cases ho;have d14:=hd.get 14 rfl rfl rfl;exact fix_read hW trivial (by go_simp)
  | 16,ho=>cases ho;have d13:=hd.get 13 rfl rfl rfl;have d15:=hd.get 15 rfl rfl rfl;exact fix_read hW trivial (by go_simp)
  | 17,ho=>cases ho;have h7:=hd.old 7 rfl rfl;exact fix_read hW trivial (by go_simp)
  | 18,ho=>cases ho;have d17:=hd.get 17 rfl rfl rfl;exact fix_read hW trivial (by go_simp)
  | 19,ho=>cases ho;have d18:=hd.get 18 rfl rfl rfl;exact fix_read hW trivial (by go_simp)
  | 20,ho=>cases ho;have d19:=hd.get 19 rfl rfl rfl;exact fix_read hW trivial (by go_simp)
  | 21,ho=>cases ho;have d20:=hd.get 20 rfl rfl rfl;exact fix_read hW trivial (by go_simp)
  | 22,ho=>cases ho;have d21:=hd.get 21 rfl rfl rfl;exact fix_read hW trivial (by go_simp)
  | 23,ho=>cases ho;have e:=HPP.out.symm;have d3:=hd.get 3 rfl rfl rfl;have d4:=hd.get 4 rfl rfl rfl;exact fix_read hW trivial (by go_simp)
  | 24,ho=>cases ho;have d23:=hd.get 23 rfl rfl rfl;exact fix_read hW trivial (by go_simp)
  | 25,ho=>
    cases ho;have d24:=hd.get 24 rfl rfl rfl;have d16:=hd.get 16 rfl rfl rfl;refine ⟨W.setCell ⟨g,pp,none⟩ (.int .u32 (RK.toNat:Int)), .inr ⟨rfl,by go_simp⟩,(ST.out W hW).1,(by dsimp only;go_simp),fun j hj=>?_⟩
    dsimp only at hj ⊢;split
    ·go_simp
    ·clear g0 g1;go_simp;exact hj
    ·trivial
  | 26,ho=>cases ho;have e:=HPP.out.symm;have d8:=hd.get 8 rfl rfl rfl;have d9:=hd.get 9 rfl rfl rfl;exact fix_read hW trivial (by go_simp)
  | 27,ho=>cases ho;have d26:=hd.get 26 rfl rfl rfl;exact fix_read hW trivial (by go_simp)
  | 28,ho=>
    cases ho;have d27:=hd.get 27 rfl rfl rfl;have d22:=hd.get 22 rfl rfl rfl;refine ⟨W.setCell ⟨g,pp+1,none⟩ (.int .u32 (LV.toNat:Int)), .inr ⟨rfl,by go_simp⟩,(ST.out W hW).2,(by dsimp only;go_simp),fun j hj=>?_⟩
    dsimp only at hj ⊢;split
    ·clear g0 g1;go_simp;exact hj
    ·go_simp
    ·trivial
  | _+29,ho=>cases ho
 ·intro W9 hW9 hD;have HS11:=Lib.hid (HFIN.out W9 hW9 (hD 25 (by decide)) (hD 28 (by decide)));clear hW9 hD HFIN HC0 ST G F HC HLV n1 n2 hvn z1 z2 z3 z4 z5;simp only [fixPut];go_simp;have c0:W9.cell? ⟨pc,0,none⟩=some (.pointer (some ⟨rb,0,none⟩)):=by rw [cells_cell HS11.out.2.1];rfl
  have hnr:=Lib.hid (near_any HW HS11.out.1.net v HVN.out HS11.out.1.rnd rfl HS11.out.1.of.free);unfold NearPost ptrTo at hnr;go_wp2_with fail
  refine hnr.out.mono ?_;rintro e w12 ⟨nv,d12,o12,rfl,hm12,hn12,hf12⟩;obtain ⟨na,nk,rfl⟩:=ownsRow_slice hn12;have HS12:=Lib.hid (out_step HS11.out hm12 HS11.out.1.rl HRM8.out);obtain ⟨K,hK⟩:∃ K,K=(nearM es v).length:=⟨_,rfl⟩;have HKL:Hid (K=(nearM es v).length/\K < 2147483648):=Lib.hid ⟨hK,by rw [hK,nearM_eq];have h1:=once_length (l:=(inM es v).map (·.t.toNat)) (acc:=((outM es v).map (·.h.toNat)).foldl onceA []);have h2:=once_length (l:=(outM es v).map (·.h.toNat)) (acc:=[]);have h3:=outM_length es v;have h4:=inM_length es v;have h5:=HS12.out.1.net.len;rw [List.length_map] at h1 h2;rw [List.length_nil] at h2;omega⟩;have HNR:Hid (ownsNums w12 W9.heap.size (.slice na K nk) (nearM es v)/\∀ b,(Value.slice na K nk).ownBlock=some b->b≠g):=Lib.hid ⟨by rw [hK];exact hn12,fun b hb e=>by
   have h1:=ownsRow_block hn12 b (by rw [<- hK];exact hb);have h2:=(ownBlock_old HS11.out.1.row g rfl).1;omega⟩
  rw [<- hK];clear hm12 hn12 hf12 hnr HS11 c0 hK;obtain ⟨zv,hzv⟩:∃ z,was[v]? = some z:=⟨_,List.getElem?_eq_getElem (by have:=HVN.out;have:=HS12.out.1.wlen;omega)⟩;have HZV:=Lib.hid hzv;clear hzv;obtain ⟨lv,hlv⟩:∃ x,x=zv.l+1:=⟨_,rfl⟩;have HLVV:=Lib.hid hlv;clear hlv;have HS13:Hid ((OutIn w0 w12 pb db n o12 d12 L0 L8 gb gen N ob ib vb es rb mb g vk done x5 S nX nU nD xb ub eb (.slice wa was.length wk) was R8 U8 D8 (((nearM es v).take 0).foldl (goneM lv) (vs.modify v fun x=>⟨RK,LV,x.g⟩)) base/\w12.heap[pc]? = some (.cells #[.pointer (some ⟨rb,0,none⟩)] 130)/\o12 pc=none/\Moved (·=g) n pb db w o d w12 o12 d12 L8)/\ownsNums w12 W9.heap.size (.slice na K nk) (nearM es v)):=Lib.hid ⟨HS12.out,HNR.out.1⟩;clear HS12;generalize W9.heap.size=bn at *;go_wp2_with fail
  go_loopw [125] (fun vi wr=>∃ k:Nat,vi=.int .i64 (k:Int)/\k<=K/\Hid ((OutIn w0 wr pb db n o12 d12 L0 L8 gb gen N ob ib vb es rb mb g vk done x5 S nX nU nD xb ub eb (.slice wa was.length wk) was R8 U8 D8 (((nearM es v).take k).foldl (goneM lv) (vs.modify v fun x=>⟨RK,LV,x.g⟩)) base/\wr.heap[pc]? = some (.cells #[.pointer (some ⟨rb,0,none⟩)] 130)/\o12 pc=none/\Moved (·=g) n pb db w o d wr o12 d12 L8)/\ownsNums wr bn (.slice na K nk) (nearM es v))) (fun vi _=>K - (intOf vi).toNat)
  case atStart=>exact ⟨0,rfl,Nat.zero_le _,HS13⟩
  case round=>
   obtain ⟨k,rfl,hk,HS14⟩:=hrel;clear HS13;generalize wr=W14 at *;by_cases hlt:k < K
   ·have hkz:(k:Int) < (K:Int):=by omega
    have wk':IntKind.i64.wrap ((k:Int)+1)=((k+1:Nat):Int):=by have:=HKL.out;rw [wrap_in]<;>omega
    obtain ⟨y0,hy0⟩:∃ y,(nearM es v)[k]? = some y:=⟨_,List.getElem?_eq_getElem (by have:=HKL.out;omega)⟩;have hy0n:y0 < N:=near_lt HS14.out.1.1.net.ends y0 (List.mem_of_getElem? hy0);have HTK:Hid (((nearM es v).take (k+1)).foldl (goneM lv) (vs.modify v fun x=>⟨RK,LV,x.g⟩)=goneM lv (((nearM es v).take k).foldl (goneM lv) (vs.modify v fun x=>⟨RK,LV,x.g⟩)) y0):=Lib.hid (by
     obtain ⟨hl,he⟩:=List.getElem?_eq_some_iff.1 hy0;rw [List.take_succ_eq_append_getElem hl,he,List.foldl_append];rfl)
    generalize ((nearM es v).take k).foldl (goneM lv) (vs.modify v fun x=>⟨RK,LV,x.g⟩)=vk0 at *;obtain ⟨x0,hx0⟩:∃ x,vk0[y0]? = some x:=⟨_,List.getElem?_eq_getElem (by have:=HS14.out.1.1.len;omega)⟩;have HX0:=Lib.hid hx0;obtain ⟨ng,rfl⟩:∃ g,na=some ⟨g,0,none⟩:=by
     obtain ⟨-,⟨h1,h2⟩ | ⟨g,_,_,h1,_⟩⟩:=HS14.out.2
     ·have:=HKL.out;omega
     ·cases h1;exact ⟨g,rfl⟩
    have hnr:=HS14.out.2;rw [HKL.out.1] at hnr;have q0:=ownsNums_cell (l:=nearM es v) hnr hy0;have hrow:=HS14.out.1.1.row;rw [<- HS14.out.1.1.len] at hrow;obtain ⟨r0,r1,r2⟩:=ownsVrts_cells hrow hx0;obtain ⟨yy,hyy⟩:∃ p,y0*3=p:=⟨_,rfl⟩;have fr2:=World.ownsRow.frozenAt hrow (yy+2);rw [hyy] at r0 r1 r2;have c0:W14.cell? ⟨pc,0,none⟩=some (.pointer (some ⟨rb,0,none⟩)):=by rw [cells_cell HS14.out.1.2.1];rfl
    obtain ⟨-,-,-,-,-,-,c6,-⟩:=HS14.out.1.1.rnd.cells;obtain ⟨gg,hgg⟩:∃ x,x=x0.g+1:=⟨_,rfl⟩;have zg:((x0.g.toNat:Int)+1) % 4294967296=(gg.toNat:Int):=by have:=wrap_succ32 x0.g;rw [hgg];rwa [IntKind.wrap_u32] at this
    have HGG:=Lib.hid hgg;clear hgg;have HS15:=Lib.hid (out_set HS14.out.1 HPG.out (yy+2) (.int .u32 (gg.toNat:Int)) (by rw [<- hyy];exact vrtRow_set2 gg hx0) (by simp));have HNR15:Hid (ownsNums (W14.setCell ⟨g,yy+2,none⟩ (.int .u32 (gg.toNat:Int))) bn (.slice (some ⟨ng,0,none⟩) K nk) (nearM es v)):=Lib.hid (ownsRow_heap HS14.out.2 (fun b hb=>Below.heap_setCell _ _ _ _ (HNR.out.2 b hb)));clear hnr hrow hy0 hx0 HS14;go_wp2_with fail
    clear q0 r0 r1 r2 fr2 c0 c6 zg;generalize W14.setCell ⟨g,yy+2,none⟩ (.int .u32 (gg.toNat:Int))=W15 at *;have hx15:(vk0.set y0 ⟨x0.r,x0.l,gg⟩)[y0]? = some ⟨x0.r,x0.l,gg⟩:=List.getElem?_set_self (lt_of_get HX0.out);have hrow:=HS15.out.1.row;rw [<- HS15.out.1.len] at hrow;obtain ⟨-,r1,-⟩:=ownsVrts_cells hrow hx15;rw [hyy] at r1;have fr1:=World.ownsRow.frozenAt hrow (yy+1);obtain ⟨wa',wk',hwe,-,-,hwc⟩:=HS15.out.1.wrow;obtain ⟨rfl,-,rfl⟩:wa=wa'/\was.length=was.length/\wk=wk':=by simpa using hwe
    have hvw:v < was.length:=lt_of_get HZV.out;obtain ⟨wb,wo,rfl,hwc2⟩:=hwc.resolve_left (by omega);obtain ⟨-,s1,-⟩:=hwc2 v hvw;have ez:was[v]=zv:=(List.getElem?_eq_some_iff.1 HZV.out).2;rw [ez] at s1;obtain ⟨lm,hlm⟩:∃ x,x=if x0.l < lv then lv else x0.l:=⟨_,rfl⟩;have zl:((zv.l.toNat:Int)+1) % 4294967296=(lv.toNat:Int):=by have:=wrap_succ32 zv.l;rw [HLVV.out];rwa [IntKind.wrap_u32] at this
    have HS16:=Lib.hid (out_setd HS15.out HPG.out (yy+1) (.int .u32 (lm.toNat:Int)) (by rw [<- hyy];exact vrtRow_set1 lm hx15) (by simp) HRM8.out);have HNR16:Hid (ownsNums (W15.setCell ⟨g,yy+1,none⟩ (.int .u32 (lm.toNat:Int))).drew bn (.slice (some ⟨ng,0,none⟩) K nk) (nearM es v)):=Lib.hid (ownsRow_heap HNR15.out (fun b hb=>by
     show (W15.setCell ⟨g,yy+1,none⟩ (.int .u32 (lm.toNat:Int))).heap[b]? = _;exact Below.heap_setCell _ _ _ _ (HNR.out.2 b hb)))
    have HLM:=Lib.hid hlm;clear hrow hx15 hwe hwc hwc2 ez hlm HS15 HNR15;have HFN:Hid (goneM lv vk0 y0=(vk0.set y0 ⟨x0.r,x0.l,gg⟩).set y0 ⟨x0.r,lm,gg⟩):=Lib.hid (by
     unfold goneM;rw [modify_set HX0.out,List.set_set,HLM.out,HGG.out])
    by_cases hll:x0.l < lv
    case' pos=>
     have hll':(x0.l.toNat:Int) < (lv.toNat:Int):=by have:=UInt32.lt_iff_toNat_lt.1 hll;omega
     have hmx:max (x0.l.toNat:Int) (lv.toNat:Int)=(lm.toNat:Int):=by rw [HLM.out,if_pos hll];omega
    case' neg=>
     have hll':¬ (x0.l.toNat:Int) < (lv.toNat:Int):=by have:=mt UInt32.lt_iff_toNat_lt.2 hll;omega
     have hmx:max (x0.l.toNat:Int) (lv.toNat:Int)=(lm.toNat:Int):=by rw [HLM.out,if_neg hll];omega
    all_goals
     clear hll;go_wp2_with fail
     go_big_region
     clear r1 fr1 s1 zl hll' hmx hvw;generalize (W15.setCell ⟨g,yy+1,none⟩ (.int .u32 (lm.toNat:Int))).drew=W16 at *;have HS17:Hid ((OutIn w0 W16 pb db n o12 d12 L0 L8 gb gen N ob ib vb es rb mb g vk done x5 S nX nU nD xb ub eb (.slice (some ⟨wb,wo,none⟩) was.length wk) was R8 U8 D8 (((nearM es v).take (k+1)).foldl (goneM lv) (vs.modify v fun x=>⟨RK,LV,x.g⟩)) base/\W16.heap[pc]? = some (.cells #[.pointer (some ⟨rb,0,none⟩)] 130)/\o12 pc=none/\Moved (·=g) n pb db w o d W16 o12 d12 L8)/\ownsNums W16 bn (.slice (some ⟨ng,0,none⟩) K nk) (nearM es v)):=Lib.hid ⟨by rw [HTK.out,HFN.out];exact HS16.out,HNR16.out⟩;clear HS16 HNR16 HTK HFN HLM HGG;go_wp2;go_roundw
     case rel=>exact ⟨k+1,by go_num,by omega,HS17⟩
     case measure=>simp [intOf];omega
   ·have hkz:¬ (k:Int) < (K:Int):=by omega
    have HQF:Hid (PST (.returned (.int .i64 0)) W14):=Lib.hid (by
     have h1:=HS14.out.1;rw [List.take_of_length_le (by have:=HKL.out;omega)] at h1;rw [HPST.out];refine ⟨d12,o12,L8,rfl,h1.2.2.2,?_⟩;have e:tookM es was done gen vs i v=(nearM es v).foldl (goneM lv) (vs.modify v fun x=>⟨RK,LV,x.g⟩):=by
      unfold tookM;rw [HZV.out,HRL.out.1,HRL.out.2,HLVV.out];rfl
     rw [e];exact h1.1)
    clear HS14;go_wp2;exact HQF.out
end
end
section
open Go.RowKit Go.Maps
section
variable {w0 w w' W W':World} {pb db n gb gen N ob ib vb rb mb done g vk base cbase:Nat} {o o' o'':Owner} {d d' d'':Dsk} {L L' L'':Logic} {es:List Edg} {was:List Vrt} {ov:Value} {S ch:List Nat}
def WritePost (w:World) (pb db n:Nat) (o:Owner) (d:Dsk) (L:Logic) (g gen:Nat) (R U D:List Edg) (vs:List Vrt) (e:Ending) (w':World):Prop:=
 ∃ d' o' L',e=.returned (.int .i64 0)/\Moved (·=g) n pb db w o d w' o' d' L'/\Rounded L L' gen R U D vs
theorem stay_congr (es:List Edg) (h:∀ z,z∈S ↔ z∈ch):stayM es S=stayM es ch:=by
 unfold stayM;refine List.filter_congr fun x _=>?_;simp [h]
theorem cut_congr (es:List Edg) (v:Nat) (h:∀ z,z∈S ↔ z∈ch):cutM es S v=cutM es ch v:=by
 unfold cutM;have:(fun w=>decide (w∈S))=fun w=>decide (w∈ch):=funext fun w=>by rw [decide_eq_decide];exact h w
 rw [this]
structure WriteIn (w0 w:World) (pb db n:Nat) (o:Owner) (d:Dsk) (L:Logic) (gb gen N ob ib vb:Nat) (es:List Edg) (rb mb g vk done:Nat) (ov:Value) (S ch:List Nat) (was:List Vrt) (base cbase:Nat):Prop where
 net:NetIn w0 w pb db n o d L gb gen N ob ib vb es
 rnd:RndAt w rb pb gb gen done (.map (some mb)) ov (.slice (some ⟨g,0,none⟩) N vk)
 of:RndOf w0 w o rb gb ob ib vb
 cho:ChosenAt w mb S
 omb:o mb=none
 ord:ownsNums w cbase ov ch
 oord:∀ b,ov.ownBlock=some b->o b=none
 row:ownsVrts w base (.slice (some ⟨g,0,none⟩) N vk) was
 len:was.length=N
 og:o g=none
 rg:rb < g
 gm:g < mb
 go:∀ b,ov.ownBlock=some b->g < b
 same:∀ z,z∈S ↔ z∈ch
 low:∀ v∈ch,v < N
 ne:ch≠[]
theorem rl_start {nX nU nD:Name} (xu:nX≠nU) (xd:nX≠nD) (ud:nU≠nD):RL L (mput (mput (mput L nX (edgeFile [] true)) nU (edgeFile [] true)) nD (edgeFile [] true)) nX nU nD [] [] []:=by
 refine ⟨⟨true,?_⟩,⟨true,?_⟩,⟨true,?_⟩,fun y g1 g2 g3=>?_,?_⟩
 ·rw [mget_mput,if_neg xd,mget_mput,if_neg xu,mget_mput,if_pos rfl]
 ·rw [mget_mput,if_neg ud,mget_mput,if_pos rfl]
 ·rw [mget_mput,if_pos rfl]
 ·rw [mget_mput,if_neg g3,mget_mput,if_neg g2,mget_mput,if_neg g1]
 ·have e:(edgeFile [] true).need=0:=rfl;have g1:=need_mput_le (mput (mput L nX (edgeFile [] true)) nU (edgeFile [] true)) nD (edgeFile [] true);have g2:=need_mput_le (mput L nX (edgeFile [] true)) nU (edgeFile [] true);have g3:=need_mput_le L nX (edgeFile [] true);omega
theorem flat_le {α β:Type} (l:List α) (f:α->List β) (k:Nat):((l.take k).flatMap f).length<=(l.flatMap f).length:=by
 conv=>rhs;rw [<- List.take_append_drop k l,List.flatMap_append,List.length_append]
 omega
theorem zip_take {l:List Nat} {k y:Nat} (h:l[k]? = some y):(l.take (k+1)).zipIdx=(l.take k).zipIdx++[(y,k)]:=by
 obtain ⟨hl,he⟩:=List.getElem?_eq_some_iff.1 h;rw [List.take_succ_eq_append_getElem hl,List.zipIdx_append,he,List.length_take,Nat.min_eq_left (Nat.le_of_lt hl)];simp
theorem VertsAt.lt {v:Value} {vs:List Vrt} (h:VertsAt w v vs) (h0:vs.length≠0):∀ b,v.ownBlock=some b->b < w.heap.size:=by
 obtain ⟨a,cap,rfl,-,-,h | ⟨b,off,rfl,hc⟩⟩:=h
 ·exact absurd h h0
 ·intro x hx;cases hx;exact World.block_lt_of_cell? _ _ (hc 0 (by omega)).1
set_option maxRecDepth 100000 in
set_option maxHeartbeats 16000000 in
theorem roundWrite_any (HW:WriteSaid) {m:Nat} (HJS:JobSortSaid m) (hn:8<=n) (h:WriteIn w0 w pb db n o d L gb gen N ob ib vb es rb mb g vk done ov S ch was base cbase) (hgen:gen+1 < 100) (hfree:∀ c,mget L (sName c (gen+1))=none) (hnt:∀ k,mget L (tName k)=none)
 (hm:(rawM es ch).length<=m) (hq:need L+24*((rawM es ch).length+(upM es ch).length+(downM es ch).length)+8*es.length+4*N+8<=131072) (hdone:done+ch.length < 4294967296) (hdeg:∀ v,v < N->(inM es v).length*(outM es v).length<=100000) :
 Calls Tryz.prog 65 #[ptrTo rb] w (WritePost w pb db n o d L g gen (rawM es ch) (upM es ch) (downM es ch) (vertsM es was done gen ch)):=by
 have H:=Lib.hid h;have HG2:Hid (gen+1 < 100):=Lib.hid hgen;have HF:=Lib.hid hfree;have HNT:=Lib.hid hnt;have HMM:=Lib.hid hm;have HQ:=Lib.hid hq;have HDN:=Lib.hid hdone;have HDG:=Lib.hid hdeg;have ne:∀ {c c':UInt8},c≠c'->sName c (gen+1)≠sName c' (gen+1):=fun h=>sName_ne h _ _;have ng:∀ (c c':UInt8),sName c (gen+1)≠sName c' gen:=fun c c'=>sName_gen_ne (by omega);have HRN:Hid (RNm gen (sName 120 (gen+1)) (sName 117 (gen+1)) (sName 100 (gen+1))):=Lib.hid ⟨ne (by decide),ne (by decide),ne (by decide),ng _ _,ng _ _,ng _ _,ng _ _,ng _ _,ng _ _⟩;have HOKN:Hid (∀ c:UInt8,okByte c=true->okName (sName c (gen+1))=true):=Lib.hid (fun c hc=>sName_ok c hc (by omega));have HNM:Hid (∀ (c:UInt8) W,Calls Tryz.prog 18 #[.int .u8 (c.toNat:Int), .int .i64 ((gen+1:Nat):Int)] W fun e w'=>e=.returned (.string (sName c (gen+1)))/\Below W.heap.size W w'):=Lib.hid (fun c W=>storeName_any c (gen+1) (o:=fun _=>Option.none) (.inl hgen));have wg:IntKind.i64.wrap ((gen:Int)+1)=((gen+1:Nat):Int):=by rw [wrap_in]<;>omega
 have HKP:Hid (∀ W o' d' L',Moved (fun _=>False) n pb db w o d W o' d' L'->Held w0 W pb db n o' d' L'/\RndAt W rb pb gb gen done (.map (some mb)) ov (.slice (some ⟨g,0,none⟩) N vk)/\o' rb=none):=Lib.hid (fun W o' d' L' hmv=>⟨h.net.held.moved hmv (fun _ e=>e.elim),h.rnd.moved h.of.free hmv,hmv.free h.of.lt h.of.free⟩);obtain ⟨PST,hPST⟩:∃ P,P=WritePost w pb db n o d L g gen (rawM es ch) (upM es ch) (downM es ch) (vertsM es was done gen ch):=⟨_,rfl⟩;have HPST:=Lib.hid hPST;rw [<- hPST];obtain ⟨c0,-,c2,-⟩:=h.rnd.cells;clear h hgen hfree hnt hm hq hdone hdeg hPST ne ng;obtain ⟨nX,hX⟩:∃ x,x=sName 120 (gen+1):=⟨_,rfl⟩;obtain ⟨nU,hU⟩:∃ x,x=sName 117 (gen+1):=⟨_,rfl⟩;obtain ⟨nD,hD⟩:∃ x,x=sName 100 (gen+1):=⟨_,rfl⟩;have HXD:=Lib.hid (show nX=sName 120 (gen+1)/\nU=sName 117 (gen+1)/\nD=sName 100 (gen+1) from ⟨hX,hU,hD⟩);rw [<- hX,<- hU,<- hD] at HRN;have HOX:Hid (okName nX=true/\okName nU=true/\okName nD=true):=Lib.hid ⟨by rw [hX];exact HOKN.out 120 (by decide),by rw [hU];exact HOKN.out 117 (by decide),by rw [hD];exact HOKN.out 100 (by decide)⟩;have HFX:Hid (mget L nX=none/\mget L nU=none/\mget L nD=none):=Lib.hid ⟨by rw [hX];exact HF.out 120,by rw [hU];exact HF.out 117,by rw [hD];exact HF.out 100⟩;have hn1:=Lib.hid (HNM.out 120);have hn2:=Lib.hid (HNM.out 117);have hn3:=Lib.hid (HNM.out 100);rw [<- hX] at hn1;rw [<- hU] at hn2;rw [<- hD] at hn3;clear hX hU hD HNM HOKN;unfold ptrTo at *;go_enter Tryz.func65,Tryz.ntmps65
 go_wp2_with fail
 refine (hn1.out _).mono ?_;rintro e w1 ⟨rfl,hb1⟩;have HM1:Hid (Moved (fun _=>False) n pb db w o d w1 o d L):=Lib.hid (Moved.ofBelow H.out.net.held.pool hb1);clear hb1 hn1 c0 c2;have hcr:=Lib.hid (roundCreate_any (HKP.out _ _ _ _ HM1.out).1 (HKP.out _ _ _ _ HM1.out).2.1 (HKP.out _ _ _ _ HM1.out).2.2 HOX.out.1 HFX.out.1);unfold RCreatePost ptrTo at hcr;go_wp2_with fail
 refine hcr.out.mono ?_;rintro e w2 ⟨xb,d2,o2,rfl,hm2,hsx,hxg,hox⟩;have HX2:Hid (StreamAt w2 xb pb nX 20/\o2 xb=none/\w.heap.size<=xb):=Lib.hid ⟨hsx,hox,Nat.le_trans HM1.out.size hxg⟩;have HM2:=Lib.hid (HM1.out.trans hm2 (fun _ _ e=>e));obtain ⟨-,-,c2,-⟩:=(HKP.out _ _ _ _ HM2.out).2.1.cells;clear hm2 hsx hxg hox hcr HM1;go_wp2_with fail
 refine (hn2.out _).mono ?_;rintro e w3 ⟨rfl,hb3⟩;have HM3:=Lib.hid (HM2.out.below hb3);have HX3:Hid (StreamAt w3 xb pb nX 20/\o2 xb=none):=Lib.hid ⟨HX2.out.1.below hb3,HX2.out.2.1⟩;clear hb3 hn2 c2;have hcr:=Lib.hid (roundCreate_any (HKP.out _ _ _ _ HM3.out).1 (HKP.out _ _ _ _ HM3.out).2.1 (HKP.out _ _ _ _ HM3.out).2.2 HOX.out.2.1 (by rw [mget_mput,if_neg HRN.out.xu.symm];exact HFX.out.2.1));unfold RCreatePost ptrTo at hcr;go_wp2_with fail
 refine hcr.out.mono ?_;rintro e w4 ⟨ub,d4,o4,rfl,hm4,hsu,hug,hou⟩;have HX4:Hid ((StreamAt w4 xb pb nX 20/\o4 xb=none)/\(StreamAt w4 ub pb nU 20/\o4 ub=none/\w.heap.size<=ub)):=Lib.hid ⟨⟨HX3.out.1.moved hm4 HX3.out.2 (fun e=>e),hm4.free HX3.out.1.lt HX3.out.2⟩,hsu,hou,Nat.le_trans HM3.out.size hug⟩;have HM4:=Lib.hid (HM3.out.trans hm4 (fun _ _ e=>e));obtain ⟨-,-,c2,-⟩:=(HKP.out _ _ _ _ HM4.out).2.1.cells;clear hm4 hsu hug hou hcr HM3 HM2 HX3;go_wp2_with fail
 refine (hn3.out _).mono ?_;rintro e w5 ⟨rfl,hb5⟩;have HM5:=Lib.hid (HM4.out.below hb5);have HX5:Hid ((StreamAt w5 xb pb nX 20/\o4 xb=none)/\(StreamAt w5 ub pb nU 20/\o4 ub=none)):=Lib.hid ⟨⟨HX4.out.1.1.below hb5,HX4.out.1.2⟩,HX4.out.2.1.below hb5,HX4.out.2.2.1⟩;clear hb5 hn3 c2;have hcr:=Lib.hid (roundCreate_any (HKP.out _ _ _ _ HM5.out).1 (HKP.out _ _ _ _ HM5.out).2.1 (HKP.out _ _ _ _ HM5.out).2.2 HOX.out.2.2 (by rw [mget_mput,if_neg HRN.out.ud.symm,mget_mput,if_neg HRN.out.xd.symm];exact HFX.out.2.2));unfold RCreatePost ptrTo at hcr;go_wp2_with fail
 refine hcr.out.mono ?_;rintro e w6 ⟨eb,d6,o6,rfl,hm6,hse,heg,hoe⟩;have HX6:Hid ((StreamAt w6 xb pb nX 20/\o6 xb=none/\w.heap.size<=xb)/\(StreamAt w6 ub pb nU 20/\o6 ub=none/\w.heap.size<=ub)/\StreamAt w6 eb pb nD 20/\o6 eb=none/\w.heap.size<=eb):=Lib.hid ⟨⟨HX5.out.1.1.moved hm6 HX5.out.1.2 (fun e=>e),hm6.free HX5.out.1.1.lt HX5.out.1.2,HX2.out.2.2⟩,⟨HX5.out.2.1.moved hm6 HX5.out.2.2 (fun e=>e),hm6.free HX5.out.2.1.lt HX5.out.2.2,HX4.out.2.2.2⟩,hse,hoe,Nat.le_trans HM5.out.size heg⟩;have HM6:=Lib.hid (HM5.out.trans hm6 (fun _ _ e=>e));have HRL6:=Lib.hid (rl_start (L:=L) HRN.out.xu HRN.out.xd HRN.out.ud);generalize hL6:mput (mput (mput L nX (edgeFile [] true)) nU (edgeFile [] true)) nD (edgeFile [] true)=L6 at *;clear hm6 hse heg hoe hcr HM5 HM4 HX5 HX4 HX2 hL6;have HNET:Hid (∀ W o' d' L' R U D,Moved (fun _=>False) n pb db w o d W o' d' L'->RL L L' nX nU nD R U D->need L'<=131072->NetIn w0 W pb db n o' d' L' gb gen N ob ib vb es):=Lib.hid (fun W o' d' L' R U D hmv hl hq=>netIn_laid H.out.net hmv (hl.oth _ HRN.out.x1.symm HRN.out.u1.symm HRN.out.d1.symm) (hl.oth _ HRN.out.x2.symm HRN.out.u2.symm HRN.out.d2.symm) hq);have HN6:Hid (need L6<=need L):=Lib.hid (by have:=HRL6.out.need;exact this);obtain ⟨fx,hfx⟩:=HRL6.out.x;have hst:=Lib.hid (roundStay_any HW (HNET.out _ _ _ _ _ _ _ HM6.out HRL6.out (by have:=HN6.out;have:=HQ.out;omega)) (HKP.out _ _ _ _ HM6.out).2.1 (HKP.out _ _ _ _ HM6.out).2.2 (H.out.cho.kept (HM6.out.block H.out.cho.lt H.out.omb (fun e=>e))) (HM6.out.free H.out.cho.lt H.out.omb) HX6.out.1.1 HX6.out.1.2.1 hfx HRN.out.x1 HRN.out.x2 (by have:=HN6.out;have:=HQ.out;omega));unfold PutEPost ptrTo at hst;clear hfx;go_wp2_with fail
 refine hst.out.mono ?_;rintro e w7 ⟨f7,d7,o7,rfl,hm7⟩;have HRL7:=Lib.hid (rl_putX HRL6.out HM6.out.pool.keys HRN.out.xu HRN.out.xd (stayM es S) f7);have HX7:Hid ((StreamAt w7 xb pb nX 20/\o7 xb=none)/\(StreamAt w7 ub pb nU 20/\o7 ub=none)/\StreamAt w7 eb pb nD 20/\o7 eb=none):=Lib.hid ⟨⟨HX6.out.1.1.moved hm7 HX6.out.1.2.1 (fun e=>e),hm7.free HX6.out.1.1.lt HX6.out.1.2.1⟩,⟨HX6.out.2.1.1.moved hm7 HX6.out.2.1.2.1 (fun e=>e),hm7.free HX6.out.2.1.1.lt HX6.out.2.1.2.1⟩,HX6.out.2.2.1.moved hm7 HX6.out.2.2.2.1 (fun e=>e),hm7.free HX6.out.2.2.1.lt HX6.out.2.2.2.1⟩;have HM7:=Lib.hid (HM6.out.trans hm7 (fun _ _ e=>e));generalize mput L6 nX (edgeFile (stayM es S) f7)=L7 at *;clear hm7 hst HM6 HRL6 HN6;obtain ⟨oa,ok,rfl⟩:=ownsRow_slice H.out.ord;obtain ⟨M,hM'⟩:∃ M,M=ch.length:=⟨_,rfl⟩;have HM0:=Lib.hid hM';clear hM';obtain ⟨-,-,-,-,-,-,c6,-⟩:=(HKP.out _ _ _ _ HM7.out).2.1.cells;have hrl7:=(HKP.out _ _ _ _ HM7.out).2.1.lt;have HROW7:Hid (ownsVrts w7 base (.slice (some ⟨g,0,none⟩) N vk) was):=Lib.hid (HM7.out.ownsRow H.out.row (fun b hb=>by cases hb;exact ⟨H.out.og,fun e=>e⟩));have HRV7:Hid (RdV w7 (.slice (some ⟨g,0,none⟩) N vk) was):=Lib.hid (verts_of_owns HROW7.out).1.rd;have HWL:Hid (was.length<=1000):=Lib.hid (by rw [H.out.len];exact H.out.net.top);go_wp2_with (refine wpList_append_verts (w:=w7) (by first | rfl | (simp [Region.wanted,yielded];done)) _ _ rfl rfl _ was rfl HRV7.out (by have:=HWL.out;omega) (fun v8 w8 HVs HVo HB8=>?_);have c5:w8.cell? ⟨rb,5,none⟩=some (.slice oa M ok):=(by rw [HM0.out];exact (HKP.out _ _ _ _ (HM7.out.below HB8.out)).2.1.cells.2.2.2.2.2.1))
 have hM:=HM0.out;obtain ⟨wa,wk,rfl,-⟩:=HVs.out;have HM8:=Lib.hid (HM7.out.below HB8.out);have HN0:Hid (was.length≠0):=Lib.hid (by
  cases e:ch with
  | nil=>exact absurd e H.out.ne
  | cons v l=>have:=H.out.low v (by rw [e];simp);rw [H.out.len];omega)
 have HGL:Hid (g < w.heap.size/\base<=g):=Lib.hid ⟨(ownBlock_old H.out.row g rfl).1,ownsRow_block H.out.row g rfl⟩;have HS8:Hid (OutIn w0 w8 pb db n o7 d7 L L7 gb gen N ob ib vb es rb mb g vk done (.slice oa ch.length ok) S nX nU nD xb ub eb (.slice wa was.length wk) was (stayM es S++(ch.take 0).flatMap (cutM es S)) ((ch.take 0).flatMap (outM es)) ((ch.take 0).flatMap (inM es)) (((ch.take 0).zipIdx).foldl (fun vs p=>tookM es was done gen vs p.2 p.1) was) base/\Moved (·=g) n pb db w o d w8 o7 d7 L7):=Lib.hid (by
  obtain ⟨g1,g2,g3,g4⟩:=H.out.of.graph;have g5:=H.out.rg;have g6:=H.out.gm;have g7:=HGL.out.1;have g8:=HX6.out.1.2.2;have g9:=HX6.out.2.1.2.2;have g10:=HX6.out.2.2.2.2;have hst:(stayM es S++(ch.take 0).flatMap (cutM es S))=stayM es S:=by simp
  rw [hst];exact ⟨{
   net:=HNET.out _ _ _ _ _ _ _ HM8.out HRL7.out (by have:=HRL7.out.need;have:=eN_le (stayM es S);have h1:(stayM es S).length<=(bestOf false es).length:=List.length_filter_le _ _;have:=bestOf_length false es;have h3:eN ([]:List Edg)=0:=rfl;have:=HQ.out;omega)
   rnd:=(HKP.out _ _ _ _ HM8.out).2.1
   of:=H.out.of.moved HM8.out
   ch:=H.out.cho.kept (HM8.out.block H.out.cho.lt H.out.omb (fun e=>e))
   omb:=HM8.out.free H.out.cho.lt H.out.omb
   rl:=HRL7.out
   nm:=HRN.out
   sx:=HX7.out.1.1.below HB8.out
   su:=HX7.out.2.1.1.below HB8.out
   sd:=HX7.out.2.2.1.below HB8.out
   ox:=HX7.out.1.2
   ou:=HX7.out.2.1.2
   od:=HX7.out.2.2.2
   wrow:=HVs.out
   own:=fun b hb=>⟨VertsAt.lt HVs.out HN0.out b hb,HM7.out.pool.fresh (HVo.out b hb)⟩
   wlen:=H.out.len
   row:=HM8.out.ownsRow H.out.row (fun b hb=>by cases hb;exact ⟨H.out.og,fun e=>e⟩)
   len:=H.out.len
   og:=HM8.out.free HGL.out.1 H.out.og
   g0:=Nat.le_trans H.out.of.new (Nat.le_of_lt H.out.rg)
   gne:=⟨by omega,by omega,by omega,by omega,by omega,by omega,by omega,by omega,by omega,fun e=>by have:=HVo.out g e;have:=HM7.out.size;omega⟩ },HM8.out.mono (fun _ _ e=>e.elim)⟩)
 have HM:Hid (M=ch.length/\M<=9223372036854775807):=Lib.hid ⟨hM,by
  have h1:=HM8.out.ownsRow H.out.ord (fun b hb=>⟨H.out.oord b hb,fun e=>e⟩);obtain ⟨-,⟨h2,h3⟩ | ⟨g',cap,cur,h2,-,-,h3,h4,-⟩⟩:=h1
  ·rw [hM,h3];omega
  ·unfold maxLen at h4;omega⟩
 have HORD:Hid (∀ W o' d' L',Moved (·=g) n pb db w o d W o' d' L'->ownsNums W cbase (.slice oa M ok) ch):=Lib.hid (fun W o' d' L' hmv=>by rw [hM];exact hmv.ownsRow H.out.ord (fun b hb=>⟨H.out.oord b hb,fun e=>by have:=H.out.go b hb;omega⟩));rw [<- hM] at HS8;have HLEN:Hid (∀ k,(stayM es S++(ch.take k).flatMap (cutM es S)).length<=(rawM es ch).length/\((ch.take k).flatMap (outM es)).length<=(upM es ch).length/\((ch.take k).flatMap (inM es)).length<=(downM es ch).length):=Lib.hid (fun k=>by
  refine ⟨?_,flat_le _ _ _,flat_le _ _ _⟩;have hf:cutM es S=cutM es ch:=funext fun v=>cut_congr es v H.out.same;unfold rawM;rw [stay_congr es H.out.same,hf,List.length_append,List.length_append];have:=flat_le ch (cutM es ch) k;omega)
 clear hM HM0 c6 hrl7 HVs HVo HB8 HROW7 HRV7 HWL HX6 HX7 HRL7 HM7 HM8 HN0 c5;go_loopw [76] (fun vi wr=>∃ (k:Nat) (o':Owner) (d':Dsk) (L':Logic),vi=.int .i64 (k:Int)/\k<=M/\Hid (OutIn w0 wr pb db n o' d' L L' gb gen N ob ib vb es rb mb g vk done (.slice oa M ok) S nX nU nD xb ub eb (.slice wa was.length wk) was (stayM es S++(ch.take k).flatMap (cutM es S)) ((ch.take k).flatMap (outM es)) ((ch.take k).flatMap (inM es)) (((ch.take k).zipIdx).foldl (fun vs p=>tookM es was done gen vs p.2 p.1) was) base/\Moved (·=g) n pb db w o d wr o' d' L')) (fun vi _=>M - (intOf vi).toNat)
 case atStart=>exact ⟨0,o7,d7,L7,rfl,Nat.zero_le _,HS8⟩
 case round=>
  obtain ⟨k,o9,d9,L9,rfl,hk,HS9⟩:=hrel;clear HS8;generalize wr=W9 at *;by_cases hlt:k < M
  ·have hkz:(k:Int) < (M:Int):=by omega
   have wk':IntKind.i64.wrap ((k:Int)+1)=((k+1:Nat):Int):=by have:=HM.out;rw [wrap_in]<;>omega
   obtain ⟨v,hv⟩:∃ v,ch[k]? = some v:=⟨_,List.getElem?_eq_getElem (by have:=HM.out;omega)⟩;have HV:=Lib.hid hv;obtain ⟨og',rfl⟩:∃ g,oa=some ⟨g,0,none⟩:=by
    obtain ⟨-,⟨h1,h2⟩ | ⟨g,_,_,h1,_⟩⟩:=H.out.ord
    ·have:=HM.out;omega
    ·cases h1;exact ⟨g,rfl⟩
   have hrow:=HORD.out _ _ _ _ HS9.out.2;rw [HM.out.1] at hrow;have q0:=ownsNums_cell (l:=ch) hrow hv;have e1:=flat_take (f:=cutM es S) hv;have e2:=flat_take (f:=outM es) hv;have e3:=flat_take (f:=inM es) hv;have e4:=zip_take hv;have HE:Hid (stayM es S++(ch.take (k+1)).flatMap (cutM es S)=(stayM es S++(ch.take k).flatMap (cutM es S))++cutM es S v/\(ch.take (k+1)).flatMap (outM es)=(ch.take k).flatMap (outM es)++outM es v/\(ch.take (k+1)).flatMap (inM es)=(ch.take k).flatMap (inM es)++inM es v/\((ch.take (k+1)).zipIdx).foldl (fun vs p=>tookM es was done gen vs p.2 p.1) was=tookM es was done gen (((ch.take k).zipIdx).foldl (fun vs p=>tookM es was done gen vs p.2 p.1) was) k v):=Lib.hid ⟨by rw [e1,List.append_assoc],e2,e3,by rw [e4,List.foldl_append];rfl⟩;have hout:=Lib.hid (roundOut_any HW HS9.out.1 k v (H.out.low v (List.mem_of_getElem? hv)) (by have:=HDN.out;have:=HM.out;omega) (by have:=HG2.out;omega) (by have:=HGL.out;have:=HS9.out.2.size;omega) (HDG.out v (H.out.low v (List.mem_of_getElem? hv))) (by
    obtain ⟨l1,l2,l3⟩:=HLEN.out (k+1);rw [e1,List.length_append,List.length_append] at l1;rw [e2,List.length_append] at l2;rw [e3,List.length_append] at l3;rw [List.length_append];have:=HQ.out;omega))
   unfold OutPost ptrTo at hout;clear hrow hv e1 e2 e3 e4;go_wp2_with fail
   refine hout.out.mono ?_;rintro e w10 ⟨d10,o10,L10,rfl,hm10,hs10⟩;have HS10:Hid (OutIn w0 w10 pb db n o10 d10 L L10 gb gen N ob ib vb es rb mb g vk done (.slice (some ⟨og',0,none⟩) M ok) S nX nU nD xb ub eb (.slice wa was.length wk) was (stayM es S++(ch.take (k+1)).flatMap (cutM es S)) ((ch.take (k+1)).flatMap (outM es)) ((ch.take (k+1)).flatMap (inM es)) (((ch.take (k+1)).zipIdx).foldl (fun vs p=>tookM es was done gen vs p.2 p.1) was) base/\Moved (·=g) n pb db w o d w10 o10 d10 L10):=Lib.hid ⟨by rw [HE.out.1,HE.out.2.1,HE.out.2.2.1,HE.out.2.2.2];exact hs10,HS9.out.2.trans hm10 (fun _ _ e=>e)⟩;clear hm10 hs10 hout HS9 HE q0;go_wp2;go_roundw
   case rel=>exact ⟨k+1,o10,d10,L10,by go_num,by omega,HS10⟩
   case measure=>simp [intOf];omega
  ·have hkz:¬ (k:Int) < (M:Int):=by omega
   have HS10:Hid (OutIn w0 W9 pb db n o9 d9 L L9 gb gen N ob ib vb es rb mb g vk done (.slice oa M ok) S nX nU nD xb ub eb (.slice wa was.length wk) was (rawM es ch) (upM es ch) (downM es ch) (vertsM es was done gen ch) base/\Moved (·=g) n pb db w o d W9 o9 d9 L9):=Lib.hid (by
    have h1:=HS9.out;rw [List.take_of_length_le (by have:=HM.out;omega),stay_congr es H.out.same,show cutM es S=cutM es ch from funext fun v=>cut_congr es v H.out.same] at h1;exact h1)
   clear HS9 HORD HNET;have HMK:Hid (∀ W o' d',Moved (fun _=>False) n pb db W9 o9 d9 W o' d' L9->Calls Tryz.prog 45 #[ptrTo pb, .string nX, .int .i64 ((gen+1:Nat):Int), .slice (some ⟨g,0,none⟩) N vk] W fun e w'=>∃ d'' o'',e=.returned (.int .i64 0)/\Moved (fun _=>False) n pb db W9 o9 d9 w' o'' d'' (makeL L9 (gen+1) (rawM es ch) (vertsM es was done gen ch))):=Lib.hid (fun W o' d' hmv=>by
    have hs:=HS10.out.1;obtain ⟨fl,hfl⟩:=hs.rl.x;have hoth:∀ c:UInt8,c≠120->c≠117->c≠100->mget L9 (sName c (gen+1))=none:=fun c h1 h2 h3=>by
     rw [hs.rl.oth _ (by rw [HXD.out.1];exact sName_ne h1 _ _) (by rw [HXD.out.2.1];exact sName_ne h2 _ _) (by rw [HXD.out.2.2];exact sName_ne h3 _ _),HF.out c]
    have hrow:=hmv.ownsRow hs.row (fun b hb=>by cases hb;exact ⟨hs.og,fun e=>e⟩);have hv:=(verts_of_owns hrow).1;refine (storeMake_any HW HJS hmv.pool hn (gen:=gen+1) (.inl HG2.out) hfl (by rw [HXD.out.1];exact sName_own 120 (by decide) _) HMM.out (hoth 101 (by decide) (by decide) (by decide)) (hoth 114 (by decide) (by decide) (by decide)) (hoth 118 (by decide) (by decide) (by decide)) (fun k=>by
     rw [hs.rl.oth _ (by rw [HXD.out.1];exact fun e=>tName_sName 120 (by decide) _ k e.symm) (by rw [HXD.out.2.1];exact fun e=>tName_sName 117 (by decide) _ k e.symm) (by rw [HXD.out.2.2];exact fun e=>tName_sName 100 (by decide) _ k e.symm),HNT.out k]) hv (fun b hb=>by cases hb;exact hmv.free (ownBlock_old hs.row g rfl).1 hs.og) (by rw [hs.len];have:=hs.net.top;omega)).mono ?_
    rintro e w' ⟨c,d'',o'',L'',rfl,hm2,-,hc⟩;have hh:=hs.net.held.moved hmv (fun _ e=>e.elim);have h0:c=0:=hh.fine hm2 (hc.imp (fun h=>h.1) id) (by
     have g1:=hs.rl.need;have g2:=eN_le (rawM es ch);have g3:=eN_le (upM es ch);have g4:=eN_le (downM es ch);have g5:=hs.len;have:=HQ.out;omega)
    subst h0;rcases hc with ⟨_,rfl⟩ | hc
    ·exact ⟨d'',o'',rfl,hmv.trans hm2 (fun _ _ e=>e)⟩
    ·exact absurd rfl hc.ne)
   have HRB:Hid (∀ W o' d' L',Moved (fun _=>False) n pb db W9 o9 d9 W o' d' L'->W.cell? ⟨rb,0,none⟩=some (.pointer (some ⟨pb,0,none⟩))/\W.cell? ⟨rb,2,none⟩=some (.int .i64 (gen:Int))/\W.cell? ⟨rb,6,none⟩=some (.slice (some ⟨g,0,none⟩) N vk)):=Lib.hid (fun W o' d' L' hmv=>by
    obtain ⟨h0,-,h2,-,-,-,h6,-⟩:=(HS10.out.1.rnd.moved HS10.out.1.of.free hmv).cells;exact ⟨h0,h2,h6⟩)
   have HNE:Hid (∀ c:UInt8,c=120\/c=117\/c=100->sName c (gen+1)≠sName 101 (gen+1)/\sName c (gen+1)≠sName 114 (gen+1)/\sName c (gen+1)≠sName 118 (gen+1)):=Lib.hid (by
    rintro c (rfl | rfl | rfl)
    ·exact ⟨sName_ne (by decide) _ _,sName_ne (by decide) _ _,sName_ne (by decide) _ _⟩
    ·exact ⟨sName_ne (by decide) _ _,sName_ne (by decide) _ _,sName_ne (by decide) _ _⟩
    ·exact ⟨sName_ne (by decide) _ _,sName_ne (by decide) _ _,sName_ne (by decide) _ _⟩)
   obtain ⟨L12,hL12⟩:∃ l,l=makeL L9 (gen+1) (rawM es ch) (vertsM es was done gen ch):=⟨_,rfl⟩;rw [<- hL12] at HMK;have HN12:Hid (need L12<=need L+12*(rawM es ch).length+4*(upM es ch).length+4*(downM es ch).length+4*N):=Lib.hid (by
    have g1:=HS10.out.1.rl.need;have g2:=eN_le (rawM es ch);have g3:=eN_le (upM es ch);have g4:=eN_le (downM es ch);have g5:=HS10.out.1.len;have g6:=makeL_need L9 (gen+1) (rawM es ch) (vertsM es was done gen ch);rw [hL12];omega)
   have HG12:Hid ((∃ f,mget L12 nX=some (edgeFile (rawM es ch) f))/\(∃ f,mget L12 nU=some (edgeFile (upM es ch) f))/\∃ f,mget L12 nD=some (edgeFile (downM es ch) f)):=Lib.hid (by
    have hs:=HS10.out.1.rl;refine ⟨?_,?_,?_⟩
    ·obtain ⟨f,hf⟩:=hs.x;obtain ⟨k1,k2,k3⟩:=HNE.out 120 (.inl rfl);rw [<- HXD.out.1] at k1 k2 k3;exact ⟨f,by rw [hL12,makeL_oth k1 k2 k3,hf]⟩
    ·obtain ⟨f,hf⟩:=hs.u;obtain ⟨k1,k2,k3⟩:=HNE.out 117 (.inr (.inl rfl));rw [<- HXD.out.2.1] at k1 k2 k3;exact ⟨f,by rw [hL12,makeL_oth k1 k2 k3,hf]⟩
    ·obtain ⟨f,hf⟩:=hs.d;obtain ⟨k1,k2,k3⟩:=HNE.out 100 (.inr (.inr rfl));rw [<- HXD.out.2.2] at k1 k2 k3;exact ⟨f,by rw [hL12,makeL_oth k1 k2 k3,hf]⟩)
   have HFLU:Hid (∀ W o' d',Moved (fun _=>False) n pb db W9 o9 d9 W o' d' L12->Calls Tryz.prog 79 #[ptrTo pb, .string nU] W fun e w'=>∃ d'' o'',e=.returned (.int .i64 0)/\Moved (fun _=>False) n pb db W9 o9 d9 w' o'' d'' (mput L12 nU (edgeFile (upM es ch) true))):=Lib.hid (fun W o' d' hmv=>by
    obtain ⟨f,hf⟩:=HG12.out.2.1;refine (flush_pool HW hmv.pool hf).mono ?_;rintro e w' ⟨c,d'',o'',rfl,hm2,he2⟩;have h0:c=0:=(HS10.out.1.net.held.moved hmv (fun _ e=>e.elim)).fine' hm2 he2 (by have:=HN12.out;have:=HQ.out;omega);subst h0;exact ⟨d'',o'',rfl,hmv.trans hm2 (fun _ _ e=>e)⟩)
   have HFLD:Hid (∀ W o' d',Moved (fun _=>False) n pb db W9 o9 d9 W o' d' (mput L12 nU (edgeFile (upM es ch) true))->Calls Tryz.prog 79 #[ptrTo pb, .string nD] W fun e w'=>∃ d'' o'',e=.returned (.int .i64 0)/\Moved (fun _=>False) n pb db W9 o9 d9 w' o'' d'' (mput (mput L12 nU (edgeFile (upM es ch) true)) nD (edgeFile (downM es ch) true))):=Lib.hid (fun W o' d' hmv=>by
    obtain ⟨f,hf⟩:=HG12.out.2.2;refine (flush_pool HW hmv.pool (by rw [mget_mput,if_neg HRN.out.ud.symm];exact hf)).mono ?_;rintro e w' ⟨c,d'',o'',rfl,hm2,he2⟩;have h0:c=0:=(HS10.out.1.net.held.moved hmv (fun _ e=>e.elim)).fine' hm2 he2 (by
     have g1:=need_mput_le L12 nU (edgeFile (upM es ch) true);have g2:=edgeFile_need (upM es ch) true;have:=HN12.out;have:=HQ.out;omega)
    subst h0;exact ⟨d'',o'',rfl,hmv.trans hm2 (fun _ _ e=>e)⟩)
   have HDRP:Hid (∀ W o' d',Moved (fun _=>False) n pb db W9 o9 d9 W o' d' (mput (mput L12 nU (edgeFile (upM es ch) true)) nD (edgeFile (downM es ch) true))->Calls Tryz.prog 62 #[ptrTo pb, .string nX] W fun e w'=>∃ d'' o'',e=.returned (.int .i64 0)/\Moved (fun _=>False) n pb db W9 o9 d9 w' o'' d'' (mdel (mput (mput L12 nU (edgeFile (upM es ch) true)) nD (edgeFile (downM es ch) true)) nX)):=Lib.hid (fun W o' d' hmv=>by
    obtain ⟨f,hf⟩:=HG12.out.1;refine (drop_any hmv.pool (by rw [mget_mput,if_neg HRN.out.xd,mget_mput,if_neg HRN.out.xu];exact hf)).mono ?_;rintro e w' ⟨c,d'',o'',L'',rfl,hp,ht,hg,hon,hdr⟩;have hm2:Moved (fun _=>False) n pb db W o' d' w' o'' d'' L'':=moved_of hp ht hg hon;have hh:=(HS10.out.1.net.held.moved hmv (fun _ e=>e.elim)).moved hm2 (fun _ e=>e.elim);rcases hdr with ⟨rfl,rfl⟩ | ⟨-,h2,-⟩
    ·exact ⟨d'',o'',rfl,hmv.trans hm2 (fun _ _ e=>e)⟩
    ·rw [hh.dead] at h2;cases h2)
   have HFIN:Hid (∀ d' o' w',Moved (fun _=>False) n pb db W9 o9 d9 w' o' d' (mdel (mput (mput L12 nU (edgeFile (upM es ch) true)) nD (edgeFile (downM es ch) true)) nX)->PST (.returned (.int .i64 0)) w'):=Lib.hid (fun d' o' w' hmv=>by
    rw [HPST.out];have hrl:=HS10.out.1.rl;have hfx:=HFX.out.1;rw [HXD.out.1,HXD.out.2.1,HXD.out.2.2] at hrl;rw [HXD.out.1] at hfx;have hr:=rounded_of HS10.out.1.net.held.pool.keys hrl hfx (vs:=vertsM es was done gen ch);rw [HXD.out.1,HXD.out.2.1,HXD.out.2.2,hL12] at hmv;exact ⟨d',o',_,rfl,HS10.out.2.trans hmv (fun _ _ e=>e.elim),hr⟩)
   have HNU:Hid (∀ W,Calls Tryz.prog 18 #[.int .u8 117, .int .i64 ((gen+1:Nat):Int)] W fun e w'=>e=.returned (.string nU)/\Below W.heap.size W w'):=Lib.hid (fun W=>by rw [HXD.out.2.1];exact storeName_any 117 (gen+1) (o:=fun _=>Option.none) (.inl HG2.out));have HND:Hid (∀ W,Calls Tryz.prog 18 #[.int .u8 100, .int .i64 ((gen+1:Nat):Int)] W fun e w'=>e=.returned (.string nD)/\Below W.heap.size W w'):=Lib.hid (fun W=>by rw [HXD.out.2.2];exact storeName_any 100 (gen+1) (o:=fun _=>Option.none) (.inl HG2.out));have HP9:=Lib.hid (Moved.refl (fun _=>False) HS10.out.1.net.held.pool);clear HN12 HG12 HNE hL12 HF HNT HMM HQ HDN HDG HFX HRN HXD HPST HLEN HS10 HGL;unfold ptrTo at *;go_wp2_with fail
   refine wp_region_mid (Below W9.heap.size W9) 14 rfl (by kernel_rfl) (by kernel_rfl) ((Below.refl _ _).drew) ?_;simp only [List.take_succ_cons,List.take_zero];iterate 3 (refine qo (fun K hK=>?_);go_simp;refine hK _ ?_;clear hK K)
   refine qo (fun K hK=>?_) (fun w' hw'=>by obtain ⟨f0,f2,f6⟩:=HRB.out _ _ _ _ (HP9.out.below hw');go_simp<;>rfl);go_simp;refine hK _ ?_;clear hK K;iterate 4 (refine qo (fun K hK=>?_);go_simp;refine hK _ ?_;clear hK K)
   refine qo (fun K hK=>?_) (fun w' hw'=>by obtain ⟨f0,f2,f6⟩:=HRB.out _ _ _ _ (HP9.out.below hw');go_simp<;>rfl);go_simp;refine hK _ ?_;clear hK K;refine qo (fun K hK=>?_) (fun w' hw'=>by have hx:=wg;go_simp<;>rfl);go_simp;refine hK _ ?_;clear hK K;iterate 3 (refine qo (fun K hK=>?_);go_simp;refine hK _ ?_;clear hK K)
   refine qo (fun K hK=>?_) (fun w' hw'=>by obtain ⟨f0,f2,f6⟩:=HRB.out _ _ _ _ (HP9.out.below hw');go_simp<;>rfl);go_simp;refine hK _ ?_;clear hK K;refine wpQuiet_nil ?_;intro w11 hw11;refine ⟨_,_,rfl,(by go_simp<;>exact ⟨rfl,rfl⟩),?_⟩;refine (HMK.out w11 o9 d9 (HP9.out.below hw11)).mono ?_;rintro e w12 ⟨d12,o12,rfl,hm12⟩;have HM12:=Lib.hid hm12;clear hm12 hw11 HMK;refine ⟨_,rfl,?_⟩;go_simp;refine qo (fun K hK=>?_);go_simp;refine hK _ ?_;clear hK K;refine wpQuiet_nil ?_;go_wp2_with fail
   refine wp_region_mid (Below w12.heap.size w12) 10 rfl (by kernel_rfl) (by kernel_rfl) ((Below.refl _ _).drew) ?_;simp only [List.take_succ_cons,List.take_zero];iterate 3 (refine qo (fun K hK=>?_);go_simp;refine hK _ ?_;clear hK K)
   refine qo (fun K hK=>?_) (fun w' hw'=>by obtain ⟨f0,f2,f6⟩:=HRB.out _ _ _ _ (HM12.out.below hw');go_simp<;>rfl);go_simp;refine hK _ ?_;clear hK K;iterate 3 (refine qo (fun K hK=>?_);go_simp;refine hK _ ?_;clear hK K)
   refine qo (fun K hK=>?_) (fun w' hw'=>by obtain ⟨f0,f2,f6⟩:=HRB.out _ _ _ _ (HM12.out.below hw');go_simp<;>rfl);go_simp;refine hK _ ?_;clear hK K;refine qo (fun K hK=>?_) (fun w' hw'=>by have hx:=wg;go_simp<;>rfl);go_simp;refine hK _ ?_;clear hK K;refine qc (fun w' hw'=>(HNU.out w').mono (fun e w'' h=>⟨h.1,hw'.trans (h.2.mono hw'.size)⟩)) (fun K hK=>?_);go_simp;refine hK _ ?_;clear hK K;refine wpQuiet_nil ?_;intro w13 hw13;refine ⟨_,_,rfl,(by go_simp<;>exact ⟨rfl,rfl⟩),?_⟩;refine (HFLU.out w13 o12 d12 (HM12.out.below hw13)).mono ?_;rintro e w14 ⟨d14,o14,rfl,hm14⟩;have HM14:=Lib.hid hm14;clear hm14 hw13 HFLU HM12;refine ⟨_,rfl,?_⟩;go_simp;refine qo (fun K hK=>?_);go_simp;refine hK _ ?_;clear hK K;refine wpQuiet_nil ?_;go_wp2_with fail
   refine wp_region_mid (Below w14.heap.size w14) 10 rfl (by kernel_rfl) (by kernel_rfl) ((Below.refl _ _).drew) ?_;simp only [List.take_succ_cons,List.take_zero];iterate 3 (refine qo (fun K hK=>?_);go_simp;refine hK _ ?_;clear hK K)
   refine qo (fun K hK=>?_) (fun w' hw'=>by obtain ⟨f0,f2,f6⟩:=HRB.out _ _ _ _ (HM14.out.below hw');go_simp<;>rfl);go_simp;refine hK _ ?_;clear hK K;iterate 3 (refine qo (fun K hK=>?_);go_simp;refine hK _ ?_;clear hK K)
   refine qo (fun K hK=>?_) (fun w' hw'=>by obtain ⟨f0,f2,f6⟩:=HRB.out _ _ _ _ (HM14.out.below hw');go_simp<;>rfl);go_simp;refine hK _ ?_;clear hK K;refine qo (fun K hK=>?_) (fun w' hw'=>by have hx:=wg;go_simp<;>rfl);go_simp;refine hK _ ?_;clear hK K;refine qc (fun w' hw'=>(HND.out w').mono (fun e w'' h=>⟨h.1,hw'.trans (h.2.mono hw'.size)⟩)) (fun K hK=>?_);go_simp;refine hK _ ?_;clear hK K;refine wpQuiet_nil ?_;intro w15 hw15;refine ⟨_,_,rfl,(by go_simp<;>exact ⟨rfl,rfl⟩),?_⟩;refine (HFLD.out w15 o14 d14 (HM14.out.below hw15)).mono ?_;rintro e w16 ⟨d16,o16,rfl,hm16⟩;have HM16:=Lib.hid hm16;clear hm16 hw15 HFLD HM14;refine ⟨_,rfl,?_⟩;go_simp;refine qo (fun K hK=>?_);go_simp;refine hK _ ?_;clear hK K;refine wpQuiet_nil ?_;have hdr:=Lib.hid (HDRP.out w16 o16 d16 HM16.out);obtain ⟨k0,k2,k6⟩:=HRB.out _ _ _ _ HM16.out;go_wp2_with fail
   refine hdr.out.mono ?_;rintro e w17 ⟨d17,o17,rfl,hm17⟩;have HPF:=Lib.hid (HFIN.out d17 o17 w17 hm17);clear hm17 hdr k0 k2 k6;go_wp2;exact HPF.out
end
end
end Go.Proofs.YthkkgdpomhhjjaaGreatDoor
