/-
  Joined.
-/
import Derived.Test.YthkkgdpomhhjjaaGreatDoorD14
set_option maxRecDepth 100000
set_option maxHeartbeats 16000000
namespace Go.Proofs.YthkkgdpomhhjjaaGreatDoor
open Go.Proofs.Tryz
section
open Go.RowKit Go.Maps
section
variable {w0 w w' W W':World} {pb db n gb gen N ob ib vb rb mb pc done sb:Nat} {o o' gP:ar} {d d' gB:Dsk} {L L' xQ:aD} {es l:List aJ} {S:List Nat} {x4 x5 x6 v:Value} {name:Name} {fl:Bool}
theorem fE.look(h:fE w mb S){x:Nat}(hx:x<4294967296)(b:Bool)(hb:decide (x∈S)=b):∀w',Below w.heap.size w w'->Sem.run prog (Instr.lookup 131 (.map (some mb)) (.int .u32 (x:Int)) false) w'=.ok (.bool b) w':=fun w' hw=>by
 have:=(h.kept (hw.block _ h.lt)).lookup ck dv Tryz.underlying131 (Tryz.zeroValue4 w') x (fQ hx) false;rw[Fl]at this;rw[<- hb];by_cases e:x∈S
 ·rw[if_pos e]at this;rw[decide_eq_true e];exact this
 ·rw[if_neg e]at this;rw[decide_eq_false e];exact this
theorem Jl(args:Array Value)(w:World):Sem.run prog (callFunc 152 args) w=.ok (.enter 152 args) w:=by go_simp
theorem Jm{t:TypeId}(hp:w.heap[pc]? = some (.cells #[ptrTo rb] t))(hr:dA w rb pb gb gen done (.map (some mb)) x5 x6)(hch:fE w mb S){x:Nat}(hx:x<4294967296) :
 Calls prog 152 #[.int .u32 (x:Int),.pointer (some ⟨pc,0,none⟩)] w fun e w'=>e=.returned (.bool (decide (x∈S)))/\Below w.heap.size w w':=by
 have hl:=hch.look hx _ rfl w aj;generalize decide (x∈S)=b at *;have c0:w.cell? ⟨pc,0,none⟩=some (ptrTo rb):=by rw[aq hp];rfl
 obtain⟨-,-,-,-,c4,-⟩:=hr.cells;clear hp hr hch hx;unfold ptrTo at *;go_enter func152,ntmps152;go_wp2;go_ret;exact⟨rfl,Below.refl _ _⟩
theorem Tz{t:TypeId}(hp:w.heap[pc]? = some (.cells #[ptrTo rb] t))(hr:dA w rb pb gb gen done (.map (some mb)) x5 x6)(hch:fE w mb S)(h1:o pc=none)(h2:o rb=none)(h3:o mb=none) :
 I1 w o (.func (.func 152) #[] #[.pointer (some ⟨pc,0,none⟩)]) (fun x=>decide (x∈S)) (fun b=>b=pc\/b=rb\/b=mb):=
 ⟨⟨_,_,rfl,Jl,fun W x hk _ hx=>Jm ((hk pc (.inl rfl)).trans hp) ((hk rb (.inr (.inl rfl))).trans hr) (hch.kept (hk mb (.inr (.inr rfl)))) hx⟩,fun b hb=>by
   rcases hb with rfl | rfl | rfl
   ·exact⟨(Array.getElem?_eq_some_iff.1 hp).1,h1⟩
   ·exact⟨hr.lt,h2⟩
   ·exact⟨hch.lt,h3⟩⟩
theorem tv(h:fI w0 w pb db n o d L gb gen N ob ib vb es)(hm:au (fun _=>False) n pb db w o d w' o' d' L')(h1:aB L' (aG 101 gen)=aB L (aG 101 gen))(h2:aB L' (aG 114 gen)=aB L (aG 114 gen))(hq:need L'<=131072):fI w0 w' pb db n o' d' L' gb gen N ob ib vb es:=
 ⟨h.held.moved hm (fun _ e=>e.elim),hq,h.gr.moved hm,h1.trans h.file,h2.trans h.DN,h.len,h.top,h.ends⟩
theorem Wl{x:aJ}{t:TypeId}:kL (w.alloc (.cells #[.int .u32 (x.t.toNat:Int),.int .u32 (x.h.toNat:Int),.int .u64 (x.x.toNat:Int),.int .u32 (x.m.toNat:Int)] t)) (.slice (some ⟨w.heap.size,0,none⟩) 1 1) [x]:=
 ⟨_,1,rfl,.inr ⟨w.heap.size,0,rfl,fun j y hy=>by
  match j,hy with
  |0,hy=>cases hy;simp
  |j+1,hy=>cases hy⟩⟩
def jK(S:List Nat)(x:aJ):Bool:=decide (x.t.toNat ∉ S/\x.h.toNat ∉ S)
theorem TA(es:List aJ)(S:List Nat):gJ es S=(aK false es).filter (jK S):=rfl
theorem CP(HW:aP)(h:fI w0 w pb db n o d L gb gen N ob ib vb es)(hr:dA w rb pb gb gen done (.map (some mb)) x5 x6)(hro:o rb=none)(hch:fE w mb S)(hmo:o mb=none)(hst:aC w sb pb name 20)(Nz:o sb=none)(hL:aB L name=some (aw [] fl))(h1:name≠aG 101 gen)(h2:name≠aG 114 gen)(MQ:need L+8*es.length+8<=131072) :
 Calls prog 102 #[ptrTo rb,ptrTo sb] w (jE (fun _=>False) n pb db w o d L name (gJ es S)):=by
 have hbl:=cd false es;have LS:Hid (∀W o' d' es' kO,au (fun _=>False) n pb db w o d W o' d' (aS L name (aw es' kO))->es'.length<=es.length->fI w0 W pb db n o' d' (aS L name (aw es' kO)) gb gen N ob ib vb es):=aa (fun W o' d' es' kO hm hl=>tv h hm (by rw[ay,if_neg h1.symm]) (by rw[ay,if_neg h2.symm]) (by
  have g1:=cO L name (aw es' kO);have g2:=cH es' kO;omega))
 have Wk:Hid (au (fun _=>False) n pb db w o d w o d (aS L name (aw [] fl))):=aa ((au.refl _ h.held.aX).self hL);have HL0:=aa hL;have FA:=aa (Lr HW h.held h.need h.gr h.file);have Na:Hid (∀W o' d' L',au (fun _=>False) n pb db w o d W o' d' L'->dA W rb pb gb gen done (.map (some mb)) x5 x6/\fE W mb S/\aC W sb pb name 20/\o' sb=none):=aa (fun W o' d' L' hm=>⟨hr.moved hro hm,hch.kept (hm.block hch.lt hmo (fun e=>e)),hst.moved hm Nz (fun e=>e),hm.free hst.lt Nz⟩);have nz:Hid (∀W o' d' es' kO v(x:aJ),au (fun _=>False) n pb db w o d W o' d' (aS L name (aw es' kO))->es'.length<=es.length->kL W v [x]->(∀b,v.ownBlock=some b->o' b=none) ->
  Calls prog 151 #[ptrTo sb,v] W fun e w'=>∃gB gP aaC,e=.returned (.int .i64 0)/\au (fun _=>False) n pb db w o d w' gP gB (aS L name (aw (es'++[x]) aaC))):=aa (fun W o' d' es' kO v x hm hl hv my=>by
  have hn:=LS.o _ _ _ _ _ hm hl;have g1:=cO L name (aw es' kO);have g2:=cH es' kO;have hlen:=h.len;obtain⟨-,-,k3,k4⟩:=Na.o _ _ _ _ hm;refine(Jk HW hn.held k3 k4 (by rw[ay,if_pos rfl]) hv my (by rw[List.length_singleton];omega) (by rw[List.length_singleton];omega)).mono ?_;rintro e w'⟨aaC,gB,gP,rfl,cQ⟩;rw[iQ]at cQ;exact⟨gB,gP,aaC,rfl,hm.trans cQ (fun _ _ e=>e)⟩)
 obtain⟨-,c1,-⟩:=hr.cells;obtain⟨B,hB⟩:∃B,B=aK false es:=⟨_,rfl⟩;have HB:Hid (B.length<=es.length/\es.length<=1000):=aa ⟨by rw[hB];exact hbl,h.len⟩;have aeX:Hid (∀W o' d' es' kO,au (fun _=>False) n pb db w o d W o' d' (aS L name (aw es' kO))->es'.length<=es.length->∀(i:Nat)(x:aJ),B[i]? = some x->Calls prog 28 #[ptrTo gb,.int .i64 (i:Int)] W fun e w'=>∃gB gP,e=.returned (.tuple #[Ln x,.int .i64 0])/\au (fun _=>False) n pb db w o d w' gP gB (aS L name (aw es' kO))):=aa (fun W o' d' es' kO hm hl i x hx=>by
  have hn:=LS.o _ _ _ _ _ hm hl;rw[hB]at hx;refine(OY HW hn.held hn.need hn.gr hn.file hx).mono ?_;rintro e w'⟨gB,gP,rfl,cQ⟩;exact⟨gB,gP,rfl,hm.trans cQ (fun _ _ e=>e)⟩)
 rw[<- hB]at FA;rw[TA,<- hB];obtain⟨M,hM⟩:∃M,M=B.length:=⟨_,rfl⟩;have HM:Hid (M=B.length/\M<=1000):=aa ⟨hM,by have:=HB.o;omega⟩;obtain⟨R,hR⟩:∃R,R=jE (fun _=>False) n pb db w o d L name (B.filter (jK S)):=⟨_,rfl⟩;have Tf:=aa hR;rw[<- hR];rw[<- hM]at FA;clear h hr hro hch hmo hst Nz hL h1 h2 MQ hbl hB hM hR LS;unfold ptrTo at *;go_enter func102,ntmps102;go_wp2_with fail;refine FA.o.mono ?_;rintro e w1⟨d1,o1,rfl,ee⟩;have eu:Hid (au (fun _=>False) n pb db w o d w1 o1 d1 (aS L name (aw (((B.take 0)).filter (jK S)) fl))):=aa (by
  refine ee.congr Wk.o.aX.keys (fun x=>?_);rw[ay];split
  ·rename_i e;rw[e,HL0.o];rfl
  ·rfl)
 clear ee FA c1 Wk;go_wp2_with fail;go_loopw [23] (fun vi wr=>∃(i:Nat)(kO:Bool)(o':ar)(d':Dsk),vi=.int .i64 (i:Int)/\i<=M/\Hid (au (fun _=>False) n pb db w o d wr o' d' (aS L name (aw ((B.take i).filter (jK S)) kO)))) (fun vi _=>M-(intOf vi).toNat)
 case atStart=>exact⟨0,fl,o1,d1,rfl,Nat.zero_le _,eu⟩
 case round=>
  obtain⟨i,kO,o2,d2,rfl,hi,eB⟩:=hrel;clear eu;generalize wr=W2 at *;by_cases hlt:i<M
  ·have hiz:(i:Int)<(M:Int):=by omega
   have wi:IntKind.i64.wrap ((i:Int)+1)=((i+1:Nat):Int):=by have:=HM.o;rw[ax]<;>omega
   obtain⟨x,hx⟩:∃x,B[i]? = some x:=⟨_,List.getElem?_eq_getElem (by have:=HM.o;omega)⟩;have sk:Hid ((B.take (i+1)).filter (jK S)=(B.take i).filter (jK S)++if jK S x=true then [x] else []):=aa (by
    obtain⟨hl,he⟩:=List.getElem?_eq_some_iff.1 hx;rw[List.take_succ_eq_append_getElem hl,he,List.filter_append,List.filter_cons,List.filter_nil])
   have HLEN:Hid (((B.take i).filter (jK S)).length<=es.length):=aa (Nat.le_trans (List.length_filter_le _ _) (by rw[List.length_take];have:=HB.o;omega));have hed:=aa (aeX.o _ _ _ _ _ eB.out HLEN.o i x hx);obtain⟨-,c1,-⟩:=(Na.o _ _ _ _ eB.out).1.cells;clear hx;generalize (B.take i).filter (jK S)=acc at *;unfold Ln ptrTo at *;go_wp2_with fail;refine hed.o.mono ?_;rintro e w3⟨d3,o3,rfl,ej⟩;have eC:=aa (ej.alloc (.cells #[.int .u32 (x.t.toNat:Int),.int .u32 (x.h.toNat:Int),.int .u64 (x.x.toNat:Int),.int .u32 (x.m.toNat:Int)] 64));have iu:Hid ((w3.alloc (.cells #[.int .u32 (x.t.toNat:Int),.int .u32 (x.h.toNat:Int),.int .u64 (x.x.toNat:Int),.int .u32 (x.m.toNat:Int)] 64)).heap[w3.heap.size]? = some (.cells #[.int .u32 (x.t.toNat:Int),.int .u32 (x.h.toNat:Int),.int .u64 (x.x.toNat:Int),.int .u32 (x.m.toNat:Int)] 64)):=aa (heap_alloc_new _ _);clear ej hed eB c1;go_wp2_with fail;generalize FX:w3.heap.size=xb at *;clear FX;generalize w3.alloc (.cells #[.int .u32 (x.t.toNat:Int),.int .u32 (x.h.toNat:Int),.int .u64 (x.x.toNat:Int),.int .u32 (x.m.toNat:Int)] 64)=W3 at *;have F:Hid (∀w',Below W3.heap.size W3 w'->w'.cell? ⟨rb,4,none⟩=some (.map (some mb))/\w'.cell? ⟨xb,0,none⟩=some (.int .u32 (x.t.toNat:Int))/\w'.cell? ⟨xb,1,none⟩=some (.int .u32 (x.h.toNat:Int))):=aa (fun w' hw'=>by
    have hc:w'.heap[xb]? = some (.cells #[.int .u32 (x.t.toNat:Int),.int .u32 (x.h.toNat:Int),.int .u64 (x.x.toNat:Int),.int .u32 (x.m.toNat:Int)] 64):=(hw'.block _ (Array.getElem?_eq_some_iff.1 iu.o).1).trans iu.o;exact⟨((Na.o _ _ _ _ eC.o).1.below hw').cells.2.2.2.2.1,by rw[aq hc];rfl,by rw[aq hc];rfl⟩)
   have LU:=(Na.o _ _ _ _ eC.o).2.1;by_cases ht:x.t.toNat∈S
   ·have Ib:=aa (LU.look x.t.toNat_lt true (decide_eq_true ht));have HE:Hid (jK S x=false):=aa (by unfold jK;simp[ht]);clear ht LU;refine wq W3 ?_;iterate 3 (refine qz ?_)
    refine qz ?_ (fun w' hw'=>by obtain⟨f1,f2,f3⟩:=F.o w' hw';go_simp<;>rfl);refine qz ?_;refine qz ?_ (fun w' hw'=>by obtain⟨f1,f2,f3⟩:=F.o w' hw';go_simp<;>rfl);refine qz ?_ (fun w' hw'=>by have hl:=Ib.o w' hw';go_simp<;>rfl);refine qz ?_;iterate 7 go_big_quiet_skip
    refine qz ?_;refine wpQuiet_nil ?_;intro w4 hb4;have gp:Hid (au (fun _=>False) n pb db w o d w4 o3 d3 (aS L name (aw ((B.take (i+1)).filter (jK S)) kO))):=aa (by rw[sk.o,HE.o,if_neg ah,List.append_nil];exact eC.o.below hb4);clear hb4 F Ib;go_wp2;go_roundw
    case rel=>exact⟨i+1,kO,o3,d3,by go_num,ae,gp⟩
    case measure=>simp[intOf];omega
   ·have Ib:=aa (LU.look x.t.toNat_lt false (decide_eq_false ht));by_cases hh:x.h.toNat∈S
    ·have JC:=aa (LU.look x.h.toNat_lt true (decide_eq_true hh));have HE:Hid (jK S x=false):=aa (by unfold jK;simp[hh]);clear ht hh LU;refine wq W3 ?_;iterate 3 (refine qz ?_)
     refine qz ?_ (fun w' hw'=>by obtain⟨f1,f2,f3⟩:=F.o w' hw';go_simp<;>rfl);refine qz ?_;refine qz ?_ (fun w' hw'=>by obtain⟨f1,f2,f3⟩:=F.o w' hw';go_simp<;>rfl);refine qz ?_ (fun w' hw'=>by have hl:=Ib.o w' hw';go_simp<;>rfl);refine qz ?_;iterate 3 (refine qz ?_)
     refine qz ?_ (fun w' hw'=>by obtain⟨f1,f2,f3⟩:=F.o w' hw';go_simp<;>rfl);refine qz ?_;refine qz ?_ (fun w' hw'=>by obtain⟨f1,f2,f3⟩:=F.o w' hw';go_simp<;>rfl);refine qz ?_ (fun w' hw'=>by have hl:=JC.o w' hw';go_simp<;>rfl);refine qz ?_;refine wpQuiet_nil ?_;intro w4 hb4;have gp:Hid (au (fun _=>False) n pb db w o d w4 o3 d3 (aS L name (aw ((B.take (i+1)).filter (jK S)) kO))):=aa (by rw[sk.o,HE.o,if_neg ah,List.append_nil];exact eC.o.below hb4);clear hb4 F Ib JC;go_wp2;go_roundw
     case rel=>exact⟨i+1,kO,o3,d3,by go_num,ae,gp⟩
     case measure=>simp[intOf];omega
    ·have JC:=aa (LU.look x.h.toNat_lt false (decide_eq_false hh));have HE:Hid (jK S x=true):=aa (by unfold jK;simp[ht,hh]);clear ht hh LU;refine wq W3 ?_;iterate 3 (refine qz ?_)
     refine qz ?_ (fun w' hw'=>by obtain⟨f1,f2,f3⟩:=F.o w' hw';go_simp<;>rfl);refine qz ?_;refine qz ?_ (fun w' hw'=>by obtain⟨f1,f2,f3⟩:=F.o w' hw';go_simp<;>rfl);refine qz ?_ (fun w' hw'=>by have hl:=Ib.o w' hw';go_simp<;>rfl);refine qz ?_;iterate 3 (refine qz ?_)
     refine qz ?_ (fun w' hw'=>by obtain⟨f1,f2,f3⟩:=F.o w' hw';go_simp<;>rfl);refine qz ?_;refine qz ?_ (fun w' hw'=>by obtain⟨f1,f2,f3⟩:=F.o w' hw';go_simp<;>rfl);refine qz ?_ (fun w' hw'=>by have hl:=JC.o w' hw';go_simp<;>rfl);refine qz ?_;refine wpQuiet_nil ?_;intro w4 hb4;have gp:=aa (eC.o.below hb4);have XH:w4.heap[xb]? = some (.cells #[.int .u32 (x.t.toNat:Int),.int .u32 (x.h.toNat:Int),.int .u64 (x.x.toNat:Int),.int .u32 (x.m.toNat:Int)] 64):=(hb4.block _ (Array.getElem?_eq_some_iff.1 iu.o).1).trans iu.o;have q0:w4.cell? ⟨xb,0,none⟩=some (.int .u32 (x.t.toNat:Int)):=by rw[aq XH];rfl
     have q1:w4.cell? ⟨xb,1,none⟩=some (.int .u32 (x.h.toNat:Int)):=by rw[aq XH];rfl
     have q2:w4.cell? ⟨xb,2,none⟩=some (.int .u64 (x.x.toNat:Int)):=by rw[aq XH];rfl
     have q3:w4.cell? ⟨xb,3,none⟩=some (.int .u32 (x.m.toNat:Int)):=by rw[aq XH];rfl
     have hput:=aa (nz.o (w4.alloc (.cells #[.int .u32 (x.t.toNat:Int),.int .u32 (x.h.toNat:Int),.int .u64 (x.x.toNat:Int),.int .u32 (x.m.toNat:Int)] 64)) o3 d3 acc kO (.slice (some ⟨w4.heap.size,0,none⟩) 1 1) x (gp.o.alloc _) HLEN.o Wl (fun b hb=>by cases hb;exact gp.o.aX.fresh (Nat.le_refl _)));clear hb4 F Ib JC iu eC XH;go_wp2_with fail;refine hput.o.mono ?_;rintro e w5⟨d5,o5,fl5,rfl,lD⟩;have lF:Hid (au (fun _=>False) n pb db w o d w5 o5 d5 (aS L name (aw ((B.take (i+1)).filter (jK S)) fl5))):=aa (by rw[sk.o,HE.o,if_pos rfl];exact lD);clear lD hput gp q0 q1 q2 q3;go_wp2;go_roundw
     case rel=>exact⟨i+1,fl5,o5,d5,by go_num,ae,lF⟩
     case measure=>simp[intOf];omega
  ·have hiz:¬(i:Int)<(M:Int):=by omega
   have HQ:Hid (R (.returned (.int .i64 0)) W2):=aa (by
    have:=eB.out;rw[List.take_of_length_le (by have:=HM.o;omega)]at this;rw[Tf.o];exact⟨kO,d2,o2,rfl,this⟩)
   clear eB Tf;go_wp2;exact HQ.o
end
end
section
open Go.RowKit Go.Maps
theorem Jn(a:UInt32):IntKind.u32.wrap ((a.toNat:Int)+1)=((a+1).toNat:Int):=by
 rfl
theorem Jo{l:List bW}{i:Nat}{y:bW}(r:UInt32)(h:l[i]? = some y):(cL l).set (i*3) (.int .u32 (r.toNat:Int))=cL (l.set i ⟨r,y.l,y.g⟩):=by
 induction l generalizing i with
 |nil=>cases h
 |cons a l ih=>
   cases i with
   |zero=>cases h;rfl
   |succ i=>grind [cL]
theorem yz{l:List bW}{i:Nat}{y:bW}(r:UInt32)(h:l[i]? = some y):(cL l).set (i*3+1) (.int .u32 (r.toNat:Int))=cL (l.set i ⟨y.r,r,y.g⟩):=by
 induction l generalizing i with
 |nil=>cases h
 |cons a l ih=>
   cases i with
   |zero=>cases h;rfl
   |succ i=>grind [cL]
theorem Jp{l:List bW}{i:Nat}{y:bW}(r:UInt32)(h:l[i]? = some y):(cL l).set (i*3+2) (.int .u32 (r.toNat:Int))=cL (l.set i ⟨y.r,y.l,r⟩):=by
 induction l generalizing i with
 |nil=>cases h
 |cons a l ih=>
   cases i with
   |zero=>cases h;rfl
   |succ i=>grind [cL]
theorem lH{L:aD}{k:Name}{f:gT}(hk:(L.map (·.1)).Nodup)(h:aB L k=some f)(f':gT):need (aS L k f')+f.need=f'.need+need L:=by
 have e:need (aS L k f)=need L:=Aa hk (cF hk) fun x=>by
  grind [ay]
 grind [aS,iT]
def eN(es:List aJ):Nat:=(aw es true).need
theorem Nb(es:List aJ)(fl:Bool):(aw es fl).need=eN es:=rfl
theorem gl(es:List aJ):eN es<=4*es.length:=cH es true
structure RL(L0 L:aD)(nX nU nD:Name)(R U D:List aJ):Prop where
 x:∃f,aB L nX=some (aw R f)
 u:∃f,aB L nU=some (aw U f)
 d:∃f,aB L nD=some (aw D f)
 sK:∀y,y≠nX->y≠nU->y≠nD->aB L y=aB L0 y
 need:need L<=need L0+eN R+eN U+eN D
section
variable {S:Nat->Prop} {w0 w w' W W':World} {pb db n gb gen N ob ib vb rb mb pc done sb g vk base:Nat} {o o' gP:ar} {d d' gB:Dsk} {L0 L L' xQ:aD} {es l R U D:List aJ} {vs vs':List bW} {x4 x5 x6 v:Value} {name nX nU nD:Name} {fl:Bool}
theorem Nc(h:RL L0 L nX nU nD R U D)(hk:(L.map (·.1)).Nodup)(h1:nX≠nU)(h2:nX≠nD)(R':List aJ)(fl:Bool):RL L0 (aS L nX (aw R' fl)) nX nU nD R' U D:=by
 obtain⟨f,hf⟩:=h.x;refine⟨⟨fl,by grind [ay]⟩,?_,?_,fun y h3 h4 h5=>by grind [ay,RL.sK],?_⟩
 ·grind [ay,RL.u]
 ·grind [ay,RL.d]
 ·have:=lH hk hf (aw R' fl);have:=h.need;grind [Nb]
theorem Wm(h:RL L0 L nX nU nD R U D)(hk:(L.map (·.1)).Nodup)(h1:nX≠nU)(h2:nU≠nD)(R':List aJ)(fl:Bool):RL L0 (aS L nU (aw R' fl)) nX nU nD R R' D:=by
 obtain⟨f,hf⟩:=h.u;refine⟨?_,⟨fl,by grind [ay]⟩,?_,fun y h3 h4 h5=>by grind [ay,RL.sK],?_⟩
 ·grind [ay,RL.x]
 ·grind [ay,RL.d]
 ·have:=lH hk hf (aw R' fl);have:=h.need;grind [Nb]
theorem Wn(h:RL L0 L nX nU nD R U D)(hk:(L.map (·.1)).Nodup)(h1:nX≠nD)(h2:nU≠nD)(R':List aJ)(fl:Bool):RL L0 (aS L nD (aw R' fl)) nX nU nD R U R':=by
 obtain⟨f,hf⟩:=h.d;refine⟨?_,?_,⟨fl,by grind [ay]⟩,fun y h3 h4 h5=>by grind [ay,RL.sK],?_⟩
 ·grind [ay,RL.x]
 ·grind [ay,RL.u]
 ·have:=lH hk hf (aw R' fl);have:=h.need;grind [Nb]
structure RNm(gen:Nat)(nX nU nD:Name):Prop where
 xu:nX≠nU
 xd:nX≠nD
 ud:nU≠nD
 x1:nX≠aG 101 gen
 x2:nX≠aG 114 gen
 u1:nU≠aG 101 gen
 u2:nU≠aG 114 gen
 d1:nD≠aG 101 gen
 d2:nD≠aG 114 gen
theorem eH.Nd{w w':World}{v:Value}{vs:List bW}(h:eH w v vs)(hb:∀b,v.ownBlock=some b->w'.heap[b]? = w.heap[b]?):eH w' v vs:=by
 obtain⟨a,cap,rfl,h1,h2,h3⟩:=h;refine⟨a,cap,rfl,h1,h2,h3.imp id ?_⟩;rintro⟨b,off,rfl,hc⟩;refine⟨b,off,rfl,fun i hi=>?_⟩;obtain⟨k0,k1,k2⟩:=hc i hi;have e:=hb b rfl;grind [World.cell?_of_block]
structure eA(w0 W:World)(pb db n:Nat)(o:ar)(d:Dsk)(L0 L:aD)(gb gen N ob ib vb:Nat)(es:List aJ)(rb mb g vk done:Nat)(x5:Value)(S:List Nat)(nX nU nD:Name)(xb ub eb:Nat)(wv:Value)(was:List bW)(R U D:List aJ)(vs:List bW)(base:Nat):Prop where
 jI:fI w0 W pb db n o d L gb gen N ob ib vb es
 Jq:dA W rb pb gb gen done (.map (some mb)) x5 (.slice (some ⟨g,0,none⟩) N vk)
 of:qY w0 W o rb gb ob ib vb
 ch:fE W mb S
 oq:o mb=none
 rl:RL L0 L nX nU nD R U D
 nm:RNm gen nX nU nD
 sx:aC W xb pb nX 20
 su:aC W ub pb nU 20
 sd:aC W eb pb nD 20
 ox:o xb=none
 ou:o ub=none
 od:o eb=none
 LW:eH W wv was
 own:∀b,wv.ownBlock=some b->b<W.heap.size/\o b=none
 Pk:was.length=N
 row:dP W base (.slice (some ⟨g,0,none⟩) N vk) vs
 len:vs.length=N
 og:o g=none
 g0:w0.heap.size<=g
 gne:g≠rb/\g≠mb/\g≠gb/\g≠ob/\g≠ib/\g≠vb/\g≠xb/\g≠ub/\g≠eb/\wv.ownBlock≠some g
section
variable {xb ub eb:Nat} {wv:Value} {was:List bW} {S:List Nat}
theorem eA.moved(h:eA w0 W pb db n o d L0 L gb gen N ob ib vb es rb mb g vk done x5 S nX nU nD xb ub eb wv was R U D vs base)(hm:au (fun _=>False) n pb db W o d W' o' d' L'){R' U' D':List aJ}(hl:RL L0 L' nX nU nD R' U' D')(hq:need L0+eN R'+eN U'+eN D'<=131072) :
 eA w0 W' pb db n o' d' L0 L' gb gen N ob ib vb es rb mb g vk done x5 S nX nU nD xb ub eb wv was R' U' D' vs base where
 jI:=tv h.jI hm (by rw[hl.sK _ h.nm.x1.symm h.nm.u1.symm h.nm.d1.symm,h.rl.sK _ h.nm.x1.symm h.nm.u1.symm h.nm.d1.symm]) (by rw[hl.sK _ h.nm.x2.symm h.nm.u2.symm h.nm.d2.symm,h.rl.sK _ h.nm.x2.symm h.nm.u2.symm h.nm.d2.symm]) (by have:=hl.need;omega)
 Jq:=h.Jq.moved h.of.free hm
 of:=h.of.moved hm
 ch:=h.ch.kept (hm.block h.ch.lt h.oq (fun e=>e))
 oq:=hm.free h.ch.lt h.oq
 rl:=hl
 nm:=h.nm
 sx:=h.sx.moved hm h.ox (fun e=>e)
 su:=h.su.moved hm h.ou (fun e=>e)
 sd:=h.sd.moved hm h.od (fun e=>e)
 ox:=hm.free h.sx.lt h.ox
 ou:=hm.free h.su.lt h.ou
 od:=hm.free h.sd.lt h.od
 LW:=h.LW.Nd (fun b hb=>hm.block (h.own b hb).1 (h.own b hb).2 (fun e=>e))
 own:=fun b hb=>⟨Nat.lt_of_lt_of_le (h.own b hb).1 hm.size,hm.free (h.own b hb).1 (h.own b hb).2⟩
 Pk:=h.Pk
 row:=hm.ownsRow h.row (fun b hb=>by cases hb;grind [og])
 len:=h.len
 og:=hm.free (aL h.row g rfl).1 h.og
 g0:=h.g0
 gne:=h.gne
theorem eA.below(h:eA w0 W pb db n o d L0 L gb gen N ob ib vb es rb mb g vk done x5 S nX nU nD xb ub eb wv was R U D vs base)(hb:Below W.heap.size W W')(hq:need L0+eN R+eN U+eN D<=131072) :
 eA w0 W' pb db n o d L0 L gb gen N ob ib vb es rb mb g vk done x5 S nX nU nD xb ub eb wv was R U D vs base:=h.moved (au.aW h.jI.held.aX hb) h.rl hq
theorem eA.set(h:eA w0 W pb db n o d L0 L gb gen N ob ib vb es rb mb g vk done x5 S nX nU nD xb ub eb wv was R U D vs base)(j:Nat)(u:Value)(hr:(cL vs).set j u=cL vs')(hl:vs'.length=vs.length) :
 eA w0 (W.setCell ⟨g,j,none⟩ u) pb db n o d L0 L gb gen N ob ib vb es rb mb g vk done x5 S nX nU nD xb ub eb wv was R U D vs' base:=by
 obtain⟨n1,n2,n3,n4,n5,n6,n7,n8,n9,n10⟩:=h.gne;have hm:au (·=g) n pb db W o d (W.setCell ⟨g,j,none⟩ u) o d L:=(au.refl _ h.jI.held.aX).setCell _ _ h.og (.inl rfl);have hk:∀b,b≠g->(W.setCell ⟨g,j,none⟩ u).heap[b]? = W.heap[b]? := fun b hb=>Below.heap_setCell _ _ _ _ hb;have hg:=h.jI.gr;have hsz:(W.setCell ⟨g,j,none⟩ u).heap.size=W.heap.size:=by simp
 exact {
  jI:=⟨h.jI.held.moved hm (fun _ e=>e▸h.g0),h.jI.need,⟨hg.raw.moved hm hg.VF n3.symm,hg.out.moved hm hg.PW n4.symm,hg.rE.moved hm hg.Uk n5.symm,hg.qR.moved hm hg.JJ n6.symm,hg.VF,hg.PW,hg.Uk,hg.JJ⟩,h.jI.file,h.jI.DN,h.jI.len,h.jI.top,h.jI.ends⟩
  Jq:=(hk rb n1.symm).trans h.Jq
  of:=⟨h.of.new,by rw[hsz];exact h.of.lt,h.of.free,h.of.graph⟩
  ch:=h.ch.kept (hk mb n2.symm)
  oq:=h.oq
  rl:=h.rl
  nm:=h.nm
  sx:=h.sx.kept (hk _ n7.symm)
  su:=h.su.kept (hk _ n8.symm)
  sd:=h.sd.kept (hk _ n9.symm)
  ox:=h.ox
  ou:=h.ou
  od:=h.od
  LW:=h.LW.Nd (fun b hb=>hk b (fun e=>n10 (e▸hb)))
  own:=fun b hb=>⟨by rw[hsz];exact(h.own b hb).1,(h.own b hb).2⟩
  Pk:=h.Pk
  row:=by
   grind [World.ownsRow.stored,row,len]
  len:=hl.trans h.len
  og:=h.og
  g0:=h.g0
  gne:=h.gne }
end
end
end
section
open Go.RowKit Go.Maps
section
variable {w0 w w' W W':World} {pb db n gb gen N ob ib vb rb mb done g vk base xb ub eb:Nat} {o o' gP:ar} {d d' gB:Dsk} {L0 L L' xQ:aD} {es R U D:List aJ} {vs vs' was:List bW} {x5 wv:Value} {S:List Nat} {nX nU nD:Name}
def FB(w0 w:World)(pb db n:Nat)(o:ar)(d:Dsk)(L0:aD)(gb gen N ob ib vb:Nat)(es:List aJ)(rb mb g vk done:Nat)(x5:Value)(S:List Nat)(nX nU nD:Name)(xb ub eb:Nat)(wv:Value)(was:List bW)(R U D:List aJ)(vs:List bW)(base:Nat)(e:Ending)(w':World):Prop:=
 ∃d' o' L',e=.returned (.int .i64 0)/\au (·=g) n pb db w o d w' o' d' L'/\eA w0 w' pb db n o' d' L0 L' gb gen N ob ib vb es rb mb g vk done x5 S nX nU nD xb ub eb wv was R U D vs base
theorem eA.put(HW:aP)(h:eA w0 W pb db n o d L0 L gb gen N ob ib vb es rb mb g vk done x5 S nX nU nD xb ub eb wv was R U D vs base){sb:Nat}{name:Name}{A l:List aJ}{v:Value}{fl:Bool}(hst:aC W sb pb name 20)(Nz:o sb=none)(hL:aB L name=some (aw A fl))(hv:kL W v l)(my:∀b,v.ownBlock=some b->o b=none)(hA:A.length<=R.length+U.length+D.length)(hq:need L0+8*(l.length+R.length+U.length+D.length)<=131072) :
 Calls prog 151 #[ptrTo sb,v] W (jE (fun _=>False) n pb db W o d L name (A++l)):=by
 have:=h.rl.need;have:=gl R;have:=gl U;have:=gl D;exact Jk HW h.jI.held hst Nz hL hv my ae ae
theorem Pm{l:List bW}{i:Nat}{y:bW}(h:l[i]? = some y):l.set i y=l:=by
 refine List.ext_getElem? fun j=>?_;grind
theorem Bn{l:List bW}{i:Nat}{y:bW}{f:bW->bW}(h:l[i]? = some y):l.modify i f=l.set i (f y):=by
 refine List.ext_getElem? fun j=>?_;grind
def X5(w:World)(o:ar)(v:Value)(l:List aJ):Prop:=kL w v l/\∀b,v.ownBlock=some b->b<w.heap.size/\o b=none
theorem X5.moved{v:Value}{l:List aJ}(h:X5 w o v l)(hm:au (fun _=>False) n pb db w o d w' o' d' L'):X5 w' o' v l:=
 ⟨h.1.moved hm (fun b hb=>(h.2 b hb).2),fun b hb=>⟨Nat.lt_of_lt_of_le (h.2 b hb).1 hm.size,hm.free (h.2 b hb).1 (h.2 b hb).2⟩⟩
theorem X5.of{v:Value}{l:List aJ}(h:aI w base v l)(ho:∀b,v.ownBlock=some b->o b=none):X5 w o v l:=⟨lx h,fun b hb=>⟨(aL h b hb).1,ho b hb⟩⟩
section
variable {pc:Nat} {oo:ar} {dd:Dsk} {ob':Obj}
theorem gO(h:eA w0 W pb db n o d L0 L gb gen N ob ib vb es rb mb g vk done x5 S nX nU nD xb ub eb wv was R U D vs base/\W.heap[pc]? = some ob'/\o pc=none/\au (·=g) n pb db w oo dd W o d L)(hm:au (fun _=>False) n pb db W o d W' o' d' L'){R' U' D':List aJ}(hl:RL L0 L' nX nU nD R' U' D')(hq:need L0+eN R'+eN U'+eN D'<=131072) :
 eA w0 W' pb db n o' d' L0 L' gb gen N ob ib vb es rb mb g vk done x5 S nX nU nD xb ub eb wv was R' U' D' vs base/\W'.heap[pc]? = some ob'/\o' pc=none/\au (·=g) n pb db w oo dd W' o' d' L':=
 ⟨h.1.moved hm hl hq,hm.heap h.2.1 h.2.2.1 (fun e=>e),hm.free (Array.getElem?_eq_some_iff.1 h.2.1).1 h.2.2.1,h.2.2.2.trans hm (fun _ _ e=>e.elim)⟩
theorem zi(h:eA w0 W pb db n o d L0 L gb gen N ob ib vb es rb mb g vk done x5 S nX nU nD xb ub eb wv was R U D vs base/\W.heap[pc]? = some ob'/\o pc=none/\au (·=g) n pb db w oo dd W o d L)(hne:pc≠g)(j:Nat)(u:Value)(hr:(cL vs).set j u=cL vs')(hl:vs'.length=vs.length) :
 eA w0 (W.setCell ⟨g,j,none⟩ u) pb db n o d L0 L gb gen N ob ib vb es rb mb g vk done x5 S nX nU nD xb ub eb wv was R U D vs' base/\(W.setCell ⟨g,j,none⟩ u).heap[pc]? = some ob'/\o pc=none/\au (·=g) n pb db w oo dd (W.setCell ⟨g,j,none⟩ u) o d L:=
 ⟨h.1.set j u hr hl,by grind [Below.heap_setCell],h.2.2.1,h.2.2.2.setCell _ _ h.1.og (.inl rfl)⟩
theorem TB(h:eA w0 W pb db n o d L0 L gb gen N ob ib vb es rb mb g vk done x5 S nX nU nD xb ub eb wv was R U D vs base/\W.heap[pc]? = some ob'/\o pc=none/\au (·=g) n pb db w oo dd W o d L)(hne:pc≠g)(j:Nat)(u:Value)(hr:(cL vs).set j u=cL vs')(hl:vs'.length=vs.length)(hq:need L0+eN R+eN U+eN D<=131072) :
 eA w0 (W.setCell ⟨g,j,none⟩ u).drew pb db n o d L0 L gb gen N ob ib vb es rb mb g vk done x5 S nX nU nD xb ub eb wv was R U D vs' base/\(W.setCell ⟨g,j,none⟩ u).drew.heap[pc]? = some ob'/\o pc=none/\au (·=g) n pb db w oo dd (W.setCell ⟨g,j,none⟩ u).drew o d L:=
 have h1:=zi h hne j u hr hl;gO h1 (au.aW h1.1.jI.held.aX aj.drew) h1.1.rl hq
end
end
end
section
open Go.RowKit Go.Maps
def vN(vs:List bW):Nat:=(b7 vs true).need
structure lz(L L':aD)(gen:Nat)(R U D:List aJ)(vs:List bW):Prop where
 e:aB L' (aG 101 (gen+1))=some (aw (aK false R) true)
 r:aB L' (aG 114 (gen+1))=some (aw (aK true R) true)
 v:aB L' (aG 118 (gen+1))=some (b7 vs true)
 u:aB L' (aG 117 (gen+1))=some (aw U true)
 d:aB L' (aG 100 (gen+1))=some (aw D true)
 sK:∀y,y≠aG 101 (gen+1)->y≠aG 114 (gen+1)->y≠aG 118 (gen+1)->y≠aG 117 (gen+1)->y≠aG 100 (gen+1)->aB L' y=aB L y
 need:need L'<=need L+eN (aK false R)+eN (aK true R)+vN vs+eN U+eN D
theorem FD(L:aD)(k:Name):need (b8 L k)<=need L:=by
 have h1:=cO L k (.inl (([]:List Pg),true));grind [aS,iT]
theorem TC{L:aD}{k:Name}{f:gT}(hk:(L.map (·.1)).Nodup)(h:aB L k=some f):need (b8 L k)+f.need=need L:=by
 have:=lH hk h (.inl (([]:List Pg),true));grind [aS,iT]
theorem rK{L:aD}{gen:Nat}{R:List aJ}{vs:List bW}{y:Name}(h1:y≠aG 101 gen)(h2:y≠aG 114 gen)(h3:y≠aG 118 gen):aB (fP L gen R vs) y=aB L y:=by
 grind [fP,ay]
theorem LX{L L3:aD}{gen:Nat}{R U D:List aJ}{vs:List bW}(hk:(L3.map (·.1)).Nodup)(h:RL L L3 (aG 120 (gen+1)) (aG 117 (gen+1)) (aG 100 (gen+1)) R U D)(hx:aB L (aG 120 (gen+1))=none) :
 lz L (b8 (aS (aS (fP L3 (gen+1) R vs) (aG 117 (gen+1)) (aw U true)) (aG 100 (gen+1)) (aw D true)) (aG 120 (gen+1))) gen R U D vs:=by
 have ne:∀{c c':UInt8},c≠c'->aG c (gen+1)≠aG c' (gen+1):=fun h=>iw h _ _;obtain⟨f1,f2,f3⟩:=yl L3 (gen+1) R vs;have hmo:∀y,y≠aG 101 (gen+1)->y≠aG 114 (gen+1)->y≠aG 118 (gen+1)->aB (fP L3 (gen+1) R vs) y=aB L3 y:=fun y h1 h2 h3=>rK h1 h2 h3;have vL:((fP L3 (gen+1) R vs).map (·.1)).Nodup:=by grind [fP,cF]
 obtain⟨fx,Wo⟩:=h.x;obtain⟨fu,QE⟩:=h.u;obtain⟨fd,Td⟩:=h.d;refine⟨?_,?_,?_,?_,?_,fun y h1 h2 h3 h4 h5=>?_,?_⟩
 ·grind [cP,ay]
 ·grind [cP,ay]
 ·grind [cP,ay]
 ·grind [cP,ay]
 ·grind [cP,ay]
 ·grind [cP,ay,RL.sK]
 ·have g1:=TC (L:=aS (aS (fP L3 (gen+1) R vs) (aG 117 (gen+1)) (aw U true)) (aG 100 (gen+1)) (aw D true)) (k:=aG 120 (gen+1)) (f:=aw R fx) (cF (cF vL)) (by grind [ay]);have g2:=lH (L:=aS (fP L3 (gen+1) R vs) (aG 117 (gen+1)) (aw U true)) (k:=aG 100 (gen+1)) (f:=aw D fd) (cF vL) (by grind [ay]) (aw D true);have g3:=lH (L:=fP L3 (gen+1) R vs) (k:=aG 117 (gen+1)) (f:=aw U fu) vL (by grind) (aw U true);have g4:=cO (aS (aS L3 (aG 101 (gen+1)) (aw (aK false R) true)) (aG 114 (gen+1)) (aw (aK true R) true)) (aG 118 (gen+1)) (b7 vs true);have g5:=cO (aS L3 (aG 101 (gen+1)) (aw (aK false R) true)) (aG 114 (gen+1)) (aw (aK true R) true);have g6:=cO L3 (aG 101 (gen+1)) (aw (aK false R) true);have g7:=h.need;grind [vN,Nb,fP]
end
section
open Go Go.RowKit
section
variable {P:Program} {C:World->Prop} {val:Nat->Value} {Dn:Nat->World->Prop} {l:List Oper} {a0:Act}
structure q7(C:World->Prop)(val:Nat->Value)(Dn:Nat->World->Prop)(l:List Oper)(a0:Act)(listed:Array Bool)(a:Act)(w:World):Prop where
 size:listed.size=l.length
 cls:C w
 XF:a.tmps.size=a0.tmps.size
 dfr:a.defers=a0.defers
 out:∀k,(∀o∈l,o.dst≠some k)->a.tmps[k]? = a0.tmps[k]?
 slot:∀(i:Nat)(o:Oper)(k:Nat),l[i]? = some o->o.dst=some k->listed.getD i true=true->a.tmps[k]? = some (val i)
 dn:∀i,i<l.length->listed.getD i true=true->Dn i w
def rL(val:Nat->Value)(l:List Oper)(a0:Act)(o:Oper)(a:Act):Prop:=
 (∀k,(∀o∈l,o.dst≠some k)->a.tmps[k]? = a0.tmps[k]?)/\∀e∈o.after,Region.binds .any e=true->∀(oj:Oper)(k:Nat),l[e.on]? = some oj->oj.dst=some k->a.tmps[k]? = some (val e.on)
theorem rL.get{o:Oper}{a:Act}(h:rL val l a0 o a)(j:Nat){oj:Oper}{k:Nat}(hj:(o.after.toList.any fun e=>decide (e.on=j) && Region.binds .any e)=true)(ho:l[j]? = some oj)(hk:oj.dst=some k):a.tmps[k]? = some (val j):=by
 rw[List.any_eq_true]at hj;obtain⟨e,he,h1⟩:=hj;rw[Bool.and_eq_true,decide_eq_true_eq]at h1;obtain⟨rfl,h2⟩:=h1;exact h.2 e (by grind) h2 oj k ho hk
theorem rL.old{o:Oper}{a:Act}(h:rL val l a0 o a)(k:Nat){v:Value}(hk:(l.all fun o=>decide (o.dst≠some k))=true)(h0:a0.tmps[k]? = some v):a.tmps[k]? = some v:=by
 refine(h.1 k fun o ho=>?_).trans h0;grind
def FE(P:Program)(C:World->Prop)(val:Nat->Value)(Dn:Nat->World->Prop)(i:Nat)(o:Oper)(a:Act)(w:World):Prop:=
 ∃w',((execOp a.eval o).run P w=.ok (.value (val i)) w'\/o.dst=none/\(execOp a.eval o).run P w=.ok .skip w')/\C w'/\Dn i w'/\∀j,Dn j w->Dn j w'
theorem Pn{Q:Exit->Act->World->Prop}(hB:Ii l a0.tmps.size=true)(hstep:∀(i:Nat)(o:Oper),l[i]? = some o->∀a w,C w->rL val l a0 o a->FE P C val Dn i o a w)(hend:∀listed a w,q7 C val Dn l a0 listed a w->Region.ready .any l.toArray listed=[]->Q .normal a w)(f:Nat) :
 ∀(listed:Array Bool)(a:Act)(w:World),q7 C val Dn l a0 listed a w->listed.toList.count false<=f->wpAny P .any l.toArray Q f listed a w:=by
 simp only[Ii,Bool.and_eq_true,List.all_eq_true]at hB;obtain⟨⟨hg,hb⟩,hd⟩:=hB;induction f with
 |zero=>
   intro listed a w inv hf;have hr:Region.ready .any l.toArray listed=[]:=by
    unfold Region.ready;rw[List.filter_eq_nil_iff];intro i _;have:listed.getD i true=true:=by
     rw[Array.getD_eq_getD_getElem?];grind [List.count_pos_iff]
    grind
   exact⟨hr,hend _ _ _ inv hr⟩
 |succ f ih=>
   intro listed a w inv hf;refine⟨hend _ _ _ inv,fun i hi=>?_⟩;obtain⟨vA,o,ho,hall⟩:=mem_ready.1 hi;have kN:l[i]? = some o:=by grind
   have hol:o∈l:=List.mem_of_getElem? kN;have kB:i<l.length:=(List.getElem?_eq_some_iff.1 kN).1;have hw:Region.wanted o (yielded l.toArray a.tmps)=true:=by
    grind [Region.wanted]
   obtain⟨w',hrun,hC,hD,hK⟩:=hstep i o kN a w inv.cls ⟨inv.out,fun e he PV oj k lI hk=>inv.slot _ oj k lI hk (by
    grind)⟩
   have TD:∀j,i≠j->(listed.setIfInBounds i true).getD j true=true->listed.getD j true=true:=fun j fg h=>by
    simp_all
   unfold wpOp;rw[ho];simp only[hw,if_true];refine .inl ?_;have key:wpAny P .any l.toArray Q f (listed.setIfInBounds i true) (a.put o.dst (val i)) w':=by
    refine ih _ _ _ ⟨by grind [q7.size],hC,by rw[qM];exact inv.XF,by rw[sr];exact inv.dfr,fun k hk=>(pH _ _ _ _ (hk o hol)).trans (inv.out k hk),fun j oj k lI hk hlj=>?_,fun j hj hlj=>?_⟩ ?_
    ·by_cases fg:i=j
     ·grind [Act.put,q7.XF]
     ·refine(pH _ _ _ _ (fun e=>?_)).trans (inv.slot j oj k lI hk (TD j fg hlj));have h4:=hd i (List.mem_range.2 kB) j (List.mem_range.2 (List.getElem?_eq_some_iff.1 lI).1);grind
    ·grind [q7.dn]
    ·have tP:listed[i]? = some false:=by
      rw[Array.getD_eq_getD_getElem?]at vA;grind
     grind
   unfold Oper.wp;rcases hrun with hrun |⟨Uo,hrun⟩
   ·rw[hrun];exact key
   ·rw[hrun];rw[Uo]at key;show wpAny P .any l.toArray Q f _ (a.put o.dst undef) w';rw[Uo];exact key
def aeY(l:List Oper):Bool:=(List.range l.length).all fun i=>match l[i]? with | some o=>o.after.toList.all (fun e=>!Region.binds .any e || decide (e.on<i)) | none=>true
def Bo(val:Nat->Value):Act->Nat->List Oper->Act
 |a,_,[]=>a
 |a,k,o::l=>Bo val (a.put o.dst (val k)) (k+1) l
theorem Po(l:List Oper):∀(a:Act)(k:Nat),Bo val a k l=nM a l ((List.range' k l.length).map val):=by
 induction l with
 |nil=>intro a k;rfl
 |cons o l ih=>grind [Bo,List.range'_succ,nM]
theorem CQ{id:Nat}{Q:Exit->Act->World->Prop}{w:World}(C:World->Prop)(val:Nat->Value)(Dn:Nat->World->Prop)(hm:P.follows .mixedOrders=true)(hB:Ii l a0.tmps.size=true)(hA:aeY l=true)(hC:C w.drew)(hstep:∀(i:Nat)(o:Oper),l[i]? = some o->∀a w,C w->rL val l a0 o a->FE P C val Dn i o a w)(hend:∀w',C w'->(∀i,i<l.length->Dn i w')->Q .normal (Bo val a0 0 l) w'):(Code.region id l.toArray true).wp P Q a0 w:=by
 refine wp_region_any hm ?_;refine Pn hB hstep (fun listed a w inv hr=>?_) _ _ _ _ ⟨ah,hC,rfl,rfl,fun _ _=>rfl,fun i o k ho _ hl=>?_,fun i hi hl=>?_⟩ (Nat.le_trans List.count_le_length ah)
 ·have hall:∀i,i<l.length->listed.getD i true=true:=by
   intro i;induction i using Nat.strongRecOn with
   |_ i ih=>
     intro hi;by_cases hd:listed.getD i true=true
     ·exact hd
     ·exfalso
      have hm:i∈Region.ready .any l.toArray listed:=by
       refine mem_ready.2 ⟨by grind,l[i],ah,fun e he PV=>?_⟩;unfold aeY at hA;rw[List.all_eq_true]at hA;have h1:=hA i (List.mem_range.2 hi);grind
      grind
  have ha:a=nM a0 l ((List.range l.length).map val):=by
   simp only[Ii,Bool.and_eq_true,List.all_eq_true]at hB;obtain⟨⟨_,h2⟩,h3⟩:=hB;obtain⟨k1,k2,k3⟩:=qN l a0 ((List.range l.length).map val);refine yf (by rw[k1,inv.XF]) (by rw[k2,inv.dfr]) (fun k hk=>?_);rw[k1]at hk;by_cases he:∃o∈l,o.dst=some k
   ·obtain⟨o,ho,eD⟩:=he;obtain⟨i,hi⟩:=List.mem_iff_getElem?.1 ho;have kB:=(List.getElem?_eq_some_iff.1 hi).1;rw[inv.slot i o k hi eD (hall i kB)];refine(Dz l a0 _ i o k _ hi eD (by grind) hk (fun j oj hj hjk=>?_)).symm;have h4:=h3 j (List.mem_range.2 (List.getElem?_eq_some_iff.1 hj).1) i (List.mem_range.2 kB);grind
   grind [q7.out]
  grind [List.range_eq_range',Po,q7.cls,q7.dn]
 ·have kB:i<l.length:=(List.getElem?_eq_some_iff.1 ho).1;simp_all
 simp_all
theorem cq{i:Nat}{o:Oper}{a:Act}{w:World}(hC:C w)(hD:Dn i w)(h:(execOp a.eval o).run P w=.ok (.value (val i)) w):FE P C val Dn i o a w:=⟨w,.inl h,hC,hD,fun _ h=>h⟩
end
end
section
open Go.RowKit Go.Maps
section
variable {w0 w w' W W':World} {pb db n gb gen N ob ib vb rb mb done g vk base xb ub eb:Nat} {o o' gP:ar} {d d' gB:Dsk} {L0 L L' xQ:aD} {es R U D:List aJ} {vs vs' was:List bW} {x5 wv:Value} {S:List Nat} {nX nU nD:Name}
theorem FH(HW:aP)(h:eA w0 w pb db n o d L0 L gb gen N ob ib vb es rb mb g vk done x5 S nX nU nD xb ub eb wv was R U D vs base)(i v:Nat)(hv:v<N)(hi:done+i<4294967296)(TE:gen<1048576)(_hbase:base<=w.heap.size)(wZ:(fC es v).length*(aY es v).length<=100000)(hq:need L0+8*(R.length+U.length+D.length+(aY es v).length+(fC es v).length+(iJ es S v).length)<=131072) :
 Calls prog 103 #[ptrTo rb,.int .i64 (i:Int),.int .u32 (v:Int),wv,ptrTo xb,ptrTo ub,ptrTo eb] w
  (FB w0 w pb db n o d L0 gb gen N ob ib vb es rb mb g vk done x5 S nX nU nD xb ub eb wv was (R++iJ es S v) (U++aY es v) (D++fC es v) (fZ es was done gen vs i v) base):=by
 obtain⟨wa,wk,rfl,-⟩:=h.LW;have hN:N<=1000:=h.jI.top;obtain⟨V,hV⟩:∃V,V=UInt32.ofNat v:=⟨_,rfl⟩;have hVv:V.toNat=v:=by grind [UInt32.toNat_ofNat']
 have HV:=aa (show V=UInt32.ofNat v/\V.toNat=v from⟨hV,hVv⟩);obtain⟨RK,hRK⟩:∃x:UInt32,x=UInt32.ofNat (done+i):=⟨_,rfl⟩;obtain⟨LV,hLV⟩:∃x:UInt32,x=UInt32.ofNat (gen+1):=⟨_,rfl⟩;have hRn:RK.toNat=done+i:=by simp_all
 have hLn:LV.toNat=gen+1:=by grind [UInt32.toNat_ofNat']
 have HRL:=aa (show RK=UInt32.ofNat (done+i)/\LV=UInt32.ofNat (gen+1) from⟨hRK,hLV⟩);have HWR:Hid (IntKind.u32.wrap (i:Int)=(i:Int)/\IntKind.u32.wrap ((done:Int)+(i:Int))=(RK.toNat:Int)/\IntKind.i64.wrap ((gen:Int)+1)=((gen+1:Nat):Int)/\((gen:Int)+1)%4294967296=(LV.toNat:Int)/\IntKind.u32.wrap ((gen:Int)+1)=(LV.toNat:Int)):=aa ⟨eL _ ae ae,by grind [eL],by grind [ax],ae,by grind [IntKind.wrap_u32]⟩;have HQ:=aa hq;have HDG:=aa wZ;have HRM:Hid (need L0+eN R+eN U+eN D<=131072):=aa (by grind [gl]);have HVN:=aa hv;obtain⟨PST,mq⟩:∃P,P=FB w0 w pb db n o d L0 gb gen N ob ib vb es rb mb g vk done x5 S nX nU nD xb ub eb (.slice wa was.length wk) was (R++iJ es S v) (U++aY es v) (D++fC es v) (fZ es was done gen vs i v) base:=⟨_,rfl⟩;have xz:=aa mq;rw[<- mq];have H1:Hid (eA w0 (w.alloc (.cells #[ptrTo rb] 130)) pb db n o d L0 L gb gen N ob ib vb es rb mb g vk done x5 S nX nU nD xb ub eb (.slice wa was.length wk) was R U D vs base/\(w.alloc (.cells #[ptrTo rb] 130)).heap[w.heap.size]? = some (.cells #[ptrTo rb] 130)/\o w.heap.size=none/\w.heap.size≠g):=aa ⟨h.below ai (by assumption),heap_alloc_new _ _,h.jI.held.aX.fresh (Nat.le_refl _),fun e=>by have:=(aL h.row g rfl).1;omega⟩;have eu:Hid (au (·=g) n pb db w o d (w.alloc (.cells #[ptrTo rb] 130)) o d L):=aa ((au.refl _ h.jI.held.aX).alloc _);have c1:=h.Jq.cells.2.1;have Gp:=h.Jq.lt;clear h hq wZ hN _hbase hv mq hV hVv hRK hLV hRn hLn hi TE;unfold ptrTo at *;go_enter func103,ntmps103;go_wp2_with fail;clear c1 Gp;have iY:Hid (eA w0 (w.alloc (.cells #[.pointer (some ⟨rb,0,none⟩)] 130)) pb db n o d L0 L gb gen N ob ib vb es rb mb g vk done x5 S nX nU nD xb ub eb (.slice wa was.length wk) was R U D vs base/\(w.alloc (.cells #[.pointer (some ⟨rb,0,none⟩)] 130)).heap[w.heap.size]? = some (.cells #[.pointer (some ⟨rb,0,none⟩)] 130)/\o w.heap.size=none/\au (·=g) n pb db w o d (w.alloc (.cells #[.pointer (some ⟨rb,0,none⟩)] 130)) o d L):=aa ⟨H1.o.1,H1.o.2.1,H1.o.2.2.1,eu.o⟩;have HPG:Hid (w.heap.size≠g):=aa H1.o.2.2.2;clear H1 eu;generalize w.alloc (.cells #[.pointer (some ⟨rb,0,none⟩)] 130)=W1 at *;obtain⟨pc,hpc⟩:∃x,x=w.heap.size:=⟨_,rfl⟩;rw[<- hpc]at iY HPG ⊢;clear hpc;have hout:=aa (iY.o.1.jI.out HW HVN.o);unfold jx ptrTo at hout;refine hout.o.mono ?_;rintro e w2⟨ov,d2,o2,rfl,cQ,kr,hf2⟩;obtain⟨oa,oc,rfl⟩:=az kr;have eR:=aa (gO iY.o cQ iY.o.1.rl HRM.o);have ae0:=aa (X5.of kr hf2);have qh:=aa (eR.o.1.jI.rE HW HVN.o);have c0:w2.cell? ⟨pc,0,none⟩=some (.pointer (some ⟨rb,0,none⟩)):=by rw[aq eR.o.2.1];rfl
 have c1:w2.cell? ⟨rb,1,none⟩=some (.pointer (some ⟨gb,0,none⟩)):=eR.o.1.Jq.cells.2.1;unfold jx ptrTo at qh;clear cQ kr hf2 hout iY;go_wp2_with fail;refine qh.o.mono ?_;rintro e w3⟨iv,d3,o3,rfl,ej,hi3,hf3⟩;obtain⟨ia,ic,rfl⟩:=az hi3;have fB:=aa (gO eR.o ej eR.o.1.rl HRM.o);have ae1:=aa (ae0.o.moved ej);have ae2:=aa (X5.of hi3 hf3);clear ej hi3 hf3 qh eR ae0 c0 c1;have F:Hid (∀w',Below w3.heap.size w3 w'->w'.cell? ⟨pc,0,none⟩=some (.pointer (some ⟨rb,0,none⟩))/\w'.cell? ⟨rb,1,none⟩=some (.pointer (some ⟨gb,0,none⟩))):=aa (fun w' hw'=>by
  have hs:=gO fB.o (au.aW fB.o.1.jI.held.aX hw') fB.o.1.rl HRM.o;exact⟨by rw[aq hs.2.1];rfl,hs.1.Jq.cells.2.1⟩)
 go_wp2_with fail;refine cG (Below w3.heap.size w3) 12 rfl ag ag (aj.drew) ?_;simp only[List.take_succ_cons,List.take_zero];refine qz ?_ (fun w' hw'=>by obtain⟨f0,f1⟩:=F.o w' hw';go_simp<;>rfl);iterate 2 (refine qz ?_)
 refine qz ?_ (fun w' hw'=>by obtain⟨f0,f1⟩:=F.o w' hw';go_simp<;>rfl);refine qz ?_;refine qz ?_ (fun w' hw'=>by obtain⟨f0,f1⟩:=F.o w' hw';go_simp<;>rfl);iterate 2 (refine qz ?_)
 refine qz ?_ (fun w' hw'=>by obtain⟨f0,f1⟩:=F.o w' hw';go_simp<;>rfl);iterate 3 (refine qz ?_)
 refine wpQuiet_nil ?_;intro w4 hw4;refine⟨_,_,rfl,(by go_simp<;>exact⟨rfl,rfl⟩),?_⟩;have gq:=aa (gO fB.o (au.aW fB.o.1.jI.held.aX hw4) fB.o.1.rl HRM.o);have VH:=aa (ae1.o.moved (au.aW (n:=n) fB.o.1.jI.held.aX hw4));have ae3:=aa (ae2.o.moved (au.aW (n:=n) fB.o.1.jI.held.aX hw4));have vL:=aa (sH HW gq.o.1.jI (Tz gq.o.2.1 gq.o.1.Jq gq.o.1.ch gq.o.2.2.1 gq.o.1.of.free gq.o.1.oq) V (by grind [Hid.out]) (by grind [Hid.out]));have hce:oJ (aY es) (fun x=>decide (x∈S)) (fC es v) V=iJ es S v:=by grind [iJ,Hid.out]
 rw[HV.o.2,hce]at vL;unfold uP uO Fk ptrTo at vL;clear hw4 F fB ae1 ae2 hce;refine vL.o.mono ?_;rintro e w5⟨cv,d5,o5,rfl,lD,nH,P0⟩;have b9:=aa (gO gq.o lD gq.o.1.rl HRM.o);have aaF:=aa (VH.o.moved lD);have ae4:=aa (ae3.o.moved lD);have ae5:Hid (X5 w5 o5 cv (iJ es S v)):=aa ⟨nH,fun b hb=>⟨(P0 b hb).2.2,(P0 b hb).1⟩⟩;obtain⟨ca,cc,rfl,-⟩:=nH;clear lD P0 vL gq VH ae3;refine⟨_,rfl,?_⟩;go_simp;iterate 5 (refine qz ?_)
 refine wpQuiet_nil ?_;obtain⟨fu,QE⟩:=b9.o.1.rl.u;have hpu:=aa (b9.o.1.put HW b9.o.1.su b9.o.1.ou QE aaF.o.1 (fun b hb=>(aaF.o.2 b hb).2) ae (by grind [Hid.out]));unfold jE ptrTo at hpu;clear QE;go_wp2_with fail;refine hpu.o.mono ?_;rintro e w6⟨f6,d6,o6,rfl,nT⟩;have gA:=aa (gO b9.o nT (Wm b9.o.1.rl b9.o.1.jI.held.aX.keys b9.o.1.nm.xu b9.o.1.nm.ud (U++aY es v) f6) (by grind [Hid.out,gl]));have aaG:=aa (ae4.o.moved nT);have ae6:=aa (ae5.o.moved nT);clear nT hpu b9 aaF ae4 ae5;obtain⟨fd,Td⟩:=gA.o.1.rl.d;have hpd:=aa (gA.o.1.put HW gA.o.1.sd gA.o.1.od Td aaG.o.1 (fun b hb=>(aaG.o.2 b hb).2) ae (by grind [Hid.out]));unfold jE ptrTo at hpd;clear Td;go_wp2_with fail;refine hpd.o.mono ?_;rintro e w7⟨f7,d7,o7,rfl,tC⟩;have jU:=aa (gO gA.o tC (Wn gA.o.1.rl gA.o.1.jI.held.aX.keys gA.o.1.nm.xd gA.o.1.nm.ud (D++fC es v) f7) (by grind [Hid.out,gl]));have aaH:=aa (ae6.o.moved tC);clear tC hpd gA aaG ae6;obtain⟨fx,Wo⟩:=jU.o.1.rl.x;have hpx:=aa (jU.o.1.put HW jU.o.1.sx jU.o.1.ox Wo aaH.o.1 (fun b hb=>(aaH.o.2 b hb).2) ae (by grind [Hid.out]));unfold jE ptrTo at hpx;clear Wo;go_wp2_with fail;refine hpx.o.mono ?_;rintro e w8⟨f8,d8,o8,rfl,MH⟩;have Wp:Hid (need L0+eN (R++iJ es S v)+eN (U++aY es v)+eN (D++fC es v)<=131072):=aa (by grind [Hid.out,gl]);have jG:=aa (gO jU.o MH (Nc jU.o.1.rl jU.o.1.jI.held.aX.keys jU.o.1.nm.xu jU.o.1.nm.xd (R++iJ es S v) f8) Wp.o);clear MH hpx jU aaH;generalize aS (aS (aS L nU (aw (U++aY es v) f6)) nD (aw (D++fC es v) f7)) nX (aw (R++iJ es S v) f8)=L8 at *;generalize R++iJ es S v=R8 at *;generalize U++aY es v=U8 at *;generalize D++fC es v=D8 at *;obtain⟨y,hy⟩:∃y,vs[v]? = some y:=⟨_,List.getElem?_eq_getElem (by have:=HVN.o;have:=jG.o.1.len;omega)⟩;have HY:=aa hy;obtain⟨pp,mz⟩:∃p,p=v*3:=⟨_,rfl⟩;have HPP:=aa mz;obtain⟨n1,-⟩:=jG.o.1.gne;have n2:=HPG.o;have hvn:=HVN.o;clear hy mz;obtain⟨C,hC⟩:∃C:World->Prop,C=fun W=>∃r l,(eA w0 W pb db n o8 d8 L0 L8 gb gen N ob ib vb es rb mb g vk done x5 S nX nU nD xb ub eb (.slice wa was.length wk) was R8 U8 D8 (vs.set v ⟨r,l,y.g⟩) base/\W.heap[pc]? = some (.cells #[.pointer (some ⟨rb,0,none⟩)] 130)/\o8 pc=none/\au (·=g) n pb db w o d W o8 d8 L8):=⟨_,rfl⟩;have HC:=aa hC;have F:Hid (∀W,C W->W.cell? ⟨pc,0,none⟩=some (.pointer (some ⟨rb,0,none⟩))/\W.cell? ⟨rb,2,none⟩=some (.int .i64 (gen:Int))/\W.cell? ⟨rb,3,none⟩=some (.int .u32 (done:Int))/\W.cell? ⟨rb,6,none⟩=some (.slice (some ⟨g,0,none⟩) N vk)):=aa (fun W hw=>by
  rw[HC.o]at hw;obtain⟨r,l,hs⟩:=hw;obtain⟨-,-,h2,h3,-,-,h6,-⟩:=hs.1.Jq.cells;exact⟨by rw[aq hs.2.1];rfl,h2,h3,h6⟩)
 have HLV:Hid (v<vs.length):=aa (aM HY.o);have G:Hid (∀W,C W->(∃r l,W.cell? ⟨g,pp,none⟩=some (.int .u32 ((r:UInt32).toNat:Int))/\W.cell? ⟨g,pp+1,none⟩=some (.int .u32 ((l:UInt32).toNat:Int))/\eA w0 W pb db n o8 d8 L0 L8 gb gen N ob ib vb es rb mb g vk done x5 S nX nU nD xb ub eb (.slice wa was.length wk) was R8 U8 D8 (vs.set v ⟨r,l,y.g⟩) base/\W.heap[pc]? = some (.cells #[.pointer (some ⟨rb,0,none⟩)] 130)/\o8 pc=none/\au (·=g) n pb db w o d W o8 d8 L8)/\W.frozen? ⟨g,pp,none⟩=false/\W.frozen? ⟨g,pp+1,none⟩=false):=aa (fun W hw=>by
  rw[HC.o]at hw;obtain⟨r,l,hs⟩:=hw;have hrow:=hs.1.row;rw[<- hs.1.len]at hrow;obtain⟨q0,q1,-⟩:=jD hrow (List.getElem?_set_self HLV.o);grind [Hid.out,World.ownsRow.frozenAt])
 have ST:Hid (∀W,C W->C (W.setCell ⟨g,pp,none⟩ (.int .u32 (RK.toNat:Int)))/\C (W.setCell ⟨g,pp+1,none⟩ (.int .u32 (LV.toNat:Int)))):=aa (fun W hw=>by
  rw[HC.o]at hw ⊢;obtain⟨r,l,hs⟩:=hw;have hg:=List.getElem?_set_self (a:=⟨r,l,y.g⟩) HLV.o;have h1:=zi hs HPG.o pp (.int .u32 (RK.toNat:Int)) (by rw[HPP.o];exact Jo RK hg) ah;have h2:=zi hs HPG.o (pp+1) (.int .u32 (LV.toNat:Int)) (by rw[HPP.o];exact yz LV hg) ah;grind [List.set_set])
 have UR:Hid (C w8.drew):=aa (by
  have h1:=gO jG.o (au.aW jG.o.1.jI.held.aX aj.drew) jG.o.1.rl Wp.o;rw[HC.o];refine⟨y.r,y.l,?_⟩;rw[show vs.set v ⟨y.r,y.l,y.g⟩=vs from Pm HY.o];exact h1)
 have Ws:Hid (∀W,C W->W.cell? ⟨g,pp,none⟩=some (.int .u32 (RK.toNat:Int))->W.cell? ⟨g,pp+1,none⟩=some (.int .u32 (LV.toNat:Int))->(eA w0 W pb db n o8 d8 L0 L8 gb gen N ob ib vb es rb mb g vk done x5 S nX nU nD xb ub eb (.slice wa was.length wk) was R8 U8 D8 (vs.modify v fun x=>⟨RK,LV,x.g⟩) base/\W.heap[pc]? = some (.cells #[.pointer (some ⟨rb,0,none⟩)] 130)/\o8 pc=none/\au (·=g) n pb db w o d W o8 d8 L8)):=aa (fun W hw h1 h2=>by
  obtain⟨⟨r,l,q0,q1,hs⟩,-⟩:=G.o W hw;rw[h1]at q0;rw[h2]at q1;have e1:r=RK:=UInt32.toNat_inj.1 (by grind);have e2:l=LV:=UInt32.toNat_inj.1 (by grind);grind [Bn,Hid.out])
 obtain⟨z1,z2,z3,z4,z5⟩:=HWR.o;clear hC jG HY;go_wp2_with fail;refine CQ C (fun q=>match q with
  |0=>.pointer (some ⟨rb,0,none⟩) | 1=>.pointer (some ⟨rb,0,none⟩) | 2=>.pointer (some ⟨rb,6,none⟩) | 3=>.slice (some ⟨g,0,none⟩) N vk | 4=>.int .u32 (v:Int)
  |5=>.pointer (some ⟨rb,0,none⟩) | 6=>.pointer (some ⟨rb,0,none⟩) | 7=>.pointer (some ⟨rb,6,none⟩) | 8=>.slice (some ⟨g,0,none⟩) N vk | 9=>.int .u32 (v:Int)
  |10=>.pointer (some ⟨rb,0,none⟩) | 11=>.pointer (some ⟨rb,0,none⟩) | 12=>.pointer (some ⟨rb,3,none⟩) | 13=>.int .u32 (done:Int) | 14=>.int .i64 (i:Int) | 15=>.int .u32 (i:Int) | 16=>.int .u32 (RK.toNat:Int)
  |17=>.pointer (some ⟨rb,0,none⟩) | 18=>.pointer (some ⟨rb,0,none⟩) | 19=>.pointer (some ⟨rb,2,none⟩) | 20=>.int .i64 (gen:Int) | 21=>.int .i64 ((gen:Int)+1) | 22=>.int .u32 (LV.toNat:Int)
  |23=>.pointer (some ⟨g,pp,none⟩) | 24=>.pointer (some ⟨g,pp,none⟩) | 26=>.pointer (some ⟨g,pp,none⟩) | 27=>.pointer (some ⟨g,pp+1,none⟩) | _=>undef)
  (fun q W=>match q with | 25=>W.cell? ⟨g,pp,none⟩=some (.int .u32 (RK.toNat:Int)) | 28=>W.cell? ⟨g,pp+1,none⟩=some (.int .u32 (LV.toNat:Int)) | _=>True) (by rfl) (by rfl) (by rfl) UR.o ?_ ?_
 ·intro j oo ho a W hW hd;obtain⟨f0,f2,f3,f6⟩:=F.o W hW;obtain⟨⟨r,l,g0,g1,-⟩,Yh,fr1⟩:=G.o W hW;match j,ho with
  |0,ho=>cases ho;have h7:=hd.old 7 rfl rfl;exact cq hW trivial (by go_simp)
  |1,ho=>cases ho;have d0:=hd.get 0 rfl rfl rfl;exact cq hW trivial (by go_simp)
  |2,ho=>cases ho;have d1:=hd.get 1 rfl rfl rfl;exact cq hW trivial (by go_simp)
  |3,ho=>cases ho;have d2:=hd.get 2 rfl rfl rfl;exact cq hW trivial (by go_simp)
  |4,ho=>cases ho;have h2:=hd.old 2 rfl rfl;exact cq hW trivial (by go_simp)
  |5,ho=>cases ho;have h7:=hd.old 7 rfl rfl;exact cq hW trivial (by go_simp)
  |6,ho=>cases ho;have d5:=hd.get 5 rfl rfl rfl;exact cq hW trivial (by go_simp)
  |7,ho=>cases ho;have d6:=hd.get 6 rfl rfl rfl;exact cq hW trivial (by go_simp)
  |8,ho=>cases ho;have d7:=hd.get 7 rfl rfl rfl;exact cq hW trivial (by go_simp)
  |9,ho=>cases ho;have h2:=hd.old 2 rfl rfl;exact cq hW trivial (by go_simp)
  |10,ho=>cases ho;have h7:=hd.old 7 rfl rfl;exact cq hW trivial (by go_simp)
  |11,ho=>cases ho;have d10:=hd.get 10 rfl rfl rfl;exact cq hW trivial (by go_simp)
  |12,ho=>cases ho;have d11:=hd.get 11 rfl rfl rfl;exact cq hW trivial (by go_simp)
  |13,ho=>cases ho;have d12:=hd.get 12 rfl rfl rfl;exact cq hW trivial (by go_simp)
  |14,ho=>cases ho;have h1:=hd.old 1 rfl rfl;exact cq hW trivial (by go_simp)
  |15,ho=>cases ho;have d14:=hd.get 14 rfl rfl rfl;exact cq hW trivial (by go_simp)
  |16,ho=>cases ho;have d13:=hd.get 13 rfl rfl rfl;have d15:=hd.get 15 rfl rfl rfl;exact cq hW trivial (by go_simp)
  |17,ho=>cases ho;have h7:=hd.old 7 rfl rfl;exact cq hW trivial (by go_simp)
  |18,ho=>cases ho;have d17:=hd.get 17 rfl rfl rfl;exact cq hW trivial (by go_simp)
  |19,ho=>cases ho;have d18:=hd.get 18 rfl rfl rfl;exact cq hW trivial (by go_simp)
  |20,ho=>cases ho;have d19:=hd.get 19 rfl rfl rfl;exact cq hW trivial (by go_simp)
  |21,ho=>cases ho;have d20:=hd.get 20 rfl rfl rfl;exact cq hW trivial (by go_simp)
  |22,ho=>cases ho;have d21:=hd.get 21 rfl rfl rfl;exact cq hW trivial (by go_simp)
  |23,ho=>cases ho;have e:=HPP.o.symm;have d3:=hd.get 3 rfl rfl rfl;have d4:=hd.get 4 rfl rfl rfl;exact cq hW trivial (by go_simp)
  |24,ho=>cases ho;have d23:=hd.get 23 rfl rfl rfl;exact cq hW trivial (by go_simp)
  |25,ho=>
    cases ho;have d24:=hd.get 24 rfl rfl rfl;have d16:=hd.get 16 rfl rfl rfl;refine⟨W.setCell ⟨g,pp,none⟩ (.int .u32 (RK.toNat:Int)),.inr ⟨rfl,by go_simp⟩,(ST.o W hW).1,(by dsimp only;go_simp),fun j hj=>?_⟩
    dsimp only at hj ⊢;split
    ·go_simp
    ·clear g0 g1;go_simp;exact hj
    simp
  |26,ho=>cases ho;have e:=HPP.o.symm;have d8:=hd.get 8 rfl rfl rfl;have d9:=hd.get 9 rfl rfl rfl;exact cq hW trivial (by go_simp)
  |27,ho=>cases ho;have d26:=hd.get 26 rfl rfl rfl;exact cq hW trivial (by go_simp)
  |28,ho=>
    cases ho;have d27:=hd.get 27 rfl rfl rfl;have d22:=hd.get 22 rfl rfl rfl;refine⟨W.setCell ⟨g,pp+1,none⟩ (.int .u32 (LV.toNat:Int)),.inr ⟨rfl,by go_simp⟩,(ST.o W hW).2,(by dsimp only;go_simp),fun j hj=>?_⟩
    dsimp only at hj ⊢;split
    ·clear g0 g1;go_simp;exact hj
    ·go_simp
    simp
  |_+29,ho=>cases ho
 ·intro W9 hW9 hD;have Bc:=aa (Ws.o W9 hW9 (hD 25 af) (hD 28 af));clear hW9 hD Ws UR ST G F HC HLV n1 n2 hvn z1 z2 z3 z4 z5;simp only[Bo];go_simp;have c0:W9.cell? ⟨pc,0,none⟩=some (.pointer (some ⟨rb,0,none⟩)):=by rw[aq Bc.o.2.1];rfl
  have P3:=aa (I6 HW Bc.o.1.jI v HVN.o Bc.o.1.Jq rfl Bc.o.1.of.free);unfold Bd ptrTo at P3;go_wp2_with fail;refine P3.o.mono ?_;rintro e Wt⟨nv,d12,Pp,rfl,Jr,aaI,akC⟩;obtain⟨na,nk,rfl⟩:=az aaI;have xe:=aa (gO Bc.o Jr Bc.o.1.rl Wp.o);obtain⟨K,hK⟩:∃K,K=(cV es v).length:=⟨_,rfl⟩;have HKL:Hid (K=(cV es v).length/\K<2147483648):=aa ⟨hK,by grind [Be,np,Hid.out]⟩;have HNR:Hid (bF Wt W9.heap.size (.slice na K nk) (cV es v)/\∀b,(Value.slice na K nk).ownBlock=some b->b≠g):=aa ⟨by grind,fun b hb e=>by
   have h1:=aF aaI b (by grind);have h2:=(aL Bc.o.1.row g rfl).1;omega⟩
  rw[<- hK];clear Jr aaI akC P3 Bc c0 hK;obtain⟨zv,hzv⟩:∃z,was[v]? = some z:=⟨_,List.getElem?_eq_getElem (by have:=HVN.o;have:=xe.o.1.Pk;omega)⟩;have HZV:=aa hzv;clear hzv;obtain⟨lv,hlv⟩:∃x,x=zv.l+1:=⟨_,rfl⟩;have akD:=aa hlv;clear hlv;have yY:Hid ((eA w0 Wt pb db n Pp d12 L0 L8 gb gen N ob ib vb es rb mb g vk done x5 S nX nU nD xb ub eb (.slice wa was.length wk) was R8 U8 D8 (((cV es v).take 0).foldl (kF lv) (vs.modify v fun x=>⟨RK,LV,x.g⟩)) base/\Wt.heap[pc]? = some (.cells #[.pointer (some ⟨rb,0,none⟩)] 130)/\Pp pc=none/\au (·=g) n pb db w o d Wt Pp d12 L8)/\bF Wt W9.heap.size (.slice na K nk) (cV es v)):=aa ⟨xe.o,HNR.o.1⟩;clear xe;generalize W9.heap.size=bn at *;go_wp2_with fail;go_loopw [125] (fun vi wr=>∃k:Nat,vi=.int .i64 (k:Int)/\k<=K/\Hid ((eA w0 wr pb db n Pp d12 L0 L8 gb gen N ob ib vb es rb mb g vk done x5 S nX nU nD xb ub eb (.slice wa was.length wk) was R8 U8 D8 (((cV es v).take k).foldl (kF lv) (vs.modify v fun x=>⟨RK,LV,x.g⟩)) base/\wr.heap[pc]? = some (.cells #[.pointer (some ⟨rb,0,none⟩)] 130)/\Pp pc=none/\au (·=g) n pb db w o d wr Pp d12 L8)/\bF wr bn (.slice na K nk) (cV es v))) (fun vi _=>K-(intOf vi).toNat)
  case atStart=>grind
  case round=>
   obtain⟨k,rfl,hk,tj⟩:=hrel;clear yY;generalize wr=W14 at *;by_cases hlt:k<K
   ·have FV:(k:Int)<(K:Int):=by omega
    have wk':IntKind.i64.wrap ((k:Int)+1)=((k+1:Nat):Int):=by grind [Hid.out,ax]
    obtain⟨y0,hy0⟩:∃y,(cV es v)[k]? = some y:=⟨_,List.getElem?_eq_getElem (by grind [Hid.out])⟩;have aqQ:y0<N:=M8 tj.out.1.1.jI.ends y0 (List.mem_of_getElem? hy0);have sk:Hid (((cV es v).take (k+1)).foldl (kF lv) (vs.modify v fun x=>⟨RK,LV,x.g⟩)=kF lv (((cV es v).take k).foldl (kF lv) (vs.modify v fun x=>⟨RK,LV,x.g⟩)) y0):=aa (by
     grind [List.take_succ_eq_append_getElem])
    generalize ((cV es v).take k).foldl (kF lv) (vs.modify v fun x=>⟨RK,LV,x.g⟩)=vk0 at *;obtain⟨x0,hx0⟩:∃x,vk0[y0]? = some x:=⟨_,List.getElem?_eq_getElem (by have:=tj.out.1.1.len;omega)⟩;have CE:=aa hx0;obtain⟨ng,rfl⟩:∃g,na=some ⟨g,0,none⟩:=by
     obtain⟨-,⟨h1,h2⟩|⟨g,_,_,h1,_⟩⟩:=tj.out.2
     ·grind
     grind
    have P3:=tj.out.2;rw[HKL.o.1]at P3;have q0:=iy (l:=cV es v) P3 hy0;have hrow:=tj.out.1.1.row;rw[<- tj.out.1.1.len]at hrow;obtain⟨r0,r1,r2⟩:=jD hrow hx0;obtain⟨yy,Z8⟩:∃p,y0*3=p:=⟨_,rfl⟩;have fr2:=World.ownsRow.frozenAt hrow (yy+2);rw[Z8]at r0 r1 r2;have c0:W14.cell? ⟨pc,0,none⟩=some (.pointer (some ⟨rb,0,none⟩)):=by rw[aq tj.out.1.2.1];rfl
    obtain⟨-,-,-,-,-,-,c6,-⟩:=tj.out.1.1.Jq.cells;obtain⟨gg,hgg⟩:∃x,x=x0.g+1:=⟨_,rfl⟩;have zg:((x0.g.toNat:Int)+1)%4294967296=(gg.toNat:Int):=by simp_all
    have HGG:=aa hgg;clear hgg;have TF:=aa (zi tj.out.1 HPG.o (yy+2) (.int .u32 (gg.toNat:Int)) (by rw[<- Z8];exact Jp gg hx0) ah);have X6:Hid (bF (W14.setCell ⟨g,yy+2,none⟩ (.int .u32 (gg.toNat:Int))) bn (.slice (some ⟨ng,0,none⟩) K nk) (cV es v)):=aa (bI tj.out.2 (fun b hb=>Below.heap_setCell _ _ _ _ (HNR.o.2 b hb)));clear P3 hrow hy0 hx0 tj;go_wp2_with fail;clear q0 r0 r1 r2 fr2 c0 c6 zg;generalize W14.setCell ⟨g,yy+2,none⟩ (.int .u32 (gg.toNat:Int))=W15 at *;have aaJ:(vk0.set y0 ⟨x0.r,x0.l,gg⟩)[y0]? = some ⟨x0.r,x0.l,gg⟩:=List.getElem?_set_self (aM CE.o);have hrow:=TF.o.1.row;rw[<- TF.o.1.len]at hrow;obtain⟨-,r1,-⟩:=jD hrow aaJ;rw[Z8]at r1;have fr1:=World.ownsRow.frozenAt hrow (yy+1);obtain⟨wa',wk',hwe,-,-,hwc⟩:=TF.o.1.LW;obtain⟨rfl,-,rfl⟩:wa=wa'/\was.length=was.length/\wk=wk':=by simp_all
    have hvw:v<was.length:=aM HZV.o;obtain⟨wb,wo,rfl,ae7⟩:=hwc.resolve_left ae;obtain⟨-,s1,-⟩:=ae7 v hvw;have ez:was[v]=zv:=(List.getElem?_eq_some_iff.1 HZV.o).2;rw[ez]at s1;obtain⟨lm,hlm⟩:∃x,x=if x0.l<lv then lv else x0.l:=⟨_,rfl⟩;have zl:((zv.l.toNat:Int)+1)%4294967296=(lv.toNat:Int):=by have:=Jn zv.l;rw[akD.o];rfl
    have akH:=aa (TB TF.o HPG.o (yy+1) (.int .u32 (lm.toNat:Int)) (by rw[<- Z8];exact yz lm aaJ) ah Wp.o);have X7:Hid (bF (W15.setCell ⟨g,yy+1,none⟩ (.int .u32 (lm.toNat:Int))).drew bn (.slice (some ⟨ng,0,none⟩) K nk) (cV es v)):=aa (bI X6.o (fun b hb=>by
     show(W15.setCell ⟨g,yy+1,none⟩ (.int .u32 (lm.toNat:Int))).heap[b]? = _;exact Below.heap_setCell _ _ _ _ (HNR.o.2 b hb)))
    have HLM:=aa hlm;clear hrow aaJ hwe hwc ae7 ez hlm TF X6;have HFN:Hid (kF lv vk0 y0=(vk0.set y0 ⟨x0.r,x0.l,gg⟩).set y0 ⟨x0.r,lm,gg⟩):=aa (by
     unfold kF;rw[Bn CE.o,List.set_set,HLM.o,HGG.o])
    by_cases FP:x0.l<lv;case' pos=>
     have ae8:(x0.l.toNat:Int)<(lv.toNat:Int):=by have:=UInt32.lt_iff_toNat_lt.1 FP;omega
     have hmx:max (x0.l.toNat:Int) (lv.toNat:Int)=(lm.toNat:Int):=by rw[HLM.o,if_pos FP];omega
    case' neg=>
     have ae8:¬(x0.l.toNat:Int)<(lv.toNat:Int):=by have:=mt UInt32.lt_iff_toNat_lt.2 FP;omega
     have hmx:max (x0.l.toNat:Int) (lv.toNat:Int)=(lm.toNat:Int):=by rw[HLM.o,if_neg FP];omega
    all_goals
     clear FP;go_wp2_with fail;go_big_region
     clear r1 fr1 s1 zl ae8 hmx hvw;generalize (W15.setCell ⟨g,yy+1,none⟩ (.int .u32 (lm.toNat:Int))).drew=W16 at *;have aqU:Hid ((eA w0 W16 pb db n Pp d12 L0 L8 gb gen N ob ib vb es rb mb g vk done x5 S nX nU nD xb ub eb (.slice (some ⟨wb,wo,none⟩) was.length wk) was R8 U8 D8 (((cV es v).take (k+1)).foldl (kF lv) (vs.modify v fun x=>⟨RK,LV,x.g⟩)) base/\W16.heap[pc]? = some (.cells #[.pointer (some ⟨rb,0,none⟩)] 130)/\Pp pc=none/\au (·=g) n pb db w o d W16 Pp d12 L8)/\bF W16 bn (.slice (some ⟨ng,0,none⟩) K nk) (cV es v)):=aa ⟨by rw[sk.o,HFN.o];assumption,X7.o⟩;clear akH X7 sk HFN HLM HGG;go_wp2;grind [intOf]
   ·have FV:¬(k:Int)<(K:Int):=by omega
    have HQF:Hid (PST (.returned (.int .i64 0)) W14):=aa (by
     have h1:=tj.out.1;rw[List.take_of_length_le (by grind [Hid.out])]at h1;rw[xz.o];refine⟨d12,Pp,L8,rfl,h1.2.2.2,?_⟩;grind [fZ,Hid.out])
    clear tj;go_wp2;assumption
end
end
section
open Go.RowKit Go.Maps
section
variable {w0 w w' W W':World} {pb db n gb gen N ob ib vb rb mb done g vk base Nf:Nat} {o o' gP:ar} {d d' gB:Dsk} {L L' xQ:aD} {es:List aJ} {was:List bW} {ov:Value} {S ch:List Nat}
def xA(w:World)(pb db n:Nat)(o:ar)(d:Dsk)(L:aD)(g gen:Nat)(R U D:List aJ)(vs:List bW)(e:Ending)(w':World):Prop:=
 ∃d' o' L',e=.returned (.int .i64 0)/\au (·=g) n pb db w o d w' o' d' L'/\lz L L' gen R U D vs
theorem Bp(es:List aJ)(h:∀z,z∈S↔z∈ch):gJ es S=gJ es ch:=by
 grind [gJ]
theorem DY(es:List aJ)(v:Nat)(h:∀z,z∈S↔z∈ch):iJ es S v=iJ es ch v:=by
 grind [iJ]
structure Ng(w0 w:World)(pb db n:Nat)(o:ar)(d:Dsk)(L:aD)(gb gen N ob ib vb:Nat)(es:List aJ)(rb mb g vk done:Nat)(ov:Value)(S ch:List Nat)(was:List bW)(base Nf:Nat):Prop where
 jI:fI w0 w pb db n o d L gb gen N ob ib vb es
 Jq:dA w rb pb gb gen done (.map (some mb)) ov (.slice (some ⟨g,0,none⟩) N vk)
 of:qY w0 w o rb gb ob ib vb
 cho:fE w mb S
 oq:o mb=none
 ord:bF w Nf ov ch
 akI:∀b,ov.ownBlock=some b->o b=none
 row:dP w base (.slice (some ⟨g,0,none⟩) N vk) was
 len:was.length=N
 og:o g=none
 rg:rb<g
 gm:g<mb
 go:∀b,ov.ownBlock=some b->g<b
 same:∀z,z∈S↔z∈ch
 low:∀v∈ch,v<N
 ne:ch≠[]
theorem TG{nX nU nD:Name}(xu:nX≠nU)(xd:nX≠nD)(ud:nU≠nD):RL L (aS (aS (aS L nX (aw [] true)) nU (aw [] true)) nD (aw [] true)) nX nU nD [] [] []:=by
 refine⟨⟨true,?_⟩,⟨true,?_⟩,⟨true,?_⟩,fun y g1 g2 g3=>?_,?_⟩
 ·grind [ay]
 ·grind [ay]
 ·grind [ay]
 ·grind [ay]
 ·have e:(aw [] true).need=0:=rfl;grind [cO]
theorem FI{α β:Type}(l:List α)(f:α->List β)(k:Nat):((l.take k).flatMap f).length<=(l.flatMap f).length:=by
 grind [List.take_append_drop]
theorem TH{l:List Nat}{k y:Nat}(h:l[k]? = some y):(l.take (k+1)).zipIdx=(l.take k).zipIdx++[(y,k)]:=by
 grind [List.take_succ_eq_append_getElem]
theorem eH.lt{v:Value}{vs:List bW}(h:eH w v vs)(h0:vs.length≠0):∀b,v.ownBlock=some b->b<w.heap.size:=by
 obtain⟨a,cap,rfl,-,-,h |⟨b,off,rfl,hc⟩⟩:=h
 ·omega
 ·intro x hx;cases hx;exact World.block_lt_of_cell? _ _ (hc 0 ae).1
theorem Bq(HW:aP){m:Nat}(yS:dZ m)(hn:8<=n)(h:Ng w0 w pb db n o d L gb gen N ob ib vb es rb mb g vk done ov S ch was base Nf)(TE:gen+1<100)(fO:∀c,aB L (aG c (gen+1))=none)(BQ:∀k,aB L (dz k)=none)(hm:(fM es ch).length<=m)(hq:need L+24*((fM es ch).length+(wY es ch).length+(fR es ch).length)+8*es.length+4*N+8<=131072)(hdone:done+ch.length<4294967296)(wZ:∀v,v<N->(fC es v).length*(aY es v).length<=100000) :
 Calls prog 65 #[ptrTo rb] w (xA w pb db n o d L g gen (fM es ch) (wY es ch) (fR es ch) (cn es was done gen ch)):=by
 have H:=aa h;have yI:Hid (gen+1<100):=aa TE;have HF:=aa fO;have HNT:=aa BQ;have Ob:=aa hm;have HQ:=aa hq;have S5:=aa hdone;have HDG:=aa wZ;have ne:∀{c c':UInt8},c≠c'->aG c (gen+1)≠aG c' (gen+1):=fun h=>iw h _ _;have ng:∀(c c':UInt8),aG c (gen+1)≠aG c' gen:=fun c c'=>bm ae;have Ba:Hid (RNm gen (aG 120 (gen+1)) (aG 117 (gen+1)) (aG 100 (gen+1))):=aa ⟨ne af,ne af,ne af,ng _ _,ng _ _,ng _ _,ng _ _,ng _ _,ng _ _⟩;have Wu:Hid (∀c:UInt8,jd c=true->bM (aG c (gen+1))=true):=aa (fun c hc=>uL c hc ae);have GI:Hid (∀(c:UInt8)W,Calls prog 18 #[.int .u8 (c.toNat:Int),.int .i64 ((gen+1:Nat):Int)] W fun e w'=>e=.returned (.string (aG c (gen+1)))/\Below W.heap.size W w'):=aa (fun c W=>cX c (gen+1) (o:=fun _=>Option.none) (.inl TE));have wg:IntKind.i64.wrap ((gen:Int)+1)=((gen+1:Nat):Int):=by grind [ax]
 have Js:Hid (∀W o' d' L',au (fun _=>False) n pb db w o d W o' d' L'->Held w0 W pb db n o' d' L'/\dA W rb pb gb gen done (.map (some mb)) ov (.slice (some ⟨g,0,none⟩) N vk)/\o' rb=none):=aa (fun W o' d' L' qa=>⟨h.jI.held.moved qa (fun _ e=>e.elim),h.Jq.moved h.of.free qa,qa.free h.of.lt h.of.free⟩);obtain⟨PST,mq⟩:∃P,P=xA w pb db n o d L g gen (fM es ch) (wY es ch) (fR es ch) (cn es was done gen ch):=⟨_,rfl⟩;have xz:=aa mq;rw[<- mq];obtain⟨c0,-,c2,-⟩:=h.Jq.cells;clear h TE fO BQ hm hq hdone wZ mq ne ng;obtain⟨nX,hX⟩:∃x,x=aG 120 (gen+1):=⟨_,rfl⟩;obtain⟨nU,hU⟩:∃x,x=aG 117 (gen+1):=⟨_,rfl⟩;obtain⟨nD,hD⟩:∃x,x=aG 100 (gen+1):=⟨_,rfl⟩;have Ur:=aa (show nX=aG 120 (gen+1)/\nU=aG 117 (gen+1)/\nD=aG 100 (gen+1) from⟨hX,hU,hD⟩);rw[<- hX,<- hU,<- hD]at Ba;have JK:Hid (bM nX=true/\bM nU=true/\bM nD=true):=aa ⟨by rw[hX];exact Wu.o 120 af,by rw[hU];exact Wu.o 117 af,by rw[hD];exact Wu.o 100 af⟩;have HFX:Hid (aB L nX=none/\aB L nU=none/\aB L nD=none):=aa ⟨by grind [Hid.out],by grind [Hid.out],by grind [Hid.out]⟩;have BF:=aa (GI.o 120);have Uh:=aa (GI.o 117);have hn3:=aa (GI.o 100);rw[<- hX]at BF;rw[<- hU]at Uh;rw[<- hD]at hn3;clear hX hU hD GI Wu;unfold ptrTo at *;go_enter func65,ntmps65;go_wp2_with fail;refine(BF.o _).mono ?_;rintro e w1⟨rfl,hb1⟩;have eu:Hid (au (fun _=>False) n pb db w o d w1 o d L):=aa (au.aW H.o.jI.held.aX hb1);clear hb1 BF c0 c2;have nH:=aa (kT (Js.o _ _ _ _ eu.o).1 (Js.o _ _ _ _ eu.o).2.1 (Js.o _ _ _ _ eu.o).2.2 JK.o.1 HFX.o.1);unfold kH ptrTo at nH;go_wp2_with fail;refine nH.o.mono ?_;rintro e w2⟨xb,d2,o2,rfl,cQ,hsx,hxg,hox⟩;have mE:Hid (aC w2 xb pb nX 20/\o2 xb=none/\w.heap.size<=xb):=aa ⟨hsx,hox,Nat.le_trans eu.o.size hxg⟩;have eB:=aa (eu.o.trans cQ (fun _ _ e=>e));obtain⟨-,-,c2,-⟩:=(Js.o _ _ _ _ eB.o).2.1.cells;clear cQ hsx hxg hox nH eu;go_wp2_with fail;refine(Uh.o _).mono ?_;rintro e w3⟨rfl,hb3⟩;have eC:=aa (eB.o.below hb3);have iu:Hid (aC w3 xb pb nX 20/\o2 xb=none):=aa ⟨mE.o.1.below hb3,mE.o.2.1⟩;clear hb3 Uh c2;have nH:=aa (kT (Js.o _ _ _ _ eC.o).1 (Js.o _ _ _ _ eC.o).2.1 (Js.o _ _ _ _ eC.o).2.2 JK.o.2.1 (by rw[ay,if_neg Ba.o.xu.symm];exact HFX.o.2.1));unfold kH ptrTo at nH;go_wp2_with fail;refine nH.o.mono ?_;rintro e w4⟨ub,d4,o4,rfl,eG,hsu,hug,hou⟩;have xY:Hid ((aC w4 xb pb nX 20/\o4 xb=none)/\(aC w4 ub pb nU 20/\o4 ub=none/\w.heap.size<=ub)):=aa ⟨⟨iu.o.1.moved eG iu.o.2 (fun e=>e),eG.free iu.o.1.lt iu.o.2⟩,hsu,hou,Nat.le_trans eC.o.size hug⟩;have gp:=aa (eC.o.trans eG (fun _ _ e=>e));obtain⟨-,-,c2,-⟩:=(Js.o _ _ _ _ gp.o).2.1.cells;clear eG hsu hug hou nH eC eB iu;go_wp2_with fail;refine(hn3.o _).mono ?_;rintro e w5⟨rfl,oh⟩;have lF:=aa (gp.o.below oh);have Bz:Hid ((aC w5 xb pb nX 20/\o4 xb=none)/\(aC w5 ub pb nU 20/\o4 ub=none)):=aa ⟨⟨xY.o.1.1.below oh,xY.o.1.2⟩,xY.o.2.1.below oh,xY.o.2.2.1⟩;clear oh hn3 c2;have nH:=aa (kT (Js.o _ _ _ _ lF.o).1 (Js.o _ _ _ _ lF.o).2.1 (Js.o _ _ _ _ lF.o).2.2 JK.o.2.2 (by rw[ay,if_neg Ba.o.ud.symm,ay,if_neg Ba.o.xd.symm];exact HFX.o.2.2));unfold kH ptrTo at nH;go_wp2_with fail;refine nH.o.mono ?_;rintro e w6⟨eb,d6,o6,rfl,nT,hse,heg,hoe⟩;have nS:Hid ((aC w6 xb pb nX 20/\o6 xb=none/\w.heap.size<=xb)/\(aC w6 ub pb nU 20/\o6 ub=none/\w.heap.size<=ub)/\aC w6 eb pb nD 20/\o6 eb=none/\w.heap.size<=eb):=aa ⟨⟨Bz.o.1.1.moved nT Bz.o.1.2 (fun e=>e),nT.free Bz.o.1.1.lt Bz.o.1.2,mE.o.2.2⟩,⟨Bz.o.2.1.moved nT Bz.o.2.2 (fun e=>e),nT.free Bz.o.2.1.lt Bz.o.2.2,xY.o.2.2.2⟩,hse,hoe,Nat.le_trans lF.o.size heg⟩;have ye:=aa (lF.o.trans nT (fun _ _ e=>e));have TI:=aa (TG (L:=L) Ba.o.xu Ba.o.xd Ba.o.ud);generalize hL6:aS (aS (aS L nX (aw [] true)) nU (aw [] true)) nD (aw [] true)=L6 at *;clear nT hse heg hoe nH lF gp Bz xY mE hL6;have LS:Hid (∀W o' d' L' R U D,au (fun _=>False) n pb db w o d W o' d' L'->RL L L' nX nU nD R U D->need L'<=131072->fI w0 W pb db n o' d' L' gb gen N ob ib vb es):=aa (fun W o' d' L' R U D qa hl hq=>tv H.o.jI qa (hl.sK _ Ba.o.x1.symm Ba.o.u1.symm Ba.o.d1.symm) (hl.sK _ Ba.o.x2.symm Ba.o.u2.symm Ba.o.d2.symm) hq);have HN6:Hid (need L6<=need L):=aa (by have:=TI.o.need;exact this);obtain⟨fx,Wo⟩:=TI.o.x;have hst:=aa (CP HW (LS.o _ _ _ _ _ _ _ ye.o TI.o (by grind [Hid.out])) (Js.o _ _ _ _ ye.o).2.1 (Js.o _ _ _ _ ye.o).2.2 (H.o.cho.kept (ye.o.block H.o.cho.lt H.o.oq (fun e=>e))) (ye.o.free H.o.cho.lt H.o.oq) nS.o.1.1 nS.o.1.2.1 Wo Ba.o.x1 Ba.o.x2 (by grind [Hid.out]));unfold jE ptrTo at hst;clear Wo;go_wp2_with fail;refine hst.o.mono ?_;rintro e w7⟨f7,d7,o7,rfl,tC⟩;have Wv:=aa (Nc TI.o ye.o.aX.keys Ba.o.xu Ba.o.xd (gJ es S) f7);have lq:Hid ((aC w7 xb pb nX 20/\o7 xb=none)/\(aC w7 ub pb nU 20/\o7 ub=none)/\aC w7 eb pb nD 20/\o7 eb=none):=aa ⟨⟨nS.o.1.1.moved tC nS.o.1.2.1 (fun e=>e),tC.free nS.o.1.1.lt nS.o.1.2.1⟩,⟨nS.o.2.1.1.moved tC nS.o.2.1.2.1 (fun e=>e),tC.free nS.o.2.1.1.lt nS.o.2.1.2.1⟩,nS.o.2.2.1.moved tC nS.o.2.2.2.1 (fun e=>e),tC.free nS.o.2.2.1.lt nS.o.2.2.2.1⟩;have BK:=aa (ye.o.trans tC (fun _ _ e=>e));generalize aS L6 nX (aw (gJ es S) f7)=L7 at *;clear tC hst ye TI HN6;obtain⟨oa,ok,rfl⟩:=az H.o.ord;obtain⟨M,hM'⟩:∃M,M=ch.length:=⟨_,rfl⟩;have Wk:=aa hM';clear hM';obtain⟨-,-,-,-,-,-,c6,-⟩:=(Js.o _ _ _ _ BK.o).2.1.cells;have akJ:=(Js.o _ _ _ _ BK.o).2.1.lt;have X8:Hid (dP w7 base (.slice (some ⟨g,0,none⟩) N vk) was):=aa (BK.o.ownsRow H.o.row (fun b hb=>by cases hb;exact⟨H.o.og,fun e=>e⟩));have afb:Hid (P1 w7 (.slice (some ⟨g,0,none⟩) N vk) was):=aa (kf X8.o).1.rd;have HWL:Hid (was.length<=1000):=aa (by rw[H.o.len];exact H.o.jI.top);go_wp2_with (refine kW (w:=w7) (by rfl) _ _ rfl rfl _ was rfl afb.o (by grind [Hid.out]) (fun v8 w8 HVs HVo zh=>?_);have c5:w8.cell? ⟨rb,5,none⟩=some (.slice oa M ok):=(by rw[Wk.o];exact(Js.o _ _ _ _ (BK.o.below zh.out)).2.1.cells.2.2.2.2.2.1));have hM:=Wk.o;obtain⟨wa,wk,rfl,-⟩:=HVs.out;have rY:=aa (BK.o.below zh.out);have kV:Hid (was.length≠0):=aa (by
  cases e:ch with
  |nil=>exact absurd e H.o.ne
  |cons v l=>have:=H.o.low v (by grind);rw[H.o.len];omega)
 have HGL:Hid (g<w.heap.size/\base<=g):=aa ⟨(aL H.o.row g rfl).1,aF H.o.row g rfl⟩;have jG:Hid (eA w0 w8 pb db n o7 d7 L L7 gb gen N ob ib vb es rb mb g vk done (.slice oa ch.length ok) S nX nU nD xb ub eb (.slice wa was.length wk) was (gJ es S++(ch.take 0).flatMap (iJ es S)) ((ch.take 0).flatMap (aY es)) ((ch.take 0).flatMap (fC es)) (((ch.take 0).zipIdx).foldl (fun vs p=>fZ es was done gen vs p.2 p.1) was) base/\au (·=g) n pb db w o d w8 o7 d7 L7):=aa (by
  obtain⟨g1,g2,g3,g4⟩:=H.o.of.graph;have g5:=H.o.rg;have g6:=H.o.gm;have g7:=HGL.o.1;have g8:=nS.o.1.2.2;have g9:=nS.o.2.1.2.2;have g10:=nS.o.2.2.2.2;have hst:(gJ es S++(ch.take 0).flatMap (iJ es S))=gJ es S:=by simp
  rw[hst];exact⟨{
   jI:=LS.o _ _ _ _ _ _ _ rY.o Wv.o (by have:=Wv.o.need;grind [gl,gJ,cd,Hid.out])
   Jq:=(Js.o _ _ _ _ rY.o).2.1
   of:=H.o.of.moved rY.o
   ch:=H.o.cho.kept (rY.o.block H.o.cho.lt H.o.oq (fun e=>e))
   oq:=rY.o.free H.o.cho.lt H.o.oq
   rl:=Wv.o
   nm:=Ba.o
   sx:=lq.o.1.1.below zh.out
   su:=lq.o.2.1.1.below zh.out
   sd:=lq.o.2.2.1.below zh.out
   ox:=lq.o.1.2
   ou:=lq.o.2.1.2
   od:=lq.o.2.2.2
   LW:=HVs.out
   own:=fun b hb=>⟨eH.lt HVs.out kV.o b hb,BK.o.aX.fresh (HVo.out b hb)⟩
   Pk:=H.o.len
   row:=rY.o.ownsRow H.o.row (fun b hb=>by cases hb;exact⟨H.o.og,fun e=>e⟩)
   len:=H.o.len
   og:=rY.o.free HGL.o.1 H.o.og
   g0:=Nat.le_trans H.o.of.new (Nat.le_of_lt H.o.rg)
   gne:=⟨ae,ae,ae,ae,ae,ae,ae,ae,ae,fun e=>by have:=HVo.out g e;have:=BK.o.size;omega⟩ },rY.o.mono (fun _ _ e=>e.elim)⟩)
 have HM:Hid (M=ch.length/\M<=9223372036854775807):=aa ⟨hM,by
  grind [Hid.out]⟩
 have afc:Hid (∀W o' d' L',au (·=g) n pb db w o d W o' d' L'->bF W Nf (.slice oa M ok) ch):=aa (fun W o' d' L' qa=>by rw[hM];exact qa.ownsRow H.o.ord (fun b hb=>⟨H.o.akI b hb,fun e=>by have:=H.o.go b hb;omega⟩));rw[<- hM]at jG;have HLEN:Hid (∀k,(gJ es S++(ch.take k).flatMap (iJ es S)).length<=(fM es ch).length/\((ch.take k).flatMap (aY es)).length<=(wY es ch).length/\((ch.take k).flatMap (fC es)).length<=(fR es ch).length):=aa (fun k=>by
  refine⟨?_,FI _ _ _,FI _ _ _⟩;have hf:iJ es S=iJ es ch:=funext fun v=>DY es v H.o.same;unfold fM;rw[Bp es H.o.same,hf,List.length_append,List.length_append];grind [FI])
 clear hM Wk c6 akJ HVs HVo zh X8 afb HWL nS lq Wv BK rY kV c5;go_loopw [76] (fun vi wr=>∃(k:Nat)(o':ar)(d':Dsk)(L':aD),vi=.int .i64 (k:Int)/\k<=M/\Hid (eA w0 wr pb db n o' d' L L' gb gen N ob ib vb es rb mb g vk done (.slice oa M ok) S nX nU nD xb ub eb (.slice wa was.length wk) was (gJ es S++(ch.take k).flatMap (iJ es S)) ((ch.take k).flatMap (aY es)) ((ch.take k).flatMap (fC es)) (((ch.take k).zipIdx).foldl (fun vs p=>fZ es was done gen vs p.2 p.1) was) base/\au (·=g) n pb db w o d wr o' d' L')) (fun vi _=>M-(intOf vi).toNat)
 case atStart=>grind
 case round=>
  obtain⟨k,o9,d9,L9,rfl,hk,qg⟩:=hrel;clear jG;generalize wr=W9 at *;by_cases hlt:k<M
  ·have FV:(k:Int)<(M:Int):=by omega
   have wk':IntKind.i64.wrap ((k:Int)+1)=((k+1:Nat):Int):=by grind [Hid.out,ax]
   obtain⟨v,hv⟩:∃v,ch[k]? = some v:=⟨_,List.getElem?_eq_getElem (by grind [Hid.out])⟩;obtain⟨og',rfl⟩:∃g,oa=some ⟨g,0,none⟩:=by
    obtain⟨-,⟨h1,h2⟩|⟨g,_,_,h1,_⟩⟩:=H.o.ord
    ·grind
    grind
   have hrow:=afc.o _ _ _ _ qg.out.2;rw[HM.o.1]at hrow;have q0:=iy (l:=ch) hrow hv;have e1:=rJ (f:=iJ es S) hv;have e2:=rJ (f:=aY es) hv;have e3:=rJ (f:=fC es) hv;have e4:=TH hv;have HE:Hid (gJ es S++(ch.take (k+1)).flatMap (iJ es S)=(gJ es S++(ch.take k).flatMap (iJ es S))++iJ es S v/\(ch.take (k+1)).flatMap (aY es)=(ch.take k).flatMap (aY es)++aY es v/\(ch.take (k+1)).flatMap (fC es)=(ch.take k).flatMap (fC es)++fC es v/\((ch.take (k+1)).zipIdx).foldl (fun vs p=>fZ es was done gen vs p.2 p.1) was=fZ es was done gen (((ch.take k).zipIdx).foldl (fun vs p=>fZ es was done gen vs p.2 p.1) was) k v):=aa ⟨by grind,e2,e3,by grind⟩;have hout:=aa (FH HW qg.out.1 k v (H.o.low v (List.mem_of_getElem? hv)) (by grind [Hid.out]) (by grind [Hid.out]) (by have:=HGL.o;have:=qg.out.2.size;omega) (HDG.o v (H.o.low v (List.mem_of_getElem? hv))) (by
    grind [Hid.out]))
   unfold FB ptrTo at hout;clear hrow hv e1 e2 e3 e4;go_wp2_with fail;refine hout.o.mono ?_;rintro e VE⟨d10,ZX,L10,rfl,AK,akK⟩;have nP:Hid (eA w0 VE pb db n ZX d10 L L10 gb gen N ob ib vb es rb mb g vk done (.slice (some ⟨og',0,none⟩) M ok) S nX nU nD xb ub eb (.slice wa was.length wk) was (gJ es S++(ch.take (k+1)).flatMap (iJ es S)) ((ch.take (k+1)).flatMap (aY es)) ((ch.take (k+1)).flatMap (fC es)) (((ch.take (k+1)).zipIdx).foldl (fun vs p=>fZ es was done gen vs p.2 p.1) was) base/\au (·=g) n pb db w o d VE ZX d10 L10):=aa ⟨by rw[HE.o.1,HE.o.2.1,HE.o.2.2.1,HE.o.2.2.2];omega,qg.out.2.trans AK (fun _ _ e=>e)⟩;clear AK akK hout qg HE q0;go_wp2;go_roundw
   case rel=>grind
   grind [intOf]
  ·have FV:¬(k:Int)<(M:Int):=by omega
   have nP:Hid (eA w0 W9 pb db n o9 d9 L L9 gb gen N ob ib vb es rb mb g vk done (.slice oa M ok) S nX nU nD xb ub eb (.slice wa was.length wk) was (fM es ch) (wY es ch) (fR es ch) (cn es was done gen ch) base/\au (·=g) n pb db w o d W9 o9 d9 L9):=aa (by
    have h1:=qg.out;rw[List.take_of_length_le (by grind [Hid.out]),Bp es H.o.same,show iJ es S=iJ es ch from funext fun v=>DY es v H.o.same]at h1;exact h1)
   clear qg afc LS;have HMK:Hid (∀W o' d',au (fun _=>False) n pb db W9 o9 d9 W o' d' L9->Calls prog 45 #[ptrTo pb,.string nX,.int .i64 ((gen+1:Nat):Int),.slice (some ⟨g,0,none⟩) N vk] W fun e w'=>∃gB gP,e=.returned (.int .i64 0)/\au (fun _=>False) n pb db W9 o9 d9 w' gP gB (fP L9 (gen+1) (fM es ch) (cn es was done gen ch))):=aa (fun W o' d' qa=>by
    have hs:=nP.o.1;obtain⟨fl,Mu⟩:=hs.rl.x;have TD:∀c:UInt8,c≠120->c≠117->c≠100->aB L9 (aG c (gen+1))=none:=fun c h1 h2 h3=>by
     rw[hs.rl.sK _ (by grind [Hid.out,iw]) (by grind [Hid.out,iw]) (by grind [Hid.out,iw]),HF.o c]
    have hrow:=qa.ownsRow hs.row (fun b hb=>by cases hb;grind [eA.og]);have hv:=(kf hrow).1;refine(sy HW yS qa.aX hn (gen:=gen+1) (.inl yI.o) Mu (by grind [Hid.out,rH]) Ob.o (TD 101 af af af) (TD 114 af af af) (TD 118 af af af) (fun k=>by
     rw[hs.rl.sK _ (by grind [Hid.out,bq]) (by grind [Hid.out,bq]) (by grind [Hid.out,bq]),HNT.o k]) hv (fun b hb=>by cases hb;exact qa.free (aL hs.row g rfl).1 hs.og) (by rw[hs.len];have:=hs.jI.top;omega)).mono ?_
    rintro e w'⟨c,gB,gP,xQ,rfl,cQ,-,hc⟩;have hh:=hs.jI.held.moved qa (fun _ e=>e.elim);have h0:c=0:=hh.fine cQ (hc.imp (fun h=>h.1) id) (by
     have g1:=hs.rl.need;grind [gl,eA.len,Hid.out])
    subst h0;rcases hc with⟨_,rfl⟩| hc
    ·exact⟨gB,gP,rfl,qa.trans cQ (fun _ _ e=>e)⟩
    grind [ju.ne])
   have Ww:Hid (∀W o' d' L',au (fun _=>False) n pb db W9 o9 d9 W o' d' L'->W.cell? ⟨rb,0,none⟩=some (.pointer (some ⟨pb,0,none⟩))/\W.cell? ⟨rb,2,none⟩=some (.int .i64 (gen:Int))/\W.cell? ⟨rb,6,none⟩=some (.slice (some ⟨g,0,none⟩) N vk)):=aa (fun W o' d' L' qa=>by
    obtain⟨h0,-,h2,-,-,-,h6,-⟩:=(nP.o.1.Jq.moved nP.o.1.of.free qa).cells;exact⟨h0,h2,h6⟩)
   have sX:Hid (∀c:UInt8,c=120\/c=117\/c=100->aG c (gen+1)≠aG 101 (gen+1)/\aG c (gen+1)≠aG 114 (gen+1)/\aG c (gen+1)≠aG 118 (gen+1)):=aa (by
    grind [iw])
   obtain⟨TJ,aaL⟩:∃l,l=fP L9 (gen+1) (fM es ch) (cn es was done gen ch):=⟨_,rfl⟩;rw[<- aaL]at HMK;have akM:Hid (need TJ<=need L+12*(fM es ch).length+4*(wY es ch).length+4*(fR es ch).length+4*N):=aa (by
    have g1:=nP.o.1.rl.need;have g2:=gl (fM es ch);have g3:=gl (wY es ch);have g4:=gl (fR es ch);have g5:=nP.o.1.len;grind [AU])
   have Wy:Hid ((∃f,aB TJ nX=some (aw (fM es ch) f))/\(∃f,aB TJ nU=some (aw (wY es ch) f))/\∃f,aB TJ nD=some (aw (fR es ch) f)):=aa (by
    have hs:=nP.o.1.rl;grind [RL.x,Hid.out,rK,RL.u,RL.d])
   have afd:Hid (∀W o' d',au (fun _=>False) n pb db W9 o9 d9 W o' d' TJ->Calls prog 79 #[ptrTo pb,.string nU] W fun e w'=>∃gB gP,e=.returned (.int .i64 0)/\au (fun _=>False) n pb db W9 o9 d9 w' gP gB (aS TJ nU (aw (wY es ch) true))):=aa (fun W o' d' qa=>by
    obtain⟨f,hf⟩:=Wy.o.2.1;refine(pF HW qa.aX hf).mono ?_;rintro e w'⟨c,gB,gP,rfl,cQ,pV⟩;have h0:c=0:=(nP.o.1.jI.held.moved qa (fun _ e=>e.elim)).oH cQ pV (by grind [Hid.out]);subst h0;exact⟨gB,gP,rfl,qa.trans cQ (fun _ _ e=>e)⟩)
   have afe:Hid (∀W o' d',au (fun _=>False) n pb db W9 o9 d9 W o' d' (aS TJ nU (aw (wY es ch) true))->Calls prog 79 #[ptrTo pb,.string nD] W fun e w'=>∃gB gP,e=.returned (.int .i64 0)/\au (fun _=>False) n pb db W9 o9 d9 w' gP gB (aS (aS TJ nU (aw (wY es ch) true)) nD (aw (fR es ch) true))):=aa (fun W o' d' qa=>by
    obtain⟨f,hf⟩:=Wy.o.2.2;refine(pF HW qa.aX (by rw[ay,if_neg Ba.o.ud.symm];exact hf)).mono ?_;rintro e w'⟨c,gB,gP,rfl,cQ,pV⟩;have h0:c=0:=(nP.o.1.jI.held.moved qa (fun _ e=>e.elim)).oH cQ pV (by
     grind [cO,cH,Hid.out])
    subst h0;exact⟨gB,gP,rfl,qa.trans cQ (fun _ _ e=>e)⟩)
   have akN:Hid (∀W o' d',au (fun _=>False) n pb db W9 o9 d9 W o' d' (aS (aS TJ nU (aw (wY es ch) true)) nD (aw (fR es ch) true))->Calls prog 62 #[ptrTo pb,.string nX] W fun e w'=>∃gB gP,e=.returned (.int .i64 0)/\au (fun _=>False) n pb db W9 o9 d9 w' gP gB (b8 (aS (aS TJ nU (aw (wY es ch) true)) nD (aw (fR es ch) true)) nX)):=aa (fun W o' d' qa=>by
    obtain⟨f,hf⟩:=Wy.o.1;refine(uj qa.aX (by rw[ay,if_neg Ba.o.xd,ay,if_neg Ba.o.xu];exact hf)).mono ?_;rintro e w'⟨c,gB,gP,xQ,rfl,hp,ht,hg,yD,hdr⟩;have cQ:au (fun _=>False) n pb db W o' d' w' gP gB xQ:=jn hp ht hg yD;have hh:=(nP.o.1.jI.held.moved qa (fun _ e=>e.elim)).moved cQ (fun _ e=>e.elim);rcases hdr with⟨rfl,rfl⟩|⟨-,h2,-⟩
    ·exact⟨gB,gP,rfl,qa.trans cQ (fun _ _ e=>e)⟩
    grind [Held.dead])
   have Ws:Hid (∀d' o' w',au (fun _=>False) n pb db W9 o9 d9 w' o' d' (b8 (aS (aS TJ nU (aw (wY es ch) true)) nD (aw (fR es ch) true)) nX)->PST (.returned (.int .i64 0)) w'):=aa (fun d' o' w' qa=>by
    rw[xz.o];have Gp:=nP.o.1.rl;have Wo:=HFX.o.1;rw[Ur.o.1,Ur.o.2.1,Ur.o.2.2]at Gp;rw[Ur.o.1]at Wo;have hr:=LX nP.o.1.jI.held.aX.keys Gp Wo (vs:=cn es was done gen ch);rw[Ur.o.1,Ur.o.2.1,Ur.o.2.2,aaL]at qa;exact⟨d',o',_,rfl,nP.o.2.trans qa (fun _ _ e=>e.elim),hr⟩)
   have HNU:Hid (∀W,Calls prog 18 #[.int .u8 117,.int .i64 ((gen+1:Nat):Int)] W fun e w'=>e=.returned (.string nU)/\Below W.heap.size W w'):=aa (fun W=>by rw[Ur.o.2.1];exact cX 117 (gen+1) (o:=fun _=>Option.none) (.inl yI.o));have NZ:Hid (∀W,Calls prog 18 #[.int .u8 100,.int .i64 ((gen+1:Nat):Int)] W fun e w'=>e=.returned (.string nD)/\Below W.heap.size W w'):=aa (fun W=>by rw[Ur.o.2.2];exact cX 100 (gen+1) (o:=fun _=>Option.none) (.inl yI.o));have HP9:=aa (au.refl (fun _=>False) nP.o.1.jI.held.aX);clear akM Wy sX aaL HF HNT Ob HQ S5 HDG HFX Ba Ur xz HLEN nP HGL;unfold ptrTo at *;go_wp2_with fail;refine cG (Below W9.heap.size W9) 14 rfl ag ag (aj.drew) ?_;simp only[List.take_succ_cons,List.take_zero];iterate 3 (refine qz ?_)
   refine qz ?_ (fun w' hw'=>by obtain⟨f0,f2,f6⟩:=Ww.o _ _ _ _ (HP9.o.below hw');go_simp<;>rfl);iterate 4 (refine qz ?_)
   refine qz ?_ (fun w' hw'=>by obtain⟨f0,f2,f6⟩:=Ww.o _ _ _ _ (HP9.o.below hw');go_simp<;>rfl);refine qz ?_ (fun w' hw'=>by have hx:=wg;go_simp<;>rfl);iterate 3 (refine qz ?_)
   refine qz ?_ (fun w' hw'=>by obtain⟨f0,f2,f6⟩:=Ww.o _ _ _ _ (HP9.o.below hw');go_simp<;>rfl);refine wpQuiet_nil ?_;intro w11 aff;refine⟨_,_,rfl,(by go_simp<;>exact⟨rfl,rfl⟩),?_⟩;refine(HMK.o w11 o9 d9 (HP9.o.below aff)).mono ?_;rintro e Wt⟨d12,Pp,rfl,Jr⟩;have Wz:=aa Jr;clear Jr aff HMK;refine⟨_,rfl,?_⟩;go_simp;refine qz ?_;refine wpQuiet_nil ?_;go_wp2_with fail;refine cG (Below Wt.heap.size Wt) 10 rfl ag ag (aj.drew) ?_;simp only[List.take_succ_cons,List.take_zero];iterate 3 (refine qz ?_)
   refine qz ?_ (fun w' hw'=>by obtain⟨f0,f2,f6⟩:=Ww.o _ _ _ _ (Wz.o.below hw');go_simp<;>rfl);iterate 3 (refine qz ?_)
   refine qz ?_ (fun w' hw'=>by obtain⟨f0,f2,f6⟩:=Ww.o _ _ _ _ (Wz.o.below hw');go_simp<;>rfl);refine qz ?_ (fun w' hw'=>by have hx:=wg;go_simp<;>rfl);refine qw (fun w' hw'=>(HNU.o w').mono (fun e w'' h=>⟨h.1,hw'.trans (h.2.mono hw'.size)⟩)) ?_;refine wpQuiet_nil ?_;intro w13 afg;refine⟨_,_,rfl,(by go_simp<;>exact⟨rfl,rfl⟩),?_⟩;refine(afd.o w13 Pp d12 (Wz.o.below afg)).mono ?_;rintro e P2⟨d14,o14,rfl,Pq⟩;have WC:=aa Pq;clear Pq afg afd Wz;refine⟨_,rfl,?_⟩;go_simp;refine qz ?_;refine wpQuiet_nil ?_;go_wp2_with fail;refine cG (Below P2.heap.size P2) 10 rfl ag ag (aj.drew) ?_;simp only[List.take_succ_cons,List.take_zero];iterate 3 (refine qz ?_)
   refine qz ?_ (fun w' hw'=>by obtain⟨f0,f2,f6⟩:=Ww.o _ _ _ _ (WC.o.below hw');go_simp<;>rfl);iterate 3 (refine qz ?_)
   refine qz ?_ (fun w' hw'=>by obtain⟨f0,f2,f6⟩:=Ww.o _ _ _ _ (WC.o.below hw');go_simp<;>rfl);refine qz ?_ (fun w' hw'=>by have hx:=wg;go_simp<;>rfl);refine qw (fun w' hw'=>(NZ.o w').mono (fun e w'' h=>⟨h.1,hw'.trans (h.2.mono hw'.size)⟩)) ?_;refine wpQuiet_nil ?_;intro w15 afh;refine⟨_,_,rfl,(by go_simp<;>exact⟨rfl,rfl⟩),?_⟩;refine(afe.o w15 o14 d14 (WC.o.below afh)).mono ?_;rintro e w16⟨d16,o16,rfl,afi⟩;have afj:=aa afi;clear afi afh afe WC;refine⟨_,rfl,?_⟩;go_simp;refine qz ?_;refine wpQuiet_nil ?_;have hdr:=aa (akN.o w16 o16 d16 afj.o);obtain⟨k0,k2,k6⟩:=Ww.o _ _ _ _ afj.o;go_wp2_with fail;refine hdr.o.mono ?_;rintro e w17⟨d17,o17,rfl,afk⟩;have WZ:=aa (Ws.o d17 o17 w17 afk);clear afk hdr k0 k2 k6;go_wp2;assumption
end
end
section
open Go.RowKit Go.Maps
section
variable {w0 w w' W W':World} {pb db n gen done:Nat} {o o' gP:ar} {d d' gB:Dsk} {L L' xQ:aD} {es:List aJ} {vs:List bW}
structure TK(w0 w:World)(pb db n:Nat)(o:ar)(d:Dsk)(L:aD)(gen done m:Nat)(es:List aJ)(vs:List bW):Prop where
 held:Held w0 w pb db n o d L
 frames:8<=n
 glt:gen+1<100
 e:aB L (aG 101 gen)=some (aw (aK false es) true)
 r:aB L (aG 114 gen)=some (aw (aK true es) true)
 v:aB L (aG 118 gen)=some (b7 vs true)
 len:es.length<=1000
 top:vs.length<=1000
 ends:∀x∈es,x.t.toNat<vs.length/\x.h.toNat<vs.length
 afl:(er es vs).length<=24
 free:∀c,aB L (aG c (gen+1))=none
 nt:∀k,aB L (dz k)=none
 most:(fM es (aA es vs)).length<=m
 need:need L+24*((fM es (aA es vs)).length+(wY es (aA es vs)).length+(fR es (aA es vs)).length)+8*es.length+4*vs.length+8<=131072
 dlt:done+(aA es vs).length<4294967296
 deg:∀v,v<vs.length->(fC es v).length*(aY es v).length<=100000
def oO(w:World)(pb db n:Nat)(o:ar)(d:Dsk)(L:aD)(gen done:Nat)(es:List aJ)(vs:List bW)(e:Ending)(w':World):Prop:=
 ∃d' o' L',e=.returned (.tuple #[.int .u32 ((aA es vs).length:Int),.int .i64 0])/\au (fun _=>False) n pb db w o d w' o' d' L'/\(aA es vs=[]->L'=L)/\(aA es vs≠[]->lz L L' gen (fM es (aA es vs)) (wY es (aA es vs)) (fR es (aA es vs)) (cn es vs done gen (aA es vs)))
theorem rM(HW:aP){m:Nat}(yS:dZ m)(h:TK w0 w pb db n o d L gen done m es vs) :
 Calls prog 33 #[ptrTo pb,.int .i64 (gen:Int),.int .u32 (done:Int)] w (oO w pb db n o d L gen done es vs):=by
 have H:=aa h;have hq:need L<=131072:=by have:=h.need;omega
 have dS:=aa (jv h.held.aX);have hop:=aa (sB HW h.held.aX (gen:=gen) (.inl (by have:=h.glt;omega)) h.v h.e h.r);have hn8:¬(n:Int)<8:=by have:=h.frames;omega
 have HQ:=aa hq;obtain⟨CH,hCH⟩:∃l,l=aA es vs:=⟨_,rfl⟩;have X4:=aa hCH;obtain⟨PST,mq⟩:∃P,P=oO w pb db n o d L gen done es vs:=⟨_,rfl⟩;have xz:=aa mq;rw[<- mq];clear h hq hCH mq;unfold ptrTo sA at *;go_enter func33,ntmps33;go_wp2_with fail;refine dS.o.mono ?_;rintro e w1⟨rfl,rfl⟩;clear dS;go_wp2_with fail;refine hop.o.mono ?_;rintro e w2⟨v2,c2,d2,o2,rfl,cQ,pV,jr,-⟩;have hc2:c2=0:=H.o.held.oH cQ pV HQ.o;subst hc2;obtain⟨gb,ob,ib,vb,rfl,hg2⟩:=jr rfl;have eB:=aa cQ;have yI:=aa hg2;have hlt:Hid (gb<w2.heap.size/\ob<w2.heap.size/\ib<w2.heap.size/\vb<w2.heap.size):=aa ⟨hg2.raw.lt,hg2.out.lt,hg2.rE.lt,hg2.qR.lt⟩;clear cQ hg2 pV jr hop;unfold ptrTo at *;obtain⟨rb,Us⟩:∃x,x=w2.heap.size:=⟨_,rfl⟩;have y9:Hid (dA (w2.alloc (.cells #[.pointer (some ⟨pb,0,none⟩),.pointer (some ⟨gb,0,none⟩),.int .i64 (gen:Int),.int .u32 (done:Int),.map none,.slice none 0 0,.slice none 0 0] 133)) w2.heap.size pb gb gen done (.map none) (.slice none 0 0) (.slice none 0 0)/\au (fun _=>False) n pb db w o d (w2.alloc (.cells #[.pointer (some ⟨pb,0,none⟩),.pointer (some ⟨gb,0,none⟩),.int .i64 (gen:Int),.int .u32 (done:Int),.map none,.slice none 0 0,.slice none 0 0] 133)) o2 d2 L/\cY (w2.alloc (.cells #[.pointer (some ⟨pb,0,none⟩),.pointer (some ⟨gb,0,none⟩),.int .i64 (gen:Int),.int .u32 (done:Int),.map none,.slice none 0 0,.slice none 0 0] 133)) o2 gb pb gen vs.length ob ib vb):=aa ⟨heap_alloc_new _ _,eB.o.alloc _,yI.o.moved (au.aW (n:=n) eB.o.aX ai)⟩;go_wp2_with fail;rw[<- Us]at y9 ⊢;generalize w2.alloc (.cells #[.pointer (some ⟨pb,0,none⟩),.pointer (some ⟨gb,0,none⟩),.int .i64 (gen:Int),.int .u32 (done:Int),.map none,.slice none 0 0,.slice none 0 0] 133)=W3 at *;have Ww:Hid (rb=w2.heap.size/\w.heap.size<=rb):=aa ⟨Us,by rw[Us];exact eB.o.size⟩;have TL:Hid (fI w0 W3 pb db n o2 d2 L gb gen vs.length ob ib vb es):=aa ⟨H.o.held.moved y9.o.2.1 (fun _ e=>e.elim),HQ.o,y9.o.2.2,H.o.e,H.o.r,H.o.len,H.o.top,H.o.ends⟩;have WD:Hid (qY w0 W3 o2 rb gb ob ib vb):=aa ⟨by rw[Us];exact(H.o.held.moved eB.o (fun _ e=>e.elim)).below.size,y9.o.1.lt,by rw[Us];exact eB.o.aX.fresh (Nat.le_refl _),by grind [Hid.out]⟩;have mL:=aa (CL HW TL.o H.o.v y9.o.1 WD.o);unfold xg ptrTo at mL;clear Us yI hlt;refine mL.o.mono ?_;rintro e w4⟨vv,d4,o4,rfl,oX⟩;have gq:=aa oX;have TM:=aa (TL.o.Fo WD.o oX.mv);have WE:=aa (WD.o.moved oX.mv);have gp:Hid (au (fun _=>False) n pb db w o d w4 o4 d4 L):=aa (y9.o.2.1.trans oX.mv (fun x hx e=>by grind [Hid.out]));have hch:=aa (yZ HW TM.o oX.at' WE.o oX.row oX.own H.o.deg H.o.afl);rw[<- X4.o]at hch;unfold tu ptrTo at hch;clear oX mL TL WD;go_wp2_with fail;refine hch.o.mono ?_;rintro e w5⟨mb,ov,S,d5,o5,rfl,lD,K7,TN,afm,afn,afo,afp,G2⟩;obtain⟨oa,ok,rfl⟩:=az TN;obtain⟨KN,JH⟩:∃k,k=CH.length:=⟨_,rfl⟩;have lF:Hid (au (fun _=>False) n pb db w o d w5 o5 d5 L):=aa (gp.o.trans lD (fun x hx e=>by grind [Hid.out]));have yg:=aa K7;have NL:Hid (bF w5 w4.heap.size (.slice oa CH.length ok) CH/\(∀b,(Value.slice oa CH.length ok).ownBlock=some b->o5 b=none)/\fE w5 mb S/\w4.heap.size<=mb/\o5 mb=none/\∀z,z∈S↔z∈CH):=aa ⟨TN,afm,afn,afo,afp,G2⟩;have afq:=aa (TM.o.Fo WE.o lD);have afr:=aa (WE.o.moved lD);have NR:Hid (dP w5 W3.heap.size vv vs/\(∀b,vv.ownBlock=some b->o5 b=none/\b<w4.heap.size)):=aa ⟨lD.ownsRow gq.o.row (fun b hb=>⟨gq.o.own b hb,fun e=>by have h1:=aF gq.o.row b hb;have h2:=y9.o.1.lt;omega⟩),fun b hb=>⟨lD.free (aL gq.o.row b hb).1 (gq.o.own b hb),(aL gq.o.row b hb).1⟩⟩;obtain⟨-,-,-,-,-,c5,-⟩:=K7.cells;rw[<- JH]at c5;have HKN:Hid (KN=CH.length/\KN<4294967296):=aa ⟨JH,by have:=H.o.dlt;grind [Hid.out]⟩;clear lD K7 TN afm afn afo afp G2 hch JH TM WE gp;by_cases hz:KN=0
 ·have hzz:(KN:Int)=0:=by omega
  have HQF:Hid (PST (.returned (.tuple #[.int .u32 0,.int .i64 0])) w5):=aa (by
   have hn:aA es vs=[]:=by grind [Hid.out]
   rw[xz.o];exact⟨d5,o5,L,by grind,lF.o,fun _=>rfl,fun h=>absurd hn h⟩)
  clear hz;go_wp2;assumption
 ·have hzz:¬(KN:Int)=0:=by omega
  have HCN:Hid (CH≠[]):=aa (fun e=>hz (by grind [Hid.out]));have HVN:Hid (vs.length≠0):=aa (by
   cases e:CH with
   |nil=>grind [Hid.out]
   |cons v l=>have:=j5 (es:=es) (vs:=vs) (v:=v) (by grind [Hid.out]);omega)
  obtain⟨g,vk,rfl⟩:∃g k,vv=.slice (some ⟨g,0,none⟩) vs.length k:=by
   obtain⟨-,⟨h1,h2⟩|⟨g,k,_,h1,_⟩⟩:=NR.o.1
   ·grind [Hid.out]
   grind
  have HG:Hid (rb<g/\g<w4.heap.size/\w.heap.size<=g/\rb≠g):=aa (by
   have h1:=aF NR.o.1 g rfl;have h2:=y9.o.1.lt;have h3:=(NR.o.2 g rfl).2;grind [Hid.out])
  have HWI:Hid (Ng w0 w5 pb db n o5 d5 L gb gen vs.length ob ib vb es rb mb g vk done (.slice oa CH.length ok) S CH vs W3.heap.size w4.heap.size):=aa
   ⟨afq.o,yg.o,afr.o,NL.o.2.2.1,NL.o.2.2.2.2.1,NL.o.1,NL.o.2.1,NR.o.1,rfl,(NR.o.2 g rfl).1,HG.o.1,Nat.lt_of_lt_of_le HG.o.2.1 NL.o.2.2.2.1,fun b hb=>Nat.lt_of_lt_of_le HG.o.2.1 (aF NL.o.1 b hb),NL.o.2.2.2.2.2,fun v hv=>j5 (es:=es) (by grind [Hid.out]),HCN.o⟩
  have hwr:=aa (Bq HW yS H.o.frames HWI.o H.o.glt H.o.free H.o.nt (by rw[X4.o];exact H.o.most) (by rw[X4.o];exact H.o.need) (by rw[X4.o];exact H.o.dlt) H.o.deg);unfold xA ptrTo at hwr;clear hz HWI;go_wp2_with fail;refine hwr.o.mono ?_;rintro e w6⟨d6,o6,L6,rfl,nT,Bx⟩;have A6:dA w6 rb pb gb gen done (.map (some mb)) (.slice oa CH.length ok) (.slice (some ⟨g,0,none⟩) vs.length vk):=nT.heap yg.o afr.o.free HG.o.2.2.2;obtain⟨-,-,-,-,-,c5',-⟩:=A6.cells;rw[<- HKN.o.1]at c5';have wku:IntKind.u32.wrap (KN:Int)=(KN:Int):=eL _ ae (by grind [Hid.out]);have HQF:Hid (PST (.returned (.tuple #[.int .u32 (KN:Int),.int .i64 0])) w6):=aa (by
   rw[xz.o];refine⟨d6,o6,L6,by grind [Hid.out],lF.o.trans nT (fun x hx e=>by grind [Hid.out]),fun h=>absurd (X4.o.trans h) HCN.o,fun _=>?_⟩;grind [Hid.out])
  clear nT Bx A6 hwr c5 hzz;go_wp2;assumption
end
end
section
open Go.RowKit Go.Maps
theorem xB{w:World}{ops:Array Oper}{o:Oper}{a:Act}{K:Act->World->Prop}{Q:Exit->Act->World->Prop}{E:Prop}(hgd:o.guard=none)(s x:Operand)(ho:o.op=.call { callee:=.builtin .append,args:=#[s,x],argTypes:=#[22,22] })(base:Nat)(v:Value)(l:List aJ)(hs:a.eval s=v)(hown:aI w base v l)(y:aJ)(xb c:Nat)(hx:a.eval x=.slice (some ⟨xb,0,none⟩) 1 c)(FX:w.heap[xb]? = some (.cells #[.int .u32 (y.t.toNat:Int),.int .u32 (y.h.toNat:Int),.int .u64 (y.x.toNat:Int),.int .u32 (y.m.toNat:Int)] 64))(hl:l.length<=100000)(hbase:base<=w.heap.size)(k:∀v' w',aI w' base v' (l++[y])->lr v w w' v'->K (a.put o.dst v') w'):if Region.wanted o (yielded ops a.tmps)=true then Oper.wp prog o a w K Q else E:=by
 refine mn hgd s x 22 ho base 64 _ 4 24 Tryz.underlying22 rC rfl af v l.length (dH l) hs hown ⟨xb,0,none⟩ 1 c y.cells hx rfl (fun j u hj=>?_) (by simp[Value.oneCell']) (by grind [maxLen]) ae hbase (fun v' w' h1 h2=>k v' w' ?_ h2)
 ·rw[bG,Nat.zero_add,aq FX];grind
 ·unfold aI;rw[nJ,List.length_append];exact h1
def pR(n:Nat)(x:aJ):aJ:=⟨UInt32.ofNat (x.t.toNat%n),UInt32.ofNat (x.h.toNat%n),UInt64.ofNat (x.x.toNat%288230376151711744),4294967295⟩
def gZ(n:Nat)(es:List aJ):List aJ:=if n=0 then [] else (es.take 80).map (pR n)
theorem DZ{n:Nat}(x:aJ):(pR n x).t.toNat=x.t.toNat%n/\(pR n x).h.toNat=x.h.toNat%n/\(pR n x).x.toNat=x.x.toNat%288230376151711744/\(pR n x).m.toNat=4294967295:=by
 have h1:=Nat.mod_le x.t.toNat n;have h2:=Nat.mod_le x.h.toNat n;have:=x.t.toNat_lt;have:=x.h.toNat_lt;refine⟨?_,?_,?_,rfl⟩
 ·show(UInt32.ofNat _).toNat=_;grind [UInt32.toNat_ofNat']
 ·show(UInt32.ofNat _).toNat=_;grind [UInt32.toNat_ofNat']
 ·show(UInt64.ofNat _).toNat=_;grind [UInt64.toNat_ofNat']
def xC(w:World)(n:Nat)(l:List aJ)(e:Ending)(w':World):Prop:=
 ∃v,e=.returned (.tuple #[.int .i64 (n:Int),v])/\Below w.heap.size w w'/\aI w' w.heap.size v l
theorem D3{w:World}{ev:Value}{es:List aJ}(N F:Nat)(hN:N<256)(he:kL w ev es) :
 Calls prog 29 #[.agg #[.int .u8 (N:Int),ev,.int .u8 (F:Int)]] w (xC w (N%25) (gZ (N%25) es)):=by
 obtain⟨ea,ec,rfl,-⟩:=id he;have HE:=aa he;obtain⟨V,hV⟩:∃v,v=N%25:=⟨_,rfl⟩;have hN1:wrap64 (N:Int)=(N:Int):=by grind [wrap64]
 have hN2:(N:Int).tmod 25=(V:Int):=by grind
 have FU:Hid (V=N%25/\V<25):=aa ⟨hV,ae⟩;rw[<- hV];obtain⟨M,hM⟩:∃m,m=es.length:=⟨_,rfl⟩;have HM:=aa hM;have kK:Hid (Below w.heap.size w (w.alloc (.cells #[.int .u8 (N:Int),.slice ea M ec,.int .u8 (F:Int)] 69))):=aa ai;have CE:Hid ((w.alloc (.cells #[.int .u8 (N:Int),.slice ea M ec,.int .u8 (F:Int)] 69)).heap[w.heap.size]? = some (.cells #[.int .u8 (N:Int),.slice ea M ec,.int .u8 (F:Int)] 69)):=aa (heap_alloc_new _ _);have HE0:Hid (kL (w.alloc (.cells #[.int .u8 (N:Int),.slice ea M ec,.int .u8 (F:Int)] 69)) (.slice ea M ec) es):=aa (by rw[hM];exact he.below ai);obtain⟨PST,mq⟩:∃P,P=xC w V (gZ V es):=⟨_,rfl⟩;have xz:=aa mq;rw[<- mq];rw[<- hM];clear he hV hM mq hN;go_enter func29,ntmps29;go_wp2_with fail;generalize X9:w.heap.size=wb at *;generalize w.alloc (.cells #[.int .u8 (N:Int),.slice ea M ec,.int .u8 (F:Int)] 69)=W0 at *;have Ya:Hid (w.heap.size=wb/\wb<W0.heap.size):=aa ⟨X9,(Array.getElem?_eq_some_iff.1 CE.o).1⟩;clear X9 hN1 hN2;go_loopw [5,6] (fun vl vi wr=>∃(k:Nat)(acc:List aJ),vi=.int .i64 (k:Int)/\k<=M/\k<=80/\(k=0\/0<V)/\Hid (acc=(es.take k).map (pR V)/\Below W0.heap.size W0 wr/\aI wr W0.heap.size vl acc)) (fun _ vi _=>80-(intOf vi).toNat)
 case atStart=>exact⟨0,[],rfl,Nat.zero_le _,ae,.inl rfl,aa ⟨rfl,Below.refl _ _,World.ownsRow_nil _ _ _ _⟩⟩
 case round=>
  generalize u5=lv at *;obtain⟨k,acc,rfl,hk,hk8,JP,HS⟩:=hrel;generalize wr=W1 at *;obtain⟨la,lc,rfl⟩:=az HS.out.2.2;have FO:W1.heap[wb]? = some (.cells #[.int .u8 (N:Int),.slice ea M ec,.int .u8 (F:Int)] 69):=(HS.out.2.1.block _ Ya.o.2).trans CE.o;have b1:W1.cell? ⟨wb,1,none⟩=some (.slice ea M ec):=by rw[aq FO];rfl
  clear FO;by_cases h1:k<M
  ·have h1z:(k:Int)<(M:Int):=by omega
   by_cases h2:k<80
   ·have h2z:(k:Int)<80:=by omega
    by_cases h3:0<V
    ·have wk:IntKind.i64.wrap ((k:Int)+1)=((k+1:Nat):Int):=by grind [ax]
     have wv:IntKind.u32.wrap (V:Int)=(V:Int):=by grind [Hid.out,eL]
     obtain⟨x,hx⟩:∃x,es[k]? = some x:=⟨_,List.getElem?_eq_getElem (by grind [Hid.out])⟩;have HX:=aa hx;obtain⟨a',cap',Co,hce⟩:=HE0.o.below HS.out.2.1;obtain⟨rfl,-,rfl⟩:ea=a'/\M=es.length/\ec=cap':=by grind
     obtain⟨b,off,rfl,P0⟩:=hce.resolve_left (by grind);obtain⟨q0,q1,q2,q3⟩:=P0 k _ hx;clear hce P0 Co hx;obtain⟨y,hy⟩:∃y,y=pR V x:=⟨_,rfl⟩;have HY:=aa hy;obtain⟨y0,y1,y2,y3⟩:=DZ (n:=V) x;rw[<- hy]at y0 y1 y2 y3;have cT:Hid (Below W0.heap.size W0 (W1.alloc (.cells #[.int .u32 (x.t.toNat:Int),.int .u32 (x.h.toNat:Int),.int .u64 (x.x.toNat:Int),.int .u32 (x.m.toNat:Int)] 64))):=aa (HS.out.2.1.alloc HS.out.2.1.size _);have ny:Hid (aI (W1.alloc (.cells #[.int .u32 (x.t.toNat:Int),.int .u32 (x.h.toNat:Int),.int .u64 (x.x.toNat:Int),.int .u32 (x.m.toNat:Int)] 64)) W0.heap.size (.slice la acc.length lc) acc):=aa (World.ownsRow.alloc HS.out.2.2 _);have JL:Hid ((W1.alloc (.cells #[.int .u32 (x.t.toNat:Int),.int .u32 (x.h.toNat:Int),.int .u64 (x.x.toNat:Int),.int .u32 (x.m.toNat:Int)] 64)).heap[W1.heap.size]? = some (.cells #[.int .u32 (x.t.toNat:Int),.int .u32 (x.h.toNat:Int),.int .u64 (x.x.toNat:Int),.int .u32 (x.m.toNat:Int)] 64)):=aa (heap_alloc_new _ _);have HL:Hid (acc=(es.take k).map (pR V)/\acc.length<=80):=aa ⟨HS.out.1,by grind [Hid.out]⟩;clear hy HS;go_wp2_with fail;clear q0 q1 q2 q3 b1;generalize W1.heap.size=xb at *;generalize W1.alloc (.cells #[.int .u32 (x.t.toNat:Int),.int .u32 (x.h.toNat:Int),.int .u64 (x.x.toNat:Int),.int .u32 (x.m.toNat:Int)] 64)=W2 at *;have x0:W2.cell? ⟨xb,0,none⟩=some (.int .u32 (x.t.toNat:Int)):=by rw[aq JL.o];rfl
     have x1:W2.cell? ⟨xb,1,none⟩=some (.int .u32 (x.h.toNat:Int)):=by rw[aq JL.o];rfl
     have x2:W2.cell? ⟨xb,2,none⟩=some (.int .u64 (x.x.toNat:Int)):=by rw[aq JL.o];rfl
     have e0:(x.t.toNat:Int)%(V:Int)=(y.t.toNat:Int):=by omega
     have e1:(x.h.toNat:Int)%(V:Int)=(y.h.toNat:Int):=by omega
     have e2:(x.x.toNat:Int)%288230376151711744=(y.x.toNat:Int):=by omega
     have t0:(x.t.toNat:Int).tmod (V:Int)=(y.t.toNat:Int):=by assumption
     have t1:(x.h.toNat:Int).tmod (V:Int)=(y.h.toNat:Int):=by assumption
     have t2:(x.x.toNat:Int).tmod 288230376151711744=(y.x.toNat:Int):=by assumption
     have e3:(4294967295:Int)=(y.m.toNat:Int):=by omega
     have h3n:¬V=0:=by omega
     clear y0 y1 y2 y3;have SI:=World.block_lt_of_cell? _ _ x0;have HBD:Hid (∀ob,Below W2.heap.size W2 (W2.drew.alloc ob)):=aa (fun ob=>aj.drew.alloc (Nat.le_refl _) ob);have HBZ:Hid (W0.heap.size<=W2.heap.size):=aa cT.o.size;go_region_law (refine xB rfl _ _ rfl W0.heap.size _ acc rfl (World.ownsRow.alloc (World.ownsRow.drew ny.o) _) y _ 1 rfl (heap_alloc_new _ _) (by have:=HL.o;omega) (Nat.le_trans HBZ.o (HBD.o _).size) ?_;intro v5 w5 h5 ha;have HA5:=aa ha;have UD:=aa h5;clear ha h5)
     all_goals
      obtain⟨v5a,v5c,Ui⟩:=az UD.o;subst Ui;have eR:Hid (acc++[y]=(es.take (k+1)).map (pR V)/\Below W0.heap.size W0 w5/\aI w5 W0.heap.size (.slice v5a (acc++[y]).length v5c) (acc++[y])):=aa ⟨by
       rw[HL.o.1,HY.o,List.take_add_one,HX.o,List.map_append];rfl,(gK (cT.o.trans ((HBD.o _).mono HBZ.o)) (fun b hb=>aF ny.o b hb) HA5.o).1,UD.o⟩
      clear HA5 UD ny HBD t0 t1 t2 e0 e1 e2 e3 x0 x1 x2 SI;generalize (acc++[y]).length=L5 at *;go_wp2_with fail;go_roundw
      case rel=>grind
      grind [intOf]
    ·have h3z:¬(V:Int)>0:=by omega
     have HQ:Hid (PST (.returned (.tuple #[.int .i64 (V:Int),.slice la acc.length lc])) W1):=aa (by
      rw[xz.o];obtain rfl:k=0:=by omega
      have hb:=kK.o;have hs:=HS.out;rw[Ya.o.1.symm]at hb;refine⟨_,rfl,hb.trans (hs.2.1.mono hb.size),?_⟩;grind [gZ,aU,Below.size])
     clear HS;go_wp2;exact HQ.o
   ·have h2z:¬(k:Int)<80:=by omega
    have HQ:Hid (PST (.returned (.tuple #[.int .i64 (V:Int),.slice la acc.length lc])) W1):=aa (by
     rw[xz.o];obtain rfl:k=80:=by omega
     have hb:=kK.o;have hs:=HS.out;rw[Ya.o.1.symm]at hb;refine⟨_,rfl,hb.trans (hs.2.1.mono hb.size),?_⟩;grind [gZ,aU,Below.size])
    clear HS;go_wp2;exact HQ.o
  ·have h1z:¬(k:Int)<(M:Int):=by omega
   have HQ:Hid (PST (.returned (.tuple #[.int .i64 (V:Int),.slice la acc.length lc])) W1):=aa (by
    rw[xz.o];obtain rfl:k=M:=by omega
    have hb:=kK.o;have hs:=HS.out;rw[Ya.o.1.symm]at hb;refine⟨_,rfl,hb.trans (hs.2.1.mono hb.size),?_⟩;have e1:acc=gZ V es:=by
     rw[hs.1];unfold gZ;grind [Hid.out]
    grind [aU,Below.size])
   clear HS;go_wp2;exact HQ.o
end
end Go.Proofs.YthkkgdpomhhjjaaGreatDoor
