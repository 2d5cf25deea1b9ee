/-
  Joined.
-/
import Derived.Test.YthkkgdpomhhjjaaGreatDoorX14
set_option maxRecDepth 100000
set_option maxHeartbeats 16000000
namespace Go.Proofs.YthkkgdpomhhjjaaGreatDoor
open Go.Proofs.Tryz
section
open Go.RowKit Go.Maps
section
variable {w0 w w' W W':World} {pb db n gb gen N ob ib vb rb mb pc done sb:Nat} {o o' gR:ar} {d d' gT:Dsk} {L L' xD:aC} {es l:List aH} {S:List Nat} {x4 x5 x6 v:Value} {name:Name} {fl:Bool}
theorem fF.look(h:fF w mb S){x:Nat}(hx:x<4294967296)(b:Bool)(hb:decide (x∈S)=b):∀w',Below w.heap.size w w'->Sem.run prog (Instr.lookup 131 (.map (some mb)) (.int .u32 (x:Int)) false) w'=.ok (.bool b) w':=fun w' hw=>by
 have:=(h.kept (hw.block _ h.lt)).lookup b8 dr Tryz.underlying131 (Tryz.zeroValue4 w') x (fQ hx) false;rw[E4]at this;rw[<- hb];by_cases e:x∈S
 ·rw[if_pos e]at this;rw[decide_eq_true e];exact this
 ·rw[if_neg e]at this;rw[decide_eq_false e];exact this
theorem I2(args:Array Value)(w:World):Sem.run prog (callFunc 152 args) w=.ok (.enter 152 args) w:=by go_simp
theorem I3{t:TypeId}(hp:w.heap[pc]? = some (.cells #[ptrTo rb] t))(hr:dy w rb pb gb gen done (.map (some mb)) x5 x6)(hch:fF w mb S){x:Nat}(hx:x<4294967296) :
 Calls prog 152 #[.int .u32 (x:Int),.pointer (some ⟨pc,0,none⟩)] w fun e w'=>e=.returned (.bool (decide (x∈S)))/\Below w.heap.size w w':=by
 have hl:=hch.look hx _ rfl w aj;generalize decide (x∈S)=b at *;have c0:w.cell? ⟨pc,0,none⟩=some (ptrTo rb):=by rw[aq hp];rfl
 obtain⟨-,-,-,-,c4,-⟩:=hr.cells;clear hp hr hch hx;unfold ptrTo at *;go_enter func152,ntmps152;go_wp2;go_ret;exact⟨rfl,Below.refl _ _⟩
theorem Tm{t:TypeId}(hp:w.heap[pc]? = some (.cells #[ptrTo rb] t))(hr:dy w rb pb gb gen done (.map (some mb)) x5 x6)(hch:fF w mb S)(h1:o pc=none)(h2:o rb=none)(h3:o mb=none) :
 ID w o (.func (.func 152) #[] #[.pointer (some ⟨pc,0,none⟩)]) (fun x=>decide (x∈S)) (fun b=>b=pc\/b=rb\/b=mb):=
 ⟨⟨_,_,rfl,I2,fun W x hk _ hx=>I3 ((hk pc (.inl rfl)).trans hp) ((hk rb (.inr (.inl rfl))).trans hr) (hch.kept (hk mb (.inr (.inr rfl)))) hx⟩,fun b hb=>by
   rcases hb with rfl | rfl | rfl
   ·exact⟨(Array.getElem?_eq_some_iff.1 hp).1,h1⟩
   ·exact⟨hr.lt,h2⟩
   ·exact⟨hch.lt,h3⟩⟩
theorem s7(h:fJ w0 w pb db n o d L gb gen N ob ib vb es)(hm:au (fun _=>False) n pb db w o d w' o' d' L')(h1:aA L' (aI 101 gen)=aA L (aI 101 gen))(h2:aA L' (aI 114 gen)=aA L (aI 114 gen))(hq:need L'<=131072):fJ w0 w' pb db n o' d' L' gb gen N ob ib vb es:=
 ⟨h.held.moved hm (fun _ e=>e.elim),hq,h.gr.moved hm,h1.trans h.file,h2.trans h.Du,h.len,h.top,h.ends⟩
theorem Wc{x:aH}{t:TypeId}:kF (w.alloc (.cells #[.int .u32 (x.t.toNat:Int),.int .u32 (x.h.toNat:Int),.int .u64 (x.x.toNat:Int),.int .u32 (x.m.toNat:Int)] t)) (.slice (some ⟨w.heap.size,0,none⟩) 1 1) [x]:=
 ⟨_,1,rfl,.inr ⟨w.heap.size,0,rfl,fun j y hy=>by
  match j,hy with
  |0,hy=>cases hy;simp
  |j+1,hy=>cases hy⟩⟩
def jF(S:List Nat)(x:aH):Bool:=decide (x.t.toNat ∉ S/\x.h.toNat ∉ S)
theorem Tn(es:List aH)(S:List Nat):gG es S=(aJ false es).filter (jF S):=rfl
theorem Cu(HW:aP)(h:fJ w0 w pb db n o d L gb gen N ob ib vb es)(hr:dy w rb pb gb gen done (.map (some mb)) x5 x6)(hro:o rb=none)(hch:fF w mb S)(hmo:o mb=none)(hst:aD w sb pb name 20)(Ng:o sb=none)(hL:aA L name=some (aw [] fl))(h1:name≠aI 101 gen)(h2:name≠aI 114 gen)(Mz:need L+8*es.length+8<=131072) :
 Calls prog 102 #[ptrTo rb,ptrTo sb] w (jy (fun _=>False) n pb db w o d L name (gG es S)):=by
 have hbl:=cF false es;have Lv:Hid (∀W o' d' es' kI,au (fun _=>False) n pb db w o d W o' d' (aS L name (aw es' kI))->es'.length<=es.length->fJ w0 W pb db n o' d' (aS L name (aw es' kI)) gb gen N ob ib vb es):=aa (fun W o' d' es' kI hm hl=>s7 h hm (by rw[ay,if_neg h1.symm]) (by rw[ay,if_neg h2.symm]) (by
  have g1:=cM L name (aw es' kI);have g2:=cE es' kI;omega))
 have Wb:Hid (au (fun _=>False) n pb db w o d w o d (aS L name (aw [] fl))):=aa ((au.refl _ h.held.aY).self hL);have HL0:=aa hL;have Fi:=aa (KZ HW h.held h.need h.gr h.file);have MO:Hid (∀W o' d' L',au (fun _=>False) n pb db w o d W o' d' L'->dy W rb pb gb gen done (.map (some mb)) x5 x6/\fF W mb S/\aD W sb pb name 20/\o' sb=none):=aa (fun W o' d' L' hm=>⟨hr.moved hro hm,hch.kept (hm.block hch.lt hmo (fun e=>e)),hst.moved hm Ng (fun e=>e),hm.free hst.lt Ng⟩);have ny:Hid (∀W o' d' es' kI v(x:aH),au (fun _=>False) n pb db w o d W o' d' (aS L name (aw es' kI))->es'.length<=es.length->kF W v [x]->(∀b,v.ownBlock=some b->o' b=none) ->
  Calls prog 151 #[ptrTo sb,v] W fun e w'=>∃gT gR aao,e=.returned (.int .i64 0)/\au (fun _=>False) n pb db w o d w' gR gT (aS L name (aw (es'++[x]) aao))):=aa (fun W o' d' es' kI v x hm hl hv mj=>by
  have hn:=Lv.o _ _ _ _ _ hm hl;have g1:=cM L name (aw es' kI);have g2:=cE es' kI;have hlen:=h.len;obtain⟨-,-,k3,k4⟩:=MO.o _ _ _ _ hm;refine(I1 HW hn.held k3 k4 (by rw[ay,if_pos rfl]) hv mj (by rw[List.length_singleton];omega) (by rw[List.length_singleton];omega)).mono ?_;rintro e w'⟨aao,gT,gR,rfl,cR⟩;rw[iO]at cR;exact⟨gT,gR,aao,rfl,hm.trans cR (fun _ _ e=>e)⟩)
 obtain⟨-,c1,-⟩:=hr.cells;obtain⟨B,hB⟩:∃B,B=aJ false es:=⟨_,rfl⟩;have HB:Hid (B.length<=es.length/\es.length<=1000):=aa ⟨by rw[hB];exact hbl,h.len⟩;have aeN:Hid (∀W o' d' es' kI,au (fun _=>False) n pb db w o d W o' d' (aS L name (aw es' kI))->es'.length<=es.length->∀(i:Nat)(x:aH),B[i]? = some x->Calls prog 28 #[ptrTo gb,.int .i64 (i:Int)] W fun e w'=>∃gT gR,e=.returned (.tuple #[KW x,.int .i64 0])/\au (fun _=>False) n pb db w o d w' gR gT (aS L name (aw es' kI))):=aa (fun W o' d' es' kI hm hl i x hx=>by
  have hn:=Lv.o _ _ _ _ _ hm hl;rw[hB]at hx;refine(OG HW hn.held hn.need hn.gr hn.file hx).mono ?_;rintro e w'⟨gT,gR,rfl,cR⟩;exact⟨gT,gR,rfl,hm.trans cR (fun _ _ e=>e)⟩)
 rw[<- hB]at Fi;rw[Tn,<- hB];obtain⟨M,hM⟩:∃M,M=B.length:=⟨_,rfl⟩;have HM:Hid (M=B.length/\M<=1000):=aa ⟨hM,by have:=HB.o;omega⟩;obtain⟨R,hR⟩:∃R,R=jy (fun _=>False) n pb db w o d L name (B.filter (jF S)):=⟨_,rfl⟩;have S0:=aa hR;rw[<- hR];rw[<- hM]at Fi;clear h hr hro hch hmo hst Ng hL h1 h2 Mz hbl hB hM hR Lv;unfold ptrTo at *;go_enter func102,ntmps102;go_wp2_with fail;refine Fi.o.mono ?_;rintro e w1⟨d1,o1,rfl,dZ⟩;have eY:Hid (au (fun _=>False) n pb db w o d w1 o1 d1 (aS L name (aw (((B.take 0)).filter (jF S)) fl))):=aa (by
  refine dZ.congr Wb.o.aY.keys (fun x=>?_);rw[ay];split
  ·rename_i e;rw[e,HL0.o];rfl
  ·rfl)
 clear dZ Fi c1 Wb;go_wp2_with fail;go_loopw [23] (fun vi wr=>∃(i:Nat)(kI:Bool)(o':ar)(d':Dsk),vi=.int .i64 (i:Int)/\i<=M/\Hid (au (fun _=>False) n pb db w o d wr o' d' (aS L name (aw ((B.take i).filter (jF S)) kI)))) (fun vi _=>M-(intOf vi).toNat)
 case atStart=>exact⟨0,fl,o1,d1,rfl,Nat.zero_le _,eY⟩
 case round=>
  obtain⟨i,kI,o2,d2,rfl,hi,eT⟩:=hrel;clear eY;generalize wr=W2 at *;by_cases hlt:i<M
  ·have hiz:(i:Int)<(M:Int):=by omega
   have wi:IntKind.i64.wrap ((i:Int)+1)=((i+1:Nat):Int):=by have:=HM.o;rw[ax]<;>omega
   obtain⟨x,hx⟩:∃x,B[i]? = some x:=⟨_,List.getElem?_eq_getElem (by have:=HM.o;omega)⟩;have vU:Hid ((B.take (i+1)).filter (jF S)=(B.take i).filter (jF S)++if jF S x=true then [x] else []):=aa (by
    obtain⟨hl,he⟩:=List.getElem?_eq_some_iff.1 hx;rw[List.take_succ_eq_append_getElem hl,he,List.filter_append,List.filter_cons,List.filter_nil])
   have HLEN:Hid (((B.take i).filter (jF S)).length<=es.length):=aa (Nat.le_trans (List.length_filter_le _ _) (by rw[List.length_take];have:=HB.o;omega));have hed:=aa (aeN.o _ _ _ _ _ eT.out HLEN.o i x hx);obtain⟨-,c1,-⟩:=(MO.o _ _ _ _ eT.out).1.cells;clear hx;generalize (B.take i).filter (jF S)=acc at *;unfold KW ptrTo at *;go_wp2_with fail;refine hed.o.mono ?_;rintro e w3⟨d3,o3,rfl,ep⟩;have eD:=aa (ep.alloc (.cells #[.int .u32 (x.t.toNat:Int),.int .u32 (x.h.toNat:Int),.int .u64 (x.x.toNat:Int),.int .u32 (x.m.toNat:Int)] 64));have iq:Hid ((w3.alloc (.cells #[.int .u32 (x.t.toNat:Int),.int .u32 (x.h.toNat:Int),.int .u64 (x.x.toNat:Int),.int .u32 (x.m.toNat:Int)] 64)).heap[w3.heap.size]? = some (.cells #[.int .u32 (x.t.toNat:Int),.int .u32 (x.h.toNat:Int),.int .u64 (x.x.toNat:Int),.int .u32 (x.m.toNat:Int)] 64)):=aa (heap_alloc_new _ _);clear ep hed eT c1;go_wp2_with fail;generalize FI:w3.heap.size=xb at *;clear FI;generalize w3.alloc (.cells #[.int .u32 (x.t.toNat:Int),.int .u32 (x.h.toNat:Int),.int .u64 (x.x.toNat:Int),.int .u32 (x.m.toNat:Int)] 64)=W3 at *;have F:Hid (∀w',Below W3.heap.size W3 w'->w'.cell? ⟨rb,4,none⟩=some (.map (some mb))/\w'.cell? ⟨xb,0,none⟩=some (.int .u32 (x.t.toNat:Int))/\w'.cell? ⟨xb,1,none⟩=some (.int .u32 (x.h.toNat:Int))):=aa (fun w' hw'=>by
    have hc:w'.heap[xb]? = some (.cells #[.int .u32 (x.t.toNat:Int),.int .u32 (x.h.toNat:Int),.int .u64 (x.x.toNat:Int),.int .u32 (x.m.toNat:Int)] 64):=(hw'.block _ (Array.getElem?_eq_some_iff.1 iq.o).1).trans iq.o;exact⟨((MO.o _ _ _ _ eD.o).1.below hw').cells.2.2.2.2.1,by rw[aq hc];rfl,by rw[aq hc];rfl⟩)
   have Lx:=(MO.o _ _ _ _ eD.o).2.1;by_cases ht:x.t.toNat∈S
   ·have Hk:=aa (Lx.look x.t.toNat_lt true (decide_eq_true ht));have HE:Hid (jF S x=false):=aa (by unfold jF;simp[ht]);clear ht Lx;refine wq W3 ?_;iterate 3 (refine qz ?_)
    refine qz ?_ (fun w' hw'=>by obtain⟨f1,f2,f3⟩:=F.o w' hw';go_simp<;>rfl);refine qz ?_;refine qz ?_ (fun w' hw'=>by obtain⟨f1,f2,f3⟩:=F.o w' hw';go_simp<;>rfl);refine qz ?_ (fun w' hw'=>by have hl:=Hk.o w' hw';go_simp<;>rfl);refine qz ?_;iterate 7 go_big_quiet_skip
    refine qz ?_;refine wpQuiet_nil ?_;intro w4 hb4;have gl:Hid (au (fun _=>False) n pb db w o d w4 o3 d3 (aS L name (aw ((B.take (i+1)).filter (jF S)) kI))):=aa (by rw[vU.o,HE.o,if_neg ah,List.append_nil];exact eD.o.below hb4);clear hb4 F Hk;go_wp2;go_roundw
    case rel=>exact⟨i+1,kI,o3,d3,by go_num,ae,gl⟩
    case measure=>simp[intOf];omega
   ·have Hk:=aa (Lx.look x.t.toNat_lt false (decide_eq_false ht));by_cases hh:x.h.toNat∈S
    ·have Jf:=aa (Lx.look x.h.toNat_lt true (decide_eq_true hh));have HE:Hid (jF S x=false):=aa (by unfold jF;simp[hh]);clear ht hh Lx;refine wq W3 ?_;iterate 3 (refine qz ?_)
     refine qz ?_ (fun w' hw'=>by obtain⟨f1,f2,f3⟩:=F.o w' hw';go_simp<;>rfl);refine qz ?_;refine qz ?_ (fun w' hw'=>by obtain⟨f1,f2,f3⟩:=F.o w' hw';go_simp<;>rfl);refine qz ?_ (fun w' hw'=>by have hl:=Hk.o w' hw';go_simp<;>rfl);refine qz ?_;iterate 3 (refine qz ?_)
     refine qz ?_ (fun w' hw'=>by obtain⟨f1,f2,f3⟩:=F.o w' hw';go_simp<;>rfl);refine qz ?_;refine qz ?_ (fun w' hw'=>by obtain⟨f1,f2,f3⟩:=F.o w' hw';go_simp<;>rfl);refine qz ?_ (fun w' hw'=>by have hl:=Jf.o w' hw';go_simp<;>rfl);refine qz ?_;refine wpQuiet_nil ?_;intro w4 hb4;have gl:Hid (au (fun _=>False) n pb db w o d w4 o3 d3 (aS L name (aw ((B.take (i+1)).filter (jF S)) kI))):=aa (by rw[vU.o,HE.o,if_neg ah,List.append_nil];exact eD.o.below hb4);clear hb4 F Hk Jf;go_wp2;go_roundw
     case rel=>exact⟨i+1,kI,o3,d3,by go_num,ae,gl⟩
     case measure=>simp[intOf];omega
    ·have Jf:=aa (Lx.look x.h.toNat_lt false (decide_eq_false hh));have HE:Hid (jF S x=true):=aa (by unfold jF;simp[ht,hh]);clear ht hh Lx;refine wq W3 ?_;iterate 3 (refine qz ?_)
     refine qz ?_ (fun w' hw'=>by obtain⟨f1,f2,f3⟩:=F.o w' hw';go_simp<;>rfl);refine qz ?_;refine qz ?_ (fun w' hw'=>by obtain⟨f1,f2,f3⟩:=F.o w' hw';go_simp<;>rfl);refine qz ?_ (fun w' hw'=>by have hl:=Hk.o w' hw';go_simp<;>rfl);refine qz ?_;iterate 3 (refine qz ?_)
     refine qz ?_ (fun w' hw'=>by obtain⟨f1,f2,f3⟩:=F.o w' hw';go_simp<;>rfl);refine qz ?_;refine qz ?_ (fun w' hw'=>by obtain⟨f1,f2,f3⟩:=F.o w' hw';go_simp<;>rfl);refine qz ?_ (fun w' hw'=>by have hl:=Jf.o w' hw';go_simp<;>rfl);refine qz ?_;refine wpQuiet_nil ?_;intro w4 hb4;have gl:=aa (eD.o.below hb4);have Xw:w4.heap[xb]? = some (.cells #[.int .u32 (x.t.toNat:Int),.int .u32 (x.h.toNat:Int),.int .u64 (x.x.toNat:Int),.int .u32 (x.m.toNat:Int)] 64):=(hb4.block _ (Array.getElem?_eq_some_iff.1 iq.o).1).trans iq.o;have q0:w4.cell? ⟨xb,0,none⟩=some (.int .u32 (x.t.toNat:Int)):=by rw[aq Xw];rfl
     have q1:w4.cell? ⟨xb,1,none⟩=some (.int .u32 (x.h.toNat:Int)):=by rw[aq Xw];rfl
     have q2:w4.cell? ⟨xb,2,none⟩=some (.int .u64 (x.x.toNat:Int)):=by rw[aq Xw];rfl
     have q3:w4.cell? ⟨xb,3,none⟩=some (.int .u32 (x.m.toNat:Int)):=by rw[aq Xw];rfl
     have hput:=aa (ny.o (w4.alloc (.cells #[.int .u32 (x.t.toNat:Int),.int .u32 (x.h.toNat:Int),.int .u64 (x.x.toNat:Int),.int .u32 (x.m.toNat:Int)] 64)) o3 d3 acc kI (.slice (some ⟨w4.heap.size,0,none⟩) 1 1) x (gl.o.alloc _) HLEN.o Wc (fun b hb=>by cases hb;exact gl.o.aY.fresh (Nat.le_refl _)));clear hb4 F Hk Jf iq eD Xw;go_wp2_with fail;refine hput.o.mono ?_;rintro e w5⟨d5,o5,fl5,rfl,kC⟩;have lx:Hid (au (fun _=>False) n pb db w o d w5 o5 d5 (aS L name (aw ((B.take (i+1)).filter (jF S)) fl5))):=aa (by rw[vU.o,HE.o,if_pos rfl];exact kC);clear kC hput gl q0 q1 q2 q3;go_wp2;go_roundw
     case rel=>exact⟨i+1,fl5,o5,d5,by go_num,ae,lx⟩
     case measure=>simp[intOf];omega
  ·have hiz:¬(i:Int)<(M:Int):=by omega
   have HQ:Hid (R (.returned (.int .i64 0)) W2):=aa (by
    have:=eT.out;rw[List.take_of_length_le (by have:=HM.o;omega)]at this;rw[S0.o];exact⟨kI,d2,o2,rfl,this⟩)
   clear eT S0;go_wp2;exact HQ.o
end
end
section
open Go.RowKit Go.Maps
theorem I4(a:UInt32):IntKind.u32.wrap ((a.toNat:Int)+1)=((a+1).toNat:Int):=by
 rfl
theorem I5{l:List ck}{i:Nat}{y:ck}(r:UInt32)(h:l[i]? = some y):(cJ l).set (i*3) (.int .u32 (r.toNat:Int))=cJ (l.set i ⟨r,y.l,y.g⟩):=by
 induction l generalizing i with
 |nil=>cases h
 |cons a l ih=>
   cases i with
   |zero=>cases h;rfl
   |succ i=>grind [cJ]
theorem xX{l:List ck}{i:Nat}{y:ck}(r:UInt32)(h:l[i]? = some y):(cJ l).set (i*3+1) (.int .u32 (r.toNat:Int))=cJ (l.set i ⟨y.r,r,y.g⟩):=by
 induction l generalizing i with
 |nil=>cases h
 |cons a l ih=>
   cases i with
   |zero=>cases h;rfl
   |succ i=>grind [cJ]
theorem I6{l:List ck}{i:Nat}{y:ck}(r:UInt32)(h:l[i]? = some y):(cJ l).set (i*3+2) (.int .u32 (r.toNat:Int))=cJ (l.set i ⟨y.r,y.l,r⟩):=by
 induction l generalizing i with
 |nil=>cases h
 |cons a l ih=>
   cases i with
   |zero=>cases h;rfl
   |succ i=>grind [cJ]
theorem lz{L:aC}{k:Name}{f:gS}(hk:(L.map (·.1)).Nodup)(h:aA L k=some f)(f':gS):need (aS L k f')+f.need=f'.need+need L:=by
 have e:need (aS L k f)=need L:=zM hk (cC hk) fun x=>by
  grind [ay]
 grind [aS,iQ]
def eN(es:List aH):Nat:=(aw es true).need
theorem MP(es:List aH)(fl:Bool):(aw es fl).need=eN es:=rfl
theorem gj(es:List aH):eN es<=4*es.length:=cE es true
structure RL(L0 L:aC)(nX nU nD:Name)(R U D:List aH):Prop where
 x:∃f,aA L nX=some (aw R f)
 u:∃f,aA L nU=some (aw U f)
 d:∃f,aA L nD=some (aw D f)
 s8:∀y,y≠nX->y≠nU->y≠nD->aA L y=aA L0 y
 need:need L<=need L0+eN R+eN U+eN D
section
variable {S:Nat->Prop} {w0 w w' W W':World} {pb db n gb gen N ob ib vb rb mb pc done sb g vk base:Nat} {o o' gR:ar} {d d' gT:Dsk} {L0 L L' xD:aC} {es l R U D:List aH} {vs vs':List ck} {x4 x5 x6 v:Value} {name nX nU nD:Name} {fl:Bool}
theorem MQ(h:RL L0 L nX nU nD R U D)(hk:(L.map (·.1)).Nodup)(h1:nX≠nU)(h2:nX≠nD)(R':List aH)(fl:Bool):RL L0 (aS L nX (aw R' fl)) nX nU nD R' U D:=by
 obtain⟨f,hf⟩:=h.x;refine⟨⟨fl,by grind [ay]⟩,?_,?_,fun y h3 h4 h5=>by grind [ay,RL.s8],?_⟩
 ·grind [ay,RL.u]
 ·grind [ay,RL.d]
 ·have:=lz hk hf (aw R' fl);have:=h.need;grind [MP]
theorem Wd(h:RL L0 L nX nU nD R U D)(hk:(L.map (·.1)).Nodup)(h1:nX≠nU)(h2:nU≠nD)(R':List aH)(fl:Bool):RL L0 (aS L nU (aw R' fl)) nX nU nD R R' D:=by
 obtain⟨f,hf⟩:=h.u;refine⟨?_,⟨fl,by grind [ay]⟩,?_,fun y h3 h4 h5=>by grind [ay,RL.s8],?_⟩
 ·grind [ay,RL.x]
 ·grind [ay,RL.d]
 ·have:=lz hk hf (aw R' fl);have:=h.need;grind [MP]
theorem We(h:RL L0 L nX nU nD R U D)(hk:(L.map (·.1)).Nodup)(h1:nX≠nD)(h2:nU≠nD)(R':List aH)(fl:Bool):RL L0 (aS L nD (aw R' fl)) nX nU nD R U R':=by
 obtain⟨f,hf⟩:=h.d;refine⟨?_,?_,⟨fl,by grind [ay]⟩,fun y h3 h4 h5=>by grind [ay,RL.s8],?_⟩
 ·grind [ay,RL.x]
 ·grind [ay,RL.u]
 ·have:=lz hk hf (aw R' fl);have:=h.need;grind [MP]
structure RNm(gen:Nat)(nX nU nD:Name):Prop where
 xu:nX≠nU
 xd:nX≠nD
 ud:nU≠nD
 x1:nX≠aI 101 gen
 x2:nX≠aI 114 gen
 u1:nU≠aI 101 gen
 u2:nU≠aI 114 gen
 d1:nD≠aI 101 gen
 d2:nD≠aI 114 gen
theorem eB.MR{w w':World}{v:Value}{vs:List ck}(h:eB w v vs)(hb:∀b,v.ownBlock=some b->w'.heap[b]? = w.heap[b]?):eB w' v vs:=by
 obtain⟨a,cap,rfl,h1,h2,h3⟩:=h;refine⟨a,cap,rfl,h1,h2,h3.imp id ?_⟩;rintro⟨b,off,rfl,hc⟩;refine⟨b,off,rfl,fun i hi=>?_⟩;obtain⟨k0,k1,k2⟩:=hc i hi;have e:=hb b rfl;grind [World.cell?_of_block]
structure eu(w0 W:World)(pb db n:Nat)(o:ar)(d:Dsk)(L0 L:aC)(gb gen N ob ib vb:Nat)(es:List aH)(rb mb g vk done:Nat)(x5:Value)(S:List Nat)(nX nU nD:Name)(xb ub eb:Nat)(wv:Value)(was:List ck)(R U D:List aH)(vs:List ck)(base:Nat):Prop where
 iI:fJ w0 W pb db n o d L gb gen N ob ib vb es
 I7:dy W rb pb gb gen done (.map (some mb)) x5 (.slice (some ⟨g,0,none⟩) N vk)
 of:qU w0 W o rb gb ob ib vb
 ch:fF W mb S
 nZ:o mb=none
 rl:RL L0 L nX nU nD R U D
 nm:RNm gen nX nU nD
 sx:aD W xb pb nX 20
 su:aD W ub pb nU 20
 sd:aD W eb pb nD 20
 ox:o xb=none
 ou:o ub=none
 od:o eb=none
 Lz:eB W wv was
 own:∀b,wv.ownBlock=some b->b<W.heap.size/\o b=none
 O4:was.length=N
 row:dL W base (.slice (some ⟨g,0,none⟩) N vk) vs
 len:vs.length=N
 og:o g=none
 g0:w0.heap.size<=g
 gne:g≠rb/\g≠mb/\g≠gb/\g≠ob/\g≠ib/\g≠vb/\g≠xb/\g≠ub/\g≠eb/\wv.ownBlock≠some g
section
variable {xb ub eb:Nat} {wv:Value} {was:List ck} {S:List Nat}
theorem eu.moved(h:eu w0 W pb db n o d L0 L gb gen N ob ib vb es rb mb g vk done x5 S nX nU nD xb ub eb wv was R U D vs base)(hm:au (fun _=>False) n pb db W o d W' o' d' L'){R' U' D':List aH}(hl:RL L0 L' nX nU nD R' U' D')(hq:need L0+eN R'+eN U'+eN D'<=131072) :
 eu w0 W' pb db n o' d' L0 L' gb gen N ob ib vb es rb mb g vk done x5 S nX nU nD xb ub eb wv was R' U' D' vs base where
 iI:=s7 h.iI hm (by rw[hl.s8 _ h.nm.x1.symm h.nm.u1.symm h.nm.d1.symm,h.rl.s8 _ h.nm.x1.symm h.nm.u1.symm h.nm.d1.symm]) (by rw[hl.s8 _ h.nm.x2.symm h.nm.u2.symm h.nm.d2.symm,h.rl.s8 _ h.nm.x2.symm h.nm.u2.symm h.nm.d2.symm]) (by have:=hl.need;omega)
 I7:=h.I7.moved h.of.free hm
 of:=h.of.moved hm
 ch:=h.ch.kept (hm.block h.ch.lt h.nZ (fun e=>e))
 nZ:=hm.free h.ch.lt h.nZ
 rl:=hl
 nm:=h.nm
 sx:=h.sx.moved hm h.ox (fun e=>e)
 su:=h.su.moved hm h.ou (fun e=>e)
 sd:=h.sd.moved hm h.od (fun e=>e)
 ox:=hm.free h.sx.lt h.ox
 ou:=hm.free h.su.lt h.ou
 od:=hm.free h.sd.lt h.od
 Lz:=h.Lz.MR (fun b hb=>hm.block (h.own b hb).1 (h.own b hb).2 (fun e=>e))
 own:=fun b hb=>⟨Nat.lt_of_lt_of_le (h.own b hb).1 hm.size,hm.free (h.own b hb).1 (h.own b hb).2⟩
 O4:=h.O4
 row:=hm.ownsRow h.row (fun b hb=>by cases hb;grind [og])
 len:=h.len
 og:=hm.free (aL h.row g rfl).1 h.og
 g0:=h.g0
 gne:=h.gne
theorem eu.below(h:eu w0 W pb db n o d L0 L gb gen N ob ib vb es rb mb g vk done x5 S nX nU nD xb ub eb wv was R U D vs base)(hb:Below W.heap.size W W')(hq:need L0+eN R+eN U+eN D<=131072) :
 eu w0 W' pb db n o d L0 L gb gen N ob ib vb es rb mb g vk done x5 S nX nU nD xb ub eb wv was R U D vs base:=h.moved (au.aW h.iI.held.aY hb) h.rl hq
theorem eu.set(h:eu w0 W pb db n o d L0 L gb gen N ob ib vb es rb mb g vk done x5 S nX nU nD xb ub eb wv was R U D vs base)(j:Nat)(u:Value)(hr:(cJ vs).set j u=cJ vs')(hl:vs'.length=vs.length) :
 eu w0 (W.setCell ⟨g,j,none⟩ u) pb db n o d L0 L gb gen N ob ib vb es rb mb g vk done x5 S nX nU nD xb ub eb wv was R U D vs' base:=by
 obtain⟨n1,n2,n3,n4,n5,n6,n7,n8,n9,n10⟩:=h.gne;have hm:au (·=g) n pb db W o d (W.setCell ⟨g,j,none⟩ u) o d L:=(au.refl _ h.iI.held.aY).setCell _ _ h.og (.inl rfl);have hk:∀b,b≠g->(W.setCell ⟨g,j,none⟩ u).heap[b]? = W.heap[b]? := fun b hb=>Below.heap_setCell _ _ _ _ hb;have hg:=h.iI.gr;have hsz:(W.setCell ⟨g,j,none⟩ u).heap.size=W.heap.size:=by simp
 exact {
  iI:=⟨h.iI.held.moved hm (fun _ e=>e▸h.g0),h.iI.need,⟨hg.raw.moved hm hg.Vw n3.symm,hg.out.moved hm hg.PF n4.symm,hg.p9.moved hm hg.Ub n5.symm,hg.qL.moved hm hg.Jm n6.symm,hg.Vw,hg.PF,hg.Ub,hg.Jm⟩,h.iI.file,h.iI.Du,h.iI.len,h.iI.top,h.iI.ends⟩
  I7:=(hk rb n1.symm).trans h.I7
  of:=⟨h.of.new,by rw[hsz];exact h.of.lt,h.of.free,h.of.graph⟩
  ch:=h.ch.kept (hk mb n2.symm)
  nZ:=h.nZ
  rl:=h.rl
  nm:=h.nm
  sx:=h.sx.kept (hk _ n7.symm)
  su:=h.su.kept (hk _ n8.symm)
  sd:=h.sd.kept (hk _ n9.symm)
  ox:=h.ox
  ou:=h.ou
  od:=h.od
  Lz:=h.Lz.MR (fun b hb=>hk b (fun e=>n10 (e▸hb)))
  own:=fun b hb=>⟨by rw[hsz];exact(h.own b hb).1,(h.own b hb).2⟩
  O4:=h.O4
  row:=by
   grind [World.ownsRow.stored,row,len]
  len:=hl.trans h.len
  og:=h.og
  g0:=h.g0
  gne:=h.gne }
end
end
end
section
open Go.RowKit Go.Maps
section
variable {w0 w w' W W':World} {pb db n gb gen N ob ib vb rb mb done g vk base xb ub eb:Nat} {o o' gR:ar} {d d' gT:Dsk} {L0 L L' xD:aC} {es R U D:List aH} {vs vs' was:List ck} {x5 wv:Value} {S:List Nat} {nX nU nD:Name}
def Fj(w0 w:World)(pb db n:Nat)(o:ar)(d:Dsk)(L0:aC)(gb gen N ob ib vb:Nat)(es:List aH)(rb mb g vk done:Nat)(x5:Value)(S:List Nat)(nX nU nD:Name)(xb ub eb:Nat)(wv:Value)(was:List ck)(R U D:List aH)(vs:List ck)(base:Nat)(e:Ending)(w':World):Prop:=
 ∃d' o' L',e=.returned (.int .i64 0)/\au (·=g) n pb db w o d w' o' d' L'/\eu w0 w' pb db n o' d' L0 L' gb gen N ob ib vb es rb mb g vk done x5 S nX nU nD xb ub eb wv was R U D vs base
theorem eu.put(HW:aP)(h:eu w0 W pb db n o d L0 L gb gen N ob ib vb es rb mb g vk done x5 S nX nU nD xb ub eb wv was R U D vs base){sb:Nat}{name:Name}{A l:List aH}{v:Value}{fl:Bool}(hst:aD W sb pb name 20)(Ng:o sb=none)(hL:aA L name=some (aw A fl))(hv:kF W v l)(mj:∀b,v.ownBlock=some b->o b=none)(hA:A.length<=R.length+U.length+D.length)(hq:need L0+8*(l.length+R.length+U.length+D.length)<=131072) :
 Calls prog 151 #[ptrTo sb,v] W (jy (fun _=>False) n pb db W o d L name (A++l)):=by
 have:=h.rl.need;have:=gj R;have:=gj U;have:=gj D;exact I1 HW h.iI.held hst Ng hL hv mj ae ae
theorem O5{l:List ck}{i:Nat}{y:ck}(h:l[i]? = some y):l.set i y=l:=by
 refine List.ext_getElem? fun j=>?_;grind
theorem A4{l:List ck}{i:Nat}{y:ck}{f:ck->ck}(h:l[i]? = some y):l.modify i f=l.set i (f y):=by
 refine List.ext_getElem? fun j=>?_;grind
def XV(w:World)(o:ar)(v:Value)(l:List aH):Prop:=kF w v l/\∀b,v.ownBlock=some b->b<w.heap.size/\o b=none
theorem XV.moved{v:Value}{l:List aH}(h:XV w o v l)(hm:au (fun _=>False) n pb db w o d w' o' d' L'):XV w' o' v l:=
 ⟨h.1.moved hm (fun b hb=>(h.2 b hb).2),fun b hb=>⟨Nat.lt_of_lt_of_le (h.2 b hb).1 hm.size,hm.free (h.2 b hb).1 (h.2 b hb).2⟩⟩
theorem XV.of{v:Value}{l:List aH}(h:aK w base v l)(ho:∀b,v.ownBlock=some b->o b=none):XV w o v l:=⟨pG h,fun b hb=>⟨(aL h b hb).1,ho b hb⟩⟩
section
variable {pc:Nat} {oo:ar} {dd:Dsk} {ob':Obj}
theorem gM(h:eu w0 W pb db n o d L0 L gb gen N ob ib vb es rb mb g vk done x5 S nX nU nD xb ub eb wv was R U D vs base/\W.heap[pc]? = some ob'/\o pc=none/\au (·=g) n pb db w oo dd W o d L)(hm:au (fun _=>False) n pb db W o d W' o' d' L'){R' U' D':List aH}(hl:RL L0 L' nX nU nD R' U' D')(hq:need L0+eN R'+eN U'+eN D'<=131072) :
 eu w0 W' pb db n o' d' L0 L' gb gen N ob ib vb es rb mb g vk done x5 S nX nU nD xb ub eb wv was R' U' D' vs base/\W'.heap[pc]? = some ob'/\o' pc=none/\au (·=g) n pb db w oo dd W' o' d' L':=
 ⟨h.1.moved hm hl hq,hm.heap h.2.1 h.2.2.1 (fun e=>e),hm.free (Array.getElem?_eq_some_iff.1 h.2.1).1 h.2.2.1,h.2.2.2.trans hm (fun _ _ e=>e.elim)⟩
theorem yX(h:eu w0 W pb db n o d L0 L gb gen N ob ib vb es rb mb g vk done x5 S nX nU nD xb ub eb wv was R U D vs base/\W.heap[pc]? = some ob'/\o pc=none/\au (·=g) n pb db w oo dd W o d L)(hne:pc≠g)(j:Nat)(u:Value)(hr:(cJ vs).set j u=cJ vs')(hl:vs'.length=vs.length) :
 eu w0 (W.setCell ⟨g,j,none⟩ u) pb db n o d L0 L gb gen N ob ib vb es rb mb g vk done x5 S nX nU nD xb ub eb wv was R U D vs' base/\(W.setCell ⟨g,j,none⟩ u).heap[pc]? = some ob'/\o pc=none/\au (·=g) n pb db w oo dd (W.setCell ⟨g,j,none⟩ u) o d L:=
 ⟨h.1.set j u hr hl,by grind [Below.heap_setCell],h.2.2.1,h.2.2.2.setCell _ _ h.1.og (.inl rfl)⟩
theorem Tp(h:eu w0 W pb db n o d L0 L gb gen N ob ib vb es rb mb g vk done x5 S nX nU nD xb ub eb wv was R U D vs base/\W.heap[pc]? = some ob'/\o pc=none/\au (·=g) n pb db w oo dd W o d L)(hne:pc≠g)(j:Nat)(u:Value)(hr:(cJ vs).set j u=cJ vs')(hl:vs'.length=vs.length)(hq:need L0+eN R+eN U+eN D<=131072) :
 eu w0 (W.setCell ⟨g,j,none⟩ u).drew pb db n o d L0 L gb gen N ob ib vb es rb mb g vk done x5 S nX nU nD xb ub eb wv was R U D vs' base/\(W.setCell ⟨g,j,none⟩ u).drew.heap[pc]? = some ob'/\o pc=none/\au (·=g) n pb db w oo dd (W.setCell ⟨g,j,none⟩ u).drew o d L:=
 have h1:=yX h hne j u hr hl;gM h1 (au.aW h1.1.iI.held.aY aj.drew) h1.1.rl hq
end
end
end
section
open Go.RowKit Go.Maps
def vN(vs:List ck):Nat:=(bY vs true).need
structure np(L L':aC)(gen:Nat)(R U D:List aH)(vs:List ck):Prop where
 e:aA L' (aI 101 (gen+1))=some (aw (aJ false R) true)
 r:aA L' (aI 114 (gen+1))=some (aw (aJ true R) true)
 v:aA L' (aI 118 (gen+1))=some (bY vs true)
 u:aA L' (aI 117 (gen+1))=some (aw U true)
 d:aA L' (aI 100 (gen+1))=some (aw D true)
 s8:∀y,y≠aI 101 (gen+1)->y≠aI 114 (gen+1)->y≠aI 118 (gen+1)->y≠aI 117 (gen+1)->y≠aI 100 (gen+1)->aA L' y=aA L y
 need:need L'<=need L+eN (aJ false R)+eN (aJ true R)+vN vs+eN U+eN D
theorem Fk(L:aC)(k:Name):need (bZ L k)<=need L:=by
 have h1:=cM L k (.inl (([]:List Pg),true));grind [aS,iQ]
theorem Tq{L:aC}{k:Name}{f:gS}(hk:(L.map (·.1)).Nodup)(h:aA L k=some f):need (bZ L k)+f.need=need L:=by
 have:=lz hk h (.inl (([]:List Pg),true));grind [aS,iQ]
theorem rE{L:aC}{gen:Nat}{R:List aH}{vs:List ck}{y:Name}(h1:y≠aI 101 gen)(h2:y≠aI 114 gen)(h3:y≠aI 118 gen):aA (fP L gen R vs) y=aA L y:=by
 grind [fP,ay]
theorem LA{L L3:aC}{gen:Nat}{R U D:List aH}{vs:List ck}(hk:(L3.map (·.1)).Nodup)(h:RL L L3 (aI 120 (gen+1)) (aI 117 (gen+1)) (aI 100 (gen+1)) R U D)(hx:aA L (aI 120 (gen+1))=none) :
 np L (bZ (aS (aS (fP L3 (gen+1) R vs) (aI 117 (gen+1)) (aw U true)) (aI 100 (gen+1)) (aw D true)) (aI 120 (gen+1))) gen R U D vs:=by
 have ne:∀{c c':UInt8},c≠c'->aI c (gen+1)≠aI c' (gen+1):=fun h=>ir h _ _;obtain⟨f1,f2,f3⟩:=xQ L3 (gen+1) R vs;have hmo:∀y,y≠aI 101 (gen+1)->y≠aI 114 (gen+1)->y≠aI 118 (gen+1)->aA (fP L3 (gen+1) R vs) y=aA L3 y:=fun y h1 h2 h3=>rE h1 h2 h3;have vy:((fP L3 (gen+1) R vs).map (·.1)).Nodup:=by grind [fP,cC]
 obtain⟨fx,Wf⟩:=h.x;obtain⟨fu,WN⟩:=h.u;obtain⟨fd,XP⟩:=h.d;refine⟨?_,?_,?_,?_,?_,fun y h1 h2 h3 h4 h5=>?_,?_⟩
 ·grind [cO,ay]
 ·grind [cO,ay]
 ·grind [cO,ay]
 ·grind [cO,ay]
 ·grind [cO,ay]
 ·grind [cO,ay,RL.s8]
 ·have g1:=Tq (L:=aS (aS (fP L3 (gen+1) R vs) (aI 117 (gen+1)) (aw U true)) (aI 100 (gen+1)) (aw D true)) (k:=aI 120 (gen+1)) (f:=aw R fx) (cC (cC vy)) (by grind [ay]);have g2:=lz (L:=aS (fP L3 (gen+1) R vs) (aI 117 (gen+1)) (aw U true)) (k:=aI 100 (gen+1)) (f:=aw D fd) (cC vy) (by grind [ay]) (aw D true);have g3:=lz (L:=fP L3 (gen+1) R vs) (k:=aI 117 (gen+1)) (f:=aw U fu) vy (by grind) (aw U true);have g4:=cM (aS (aS L3 (aI 101 (gen+1)) (aw (aJ false R) true)) (aI 114 (gen+1)) (aw (aJ true R) true)) (aI 118 (gen+1)) (bY vs true);have g5:=cM (aS L3 (aI 101 (gen+1)) (aw (aJ false R) true)) (aI 114 (gen+1)) (aw (aJ true R) true);have g6:=cM L3 (aI 101 (gen+1)) (aw (aJ false R) true);have g7:=h.need;grind [vN,MP,fP]
end
section
open Go Go.RowKit
section
variable {P:Program} {C:World->Prop} {val:Nat->Value} {Dn:Nat->World->Prop} {l:List Oper} {a0:Act}
structure qX(C:World->Prop)(val:Nat->Value)(Dn:Nat->World->Prop)(l:List Oper)(a0:Act)(listed:Array Bool)(a:Act)(w:World):Prop where
 size:listed.size=l.length
 cls:C w
 Xu:a.tmps.size=a0.tmps.size
 dfr:a.defers=a0.defers
 out:∀k,(∀o∈l,o.dst≠some k)->a.tmps[k]? = a0.tmps[k]?
 slot:∀(i:Nat)(o:Oper)(k:Nat),l[i]? = some o->o.dst=some k->listed.getD i true=true->a.tmps[k]? = some (val i)
 dn:∀i,i<l.length->listed.getD i true=true->Dn i w
def rF(val:Nat->Value)(l:List Oper)(a0:Act)(o:Oper)(a:Act):Prop:=
 (∀k,(∀o∈l,o.dst≠some k)->a.tmps[k]? = a0.tmps[k]?)/\∀e∈o.after,Region.binds .any e=true->∀(oj:Oper)(k:Nat),l[e.on]? = some oj->oj.dst=some k->a.tmps[k]? = some (val e.on)
theorem rF.get{o:Oper}{a:Act}(h:rF val l a0 o a)(j:Nat){oj:Oper}{k:Nat}(hj:(o.after.toList.any fun e=>decide (e.on=j) && Region.binds .any e)=true)(ho:l[j]? = some oj)(hk:oj.dst=some k):a.tmps[k]? = some (val j):=by
 rw[List.any_eq_true]at hj;obtain⟨e,he,h1⟩:=hj;rw[Bool.and_eq_true,decide_eq_true_eq]at h1;obtain⟨rfl,h2⟩:=h1;exact h.2 e (by grind) h2 oj k ho hk
theorem rF.old{o:Oper}{a:Act}(h:rF val l a0 o a)(k:Nat){v:Value}(hk:(l.all fun o=>decide (o.dst≠some k))=true)(h0:a0.tmps[k]? = some v):a.tmps[k]? = some v:=by
 refine(h.1 k fun o ho=>?_).trans h0;grind
def Fl(P:Program)(C:World->Prop)(val:Nat->Value)(Dn:Nat->World->Prop)(i:Nat)(o:Oper)(a:Act)(w:World):Prop:=
 ∃w',((execOp a.eval o).run P w=.ok (.value (val i)) w'\/o.dst=none/\(execOp a.eval o).run P w=.ok .skip w')/\C w'/\Dn i w'/\∀j,Dn j w->Dn j w'
theorem O6{Q:Exit->Act->World->Prop}(hB:Hr l a0.tmps.size=true)(hstep:∀(i:Nat)(o:Oper),l[i]? = some o->∀a w,C w->rF val l a0 o a->Fl P C val Dn i o a w)(hend:∀listed a w,qX C val Dn l a0 listed a w->Region.ready .any l.toArray listed=[]->Q .normal a w)(f:Nat) :
 ∀(listed:Array Bool)(a:Act)(w:World),qX C val Dn l a0 listed a w->listed.toList.count false<=f->wpAny P .any l.toArray Q f listed a w:=by
 simp only[Hr,Bool.and_eq_true,List.all_eq_true]at hB;obtain⟨⟨hg,hb⟩,hd⟩:=hB;induction f with
 |zero=>
   intro listed a w inv hf;have hr:Region.ready .any l.toArray listed=[]:=by
    unfold Region.ready;rw[List.filter_eq_nil_iff];intro i _;have:listed.getD i true=true:=by
     rw[Array.getD_eq_getD_getElem?];grind [List.count_pos_iff]
    grind
   exact⟨hr,hend _ _ _ inv hr⟩
 |succ f ih=>
   intro listed a w inv hf;refine⟨hend _ _ _ inv,fun i hi=>?_⟩;obtain⟨uY,o,ho,hall⟩:=mem_ready.1 hi;have kH:l[i]? = some o:=by grind
   have hol:o∈l:=List.mem_of_getElem? kH;have lu:i<l.length:=(List.getElem?_eq_some_iff.1 kH).1;have hw:Region.wanted o (yielded l.toArray a.tmps)=true:=by
    grind [Region.wanted]
   obtain⟨w',hrun,hC,hD,hK⟩:=hstep i o kH a w inv.cls ⟨inv.out,fun e he PE oj k lB hk=>inv.slot _ oj k lB hk (by
    grind)⟩
   have Tr:∀j,i≠j->(listed.setIfInBounds i true).getD j true=true->listed.getD j true=true:=fun j fg h=>by
    simp_all
   unfold wpOp;rw[ho];simp only[hw,if_true];refine .inl ?_;have key:wpAny P .any l.toArray Q f (listed.setIfInBounds i true) (a.put o.dst (val i)) w':=by
    refine ih _ _ _ ⟨by grind [qX.size],hC,by rw[qG];exact inv.Xu,by rw[se];exact inv.dfr,fun k hk=>(pD _ _ _ _ (hk o hol)).trans (inv.out k hk),fun j oj k lB hk hlj=>?_,fun j hj hlj=>?_⟩ ?_
    ·by_cases fg:i=j
     ·grind [Act.put,qX.Xu]
     ·refine(pD _ _ _ _ (fun e=>?_)).trans (inv.slot j oj k lB hk (Tr j fg hlj));have h4:=hd i (List.mem_range.2 lu) j (List.mem_range.2 (List.getElem?_eq_some_iff.1 lB).1);grind
    ·grind [qX.dn]
    ·have tF:listed[i]? = some false:=by
      rw[Array.getD_eq_getD_getElem?]at uY;grind
     grind
   unfold Oper.wp;rcases hrun with hrun |⟨VX,hrun⟩
   ·rw[hrun];exact key
   ·rw[hrun];rw[VX]at key;show wpAny P .any l.toArray Q f _ (a.put o.dst undef) w';rw[VX];exact key
def aeO(l:List Oper):Bool:=(List.range l.length).all fun i=>match l[i]? with | some o=>o.after.toList.all (fun e=>!Region.binds .any e || decide (e.on<i)) | none=>true
def A5(val:Nat->Value):Act->Nat->List Oper->Act
 |a,_,[]=>a
 |a,k,o::l=>A5 val (a.put o.dst (val k)) (k+1) l
theorem O7(l:List Oper):∀(a:Act)(k:Nat),A5 val a k l=nK a l ((List.range' k l.length).map val):=by
 induction l with
 |nil=>intro a k;rfl
 |cons o l ih=>grind [A5,List.range'_succ,nK]
theorem Cv{id:Nat}{Q:Exit->Act->World->Prop}{w:World}(C:World->Prop)(val:Nat->Value)(Dn:Nat->World->Prop)(hm:P.follows .mixedOrders=true)(hB:Hr l a0.tmps.size=true)(hA:aeO l=true)(hC:C w.drew)(hstep:∀(i:Nat)(o:Oper),l[i]? = some o->∀a w,C w->rF val l a0 o a->Fl P C val Dn i o a w)(hend:∀w',C w'->(∀i,i<l.length->Dn i w')->Q .normal (A5 val a0 0 l) w'):(Code.region id l.toArray true).wp P Q a0 w:=by
 refine wp_region_any hm ?_;refine O6 hB hstep (fun listed a w inv hr=>?_) _ _ _ _ ⟨ah,hC,rfl,rfl,fun _ _=>rfl,fun i o k ho _ hl=>?_,fun i hi hl=>?_⟩ (Nat.le_trans List.count_le_length ah)
 ·have hall:∀i,i<l.length->listed.getD i true=true:=by
   intro i;induction i using Nat.strongRecOn with
   |_ i ih=>
     intro hi;by_cases hd:listed.getD i true=true
     ·exact hd
     ·exfalso
      have hm:i∈Region.ready .any l.toArray listed:=by
       refine mem_ready.2 ⟨by grind,l[i],ah,fun e he PE=>?_⟩;unfold aeO at hA;rw[List.all_eq_true]at hA;have h1:=hA i (List.mem_range.2 hi);grind
      grind
  have ha:a=nK a0 l ((List.range l.length).map val):=by
   simp only[Hr,Bool.and_eq_true,List.all_eq_true]at hB;obtain⟨⟨_,h2⟩,h3⟩:=hB;obtain⟨k1,k2,k3⟩:=qH l a0 ((List.range l.length).map val);refine xO (by rw[k1,inv.Xu]) (by rw[k2,inv.dfr]) (fun k hk=>?_);rw[k1]at hk;by_cases he:∃o∈l,o.dst=some k
   ·obtain⟨o,ho,fw⟩:=he;obtain⟨i,hi⟩:=List.mem_iff_getElem?.1 ho;have lu:=(List.getElem?_eq_some_iff.1 hi).1;rw[inv.slot i o k hi fw (hall i lu)];refine(De l a0 _ i o k _ hi fw (by grind) hk (fun j oj hj hjk=>?_)).symm;have h4:=h3 j (List.mem_range.2 (List.getElem?_eq_some_iff.1 hj).1) i (List.mem_range.2 lu);grind
   grind [qX.out]
  grind [List.range_eq_range',O7,qX.cls,qX.dn]
 ·have lu:i<l.length:=(List.getElem?_eq_some_iff.1 ho).1;simp_all
 simp_all
theorem cj{i:Nat}{o:Oper}{a:Act}{w:World}(hC:C w)(hD:Dn i w)(h:(execOp a.eval o).run P w=.ok (.value (val i)) w):Fl P C val Dn i o a w:=⟨w,.inl h,hC,hD,fun _ h=>h⟩
end
end
section
open Go.RowKit Go.Maps
section
variable {w0 w w' W W':World} {pb db n gb gen N ob ib vb rb mb done g vk base xb ub eb:Nat} {o o' gR:ar} {d d' gT:Dsk} {L0 L L' xD:aC} {es R U D:List aH} {vs vs' was:List ck} {x5 wv:Value} {S:List Nat} {nX nU nD:Name}
theorem Fm(HW:aP)(h:eu w0 w pb db n o d L0 L gb gen N ob ib vb es rb mb g vk done x5 S nX nU nD xb ub eb wv was R U D vs base)(i v:Nat)(hv:v<N)(hi:done+i<4294967296)(Ts:gen<1048576)(_hbase:base<=w.heap.size)(wy:(eW es v).length*(aX es v).length<=100000)(hq:need L0+8*(R.length+U.length+D.length+(aX es v).length+(eW es v).length+(iH es S v).length)<=131072) :
 Calls prog 103 #[ptrTo rb,.int .i64 (i:Int),.int .u32 (v:Int),wv,ptrTo xb,ptrTo ub,ptrTo eb] w
  (Fj w0 w pb db n o d L0 gb gen N ob ib vb es rb mb g vk done x5 S nX nU nD xb ub eb wv was (R++iH es S v) (U++aX es v) (D++eW es v) (fY es was done gen vs i v) base):=by
 obtain⟨wa,wk,rfl,-⟩:=h.Lz;have hN:N<=1000:=h.iI.top;obtain⟨V,hV⟩:∃V,V=UInt32.ofNat v:=⟨_,rfl⟩;have hVv:V.toNat=v:=by grind [UInt32.toNat_ofNat']
 have HV:=aa (show V=UInt32.ofNat v/\V.toNat=v from⟨hV,hVv⟩);obtain⟨RK,hRK⟩:∃x:UInt32,x=UInt32.ofNat (done+i):=⟨_,rfl⟩;obtain⟨LV,hLV⟩:∃x:UInt32,x=UInt32.ofNat (gen+1):=⟨_,rfl⟩;have hRn:RK.toNat=done+i:=by simp_all
 have hLn:LV.toNat=gen+1:=by grind [UInt32.toNat_ofNat']
 have HRL:=aa (show RK=UInt32.ofNat (done+i)/\LV=UInt32.ofNat (gen+1) from⟨hRK,hLV⟩);have HWR:Hid (IntKind.u32.wrap (i:Int)=(i:Int)/\IntKind.u32.wrap ((done:Int)+(i:Int))=(RK.toNat:Int)/\IntKind.i64.wrap ((gen:Int)+1)=((gen+1:Nat):Int)/\((gen:Int)+1)%4294967296=(LV.toNat:Int)/\IntKind.u32.wrap ((gen:Int)+1)=(LV.toNat:Int)):=aa ⟨dY _ ae ae,by grind [dY],by grind [ax],ae,by grind [IntKind.wrap_u32]⟩;have HQ:=aa hq;have HDG:=aa wy;have HRM:Hid (need L0+eN R+eN U+eN D<=131072):=aa (by grind [gj]);have HVN:=aa hv;obtain⟨PST,mg⟩:∃P,P=Fj w0 w pb db n o d L0 gb gen N ob ib vb es rb mb g vk done x5 S nX nU nD xb ub eb (.slice wa was.length wk) was (R++iH es S v) (U++aX es v) (D++eW es v) (fY es was done gen vs i v) base:=⟨_,rfl⟩;have wS:=aa mg;rw[<- mg];have H1:Hid (eu w0 (w.alloc (.cells #[ptrTo rb] 130)) pb db n o d L0 L gb gen N ob ib vb es rb mb g vk done x5 S nX nU nD xb ub eb (.slice wa was.length wk) was R U D vs base/\(w.alloc (.cells #[ptrTo rb] 130)).heap[w.heap.size]? = some (.cells #[ptrTo rb] 130)/\o w.heap.size=none/\w.heap.size≠g):=aa ⟨h.below ai (by assumption),heap_alloc_new _ _,h.iI.held.aY.fresh (Nat.le_refl _),fun e=>by have:=(aL h.row g rfl).1;omega⟩;have eY:Hid (au (·=g) n pb db w o d (w.alloc (.cells #[ptrTo rb] 130)) o d L):=aa ((au.refl _ h.iI.held.aY).alloc _);have c1:=h.I7.cells.2.1;have Jd:=h.I7.lt;clear h hq wy hN _hbase hv mg hV hVv hRK hLV hRn hLn hi Ts;unfold ptrTo at *;go_enter func103,ntmps103;go_wp2_with fail;clear c1 Jd;have iV:Hid (eu w0 (w.alloc (.cells #[.pointer (some ⟨rb,0,none⟩)] 130)) pb db n o d L0 L gb gen N ob ib vb es rb mb g vk done x5 S nX nU nD xb ub eb (.slice wa was.length wk) was R U D vs base/\(w.alloc (.cells #[.pointer (some ⟨rb,0,none⟩)] 130)).heap[w.heap.size]? = some (.cells #[.pointer (some ⟨rb,0,none⟩)] 130)/\o w.heap.size=none/\au (·=g) n pb db w o d (w.alloc (.cells #[.pointer (some ⟨rb,0,none⟩)] 130)) o d L):=aa ⟨H1.o.1,H1.o.2.1,H1.o.2.2.1,eY.o⟩;have HPG:Hid (w.heap.size≠g):=aa H1.o.2.2.2;clear H1 eY;generalize w.alloc (.cells #[.pointer (some ⟨rb,0,none⟩)] 130)=W1 at *;obtain⟨pc,hpc⟩:∃x,x=w.heap.size:=⟨_,rfl⟩;rw[<- hpc]at iV HPG ⊢;clear hpc;have hout:=aa (iV.o.1.iI.out HW HVN.o);unfold eO ptrTo at hout;refine hout.o.mono ?_;rintro e w2⟨ov,d2,o2,rfl,cR,kf,hf2⟩;obtain⟨oa,oc,rfl⟩:=az kf;have eK:=aa (gM iV.o cR iV.o.1.rl HRM.o);have aeQ:=aa (XV.of kf hf2);have mA:=aa (eK.o.1.iI.p9 HW HVN.o);have c0:w2.cell? ⟨pc,0,none⟩=some (.pointer (some ⟨rb,0,none⟩)):=by rw[aq eK.o.2.1];rfl
 have c1:w2.cell? ⟨rb,1,none⟩=some (.pointer (some ⟨gb,0,none⟩)):=eK.o.1.I7.cells.2.1;unfold eO ptrTo at mA;clear cR kf hf2 hout iV;go_wp2_with fail;refine mA.o.mono ?_;rintro e w3⟨iv,d3,o3,rfl,ep,hi3,hf3⟩;obtain⟨ia,ic,rfl⟩:=az hi3;have fC:=aa (gM eK.o ep eK.o.1.rl HRM.o);have aeR:=aa (aeQ.o.moved ep);have aeS:=aa (XV.of hi3 hf3);clear ep hi3 hf3 mA eK aeQ c0 c1;have F:Hid (∀w',Below w3.heap.size w3 w'->w'.cell? ⟨pc,0,none⟩=some (.pointer (some ⟨rb,0,none⟩))/\w'.cell? ⟨rb,1,none⟩=some (.pointer (some ⟨gb,0,none⟩))):=aa (fun w' hw'=>by
  have hs:=gM fC.o (au.aW fC.o.1.iI.held.aY hw') fC.o.1.rl HRM.o;exact⟨by rw[aq hs.2.1];rfl,hs.1.I7.cells.2.1⟩)
 go_wp2_with fail;refine cD (Below w3.heap.size w3) 12 rfl ag ag (aj.drew) ?_;simp only[List.take_succ_cons,List.take_zero];refine qz ?_ (fun w' hw'=>by obtain⟨f0,f1⟩:=F.o w' hw';go_simp<;>rfl);iterate 2 (refine qz ?_)
 refine qz ?_ (fun w' hw'=>by obtain⟨f0,f1⟩:=F.o w' hw';go_simp<;>rfl);refine qz ?_;refine qz ?_ (fun w' hw'=>by obtain⟨f0,f1⟩:=F.o w' hw';go_simp<;>rfl);iterate 2 (refine qz ?_)
 refine qz ?_ (fun w' hw'=>by obtain⟨f0,f1⟩:=F.o w' hw';go_simp<;>rfl);iterate 3 (refine qz ?_)
 refine wpQuiet_nil ?_;intro w4 hw4;refine⟨_,_,rfl,(by go_simp<;>exact⟨rfl,rfl⟩),?_⟩;have gp:=aa (gM fC.o (au.aW fC.o.1.iI.held.aY hw4) fC.o.1.rl HRM.o);have Vy:=aa (aeR.o.moved (au.aW (n:=n) fC.o.1.iI.held.aY hw4));have aeT:=aa (aeS.o.moved (au.aW (n:=n) fC.o.1.iI.held.aY hw4));have vy:=aa (sr HW gp.o.1.iI (Tm gp.o.2.1 gp.o.1.I7 gp.o.1.ch gp.o.2.2.1 gp.o.1.of.free gp.o.1.nZ) V (by grind [Hid.out]) (by grind [Hid.out]));have hce:oF (aX es) (fun x=>decide (x∈S)) (eW es v) V=iH es S v:=by grind [iH,Hid.out]
 rw[HV.o.2,hce]at vy;unfold uD uC E3 ptrTo at vy;clear hw4 F fC aeR aeS hce;refine vy.o.mono ?_;rintro e w5⟨cv,d5,o5,rfl,kC,mJ,PI⟩;have b6:=aa (gM gp.o kC gp.o.1.rl HRM.o);have aar:=aa (Vy.o.moved kC);have aeU:=aa (aeT.o.moved kC);have aeV:Hid (XV w5 o5 cv (iH es S v)):=aa ⟨mJ,fun b hb=>⟨(PI b hb).2.2,(PI b hb).1⟩⟩;obtain⟨ca,cc,rfl,-⟩:=mJ;clear kC PI vy gp Vy aeT;refine⟨_,rfl,?_⟩;go_simp;iterate 5 (refine qz ?_)
 refine wpQuiet_nil ?_;obtain⟨fu,WN⟩:=b6.o.1.rl.u;have hpu:=aa (b6.o.1.put HW b6.o.1.su b6.o.1.ou WN aar.o.1 (fun b hb=>(aar.o.2 b hb).2) ae (by grind [Hid.out]));unfold jy ptrTo at hpu;clear WN;go_wp2_with fail;refine hpu.o.mono ?_;rintro e w6⟨f6,d6,o6,rfl,nP⟩;have gy:=aa (gM b6.o nP (Wd b6.o.1.rl b6.o.1.iI.held.aY.keys b6.o.1.nm.xu b6.o.1.nm.ud (U++aX es v) f6) (by grind [Hid.out,gj]));have aas:=aa (aeU.o.moved nP);have aeW:=aa (aeV.o.moved nP);clear nP hpu b6 aar aeU aeV;obtain⟨fd,XP⟩:=gy.o.1.rl.d;have hpd:=aa (gy.o.1.put HW gy.o.1.sd gy.o.1.od XP aas.o.1 (fun b hb=>(aas.o.2 b hb).2) ae (by grind [Hid.out]));unfold jy ptrTo at hpd;clear XP;go_wp2_with fail;refine hpd.o.mono ?_;rintro e w7⟨f7,d7,o7,rfl,rJ⟩;have jP:=aa (gM gy.o rJ (We gy.o.1.rl gy.o.1.iI.held.aY.keys gy.o.1.nm.xd gy.o.1.nm.ud (D++eW es v) f7) (by grind [Hid.out,gj]));have aat:=aa (aeW.o.moved rJ);clear rJ hpd gy aas aeW;obtain⟨fx,Wf⟩:=jP.o.1.rl.x;have hpx:=aa (jP.o.1.put HW jP.o.1.sx jP.o.1.ox Wf aat.o.1 (fun b hb=>(aat.o.2 b hb).2) ae (by grind [Hid.out]));unfold jy ptrTo at hpx;clear Wf;go_wp2_with fail;refine hpx.o.mono ?_;rintro e w8⟨f8,d8,o8,rfl,Mq⟩;have Wh:Hid (need L0+eN (R++iH es S v)+eN (U++aX es v)+eN (D++eW es v)<=131072):=aa (by grind [Hid.out,gj]);have jC:=aa (gM jP.o Mq (MQ jP.o.1.rl jP.o.1.iI.held.aY.keys jP.o.1.nm.xu jP.o.1.nm.xd (R++iH es S v) f8) Wh.o);clear Mq hpx jP aat;generalize aS (aS (aS L nU (aw (U++aX es v) f6)) nD (aw (D++eW es v) f7)) nX (aw (R++iH es S v) f8)=L8 at *;generalize R++iH es S v=R8 at *;generalize U++aX es v=U8 at *;generalize D++eW es v=D8 at *;obtain⟨y,hy⟩:∃y,vs[v]? = some y:=⟨_,List.getElem?_eq_getElem (by have:=HVN.o;have:=jC.o.1.len;omega)⟩;have HY:=aa hy;obtain⟨pp,mm⟩:∃p,p=v*3:=⟨_,rfl⟩;have HPP:=aa mm;obtain⟨n1,-⟩:=jC.o.1.gne;have n2:=HPG.o;have hvn:=HVN.o;clear hy mm;obtain⟨C,hC⟩:∃C:World->Prop,C=fun W=>∃r l,(eu w0 W pb db n o8 d8 L0 L8 gb gen N ob ib vb es rb mb g vk done x5 S nX nU nD xb ub eb (.slice wa was.length wk) was R8 U8 D8 (vs.set v ⟨r,l,y.g⟩) base/\W.heap[pc]? = some (.cells #[.pointer (some ⟨rb,0,none⟩)] 130)/\o8 pc=none/\au (·=g) n pb db w o d W o8 d8 L8):=⟨_,rfl⟩;have HC:=aa hC;have F:Hid (∀W,C W->W.cell? ⟨pc,0,none⟩=some (.pointer (some ⟨rb,0,none⟩))/\W.cell? ⟨rb,2,none⟩=some (.int .i64 (gen:Int))/\W.cell? ⟨rb,3,none⟩=some (.int .u32 (done:Int))/\W.cell? ⟨rb,6,none⟩=some (.slice (some ⟨g,0,none⟩) N vk)):=aa (fun W hw=>by
  rw[HC.o]at hw;obtain⟨r,l,hs⟩:=hw;obtain⟨-,-,h2,h3,-,-,h6,-⟩:=hs.1.I7.cells;exact⟨by rw[aq hs.2.1];rfl,h2,h3,h6⟩)
 have HLV:Hid (v<vs.length):=aa (aN HY.o);have G:Hid (∀W,C W->(∃r l,W.cell? ⟨g,pp,none⟩=some (.int .u32 ((r:UInt32).toNat:Int))/\W.cell? ⟨g,pp+1,none⟩=some (.int .u32 ((l:UInt32).toNat:Int))/\eu w0 W pb db n o8 d8 L0 L8 gb gen N ob ib vb es rb mb g vk done x5 S nX nU nD xb ub eb (.slice wa was.length wk) was R8 U8 D8 (vs.set v ⟨r,l,y.g⟩) base/\W.heap[pc]? = some (.cells #[.pointer (some ⟨rb,0,none⟩)] 130)/\o8 pc=none/\au (·=g) n pb db w o d W o8 d8 L8)/\W.frozen? ⟨g,pp,none⟩=false/\W.frozen? ⟨g,pp+1,none⟩=false):=aa (fun W hw=>by
  rw[HC.o]at hw;obtain⟨r,l,hs⟩:=hw;have hrow:=hs.1.row;rw[<- hs.1.len]at hrow;obtain⟨q0,q1,-⟩:=jx hrow (List.getElem?_set_self HLV.o);grind [Hid.out,World.ownsRow.frozenAt])
 have ST:Hid (∀W,C W->C (W.setCell ⟨g,pp,none⟩ (.int .u32 (RK.toNat:Int)))/\C (W.setCell ⟨g,pp+1,none⟩ (.int .u32 (LV.toNat:Int)))):=aa (fun W hw=>by
  rw[HC.o]at hw ⊢;obtain⟨r,l,hs⟩:=hw;have hg:=List.getElem?_set_self (a:=⟨r,l,y.g⟩) HLV.o;have h1:=yX hs HPG.o pp (.int .u32 (RK.toNat:Int)) (by rw[HPP.o];exact I5 RK hg) ah;have h2:=yX hs HPG.o (pp+1) (.int .u32 (LV.toNat:Int)) (by rw[HPP.o];exact xX LV hg) ah;grind [List.set_set])
 have UH:Hid (C w8.drew):=aa (by
  have h1:=gM jC.o (au.aW jC.o.1.iI.held.aY aj.drew) jC.o.1.rl Wh.o;rw[HC.o];refine⟨y.r,y.l,?_⟩;rw[show vs.set v ⟨y.r,y.l,y.g⟩=vs from O5 HY.o];exact h1)
 have Wi:Hid (∀W,C W->W.cell? ⟨g,pp,none⟩=some (.int .u32 (RK.toNat:Int))->W.cell? ⟨g,pp+1,none⟩=some (.int .u32 (LV.toNat:Int))->(eu w0 W pb db n o8 d8 L0 L8 gb gen N ob ib vb es rb mb g vk done x5 S nX nU nD xb ub eb (.slice wa was.length wk) was R8 U8 D8 (vs.modify v fun x=>⟨RK,LV,x.g⟩) base/\W.heap[pc]? = some (.cells #[.pointer (some ⟨rb,0,none⟩)] 130)/\o8 pc=none/\au (·=g) n pb db w o d W o8 d8 L8)):=aa (fun W hw h1 h2=>by
  obtain⟨⟨r,l,q0,q1,hs⟩,-⟩:=G.o W hw;rw[h1]at q0;rw[h2]at q1;have e1:r=RK:=UInt32.toNat_inj.1 (by grind);have e2:l=LV:=UInt32.toNat_inj.1 (by grind);grind [A4,Hid.out])
 obtain⟨z1,z2,z3,z4,z5⟩:=HWR.o;clear hC jC HY;go_wp2_with fail;refine Cv C (fun q=>match q with
  |0=>.pointer (some ⟨rb,0,none⟩) | 1=>.pointer (some ⟨rb,0,none⟩) | 2=>.pointer (some ⟨rb,6,none⟩) | 3=>.slice (some ⟨g,0,none⟩) N vk | 4=>.int .u32 (v:Int)
  |5=>.pointer (some ⟨rb,0,none⟩) | 6=>.pointer (some ⟨rb,0,none⟩) | 7=>.pointer (some ⟨rb,6,none⟩) | 8=>.slice (some ⟨g,0,none⟩) N vk | 9=>.int .u32 (v:Int)
  |10=>.pointer (some ⟨rb,0,none⟩) | 11=>.pointer (some ⟨rb,0,none⟩) | 12=>.pointer (some ⟨rb,3,none⟩) | 13=>.int .u32 (done:Int) | 14=>.int .i64 (i:Int) | 15=>.int .u32 (i:Int) | 16=>.int .u32 (RK.toNat:Int)
  |17=>.pointer (some ⟨rb,0,none⟩) | 18=>.pointer (some ⟨rb,0,none⟩) | 19=>.pointer (some ⟨rb,2,none⟩) | 20=>.int .i64 (gen:Int) | 21=>.int .i64 ((gen:Int)+1) | 22=>.int .u32 (LV.toNat:Int)
  |23=>.pointer (some ⟨g,pp,none⟩) | 24=>.pointer (some ⟨g,pp,none⟩) | 26=>.pointer (some ⟨g,pp,none⟩) | 27=>.pointer (some ⟨g,pp+1,none⟩) | _=>undef)
  (fun q W=>match q with | 25=>W.cell? ⟨g,pp,none⟩=some (.int .u32 (RK.toNat:Int)) | 28=>W.cell? ⟨g,pp+1,none⟩=some (.int .u32 (LV.toNat:Int)) | _=>True) (by rfl) (by rfl) (by rfl) UH.o ?_ ?_
 ·intro j oo ho a W hW hd;obtain⟨f0,f2,f3,f6⟩:=F.o W hW;obtain⟨⟨r,l,g0,g1,-⟩,X3,fr1⟩:=G.o W hW;match j,ho with
  |0,ho=>cases ho;have h7:=hd.old 7 rfl rfl;exact cj hW trivial (by go_simp)
  |1,ho=>cases ho;have d0:=hd.get 0 rfl rfl rfl;exact cj hW trivial (by go_simp)
  |2,ho=>cases ho;have d1:=hd.get 1 rfl rfl rfl;exact cj hW trivial (by go_simp)
  |3,ho=>cases ho;have d2:=hd.get 2 rfl rfl rfl;exact cj hW trivial (by go_simp)
  |4,ho=>cases ho;have h2:=hd.old 2 rfl rfl;exact cj hW trivial (by go_simp)
  |5,ho=>cases ho;have h7:=hd.old 7 rfl rfl;exact cj hW trivial (by go_simp)
  |6,ho=>cases ho;have d5:=hd.get 5 rfl rfl rfl;exact cj hW trivial (by go_simp)
  |7,ho=>cases ho;have d6:=hd.get 6 rfl rfl rfl;exact cj hW trivial (by go_simp)
  |8,ho=>cases ho;have d7:=hd.get 7 rfl rfl rfl;exact cj hW trivial (by go_simp)
  |9,ho=>cases ho;have h2:=hd.old 2 rfl rfl;exact cj hW trivial (by go_simp)
  |10,ho=>cases ho;have h7:=hd.old 7 rfl rfl;exact cj hW trivial (by go_simp)
  |11,ho=>cases ho;have d10:=hd.get 10 rfl rfl rfl;exact cj hW trivial (by go_simp)
  |12,ho=>cases ho;have d11:=hd.get 11 rfl rfl rfl;exact cj hW trivial (by go_simp)
  |13,ho=>cases ho;have d12:=hd.get 12 rfl rfl rfl;exact cj hW trivial (by go_simp)
  |14,ho=>cases ho;have h1:=hd.old 1 rfl rfl;exact cj hW trivial (by go_simp)
  |15,ho=>cases ho;have d14:=hd.get 14 rfl rfl rfl;exact cj hW trivial (by go_simp)
  |16,ho=>cases ho;have d13:=hd.get 13 rfl rfl rfl;have d15:=hd.get 15 rfl rfl rfl;exact cj hW trivial (by go_simp)
  |17,ho=>cases ho;have h7:=hd.old 7 rfl rfl;exact cj hW trivial (by go_simp)
  |18,ho=>cases ho;have d17:=hd.get 17 rfl rfl rfl;exact cj hW trivial (by go_simp)
  |19,ho=>cases ho;have d18:=hd.get 18 rfl rfl rfl;exact cj hW trivial (by go_simp)
  |20,ho=>cases ho;have d19:=hd.get 19 rfl rfl rfl;exact cj hW trivial (by go_simp)
  |21,ho=>cases ho;have d20:=hd.get 20 rfl rfl rfl;exact cj hW trivial (by go_simp)
  |22,ho=>cases ho;have d21:=hd.get 21 rfl rfl rfl;exact cj hW trivial (by go_simp)
  |23,ho=>cases ho;have e:=HPP.o.symm;have d3:=hd.get 3 rfl rfl rfl;have d4:=hd.get 4 rfl rfl rfl;exact cj hW trivial (by go_simp)
  |24,ho=>cases ho;have d23:=hd.get 23 rfl rfl rfl;exact cj hW trivial (by go_simp)
  |25,ho=>
    cases ho;have d24:=hd.get 24 rfl rfl rfl;have d16:=hd.get 16 rfl rfl rfl;refine⟨W.setCell ⟨g,pp,none⟩ (.int .u32 (RK.toNat:Int)),.inr ⟨rfl,by go_simp⟩,(ST.o W hW).1,(by dsimp only;go_simp),fun j hj=>?_⟩
    dsimp only at hj ⊢;split
    ·go_simp
    ·clear g0 g1;go_simp;exact hj
    simp
  |26,ho=>cases ho;have e:=HPP.o.symm;have d8:=hd.get 8 rfl rfl rfl;have d9:=hd.get 9 rfl rfl rfl;exact cj hW trivial (by go_simp)
  |27,ho=>cases ho;have d26:=hd.get 26 rfl rfl rfl;exact cj hW trivial (by go_simp)
  |28,ho=>
    cases ho;have d27:=hd.get 27 rfl rfl rfl;have d22:=hd.get 22 rfl rfl rfl;refine⟨W.setCell ⟨g,pp+1,none⟩ (.int .u32 (LV.toNat:Int)),.inr ⟨rfl,by go_simp⟩,(ST.o W hW).2,(by dsimp only;go_simp),fun j hj=>?_⟩
    dsimp only at hj ⊢;split
    ·clear g0 g1;go_simp;exact hj
    ·go_simp
    simp
  |_+29,ho=>cases ho
 ·intro W9 hW9 hD;have AP:=aa (Wi.o W9 hW9 (hD 25 af) (hD 28 af));clear hW9 hD Wi UH ST G F HC HLV n1 n2 hvn z1 z2 z3 z4 z5;simp only[A5];go_simp;have c0:W9.cell? ⟨pc,0,none⟩=some (.pointer (some ⟨rb,0,none⟩)):=by rw[aq AP.o.2.1];rfl
  have hnr:=aa (IJ HW AP.o.1.iI v HVN.o AP.o.1.I7 rfl AP.o.1.of.free);unfold AQ ptrTo at hnr;go_wp2_with fail;refine hnr.o.mono ?_;rintro e PL⟨nv,d12,Jq,rfl,Fo,aav,Wk⟩;obtain⟨na,nk,rfl⟩:=az aav;have wz:=aa (gM AP.o Fo AP.o.1.rl Wh.o);obtain⟨K,hK⟩:∃K,K=(cT es v).length:=⟨_,rfl⟩;have HKL:Hid (K=(cT es v).length/\K<2147483648):=aa ⟨hK,by grind [AR,nd,Hid.out]⟩;have HNR:Hid (bD PL W9.heap.size (.slice na K nk) (cT es v)/\∀b,(Value.slice na K nk).ownBlock=some b->b≠g):=aa ⟨by grind,fun b hb e=>by
   have h1:=aG aav b (by grind);have h2:=(aL AP.o.1.row g rfl).1;omega⟩
  rw[<- hK];clear Fo aav Wk hnr AP c0 hK;obtain⟨zv,hzv⟩:∃z,was[v]? = some z:=⟨_,List.getElem?_eq_getElem (by have:=HVN.o;have:=wz.o.1.O4;omega)⟩;have HZV:=aa hzv;clear hzv;obtain⟨lv,hlv⟩:∃x,x=zv.l+1:=⟨_,rfl⟩;have akk:=aa hlv;clear hlv;have yJ:Hid ((eu w0 PL pb db n Jq d12 L0 L8 gb gen N ob ib vb es rb mb g vk done x5 S nX nU nD xb ub eb (.slice wa was.length wk) was R8 U8 D8 (((cT es v).take 0).foldl (ky lv) (vs.modify v fun x=>⟨RK,LV,x.g⟩)) base/\PL.heap[pc]? = some (.cells #[.pointer (some ⟨rb,0,none⟩)] 130)/\Jq pc=none/\au (·=g) n pb db w o d PL Jq d12 L8)/\bD PL W9.heap.size (.slice na K nk) (cT es v)):=aa ⟨wz.o,HNR.o.1⟩;clear wz;generalize W9.heap.size=bn at *;go_wp2_with fail;go_loopw [125] (fun vi wr=>∃k:Nat,vi=.int .i64 (k:Int)/\k<=K/\Hid ((eu w0 wr pb db n Jq d12 L0 L8 gb gen N ob ib vb es rb mb g vk done x5 S nX nU nD xb ub eb (.slice wa was.length wk) was R8 U8 D8 (((cT es v).take k).foldl (ky lv) (vs.modify v fun x=>⟨RK,LV,x.g⟩)) base/\wr.heap[pc]? = some (.cells #[.pointer (some ⟨rb,0,none⟩)] 130)/\Jq pc=none/\au (·=g) n pb db w o d wr Jq d12 L8)/\bD wr bn (.slice na K nk) (cT es v))) (fun vi _=>K-(intOf vi).toNat)
  case atStart=>grind
  case round=>
   obtain⟨k,rfl,hk,sZ⟩:=hrel;clear yJ;generalize wr=W14 at *;by_cases hlt:k<K
   ·have FE:(k:Int)<(K:Int):=by omega
    have wk':IntKind.i64.wrap ((k:Int)+1)=((k+1:Nat):Int):=by grind [Hid.out,ax]
    obtain⟨y0,hy0⟩:∃y,(cT es v)[k]? = some y:=⟨_,List.getElem?_eq_getElem (by grind [Hid.out])⟩;have aqf:y0<N:=ML sZ.out.1.1.iI.ends y0 (List.mem_of_getElem? hy0);have vU:Hid (((cT es v).take (k+1)).foldl (ky lv) (vs.modify v fun x=>⟨RK,LV,x.g⟩)=ky lv (((cT es v).take k).foldl (ky lv) (vs.modify v fun x=>⟨RK,LV,x.g⟩)) y0):=aa (by
     grind [List.take_succ_eq_append_getElem])
    generalize ((cT es v).take k).foldl (ky lv) (vs.modify v fun x=>⟨RK,LV,x.g⟩)=vk0 at *;obtain⟨x0,hx0⟩:∃x,vk0[y0]? = some x:=⟨_,List.getElem?_eq_getElem (by have:=sZ.out.1.1.len;omega)⟩;have Ck:=aa hx0;obtain⟨ng,rfl⟩:∃g,na=some ⟨g,0,none⟩:=by
     obtain⟨-,⟨h1,h2⟩|⟨g,_,_,h1,_⟩⟩:=sZ.out.2
     ·grind
     grind
    have hnr:=sZ.out.2;rw[HKL.o.1]at hnr;have q0:=iw (l:=cT es v) hnr hy0;have hrow:=sZ.out.1.1.row;rw[<- sZ.out.1.1.len]at hrow;obtain⟨r0,r1,r2⟩:=jx hrow hx0;obtain⟨yy,ZU⟩:∃p,y0*3=p:=⟨_,rfl⟩;have fr2:=World.ownsRow.frozenAt hrow (yy+2);rw[ZU]at r0 r1 r2;have c0:W14.cell? ⟨pc,0,none⟩=some (.pointer (some ⟨rb,0,none⟩)):=by rw[aq sZ.out.1.2.1];rfl
    obtain⟨-,-,-,-,-,-,c6,-⟩:=sZ.out.1.1.I7.cells;obtain⟨gg,hgg⟩:∃x,x=x0.g+1:=⟨_,rfl⟩;have zg:((x0.g.toNat:Int)+1)%4294967296=(gg.toNat:Int):=by simp_all
    have HGG:=aa hgg;clear hgg;have Tt:=aa (yX sZ.out.1 HPG.o (yy+2) (.int .u32 (gg.toNat:Int)) (by rw[<- ZU];exact I6 gg hx0) ah);have XW:Hid (bD (W14.setCell ⟨g,yy+2,none⟩ (.int .u32 (gg.toNat:Int))) bn (.slice (some ⟨ng,0,none⟩) K nk) (cT es v)):=aa (bH sZ.out.2 (fun b hb=>Below.heap_setCell _ _ _ _ (HNR.o.2 b hb)));clear hnr hrow hy0 hx0 sZ;go_wp2_with fail;clear q0 r0 r1 r2 fr2 c0 c6 zg;generalize W14.setCell ⟨g,yy+2,none⟩ (.int .u32 (gg.toNat:Int))=W15 at *;have aaw:(vk0.set y0 ⟨x0.r,x0.l,gg⟩)[y0]? = some ⟨x0.r,x0.l,gg⟩:=List.getElem?_set_self (aN Ck.o);have hrow:=Tt.o.1.row;rw[<- Tt.o.1.len]at hrow;obtain⟨-,r1,-⟩:=jx hrow aaw;rw[ZU]at r1;have fr1:=World.ownsRow.frozenAt hrow (yy+1);obtain⟨wa',wk',hwe,-,-,hwc⟩:=Tt.o.1.Lz;obtain⟨rfl,-,rfl⟩:wa=wa'/\was.length=was.length/\wk=wk':=by simp_all
    have hvw:v<was.length:=aN HZV.o;obtain⟨wb,wo,rfl,aeX⟩:=hwc.resolve_left ae;obtain⟨-,s1,-⟩:=aeX v hvw;have ez:was[v]=zv:=(List.getElem?_eq_some_iff.1 HZV.o).2;rw[ez]at s1;obtain⟨lm,hlm⟩:∃x,x=if x0.l<lv then lv else x0.l:=⟨_,rfl⟩;have zl:((zv.l.toNat:Int)+1)%4294967296=(lv.toNat:Int):=by have:=I4 zv.l;rw[akk.o];rfl
    have akn:=aa (Tp Tt.o HPG.o (yy+1) (.int .u32 (lm.toNat:Int)) (by rw[<- ZU];exact xX lm aaw) ah Wh.o);have XX:Hid (bD (W15.setCell ⟨g,yy+1,none⟩ (.int .u32 (lm.toNat:Int))).drew bn (.slice (some ⟨ng,0,none⟩) K nk) (cT es v)):=aa (bH XW.o (fun b hb=>by
     show(W15.setCell ⟨g,yy+1,none⟩ (.int .u32 (lm.toNat:Int))).heap[b]? = _;exact Below.heap_setCell _ _ _ _ (HNR.o.2 b hb)))
    have HLM:=aa hlm;clear hrow aaw hwe hwc aeX ez hlm Tt XW;have HFN:Hid (ky lv vk0 y0=(vk0.set y0 ⟨x0.r,x0.l,gg⟩).set y0 ⟨x0.r,lm,gg⟩):=aa (by
     unfold ky;rw[A4 Ck.o,List.set_set,HLM.o,HGG.o])
    by_cases Pu:x0.l<lv;case' pos=>
     have aeY:(x0.l.toNat:Int)<(lv.toNat:Int):=by have:=UInt32.lt_iff_toNat_lt.1 Pu;omega
     have hmx:max (x0.l.toNat:Int) (lv.toNat:Int)=(lm.toNat:Int):=by rw[HLM.o,if_pos Pu];omega
    case' neg=>
     have aeY:¬(x0.l.toNat:Int)<(lv.toNat:Int):=by have:=mt UInt32.lt_iff_toNat_lt.2 Pu;omega
     have hmx:max (x0.l.toNat:Int) (lv.toNat:Int)=(lm.toNat:Int):=by rw[HLM.o,if_neg Pu];omega
    all_goals
     clear Pu;go_wp2_with fail;go_big_region
     clear r1 fr1 s1 zl aeY hmx hvw;generalize (W15.setCell ⟨g,yy+1,none⟩ (.int .u32 (lm.toNat:Int))).drew=W16 at *;have aqj:Hid ((eu w0 W16 pb db n Jq d12 L0 L8 gb gen N ob ib vb es rb mb g vk done x5 S nX nU nD xb ub eb (.slice (some ⟨wb,wo,none⟩) was.length wk) was R8 U8 D8 (((cT es v).take (k+1)).foldl (ky lv) (vs.modify v fun x=>⟨RK,LV,x.g⟩)) base/\W16.heap[pc]? = some (.cells #[.pointer (some ⟨rb,0,none⟩)] 130)/\Jq pc=none/\au (·=g) n pb db w o d W16 Jq d12 L8)/\bD W16 bn (.slice (some ⟨ng,0,none⟩) K nk) (cT es v)):=aa ⟨by rw[vU.o,HFN.o];assumption,XX.o⟩;clear akn XX vU HFN HLM HGG;go_wp2;grind [intOf]
   ·have FE:¬(k:Int)<(K:Int):=by omega
    have HQF:Hid (PST (.returned (.int .i64 0)) W14):=aa (by
     have h1:=sZ.out.1;rw[List.take_of_length_le (by grind [Hid.out])]at h1;rw[wS.o];refine⟨d12,Jq,L8,rfl,h1.2.2.2,?_⟩;grind [fY,Hid.out])
    clear sZ;go_wp2;assumption
end
end
section
open Go.RowKit Go.Maps
section
variable {w0 w w' W W':World} {pb db n gb gen N ob ib vb rb mb done g vk base MS:Nat} {o o' gR:ar} {d d' gT:Dsk} {L L' xD:aC} {es:List aH} {was:List ck} {ov:Value} {S ch:List Nat}
def wT(w:World)(pb db n:Nat)(o:ar)(d:Dsk)(L:aC)(g gen:Nat)(R U D:List aH)(vs:List ck)(e:Ending)(w':World):Prop:=
 ∃d' o' L',e=.returned (.int .i64 0)/\au (·=g) n pb db w o d w' o' d' L'/\np L L' gen R U D vs
theorem A6(es:List aH)(h:∀z,z∈S↔z∈ch):gG es S=gG es ch:=by
 grind [gG]
theorem DA(es:List aH)(v:Nat)(h:∀z,z∈S↔z∈ch):iH es S v=iH es ch v:=by
 grind [iH]
structure MT(w0 w:World)(pb db n:Nat)(o:ar)(d:Dsk)(L:aC)(gb gen N ob ib vb:Nat)(es:List aH)(rb mb g vk done:Nat)(ov:Value)(S ch:List Nat)(was:List ck)(base MS:Nat):Prop where
 iI:fJ w0 w pb db n o d L gb gen N ob ib vb es
 I7:dy w rb pb gb gen done (.map (some mb)) ov (.slice (some ⟨g,0,none⟩) N vk)
 of:qU w0 w o rb gb ob ib vb
 cho:fF w mb S
 nZ:o mb=none
 ord:bD w MS ov ch
 ako:∀b,ov.ownBlock=some b->o b=none
 row:dL w base (.slice (some ⟨g,0,none⟩) N vk) was
 len:was.length=N
 og:o g=none
 rg:rb<g
 gm:g<mb
 go:∀b,ov.ownBlock=some b->g<b
 same:∀z,z∈S↔z∈ch
 low:∀v∈ch,v<N
 ne:ch≠[]
theorem Tu{nX nU nD:Name}(xu:nX≠nU)(xd:nX≠nD)(ud:nU≠nD):RL L (aS (aS (aS L nX (aw [] true)) nU (aw [] true)) nD (aw [] true)) nX nU nD [] [] []:=by
 refine⟨⟨true,?_⟩,⟨true,?_⟩,⟨true,?_⟩,fun y g1 g2 g3=>?_,?_⟩
 ·grind [ay]
 ·grind [ay]
 ·grind [ay]
 ·grind [ay]
 ·have e:(aw [] true).need=0:=rfl;grind [cM]
theorem Fp{α β:Type}(l:List α)(f:α->List β)(k:Nat):((l.take k).flatMap f).length<=(l.flatMap f).length:=by
 grind [List.take_append_drop]
theorem Tv{l:List Nat}{k y:Nat}(h:l[k]? = some y):(l.take (k+1)).zipIdx=(l.take k).zipIdx++[(y,k)]:=by
 grind [List.take_succ_eq_append_getElem]
theorem eB.lt{v:Value}{vs:List ck}(h:eB w v vs)(h0:vs.length≠0):∀b,v.ownBlock=some b->b<w.heap.size:=by
 obtain⟨a,cap,rfl,-,-,h |⟨b,off,rfl,hc⟩⟩:=h
 ·omega
 ·intro x hx;cases hx;exact World.block_lt_of_cell? _ _ (hc 0 ae).1
theorem A7(HW:aP){m:Nat}(yD:dX m)(hn:8<=n)(h:MT w0 w pb db n o d L gb gen N ob ib vb es rb mb g vk done ov S ch was base MS)(Ts:gen+1<100)(fO:∀c,aA L (aI c (gen+1))=none)(Bp:∀k,aA L (dx k)=none)(hm:(fR es ch).length<=m)(hq:need L+24*((fR es ch).length+(yI es ch).length+(gH es ch).length)+8*es.length+4*N+8<=131072)(hdone:done+ch.length<4294967296)(wy:∀v,v<N->(eW es v).length*(aX es v).length<=100000) :
 Calls prog 65 #[ptrTo rb] w (wT w pb db n o d L g gen (fR es ch) (yI es ch) (gH es ch) (cU es was done gen ch)):=by
 have H:=aa h;have yl:Hid (gen+1<100):=aa Ts;have HF:=aa fO;have HNT:=aa Bp;have NU:=aa hm;have HQ:=aa hq;have SN:=aa hdone;have HDG:=aa wy;have ne:∀{c c':UInt8},c≠c'->aI c (gen+1)≠aI c' (gen+1):=fun h=>ir h _ _;have ng:∀(c c':UInt8),aI c (gen+1)≠aI c' gen:=fun c c'=>aZ ae;have AL:Hid (RNm gen (aI 120 (gen+1)) (aI 117 (gen+1)) (aI 100 (gen+1))):=aa ⟨ne af,ne af,ne af,ng _ _,ng _ _,ng _ _,ng _ _,ng _ _,ng _ _⟩;have Wl:Hid (∀c:UInt8,iZ c=true->bL (aI c (gen+1))=true):=aa (fun c hc=>uz c hc ae);have Gr:Hid (∀(c:UInt8)W,Calls prog 18 #[.int .u8 (c.toNat:Int),.int .i64 ((gen+1:Nat):Int)] W fun e w'=>e=.returned (.string (aI c (gen+1)))/\Below W.heap.size W w'):=aa (fun c W=>dQ c (gen+1) (o:=fun _=>Option.none) (.inl Ts));have wg:IntKind.i64.wrap ((gen:Int)+1)=((gen+1:Nat):Int):=by grind [ax]
 have I8:Hid (∀W o' d' L',au (fun _=>False) n pb db w o d W o' d' L'->Held w0 W pb db n o' d' L'/\dy W rb pb gb gen done (.map (some mb)) ov (.slice (some ⟨g,0,none⟩) N vk)/\o' rb=none):=aa (fun W o' d' L' pW=>⟨h.iI.held.moved pW (fun _ e=>e.elim),h.I7.moved h.of.free pW,pW.free h.of.lt h.of.free⟩);obtain⟨PST,mg⟩:∃P,P=wT w pb db n o d L g gen (fR es ch) (yI es ch) (gH es ch) (cU es was done gen ch):=⟨_,rfl⟩;have wS:=aa mg;rw[<- mg];obtain⟨c0,-,c2,-⟩:=h.I7.cells;clear h Ts fO Bp hm hq hdone wy mg ne ng;obtain⟨nX,hX⟩:∃x,x=aI 120 (gen+1):=⟨_,rfl⟩;obtain⟨nU,hU⟩:∃x,x=aI 117 (gen+1):=⟨_,rfl⟩;obtain⟨nD,hD⟩:∃x,x=aI 100 (gen+1):=⟨_,rfl⟩;have Uj:=aa (show nX=aI 120 (gen+1)/\nU=aI 117 (gen+1)/\nD=aI 100 (gen+1) from⟨hX,hU,hD⟩);rw[<- hX,<- hU,<- hD]at AL;have Jn:Hid (bL nX=true/\bL nU=true/\bL nD=true):=aa ⟨by rw[hX];exact Wl.o 120 af,by rw[hU];exact Wl.o 117 af,by rw[hD];exact Wl.o 100 af⟩;have HFX:Hid (aA L nX=none/\aA L nU=none/\aA L nD=none):=aa ⟨by grind [Hid.out],by grind [Hid.out],by grind [Hid.out]⟩;have Bg:=aa (Gr.o 120);have T8:=aa (Gr.o 117);have XL:=aa (Gr.o 100);rw[<- hX]at Bg;rw[<- hU]at T8;rw[<- hD]at XL;clear hX hU hD Gr Wl;unfold ptrTo at *;go_enter func65,ntmps65;go_wp2_with fail;refine(Bg.o _).mono ?_;rintro e w1⟨rfl,hb1⟩;have eY:Hid (au (fun _=>False) n pb db w o d w1 o d L):=aa (au.aW H.o.iI.held.aY hb1);clear hb1 Bg c0 c2;have mJ:=aa (kP (I8.o _ _ _ _ eY.o).1 (I8.o _ _ _ _ eY.o).2.1 (I8.o _ _ _ _ eY.o).2.2 Jn.o.1 HFX.o.1);unfold kB ptrTo at mJ;go_wp2_with fail;refine mJ.o.mono ?_;rintro e w2⟨xb,d2,o2,rfl,cR,hsx,hxg,hox⟩;have my:Hid (aD w2 xb pb nX 20/\o2 xb=none/\w.heap.size<=xb):=aa ⟨hsx,hox,Nat.le_trans eY.o.size hxg⟩;have eT:=aa (eY.o.trans cR (fun _ _ e=>e));obtain⟨-,-,c2,-⟩:=(I8.o _ _ _ _ eT.o).2.1.cells;clear cR hsx hxg hox mJ eY;go_wp2_with fail;refine(T8.o _).mono ?_;rintro e w3⟨rfl,hb3⟩;have eD:=aa (eT.o.below hb3);have iq:Hid (aD w3 xb pb nX 20/\o2 xb=none):=aa ⟨my.o.1.below hb3,my.o.2.1⟩;clear hb3 T8 c2;have mJ:=aa (kP (I8.o _ _ _ _ eD.o).1 (I8.o _ _ _ _ eD.o).2.1 (I8.o _ _ _ _ eD.o).2.2 Jn.o.2.1 (by rw[ay,if_neg AL.o.xu.symm];exact HFX.o.2.1));unfold kB ptrTo at mJ;go_wp2_with fail;refine mJ.o.mono ?_;rintro e w4⟨ub,d4,o4,rfl,eV,hsu,hug,hou⟩;have FD:Hid ((aD w4 xb pb nX 20/\o4 xb=none)/\(aD w4 ub pb nU 20/\o4 ub=none/\w.heap.size<=ub)):=aa ⟨⟨iq.o.1.moved eV iq.o.2 (fun e=>e),eV.free iq.o.1.lt iq.o.2⟩,hsu,hou,Nat.le_trans eD.o.size hug⟩;have gl:=aa (eD.o.trans eV (fun _ _ e=>e));obtain⟨-,-,c2,-⟩:=(I8.o _ _ _ _ gl.o).2.1.cells;clear eV hsu hug hou mJ eD eT iq;go_wp2_with fail;refine(XL.o _).mono ?_;rintro e w5⟨rfl,oN⟩;have lx:=aa (gl.o.below oN);have ye:Hid ((aD w5 xb pb nX 20/\o4 xb=none)/\(aD w5 ub pb nU 20/\o4 ub=none)):=aa ⟨⟨FD.o.1.1.below oN,FD.o.1.2⟩,FD.o.2.1.below oN,FD.o.2.2.1⟩;clear oN XL c2;have mJ:=aa (kP (I8.o _ _ _ _ lx.o).1 (I8.o _ _ _ _ lx.o).2.1 (I8.o _ _ _ _ lx.o).2.2 Jn.o.2.2 (by rw[ay,if_neg AL.o.ud.symm,ay,if_neg AL.o.xd.symm];exact HFX.o.2.2));unfold kB ptrTo at mJ;go_wp2_with fail;refine mJ.o.mono ?_;rintro e w6⟨eb,d6,o6,rfl,nP,hse,heg,hoe⟩;have mz:Hid ((aD w6 xb pb nX 20/\o6 xb=none/\w.heap.size<=xb)/\(aD w6 ub pb nU 20/\o6 ub=none/\w.heap.size<=ub)/\aD w6 eb pb nD 20/\o6 eb=none/\w.heap.size<=eb):=aa ⟨⟨ye.o.1.1.moved nP ye.o.1.2 (fun e=>e),nP.free ye.o.1.1.lt ye.o.1.2,my.o.2.2⟩,⟨ye.o.2.1.moved nP ye.o.2.2 (fun e=>e),nP.free ye.o.2.1.lt ye.o.2.2,FD.o.2.2.2⟩,hse,hoe,Nat.le_trans lx.o.size heg⟩;have xN:=aa (lx.o.trans nP (fun _ _ e=>e));have Tw:=aa (Tu (L:=L) AL.o.xu AL.o.xd AL.o.ud);generalize hL6:aS (aS (aS L nX (aw [] true)) nU (aw [] true)) nD (aw [] true)=L6 at *;clear nP hse heg hoe mJ lx gl ye FD my hL6;have Lv:Hid (∀W o' d' L' R U D,au (fun _=>False) n pb db w o d W o' d' L'->RL L L' nX nU nD R U D->need L'<=131072->fJ w0 W pb db n o' d' L' gb gen N ob ib vb es):=aa (fun W o' d' L' R U D pW hl hq=>s7 H.o.iI pW (hl.s8 _ AL.o.x1.symm AL.o.u1.symm AL.o.d1.symm) (hl.s8 _ AL.o.x2.symm AL.o.u2.symm AL.o.d2.symm) hq);have HN6:Hid (need L6<=need L):=aa (by have:=Tw.o.need;exact this);obtain⟨fx,Wf⟩:=Tw.o.x;have hst:=aa (Cu HW (Lv.o _ _ _ _ _ _ _ xN.o Tw.o (by grind [Hid.out])) (I8.o _ _ _ _ xN.o).2.1 (I8.o _ _ _ _ xN.o).2.2 (H.o.cho.kept (xN.o.block H.o.cho.lt H.o.nZ (fun e=>e))) (xN.o.free H.o.cho.lt H.o.nZ) mz.o.1.1 mz.o.1.2.1 Wf AL.o.x1 AL.o.x2 (by grind [Hid.out]));unfold jy ptrTo at hst;clear Wf;go_wp2_with fail;refine hst.o.mono ?_;rintro e w7⟨f7,d7,o7,rfl,rJ⟩;have Wm:=aa (MQ Tw.o xN.o.aY.keys AL.o.xu AL.o.xd (gG es S) f7);have kL:Hid ((aD w7 xb pb nX 20/\o7 xb=none)/\(aD w7 ub pb nU 20/\o7 ub=none)/\aD w7 eb pb nD 20/\o7 eb=none):=aa ⟨⟨mz.o.1.1.moved rJ mz.o.1.2.1 (fun e=>e),rJ.free mz.o.1.1.lt mz.o.1.2.1⟩,⟨mz.o.2.1.1.moved rJ mz.o.2.1.2.1 (fun e=>e),rJ.free mz.o.2.1.1.lt mz.o.2.1.2.1⟩,mz.o.2.2.1.moved rJ mz.o.2.2.2.1 (fun e=>e),rJ.free mz.o.2.2.1.lt mz.o.2.2.2.1⟩;have Bk:=aa (xN.o.trans rJ (fun _ _ e=>e));generalize aS L6 nX (aw (gG es S) f7)=L7 at *;clear rJ hst xN Tw HN6;obtain⟨oa,ok,rfl⟩:=az H.o.ord;obtain⟨M,hM'⟩:∃M,M=ch.length:=⟨_,rfl⟩;have Wb:=aa hM';clear hM';obtain⟨-,-,-,-,-,-,c6,-⟩:=(I8.o _ _ _ _ Bk.o).2.1.cells;have akp:=(I8.o _ _ _ _ Bk.o).2.1.lt;have XY:Hid (dL w7 base (.slice (some ⟨g,0,none⟩) N vk) was):=aa (Bk.o.ownsRow H.o.row (fun b hb=>by cases hb;exact⟨H.o.og,fun e=>e⟩));have ae1:Hid (PJ w7 (.slice (some ⟨g,0,none⟩) N vk) was):=aa (j5 XY.o).1.rd;have HWL:Hid (was.length<=1000):=aa (by rw[H.o.len];exact H.o.iI.top);go_wp2_with (refine kS (w:=w7) (by rfl) _ _ rfl rfl _ was rfl ae1.o (by grind [Hid.out]) (fun v8 w8 HVs HVo yV=>?_);have c5:w8.cell? ⟨rb,5,none⟩=some (.slice oa M ok):=(by rw[Wb.o];exact(I8.o _ _ _ _ (Bk.o.below yV.out)).2.1.cells.2.2.2.2.2.1));have hM:=Wb.o;obtain⟨wa,wk,rfl,-⟩:=HVs.out;have rT:=aa (Bk.o.below yV.out);have kR:Hid (was.length≠0):=aa (by
  cases e:ch with
  |nil=>exact absurd e H.o.ne
  |cons v l=>have:=H.o.low v (by grind);rw[H.o.len];omega)
 have HGL:Hid (g<w.heap.size/\base<=g):=aa ⟨(aL H.o.row g rfl).1,aG H.o.row g rfl⟩;have jC:Hid (eu w0 w8 pb db n o7 d7 L L7 gb gen N ob ib vb es rb mb g vk done (.slice oa ch.length ok) S nX nU nD xb ub eb (.slice wa was.length wk) was (gG es S++(ch.take 0).flatMap (iH es S)) ((ch.take 0).flatMap (aX es)) ((ch.take 0).flatMap (eW es)) (((ch.take 0).zipIdx).foldl (fun vs p=>fY es was done gen vs p.2 p.1) was) base/\au (·=g) n pb db w o d w8 o7 d7 L7):=aa (by
  obtain⟨g1,g2,g3,g4⟩:=H.o.of.graph;have g5:=H.o.rg;have g6:=H.o.gm;have g7:=HGL.o.1;have g8:=mz.o.1.2.2;have g9:=mz.o.2.1.2.2;have g10:=mz.o.2.2.2.2;have hst:(gG es S++(ch.take 0).flatMap (iH es S))=gG es S:=by simp
  rw[hst];exact⟨{
   iI:=Lv.o _ _ _ _ _ _ _ rT.o Wm.o (by have:=Wm.o.need;grind [gj,gG,cF,Hid.out])
   I7:=(I8.o _ _ _ _ rT.o).2.1
   of:=H.o.of.moved rT.o
   ch:=H.o.cho.kept (rT.o.block H.o.cho.lt H.o.nZ (fun e=>e))
   nZ:=rT.o.free H.o.cho.lt H.o.nZ
   rl:=Wm.o
   nm:=AL.o
   sx:=kL.o.1.1.below yV.out
   su:=kL.o.2.1.1.below yV.out
   sd:=kL.o.2.2.1.below yV.out
   ox:=kL.o.1.2
   ou:=kL.o.2.1.2
   od:=kL.o.2.2.2
   Lz:=HVs.out
   own:=fun b hb=>⟨eB.lt HVs.out kR.o b hb,Bk.o.aY.fresh (HVo.out b hb)⟩
   O4:=H.o.len
   row:=rT.o.ownsRow H.o.row (fun b hb=>by cases hb;exact⟨H.o.og,fun e=>e⟩)
   len:=H.o.len
   og:=rT.o.free HGL.o.1 H.o.og
   g0:=Nat.le_trans H.o.of.new (Nat.le_of_lt H.o.rg)
   gne:=⟨ae,ae,ae,ae,ae,ae,ae,ae,ae,fun e=>by have:=HVo.out g e;have:=Bk.o.size;omega⟩ },rT.o.mono (fun _ _ e=>e.elim)⟩)
 have HM:Hid (M=ch.length/\M<=9223372036854775807):=aa ⟨hM,by
  grind [Hid.out]⟩
 have ae2:Hid (∀W o' d' L',au (·=g) n pb db w o d W o' d' L'->bD W MS (.slice oa M ok) ch):=aa (fun W o' d' L' pW=>by rw[hM];exact pW.ownsRow H.o.ord (fun b hb=>⟨H.o.ako b hb,fun e=>by have:=H.o.go b hb;omega⟩));rw[<- hM]at jC;have HLEN:Hid (∀k,(gG es S++(ch.take k).flatMap (iH es S)).length<=(fR es ch).length/\((ch.take k).flatMap (aX es)).length<=(yI es ch).length/\((ch.take k).flatMap (eW es)).length<=(gH es ch).length):=aa (fun k=>by
  refine⟨?_,Fp _ _ _,Fp _ _ _⟩;have hf:iH es S=iH es ch:=funext fun v=>DA es v H.o.same;unfold fR;rw[A6 es H.o.same,hf,List.length_append,List.length_append];grind [Fp])
 clear hM Wb c6 akp HVs HVo yV XY ae1 HWL mz kL Wm Bk rT kR c5;go_loopw [76] (fun vi wr=>∃(k:Nat)(o':ar)(d':Dsk)(L':aC),vi=.int .i64 (k:Int)/\k<=M/\Hid (eu w0 wr pb db n o' d' L L' gb gen N ob ib vb es rb mb g vk done (.slice oa M ok) S nX nU nD xb ub eb (.slice wa was.length wk) was (gG es S++(ch.take k).flatMap (iH es S)) ((ch.take k).flatMap (aX es)) ((ch.take k).flatMap (eW es)) (((ch.take k).zipIdx).foldl (fun vs p=>fY es was done gen vs p.2 p.1) was) base/\au (·=g) n pb db w o d wr o' d' L')) (fun vi _=>M-(intOf vi).toNat)
 case atStart=>grind
 case round=>
  obtain⟨k,o9,d9,L9,rfl,hk,p8⟩:=hrel;clear jC;generalize wr=W9 at *;by_cases hlt:k<M
  ·have FE:(k:Int)<(M:Int):=by omega
   have wk':IntKind.i64.wrap ((k:Int)+1)=((k+1:Nat):Int):=by grind [Hid.out,ax]
   obtain⟨v,hv⟩:∃v,ch[k]? = some v:=⟨_,List.getElem?_eq_getElem (by grind [Hid.out])⟩;obtain⟨og',rfl⟩:∃g,oa=some ⟨g,0,none⟩:=by
    obtain⟨-,⟨h1,h2⟩|⟨g,_,_,h1,_⟩⟩:=H.o.ord
    ·grind
    grind
   have hrow:=ae2.o _ _ _ _ p8.out.2;rw[HM.o.1]at hrow;have q0:=iw (l:=ch) hrow hv;have e1:=rC (f:=iH es S) hv;have e2:=rC (f:=aX es) hv;have e3:=rC (f:=eW es) hv;have e4:=Tv hv;have HE:Hid (gG es S++(ch.take (k+1)).flatMap (iH es S)=(gG es S++(ch.take k).flatMap (iH es S))++iH es S v/\(ch.take (k+1)).flatMap (aX es)=(ch.take k).flatMap (aX es)++aX es v/\(ch.take (k+1)).flatMap (eW es)=(ch.take k).flatMap (eW es)++eW es v/\((ch.take (k+1)).zipIdx).foldl (fun vs p=>fY es was done gen vs p.2 p.1) was=fY es was done gen (((ch.take k).zipIdx).foldl (fun vs p=>fY es was done gen vs p.2 p.1) was) k v):=aa ⟨by grind,e2,e3,by grind⟩;have hout:=aa (Fm HW p8.out.1 k v (H.o.low v (List.mem_of_getElem? hv)) (by grind [Hid.out]) (by grind [Hid.out]) (by have:=HGL.o;have:=p8.out.2.size;omega) (HDG.o v (H.o.low v (List.mem_of_getElem? hv))) (by
    grind [Hid.out]))
   unfold Fj ptrTo at hout;clear hrow hv e1 e2 e3 e4;go_wp2_with fail;refine hout.o.mono ?_;rintro e Vv⟨d10,o10,L10,rfl,Am,akq⟩;have nN:Hid (eu w0 Vv pb db n o10 d10 L L10 gb gen N ob ib vb es rb mb g vk done (.slice (some ⟨og',0,none⟩) M ok) S nX nU nD xb ub eb (.slice wa was.length wk) was (gG es S++(ch.take (k+1)).flatMap (iH es S)) ((ch.take (k+1)).flatMap (aX es)) ((ch.take (k+1)).flatMap (eW es)) (((ch.take (k+1)).zipIdx).foldl (fun vs p=>fY es was done gen vs p.2 p.1) was) base/\au (·=g) n pb db w o d Vv o10 d10 L10):=aa ⟨by rw[HE.o.1,HE.o.2.1,HE.o.2.2.1,HE.o.2.2.2];omega,p8.out.2.trans Am (fun _ _ e=>e)⟩;clear Am akq hout p8 HE q0;go_wp2;go_roundw
   case rel=>grind
   grind [intOf]
  ·have FE:¬(k:Int)<(M:Int):=by omega
   have nN:Hid (eu w0 W9 pb db n o9 d9 L L9 gb gen N ob ib vb es rb mb g vk done (.slice oa M ok) S nX nU nD xb ub eb (.slice wa was.length wk) was (fR es ch) (yI es ch) (gH es ch) (cU es was done gen ch) base/\au (·=g) n pb db w o d W9 o9 d9 L9):=aa (by
    have h1:=p8.out;rw[List.take_of_length_le (by grind [Hid.out]),A6 es H.o.same,show iH es S=iH es ch from funext fun v=>DA es v H.o.same]at h1;exact h1)
   clear p8 ae2 Lv;have HMK:Hid (∀W o' d',au (fun _=>False) n pb db W9 o9 d9 W o' d' L9->Calls prog 45 #[ptrTo pb,.string nX,.int .i64 ((gen+1:Nat):Int),.slice (some ⟨g,0,none⟩) N vk] W fun e w'=>∃gT gR,e=.returned (.int .i64 0)/\au (fun _=>False) n pb db W9 o9 d9 w' gR gT (fP L9 (gen+1) (fR es ch) (cU es was done gen ch))):=aa (fun W o' d' pW=>by
    have hs:=nN.o.1;obtain⟨fl,LZ⟩:=hs.rl.x;have Tr:∀c:UInt8,c≠120->c≠117->c≠100->aA L9 (aI c (gen+1))=none:=fun c h1 h2 h3=>by
     rw[hs.rl.s8 _ (by grind [Hid.out,ir]) (by grind [Hid.out,ir]) (by grind [Hid.out,ir]),HF.o c]
    have hrow:=pW.ownsRow hs.row (fun b hb=>by cases hb;grind [eu.og]);have hv:=(j5 hrow).1;refine(sf HW yD pW.aY hn (gen:=gen+1) (.inl yl.o) LZ (by grind [Hid.out,rA]) NU.o (Tr 101 af af af) (Tr 114 af af af) (Tr 118 af af af) (fun k=>by
     rw[hs.rl.s8 _ (by grind [Hid.out,bo]) (by grind [Hid.out,bo]) (by grind [Hid.out,bo]),HNT.o k]) hv (fun b hb=>by cases hb;exact pW.free (aL hs.row g rfl).1 hs.og) (by rw[hs.len];have:=hs.iI.top;omega)).mono ?_
    rintro e w'⟨c,gT,gR,xD,rfl,cR,-,hc⟩;have hh:=hs.iI.held.moved pW (fun _ e=>e.elim);have h0:c=0:=hh.fine cR (hc.imp (fun h=>h.1) id) (by
     have g1:=hs.rl.need;grind [gj,eu.len,Hid.out])
    subst h0;rcases hc with⟨_,rfl⟩| hc
    ·exact⟨gT,gR,rfl,pW.trans cR (fun _ _ e=>e)⟩
    grind [jq.ne])
   have Wn:Hid (∀W o' d' L',au (fun _=>False) n pb db W9 o9 d9 W o' d' L'->W.cell? ⟨rb,0,none⟩=some (.pointer (some ⟨pb,0,none⟩))/\W.cell? ⟨rb,2,none⟩=some (.int .i64 (gen:Int))/\W.cell? ⟨rb,6,none⟩=some (.slice (some ⟨g,0,none⟩) N vk)):=aa (fun W o' d' L' pW=>by
    obtain⟨h0,-,h2,-,-,-,h6,-⟩:=(nN.o.1.I7.moved nN.o.1.of.free pW).cells;exact⟨h0,h2,h6⟩)
   have sO:Hid (∀c:UInt8,c=120\/c=117\/c=100->aI c (gen+1)≠aI 101 (gen+1)/\aI c (gen+1)≠aI 114 (gen+1)/\aI c (gen+1)≠aI 118 (gen+1)):=aa (by
    grind [ir])
   obtain⟨Tx,aay⟩:∃l,l=fP L9 (gen+1) (fR es ch) (cU es was done gen ch):=⟨_,rfl⟩;rw[<- aay]at HMK;have aks:Hid (need Tx<=need L+12*(fR es ch).length+4*(yI es ch).length+4*(gH es ch).length+4*N):=aa (by
    have g1:=nN.o.1.rl.need;have g2:=gj (fR es ch);have g3:=gj (yI es ch);have g4:=gj (gH es ch);have g5:=nN.o.1.len;grind [Av])
   have Wo:Hid ((∃f,aA Tx nX=some (aw (fR es ch) f))/\(∃f,aA Tx nU=some (aw (yI es ch) f))/\∃f,aA Tx nD=some (aw (gH es ch) f)):=aa (by
    have hs:=nN.o.1.rl;grind [RL.x,Hid.out,rE,RL.u,RL.d])
   have ae3:Hid (∀W o' d',au (fun _=>False) n pb db W9 o9 d9 W o' d' Tx->Calls prog 79 #[ptrTo pb,.string nU] W fun e w'=>∃gT gR,e=.returned (.int .i64 0)/\au (fun _=>False) n pb db W9 o9 d9 w' gR gT (aS Tx nU (aw (yI es ch) true))):=aa (fun W o' d' pW=>by
    obtain⟨f,hf⟩:=Wo.o.2.1;refine(pB HW pW.aY hf).mono ?_;rintro e w'⟨c,gT,gR,rfl,cR,p7⟩;have h0:c=0:=(nN.o.1.iI.held.moved pW (fun _ e=>e.elim)).pT cR p7 (by grind [Hid.out]);subst h0;exact⟨gT,gR,rfl,pW.trans cR (fun _ _ e=>e)⟩)
   have ae4:Hid (∀W o' d',au (fun _=>False) n pb db W9 o9 d9 W o' d' (aS Tx nU (aw (yI es ch) true))->Calls prog 79 #[ptrTo pb,.string nD] W fun e w'=>∃gT gR,e=.returned (.int .i64 0)/\au (fun _=>False) n pb db W9 o9 d9 w' gR gT (aS (aS Tx nU (aw (yI es ch) true)) nD (aw (gH es ch) true))):=aa (fun W o' d' pW=>by
    obtain⟨f,hf⟩:=Wo.o.2.2;refine(pB HW pW.aY (by rw[ay,if_neg AL.o.ud.symm];exact hf)).mono ?_;rintro e w'⟨c,gT,gR,rfl,cR,p7⟩;have h0:c=0:=(nN.o.1.iI.held.moved pW (fun _ e=>e.elim)).pT cR p7 (by
     grind [cM,cE,Hid.out])
    subst h0;exact⟨gT,gR,rfl,pW.trans cR (fun _ _ e=>e)⟩)
   have akt:Hid (∀W o' d',au (fun _=>False) n pb db W9 o9 d9 W o' d' (aS (aS Tx nU (aw (yI es ch) true)) nD (aw (gH es ch) true))->Calls prog 62 #[ptrTo pb,.string nX] W fun e w'=>∃gT gR,e=.returned (.int .i64 0)/\au (fun _=>False) n pb db W9 o9 d9 w' gR gT (bZ (aS (aS Tx nU (aw (yI es ch) true)) nD (aw (gH es ch) true)) nX)):=aa (fun W o' d' pW=>by
    obtain⟨f,hf⟩:=Wo.o.1;refine(tV pW.aY (by rw[ay,if_neg AL.o.xd,ay,if_neg AL.o.xu];exact hf)).mono ?_;rintro e w'⟨c,gT,gR,xD,rfl,hp,ht,hg,x7,hdr⟩;have cR:au (fun _=>False) n pb db W o' d' w' gR gT xD:=ji hp ht hg x7;have hh:=(nN.o.1.iI.held.moved pW (fun _ e=>e.elim)).moved cR (fun _ e=>e.elim);rcases hdr with⟨rfl,rfl⟩|⟨-,h2,-⟩
    ·exact⟨gT,gR,rfl,pW.trans cR (fun _ _ e=>e)⟩
    grind [Held.dead])
   have Wi:Hid (∀d' o' w',au (fun _=>False) n pb db W9 o9 d9 w' o' d' (bZ (aS (aS Tx nU (aw (yI es ch) true)) nD (aw (gH es ch) true)) nX)->PST (.returned (.int .i64 0)) w'):=aa (fun d' o' w' pW=>by
    rw[wS.o];have Jd:=nN.o.1.rl;have Wf:=HFX.o.1;rw[Uj.o.1,Uj.o.2.1,Uj.o.2.2]at Jd;rw[Uj.o.1]at Wf;have hr:=LA nN.o.1.iI.held.aY.keys Jd Wf (vs:=cU es was done gen ch);rw[Uj.o.1,Uj.o.2.1,Uj.o.2.2,aay]at pW;exact⟨d',o',_,rfl,nN.o.2.trans pW (fun _ _ e=>e.elim),hr⟩)
   have HNU:Hid (∀W,Calls prog 18 #[.int .u8 117,.int .i64 ((gen+1:Nat):Int)] W fun e w'=>e=.returned (.string nU)/\Below W.heap.size W w'):=aa (fun W=>by rw[Uj.o.2.1];exact dQ 117 (gen+1) (o:=fun _=>Option.none) (.inl yl.o));have T1:Hid (∀W,Calls prog 18 #[.int .u8 100,.int .i64 ((gen+1:Nat):Int)] W fun e w'=>e=.returned (.string nD)/\Below W.heap.size W w'):=aa (fun W=>by rw[Uj.o.2.2];exact dQ 100 (gen+1) (o:=fun _=>Option.none) (.inl yl.o));have HP9:=aa (au.refl (fun _=>False) nN.o.1.iI.held.aY);clear aks Wo sO aay HF HNT NU HQ SN HDG HFX AL Uj wS HLEN nN HGL;unfold ptrTo at *;go_wp2_with fail;refine cD (Below W9.heap.size W9) 14 rfl ag ag (aj.drew) ?_;simp only[List.take_succ_cons,List.take_zero];iterate 3 (refine qz ?_)
   refine qz ?_ (fun w' hw'=>by obtain⟨f0,f2,f6⟩:=Wn.o _ _ _ _ (HP9.o.below hw');go_simp<;>rfl);iterate 4 (refine qz ?_)
   refine qz ?_ (fun w' hw'=>by obtain⟨f0,f2,f6⟩:=Wn.o _ _ _ _ (HP9.o.below hw');go_simp<;>rfl);refine qz ?_ (fun w' hw'=>by have hx:=wg;go_simp<;>rfl);iterate 3 (refine qz ?_)
   refine qz ?_ (fun w' hw'=>by obtain⟨f0,f2,f6⟩:=Wn.o _ _ _ _ (HP9.o.below hw');go_simp<;>rfl);refine wpQuiet_nil ?_;intro w11 ae5;refine⟨_,_,rfl,(by go_simp<;>exact⟨rfl,rfl⟩),?_⟩;refine(HMK.o w11 o9 d9 (HP9.o.below ae5)).mono ?_;rintro e PL⟨d12,Jq,rfl,Fo⟩;have Wp:=aa Fo;clear Fo ae5 HMK;refine⟨_,rfl,?_⟩;go_simp;refine qz ?_;refine wpQuiet_nil ?_;go_wp2_with fail;refine cD (Below PL.heap.size PL) 10 rfl ag ag (aj.drew) ?_;simp only[List.take_succ_cons,List.take_zero];iterate 3 (refine qz ?_)
   refine qz ?_ (fun w' hw'=>by obtain⟨f0,f2,f6⟩:=Wn.o _ _ _ _ (Wp.o.below hw');go_simp<;>rfl);iterate 3 (refine qz ?_)
   refine qz ?_ (fun w' hw'=>by obtain⟨f0,f2,f6⟩:=Wn.o _ _ _ _ (Wp.o.below hw');go_simp<;>rfl);refine qz ?_ (fun w' hw'=>by have hx:=wg;go_simp<;>rfl);refine qw (fun w' hw'=>(HNU.o w').mono (fun e w'' h=>⟨h.1,hw'.trans (h.2.mono hw'.size)⟩)) ?_;refine wpQuiet_nil ?_;intro XO ae6;refine⟨_,_,rfl,(by go_simp<;>exact⟨rfl,rfl⟩),?_⟩;refine(ae3.o XO Jq d12 (Wp.o.below ae6)).mono ?_;rintro e w14⟨d14,o14,rfl,LB⟩;have Ws:=aa LB;clear LB ae6 ae3 Wp;refine⟨_,rfl,?_⟩;go_simp;refine qz ?_;refine wpQuiet_nil ?_;go_wp2_with fail;refine cD (Below w14.heap.size w14) 10 rfl ag ag (aj.drew) ?_;simp only[List.take_succ_cons,List.take_zero];iterate 3 (refine qz ?_)
   refine qz ?_ (fun w' hw'=>by obtain⟨f0,f2,f6⟩:=Wn.o _ _ _ _ (Ws.o.below hw');go_simp<;>rfl);iterate 3 (refine qz ?_)
   refine qz ?_ (fun w' hw'=>by obtain⟨f0,f2,f6⟩:=Wn.o _ _ _ _ (Ws.o.below hw');go_simp<;>rfl);refine qz ?_ (fun w' hw'=>by have hx:=wg;go_simp<;>rfl);refine qw (fun w' hw'=>(T1.o w').mono (fun e w'' h=>⟨h.1,hw'.trans (h.2.mono hw'.size)⟩)) ?_;refine wpQuiet_nil ?_;intro w15 ae7;refine⟨_,_,rfl,(by go_simp<;>exact⟨rfl,rfl⟩),?_⟩;refine(ae4.o w15 o14 d14 (Ws.o.below ae7)).mono ?_;rintro e XZ⟨d16,Uk,rfl,A8⟩;have ae8:=aa A8;clear A8 ae7 ae4 Ws;refine⟨_,rfl,?_⟩;go_simp;refine qz ?_;refine wpQuiet_nil ?_;have hdr:=aa (akt.o XZ Uk d16 ae8.o);obtain⟨k0,k2,k6⟩:=Wn.o _ _ _ _ ae8.o;go_wp2_with fail;refine hdr.o.mono ?_;rintro e w17⟨d17,o17,rfl,ae9⟩;have WO:=aa (Wi.o d17 o17 w17 ae9);clear ae9 hdr k0 k2 k6;go_wp2;assumption
end
end
section
open Go.RowKit Go.Maps
section
variable {w0 w w' W W':World} {pb db n gen done:Nat} {o o' gR:ar} {d d' gT:Dsk} {L L' xD:aC} {es:List aH} {vs:List ck}
structure Ty(w0 w:World)(pb db n:Nat)(o:ar)(d:Dsk)(L:aC)(gen done m:Nat)(es:List aH)(vs:List ck):Prop where
 held:Held w0 w pb db n o d L
 frames:8<=n
 glt:gen+1<100
 e:aA L (aI 101 gen)=some (aw (aJ false es) true)
 r:aA L (aI 114 gen)=some (aw (aJ true es) true)
 v:aA L (aI 118 gen)=some (bY vs true)
 len:es.length<=1000
 top:vs.length<=1000
 ends:∀x∈es,x.t.toNat<vs.length/\x.h.toNat<vs.length
 afa:(eo es vs).length<=24
 free:∀c,aA L (aI c (gen+1))=none
 nt:∀k,aA L (dx k)=none
 most:(fR es (aB es vs)).length<=m
 need:need L+24*((fR es (aB es vs)).length+(yI es (aB es vs)).length+(gH es (aB es vs)).length)+8*es.length+4*vs.length+8<=131072
 dlt:done+(aB es vs).length<4294967296
 deg:∀v,v<vs.length->(eW es v).length*(aX es v).length<=100000
def oK(w:World)(pb db n:Nat)(o:ar)(d:Dsk)(L:aC)(gen done:Nat)(es:List aH)(vs:List ck)(e:Ending)(w':World):Prop:=
 ∃d' o' L',e=.returned (.tuple #[.int .u32 ((aB es vs).length:Int),.int .i64 0])/\au (fun _=>False) n pb db w o d w' o' d' L'/\(aB es vs=[]->L'=L)/\(aB es vs≠[]->np L L' gen (fR es (aB es vs)) (yI es (aB es vs)) (gH es (aB es vs)) (cU es vs done gen (aB es vs)))
theorem rG(HW:aP){m:Nat}(yD:dX m)(h:Ty w0 w pb db n o d L gen done m es vs) :
 Calls prog 33 #[ptrTo pb,.int .i64 (gen:Int),.int .u32 (done:Int)] w (oK w pb db n o d L gen done es vs):=by
 have H:=aa h;have hq:need L<=131072:=by have:=h.need;omega
 have dO:=aa (jr h.held.aY);have hop:=aa (sj HW h.held.aY (gen:=gen) (.inl (by have:=h.glt;omega)) h.v h.e h.r);have hn8:¬(n:Int)<8:=by have:=h.frames;omega
 have HQ:=aa hq;obtain⟨CH,Tl⟩:∃l,l=aB es vs:=⟨_,rfl⟩;have MN:=aa Tl;obtain⟨PST,mg⟩:∃P,P=oK w pb db n o d L gen done es vs:=⟨_,rfl⟩;have wS:=aa mg;rw[<- mg];clear h hq Tl mg;unfold ptrTo si at *;go_enter func33,ntmps33;go_wp2_with fail;refine dO.o.mono ?_;rintro e w1⟨rfl,rfl⟩;clear dO;go_wp2_with fail;refine hop.o.mono ?_;rintro e w2⟨v2,c2,d2,o2,rfl,cR,p7,jl,-⟩;have hc2:c2=0:=H.o.held.pT cR p7 HQ.o;subst hc2;obtain⟨gb,ob,ib,vb,rfl,hg2⟩:=jl rfl;have eT:=aa cR;have yl:=aa hg2;have hlt:Hid (gb<w2.heap.size/\ob<w2.heap.size/\ib<w2.heap.size/\vb<w2.heap.size):=aa ⟨hg2.raw.lt,hg2.out.lt,hg2.p9.lt,hg2.qL.lt⟩;clear cR hg2 p7 jl hop;unfold ptrTo at *;obtain⟨rb,hrb⟩:∃x,x=w2.heap.size:=⟨_,rfl⟩;have yQ:Hid (dy (w2.alloc (.cells #[.pointer (some ⟨pb,0,none⟩),.pointer (some ⟨gb,0,none⟩),.int .i64 (gen:Int),.int .u32 (done:Int),.map none,.slice none 0 0,.slice none 0 0] 133)) w2.heap.size pb gb gen done (.map none) (.slice none 0 0) (.slice none 0 0)/\au (fun _=>False) n pb db w o d (w2.alloc (.cells #[.pointer (some ⟨pb,0,none⟩),.pointer (some ⟨gb,0,none⟩),.int .i64 (gen:Int),.int .u32 (done:Int),.map none,.slice none 0 0,.slice none 0 0] 133)) o2 d2 L/\cW (w2.alloc (.cells #[.pointer (some ⟨pb,0,none⟩),.pointer (some ⟨gb,0,none⟩),.int .i64 (gen:Int),.int .u32 (done:Int),.map none,.slice none 0 0,.slice none 0 0] 133)) o2 gb pb gen vs.length ob ib vb):=aa ⟨heap_alloc_new _ _,eT.o.alloc _,yl.o.moved (au.aW (n:=n) eT.o.aY ai)⟩;go_wp2_with fail;rw[<- hrb]at yQ ⊢;generalize w2.alloc (.cells #[.pointer (some ⟨pb,0,none⟩),.pointer (some ⟨gb,0,none⟩),.int .i64 (gen:Int),.int .u32 (done:Int),.map none,.slice none 0 0,.slice none 0 0] 133)=W3 at *;have Wn:Hid (rb=w2.heap.size/\w.heap.size<=rb):=aa ⟨hrb,by rw[hrb];exact eT.o.size⟩;have Tz:Hid (fJ w0 W3 pb db n o2 d2 L gb gen vs.length ob ib vb es):=aa ⟨H.o.held.moved yQ.o.2.1 (fun _ e=>e.elim),HQ.o,yQ.o.2.2,H.o.e,H.o.r,H.o.len,H.o.top,H.o.ends⟩;have Wt:Hid (qU w0 W3 o2 rb gb ob ib vb):=aa ⟨by rw[hrb];exact(H.o.held.moved eT.o (fun _ e=>e.elim)).below.size,yQ.o.1.lt,by rw[hrb];exact eT.o.aY.fresh (Nat.le_refl _),by grind [Hid.out]⟩;have mH:=aa (Cq HW Tz.o H.o.v yQ.o.1 Wt.o);unfold wF ptrTo at mH;clear hrb yl hlt;refine mH.o.mono ?_;rintro e w4⟨vv,d4,o4,rfl,oT⟩;have gp:=aa oT;have TA:=aa (Tz.o.E6 Wt.o oT.mv);have Wu:=aa (Wt.o.moved oT.mv);have gl:Hid (au (fun _=>False) n pb db w o d w4 o4 d4 L):=aa (yQ.o.2.1.trans oT.mv (fun x hx e=>by grind [Hid.out]));have hch:=aa (yK HW TA.o oT.at' Wu.o oT.row oT.own H.o.deg H.o.afa);rw[<- MN.o]at hch;unfold s6 ptrTo at hch;clear oT mH Tz Wt;go_wp2_with fail;refine hch.o.mono ?_;rintro e w5⟨mb,ov,S,d5,o5,rfl,kC,KE,TB,afb,afc,afd,afe,GI⟩;obtain⟨oa,ok,rfl⟩:=az TB;obtain⟨KN,Jk⟩:∃k,k=CH.length:=⟨_,rfl⟩;have lx:Hid (au (fun _=>False) n pb db w o d w5 o5 d5 L):=aa (gl.o.trans kC (fun x hx e=>by grind [Hid.out]));have Dh:=aa KE;have Nu:Hid (bD w5 w4.heap.size (.slice oa CH.length ok) CH/\(∀b,(Value.slice oa CH.length ok).ownBlock=some b->o5 b=none)/\fF w5 mb S/\w4.heap.size<=mb/\o5 mb=none/\∀z,z∈S↔z∈CH):=aa ⟨TB,afb,afc,afd,afe,GI⟩;have aff:=aa (TA.o.E6 Wu.o kC);have afg:=aa (Wu.o.moved kC);have Ny:Hid (dL w5 W3.heap.size vv vs/\(∀b,vv.ownBlock=some b->o5 b=none/\b<w4.heap.size)):=aa ⟨kC.ownsRow gp.o.row (fun b hb=>⟨gp.o.own b hb,fun e=>by have h1:=aG gp.o.row b hb;have h2:=yQ.o.1.lt;omega⟩),fun b hb=>⟨kC.free (aL gp.o.row b hb).1 (gp.o.own b hb),(aL gp.o.row b hb).1⟩⟩;obtain⟨-,-,-,-,-,c5,-⟩:=KE.cells;rw[<- Jk]at c5;have HKN:Hid (KN=CH.length/\KN<4294967296):=aa ⟨Jk,by have:=H.o.dlt;grind [Hid.out]⟩;clear kC KE TB afb afc afd afe GI hch Jk TA Wu gl;by_cases hz:KN=0
 ·have hzz:(KN:Int)=0:=by omega
  have HQF:Hid (PST (.returned (.tuple #[.int .u32 0,.int .i64 0])) w5):=aa (by
   have hn:aB es vs=[]:=by grind [Hid.out]
   rw[wS.o];exact⟨d5,o5,L,by grind,lx.o,fun _=>rfl,fun h=>absurd hn h⟩)
  clear hz;go_wp2;assumption
 ·have hzz:¬(KN:Int)=0:=by omega
  have HCN:Hid (CH≠[]):=aa (fun e=>hz (by grind [Hid.out]));have HVN:Hid (vs.length≠0):=aa (by
   cases e:CH with
   |nil=>grind [Hid.out]
   |cons v l=>have:=jU (es:=es) (vs:=vs) (v:=v) (by grind [Hid.out]);omega)
  obtain⟨g,vk,rfl⟩:∃g k,vv=.slice (some ⟨g,0,none⟩) vs.length k:=by
   obtain⟨-,⟨h1,h2⟩|⟨g,k,_,h1,_⟩⟩:=Ny.o.1
   ·grind [Hid.out]
   grind
  have HG:Hid (rb<g/\g<w4.heap.size/\w.heap.size<=g/\rb≠g):=aa (by
   have h1:=aG Ny.o.1 g rfl;have h2:=yQ.o.1.lt;have h3:=(Ny.o.2 g rfl).2;grind [Hid.out])
  have HWI:Hid (MT w0 w5 pb db n o5 d5 L gb gen vs.length ob ib vb es rb mb g vk done (.slice oa CH.length ok) S CH vs W3.heap.size w4.heap.size):=aa
   ⟨aff.o,Dh.o,afg.o,Nu.o.2.2.1,Nu.o.2.2.2.2.1,Nu.o.1,Nu.o.2.1,Ny.o.1,rfl,(Ny.o.2 g rfl).1,HG.o.1,Nat.lt_of_lt_of_le HG.o.2.1 Nu.o.2.2.2.1,fun b hb=>Nat.lt_of_lt_of_le HG.o.2.1 (aG Nu.o.1 b hb),Nu.o.2.2.2.2.2,fun v hv=>jU (es:=es) (by grind [Hid.out]),HCN.o⟩
  have hwr:=aa (A7 HW yD H.o.frames HWI.o H.o.glt H.o.free H.o.nt (by rw[MN.o];exact H.o.most) (by rw[MN.o];exact H.o.need) (by rw[MN.o];exact H.o.dlt) H.o.deg);unfold wT ptrTo at hwr;clear hz HWI;go_wp2_with fail;refine hwr.o.mono ?_;rintro e w6⟨d6,o6,L6,rfl,nP,Bc⟩;have AG:dy w6 rb pb gb gen done (.map (some mb)) (.slice oa CH.length ok) (.slice (some ⟨g,0,none⟩) vs.length vk):=nP.heap Dh.o afg.o.free HG.o.2.2.2;obtain⟨-,-,-,-,-,c5',-⟩:=AG.cells;rw[<- HKN.o.1]at c5';have wku:IntKind.u32.wrap (KN:Int)=(KN:Int):=dY _ ae (by grind [Hid.out]);have HQF:Hid (PST (.returned (.tuple #[.int .u32 (KN:Int),.int .i64 0])) w6):=aa (by
   rw[wS.o];refine⟨d6,o6,L6,by grind [Hid.out],lx.o.trans nP (fun x hx e=>by grind [Hid.out]),fun h=>absurd (MN.o.trans h) HCN.o,fun _=>?_⟩;grind [Hid.out])
  clear nP Bc AG hwr c5 hzz;go_wp2;assumption
end
end
section
open Go.RowKit Go.Maps
theorem wU{w:World}{ops:Array Oper}{o:Oper}{a:Act}{K:Act->World->Prop}{Q:Exit->Act->World->Prop}{E:Prop}(hgd:o.guard=none)(s x:Operand)(ho:o.op=.call { callee:=.builtin .append,args:=#[s,x],argTypes:=#[22,22] })(base:Nat)(v:Value)(l:List aH)(hs:a.eval s=v)(hown:aK w base v l)(y:aH)(xb c:Nat)(hx:a.eval x=.slice (some ⟨xb,0,none⟩) 1 c)(FI:w.heap[xb]? = some (.cells #[.int .u32 (y.t.toNat:Int),.int .u32 (y.h.toNat:Int),.int .u64 (y.x.toNat:Int),.int .u32 (y.m.toNat:Int)] 64))(hl:l.length<=100000)(hbase:base<=w.heap.size)(k:∀v' w',aK w' base v' (l++[y])->lj v w w' v'->K (a.put o.dst v') w'):if Region.wanted o (yielded ops a.tmps)=true then Oper.wp prog o a w K Q else E:=by
 refine l6 hgd s x 22 ho base 64 _ 4 24 Tryz.underlying22 ru rfl af v l.length (dD l) hs hown ⟨xb,0,none⟩ 1 c y.cells hx rfl (fun j u hj=>?_) (by simp[Value.oneCell']) (by grind [maxLen]) ae hbase (fun v' w' h1 h2=>k v' w' ?_ h2)
 ·rw[bF,Nat.zero_add,aq FI];grind
 ·unfold aK;rw[nH,List.length_append];exact h1
def pM(n:Nat)(x:aH):aH:=⟨UInt32.ofNat (x.t.toNat%n),UInt32.ofNat (x.h.toNat%n),UInt64.ofNat (x.x.toNat%288230376151711744),4294967295⟩
def gY(n:Nat)(es:List aH):List aH:=if n=0 then [] else (es.take 80).map (pM n)
theorem DB{n:Nat}(x:aH):(pM n x).t.toNat=x.t.toNat%n/\(pM n x).h.toNat=x.h.toNat%n/\(pM n x).x.toNat=x.x.toNat%288230376151711744/\(pM n x).m.toNat=4294967295:=by
 have h1:=Nat.mod_le x.t.toNat n;have h2:=Nat.mod_le x.h.toNat n;have:=x.t.toNat_lt;have:=x.h.toNat_lt;refine⟨?_,?_,?_,rfl⟩
 ·show(UInt32.ofNat _).toNat=_;grind [UInt32.toNat_ofNat']
 ·show(UInt32.ofNat _).toNat=_;grind [UInt32.toNat_ofNat']
 ·show(UInt64.ofNat _).toNat=_;grind [UInt64.toNat_ofNat']
def wW(w:World)(n:Nat)(l:List aH)(e:Ending)(w':World):Prop:=
 ∃v,e=.returned (.tuple #[.int .i64 (n:Int),v])/\Below w.heap.size w w'/\aK w' w.heap.size v l
theorem DC{w:World}{ev:Value}{es:List aH}(N F:Nat)(hN:N<256)(he:kF w ev es) :
 Calls prog 29 #[.agg #[.int .u8 (N:Int),ev,.int .u8 (F:Int)]] w (wW w (N%25) (gY (N%25) es)):=by
 obtain⟨ea,ec,rfl,-⟩:=id he;have HE:=aa he;obtain⟨V,hV⟩:∃v,v=N%25:=⟨_,rfl⟩;have hN1:wrap64 (N:Int)=(N:Int):=by grind [wrap64]
 have hN2:(N:Int).tmod 25=(V:Int):=by grind
 have B7:Hid (V=N%25/\V<25):=aa ⟨hV,ae⟩;rw[<- hV];obtain⟨M,hM⟩:∃m,m=es.length:=⟨_,rfl⟩;have HM:=aa hM;have kE:Hid (Below w.heap.size w (w.alloc (.cells #[.int .u8 (N:Int),.slice ea M ec,.int .u8 (F:Int)] 69))):=aa ai;have Ck:Hid ((w.alloc (.cells #[.int .u8 (N:Int),.slice ea M ec,.int .u8 (F:Int)] 69)).heap[w.heap.size]? = some (.cells #[.int .u8 (N:Int),.slice ea M ec,.int .u8 (F:Int)] 69)):=aa (heap_alloc_new _ _);have HE0:Hid (kF (w.alloc (.cells #[.int .u8 (N:Int),.slice ea M ec,.int .u8 (F:Int)] 69)) (.slice ea M ec) es):=aa (by rw[hM];exact he.below ai);obtain⟨PST,mg⟩:∃P,P=wW w V (gY V es):=⟨_,rfl⟩;have wS:=aa mg;rw[<- mg];rw[<- hM];clear he hV hM mg hN;go_enter func29,ntmps29;go_wp2_with fail;generalize X0:w.heap.size=wb at *;generalize w.alloc (.cells #[.int .u8 (N:Int),.slice ea M ec,.int .u8 (F:Int)] 69)=W0 at *;have X1:Hid (w.heap.size=wb/\wb<W0.heap.size):=aa ⟨X0,(Array.getElem?_eq_some_iff.1 Ck.o).1⟩;clear X0 hN1 hN2;go_loopw [5,6] (fun vl vi wr=>∃(k:Nat)(acc:List aH),vi=.int .i64 (k:Int)/\k<=M/\k<=80/\(k=0\/0<V)/\Hid (acc=(es.take k).map (pM V)/\Below W0.heap.size W0 wr/\aK wr W0.heap.size vl acc)) (fun _ vi _=>80-(intOf vi).toNat)
 case atStart=>exact⟨0,[],rfl,Nat.zero_le _,ae,.inl rfl,aa ⟨rfl,Below.refl _ _,World.ownsRow_nil _ _ _ _⟩⟩
 case round=>
  generalize u5=lv at *;obtain⟨k,acc,rfl,hk,hk8,Jr,HS⟩:=hrel;generalize wr=W1 at *;obtain⟨la,lc,rfl⟩:=az HS.out.2.2;have Mb:W1.heap[wb]? = some (.cells #[.int .u8 (N:Int),.slice ea M ec,.int .u8 (F:Int)] 69):=(HS.out.2.1.block _ X1.o.2).trans Ck.o;have b1:W1.cell? ⟨wb,1,none⟩=some (.slice ea M ec):=by rw[aq Mb];rfl
  clear Mb;by_cases h1:k<M
  ·have h1z:(k:Int)<(M:Int):=by omega
   by_cases h2:k<80
   ·have h2z:(k:Int)<80:=by omega
    by_cases h3:0<V
    ·have wk:IntKind.i64.wrap ((k:Int)+1)=((k+1:Nat):Int):=by grind [ax]
     have wv:IntKind.u32.wrap (V:Int)=(V:Int):=by grind [Hid.out,dY]
     obtain⟨x,hx⟩:∃x,es[k]? = some x:=⟨_,List.getElem?_eq_getElem (by grind [Hid.out])⟩;have HX:=aa hx;obtain⟨a',cap',BU,hce⟩:=HE0.o.below HS.out.2.1;obtain⟨rfl,-,rfl⟩:ea=a'/\M=es.length/\ec=cap':=by grind
     obtain⟨b,off,rfl,PI⟩:=hce.resolve_left (by grind);obtain⟨q0,q1,q2,q3⟩:=PI k _ hx;clear hce PI BU hx;obtain⟨y,hy⟩:∃y,y=pM V x:=⟨_,rfl⟩;have HY:=aa hy;obtain⟨y0,y1,y2,y3⟩:=DB (n:=V) x;rw[<- hy]at y0 y1 y2 y3;have cQ:Hid (Below W0.heap.size W0 (W1.alloc (.cells #[.int .u32 (x.t.toNat:Int),.int .u32 (x.h.toNat:Int),.int .u64 (x.x.toNat:Int),.int .u32 (x.m.toNat:Int)] 64))):=aa (HS.out.2.1.alloc HS.out.2.1.size _);have nx:Hid (aK (W1.alloc (.cells #[.int .u32 (x.t.toNat:Int),.int .u32 (x.h.toNat:Int),.int .u64 (x.x.toNat:Int),.int .u32 (x.m.toNat:Int)] 64)) W0.heap.size (.slice la acc.length lc) acc):=aa (World.ownsRow.alloc HS.out.2.2 _);have VP:Hid ((W1.alloc (.cells #[.int .u32 (x.t.toNat:Int),.int .u32 (x.h.toNat:Int),.int .u64 (x.x.toNat:Int),.int .u32 (x.m.toNat:Int)] 64)).heap[W1.heap.size]? = some (.cells #[.int .u32 (x.t.toNat:Int),.int .u32 (x.h.toNat:Int),.int .u64 (x.x.toNat:Int),.int .u32 (x.m.toNat:Int)] 64)):=aa (heap_alloc_new _ _);have HL:Hid (acc=(es.take k).map (pM V)/\acc.length<=80):=aa ⟨HS.out.1,by grind [Hid.out]⟩;clear hy HS;go_wp2_with fail;clear q0 q1 q2 q3 b1;generalize W1.heap.size=xb at *;generalize W1.alloc (.cells #[.int .u32 (x.t.toNat:Int),.int .u32 (x.h.toNat:Int),.int .u64 (x.x.toNat:Int),.int .u32 (x.m.toNat:Int)] 64)=W2 at *;have x0:W2.cell? ⟨xb,0,none⟩=some (.int .u32 (x.t.toNat:Int)):=by rw[aq VP.o];rfl
     have x1:W2.cell? ⟨xb,1,none⟩=some (.int .u32 (x.h.toNat:Int)):=by rw[aq VP.o];rfl
     have x2:W2.cell? ⟨xb,2,none⟩=some (.int .u64 (x.x.toNat:Int)):=by rw[aq VP.o];rfl
     have e0:(x.t.toNat:Int)%(V:Int)=(y.t.toNat:Int):=by omega
     have e1:(x.h.toNat:Int)%(V:Int)=(y.h.toNat:Int):=by omega
     have e2:(x.x.toNat:Int)%288230376151711744=(y.x.toNat:Int):=by omega
     have t0:(x.t.toNat:Int).tmod (V:Int)=(y.t.toNat:Int):=by assumption
     have t1:(x.h.toNat:Int).tmod (V:Int)=(y.h.toNat:Int):=by assumption
     have t2:(x.x.toNat:Int).tmod 288230376151711744=(y.x.toNat:Int):=by assumption
     have e3:(4294967295:Int)=(y.m.toNat:Int):=by omega
     have h3n:¬V=0:=by omega
     clear y0 y1 y2 y3;have Ss:=World.block_lt_of_cell? _ _ x0;have HBD:Hid (∀ob,Below W2.heap.size W2 (W2.drew.alloc ob)):=aa (fun ob=>aj.drew.alloc (Nat.le_refl _) ob);have HBZ:Hid (W0.heap.size<=W2.heap.size):=aa cQ.o.size;go_region_law (refine wU rfl _ _ rfl W0.heap.size _ acc rfl (World.ownsRow.alloc (World.ownsRow.drew nx.o) _) y _ 1 rfl (heap_alloc_new _ _) (by have:=HL.o;omega) (Nat.le_trans HBZ.o (HBD.o _).size) ?_;intro v5 w5 h5 ha;have HA5:=aa ha;have Uv:=aa h5;clear ha h5)
     all_goals
      obtain⟨v5a,v5c,T9⟩:=az Uv.o;subst T9;have eK:Hid (acc++[y]=(es.take (k+1)).map (pM V)/\Below W0.heap.size W0 w5/\aK w5 W0.heap.size (.slice v5a (acc++[y]).length v5c) (acc++[y])):=aa ⟨by
       rw[HL.o.1,HY.o,List.take_add_one,HX.o,List.map_append];rfl,(gJ (cQ.o.trans ((HBD.o _).mono HBZ.o)) (fun b hb=>aG nx.o b hb) HA5.o).1,Uv.o⟩
      clear HA5 Uv nx HBD t0 t1 t2 e0 e1 e2 e3 x0 x1 x2 Ss;generalize (acc++[y]).length=L5 at *;go_wp2_with fail;go_roundw
      case rel=>grind
      grind [intOf]
    ·have h3z:¬(V:Int)>0:=by omega
     have HQ:Hid (PST (.returned (.tuple #[.int .i64 (V:Int),.slice la acc.length lc])) W1):=aa (by
      rw[wS.o];obtain rfl:k=0:=by omega
      have hb:=kE.o;have hs:=HS.out;rw[X1.o.1.symm]at hb;refine⟨_,rfl,hb.trans (hs.2.1.mono hb.size),?_⟩;grind [gY,aU,Below.size])
     clear HS;go_wp2;exact HQ.o
   ·have h2z:¬(k:Int)<80:=by omega
    have HQ:Hid (PST (.returned (.tuple #[.int .i64 (V:Int),.slice la acc.length lc])) W1):=aa (by
     rw[wS.o];obtain rfl:k=80:=by omega
     have hb:=kE.o;have hs:=HS.out;rw[X1.o.1.symm]at hb;refine⟨_,rfl,hb.trans (hs.2.1.mono hb.size),?_⟩;grind [gY,aU,Below.size])
    clear HS;go_wp2;exact HQ.o
  ·have h1z:¬(k:Int)<(M:Int):=by omega
   have HQ:Hid (PST (.returned (.tuple #[.int .i64 (V:Int),.slice la acc.length lc])) W1):=aa (by
    rw[wS.o];obtain rfl:k=M:=by omega
    have hb:=kE.o;have hs:=HS.out;rw[X1.o.1.symm]at hb;refine⟨_,rfl,hb.trans (hs.2.1.mono hb.size),?_⟩;have e1:acc=gY V es:=by
     rw[hs.1];unfold gY;grind [Hid.out]
    grind [aU,Below.size])
   clear HS;go_wp2;exact HQ.o
end
end Go.Proofs.YthkkgdpomhhjjaaGreatDoor
