/-
  Joined.
-/
import Derived.Test.YthkkgdpomhhjjaaGreatDoorC14
set_option maxRecDepth 100000
set_option maxHeartbeats 16000000
namespace Go.Proofs.YthkkgdpomhhjjaaGreatDoor
open Go.Proofs.Tryz
section
open Go.RowKit Go.Maps
section
variable {w0 w w' W W':World} {pb db n gb gen N ob ib vb rb mb pc done sb:Nat} {o o' gL:ar} {d d' gw:Dsk} {L L' xJ:aC} {es l:List aF} {S:List Nat} {x4 x5 x6 v:Value} {name:Name} {fl:Bool}
theorem fD.look(h:fD w mb S){x:Nat}(hx:x<4294967296)(b:Bool)(hb:decide (x∈S)=b):∀w',Below w.heap.size w w'->Sem.run prog (Instr.lookup 131 (.map (some mb)) (.int .u32 (x:Int)) false) w'=.ok (.bool b) w':=fun w' hw=>by
 have:=(h.kept (hw.block _ h.lt)).lookup cg dm Tryz.underlying131 (Tryz.zeroValue4 w') x (fO hx) false;rw[Fb]at this;rw[<- hb];by_cases e:x∈S
 ·rw[if_pos e]at this;rw[decide_eq_true e];exact this
 ·rw[if_neg e]at this;rw[decide_eq_false e];exact this
theorem I8(args:Array Value)(w:World):Sem.run prog (callFunc 152 args) w=.ok (.enter 152 args) w:=by go_simp
theorem I9{t:TypeId}(hp:w.heap[pc]? = some (.cells #[ptrTo rb] t))(hr:dx w rb pb gb gen done (.map (some mb)) x5 x6)(hch:fD w mb S){x:Nat}(hx:x<4294967296) :
 Calls prog 152 #[.int .u32 (x:Int),.pointer (some ⟨pc,0,none⟩)] w fun e w'=>e=.returned (.bool (decide (x∈S)))/\Below w.heap.size w w':=by
 have hl:=hch.look hx _ rfl w aj;generalize decide (x∈S)=b at *;have c0:w.cell? ⟨pc,0,none⟩=some (ptrTo rb):=by rw[aq hp];rfl
 obtain⟨-,-,-,-,c4,-⟩:=hr.cells;clear hp hr hch hx;unfold ptrTo at *;go_enter func152,ntmps152;go_wp2;go_ret;exact⟨rfl,Below.refl _ _⟩
theorem Tm{t:TypeId}(hp:w.heap[pc]? = some (.cells #[ptrTo rb] t))(hr:dx w rb pb gb gen done (.map (some mb)) x5 x6)(hch:fD w mb S)(h1:o pc=none)(h2:o rb=none)(h3:o mb=none) :
 IK w o (.func (.func 152) #[] #[.pointer (some ⟨pc,0,none⟩)]) (fun x=>decide (x∈S)) (fun b=>b=pc\/b=rb\/b=mb):=
 ⟨⟨_,_,rfl,I8,fun W x hk _ hx=>I9 ((hk pc (.inl rfl)).trans hp) ((hk rb (.inr (.inl rfl))).trans hr) (hch.kept (hk mb (.inr (.inr rfl)))) hx⟩,fun b hb=>by
   rcases hb with rfl | rfl | rfl
   ·exact⟨(Array.getElem?_eq_some_iff.1 hp).1,h1⟩
   ·exact⟨hr.lt,h2⟩
   ·exact⟨hch.lt,h3⟩⟩
theorem th(h:fH w0 w pb db n o d L gb gen N ob ib vb es)(hm:aw (fun _=>False) n pb db w o d w' o' d' L')(h1:aA L' (aJ 101 gen)=aA L (aJ 101 gen))(h2:aA L' (aJ 114 gen)=aA L (aJ 114 gen))(hq:need L'<=131072):fH w0 w' pb db n o' d' L' gb gen N ob ib vb es:=
 ⟨h.held.moved hm (fun _ e=>e.elim),hq,h.gr.moved hm,h1.trans h.file,h2.trans h.DB,h.len,h.top,h.ends⟩
theorem V9{x:aF}{t:TypeId}:kL (w.alloc (.cells #[.int .u32 (x.t.toNat:Int),.int .u32 (x.h.toNat:Int),.int .u64 (x.x.toNat:Int),.int .u32 (x.m.toNat:Int)] t)) (.slice (some ⟨w.heap.size,0,none⟩) 1 1) [x]:=
 ⟨_,1,rfl,.inr ⟨w.heap.size,0,rfl,fun j y hy=>by
  match j,hy with
  |0,hy=>cases hy;simp
  |j+1,hy=>cases hy⟩⟩
def jG(S:List Nat)(x:aF):Bool:=decide (x.t.toNat ∉ S/\x.h.toNat ∉ S)
theorem Tn(es:List aF)(S:List Nat):gF es S=(aK false es).filter (jG S):=rfl
theorem CG(HW:aQ)(h:fH w0 w pb db n o d L gb gen N ob ib vb es)(hr:dx w rb pb gb gen done (.map (some mb)) x5 x6)(hro:o rb=none)(hch:fD w mb S)(hmo:o mb=none)(hst:aB w sb pb name 20)(Nl:o sb=none)(hL:aA L name=some (au [] fl))(h1:name≠aJ 101 gen)(h2:name≠aJ 114 gen)(MA:need L+8*es.length+8<=131072) :
 Calls prog 102 #[ptrTo rb,ptrTo sb] w (jA (fun _=>False) n pb db w o d L name (gF es S)):=by
 have hbl:=b9 false es;have LF:Hid (∀W o' d' es' kO,aw (fun _=>False) n pb db w o d W o' d' (aS L name (au es' kO))->es'.length<=es.length->fH w0 W pb db n o' d' (aS L name (au es' kO)) gb gen N ob ib vb es):=aa (fun W o' d' es' kO hm hl=>th h hm (by rw[ay,if_neg h1.symm]) (by rw[ay,if_neg h2.symm]) (by
  have g1:=cN L name (au es' kO);have g2:=cF es' kO;omega))
 have V8:Hid (aw (fun _=>False) n pb db w o d w o d (aS L name (au [] fl))):=aa ((aw.refl _ h.held.aX).self hL);have HL0:=aa hL;have Fq:=aa (Lb HW h.held h.need h.gr h.file);have MS:Hid (∀W o' d' L',aw (fun _=>False) n pb db w o d W o' d' L'->dx W rb pb gb gen done (.map (some mb)) x5 x6/\fD W mb S/\aB W sb pb name 20/\o' sb=none):=aa (fun W o' d' L' hm=>⟨hr.moved hro hm,hch.kept (hm.block hch.lt hmo (fun e=>e)),hst.moved hm Nl (fun e=>e),hm.free hst.lt Nl⟩);have nw:Hid (∀W o' d' es' kO v(x:aF),aw (fun _=>False) n pb db w o d W o' d' (aS L name (au es' kO))->es'.length<=es.length->kL W v [x]->(∀b,v.ownBlock=some b->o' b=none) ->
  Calls prog 151 #[ptrTo sb,v] W fun e w'=>∃gw gL aal,e=.returned (.int .i64 0)/\aw (fun _=>False) n pb db w o d w' gL gw (aS L name (au (es'++[x]) aal))):=aa (fun W o' d' es' kO v x hm hl hv mm=>by
  have hn:=LF.o _ _ _ _ _ hm hl;have g1:=cN L name (au es' kO);have g2:=cF es' kO;have hlen:=h.len;obtain⟨-,-,k3,k4⟩:=MS.o _ _ _ _ hm;refine(I7 HW hn.held k3 k4 (by rw[ay,if_pos rfl]) hv mm (by rw[List.length_singleton];omega) (by rw[List.length_singleton];omega)).mono ?_;rintro e w'⟨aal,gw,gL,rfl,cP⟩;rw[iM]at cP;exact⟨gw,gL,aal,rfl,hm.trans cP (fun _ _ e=>e)⟩)
 obtain⟨-,c1,-⟩:=hr.cells;obtain⟨B,hB⟩:∃B,B=aK false es:=⟨_,rfl⟩;have HB:Hid (B.length<=es.length/\es.length<=1000):=aa ⟨by rw[hB];exact hbl,h.len⟩;have aeA:Hid (∀W o' d' es' kO,aw (fun _=>False) n pb db w o d W o' d' (aS L name (au es' kO))->es'.length<=es.length->∀(i:Nat)(x:aF),B[i]? = some x->Calls prog 28 #[ptrTo gb,.int .i64 (i:Int)] W fun e w'=>∃gw gL,e=.returned (.tuple #[wN x,.int .i64 0])/\aw (fun _=>False) n pb db w o d w' gL gw (aS L name (au es' kO))):=aa (fun W o' d' es' kO hm hl i x hx=>by
  have hn:=LF.o _ _ _ _ _ hm hl;rw[hB]at hx;refine(OL HW hn.held hn.need hn.gr hn.file hx).mono ?_;rintro e w'⟨gw,gL,rfl,cP⟩;exact⟨gw,gL,rfl,hm.trans cP (fun _ _ e=>e)⟩)
 rw[<- hB]at Fq;rw[Tn,<- hB];obtain⟨M,hM⟩:∃M,M=B.length:=⟨_,rfl⟩;have HM:Hid (M=B.length/\M<=1000):=aa ⟨hM,by have:=HB.o;omega⟩;obtain⟨R,hR⟩:∃R,R=jA (fun _=>False) n pb db w o d L name (B.filter (jG S)):=⟨_,rfl⟩;have S2:=aa hR;rw[<- hR];rw[<- hM]at Fq;clear h hr hro hch hmo hst Nl hL h1 h2 MA hbl hB hM hR LF;unfold ptrTo at *;go_enter func102,ntmps102;go_wp2_with fail;refine Fq.o.mono ?_;rintro e w1⟨d1,o1,rfl,dY⟩;have eo:Hid (aw (fun _=>False) n pb db w o d w1 o1 d1 (aS L name (au (((B.take 0)).filter (jG S)) fl))):=aa (by
  refine dY.congr V8.o.aX.keys (fun x=>?_);rw[ay];split
  ·rename_i e;rw[e,HL0.o];rfl
  ·rfl)
 clear dY Fq c1 V8;go_wp2_with fail;go_loopw [23] (fun vi wr=>∃(i:Nat)(kO:Bool)(o':ar)(d':Dsk),vi=.int .i64 (i:Int)/\i<=M/\Hid (aw (fun _=>False) n pb db w o d wr o' d' (aS L name (au ((B.take i).filter (jG S)) kO)))) (fun vi _=>M-(intOf vi).toNat)
 case atStart=>exact⟨0,fl,o1,d1,rfl,Nat.zero_le _,eo⟩
 case round=>
  obtain⟨i,kO,o2,d2,rfl,hi,eu⟩:=hrel;clear eo;generalize wr=W2 at *;by_cases hlt:i<M
  ·have hiz:(i:Int)<(M:Int):=by omega
   have wi:IntKind.i64.wrap ((i:Int)+1)=((i+1:Nat):Int):=by have:=HM.o;rw[ax]<;>omega
   obtain⟨x,hx⟩:∃x,B[i]? = some x:=⟨_,List.getElem?_eq_getElem (by have:=HM.o;omega)⟩;have oT:Hid ((B.take (i+1)).filter (jG S)=(B.take i).filter (jG S)++if jG S x=true then [x] else []):=aa (by
    obtain⟨hl,he⟩:=List.getElem?_eq_some_iff.1 hx;rw[List.take_succ_eq_append_getElem hl,he,List.filter_append,List.filter_cons,List.filter_nil])
   have HLEN:Hid (((B.take i).filter (jG S)).length<=es.length):=aa (Nat.le_trans (List.length_filter_le _ _) (by rw[List.length_take];have:=HB.o;omega));have hed:=aa (aeA.o _ _ _ _ _ eu.out HLEN.o i x hx);obtain⟨-,c1,-⟩:=(MS.o _ _ _ _ eu.out).1.cells;clear hx;generalize (B.take i).filter (jG S)=acc at *;unfold wN ptrTo at *;go_wp2_with fail;refine hed.o.mono ?_;rintro e w3⟨d3,o3,rfl,eA⟩;have eF:=aa (eA.alloc (.cells #[.int .u32 (x.t.toNat:Int),.int .u32 (x.h.toNat:Int),.int .u64 (x.x.toNat:Int),.int .u32 (x.m.toNat:Int)] 64));have im:Hid ((w3.alloc (.cells #[.int .u32 (x.t.toNat:Int),.int .u32 (x.h.toNat:Int),.int .u64 (x.x.toNat:Int),.int .u32 (x.m.toNat:Int)] 64)).heap[w3.heap.size]? = some (.cells #[.int .u32 (x.t.toNat:Int),.int .u32 (x.h.toNat:Int),.int .u64 (x.x.toNat:Int),.int .u32 (x.m.toNat:Int)] 64)):=aa (heap_alloc_new _ _);clear eA hed eu c1;go_wp2_with fail;generalize FK:w3.heap.size=xb at *;clear FK;generalize w3.alloc (.cells #[.int .u32 (x.t.toNat:Int),.int .u32 (x.h.toNat:Int),.int .u64 (x.x.toNat:Int),.int .u32 (x.m.toNat:Int)] 64)=W3 at *;have F:Hid (∀w',Below W3.heap.size W3 w'->w'.cell? ⟨rb,4,none⟩=some (.map (some mb))/\w'.cell? ⟨xb,0,none⟩=some (.int .u32 (x.t.toNat:Int))/\w'.cell? ⟨xb,1,none⟩=some (.int .u32 (x.h.toNat:Int))):=aa (fun w' hw'=>by
    have hc:w'.heap[xb]? = some (.cells #[.int .u32 (x.t.toNat:Int),.int .u32 (x.h.toNat:Int),.int .u64 (x.x.toNat:Int),.int .u32 (x.m.toNat:Int)] 64):=(hw'.block _ (Array.getElem?_eq_some_iff.1 im.o).1).trans im.o;exact⟨((MS.o _ _ _ _ eF.o).1.below hw').cells.2.2.2.2.1,by rw[aq hc];rfl,by rw[aq hc];rfl⟩)
   have LG:=(MS.o _ _ _ _ eF.o).2.1;by_cases ht:x.t.toNat∈S
   ·have Ho:=aa (LG.look x.t.toNat_lt true (decide_eq_true ht));have HE:Hid (jG S x=false):=aa (by unfold jG;simp[ht]);clear ht LG;refine wq W3 ?_;iterate 3 (refine qz ?_)
    refine qz ?_ (fun w' hw'=>by obtain⟨f1,f2,f3⟩:=F.o w' hw';go_simp<;>rfl);refine qz ?_;refine qz ?_ (fun w' hw'=>by obtain⟨f1,f2,f3⟩:=F.o w' hw';go_simp<;>rfl);refine qz ?_ (fun w' hw'=>by have hl:=Ho.o w' hw';go_simp<;>rfl);refine qz ?_;iterate 7 go_big_quiet_skip
    refine qz ?_;refine wpQuiet_nil ?_;intro w4 hb4;have fZ:Hid (aw (fun _=>False) n pb db w o d w4 o3 d3 (aS L name (au ((B.take (i+1)).filter (jG S)) kO))):=aa (by rw[oT.o,HE.o,if_neg ah,List.append_nil];exact eF.o.below hb4);clear hb4 F Ho;go_wp2;go_roundw
    case rel=>exact⟨i+1,kO,o3,d3,by go_num,ae,fZ⟩
    case measure=>simp[intOf];omega
   ·have Ho:=aa (LG.look x.t.toNat_lt false (decide_eq_false ht));by_cases hh:x.h.toNat∈S
    ·have Jn:=aa (LG.look x.h.toNat_lt true (decide_eq_true hh));have HE:Hid (jG S x=false):=aa (by unfold jG;simp[hh]);clear ht hh LG;refine wq W3 ?_;iterate 3 (refine qz ?_)
     refine qz ?_ (fun w' hw'=>by obtain⟨f1,f2,f3⟩:=F.o w' hw';go_simp<;>rfl);refine qz ?_;refine qz ?_ (fun w' hw'=>by obtain⟨f1,f2,f3⟩:=F.o w' hw';go_simp<;>rfl);refine qz ?_ (fun w' hw'=>by have hl:=Ho.o w' hw';go_simp<;>rfl);refine qz ?_;iterate 3 (refine qz ?_)
     refine qz ?_ (fun w' hw'=>by obtain⟨f1,f2,f3⟩:=F.o w' hw';go_simp<;>rfl);refine qz ?_;refine qz ?_ (fun w' hw'=>by obtain⟨f1,f2,f3⟩:=F.o w' hw';go_simp<;>rfl);refine qz ?_ (fun w' hw'=>by have hl:=Jn.o w' hw';go_simp<;>rfl);refine qz ?_;refine wpQuiet_nil ?_;intro w4 hb4;have fZ:Hid (aw (fun _=>False) n pb db w o d w4 o3 d3 (aS L name (au ((B.take (i+1)).filter (jG S)) kO))):=aa (by rw[oT.o,HE.o,if_neg ah,List.append_nil];exact eF.o.below hb4);clear hb4 F Ho Jn;go_wp2;go_roundw
     case rel=>exact⟨i+1,kO,o3,d3,by go_num,ae,fZ⟩
     case measure=>simp[intOf];omega
    ·have Jn:=aa (LG.look x.h.toNat_lt false (decide_eq_false hh));have HE:Hid (jG S x=true):=aa (by unfold jG;simp[ht,hh]);clear ht hh LG;refine wq W3 ?_;iterate 3 (refine qz ?_)
     refine qz ?_ (fun w' hw'=>by obtain⟨f1,f2,f3⟩:=F.o w' hw';go_simp<;>rfl);refine qz ?_;refine qz ?_ (fun w' hw'=>by obtain⟨f1,f2,f3⟩:=F.o w' hw';go_simp<;>rfl);refine qz ?_ (fun w' hw'=>by have hl:=Ho.o w' hw';go_simp<;>rfl);refine qz ?_;iterate 3 (refine qz ?_)
     refine qz ?_ (fun w' hw'=>by obtain⟨f1,f2,f3⟩:=F.o w' hw';go_simp<;>rfl);refine qz ?_;refine qz ?_ (fun w' hw'=>by obtain⟨f1,f2,f3⟩:=F.o w' hw';go_simp<;>rfl);refine qz ?_ (fun w' hw'=>by have hl:=Jn.o w' hw';go_simp<;>rfl);refine qz ?_;refine wpQuiet_nil ?_;intro w4 hb4;have fZ:=aa (eF.o.below hb4);have Xu:w4.heap[xb]? = some (.cells #[.int .u32 (x.t.toNat:Int),.int .u32 (x.h.toNat:Int),.int .u64 (x.x.toNat:Int),.int .u32 (x.m.toNat:Int)] 64):=(hb4.block _ (Array.getElem?_eq_some_iff.1 im.o).1).trans im.o;have q0:w4.cell? ⟨xb,0,none⟩=some (.int .u32 (x.t.toNat:Int)):=by rw[aq Xu];rfl
     have q1:w4.cell? ⟨xb,1,none⟩=some (.int .u32 (x.h.toNat:Int)):=by rw[aq Xu];rfl
     have q2:w4.cell? ⟨xb,2,none⟩=some (.int .u64 (x.x.toNat:Int)):=by rw[aq Xu];rfl
     have q3:w4.cell? ⟨xb,3,none⟩=some (.int .u32 (x.m.toNat:Int)):=by rw[aq Xu];rfl
     have hput:=aa (nw.o (w4.alloc (.cells #[.int .u32 (x.t.toNat:Int),.int .u32 (x.h.toNat:Int),.int .u64 (x.x.toNat:Int),.int .u32 (x.m.toNat:Int)] 64)) o3 d3 acc kO (.slice (some ⟨w4.heap.size,0,none⟩) 1 1) x (fZ.o.alloc _) HLEN.o V9 (fun b hb=>by cases hb;exact fZ.o.aX.fresh (Nat.le_refl _)));clear hb4 F Ho Jn im eF Xu;go_wp2_with fail;refine hput.o.mono ?_;rintro e w5⟨d5,o5,fl5,rfl,j7⟩;have kV:Hid (aw (fun _=>False) n pb db w o d w5 o5 d5 (aS L name (au ((B.take (i+1)).filter (jG S)) fl5))):=aa (by rw[oT.o,HE.o,if_pos rfl];exact j7);clear j7 hput fZ q0 q1 q2 q3;go_wp2;go_roundw
     case rel=>exact⟨i+1,fl5,o5,d5,by go_num,ae,kV⟩
     case measure=>simp[intOf];omega
  ·have hiz:¬(i:Int)<(M:Int):=by omega
   have HQ:Hid (R (.returned (.int .i64 0)) W2):=aa (by
    have:=eu.out;rw[List.take_of_length_le (by have:=HM.o;omega)]at this;rw[S2.o];exact⟨kO,d2,o2,rfl,this⟩)
   clear eu S2;go_wp2;exact HQ.o
end
end
section
open Go.RowKit Go.Maps
theorem Ja(a:UInt32):IntKind.u32.wrap ((a.toNat:Int)+1)=((a+1).toNat:Int):=by
 rfl
theorem Jb{l:List cr}{i:Nat}{y:cr}(r:UInt32)(h:l[i]? = some y):(cK l).set (i*3) (.int .u32 (r.toNat:Int))=cK (l.set i ⟨r,y.l,y.g⟩):=by
 induction l generalizing i with
 |nil=>cases h
 |cons a l ih=>
   cases i with
   |zero=>cases h;rfl
   |succ i=>grind [cK]
theorem yg{l:List cr}{i:Nat}{y:cr}(r:UInt32)(h:l[i]? = some y):(cK l).set (i*3+1) (.int .u32 (r.toNat:Int))=cK (l.set i ⟨y.r,r,y.g⟩):=by
 induction l generalizing i with
 |nil=>cases h
 |cons a l ih=>
   cases i with
   |zero=>cases h;rfl
   |succ i=>grind [cK]
theorem Jc{l:List cr}{i:Nat}{y:cr}(r:UInt32)(h:l[i]? = some y):(cK l).set (i*3+2) (.int .u32 (r.toNat:Int))=cK (l.set i ⟨y.r,y.l,r⟩):=by
 induction l generalizing i with
 |nil=>cases h
 |cons a l ih=>
   cases i with
   |zero=>cases h;rfl
   |succ i=>grind [cK]
theorem lA{L:aC}{k:Name}{f:gR}(hk:(L.map (·.1)).Nodup)(h:aA L k=some f)(f':gR):need (aS L k f')+f.need=f'.need+need L:=by
 have e:need (aS L k f)=need L:=zQ hk (cD hk) fun x=>by
  grind [ay]
 grind [aS,iO]
def eN(es:List aF):Nat:=(au es true).need
theorem MT(es:List aF)(fl:Bool):(au es fl).need=eN es:=rfl
theorem fY(es:List aF):eN es<=4*es.length:=cF es true
structure RL(L0 L:aC)(nX nU nD:Name)(R U D:List aF):Prop where
 x:∃f,aA L nX=some (au R f)
 u:∃f,aA L nU=some (au U f)
 d:∃f,aA L nD=some (au D f)
 tz:∀y,y≠nX->y≠nU->y≠nD->aA L y=aA L0 y
 need:need L<=need L0+eN R+eN U+eN D
section
variable {S:Nat->Prop} {w0 w w' W W':World} {pb db n gb gen N ob ib vb rb mb pc done sb g vk base:Nat} {o o' gL:ar} {d d' gw:Dsk} {L0 L L' xJ:aC} {es l R U D:List aF} {vs vs':List cr} {x4 x5 x6 v:Value} {name nX nU nD:Name} {fl:Bool}
theorem MU(h:RL L0 L nX nU nD R U D)(hk:(L.map (·.1)).Nodup)(h1:nX≠nU)(h2:nX≠nD)(R':List aF)(fl:Bool):RL L0 (aS L nX (au R' fl)) nX nU nD R' U D:=by
 obtain⟨f,hf⟩:=h.x;refine⟨⟨fl,by grind [ay]⟩,?_,?_,fun y h3 h4 h5=>by grind [ay,RL.tz],?_⟩
 ·grind [ay,RL.u]
 ·grind [ay,RL.d]
 ·have:=lA hk hf (au R' fl);have:=h.need;grind [MT]
theorem Wa(h:RL L0 L nX nU nD R U D)(hk:(L.map (·.1)).Nodup)(h1:nX≠nU)(h2:nU≠nD)(R':List aF)(fl:Bool):RL L0 (aS L nU (au R' fl)) nX nU nD R R' D:=by
 obtain⟨f,hf⟩:=h.u;refine⟨?_,⟨fl,by grind [ay]⟩,?_,fun y h3 h4 h5=>by grind [ay,RL.tz],?_⟩
 ·grind [ay,RL.x]
 ·grind [ay,RL.d]
 ·have:=lA hk hf (au R' fl);have:=h.need;grind [MT]
theorem Wb(h:RL L0 L nX nU nD R U D)(hk:(L.map (·.1)).Nodup)(h1:nX≠nD)(h2:nU≠nD)(R':List aF)(fl:Bool):RL L0 (aS L nD (au R' fl)) nX nU nD R U R':=by
 obtain⟨f,hf⟩:=h.d;refine⟨?_,?_,⟨fl,by grind [ay]⟩,fun y h3 h4 h5=>by grind [ay,RL.tz],?_⟩
 ·grind [ay,RL.x]
 ·grind [ay,RL.u]
 ·have:=lA hk hf (au R' fl);have:=h.need;grind [MT]
structure RNm(gen:Nat)(nX nU nD:Name):Prop where
 xu:nX≠nU
 xd:nX≠nD
 ud:nU≠nD
 x1:nX≠aJ 101 gen
 x2:nX≠aJ 114 gen
 u1:nU≠aJ 101 gen
 u2:nU≠aJ 114 gen
 d1:nD≠aJ 101 gen
 d2:nD≠aJ 114 gen
theorem eD.MV{w w':World}{v:Value}{vs:List cr}(h:eD w v vs)(hb:∀b,v.ownBlock=some b->w'.heap[b]? = w.heap[b]?):eD w' v vs:=by
 obtain⟨a,cap,rfl,h1,h2,h3⟩:=h;refine⟨a,cap,rfl,h1,h2,h3.imp id ?_⟩;rintro⟨b,off,rfl,hc⟩;refine⟨b,off,rfl,fun i hi=>?_⟩;obtain⟨k0,k1,k2⟩:=hc i hi;have e:=hb b rfl;grind [World.cell?_of_block]
structure er(w0 W:World)(pb db n:Nat)(o:ar)(d:Dsk)(L0 L:aC)(gb gen N ob ib vb:Nat)(es:List aF)(rb mb g vk done:Nat)(x5:Value)(S:List Nat)(nX nU nD:Name)(xb ub eb:Nat)(wv:Value)(was:List cr)(R U D:List aF)(vs:List cr)(base:Nat):Prop where
 kI:fH w0 W pb db n o d L gb gen N ob ib vb es
 Jd:dx W rb pb gb gen done (.map (some mb)) x5 (.slice (some ⟨g,0,none⟩) N vk)
 of:qX w0 W o rb gb ob ib vb
 ch:fD W mb S
 nY:o mb=none
 rl:RL L0 L nX nU nD R U D
 nm:RNm gen nX nU nD
 sx:aB W xb pb nX 20
 su:aB W ub pb nU 20
 sd:aB W eb pb nD 20
 ox:o xb=none
 ou:o ub=none
 od:o eb=none
 LH:eD W wv was
 own:∀b,wv.ownBlock=some b->b<W.heap.size/\o b=none
 O8:was.length=N
 row:dM W base (.slice (some ⟨g,0,none⟩) N vk) vs
 len:vs.length=N
 og:o g=none
 g0:w0.heap.size<=g
 gne:g≠rb/\g≠mb/\g≠gb/\g≠ob/\g≠ib/\g≠vb/\g≠xb/\g≠ub/\g≠eb/\wv.ownBlock≠some g
section
variable {xb ub eb:Nat} {wv:Value} {was:List cr} {S:List Nat}
theorem er.moved(h:er w0 W pb db n o d L0 L gb gen N ob ib vb es rb mb g vk done x5 S nX nU nD xb ub eb wv was R U D vs base)(hm:aw (fun _=>False) n pb db W o d W' o' d' L'){R' U' D':List aF}(hl:RL L0 L' nX nU nD R' U' D')(hq:need L0+eN R'+eN U'+eN D'<=131072) :
 er w0 W' pb db n o' d' L0 L' gb gen N ob ib vb es rb mb g vk done x5 S nX nU nD xb ub eb wv was R' U' D' vs base where
 kI:=th h.kI hm (by rw[hl.tz _ h.nm.x1.symm h.nm.u1.symm h.nm.d1.symm,h.rl.tz _ h.nm.x1.symm h.nm.u1.symm h.nm.d1.symm]) (by rw[hl.tz _ h.nm.x2.symm h.nm.u2.symm h.nm.d2.symm,h.rl.tz _ h.nm.x2.symm h.nm.u2.symm h.nm.d2.symm]) (by have:=hl.need;omega)
 Jd:=h.Jd.moved h.of.free hm
 of:=h.of.moved hm
 ch:=h.ch.kept (hm.block h.ch.lt h.nY (fun e=>e))
 nY:=hm.free h.ch.lt h.nY
 rl:=hl
 nm:=h.nm
 sx:=h.sx.moved hm h.ox (fun e=>e)
 su:=h.su.moved hm h.ou (fun e=>e)
 sd:=h.sd.moved hm h.od (fun e=>e)
 ox:=hm.free h.sx.lt h.ox
 ou:=hm.free h.su.lt h.ou
 od:=hm.free h.sd.lt h.od
 LH:=h.LH.MV (fun b hb=>hm.block (h.own b hb).1 (h.own b hb).2 (fun e=>e))
 own:=fun b hb=>⟨Nat.lt_of_lt_of_le (h.own b hb).1 hm.size,hm.free (h.own b hb).1 (h.own b hb).2⟩
 O8:=h.O8
 row:=hm.ownsRow h.row (fun b hb=>by cases hb;grind [og])
 len:=h.len
 og:=hm.free (aL h.row g rfl).1 h.og
 g0:=h.g0
 gne:=h.gne
theorem er.below(h:er w0 W pb db n o d L0 L gb gen N ob ib vb es rb mb g vk done x5 S nX nU nD xb ub eb wv was R U D vs base)(hb:Below W.heap.size W W')(hq:need L0+eN R+eN U+eN D<=131072) :
 er w0 W' pb db n o d L0 L gb gen N ob ib vb es rb mb g vk done x5 S nX nU nD xb ub eb wv was R U D vs base:=h.moved (aw.aU h.kI.held.aX hb) h.rl hq
theorem er.set(h:er w0 W pb db n o d L0 L gb gen N ob ib vb es rb mb g vk done x5 S nX nU nD xb ub eb wv was R U D vs base)(j:Nat)(u:Value)(hr:(cK vs).set j u=cK vs')(hl:vs'.length=vs.length) :
 er w0 (W.setCell ⟨g,j,none⟩ u) pb db n o d L0 L gb gen N ob ib vb es rb mb g vk done x5 S nX nU nD xb ub eb wv was R U D vs' base:=by
 obtain⟨n1,n2,n3,n4,n5,n6,n7,n8,n9,n10⟩:=h.gne;have hm:aw (·=g) n pb db W o d (W.setCell ⟨g,j,none⟩ u) o d L:=(aw.refl _ h.kI.held.aX).setCell _ _ h.og (.inl rfl);have hk:∀b,b≠g->(W.setCell ⟨g,j,none⟩ u).heap[b]? = W.heap[b]? := fun b hb=>Below.heap_setCell _ _ _ _ hb;have hg:=h.kI.gr;have hsz:(W.setCell ⟨g,j,none⟩ u).heap.size=W.heap.size:=by simp
 exact {
  kI:=⟨h.kI.held.moved hm (fun _ e=>e▸h.g0),h.kI.need,⟨hg.raw.moved hm hg.Vu n3.symm,hg.out.moved hm hg.PL n4.symm,hg.qH.moved hm hg.Ua n5.symm,hg.qO.moved hm hg.Jv n6.symm,hg.Vu,hg.PL,hg.Ua,hg.Jv⟩,h.kI.file,h.kI.DB,h.kI.len,h.kI.top,h.kI.ends⟩
  Jd:=(hk rb n1.symm).trans h.Jd
  of:=⟨h.of.new,by rw[hsz];exact h.of.lt,h.of.free,h.of.graph⟩
  ch:=h.ch.kept (hk mb n2.symm)
  nY:=h.nY
  rl:=h.rl
  nm:=h.nm
  sx:=h.sx.kept (hk _ n7.symm)
  su:=h.su.kept (hk _ n8.symm)
  sd:=h.sd.kept (hk _ n9.symm)
  ox:=h.ox
  ou:=h.ou
  od:=h.od
  LH:=h.LH.MV (fun b hb=>hk b (fun e=>n10 (e▸hb)))
  own:=fun b hb=>⟨by rw[hsz];exact(h.own b hb).1,(h.own b hb).2⟩
  O8:=h.O8
  row:=by
   grind [World.ownsRow.stored,row,len]
  len:=hl.trans h.len
  og:=h.og
  g0:=h.g0
  gne:=h.gne }
end
end
end
section
open Go.RowKit Go.Maps
section
variable {w0 w w' W W':World} {pb db n gb gen N ob ib vb rb mb done g vk base xb ub eb:Nat} {o o' gL:ar} {d d' gw:Dsk} {L0 L L' xJ:aC} {es R U D:List aF} {vs vs' was:List cr} {x5 wv:Value} {S:List Nat} {nX nU nD:Name}
def Fs(w0 w:World)(pb db n:Nat)(o:ar)(d:Dsk)(L0:aC)(gb gen N ob ib vb:Nat)(es:List aF)(rb mb g vk done:Nat)(x5:Value)(S:List Nat)(nX nU nD:Name)(xb ub eb:Nat)(wv:Value)(was:List cr)(R U D:List aF)(vs:List cr)(base:Nat)(e:Ending)(w':World):Prop:=
 ∃d' o' L',e=.returned (.int .i64 0)/\aw (·=g) n pb db w o d w' o' d' L'/\er w0 w' pb db n o' d' L0 L' gb gen N ob ib vb es rb mb g vk done x5 S nX nU nD xb ub eb wv was R U D vs base
theorem er.put(HW:aQ)(h:er w0 W pb db n o d L0 L gb gen N ob ib vb es rb mb g vk done x5 S nX nU nD xb ub eb wv was R U D vs base){sb:Nat}{name:Name}{A l:List aF}{v:Value}{fl:Bool}(hst:aB W sb pb name 20)(Nl:o sb=none)(hL:aA L name=some (au A fl))(hv:kL W v l)(mm:∀b,v.ownBlock=some b->o b=none)(hA:A.length<=R.length+U.length+D.length)(hq:need L0+8*(l.length+R.length+U.length+D.length)<=131072) :
 Calls prog 151 #[ptrTo sb,v] W (jA (fun _=>False) n pb db W o d L name (A++l)):=by
 have:=h.rl.need;have:=fY R;have:=fY U;have:=fY D;exact I7 HW h.kI.held hst Nl hL hv mm ae ae
theorem O9{l:List cr}{i:Nat}{y:cr}(h:l[i]? = some y):l.set i y=l:=by
 refine List.ext_getElem? fun j=>?_;grind
theorem Bc{l:List cr}{i:Nat}{y:cr}{f:cr->cr}(h:l[i]? = some y):l.modify i f=l.set i (f y):=by
 refine List.ext_getElem? fun j=>?_;grind
def XP(w:World)(o:ar)(v:Value)(l:List aF):Prop:=kL w v l/\∀b,v.ownBlock=some b->b<w.heap.size/\o b=none
theorem XP.moved{v:Value}{l:List aF}(h:XP w o v l)(hm:aw (fun _=>False) n pb db w o d w' o' d' L'):XP w' o' v l:=
 ⟨h.1.moved hm (fun b hb=>(h.2 b hb).2),fun b hb=>⟨Nat.lt_of_lt_of_le (h.2 b hb).1 hm.size,hm.free (h.2 b hb).1 (h.2 b hb).2⟩⟩
theorem XP.of{v:Value}{l:List aF}(h:aI w base v l)(ho:∀b,v.ownBlock=some b->o b=none):XP w o v l:=⟨jt h,fun b hb=>⟨(aL h b hb).1,ho b hb⟩⟩
section
variable {pc:Nat} {oo:ar} {dd:Dsk} {ob':Obj}
theorem gK(h:er w0 W pb db n o d L0 L gb gen N ob ib vb es rb mb g vk done x5 S nX nU nD xb ub eb wv was R U D vs base/\W.heap[pc]? = some ob'/\o pc=none/\aw (·=g) n pb db w oo dd W o d L)(hm:aw (fun _=>False) n pb db W o d W' o' d' L'){R' U' D':List aF}(hl:RL L0 L' nX nU nD R' U' D')(hq:need L0+eN R'+eN U'+eN D'<=131072) :
 er w0 W' pb db n o' d' L0 L' gb gen N ob ib vb es rb mb g vk done x5 S nX nU nD xb ub eb wv was R' U' D' vs base/\W'.heap[pc]? = some ob'/\o' pc=none/\aw (·=g) n pb db w oo dd W' o' d' L':=
 ⟨h.1.moved hm hl hq,hm.heap h.2.1 h.2.2.1 (fun e=>e),hm.free (Array.getElem?_eq_some_iff.1 h.2.1).1 h.2.2.1,h.2.2.2.trans hm (fun _ _ e=>e.elim)⟩
theorem y6(h:er w0 W pb db n o d L0 L gb gen N ob ib vb es rb mb g vk done x5 S nX nU nD xb ub eb wv was R U D vs base/\W.heap[pc]? = some ob'/\o pc=none/\aw (·=g) n pb db w oo dd W o d L)(hne:pc≠g)(j:Nat)(u:Value)(hr:(cK vs).set j u=cK vs')(hl:vs'.length=vs.length) :
 er w0 (W.setCell ⟨g,j,none⟩ u) pb db n o d L0 L gb gen N ob ib vb es rb mb g vk done x5 S nX nU nD xb ub eb wv was R U D vs' base/\(W.setCell ⟨g,j,none⟩ u).heap[pc]? = some ob'/\o pc=none/\aw (·=g) n pb db w oo dd (W.setCell ⟨g,j,none⟩ u) o d L:=
 ⟨h.1.set j u hr hl,by grind [Below.heap_setCell],h.2.2.1,h.2.2.2.setCell _ _ h.1.og (.inl rfl)⟩
theorem Tp(h:er w0 W pb db n o d L0 L gb gen N ob ib vb es rb mb g vk done x5 S nX nU nD xb ub eb wv was R U D vs base/\W.heap[pc]? = some ob'/\o pc=none/\aw (·=g) n pb db w oo dd W o d L)(hne:pc≠g)(j:Nat)(u:Value)(hr:(cK vs).set j u=cK vs')(hl:vs'.length=vs.length)(hq:need L0+eN R+eN U+eN D<=131072) :
 er w0 (W.setCell ⟨g,j,none⟩ u).drew pb db n o d L0 L gb gen N ob ib vb es rb mb g vk done x5 S nX nU nD xb ub eb wv was R U D vs' base/\(W.setCell ⟨g,j,none⟩ u).drew.heap[pc]? = some ob'/\o pc=none/\aw (·=g) n pb db w oo dd (W.setCell ⟨g,j,none⟩ u).drew o d L:=
 have h1:=y6 h hne j u hr hl;gK h1 (aw.aU h1.1.kI.held.aX aj.drew) h1.1.rl hq
end
end
end
section
open Go.RowKit Go.Maps
def vN(vs:List cr):Nat:=(b6 vs true).need
structure nh(L L':aC)(gen:Nat)(R U D:List aF)(vs:List cr):Prop where
 e:aA L' (aJ 101 (gen+1))=some (au (aK false R) true)
 r:aA L' (aJ 114 (gen+1))=some (au (aK true R) true)
 v:aA L' (aJ 118 (gen+1))=some (b6 vs true)
 u:aA L' (aJ 117 (gen+1))=some (au U true)
 d:aA L' (aJ 100 (gen+1))=some (au D true)
 tz:∀y,y≠aJ 101 (gen+1)->y≠aJ 114 (gen+1)->y≠aJ 118 (gen+1)->y≠aJ 117 (gen+1)->y≠aJ 100 (gen+1)->aA L' y=aA L y
 need:need L'<=need L+eN (aK false R)+eN (aK true R)+vN vs+eN U+eN D
theorem Fu(L:aC)(k:Name):need (b7 L k)<=need L:=by
 have h1:=cN L k (.inl (([]:List Pg),true));grind [aS,iO]
theorem Tq{L:aC}{k:Name}{f:gR}(hk:(L.map (·.1)).Nodup)(h:aA L k=some f):need (b7 L k)+f.need=need L:=by
 have:=lA hk h (.inl (([]:List Pg),true));grind [aS,iO]
theorem rK{L:aC}{gen:Nat}{R:List aF}{vs:List cr}{y:Name}(h1:y≠aJ 101 gen)(h2:y≠aJ 114 gen)(h3:y≠aJ 118 gen):aA (fN L gen R vs) y=aA L y:=by
 grind [fN,ay]
theorem LI{L L3:aC}{gen:Nat}{R U D:List aF}{vs:List cr}(hk:(L3.map (·.1)).Nodup)(h:RL L L3 (aJ 120 (gen+1)) (aJ 117 (gen+1)) (aJ 100 (gen+1)) R U D)(hx:aA L (aJ 120 (gen+1))=none) :
 nh L (b7 (aS (aS (fN L3 (gen+1) R vs) (aJ 117 (gen+1)) (au U true)) (aJ 100 (gen+1)) (au D true)) (aJ 120 (gen+1))) gen R U D vs:=by
 have ne:∀{c c':UInt8},c≠c'->aJ c (gen+1)≠aJ c' (gen+1):=fun h=>iq h _ _;obtain⟨f1,f2,f3⟩:=xY L3 (gen+1) R vs;have hmo:∀y,y≠aJ 101 (gen+1)->y≠aJ 114 (gen+1)->y≠aJ 118 (gen+1)->aA (fN L3 (gen+1) R vs) y=aA L3 y:=fun y h1 h2 h3=>rK h1 h2 h3;have vG:((fN L3 (gen+1) R vs).map (·.1)).Nodup:=by grind [fN,cD]
 obtain⟨fx,Wc⟩:=h.x;obtain⟨fu,Qq⟩:=h.u;obtain⟨fd,SZ⟩:=h.d;refine⟨?_,?_,?_,?_,?_,fun y h1 h2 h3 h4 h5=>?_,?_⟩
 ·grind [cO,ay]
 ·grind [cO,ay]
 ·grind [cO,ay]
 ·grind [cO,ay]
 ·grind [cO,ay]
 ·grind [cO,ay,RL.tz]
 ·have g1:=Tq (L:=aS (aS (fN L3 (gen+1) R vs) (aJ 117 (gen+1)) (au U true)) (aJ 100 (gen+1)) (au D true)) (k:=aJ 120 (gen+1)) (f:=au R fx) (cD (cD vG)) (by grind [ay]);have g2:=lA (L:=aS (fN L3 (gen+1) R vs) (aJ 117 (gen+1)) (au U true)) (k:=aJ 100 (gen+1)) (f:=au D fd) (cD vG) (by grind [ay]) (au D true);have g3:=lA (L:=fN L3 (gen+1) R vs) (k:=aJ 117 (gen+1)) (f:=au U fu) vG (by grind) (au U true);have g4:=cN (aS (aS L3 (aJ 101 (gen+1)) (au (aK false R) true)) (aJ 114 (gen+1)) (au (aK true R) true)) (aJ 118 (gen+1)) (b6 vs true);have g5:=cN (aS L3 (aJ 101 (gen+1)) (au (aK false R) true)) (aJ 114 (gen+1)) (au (aK true R) true);have g6:=cN L3 (aJ 101 (gen+1)) (au (aK false R) true);have g7:=h.need;grind [vN,MT,fN]
end
section
open Go Go.RowKit
section
variable {P:Program} {C:World->Prop} {val:Nat->Value} {Dn:Nat->World->Prop} {l:List Oper} {a0:Act}
structure qZ(C:World->Prop)(val:Nat->Value)(Dn:Nat->World->Prop)(l:List Oper)(a0:Act)(listed:Array Bool)(a:Act)(w:World):Prop where
 size:listed.size=l.length
 cls:C w
 Xq:a.tmps.size=a0.tmps.size
 dfr:a.defers=a0.defers
 out:∀k,(∀o∈l,o.dst≠some k)->a.tmps[k]? = a0.tmps[k]?
 slot:∀(i:Nat)(o:Oper)(k:Nat),l[i]? = some o->o.dst=some k->listed.getD i true=true->a.tmps[k]? = some (val i)
 dn:∀i,i<l.length->listed.getD i true=true->Dn i w
def rL(val:Nat->Value)(l:List Oper)(a0:Act)(o:Oper)(a:Act):Prop:=
 (∀k,(∀o∈l,o.dst≠some k)->a.tmps[k]? = a0.tmps[k]?)/\∀e∈o.after,Region.binds .any e=true->∀(oj:Oper)(k:Nat),l[e.on]? = some oj->oj.dst=some k->a.tmps[k]? = some (val e.on)
theorem rL.get{o:Oper}{a:Act}(h:rL val l a0 o a)(j:Nat){oj:Oper}{k:Nat}(hj:(o.after.toList.any fun e=>decide (e.on=j) && Region.binds .any e)=true)(ho:l[j]? = some oj)(hk:oj.dst=some k):a.tmps[k]? = some (val j):=by
 rw[List.any_eq_true]at hj;obtain⟨e,he,h1⟩:=hj;rw[Bool.and_eq_true,decide_eq_true_eq]at h1;obtain⟨rfl,h2⟩:=h1;exact h.2 e (by grind) h2 oj k ho hk
theorem rL.old{o:Oper}{a:Act}(h:rL val l a0 o a)(k:Nat){v:Value}(hk:(l.all fun o=>decide (o.dst≠some k))=true)(h0:a0.tmps[k]? = some v):a.tmps[k]? = some v:=by
 refine(h.1 k fun o ho=>?_).trans h0;grind
def Fv(P:Program)(C:World->Prop)(val:Nat->Value)(Dn:Nat->World->Prop)(i:Nat)(o:Oper)(a:Act)(w:World):Prop:=
 ∃w',((execOp a.eval o).run P w=.ok (.value (val i)) w'\/o.dst=none/\(execOp a.eval o).run P w=.ok .skip w')/\C w'/\Dn i w'/\∀j,Dn j w->Dn j w'
theorem Pa{Q:Exit->Act->World->Prop}(hB:Hu l a0.tmps.size=true)(hstep:∀(i:Nat)(o:Oper),l[i]? = some o->∀a w,C w->rL val l a0 o a->Fv P C val Dn i o a w)(hend:∀listed a w,qZ C val Dn l a0 listed a w->Region.ready .any l.toArray listed=[]->Q .normal a w)(f:Nat) :
 ∀(listed:Array Bool)(a:Act)(w:World),qZ C val Dn l a0 listed a w->listed.toList.count false<=f->wpAny P .any l.toArray Q f listed a w:=by
 simp only[Hu,Bool.and_eq_true,List.all_eq_true]at hB;obtain⟨⟨hg,hb⟩,hd⟩:=hB;induction f with
 |zero=>
   intro listed a w inv hf;have hr:Region.ready .any l.toArray listed=[]:=by
    unfold Region.ready;rw[List.filter_eq_nil_iff];intro i _;have:listed.getD i true=true:=by
     rw[Array.getD_eq_getD_getElem?];grind [List.count_pos_iff]
    grind
   exact⟨hr,hend _ _ _ inv hr⟩
 |succ f ih=>
   intro listed a w inv hf;refine⟨hend _ _ _ inv,fun i hi=>?_⟩;obtain⟨vt,o,ho,hall⟩:=mem_ready.1 hi;have kN:l[i]? = some o:=by grind
   have hol:o∈l:=List.mem_of_getElem? kN;have nZ:i<l.length:=(List.getElem?_eq_some_iff.1 kN).1;have hw:Region.wanted o (yielded l.toArray a.tmps)=true:=by
    grind [Region.wanted]
   obtain⟨w',hrun,hC,hD,hK⟩:=hstep i o kN a w inv.cls ⟨inv.out,fun e he PJ oj k lC hk=>inv.slot _ oj k lC hk (by
    grind)⟩
   have Tr:∀j,i≠j->(listed.setIfInBounds i true).getD j true=true->listed.getD j true=true:=fun j e9 h=>by
    simp_all
   unfold wpOp;rw[ho];simp only[hw,if_true];refine .inl ?_;have key:wpAny P .any l.toArray Q f (listed.setIfInBounds i true) (a.put o.dst (val i)) w':=by
    refine ih _ _ _ ⟨by grind [qZ.size],hC,by rw[qI];exact inv.Xq,by rw[sq];exact inv.dfr,fun k hk=>(pD _ _ _ _ (hk o hol)).trans (inv.out k hk),fun j oj k lC hk hlj=>?_,fun j hj hlj=>?_⟩ ?_
    ·by_cases e9:i=j
     ·grind [Act.put,qZ.Xq]
     ·refine(pD _ _ _ _ (fun e=>?_)).trans (inv.slot j oj k lC hk (Tr j e9 hlj));have h4:=hd i (List.mem_range.2 nZ) j (List.mem_range.2 (List.getElem?_eq_some_iff.1 lC).1);grind
    ·grind [qZ.dn]
    ·have tK:listed[i]? = some false:=by
      rw[Array.getD_eq_getD_getElem?]at vt;grind
     grind
   unfold Oper.wp;rcases hrun with hrun |⟨MJ,hrun⟩
   ·rw[hrun];exact key
   ·rw[hrun];rw[MJ]at key;show wpAny P .any l.toArray Q f _ (a.put o.dst undef) w';rw[MJ];exact key
def aeB(l:List Oper):Bool:=(List.range l.length).all fun i=>match l[i]? with | some o=>o.after.toList.all (fun e=>!Region.binds .any e || decide (e.on<i)) | none=>true
def Bd(val:Nat->Value):Act->Nat->List Oper->Act
 |a,_,[]=>a
 |a,k,o::l=>Bd val (a.put o.dst (val k)) (k+1) l
theorem Pb(l:List Oper):∀(a:Act)(k:Nat),Bd val a k l=nI a l ((List.range' k l.length).map val):=by
 induction l with
 |nil=>intro a k;rfl
 |cons o l ih=>grind [Bd,List.range'_succ,nI]
theorem CI{id:Nat}{Q:Exit->Act->World->Prop}{w:World}(C:World->Prop)(val:Nat->Value)(Dn:Nat->World->Prop)(hm:P.follows .mixedOrders=true)(hB:Hu l a0.tmps.size=true)(hA:aeB l=true)(hC:C w.drew)(hstep:∀(i:Nat)(o:Oper),l[i]? = some o->∀a w,C w->rL val l a0 o a->Fv P C val Dn i o a w)(hend:∀w',C w'->(∀i,i<l.length->Dn i w')->Q .normal (Bd val a0 0 l) w'):(Code.region id l.toArray true).wp P Q a0 w:=by
 refine wp_region_any hm ?_;refine Pa hB hstep (fun listed a w inv hr=>?_) _ _ _ _ ⟨ah,hC,rfl,rfl,fun _ _=>rfl,fun i o k ho _ hl=>?_,fun i hi hl=>?_⟩ (Nat.le_trans List.count_le_length ah)
 ·have hall:∀i,i<l.length->listed.getD i true=true:=by
   intro i;induction i using Nat.strongRecOn with
   |_ i ih=>
     intro hi;by_cases hd:listed.getD i true=true
     ·exact hd
     ·exfalso
      have hm:i∈Region.ready .any l.toArray listed:=by
       refine mem_ready.2 ⟨by grind,l[i],ah,fun e he PJ=>?_⟩;unfold aeB at hA;rw[List.all_eq_true]at hA;have h1:=hA i (List.mem_range.2 hi);grind
      grind
  have ha:a=nI a0 l ((List.range l.length).map val):=by
   simp only[Hu,Bool.and_eq_true,List.all_eq_true]at hB;obtain⟨⟨_,h2⟩,h3⟩:=hB;obtain⟨k1,k2,k3⟩:=qJ l a0 ((List.range l.length).map val);refine xW (by rw[k1,inv.Xq]) (by rw[k2,inv.dfr]) (fun k hk=>?_);rw[k1]at hk;by_cases he:∃o∈l,o.dst=some k
   ·obtain⟨o,ho,fw⟩:=he;obtain⟨i,hi⟩:=List.mem_iff_getElem?.1 ho;have nZ:=(List.getElem?_eq_some_iff.1 hi).1;rw[inv.slot i o k hi fw (hall i nZ)];refine(Dq l a0 _ i o k _ hi fw (by grind) hk (fun j oj hj hjk=>?_)).symm;have h4:=h3 j (List.mem_range.2 (List.getElem?_eq_some_iff.1 hj).1) i (List.mem_range.2 nZ);grind
   grind [qZ.out]
  grind [List.range_eq_range',Pb,qZ.cls,qZ.dn]
 ·have nZ:i<l.length:=(List.getElem?_eq_some_iff.1 ho).1;simp_all
 simp_all
theorem ck{i:Nat}{o:Oper}{a:Act}{w:World}(hC:C w)(hD:Dn i w)(h:(execOp a.eval o).run P w=.ok (.value (val i)) w):Fv P C val Dn i o a w:=⟨w,.inl h,hC,hD,fun _ h=>h⟩
end
end
section
open Go.RowKit Go.Maps
section
variable {w0 w w' W W':World} {pb db n gb gen N ob ib vb rb mb done g vk base xb ub eb:Nat} {o o' gL:ar} {d d' gw:Dsk} {L0 L L' xJ:aC} {es R U D:List aF} {vs vs' was:List cr} {x5 wv:Value} {S:List Nat} {nX nU nD:Name}
theorem Fw(HW:aQ)(h:er w0 w pb db n o d L0 L gb gen N ob ib vb es rb mb g vk done x5 S nX nU nD xb ub eb wv was R U D vs base)(i v:Nat)(hv:v<N)(hi:done+i<4294967296)(Ts:gen<1048576)(_hbase:base<=w.heap.size)(wR:(fB es v).length*(aY es v).length<=100000)(hq:need L0+8*(R.length+U.length+D.length+(aY es v).length+(fB es v).length+(iH es S v).length)<=131072) :
 Calls prog 103 #[ptrTo rb,.int .i64 (i:Int),.int .u32 (v:Int),wv,ptrTo xb,ptrTo ub,ptrTo eb] w
  (Fs w0 w pb db n o d L0 gb gen N ob ib vb es rb mb g vk done x5 S nX nU nD xb ub eb wv was (R++iH es S v) (U++aY es v) (D++fB es v) (fW es was done gen vs i v) base):=by
 obtain⟨wa,wk,rfl,-⟩:=h.LH;have hN:N<=1000:=h.kI.top;obtain⟨V,hV⟩:∃V,V=UInt32.ofNat v:=⟨_,rfl⟩;have hVv:V.toNat=v:=by grind [UInt32.toNat_ofNat']
 have HV:=aa (show V=UInt32.ofNat v/\V.toNat=v from⟨hV,hVv⟩);obtain⟨RK,hRK⟩:∃x:UInt32,x=UInt32.ofNat (done+i):=⟨_,rfl⟩;obtain⟨LV,hLV⟩:∃x:UInt32,x=UInt32.ofNat (gen+1):=⟨_,rfl⟩;have hRn:RK.toNat=done+i:=by simp_all
 have hLn:LV.toNat=gen+1:=by grind [UInt32.toNat_ofNat']
 have HRL:=aa (show RK=UInt32.ofNat (done+i)/\LV=UInt32.ofNat (gen+1) from⟨hRK,hLV⟩);have HWR:Hid (IntKind.u32.wrap (i:Int)=(i:Int)/\IntKind.u32.wrap ((done:Int)+(i:Int))=(RK.toNat:Int)/\IntKind.i64.wrap ((gen:Int)+1)=((gen+1:Nat):Int)/\((gen:Int)+1)%4294967296=(LV.toNat:Int)/\IntKind.u32.wrap ((gen:Int)+1)=(LV.toNat:Int)):=aa ⟨eW _ ae ae,by grind [eW],by grind [ax],ae,by grind [IntKind.wrap_u32]⟩;have HQ:=aa hq;have HDG:=aa wR;have HRM:Hid (need L0+eN R+eN U+eN D<=131072):=aa (by grind [fY]);have HVN:=aa hv;obtain⟨PST,mh⟩:∃P,P=Fs w0 w pb db n o d L0 gb gen N ob ib vb es rb mb g vk done x5 S nX nU nD xb ub eb (.slice wa was.length wk) was (R++iH es S v) (U++aY es v) (D++fB es v) (fW es was done gen vs i v) base:=⟨_,rfl⟩;have wZ:=aa mh;rw[<- mh];have H1:Hid (er w0 (w.alloc (.cells #[ptrTo rb] 130)) pb db n o d L0 L gb gen N ob ib vb es rb mb g vk done x5 S nX nU nD xb ub eb (.slice wa was.length wk) was R U D vs base/\(w.alloc (.cells #[ptrTo rb] 130)).heap[w.heap.size]? = some (.cells #[ptrTo rb] 130)/\o w.heap.size=none/\w.heap.size≠g):=aa ⟨h.below ai (by assumption),heap_alloc_new _ _,h.kI.held.aX.fresh (Nat.le_refl _),fun e=>by have:=(aL h.row g rfl).1;omega⟩;have eo:Hid (aw (·=g) n pb db w o d (w.alloc (.cells #[ptrTo rb] 130)) o d L):=aa ((aw.refl _ h.kI.held.aX).alloc _);have c1:=h.Jd.cells.2.1;have Jk:=h.Jd.lt;clear h hq wR hN _hbase hv mh hV hVv hRK hLV hRn hLn hi Ts;unfold ptrTo at *;go_enter func103,ntmps103;go_wp2_with fail;clear c1 Jk;have iU:Hid (er w0 (w.alloc (.cells #[.pointer (some ⟨rb,0,none⟩)] 130)) pb db n o d L0 L gb gen N ob ib vb es rb mb g vk done x5 S nX nU nD xb ub eb (.slice wa was.length wk) was R U D vs base/\(w.alloc (.cells #[.pointer (some ⟨rb,0,none⟩)] 130)).heap[w.heap.size]? = some (.cells #[.pointer (some ⟨rb,0,none⟩)] 130)/\o w.heap.size=none/\aw (·=g) n pb db w o d (w.alloc (.cells #[.pointer (some ⟨rb,0,none⟩)] 130)) o d L):=aa ⟨H1.o.1,H1.o.2.1,H1.o.2.2.1,eo.o⟩;have HPG:Hid (w.heap.size≠g):=aa H1.o.2.2.2;clear H1 eo;generalize w.alloc (.cells #[.pointer (some ⟨rb,0,none⟩)] 130)=W1 at *;obtain⟨pc,hpc⟩:∃x,x=w.heap.size:=⟨_,rfl⟩;rw[<- hpc]at iU HPG ⊢;clear hpc;have hout:=aa (iU.o.1.kI.out HW HVN.o);unfold ju ptrTo at hout;refine hout.o.mono ?_;rintro e w2⟨ov,d2,o2,rfl,cP,ko,hf2⟩;obtain⟨oa,oc,rfl⟩:=az ko;have eM:=aa (gK iU.o cP iU.o.1.rl HRM.o);have aeD:=aa (XP.of ko hf2);have p9:=aa (eM.o.1.kI.qH HW HVN.o);have c0:w2.cell? ⟨pc,0,none⟩=some (.pointer (some ⟨rb,0,none⟩)):=by rw[aq eM.o.2.1];rfl
 have c1:w2.cell? ⟨rb,1,none⟩=some (.pointer (some ⟨gb,0,none⟩)):=eM.o.1.Jd.cells.2.1;unfold ju ptrTo at p9;clear cP ko hf2 hout iU;go_wp2_with fail;refine p9.o.mono ?_;rintro e w3⟨iv,d3,o3,rfl,eA,hi3,hf3⟩;obtain⟨ia,ic,rfl⟩:=az hi3;have fy:=aa (gK eM.o eA eM.o.1.rl HRM.o);have aeE:=aa (aeD.o.moved eA);have aeF:=aa (XP.of hi3 hf3);clear eA hi3 hf3 p9 eM aeD c0 c1;have F:Hid (∀w',Below w3.heap.size w3 w'->w'.cell? ⟨pc,0,none⟩=some (.pointer (some ⟨rb,0,none⟩))/\w'.cell? ⟨rb,1,none⟩=some (.pointer (some ⟨gb,0,none⟩))):=aa (fun w' hw'=>by
  have hs:=gK fy.o (aw.aU fy.o.1.kI.held.aX hw') fy.o.1.rl HRM.o;exact⟨by rw[aq hs.2.1];rfl,hs.1.Jd.cells.2.1⟩)
 go_wp2_with fail;refine cE (Below w3.heap.size w3) 12 rfl ag ag (aj.drew) ?_;simp only[List.take_succ_cons,List.take_zero];refine qz ?_ (fun w' hw'=>by obtain⟨f0,f1⟩:=F.o w' hw';go_simp<;>rfl);iterate 2 (refine qz ?_)
 refine qz ?_ (fun w' hw'=>by obtain⟨f0,f1⟩:=F.o w' hw';go_simp<;>rfl);refine qz ?_;refine qz ?_ (fun w' hw'=>by obtain⟨f0,f1⟩:=F.o w' hw';go_simp<;>rfl);iterate 2 (refine qz ?_)
 refine qz ?_ (fun w' hw'=>by obtain⟨f0,f1⟩:=F.o w' hw';go_simp<;>rfl);iterate 3 (refine qz ?_)
 refine wpQuiet_nil ?_;intro w4 hw4;refine⟨_,_,rfl,(by go_simp<;>exact⟨rfl,rfl⟩),?_⟩;have gj:=aa (gK fy.o (aw.aU fy.o.1.kI.held.aX hw4) fy.o.1.rl HRM.o);have Vw:=aa (aeE.o.moved (aw.aU (n:=n) fy.o.1.kI.held.aX hw4));have aeG:=aa (aeF.o.moved (aw.aU (n:=n) fy.o.1.kI.held.aX hw4));have vG:=aa (sD HW gj.o.1.kI (Tm gj.o.2.1 gj.o.1.Jd gj.o.1.ch gj.o.2.2.1 gj.o.1.of.free gj.o.1.nY) V (by grind [Hid.out]) (by grind [Hid.out]));have hce:oH (aY es) (fun x=>decide (x∈S)) (fB es v) V=iH es S v:=by grind [iH,Hid.out]
 rw[HV.o.2,hce]at vG;unfold uL uK Fa ptrTo at vG;clear hw4 F fy aeE aeF hce;refine vG.o.mono ?_;rintro e w5⟨cv,d5,o5,rfl,j7,oz,Ie⟩;have b8:=aa (gK gj.o j7 gj.o.1.rl HRM.o);have aao:=aa (Vw.o.moved j7);have aeH:=aa (aeG.o.moved j7);have aeI:Hid (XP w5 o5 cv (iH es S v)):=aa ⟨oz,fun b hb=>⟨(Ie b hb).2.2,(Ie b hb).1⟩⟩;obtain⟨ca,cc,rfl,-⟩:=oz;clear j7 Ie vG gj Vw aeG;refine⟨_,rfl,?_⟩;go_simp;iterate 5 (refine qz ?_)
 refine wpQuiet_nil ?_;obtain⟨fu,Qq⟩:=b8.o.1.rl.u;have hpu:=aa (b8.o.1.put HW b8.o.1.su b8.o.1.ou Qq aao.o.1 (fun b hb=>(aao.o.2 b hb).2) ae (by grind [Hid.out]));unfold jA ptrTo at hpu;clear Qq;go_wp2_with fail;refine hpu.o.mono ?_;rintro e w6⟨f6,d6,o6,rfl,nO⟩;have gu:=aa (gK b8.o nO (Wa b8.o.1.rl b8.o.1.kI.held.aX.keys b8.o.1.nm.xu b8.o.1.nm.ud (U++aY es v) f6) (by grind [Hid.out,fY]));have aap:=aa (aeH.o.moved nO);have aeJ:=aa (aeI.o.moved nO);clear nO hpu b8 aao aeH aeI;obtain⟨fd,SZ⟩:=gu.o.1.rl.d;have hpd:=aa (gu.o.1.put HW gu.o.1.sd gu.o.1.od SZ aap.o.1 (fun b hb=>(aap.o.2 b hb).2) ae (by grind [Hid.out]));unfold jA ptrTo at hpd;clear SZ;go_wp2_with fail;refine hpd.o.mono ?_;rintro e w7⟨f7,d7,o7,rfl,rD⟩;have jR:=aa (gK gu.o rD (Wb gu.o.1.rl gu.o.1.kI.held.aX.keys gu.o.1.nm.xd gu.o.1.nm.ud (D++fB es v) f7) (by grind [Hid.out,fY]));have aaq:=aa (aeJ.o.moved rD);clear rD hpd gu aap aeJ;obtain⟨fx,Wc⟩:=jR.o.1.rl.x;have hpx:=aa (jR.o.1.put HW jR.o.1.sx jR.o.1.ox Wc aaq.o.1 (fun b hb=>(aaq.o.2 b hb).2) ae (by grind [Hid.out]));unfold jA ptrTo at hpx;clear Wc;go_wp2_with fail;refine hpx.o.mono ?_;rintro e w8⟨f8,d8,o8,rfl,EH⟩;have Wd:Hid (need L0+eN (R++iH es S v)+eN (U++aY es v)+eN (D++fB es v)<=131072):=aa (by grind [Hid.out,fY]);have jD:=aa (gK jR.o EH (MU jR.o.1.rl jR.o.1.kI.held.aX.keys jR.o.1.nm.xu jR.o.1.nm.xd (R++iH es S v) f8) Wd.o);clear EH hpx jR aaq;generalize aS (aS (aS L nU (au (U++aY es v) f6)) nD (au (D++fB es v) f7)) nX (au (R++iH es S v) f8)=L8 at *;generalize R++iH es S v=R8 at *;generalize U++aY es v=U8 at *;generalize D++fB es v=D8 at *;obtain⟨y,hy⟩:∃y,vs[v]? = some y:=⟨_,List.getElem?_eq_getElem (by have:=HVN.o;have:=jD.o.1.len;omega)⟩;have HY:=aa hy;obtain⟨pp,mn⟩:∃p,p=v*3:=⟨_,rfl⟩;have HPP:=aa mn;obtain⟨n1,-⟩:=jD.o.1.gne;have n2:=HPG.o;have hvn:=HVN.o;clear hy mn;obtain⟨C,hC⟩:∃C:World->Prop,C=fun W=>∃r l,(er w0 W pb db n o8 d8 L0 L8 gb gen N ob ib vb es rb mb g vk done x5 S nX nU nD xb ub eb (.slice wa was.length wk) was R8 U8 D8 (vs.set v ⟨r,l,y.g⟩) base/\W.heap[pc]? = some (.cells #[.pointer (some ⟨rb,0,none⟩)] 130)/\o8 pc=none/\aw (·=g) n pb db w o d W o8 d8 L8):=⟨_,rfl⟩;have HC:=aa hC;have F:Hid (∀W,C W->W.cell? ⟨pc,0,none⟩=some (.pointer (some ⟨rb,0,none⟩))/\W.cell? ⟨rb,2,none⟩=some (.int .i64 (gen:Int))/\W.cell? ⟨rb,3,none⟩=some (.int .u32 (done:Int))/\W.cell? ⟨rb,6,none⟩=some (.slice (some ⟨g,0,none⟩) N vk)):=aa (fun W hw=>by
  rw[HC.o]at hw;obtain⟨r,l,hs⟩:=hw;obtain⟨-,-,h2,h3,-,-,h6,-⟩:=hs.1.Jd.cells;exact⟨by rw[aq hs.2.1];rfl,h2,h3,h6⟩)
 have HLV:Hid (v<vs.length):=aa (aN HY.o);have G:Hid (∀W,C W->(∃r l,W.cell? ⟨g,pp,none⟩=some (.int .u32 ((r:UInt32).toNat:Int))/\W.cell? ⟨g,pp+1,none⟩=some (.int .u32 ((l:UInt32).toNat:Int))/\er w0 W pb db n o8 d8 L0 L8 gb gen N ob ib vb es rb mb g vk done x5 S nX nU nD xb ub eb (.slice wa was.length wk) was R8 U8 D8 (vs.set v ⟨r,l,y.g⟩) base/\W.heap[pc]? = some (.cells #[.pointer (some ⟨rb,0,none⟩)] 130)/\o8 pc=none/\aw (·=g) n pb db w o d W o8 d8 L8)/\W.frozen? ⟨g,pp,none⟩=false/\W.frozen? ⟨g,pp+1,none⟩=false):=aa (fun W hw=>by
  rw[HC.o]at hw;obtain⟨r,l,hs⟩:=hw;have hrow:=hs.1.row;rw[<- hs.1.len]at hrow;obtain⟨q0,q1,-⟩:=jy hrow (List.getElem?_set_self HLV.o);grind [Hid.out,World.ownsRow.frozenAt])
 have ST:Hid (∀W,C W->C (W.setCell ⟨g,pp,none⟩ (.int .u32 (RK.toNat:Int)))/\C (W.setCell ⟨g,pp+1,none⟩ (.int .u32 (LV.toNat:Int)))):=aa (fun W hw=>by
  rw[HC.o]at hw ⊢;obtain⟨r,l,hs⟩:=hw;have hg:=List.getElem?_set_self (a:=⟨r,l,y.g⟩) HLV.o;have h1:=y6 hs HPG.o pp (.int .u32 (RK.toNat:Int)) (by rw[HPP.o];exact Jb RK hg) ah;have h2:=y6 hs HPG.o (pp+1) (.int .u32 (LV.toNat:Int)) (by rw[HPP.o];exact yg LV hg) ah;grind [List.set_set])
 have UF:Hid (C w8.drew):=aa (by
  have h1:=gK jD.o (aw.aU jD.o.1.kI.held.aX aj.drew) jD.o.1.rl Wd.o;rw[HC.o];refine⟨y.r,y.l,?_⟩;rw[show vs.set v ⟨y.r,y.l,y.g⟩=vs from O9 HY.o];exact h1)
 have We:Hid (∀W,C W->W.cell? ⟨g,pp,none⟩=some (.int .u32 (RK.toNat:Int))->W.cell? ⟨g,pp+1,none⟩=some (.int .u32 (LV.toNat:Int))->(er w0 W pb db n o8 d8 L0 L8 gb gen N ob ib vb es rb mb g vk done x5 S nX nU nD xb ub eb (.slice wa was.length wk) was R8 U8 D8 (vs.modify v fun x=>⟨RK,LV,x.g⟩) base/\W.heap[pc]? = some (.cells #[.pointer (some ⟨rb,0,none⟩)] 130)/\o8 pc=none/\aw (·=g) n pb db w o d W o8 d8 L8)):=aa (fun W hw h1 h2=>by
  obtain⟨⟨r,l,q0,q1,hs⟩,-⟩:=G.o W hw;rw[h1]at q0;rw[h2]at q1;have e1:r=RK:=UInt32.toNat_inj.1 (by grind);have e2:l=LV:=UInt32.toNat_inj.1 (by grind);grind [Bc,Hid.out])
 obtain⟨z1,z2,z3,z4,z5⟩:=HWR.o;clear hC jD HY;go_wp2_with fail;refine CI C (fun q=>match q with
  |0=>.pointer (some ⟨rb,0,none⟩) | 1=>.pointer (some ⟨rb,0,none⟩) | 2=>.pointer (some ⟨rb,6,none⟩) | 3=>.slice (some ⟨g,0,none⟩) N vk | 4=>.int .u32 (v:Int)
  |5=>.pointer (some ⟨rb,0,none⟩) | 6=>.pointer (some ⟨rb,0,none⟩) | 7=>.pointer (some ⟨rb,6,none⟩) | 8=>.slice (some ⟨g,0,none⟩) N vk | 9=>.int .u32 (v:Int)
  |10=>.pointer (some ⟨rb,0,none⟩) | 11=>.pointer (some ⟨rb,0,none⟩) | 12=>.pointer (some ⟨rb,3,none⟩) | 13=>.int .u32 (done:Int) | 14=>.int .i64 (i:Int) | 15=>.int .u32 (i:Int) | 16=>.int .u32 (RK.toNat:Int)
  |17=>.pointer (some ⟨rb,0,none⟩) | 18=>.pointer (some ⟨rb,0,none⟩) | 19=>.pointer (some ⟨rb,2,none⟩) | 20=>.int .i64 (gen:Int) | 21=>.int .i64 ((gen:Int)+1) | 22=>.int .u32 (LV.toNat:Int)
  |23=>.pointer (some ⟨g,pp,none⟩) | 24=>.pointer (some ⟨g,pp,none⟩) | 26=>.pointer (some ⟨g,pp,none⟩) | 27=>.pointer (some ⟨g,pp+1,none⟩) | _=>undef)
  (fun q W=>match q with | 25=>W.cell? ⟨g,pp,none⟩=some (.int .u32 (RK.toNat:Int)) | 28=>W.cell? ⟨g,pp+1,none⟩=some (.int .u32 (LV.toNat:Int)) | _=>True) (by rfl) (by rfl) (by rfl) UF.o ?_ ?_
 ·intro j oo ho a W hW hd;obtain⟨f0,f2,f3,f6⟩:=F.o W hW;obtain⟨⟨r,l,g0,g1,-⟩,fr0,fr1⟩:=G.o W hW;match j,ho with
  |0,ho=>cases ho;have h7:=hd.old 7 rfl rfl;exact ck hW trivial (by go_simp)
  |1,ho=>cases ho;have d0:=hd.get 0 rfl rfl rfl;exact ck hW trivial (by go_simp)
  |2,ho=>cases ho;have d1:=hd.get 1 rfl rfl rfl;exact ck hW trivial (by go_simp)
  |3,ho=>cases ho;have d2:=hd.get 2 rfl rfl rfl;exact ck hW trivial (by go_simp)
  |4,ho=>cases ho;have h2:=hd.old 2 rfl rfl;exact ck hW trivial (by go_simp)
  |5,ho=>cases ho;have h7:=hd.old 7 rfl rfl;exact ck hW trivial (by go_simp)
  |6,ho=>cases ho;have d5:=hd.get 5 rfl rfl rfl;exact ck hW trivial (by go_simp)
  |7,ho=>cases ho;have d6:=hd.get 6 rfl rfl rfl;exact ck hW trivial (by go_simp)
  |8,ho=>cases ho;have d7:=hd.get 7 rfl rfl rfl;exact ck hW trivial (by go_simp)
  |9,ho=>cases ho;have h2:=hd.old 2 rfl rfl;exact ck hW trivial (by go_simp)
  |10,ho=>cases ho;have h7:=hd.old 7 rfl rfl;exact ck hW trivial (by go_simp)
  |11,ho=>cases ho;have d10:=hd.get 10 rfl rfl rfl;exact ck hW trivial (by go_simp)
  |12,ho=>cases ho;have d11:=hd.get 11 rfl rfl rfl;exact ck hW trivial (by go_simp)
  |13,ho=>cases ho;have d12:=hd.get 12 rfl rfl rfl;exact ck hW trivial (by go_simp)
  |14,ho=>cases ho;have h1:=hd.old 1 rfl rfl;exact ck hW trivial (by go_simp)
  |15,ho=>cases ho;have d14:=hd.get 14 rfl rfl rfl;exact ck hW trivial (by go_simp)
  |16,ho=>cases ho;have d13:=hd.get 13 rfl rfl rfl;have d15:=hd.get 15 rfl rfl rfl;exact ck hW trivial (by go_simp)
  |17,ho=>cases ho;have h7:=hd.old 7 rfl rfl;exact ck hW trivial (by go_simp)
  |18,ho=>cases ho;have d17:=hd.get 17 rfl rfl rfl;exact ck hW trivial (by go_simp)
  |19,ho=>cases ho;have d18:=hd.get 18 rfl rfl rfl;exact ck hW trivial (by go_simp)
  |20,ho=>cases ho;have d19:=hd.get 19 rfl rfl rfl;exact ck hW trivial (by go_simp)
  |21,ho=>cases ho;have d20:=hd.get 20 rfl rfl rfl;exact ck hW trivial (by go_simp)
  |22,ho=>cases ho;have d21:=hd.get 21 rfl rfl rfl;exact ck hW trivial (by go_simp)
  |23,ho=>cases ho;have e:=HPP.o.symm;have d3:=hd.get 3 rfl rfl rfl;have d4:=hd.get 4 rfl rfl rfl;exact ck hW trivial (by go_simp)
  |24,ho=>cases ho;have d23:=hd.get 23 rfl rfl rfl;exact ck hW trivial (by go_simp)
  |25,ho=>
    cases ho;have d24:=hd.get 24 rfl rfl rfl;have d16:=hd.get 16 rfl rfl rfl;refine⟨W.setCell ⟨g,pp,none⟩ (.int .u32 (RK.toNat:Int)),.inr ⟨rfl,by go_simp⟩,(ST.o W hW).1,(by dsimp only;go_simp),fun j hj=>?_⟩
    dsimp only at hj ⊢;split
    ·go_simp
    ·clear g0 g1;go_simp;exact hj
    simp
  |26,ho=>cases ho;have e:=HPP.o.symm;have d8:=hd.get 8 rfl rfl rfl;have d9:=hd.get 9 rfl rfl rfl;exact ck hW trivial (by go_simp)
  |27,ho=>cases ho;have d26:=hd.get 26 rfl rfl rfl;exact ck hW trivial (by go_simp)
  |28,ho=>
    cases ho;have d27:=hd.get 27 rfl rfl rfl;have d22:=hd.get 22 rfl rfl rfl;refine⟨W.setCell ⟨g,pp+1,none⟩ (.int .u32 (LV.toNat:Int)),.inr ⟨rfl,by go_simp⟩,(ST.o W hW).2,(by dsimp only;go_simp),fun j hj=>?_⟩
    dsimp only at hj ⊢;split
    ·clear g0 g1;go_simp;exact hj
    ·go_simp
    simp
  |_+29,ho=>cases ho
 ·intro W9 hW9 hD;have AX:=aa (We.o W9 hW9 (hD 25 af) (hD 28 af));clear hW9 hD We UF ST G F HC HLV n1 n2 hvn z1 z2 z3 z4 z5;simp only[Bd];go_simp;have c0:W9.cell? ⟨pc,0,none⟩=some (.pointer (some ⟨rb,0,none⟩)):=by rw[aq AX.o.2.1];rfl
  have hnr:=aa (IU HW AX.o.1.kI v HVN.o AX.o.1.Jd rfl AX.o.1.of.free);unfold AY ptrTo at hnr;go_wp2_with fail;refine hnr.o.mono ?_;rintro e XQ⟨nv,d12,PQ,rfl,Tt,aat,aj6⟩;obtain⟨na,nk,rfl⟩:=az aat;have wS:=aa (gK AX.o Tt AX.o.1.rl Wd.o);obtain⟨K,hK⟩:∃K,K=(cV es v).length:=⟨_,rfl⟩;have HKL:Hid (K=(cV es v).length/\K<2147483648):=aa ⟨hK,by grind [AZ,mZ,Hid.out]⟩;have HNR:Hid (bF XQ W9.heap.size (.slice na K nk) (cV es v)/\∀b,(Value.slice na K nk).ownBlock=some b->b≠g):=aa ⟨by grind,fun b hb e=>by
   have h1:=aG aat b (by grind);have h2:=(aL AX.o.1.row g rfl).1;omega⟩
  rw[<- hK];clear Tt aat aj6 hnr AX c0 hK;obtain⟨zv,hzv⟩:∃z,was[v]? = some z:=⟨_,List.getElem?_eq_getElem (by have:=HVN.o;have:=wS.o.1.O8;omega)⟩;have HZV:=aa hzv;clear hzv;obtain⟨lv,hlv⟩:∃x,x=zv.l+1:=⟨_,rfl⟩;have aj7:=aa hlv;clear hlv;have yN:Hid ((er w0 XQ pb db n PQ d12 L0 L8 gb gen N ob ib vb es rb mb g vk done x5 S nX nU nD xb ub eb (.slice wa was.length wk) was R8 U8 D8 (((cV es v).take 0).foldl (kE lv) (vs.modify v fun x=>⟨RK,LV,x.g⟩)) base/\XQ.heap[pc]? = some (.cells #[.pointer (some ⟨rb,0,none⟩)] 130)/\PQ pc=none/\aw (·=g) n pb db w o d XQ PQ d12 L8)/\bF XQ W9.heap.size (.slice na K nk) (cV es v)):=aa ⟨wS.o,HNR.o.1⟩;clear wS;generalize W9.heap.size=bn at *;go_wp2_with fail;go_loopw [125] (fun vi wr=>∃k:Nat,vi=.int .i64 (k:Int)/\k<=K/\Hid ((er w0 wr pb db n PQ d12 L0 L8 gb gen N ob ib vb es rb mb g vk done x5 S nX nU nD xb ub eb (.slice wa was.length wk) was R8 U8 D8 (((cV es v).take k).foldl (kE lv) (vs.modify v fun x=>⟨RK,LV,x.g⟩)) base/\wr.heap[pc]? = some (.cells #[.pointer (some ⟨rb,0,none⟩)] 130)/\PQ pc=none/\aw (·=g) n pb db w o d wr PQ d12 L8)/\bF wr bn (.slice na K nk) (cV es v))) (fun vi _=>K-(intOf vi).toNat)
  case atStart=>grind
  case round=>
   obtain⟨k,rfl,hk,s7⟩:=hrel;clear yN;generalize wr=W14 at *;by_cases hlt:k<K
   ·have FI:(k:Int)<(K:Int):=by omega
    have wk':IntKind.i64.wrap ((k:Int)+1)=((k+1:Nat):Int):=by grind [Hid.out,ax]
    obtain⟨y0,hy0⟩:∃y,(cV es v)[k]? = some y:=⟨_,List.getElem?_eq_getElem (by grind [Hid.out])⟩;have ap4:y0<N:=MP s7.out.1.1.kI.ends y0 (List.mem_of_getElem? hy0);have oT:Hid (((cV es v).take (k+1)).foldl (kE lv) (vs.modify v fun x=>⟨RK,LV,x.g⟩)=kE lv (((cV es v).take k).foldl (kE lv) (vs.modify v fun x=>⟨RK,LV,x.g⟩)) y0):=aa (by
     grind [List.take_succ_eq_append_getElem])
    generalize ((cV es v).take k).foldl (kE lv) (vs.modify v fun x=>⟨RK,LV,x.g⟩)=vk0 at *;obtain⟨x0,hx0⟩:∃x,vk0[y0]? = some x:=⟨_,List.getElem?_eq_getElem (by have:=s7.out.1.1.len;omega)⟩;have Cw:=aa hx0;obtain⟨ng,rfl⟩:∃g,na=some ⟨g,0,none⟩:=by
     obtain⟨-,⟨h1,h2⟩|⟨g,_,_,h1,_⟩⟩:=s7.out.2
     ·grind
     grind
    have hnr:=s7.out.2;rw[HKL.o.1]at hnr;have q0:=iu (l:=cV es v) hnr hy0;have hrow:=s7.out.1.1.row;rw[<- s7.out.1.1.len]at hrow;obtain⟨r0,r1,r2⟩:=jy hrow hx0;obtain⟨yy,ZR⟩:∃p,y0*3=p:=⟨_,rfl⟩;have fr2:=World.ownsRow.frozenAt hrow (yy+2);rw[ZR]at r0 r1 r2;have c0:W14.cell? ⟨pc,0,none⟩=some (.pointer (some ⟨rb,0,none⟩)):=by rw[aq s7.out.1.2.1];rfl
    obtain⟨-,-,-,-,-,-,c6,-⟩:=s7.out.1.1.Jd.cells;obtain⟨gg,hgg⟩:∃x,x=x0.g+1:=⟨_,rfl⟩;have zg:((x0.g.toNat:Int)+1)%4294967296=(gg.toNat:Int):=by simp_all
    have HGG:=aa hgg;clear hgg;have Tu:=aa (y6 s7.out.1 HPG.o (yy+2) (.int .u32 (gg.toNat:Int)) (by rw[<- ZR];exact Jc gg hx0) ah);have XR:Hid (bF (W14.setCell ⟨g,yy+2,none⟩ (.int .u32 (gg.toNat:Int))) bn (.slice (some ⟨ng,0,none⟩) K nk) (cV es v)):=aa (bI s7.out.2 (fun b hb=>Below.heap_setCell _ _ _ _ (HNR.o.2 b hb)));clear hnr hrow hy0 hx0 s7;go_wp2_with fail;clear q0 r0 r1 r2 fr2 c0 c6 zg;generalize W14.setCell ⟨g,yy+2,none⟩ (.int .u32 (gg.toNat:Int))=Pc at *;have aav:(vk0.set y0 ⟨x0.r,x0.l,gg⟩)[y0]? = some ⟨x0.r,x0.l,gg⟩:=List.getElem?_set_self (aN Cw.o);have hrow:=Tu.o.1.row;rw[<- Tu.o.1.len]at hrow;obtain⟨-,r1,-⟩:=jy hrow aav;rw[ZR]at r1;have fr1:=World.ownsRow.frozenAt hrow (yy+1);obtain⟨wa',wk',hwe,-,-,hwc⟩:=Tu.o.1.LH;obtain⟨rfl,-,rfl⟩:wa=wa'/\was.length=was.length/\wk=wk':=by simp_all
    have hvw:v<was.length:=aN HZV.o;obtain⟨wb,wo,rfl,aeL⟩:=hwc.resolve_left ae;obtain⟨-,s1,-⟩:=aeL v hvw;have ez:was[v]=zv:=(List.getElem?_eq_some_iff.1 HZV.o).2;rw[ez]at s1;obtain⟨lm,hlm⟩:∃x,x=if x0.l<lv then lv else x0.l:=⟨_,rfl⟩;have zl:((zv.l.toNat:Int)+1)%4294967296=(lv.toNat:Int):=by have:=Ja zv.l;rw[aj7.o];rfl
    have aka:=aa (Tp Tu.o HPG.o (yy+1) (.int .u32 (lm.toNat:Int)) (by rw[<- ZR];exact yg lm aav) ah Wd.o);have XS:Hid (bF (Pc.setCell ⟨g,yy+1,none⟩ (.int .u32 (lm.toNat:Int))).drew bn (.slice (some ⟨ng,0,none⟩) K nk) (cV es v)):=aa (bI XR.o (fun b hb=>by
     show(Pc.setCell ⟨g,yy+1,none⟩ (.int .u32 (lm.toNat:Int))).heap[b]? = _;exact Below.heap_setCell _ _ _ _ (HNR.o.2 b hb)))
    have HLM:=aa hlm;clear hrow aav hwe hwc aeL ez hlm Tu XR;have HFN:Hid (kE lv vk0 y0=(vk0.set y0 ⟨x0.r,x0.l,gg⟩).set y0 ⟨x0.r,lm,gg⟩):=aa (by
     unfold kE;rw[Bc Cw.o,List.set_set,HLM.o,HGG.o])
    by_cases Px:x0.l<lv;case' pos=>
     have aeM:(x0.l.toNat:Int)<(lv.toNat:Int):=by have:=UInt32.lt_iff_toNat_lt.1 Px;omega
     have hmx:max (x0.l.toNat:Int) (lv.toNat:Int)=(lm.toNat:Int):=by rw[HLM.o,if_pos Px];omega
    case' neg=>
     have aeM:¬(x0.l.toNat:Int)<(lv.toNat:Int):=by have:=mt UInt32.lt_iff_toNat_lt.2 Px;omega
     have hmx:max (x0.l.toNat:Int) (lv.toNat:Int)=(lm.toNat:Int):=by rw[HLM.o,if_neg Px];omega
    all_goals
     clear Px;go_wp2_with fail;go_big_region
     clear r1 fr1 s1 zl aeM hmx hvw;generalize (Pc.setCell ⟨g,yy+1,none⟩ (.int .u32 (lm.toNat:Int))).drew=MW at *;have ap8:Hid ((er w0 MW pb db n PQ d12 L0 L8 gb gen N ob ib vb es rb mb g vk done x5 S nX nU nD xb ub eb (.slice (some ⟨wb,wo,none⟩) was.length wk) was R8 U8 D8 (((cV es v).take (k+1)).foldl (kE lv) (vs.modify v fun x=>⟨RK,LV,x.g⟩)) base/\MW.heap[pc]? = some (.cells #[.pointer (some ⟨rb,0,none⟩)] 130)/\PQ pc=none/\aw (·=g) n pb db w o d MW PQ d12 L8)/\bF MW bn (.slice (some ⟨ng,0,none⟩) K nk) (cV es v)):=aa ⟨by rw[oT.o,HFN.o];assumption,XS.o⟩;clear aka XS oT HFN HLM HGG;go_wp2;grind [intOf]
   ·have FI:¬(k:Int)<(K:Int):=by omega
    have HQF:Hid (PST (.returned (.int .i64 0)) W14):=aa (by
     have h1:=s7.out.1;rw[List.take_of_length_le (by grind [Hid.out])]at h1;rw[wZ.o];refine⟨d12,PQ,L8,rfl,h1.2.2.2,?_⟩;grind [fW,Hid.out])
    clear s7;go_wp2;assumption
end
end
section
open Go.RowKit Go.Maps
section
variable {w0 w w' W W':World} {pb db n gb gen N ob ib vb rb mb done g vk base MX:Nat} {o o' gL:ar} {d d' gw:Dsk} {L L' xJ:aC} {es:List aF} {was:List cr} {ov:Value} {S ch:List Nat}
def xe(w:World)(pb db n:Nat)(o:ar)(d:Dsk)(L:aC)(g gen:Nat)(R U D:List aF)(vs:List cr)(e:Ending)(w':World):Prop:=
 ∃d' o' L',e=.returned (.int .i64 0)/\aw (·=g) n pb db w o d w' o' d' L'/\nh L L' gen R U D vs
theorem Be(es:List aF)(h:∀z,z∈S↔z∈ch):gF es S=gF es ch:=by
 grind [gF]
theorem DL(es:List aF)(v:Nat)(h:∀z,z∈S↔z∈ch):iH es S v=iH es ch v:=by
 grind [iH]
structure MZ(w0 w:World)(pb db n:Nat)(o:ar)(d:Dsk)(L:aC)(gb gen N ob ib vb:Nat)(es:List aF)(rb mb g vk done:Nat)(ov:Value)(S ch:List Nat)(was:List cr)(base MX:Nat):Prop where
 kI:fH w0 w pb db n o d L gb gen N ob ib vb es
 Jd:dx w rb pb gb gen done (.map (some mb)) ov (.slice (some ⟨g,0,none⟩) N vk)
 of:qX w0 w o rb gb ob ib vb
 cho:fD w mb S
 nY:o mb=none
 ord:bF w MX ov ch
 akb:∀b,ov.ownBlock=some b->o b=none
 row:dM w base (.slice (some ⟨g,0,none⟩) N vk) was
 len:was.length=N
 og:o g=none
 rg:rb<g
 gm:g<mb
 go:∀b,ov.ownBlock=some b->g<b
 same:∀z,z∈S↔z∈ch
 low:∀v∈ch,v<N
 ne:ch≠[]
theorem Tv{nX nU nD:Name}(xu:nX≠nU)(xd:nX≠nD)(ud:nU≠nD):RL L (aS (aS (aS L nX (au [] true)) nU (au [] true)) nD (au [] true)) nX nU nD [] [] []:=by
 refine⟨⟨true,?_⟩,⟨true,?_⟩,⟨true,?_⟩,fun y g1 g2 g3=>?_,?_⟩
 ·grind [ay]
 ·grind [ay]
 ·grind [ay]
 ·grind [ay]
 ·have e:(au [] true).need=0:=rfl;grind [cN]
theorem Fx{α β:Type}(l:List α)(f:α->List β)(k:Nat):((l.take k).flatMap f).length<=(l.flatMap f).length:=by
 grind [List.take_append_drop]
theorem Tw{l:List Nat}{k y:Nat}(h:l[k]? = some y):(l.take (k+1)).zipIdx=(l.take k).zipIdx++[(y,k)]:=by
 grind [List.take_succ_eq_append_getElem]
theorem eD.lt{v:Value}{vs:List cr}(h:eD w v vs)(h0:vs.length≠0):∀b,v.ownBlock=some b->b<w.heap.size:=by
 obtain⟨a,cap,rfl,-,-,h |⟨b,off,rfl,hc⟩⟩:=h
 ·omega
 ·intro x hx;cases hx;exact World.block_lt_of_cell? _ _ (hc 0 ae).1
theorem Bf(HW:aQ){m:Nat}(yI:dX m)(hn:8<=n)(h:MZ w0 w pb db n o d L gb gen N ob ib vb es rb mb g vk done ov S ch was base MX)(Ts:gen+1<100)(fM:∀c,aA L (aJ c (gen+1))=none)(BD:∀k,aA L (dw k)=none)(hm:(fK es ch).length<=m)(hq:need L+24*((fK es ch).length+(uI es ch).length+(fC es ch).length)+8*es.length+4*N+8<=131072)(hdone:done+ch.length<4294967296)(wR:∀v,v<N->(fB es v).length*(aY es v).length<=100000) :
 Calls prog 65 #[ptrTo rb] w (xe w pb db n o d L g gen (fK es ch) (uI es ch) (fC es ch) (dP es was done gen ch)):=by
 have H:=aa h;have yv:Hid (gen+1<100):=aa Ts;have HF:=aa fM;have HNT:=aa BD;have Xi:=aa hm;have HQ:=aa hq;have SQ:=aa hdone;have HDG:=aa wR;have ne:∀{c c':UInt8},c≠c'->aJ c (gen+1)≠aJ c' (gen+1):=fun h=>iq h _ _;have ng:∀(c c':UInt8),aJ c (gen+1)≠aJ c' gen:=fun c c'=>bq ae;have AV:Hid (RNm gen (aJ 120 (gen+1)) (aJ 117 (gen+1)) (aJ 100 (gen+1))):=aa ⟨ne af,ne af,ne af,ng _ _,ng _ _,ng _ _,ng _ _,ng _ _,ng _ _⟩;have Wf:Hid (∀c:UInt8,iY c=true->bM (aJ c (gen+1))=true):=aa (fun c hc=>uG c hc ae);have Gu:Hid (∀(c:UInt8)W,Calls prog 18 #[.int .u8 (c.toNat:Int),.int .i64 ((gen+1:Nat):Int)] W fun e w'=>e=.returned (.string (aJ c (gen+1)))/\Below W.heap.size W w'):=aa (fun c W=>cG c (gen+1) (o:=fun _=>Option.none) (.inl Ts));have wg:IntKind.i64.wrap ((gen:Int)+1)=((gen+1:Nat):Int):=by grind [ax]
 have Je:Hid (∀W o' d' L',aw (fun _=>False) n pb db w o d W o' d' L'->Held w0 W pb db n o' d' L'/\dx W rb pb gb gen done (.map (some mb)) ov (.slice (some ⟨g,0,none⟩) N vk)/\o' rb=none):=aa (fun W o' d' L' pY=>⟨h.kI.held.moved pY (fun _ e=>e.elim),h.Jd.moved h.of.free pY,pY.free h.of.lt h.of.free⟩);obtain⟨PST,mh⟩:∃P,P=xe w pb db n o d L g gen (fK es ch) (uI es ch) (fC es ch) (dP es was done gen ch):=⟨_,rfl⟩;have wZ:=aa mh;rw[<- mh];obtain⟨c0,-,c2,-⟩:=h.Jd.cells;clear h Ts fM BD hm hq hdone wR mh ne ng;obtain⟨nX,hX⟩:∃x,x=aJ 120 (gen+1):=⟨_,rfl⟩;obtain⟨nU,hU⟩:∃x,x=aJ 117 (gen+1):=⟨_,rfl⟩;obtain⟨nD,hD⟩:∃x,x=aJ 100 (gen+1):=⟨_,rfl⟩;have Uh:=aa (show nX=aJ 120 (gen+1)/\nU=aJ 117 (gen+1)/\nD=aJ 100 (gen+1) from⟨hX,hU,hD⟩);rw[<- hX,<- hU,<- hD]at AV;have Jw:Hid (bM nX=true/\bM nU=true/\bM nD=true):=aa ⟨by rw[hX];exact Wf.o 120 af,by rw[hU];exact Wf.o 117 af,by rw[hD];exact Wf.o 100 af⟩;have HFX:Hid (aA L nX=none/\aA L nU=none/\aA L nD=none):=aa ⟨by grind [Hid.out],by grind [Hid.out],by grind [Hid.out]⟩;have Bu:=aa (Gu.o 120);have T6:=aa (Gu.o 117);have hn3:=aa (Gu.o 100);rw[<- hX]at Bu;rw[<- hU]at T6;rw[<- hD]at hn3;clear hX hU hD Gu Wf;unfold ptrTo at *;go_enter func65,ntmps65;go_wp2_with fail;refine(Bu.o _).mono ?_;rintro e w1⟨rfl,hb1⟩;have eo:Hid (aw (fun _=>False) n pb db w o d w1 o d L):=aa (aw.aU H.o.kI.held.aX hb1);clear hb1 Bu c0 c2;have oz:=aa (kT (Je.o _ _ _ _ eo.o).1 (Je.o _ _ _ _ eo.o).2.1 (Je.o _ _ _ _ eo.o).2.2 Jw.o.1 HFX.o.1);unfold kH ptrTo at oz;go_wp2_with fail;refine oz.o.mono ?_;rintro e w2⟨xb,d2,o2,rfl,cP,hsx,hxg,hox⟩;have mz:Hid (aB w2 xb pb nX 20/\o2 xb=none/\w.heap.size<=xb):=aa ⟨hsx,hox,Nat.le_trans eo.o.size hxg⟩;have eu:=aa (eo.o.trans cP (fun _ _ e=>e));obtain⟨-,-,c2,-⟩:=(Je.o _ _ _ _ eu.o).2.1.cells;clear cP hsx hxg hox oz eo;go_wp2_with fail;refine(T6.o _).mono ?_;rintro e w3⟨rfl,hb3⟩;have eF:=aa (eu.o.below hb3);have im:Hid (aB w3 xb pb nX 20/\o2 xb=none):=aa ⟨mz.o.1.below hb3,mz.o.2.1⟩;clear hb3 T6 c2;have oz:=aa (kT (Je.o _ _ _ _ eF.o).1 (Je.o _ _ _ _ eF.o).2.1 (Je.o _ _ _ _ eF.o).2.2 Jw.o.2.1 (by rw[ay,if_neg AV.o.xu.symm];exact HFX.o.2.1));unfold kH ptrTo at oz;go_wp2_with fail;refine oz.o.mono ?_;rintro e w4⟨ub,d4,o4,rfl,eC,hsu,hug,hou⟩;have xR:Hid ((aB w4 xb pb nX 20/\o4 xb=none)/\(aB w4 ub pb nU 20/\o4 ub=none/\w.heap.size<=ub)):=aa ⟨⟨im.o.1.moved eC im.o.2 (fun e=>e),eC.free im.o.1.lt im.o.2⟩,hsu,hou,Nat.le_trans eF.o.size hug⟩;have fZ:=aa (eF.o.trans eC (fun _ _ e=>e));obtain⟨-,-,c2,-⟩:=(Je.o _ _ _ _ fZ.o).2.1.cells;clear eC hsu hug hou oz eF eu im;go_wp2_with fail;refine(hn3.o _).mono ?_;rintro e w5⟨rfl,nT⟩;have kV:=aa (fZ.o.below nT);have Bo:Hid ((aB w5 xb pb nX 20/\o4 xb=none)/\(aB w5 ub pb nU 20/\o4 ub=none)):=aa ⟨⟨xR.o.1.1.below nT,xR.o.1.2⟩,xR.o.2.1.below nT,xR.o.2.2.1⟩;clear nT hn3 c2;have oz:=aa (kT (Je.o _ _ _ _ kV.o).1 (Je.o _ _ _ _ kV.o).2.1 (Je.o _ _ _ _ kV.o).2.2 Jw.o.2.2 (by rw[ay,if_neg AV.o.ud.symm,ay,if_neg AV.o.xd.symm];exact HFX.o.2.2));unfold kH ptrTo at oz;go_wp2_with fail;refine oz.o.mono ?_;rintro e w6⟨eb,d6,o6,rfl,nO,hse,heg,hoe⟩;have nN:Hid ((aB w6 xb pb nX 20/\o6 xb=none/\w.heap.size<=xb)/\(aB w6 ub pb nU 20/\o6 ub=none/\w.heap.size<=ub)/\aB w6 eb pb nD 20/\o6 eb=none/\w.heap.size<=eb):=aa ⟨⟨Bo.o.1.1.moved nO Bo.o.1.2 (fun e=>e),nO.free Bo.o.1.1.lt Bo.o.1.2,mz.o.2.2⟩,⟨Bo.o.2.1.moved nO Bo.o.2.2 (fun e=>e),nO.free Bo.o.2.1.lt Bo.o.2.2,xR.o.2.2.2⟩,hse,hoe,Nat.le_trans kV.o.size heg⟩;have xV:=aa (kV.o.trans nO (fun _ _ e=>e));have Tx:=aa (Tv (L:=L) AV.o.xu AV.o.xd AV.o.ud);generalize hL6:aS (aS (aS L nX (au [] true)) nU (au [] true)) nD (au [] true)=L6 at *;clear nO hse heg hoe oz kV fZ Bo xR mz hL6;have LF:Hid (∀W o' d' L' R U D,aw (fun _=>False) n pb db w o d W o' d' L'->RL L L' nX nU nD R U D->need L'<=131072->fH w0 W pb db n o' d' L' gb gen N ob ib vb es):=aa (fun W o' d' L' R U D pY hl hq=>th H.o.kI pY (hl.tz _ AV.o.x1.symm AV.o.u1.symm AV.o.d1.symm) (hl.tz _ AV.o.x2.symm AV.o.u2.symm AV.o.d2.symm) hq);have HN6:Hid (need L6<=need L):=aa (by have:=Tx.o.need;exact this);obtain⟨fx,Wc⟩:=Tx.o.x;have hst:=aa (CG HW (LF.o _ _ _ _ _ _ _ xV.o Tx.o (by grind [Hid.out])) (Je.o _ _ _ _ xV.o).2.1 (Je.o _ _ _ _ xV.o).2.2 (H.o.cho.kept (xV.o.block H.o.cho.lt H.o.nY (fun e=>e))) (xV.o.free H.o.cho.lt H.o.nY) nN.o.1.1 nN.o.1.2.1 Wc AV.o.x1 AV.o.x2 (by grind [Hid.out]));unfold jA ptrTo at hst;clear Wc;go_wp2_with fail;refine hst.o.mono ?_;rintro e w7⟨f7,d7,o7,rfl,rD⟩;have Wh:=aa (MU Tx.o xV.o.aX.keys AV.o.xu AV.o.xd (gF es S) f7);have lp:Hid ((aB w7 xb pb nX 20/\o7 xb=none)/\(aB w7 ub pb nU 20/\o7 ub=none)/\aB w7 eb pb nD 20/\o7 eb=none):=aa ⟨⟨nN.o.1.1.moved rD nN.o.1.2.1 (fun e=>e),rD.free nN.o.1.1.lt nN.o.1.2.1⟩,⟨nN.o.2.1.1.moved rD nN.o.2.1.2.1 (fun e=>e),rD.free nN.o.2.1.1.lt nN.o.2.1.2.1⟩,nN.o.2.2.1.moved rD nN.o.2.2.2.1 (fun e=>e),rD.free nN.o.2.2.1.lt nN.o.2.2.2.1⟩;have Bz:=aa (xV.o.trans rD (fun _ _ e=>e));generalize aS L6 nX (au (gF es S) f7)=L7 at *;clear rD hst xV Tx HN6;obtain⟨oa,ok,rfl⟩:=az H.o.ord;obtain⟨M,hM'⟩:∃M,M=ch.length:=⟨_,rfl⟩;have V8:=aa hM';clear hM';obtain⟨-,-,-,-,-,-,c6,-⟩:=(Je.o _ _ _ _ Bz.o).2.1.cells;have akc:=(Je.o _ _ _ _ Bz.o).2.1.lt;have XT:Hid (dM w7 base (.slice (some ⟨g,0,none⟩) N vk) was):=aa (Bz.o.ownsRow H.o.row (fun b hb=>by cases hb;exact⟨H.o.og,fun e=>e⟩));have aeP:Hid (PO w7 (.slice (some ⟨g,0,none⟩) N vk) was):=aa (j9 XT.o).1.rd;have HWL:Hid (was.length<=1000):=aa (by rw[H.o.len];exact H.o.kI.top);go_wp2_with (refine kW (w:=w7) (by rfl) _ _ rfl rfl _ was rfl aeP.o (by grind [Hid.out]) (fun v8 w8 HVs HVo y4=>?_);have c5:w8.cell? ⟨rb,5,none⟩=some (.slice oa M ok):=(by rw[V8.o];exact(Je.o _ _ _ _ (Bz.o.below y4.out)).2.1.cells.2.2.2.2.2.1));have hM:=V8.o;obtain⟨wa,wk,rfl,-⟩:=HVs.out;have rY:=aa (Bz.o.below y4.out);have kC:Hid (was.length≠0):=aa (by
  cases e:ch with
  |nil=>exact absurd e H.o.ne
  |cons v l=>have:=H.o.low v (by grind);rw[H.o.len];omega)
 have HGL:Hid (g<w.heap.size/\base<=g):=aa ⟨(aL H.o.row g rfl).1,aG H.o.row g rfl⟩;have jD:Hid (er w0 w8 pb db n o7 d7 L L7 gb gen N ob ib vb es rb mb g vk done (.slice oa ch.length ok) S nX nU nD xb ub eb (.slice wa was.length wk) was (gF es S++(ch.take 0).flatMap (iH es S)) ((ch.take 0).flatMap (aY es)) ((ch.take 0).flatMap (fB es)) (((ch.take 0).zipIdx).foldl (fun vs p=>fW es was done gen vs p.2 p.1) was) base/\aw (·=g) n pb db w o d w8 o7 d7 L7):=aa (by
  obtain⟨g1,g2,g3,g4⟩:=H.o.of.graph;have g5:=H.o.rg;have g6:=H.o.gm;have g7:=HGL.o.1;have g8:=nN.o.1.2.2;have g9:=nN.o.2.1.2.2;have g10:=nN.o.2.2.2.2;have hst:(gF es S++(ch.take 0).flatMap (iH es S))=gF es S:=by simp
  rw[hst];exact⟨{
   kI:=LF.o _ _ _ _ _ _ _ rY.o Wh.o (by have:=Wh.o.need;grind [fY,gF,b9,Hid.out])
   Jd:=(Je.o _ _ _ _ rY.o).2.1
   of:=H.o.of.moved rY.o
   ch:=H.o.cho.kept (rY.o.block H.o.cho.lt H.o.nY (fun e=>e))
   nY:=rY.o.free H.o.cho.lt H.o.nY
   rl:=Wh.o
   nm:=AV.o
   sx:=lp.o.1.1.below y4.out
   su:=lp.o.2.1.1.below y4.out
   sd:=lp.o.2.2.1.below y4.out
   ox:=lp.o.1.2
   ou:=lp.o.2.1.2
   od:=lp.o.2.2.2
   LH:=HVs.out
   own:=fun b hb=>⟨eD.lt HVs.out kC.o b hb,Bz.o.aX.fresh (HVo.out b hb)⟩
   O8:=H.o.len
   row:=rY.o.ownsRow H.o.row (fun b hb=>by cases hb;exact⟨H.o.og,fun e=>e⟩)
   len:=H.o.len
   og:=rY.o.free HGL.o.1 H.o.og
   g0:=Nat.le_trans H.o.of.new (Nat.le_of_lt H.o.rg)
   gne:=⟨ae,ae,ae,ae,ae,ae,ae,ae,ae,fun e=>by have:=HVo.out g e;have:=Bz.o.size;omega⟩ },rY.o.mono (fun _ _ e=>e.elim)⟩)
 have HM:Hid (M=ch.length/\M<=9223372036854775807):=aa ⟨hM,by
  grind [Hid.out]⟩
 have aeQ:Hid (∀W o' d' L',aw (·=g) n pb db w o d W o' d' L'->bF W MX (.slice oa M ok) ch):=aa (fun W o' d' L' pY=>by rw[hM];exact pY.ownsRow H.o.ord (fun b hb=>⟨H.o.akb b hb,fun e=>by have:=H.o.go b hb;omega⟩));rw[<- hM]at jD;have HLEN:Hid (∀k,(gF es S++(ch.take k).flatMap (iH es S)).length<=(fK es ch).length/\((ch.take k).flatMap (aY es)).length<=(uI es ch).length/\((ch.take k).flatMap (fB es)).length<=(fC es ch).length):=aa (fun k=>by
  refine⟨?_,Fx _ _ _,Fx _ _ _⟩;have hf:iH es S=iH es ch:=funext fun v=>DL es v H.o.same;unfold fK;rw[Be es H.o.same,hf,List.length_append,List.length_append];grind [Fx])
 clear hM V8 c6 akc HVs HVo y4 XT aeP HWL nN lp Wh Bz rY kC c5;go_loopw [76] (fun vi wr=>∃(k:Nat)(o':ar)(d':Dsk)(L':aC),vi=.int .i64 (k:Int)/\k<=M/\Hid (er w0 wr pb db n o' d' L L' gb gen N ob ib vb es rb mb g vk done (.slice oa M ok) S nX nU nD xb ub eb (.slice wa was.length wk) was (gF es S++(ch.take k).flatMap (iH es S)) ((ch.take k).flatMap (aY es)) ((ch.take k).flatMap (fB es)) (((ch.take k).zipIdx).foldl (fun vs p=>fW es was done gen vs p.2 p.1) was) base/\aw (·=g) n pb db w o d wr o' d' L')) (fun vi _=>M-(intOf vi).toNat)
 case atStart=>grind
 case round=>
  obtain⟨k,o9,d9,L9,rfl,hk,p8⟩:=hrel;clear jD;generalize wr=W9 at *;by_cases hlt:k<M
  ·have FI:(k:Int)<(M:Int):=by omega
   have wk':IntKind.i64.wrap ((k:Int)+1)=((k+1:Nat):Int):=by grind [Hid.out,ax]
   obtain⟨v,hv⟩:∃v,ch[k]? = some v:=⟨_,List.getElem?_eq_getElem (by grind [Hid.out])⟩;obtain⟨og',rfl⟩:∃g,oa=some ⟨g,0,none⟩:=by
    obtain⟨-,⟨h1,h2⟩|⟨g,_,_,h1,_⟩⟩:=H.o.ord
    ·grind
    grind
   have hrow:=aeQ.o _ _ _ _ p8.out.2;rw[HM.o.1]at hrow;have q0:=iu (l:=ch) hrow hv;have e1:=rI (f:=iH es S) hv;have e2:=rI (f:=aY es) hv;have e3:=rI (f:=fB es) hv;have e4:=Tw hv;have HE:Hid (gF es S++(ch.take (k+1)).flatMap (iH es S)=(gF es S++(ch.take k).flatMap (iH es S))++iH es S v/\(ch.take (k+1)).flatMap (aY es)=(ch.take k).flatMap (aY es)++aY es v/\(ch.take (k+1)).flatMap (fB es)=(ch.take k).flatMap (fB es)++fB es v/\((ch.take (k+1)).zipIdx).foldl (fun vs p=>fW es was done gen vs p.2 p.1) was=fW es was done gen (((ch.take k).zipIdx).foldl (fun vs p=>fW es was done gen vs p.2 p.1) was) k v):=aa ⟨by grind,e2,e3,by grind⟩;have hout:=aa (Fw HW p8.out.1 k v (H.o.low v (List.mem_of_getElem? hv)) (by grind [Hid.out]) (by grind [Hid.out]) (by have:=HGL.o;have:=p8.out.2.size;omega) (HDG.o v (H.o.low v (List.mem_of_getElem? hv))) (by
    grind [Hid.out]))
   unfold Fs ptrTo at hout;clear hrow hv e1 e2 e3 e4;go_wp2_with fail;refine hout.o.mono ?_;rintro e T9⟨d10,o10,L10,rfl,qN,akd⟩;have nL:Hid (er w0 T9 pb db n o10 d10 L L10 gb gen N ob ib vb es rb mb g vk done (.slice (some ⟨og',0,none⟩) M ok) S nX nU nD xb ub eb (.slice wa was.length wk) was (gF es S++(ch.take (k+1)).flatMap (iH es S)) ((ch.take (k+1)).flatMap (aY es)) ((ch.take (k+1)).flatMap (fB es)) (((ch.take (k+1)).zipIdx).foldl (fun vs p=>fW es was done gen vs p.2 p.1) was) base/\aw (·=g) n pb db w o d T9 o10 d10 L10):=aa ⟨by rw[HE.o.1,HE.o.2.1,HE.o.2.2.1,HE.o.2.2.2];omega,p8.out.2.trans qN (fun _ _ e=>e)⟩;clear qN akd hout p8 HE q0;go_wp2;go_roundw
   case rel=>grind
   grind [intOf]
  ·have FI:¬(k:Int)<(M:Int):=by omega
   have nL:Hid (er w0 W9 pb db n o9 d9 L L9 gb gen N ob ib vb es rb mb g vk done (.slice oa M ok) S nX nU nD xb ub eb (.slice wa was.length wk) was (fK es ch) (uI es ch) (fC es ch) (dP es was done gen ch) base/\aw (·=g) n pb db w o d W9 o9 d9 L9):=aa (by
    have h1:=p8.out;rw[List.take_of_length_le (by grind [Hid.out]),Be es H.o.same,show iH es S=iH es ch from funext fun v=>DL es v H.o.same]at h1;exact h1)
   clear p8 aeQ LF;have HMK:Hid (∀W o' d',aw (fun _=>False) n pb db W9 o9 d9 W o' d' L9->Calls prog 45 #[ptrTo pb,.string nX,.int .i64 ((gen+1:Nat):Int),.slice (some ⟨g,0,none⟩) N vk] W fun e w'=>∃gw gL,e=.returned (.int .i64 0)/\aw (fun _=>False) n pb db W9 o9 d9 w' gL gw (fN L9 (gen+1) (fK es ch) (dP es was done gen ch))):=aa (fun W o' d' pY=>by
    have hs:=nL.o.1;obtain⟨fl,Mc⟩:=hs.rl.x;have Tr:∀c:UInt8,c≠120->c≠117->c≠100->aA L9 (aJ c (gen+1))=none:=fun c h1 h2 h3=>by
     rw[hs.rl.tz _ (by grind [Hid.out,iq]) (by grind [Hid.out,iq]) (by grind [Hid.out,iq]),HF.o c]
    have hrow:=pY.ownsRow hs.row (fun b hb=>by cases hb;grind [er.og]);have hv:=(j9 hrow).1;refine(sr HW yI pY.aX hn (gen:=gen+1) (.inl yv.o) Mc (by grind [Hid.out,rF]) Xi.o (Tr 101 af af af) (Tr 114 af af af) (Tr 118 af af af) (fun k=>by
     rw[hs.rl.tz _ (by grind [Hid.out,bm]) (by grind [Hid.out,bm]) (by grind [Hid.out,bm]),HNT.o k]) hv (fun b hb=>by cases hb;exact pY.free (aL hs.row g rfl).1 hs.og) (by rw[hs.len];have:=hs.kI.top;omega)).mono ?_
    rintro e w'⟨c,gw,gL,xJ,rfl,cP,-,hc⟩;have hh:=hs.kI.held.moved pY (fun _ e=>e.elim);have h0:c=0:=hh.fine cP (hc.imp (fun h=>h.1) id) (by
     have g1:=hs.rl.need;grind [fY,er.len,Hid.out])
    subst h0;rcases hc with⟨_,rfl⟩| hc
    ·exact⟨gw,gL,rfl,pY.trans cP (fun _ _ e=>e)⟩
    grind [jq.ne])
   have Wi:Hid (∀W o' d' L',aw (fun _=>False) n pb db W9 o9 d9 W o' d' L'->W.cell? ⟨rb,0,none⟩=some (.pointer (some ⟨pb,0,none⟩))/\W.cell? ⟨rb,2,none⟩=some (.int .i64 (gen:Int))/\W.cell? ⟨rb,6,none⟩=some (.slice (some ⟨g,0,none⟩) N vk)):=aa (fun W o' d' L' pY=>by
    obtain⟨h0,-,h2,-,-,-,h6,-⟩:=(nL.o.1.Jd.moved nL.o.1.of.free pY).cells;exact⟨h0,h2,h6⟩)
   have rz:Hid (∀c:UInt8,c=120\/c=117\/c=100->aJ c (gen+1)≠aJ 101 (gen+1)/\aJ c (gen+1)≠aJ 114 (gen+1)/\aJ c (gen+1)≠aJ 118 (gen+1)):=aa (by
    grind [iq])
   obtain⟨Ty,aax⟩:∃l,l=fN L9 (gen+1) (fK es ch) (dP es was done gen ch):=⟨_,rfl⟩;rw[<- aax]at HMK;have akf:Hid (need Ty<=need L+12*(fK es ch).length+4*(uI es ch).length+4*(fC es ch).length+4*N):=aa (by
    have g1:=nL.o.1.rl.need;have g2:=fY (fK es ch);have g3:=fY (uI es ch);have g4:=fY (fC es ch);have g5:=nL.o.1.len;grind [AA])
   have Pe:Hid ((∃f,aA Ty nX=some (au (fK es ch) f))/\(∃f,aA Ty nU=some (au (uI es ch) f))/\∃f,aA Ty nD=some (au (fC es ch) f)):=aa (by
    have hs:=nL.o.1.rl;grind [RL.x,Hid.out,rK,RL.u,RL.d])
   have aeR:Hid (∀W o' d',aw (fun _=>False) n pb db W9 o9 d9 W o' d' Ty->Calls prog 79 #[ptrTo pb,.string nU] W fun e w'=>∃gw gL,e=.returned (.int .i64 0)/\aw (fun _=>False) n pb db W9 o9 d9 w' gL gw (aS Ty nU (au (uI es ch) true))):=aa (fun W o' d' pY=>by
    obtain⟨f,hf⟩:=Pe.o.2.1;refine(pB HW pY.aX hf).mono ?_;rintro e w'⟨c,gw,gL,rfl,cP,om⟩;have h0:c=0:=(nL.o.1.kI.held.moved pY (fun _ e=>e.elim)).pU cP om (by grind [Hid.out]);subst h0;exact⟨gw,gL,rfl,pY.trans cP (fun _ _ e=>e)⟩)
   have aeS:Hid (∀W o' d',aw (fun _=>False) n pb db W9 o9 d9 W o' d' (aS Ty nU (au (uI es ch) true))->Calls prog 79 #[ptrTo pb,.string nD] W fun e w'=>∃gw gL,e=.returned (.int .i64 0)/\aw (fun _=>False) n pb db W9 o9 d9 w' gL gw (aS (aS Ty nU (au (uI es ch) true)) nD (au (fC es ch) true))):=aa (fun W o' d' pY=>by
    obtain⟨f,hf⟩:=Pe.o.2.2;refine(pB HW pY.aX (by rw[ay,if_neg AV.o.ud.symm];exact hf)).mono ?_;rintro e w'⟨c,gw,gL,rfl,cP,om⟩;have h0:c=0:=(nL.o.1.kI.held.moved pY (fun _ e=>e.elim)).pU cP om (by
     grind [cN,cF,Hid.out])
    subst h0;exact⟨gw,gL,rfl,pY.trans cP (fun _ _ e=>e)⟩)
   have akg:Hid (∀W o' d',aw (fun _=>False) n pb db W9 o9 d9 W o' d' (aS (aS Ty nU (au (uI es ch) true)) nD (au (fC es ch) true))->Calls prog 62 #[ptrTo pb,.string nX] W fun e w'=>∃gw gL,e=.returned (.int .i64 0)/\aw (fun _=>False) n pb db W9 o9 d9 w' gL gw (b7 (aS (aS Ty nU (au (uI es ch) true)) nD (au (fC es ch) true)) nX)):=aa (fun W o' d' pY=>by
    obtain⟨f,hf⟩:=Pe.o.1;refine(ua pY.aX (by rw[ay,if_neg AV.o.xd,ay,if_neg AV.o.xu];exact hf)).mono ?_;rintro e w'⟨c,gw,gL,xJ,rfl,hp,ht,hg,yl,hdr⟩;have cP:aw (fun _=>False) n pb db W o' d' w' gL gw xJ:=jh hp ht hg yl;have hh:=(nL.o.1.kI.held.moved pY (fun _ e=>e.elim)).moved cP (fun _ e=>e.elim);rcases hdr with⟨rfl,rfl⟩|⟨-,h2,-⟩
    ·exact⟨gw,gL,rfl,pY.trans cP (fun _ _ e=>e)⟩
    grind [Held.dead])
   have We:Hid (∀d' o' w',aw (fun _=>False) n pb db W9 o9 d9 w' o' d' (b7 (aS (aS Ty nU (au (uI es ch) true)) nD (au (fC es ch) true)) nX)->PST (.returned (.int .i64 0)) w'):=aa (fun d' o' w' pY=>by
    rw[wZ.o];have Jk:=nL.o.1.rl;have Wc:=HFX.o.1;rw[Uh.o.1,Uh.o.2.1,Uh.o.2.2]at Jk;rw[Uh.o.1]at Wc;have hr:=LI nL.o.1.kI.held.aX.keys Jk Wc (vs:=dP es was done gen ch);rw[Uh.o.1,Uh.o.2.1,Uh.o.2.2,aax]at pY;exact⟨d',o',_,rfl,nL.o.2.trans pY (fun _ _ e=>e.elim),hr⟩)
   have HNU:Hid (∀W,Calls prog 18 #[.int .u8 117,.int .i64 ((gen+1:Nat):Int)] W fun e w'=>e=.returned (.string nU)/\Below W.heap.size W w'):=aa (fun W=>by rw[Uh.o.2.1];exact cG 117 (gen+1) (o:=fun _=>Option.none) (.inl yv.o));have NL:Hid (∀W,Calls prog 18 #[.int .u8 100,.int .i64 ((gen+1:Nat):Int)] W fun e w'=>e=.returned (.string nD)/\Below W.heap.size W w'):=aa (fun W=>by rw[Uh.o.2.2];exact cG 100 (gen+1) (o:=fun _=>Option.none) (.inl yv.o));have HP9:=aa (aw.refl (fun _=>False) nL.o.1.kI.held.aX);clear akf Pe rz aax HF HNT Xi HQ SQ HDG HFX AV Uh wZ HLEN nL HGL;unfold ptrTo at *;go_wp2_with fail;refine cE (Below W9.heap.size W9) 14 rfl ag ag (aj.drew) ?_;simp only[List.take_succ_cons,List.take_zero];iterate 3 (refine qz ?_)
   refine qz ?_ (fun w' hw'=>by obtain⟨f0,f2,f6⟩:=Wi.o _ _ _ _ (HP9.o.below hw');go_simp<;>rfl);iterate 4 (refine qz ?_)
   refine qz ?_ (fun w' hw'=>by obtain⟨f0,f2,f6⟩:=Wi.o _ _ _ _ (HP9.o.below hw');go_simp<;>rfl);refine qz ?_ (fun w' hw'=>by have hx:=wg;go_simp<;>rfl);iterate 3 (refine qz ?_)
   refine qz ?_ (fun w' hw'=>by obtain⟨f0,f2,f6⟩:=Wi.o _ _ _ _ (HP9.o.below hw');go_simp<;>rfl);refine wpQuiet_nil ?_;intro qW aeT;refine⟨_,_,rfl,(by go_simp<;>exact⟨rfl,rfl⟩),?_⟩;refine(HMK.o qW o9 d9 (HP9.o.below aeT)).mono ?_;rintro e XQ⟨d12,PQ,rfl,Tt⟩;have Wk:=aa Tt;clear Tt aeT HMK;refine⟨_,rfl,?_⟩;go_simp;refine qz ?_;refine wpQuiet_nil ?_;go_wp2_with fail;refine cE (Below XQ.heap.size XQ) 10 rfl ag ag (aj.drew) ?_;simp only[List.take_succ_cons,List.take_zero];iterate 3 (refine qz ?_)
   refine qz ?_ (fun w' hw'=>by obtain⟨f0,f2,f6⟩:=Wi.o _ _ _ _ (Wk.o.below hw');go_simp<;>rfl);iterate 3 (refine qz ?_)
   refine qz ?_ (fun w' hw'=>by obtain⟨f0,f2,f6⟩:=Wi.o _ _ _ _ (Wk.o.below hw');go_simp<;>rfl);refine qz ?_ (fun w' hw'=>by have hx:=wg;go_simp<;>rfl);refine qw (fun w' hw'=>(HNU.o w').mono (fun e w'' h=>⟨h.1,hw'.trans (h.2.mono hw'.size)⟩)) ?_;refine wpQuiet_nil ?_;intro w13 aeU;refine⟨_,_,rfl,(by go_simp<;>exact⟨rfl,rfl⟩),?_⟩;refine(aeR.o w13 PQ d12 (Wk.o.below aeU)).mono ?_;rintro e w14⟨d14,o14,rfl,aeV⟩;have Wl:=aa aeV;clear aeV aeU aeR Wk;refine⟨_,rfl,?_⟩;go_simp;refine qz ?_;refine wpQuiet_nil ?_;go_wp2_with fail;refine cE (Below w14.heap.size w14) 10 rfl ag ag (aj.drew) ?_;simp only[List.take_succ_cons,List.take_zero];iterate 3 (refine qz ?_)
   refine qz ?_ (fun w' hw'=>by obtain⟨f0,f2,f6⟩:=Wi.o _ _ _ _ (Wl.o.below hw');go_simp<;>rfl);iterate 3 (refine qz ?_)
   refine qz ?_ (fun w' hw'=>by obtain⟨f0,f2,f6⟩:=Wi.o _ _ _ _ (Wl.o.below hw');go_simp<;>rfl);refine qz ?_ (fun w' hw'=>by have hx:=wg;go_simp<;>rfl);refine qw (fun w' hw'=>(NL.o w').mono (fun e w'' h=>⟨h.1,hw'.trans (h.2.mono hw'.size)⟩)) ?_;refine wpQuiet_nil ?_;intro w15 aeW;refine⟨_,_,rfl,(by go_simp<;>exact⟨rfl,rfl⟩),?_⟩;refine(aeS.o w15 o14 d14 (Wl.o.below aeW)).mono ?_;rintro e w16⟨d16,o16,rfl,aeX⟩;have aeY:=aa aeX;clear aeX aeW aeS Wl;refine⟨_,rfl,?_⟩;go_simp;refine qz ?_;refine wpQuiet_nil ?_;have hdr:=aa (akg.o w16 o16 d16 aeY.o);obtain⟨k0,k2,k6⟩:=Wi.o _ _ _ _ aeY.o;go_wp2_with fail;refine hdr.o.mono ?_;rintro e w17⟨d17,o17,rfl,aeZ⟩;have WJ:=aa (We.o d17 o17 w17 aeZ);clear aeZ hdr k0 k2 k6;go_wp2;assumption
end
end
section
open Go.RowKit Go.Maps
section
variable {w0 w w' W W':World} {pb db n gen done:Nat} {o o' gL:ar} {d d' gw:Dsk} {L L' xJ:aC} {es:List aF} {vs:List cr}
structure Tz(w0 w:World)(pb db n:Nat)(o:ar)(d:Dsk)(L:aC)(gen done m:Nat)(es:List aF)(vs:List cr):Prop where
 held:Held w0 w pb db n o d L
 frames:8<=n
 glt:gen+1<100
 e:aA L (aJ 101 gen)=some (au (aK false es) true)
 r:aA L (aJ 114 gen)=some (au (aK true es) true)
 v:aA L (aJ 118 gen)=some (b6 vs true)
 len:es.length<=1000
 top:vs.length<=1000
 ends:∀x∈es,x.t.toNat<vs.length/\x.h.toNat<vs.length
 ae0:(en es vs).length<=24
 free:∀c,aA L (aJ c (gen+1))=none
 nt:∀k,aA L (dw k)=none
 most:(fK es (aD es vs)).length<=m
 need:need L+24*((fK es (aD es vs)).length+(uI es (aD es vs)).length+(fC es (aD es vs)).length)+8*es.length+4*vs.length+8<=131072
 dlt:done+(aD es vs).length<4294967296
 deg:∀v,v<vs.length->(fB es v).length*(aY es v).length<=100000
def oK(w:World)(pb db n:Nat)(o:ar)(d:Dsk)(L:aC)(gen done:Nat)(es:List aF)(vs:List cr)(e:Ending)(w':World):Prop:=
 ∃d' o' L',e=.returned (.tuple #[.int .u32 ((aD es vs).length:Int),.int .i64 0])/\aw (fun _=>False) n pb db w o d w' o' d' L'/\(aD es vs=[]->L'=L)/\(aD es vs≠[]->nh L L' gen (fK es (aD es vs)) (uI es (aD es vs)) (fC es (aD es vs)) (dP es vs done gen (aD es vs)))
theorem rM(HW:aQ){m:Nat}(yI:dX m)(h:Tz w0 w pb db n o d L gen done m es vs) :
 Calls prog 33 #[ptrTo pb,.int .i64 (gen:Int),.int .u32 (done:Int)] w (oK w pb db n o d L gen done es vs):=by
 have H:=aa h;have hq:need L<=131072:=by have:=h.need;omega
 have dQ:=aa (jr h.held.aX);have hop:=aa (Ct HW h.held.aX (gen:=gen) (.inl (by have:=h.glt;omega)) h.v h.e h.r);have hn8:¬(n:Int)<8:=by have:=h.frames;omega
 have HQ:=aa hq;obtain⟨CH,hCH⟩:∃l,l=aD es vs:=⟨_,rfl⟩;have XO:=aa hCH;obtain⟨PST,mh⟩:∃P,P=oK w pb db n o d L gen done es vs:=⟨_,rfl⟩;have wZ:=aa mh;rw[<- mh];clear h hq hCH mh;unfold ptrTo sy at *;go_enter func33,ntmps33;go_wp2_with fail;refine dQ.o.mono ?_;rintro e w1⟨rfl,rfl⟩;clear dQ;go_wp2_with fail;refine hop.o.mono ?_;rintro e w2⟨v2,c2,d2,o2,rfl,cP,om,jl,-⟩;have hc2:c2=0:=H.o.held.pU cP om HQ.o;subst hc2;obtain⟨gb,ob,ib,vb,rfl,hg2⟩:=jl rfl;have eu:=aa cP;have yv:=aa hg2;have hlt:Hid (gb<w2.heap.size/\ob<w2.heap.size/\ib<w2.heap.size/\vb<w2.heap.size):=aa ⟨hg2.raw.lt,hg2.out.lt,hg2.qH.lt,hg2.qO.lt⟩;clear cP hg2 om jl hop;unfold ptrTo at *;obtain⟨rb,hrb⟩:∃x,x=w2.heap.size:=⟨_,rfl⟩;have yT:Hid (dx (w2.alloc (.cells #[.pointer (some ⟨pb,0,none⟩),.pointer (some ⟨gb,0,none⟩),.int .i64 (gen:Int),.int .u32 (done:Int),.map none,.slice none 0 0,.slice none 0 0] 133)) w2.heap.size pb gb gen done (.map none) (.slice none 0 0) (.slice none 0 0)/\aw (fun _=>False) n pb db w o d (w2.alloc (.cells #[.pointer (some ⟨pb,0,none⟩),.pointer (some ⟨gb,0,none⟩),.int .i64 (gen:Int),.int .u32 (done:Int),.map none,.slice none 0 0,.slice none 0 0] 133)) o2 d2 L/\cW (w2.alloc (.cells #[.pointer (some ⟨pb,0,none⟩),.pointer (some ⟨gb,0,none⟩),.int .i64 (gen:Int),.int .u32 (done:Int),.map none,.slice none 0 0,.slice none 0 0] 133)) o2 gb pb gen vs.length ob ib vb):=aa ⟨heap_alloc_new _ _,eu.o.alloc _,yv.o.moved (aw.aU (n:=n) eu.o.aX ai)⟩;go_wp2_with fail;rw[<- hrb]at yT ⊢;generalize w2.alloc (.cells #[.pointer (some ⟨pb,0,none⟩),.pointer (some ⟨gb,0,none⟩),.int .i64 (gen:Int),.int .u32 (done:Int),.map none,.slice none 0 0,.slice none 0 0] 133)=W3 at *;have Wi:Hid (rb=w2.heap.size/\w.heap.size<=rb):=aa ⟨hrb,by rw[hrb];exact eu.o.size⟩;have TA:Hid (fH w0 W3 pb db n o2 d2 L gb gen vs.length ob ib vb es):=aa ⟨H.o.held.moved yT.o.2.1 (fun _ e=>e.elim),HQ.o,yT.o.2.2,H.o.e,H.o.r,H.o.len,H.o.top,H.o.ends⟩;have Wm:Hid (qX w0 W3 o2 rb gb ob ib vb):=aa ⟨by rw[hrb];exact(H.o.held.moved eu.o (fun _ e=>e.elim)).below.size,yT.o.1.lt,by rw[hrb];exact eu.o.aX.fresh (Nat.le_refl _),by grind [Hid.out]⟩;have mG:=aa (CC HW TA.o H.o.v yT.o.1 Wm.o);unfold wU ptrTo at mG;clear hrb yv hlt;refine mG.o.mono ?_;rintro e w4⟨vv,d4,o4,rfl,oP⟩;have gj:=aa oP;have TB:=aa (TA.o.Fe Wm.o oP.mv);have Wn:=aa (Wm.o.moved oP.mv);have fZ:Hid (aw (fun _=>False) n pb db w o d w4 o4 d4 L):=aa (yT.o.2.1.trans oP.mv (fun x hx e=>by grind [Hid.out]));have hch:=aa (yO HW TB.o oP.at' Wn.o oP.row oP.own H.o.deg H.o.ae0);rw[<- XO.o]at hch;unfold td ptrTo at hch;clear oP mG TA Wm;go_wp2_with fail;refine hch.o.mono ?_;rintro e w5⟨mb,ov,S,d5,o5,rfl,j7,KO,TC,ae1,ae2,ae3,ae4,GL⟩;obtain⟨oa,ok,rfl⟩:=az TC;obtain⟨KN,Jt⟩:∃k,k=CH.length:=⟨_,rfl⟩;have kV:Hid (aw (fun _=>False) n pb db w o d w5 o5 d5 L):=aa (fZ.o.trans j7 (fun x hx e=>by grind [Hid.out]));have Ay:=aa KO;have Nz:Hid (bF w5 w4.heap.size (.slice oa CH.length ok) CH/\(∀b,(Value.slice oa CH.length ok).ownBlock=some b->o5 b=none)/\fD w5 mb S/\w4.heap.size<=mb/\o5 mb=none/\∀z,z∈S↔z∈CH):=aa ⟨TC,ae1,ae2,ae3,ae4,GL⟩;have ae5:=aa (TB.o.Fe Wn.o j7);have ae6:=aa (Wn.o.moved j7);have ND:Hid (dM w5 W3.heap.size vv vs/\(∀b,vv.ownBlock=some b->o5 b=none/\b<w4.heap.size)):=aa ⟨j7.ownsRow gj.o.row (fun b hb=>⟨gj.o.own b hb,fun e=>by have h1:=aG gj.o.row b hb;have h2:=yT.o.1.lt;omega⟩),fun b hb=>⟨j7.free (aL gj.o.row b hb).1 (gj.o.own b hb),(aL gj.o.row b hb).1⟩⟩;obtain⟨-,-,-,-,-,c5,-⟩:=KO.cells;rw[<- Jt]at c5;have HKN:Hid (KN=CH.length/\KN<4294967296):=aa ⟨Jt,by have:=H.o.dlt;grind [Hid.out]⟩;clear j7 KO TC ae1 ae2 ae3 ae4 GL hch Jt TB Wn fZ;by_cases hz:KN=0
 ·have hzz:(KN:Int)=0:=by omega
  have HQF:Hid (PST (.returned (.tuple #[.int .u32 0,.int .i64 0])) w5):=aa (by
   have hn:aD es vs=[]:=by grind [Hid.out]
   rw[wZ.o];exact⟨d5,o5,L,by grind,kV.o,fun _=>rfl,fun h=>absurd hn h⟩)
  clear hz;go_wp2;assumption
 ·have hzz:¬(KN:Int)=0:=by omega
  have HCN:Hid (CH≠[]):=aa (fun e=>hz (by grind [Hid.out]));have HVN:Hid (vs.length≠0):=aa (by
   cases e:CH with
   |nil=>grind [Hid.out]
   |cons v l=>have:=jX (es:=es) (vs:=vs) (v:=v) (by grind [Hid.out]);omega)
  obtain⟨g,vk,rfl⟩:∃g k,vv=.slice (some ⟨g,0,none⟩) vs.length k:=by
   obtain⟨-,⟨h1,h2⟩|⟨g,k,_,h1,_⟩⟩:=ND.o.1
   ·grind [Hid.out]
   grind
  have HG:Hid (rb<g/\g<w4.heap.size/\w.heap.size<=g/\rb≠g):=aa (by
   have h1:=aG ND.o.1 g rfl;have h2:=yT.o.1.lt;have h3:=(ND.o.2 g rfl).2;grind [Hid.out])
  have HWI:Hid (MZ w0 w5 pb db n o5 d5 L gb gen vs.length ob ib vb es rb mb g vk done (.slice oa CH.length ok) S CH vs W3.heap.size w4.heap.size):=aa
   ⟨ae5.o,Ay.o,ae6.o,Nz.o.2.2.1,Nz.o.2.2.2.2.1,Nz.o.1,Nz.o.2.1,ND.o.1,rfl,(ND.o.2 g rfl).1,HG.o.1,Nat.lt_of_lt_of_le HG.o.2.1 Nz.o.2.2.2.1,fun b hb=>Nat.lt_of_lt_of_le HG.o.2.1 (aG Nz.o.1 b hb),Nz.o.2.2.2.2.2,fun v hv=>jX (es:=es) (by grind [Hid.out]),HCN.o⟩
  have hwr:=aa (Bf HW yI H.o.frames HWI.o H.o.glt H.o.free H.o.nt (by rw[XO.o];exact H.o.most) (by rw[XO.o];exact H.o.need) (by rw[XO.o];exact H.o.dlt) H.o.deg);unfold xe ptrTo at hwr;clear hz HWI;go_wp2_with fail;refine hwr.o.mono ?_;rintro e w6⟨d6,o6,L6,rfl,nO,Bn⟩;have AP:dx w6 rb pb gb gen done (.map (some mb)) (.slice oa CH.length ok) (.slice (some ⟨g,0,none⟩) vs.length vk):=nO.heap Ay.o ae6.o.free HG.o.2.2.2;obtain⟨-,-,-,-,-,c5',-⟩:=AP.cells;rw[<- HKN.o.1]at c5';have wku:IntKind.u32.wrap (KN:Int)=(KN:Int):=eW _ ae (by grind [Hid.out]);have HQF:Hid (PST (.returned (.tuple #[.int .u32 (KN:Int),.int .i64 0])) w6):=aa (by
   rw[wZ.o];refine⟨d6,o6,L6,by grind [Hid.out],kV.o.trans nO (fun x hx e=>by grind [Hid.out]),fun h=>absurd (XO.o.trans h) HCN.o,fun _=>?_⟩;grind [Hid.out])
  clear nO Bn AP hwr c5 hzz;go_wp2;assumption
end
end
section
open Go.RowKit Go.Maps
theorem xf{w:World}{ops:Array Oper}{o:Oper}{a:Act}{K:Act->World->Prop}{Q:Exit->Act->World->Prop}{E:Prop}(hgd:o.guard=none)(s x:Operand)(ho:o.op=.call { callee:=.builtin .append,args:=#[s,x],argTypes:=#[22,22] })(base:Nat)(v:Value)(l:List aF)(hs:a.eval s=v)(hown:aI w base v l)(y:aF)(xb c:Nat)(hx:a.eval x=.slice (some ⟨xb,0,none⟩) 1 c)(FK:w.heap[xb]? = some (.cells #[.int .u32 (y.t.toNat:Int),.int .u32 (y.h.toNat:Int),.int .u64 (y.x.toNat:Int),.int .u32 (y.m.toNat:Int)] 64))(hl:l.length<=100000)(hbase:base<=w.heap.size)(k:∀v' w',aI w' base v' (l++[y])->lq v w w' v'->K (a.put o.dst v') w'):if Region.wanted o (yielded ops a.tmps)=true then Oper.wp prog o a w K Q else E:=by
 refine l9 hgd s x 22 ho base 64 _ 4 24 Tryz.underlying22 rB rfl af v l.length (dE l) hs hown ⟨xb,0,none⟩ 1 c y.cells hx rfl (fun j u hj=>?_) (by simp[Value.oneCell']) (by grind [maxLen]) ae hbase (fun v' w' h1 h2=>k v' w' ?_ h2)
 ·rw[bG,Nat.zero_add,aq FK];grind
 ·unfold aI;rw[nC,List.length_append];exact h1
def pN(n:Nat)(x:aF):aF:=⟨UInt32.ofNat (x.t.toNat%n),UInt32.ofNat (x.h.toNat%n),UInt64.ofNat (x.x.toNat%288230376151711744),4294967295⟩
def gW(n:Nat)(es:List aF):List aF:=if n=0 then [] else (es.take 80).map (pN n)
theorem DM{n:Nat}(x:aF):(pN n x).t.toNat=x.t.toNat%n/\(pN n x).h.toNat=x.h.toNat%n/\(pN n x).x.toNat=x.x.toNat%288230376151711744/\(pN n x).m.toNat=4294967295:=by
 have h1:=Nat.mod_le x.t.toNat n;have h2:=Nat.mod_le x.h.toNat n;have:=x.t.toNat_lt;have:=x.h.toNat_lt;refine⟨?_,?_,?_,rfl⟩
 ·show(UInt32.ofNat _).toNat=_;grind [UInt32.toNat_ofNat']
 ·show(UInt32.ofNat _).toNat=_;grind [UInt32.toNat_ofNat']
 ·show(UInt64.ofNat _).toNat=_;grind [UInt64.toNat_ofNat']
def xg(w:World)(n:Nat)(l:List aF)(e:Ending)(w':World):Prop:=
 ∃v,e=.returned (.tuple #[.int .i64 (n:Int),v])/\Below w.heap.size w w'/\aI w' w.heap.size v l
theorem DN{w:World}{ev:Value}{es:List aF}(N F:Nat)(hN:N<256)(he:kL w ev es) :
 Calls prog 29 #[.agg #[.int .u8 (N:Int),ev,.int .u8 (F:Int)]] w (xg w (N%25) (gW (N%25) es)):=by
 obtain⟨ea,ec,rfl,-⟩:=id he;have HE:=aa he;obtain⟨V,hV⟩:∃v,v=N%25:=⟨_,rfl⟩;have hN1:wrap64 (N:Int)=(N:Int):=by grind [wrap64]
 have hN2:(N:Int).tmod 25=(V:Int):=by grind
 have NV:Hid (V=N%25/\V<25):=aa ⟨hV,ae⟩;rw[<- hV];obtain⟨M,hM⟩:∃m,m=es.length:=⟨_,rfl⟩;have HM:=aa hM;have jQ:Hid (Below w.heap.size w (w.alloc (.cells #[.int .u8 (N:Int),.slice ea M ec,.int .u8 (F:Int)] 69))):=aa ai;have Cw:Hid ((w.alloc (.cells #[.int .u8 (N:Int),.slice ea M ec,.int .u8 (F:Int)] 69)).heap[w.heap.size]? = some (.cells #[.int .u8 (N:Int),.slice ea M ec,.int .u8 (F:Int)] 69)):=aa (heap_alloc_new _ _);have HE0:Hid (kL (w.alloc (.cells #[.int .u8 (N:Int),.slice ea M ec,.int .u8 (F:Int)] 69)) (.slice ea M ec) es):=aa (by rw[hM];exact he.below ai);obtain⟨PST,mh⟩:∃P,P=xg w V (gW V es):=⟨_,rfl⟩;have wZ:=aa mh;rw[<- mh];rw[<- hM];clear he hV hM mh hN;go_enter func29,ntmps29;go_wp2_with fail;generalize XU:w.heap.size=wb at *;generalize w.alloc (.cells #[.int .u8 (N:Int),.slice ea M ec,.int .u8 (F:Int)] 69)=W0 at *;have XV:Hid (w.heap.size=wb/\wb<W0.heap.size):=aa ⟨XU,(Array.getElem?_eq_some_iff.1 Cw.o).1⟩;clear XU hN1 hN2;go_loopw [5,6] (fun vl vi wr=>∃(k:Nat)(acc:List aF),vi=.int .i64 (k:Int)/\k<=M/\k<=80/\(k=0\/0<V)/\Hid (acc=(es.take k).map (pN V)/\Below W0.heap.size W0 wr/\aI wr W0.heap.size vl acc)) (fun _ vi _=>80-(intOf vi).toNat)
 case atStart=>exact⟨0,[],rfl,Nat.zero_le _,ae,.inl rfl,aa ⟨rfl,Below.refl _ _,World.ownsRow_nil _ _ _ _⟩⟩
 case round=>
  generalize u5=lv at *;obtain⟨k,acc,rfl,hk,hk8,JI,HS⟩:=hrel;generalize wr=W1 at *;obtain⟨la,lc,rfl⟩:=az HS.out.2.2;have Me:W1.heap[wb]? = some (.cells #[.int .u8 (N:Int),.slice ea M ec,.int .u8 (F:Int)] 69):=(HS.out.2.1.block _ XV.o.2).trans Cw.o;have b1:W1.cell? ⟨wb,1,none⟩=some (.slice ea M ec):=by rw[aq Me];rfl
  clear Me;by_cases h1:k<M
  ·have h1z:(k:Int)<(M:Int):=by omega
   by_cases h2:k<80
   ·have h2z:(k:Int)<80:=by omega
    by_cases h3:0<V
    ·have wk:IntKind.i64.wrap ((k:Int)+1)=((k+1:Nat):Int):=by grind [ax]
     have wv:IntKind.u32.wrap (V:Int)=(V:Int):=by grind [Hid.out,eW]
     obtain⟨x,hx⟩:∃x,es[k]? = some x:=⟨_,List.getElem?_eq_getElem (by grind [Hid.out])⟩;have HX:=aa hx;obtain⟨a',cap',Cc,hce⟩:=HE0.o.below HS.out.2.1;obtain⟨rfl,-,rfl⟩:ea=a'/\M=es.length/\ec=cap':=by grind
     obtain⟨b,off,rfl,Ie⟩:=hce.resolve_left (by grind);obtain⟨q0,q1,q2,q3⟩:=Ie k _ hx;clear hce Ie Cc hx;obtain⟨y,hy⟩:∃y,y=pN V x:=⟨_,rfl⟩;have HY:=aa hy;obtain⟨y0,y1,y2,y3⟩:=DM (n:=V) x;rw[<- hy]at y0 y1 y2 y3;have cS:Hid (Below W0.heap.size W0 (W1.alloc (.cells #[.int .u32 (x.t.toNat:Int),.int .u32 (x.h.toNat:Int),.int .u64 (x.x.toNat:Int),.int .u32 (x.m.toNat:Int)] 64))):=aa (HS.out.2.1.alloc HS.out.2.1.size _);have nu:Hid (aI (W1.alloc (.cells #[.int .u32 (x.t.toNat:Int),.int .u32 (x.h.toNat:Int),.int .u64 (x.x.toNat:Int),.int .u32 (x.m.toNat:Int)] 64)) W0.heap.size (.slice la acc.length lc) acc):=aa (World.ownsRow.alloc HS.out.2.2 _);have VO:Hid ((W1.alloc (.cells #[.int .u32 (x.t.toNat:Int),.int .u32 (x.h.toNat:Int),.int .u64 (x.x.toNat:Int),.int .u32 (x.m.toNat:Int)] 64)).heap[W1.heap.size]? = some (.cells #[.int .u32 (x.t.toNat:Int),.int .u32 (x.h.toNat:Int),.int .u64 (x.x.toNat:Int),.int .u32 (x.m.toNat:Int)] 64)):=aa (heap_alloc_new _ _);have HL:Hid (acc=(es.take k).map (pN V)/\acc.length<=80):=aa ⟨HS.out.1,by grind [Hid.out]⟩;clear hy HS;go_wp2_with fail;clear q0 q1 q2 q3 b1;generalize W1.heap.size=xb at *;generalize W1.alloc (.cells #[.int .u32 (x.t.toNat:Int),.int .u32 (x.h.toNat:Int),.int .u64 (x.x.toNat:Int),.int .u32 (x.m.toNat:Int)] 64)=W2 at *;have x0:W2.cell? ⟨xb,0,none⟩=some (.int .u32 (x.t.toNat:Int)):=by rw[aq VO.o];rfl
     have x1:W2.cell? ⟨xb,1,none⟩=some (.int .u32 (x.h.toNat:Int)):=by rw[aq VO.o];rfl
     have x2:W2.cell? ⟨xb,2,none⟩=some (.int .u64 (x.x.toNat:Int)):=by rw[aq VO.o];rfl
     have e0:(x.t.toNat:Int)%(V:Int)=(y.t.toNat:Int):=by omega
     have e1:(x.h.toNat:Int)%(V:Int)=(y.h.toNat:Int):=by omega
     have e2:(x.x.toNat:Int)%288230376151711744=(y.x.toNat:Int):=by omega
     have t0:(x.t.toNat:Int).tmod (V:Int)=(y.t.toNat:Int):=by assumption
     have t1:(x.h.toNat:Int).tmod (V:Int)=(y.h.toNat:Int):=by assumption
     have t2:(x.x.toNat:Int).tmod 288230376151711744=(y.x.toNat:Int):=by assumption
     have e3:(4294967295:Int)=(y.m.toNat:Int):=by omega
     have h3n:¬V=0:=by omega
     clear y0 y1 y2 y3;have Su:=World.block_lt_of_cell? _ _ x0;have HBD:Hid (∀ob,Below W2.heap.size W2 (W2.drew.alloc ob)):=aa (fun ob=>aj.drew.alloc (Nat.le_refl _) ob);have HBZ:Hid (W0.heap.size<=W2.heap.size):=aa cS.o.size;go_region_law (refine xf rfl _ _ rfl W0.heap.size _ acc rfl (World.ownsRow.alloc (World.ownsRow.drew nu.o) _) y _ 1 rfl (heap_alloc_new _ _) (by have:=HL.o;omega) (Nat.le_trans HBZ.o (HBD.o _).size) ?_;intro v5 w5 h5 ha;have HA5:=aa ha;have Ur:=aa h5;clear ha h5)
     all_goals
      obtain⟨v5a,v5c,T7⟩:=az Ur.o;subst T7;have eM:Hid (acc++[y]=(es.take (k+1)).map (pN V)/\Below W0.heap.size W0 w5/\aI w5 W0.heap.size (.slice v5a (acc++[y]).length v5c) (acc++[y])):=aa ⟨by
       rw[HL.o.1,HY.o,List.take_add_one,HX.o,List.map_append];rfl,(gG (cS.o.trans ((HBD.o _).mono HBZ.o)) (fun b hb=>aG nu.o b hb) HA5.o).1,Ur.o⟩
      clear HA5 Ur nu HBD t0 t1 t2 e0 e1 e2 e3 x0 x1 x2 Su;generalize (acc++[y]).length=L5 at *;go_wp2_with fail;go_roundw
      case rel=>grind
      grind [intOf]
    ·have h3z:¬(V:Int)>0:=by omega
     have HQ:Hid (PST (.returned (.tuple #[.int .i64 (V:Int),.slice la acc.length lc])) W1):=aa (by
      rw[wZ.o];obtain rfl:k=0:=by omega
      have hb:=jQ.o;have hs:=HS.out;rw[XV.o.1.symm]at hb;refine⟨_,rfl,hb.trans (hs.2.1.mono hb.size),?_⟩;grind [gW,aV,Below.size])
     clear HS;go_wp2;exact HQ.o
   ·have h2z:¬(k:Int)<80:=by omega
    have HQ:Hid (PST (.returned (.tuple #[.int .i64 (V:Int),.slice la acc.length lc])) W1):=aa (by
     rw[wZ.o];obtain rfl:k=80:=by omega
     have hb:=jQ.o;have hs:=HS.out;rw[XV.o.1.symm]at hb;refine⟨_,rfl,hb.trans (hs.2.1.mono hb.size),?_⟩;grind [gW,aV,Below.size])
    clear HS;go_wp2;exact HQ.o
  ·have h1z:¬(k:Int)<(M:Int):=by omega
   have HQ:Hid (PST (.returned (.tuple #[.int .i64 (V:Int),.slice la acc.length lc])) W1):=aa (by
    rw[wZ.o];obtain rfl:k=M:=by omega
    have hb:=jQ.o;have hs:=HS.out;rw[XV.o.1.symm]at hb;refine⟨_,rfl,hb.trans (hs.2.1.mono hb.size),?_⟩;have e1:acc=gW V es:=by
     rw[hs.1];unfold gW;grind [Hid.out]
    grind [aV,Below.size])
   clear HS;go_wp2;exact HQ.o
end
end Go.Proofs.YthkkgdpomhhjjaaGreatDoor
