/-
  Joined.
-/
import Derived.Test.YthkkgdpomhhjjaaGreatDoorK14
set_option maxRecDepth 100000
set_option maxHeartbeats 16000000
namespace Go.Proofs.YthkkgdpomhhjjaaGreatDoor
open Go.Proofs.Tryz
section
open Go.RowKit Go.Maps
section
variable {w0 w w' W W':World} {pb db n gb gen N ob ib vb rb mb pc done sb:Nat} {o o' gY:au} {d d' ig:Dsk} {L L' Ao:aH} {es l:List aD} {S:List Nat} {x4 x5 x6 v:Value} {name:Name} {fl:Bool}
theorem fK.look(h:fK w mb S){x:Nat}(hx:x<4294967296)(b:Bool)(hb:decide (x∈S)=b):∀w',Below w.heap.size w w'->Sem.run prog (Instr.lookup 131 (.map (some mb)) (.int .u32 (x:Int)) false) w'=.ok (.bool b) w':=fun w' hw=>by
 have:=(h.kept (hw.block _ h.lt)).lookup cd dr Tryz.underlying131 (Tryz.zeroValue4 w') x (fU hx) false;rw[FI]at this;rw[<- hb];by_cases e:x∈S
 ·rw[if_pos e]at this;rw[decide_eq_true e];exact this
 ·rw[if_neg e]at this;rw[decide_eq_false e];exact this
theorem JA(args:Array Value)(w:World):Sem.run prog (callFunc 152 args) w=.ok (.enter 152 args) w:=by go_simp
theorem JB{t:TypeId}(hp:w.heap[pc]? = some (.cells #[ptrTo rb] t))(hr:dx w rb pb gb gen done (.map (some mb)) x5 x6)(hch:fK w mb S){x:Nat}(hx:x<4294967296) :
 Calls prog 152 #[.int .u32 (x:Int),.pointer (some ⟨pc,0,none⟩)] w fun e w'=>e=.returned (.bool (decide (x∈S)))/\Below w.heap.size w w':=by
 have hl:=hch.look hx _ rfl w ak;generalize decide (x∈S)=b at *;have c0:w.cell? ⟨pc,0,none⟩=some (ptrTo rb):=by rw[ar hp];rfl
 obtain⟨-,-,-,-,c4,-⟩:=hr.cells;clear hp hr hch hx;unfold ptrTo at *;go_enter func152,ntmps152;go_wp2;go_ret;exact⟨rfl,Below.refl _ _⟩
theorem T8{t:TypeId}(hp:w.heap[pc]? = some (.cells #[ptrTo rb] t))(hr:dx w rb pb gb gen done (.map (some mb)) x5 x6)(hch:fK w mb S)(h1:o pc=none)(h2:o rb=none)(h3:o mb=none) :
 Ji w o (.func (.func 152) #[] #[.pointer (some ⟨pc,0,none⟩)]) (fun x=>decide (x∈S)) (fun b=>b=pc\/b=rb\/b=mb):=
 ⟨⟨_,_,rfl,JA,fun W x hk _ hx=>JB ((hk pc (.inl rfl)).trans hp) ((hk rb (.inr (.inl rfl))).trans hr) (hch.kept (hk mb (.inr (.inr rfl)))) hx⟩,fun b hb=>by
   rcases hb with rfl | rfl | rfl
   ·exact⟨(Array.getElem?_eq_some_iff.1 hp).1,h1⟩
   ·exact⟨hr.lt,h2⟩
   ·exact⟨hch.lt,h3⟩⟩
theorem tI(h:fN w0 w pb db n o d L gb gen N ob ib vb es)(hm:Moved (fun _=>False) n pb db w o d w' o' d' L')(h1:aB L' (aK 101 gen)=aB L (aK 101 gen))(h2:aB L' (aK 114 gen)=aB L (aK 114 gen))(hq:need L'<=131072):fN w0 w' pb db n o' d' L' gb gen N ob ib vb es:=
 ⟨h.held.moved hm (fun _ e=>e.elim),hq,h.gr.moved hm,h1.trans h.file,h2.trans h.Jh,h.len,h.top,h.ends⟩
theorem Xm{x:aD}{t:TypeId}:kC (w.alloc (.cells #[.int .u32 (x.t.toNat:Int),.int .u32 (x.h.toNat:Int),.int .u64 (x.x.toNat:Int),.int .u32 (x.m.toNat:Int)] t)) (.slice (some ⟨w.heap.size,0,none⟩) 1 1) [x]:=
 ⟨_,1,rfl,.inr ⟨w.heap.size,0,rfl,fun j y hy=>by
  match j,hy with
  |0,hy=>cases hy;simp
  |j+1,hy=>cases hy⟩⟩
def jQ(S:List Nat)(x:aD):Bool:=decide (x.t.toNat ∉ S/\x.h.toNat ∉ S)
theorem T9(es:List aD)(S:List Nat):gO es S=(aC false es).filter (jQ S):=rfl
theorem C7(HW:aP)(h:fN w0 w pb db n o d L gb gen N ob ib vb es)(hr:dx w rb pb gb gen done (.map (some mb)) x5 x6)(hro:o rb=none)(hch:fK w mb S)(hmo:o mb=none)(hst:aF w sb pb name 20)(N6:o sb=none)(hL:aB L name=some (ax [] fl))(h1:name≠aK 101 gen)(h2:name≠aK 114 gen)(Np:need L+8*es.length+8<=131072) :
 Calls prog 102 #[ptrTo rb,ptrTo sb] w (jI (fun _=>False) n pb db w o d L name (gO es S)):=by
 have hbl:=b8 false es;have Mu:Hid (∀W o' d' es' kT,Moved (fun _=>False) n pb db w o d W o' d' (aS L name (ax es' kT))->es'.length<=es.length->fN w0 W pb db n o' d' (aS L name (ax es' kT)) gb gen N ob ib vb es):=ae (fun W o' d' es' kT hm hl=>tI h hm (by rw[ay,if_neg h1.symm]) (by rw[ay,if_neg h2.symm]) (by
  have g1:=cL L name (ax es' kT);have g2:=cR es' kT;omega))
 have Xl:Hid (Moved (fun _=>False) n pb db w o d w o d (aS L name (ax [] fl))):=ae ((Moved.refl _ h.held.aY).self hL);have HL0:=ae hL;have FV:=ae (Bn HW h.held h.need h.gr h.file);have NI:Hid (∀W o' d' L',Moved (fun _=>False) n pb db w o d W o' d' L'->dx W rb pb gb gen done (.map (some mb)) x5 x6/\fK W mb S/\aF W sb pb name 20/\o' sb=none):=ae (fun W o' d' L' hm=>⟨hr.moved hro hm,hch.kept (hm.block hch.lt hmo (fun e=>e)),hst.moved hm N6 (fun e=>e),hm.free hst.lt N6⟩);have nO:Hid (∀W o' d' es' kT v(x:aD),Moved (fun _=>False) n pb db w o d W o' d' (aS L name (ax es' kT))->es'.length<=es.length->kC W v [x]->(∀b,v.ownBlock=some b->o' b=none) ->
  Calls prog 151 #[ptrTo sb,v] W fun e w'=>∃ig gY abx,e=.returned (.int .i64 0)/\Moved (fun _=>False) n pb db w o d w' gY ig (aS L name (ax (es'++[x]) abx))):=ae (fun W o' d' es' kT v x hm hl hv mG=>by
  have hn:=Mu.out _ _ _ _ _ hm hl;have g1:=cL L name (ax es' kT);have g2:=cR es' kT;have hlen:=h.len;obtain⟨-,-,k3,k4⟩:=NI.out _ _ _ _ hm;refine(Jz HW hn.held k3 k4 (by rw[ay,if_pos rfl]) hv mG (by rw[List.length_singleton];omega) (by rw[List.length_singleton];omega)).mono ?_;rintro e w'⟨abx,ig,gY,rfl,cT⟩;rw[iZ]at cT;exact⟨ig,gY,abx,rfl,hm.trans cT (fun _ _ e=>e)⟩)
 obtain⟨-,c1,-⟩:=hr.cells;obtain⟨B,hB⟩:∃B,B=aC false es:=⟨_,rfl⟩;have HB:Hid (B.length<=es.length/\es.length<=1000):=ae ⟨by rw[hB];exact hbl,h.len⟩;have af0:Hid (∀W o' d' es' kT,Moved (fun _=>False) n pb db w o d W o' d' (aS L name (ax es' kT))->es'.length<=es.length->∀(i:Nat)(x:aD),B[i]? = some x->Calls prog 28 #[ptrTo gb,.int .i64 (i:Int)] W fun e w'=>∃ig gY,e=.returned (.tuple #[Bl x,.int .i64 0])/\Moved (fun _=>False) n pb db w o d w' gY ig (aS L name (ax es' kT))):=ae (fun W o' d' es' kT hm hl i x hx=>by
  have hn:=Mu.out _ _ _ _ _ hm hl;rw[hB]at hx;refine(D6 HW hn.held hn.need hn.gr hn.file hx).mono ?_;rintro e w'⟨ig,gY,rfl,cT⟩;exact⟨ig,gY,rfl,hm.trans cT (fun _ _ e=>e)⟩)
 rw[<- hB]at FV;rw[T9,<- hB];obtain⟨M,hM⟩:∃M,M=B.length:=⟨_,rfl⟩;have HM:Hid (M=B.length/\M<=1000):=ae ⟨hM,by have:=HB.out;omega⟩;obtain⟨R,hR⟩:∃R,R=jI (fun _=>False) n pb db w o d L name (B.filter (jQ S)):=⟨_,rfl⟩;have TM:=ae hR;rw[<- hR];rw[<- hM]at FV;clear h hr hro hch hmo hst N6 hL h1 h2 Np hbl hB hM hR Mu;unfold ptrTo at *;go_enter func102,ntmps102;go_wp2_with fail;refine FV.out.mono ?_;rintro e w1⟨d1,o1,rfl,ej⟩;have e9:Hid (Moved (fun _=>False) n pb db w o d w1 o1 d1 (aS L name (ax (((B.take 0)).filter (jQ S)) fl))):=ae (by
  refine ej.congr Xl.out.aY.keys (fun x=>?_);rw[ay];split
  ·rename_i e;rw[e,HL0.out];rfl
  ·rfl)
 clear ej FV c1 Xl;go_wp2_with fail;go_loopw [23] (fun vi wr=>∃(i:Nat)(kT:Bool)(o':au)(d':Dsk),vi=.int .i64 (i:Int)/\i<=M/\Hid (Moved (fun _=>False) n pb db w o d wr o' d' (aS L name (ax ((B.take i).filter (jQ S)) kT)))) (fun vi _=>M-(intOf vi).toNat)
 case atStart=>exact⟨0,fl,o1,d1,rfl,Nat.zero_le _,e9⟩
 case round=>
  obtain⟨i,kT,o2,d2,rfl,hi,eV⟩:=hrel;clear e9;generalize wr=W2 at *;by_cases hlt:i<M
  ·have hiz:(i:Int)<(M:Int):=by omega
   have wi:IntKind.i64.wrap ((i:Int)+1)=((i+1:Nat):Int):=by have:=HM.out;rw[aw]<;>omega
   obtain⟨x,hx⟩:∃x,B[i]? = some x:=⟨_,List.getElem?_eq_getElem (by have:=HM.out;omega)⟩;have qT:Hid ((B.take (i+1)).filter (jQ S)=(B.take i).filter (jQ S)++if jQ S x=true then [x] else []):=ae (by
    obtain⟨hl,he⟩:=List.getElem?_eq_some_iff.1 hx;rw[List.take_succ_eq_append_getElem hl,he,List.filter_append,List.filter_cons,List.filter_nil])
   have HLEN:Hid (((B.take i).filter (jQ S)).length<=es.length):=ae (Nat.le_trans (List.length_filter_le _ _) (by rw[List.length_take];have:=HB.out;omega));have hed:=ae (af0.out _ _ _ _ _ eV.out HLEN.out i x hx);obtain⟨-,c1,-⟩:=(NI.out _ _ _ _ eV.out).1.cells;clear hx;generalize (B.take i).filter (jQ S)=acc at *;unfold Bl ptrTo at *;go_wp2_with fail;refine hed.out.mono ?_;rintro e w3⟨d3,o3,rfl,eE⟩;have eH:=ae (eE.alloc (.cells #[.int .u32 (x.t.toNat:Int),.int .u32 (x.h.toNat:Int),.int .u64 (x.x.toNat:Int),.int .u32 (x.m.toNat:Int)] 64));have iD:Hid ((w3.alloc (.cells #[.int .u32 (x.t.toNat:Int),.int .u32 (x.h.toNat:Int),.int .u64 (x.x.toNat:Int),.int .u32 (x.m.toNat:Int)] 64)).heap[w3.heap.size]? = some (.cells #[.int .u32 (x.t.toNat:Int),.int .u32 (x.h.toNat:Int),.int .u64 (x.x.toNat:Int),.int .u32 (x.m.toNat:Int)] 64)):=ae (heap_alloc_new _ _);clear eE hed eV c1;go_wp2_with fail;generalize Gl:w3.heap.size=xb at *;clear Gl;generalize w3.alloc (.cells #[.int .u32 (x.t.toNat:Int),.int .u32 (x.h.toNat:Int),.int .u64 (x.x.toNat:Int),.int .u32 (x.m.toNat:Int)] 64)=W3 at *;have F:Hid (∀w',Below W3.heap.size W3 w'->w'.cell? ⟨rb,4,none⟩=some (.map (some mb))/\w'.cell? ⟨xb,0,none⟩=some (.int .u32 (x.t.toNat:Int))/\w'.cell? ⟨xb,1,none⟩=some (.int .u32 (x.h.toNat:Int))):=ae (fun w' hw'=>by
    have hc:w'.heap[xb]? = some (.cells #[.int .u32 (x.t.toNat:Int),.int .u32 (x.h.toNat:Int),.int .u64 (x.x.toNat:Int),.int .u32 (x.m.toNat:Int)] 64):=(hw'.block _ (Array.getElem?_eq_some_iff.1 iD.out).1).trans iD.out;exact⟨((NI.out _ _ _ _ eH.out).1.below hw').cells.2.2.2.2.1,by rw[ar hc];rfl,by rw[ar hc];rfl⟩)
   have Mv:=(NI.out _ _ _ _ eH.out).2.1;by_cases ht:x.t.toNat∈S
   ·have Iw:=ae (Mv.look x.t.toNat_lt true (decide_eq_true ht));have HE:Hid (jQ S x=false):=ae (by unfold jQ;simp[ht]);clear ht Mv;refine wq W3 ?_;iterate 3 (refine qz ?_)
    refine qz ?_ (fun w' hw'=>by obtain⟨f1,f2,f3⟩:=F.out w' hw';go_simp<;>rfl);refine qz ?_;refine qz ?_ (fun w' hw'=>by obtain⟨f1,f2,f3⟩:=F.out w' hw';go_simp<;>rfl);refine qz ?_ (fun w' hw'=>by have hl:=Iw.out w' hw';go_simp<;>rfl);refine qz ?_;iterate 7 go_big_quiet_skip
    refine qz ?_;refine wpQuiet_nil ?_;intro w4 hb4;have gC:Hid (Moved (fun _=>False) n pb db w o d w4 o3 d3 (aS L name (ax ((B.take (i+1)).filter (jQ S)) kT))):=ae (by rw[qT.out,HE.out,if_neg ai,List.append_nil];exact eH.out.below hb4);clear hb4 F Iw;go_wp2;go_roundw
    case rel=>exact⟨i+1,kT,o3,d3,by go_num,af,gC⟩
    case measure=>simp[intOf];omega
   ·have Iw:=ae (Mv.look x.t.toNat_lt false (decide_eq_false ht));by_cases hh:x.h.toNat∈S
    ·have JU:=ae (Mv.look x.h.toNat_lt true (decide_eq_true hh));have HE:Hid (jQ S x=false):=ae (by unfold jQ;simp[hh]);clear ht hh Mv;refine wq W3 ?_;iterate 3 (refine qz ?_)
     refine qz ?_ (fun w' hw'=>by obtain⟨f1,f2,f3⟩:=F.out w' hw';go_simp<;>rfl);refine qz ?_;refine qz ?_ (fun w' hw'=>by obtain⟨f1,f2,f3⟩:=F.out w' hw';go_simp<;>rfl);refine qz ?_ (fun w' hw'=>by have hl:=Iw.out w' hw';go_simp<;>rfl);refine qz ?_;iterate 3 (refine qz ?_)
     refine qz ?_ (fun w' hw'=>by obtain⟨f1,f2,f3⟩:=F.out w' hw';go_simp<;>rfl);refine qz ?_;refine qz ?_ (fun w' hw'=>by obtain⟨f1,f2,f3⟩:=F.out w' hw';go_simp<;>rfl);refine qz ?_ (fun w' hw'=>by have hl:=JU.out w' hw';go_simp<;>rfl);refine qz ?_;refine wpQuiet_nil ?_;intro w4 hb4;have gC:Hid (Moved (fun _=>False) n pb db w o d w4 o3 d3 (aS L name (ax ((B.take (i+1)).filter (jQ S)) kT))):=ae (by rw[qT.out,HE.out,if_neg ai,List.append_nil];exact eH.out.below hb4);clear hb4 F Iw JU;go_wp2;go_roundw
     case rel=>exact⟨i+1,kT,o3,d3,by go_num,af,gC⟩
     case measure=>simp[intOf];omega
    ·have JU:=ae (Mv.look x.h.toNat_lt false (decide_eq_false hh));have HE:Hid (jQ S x=true):=ae (by unfold jQ;simp[ht,hh]);clear ht hh Mv;refine wq W3 ?_;iterate 3 (refine qz ?_)
     refine qz ?_ (fun w' hw'=>by obtain⟨f1,f2,f3⟩:=F.out w' hw';go_simp<;>rfl);refine qz ?_;refine qz ?_ (fun w' hw'=>by obtain⟨f1,f2,f3⟩:=F.out w' hw';go_simp<;>rfl);refine qz ?_ (fun w' hw'=>by have hl:=Iw.out w' hw';go_simp<;>rfl);refine qz ?_;iterate 3 (refine qz ?_)
     refine qz ?_ (fun w' hw'=>by obtain⟨f1,f2,f3⟩:=F.out w' hw';go_simp<;>rfl);refine qz ?_;refine qz ?_ (fun w' hw'=>by obtain⟨f1,f2,f3⟩:=F.out w' hw';go_simp<;>rfl);refine qz ?_ (fun w' hw'=>by have hl:=JU.out w' hw';go_simp<;>rfl);refine qz ?_;refine wpQuiet_nil ?_;intro w4 hb4;have gC:=ae (eH.out.below hb4);have Yt:w4.heap[xb]? = some (.cells #[.int .u32 (x.t.toNat:Int),.int .u32 (x.h.toNat:Int),.int .u64 (x.x.toNat:Int),.int .u32 (x.m.toNat:Int)] 64):=(hb4.block _ (Array.getElem?_eq_some_iff.1 iD.out).1).trans iD.out;have q0:w4.cell? ⟨xb,0,none⟩=some (.int .u32 (x.t.toNat:Int)):=by rw[ar Yt];rfl
     have q1:w4.cell? ⟨xb,1,none⟩=some (.int .u32 (x.h.toNat:Int)):=by rw[ar Yt];rfl
     have q2:w4.cell? ⟨xb,2,none⟩=some (.int .u64 (x.x.toNat:Int)):=by rw[ar Yt];rfl
     have q3:w4.cell? ⟨xb,3,none⟩=some (.int .u32 (x.m.toNat:Int)):=by rw[ar Yt];rfl
     have hput:=ae (nO.out (w4.alloc (.cells #[.int .u32 (x.t.toNat:Int),.int .u32 (x.h.toNat:Int),.int .u64 (x.x.toNat:Int),.int .u32 (x.m.toNat:Int)] 64)) o3 d3 acc kT (.slice (some ⟨w4.heap.size,0,none⟩) 1 1) x (gC.out.alloc _) HLEN.out Xm (fun b hb=>by cases hb;exact gC.out.aY.fresh (Nat.le_refl _)));clear hb4 F Iw JU iD eH Yt;go_wp2_with fail;refine hput.out.mono ?_;rintro e w5⟨d5,o5,fl5,rfl,kP⟩;have lL:Hid (Moved (fun _=>False) n pb db w o d w5 o5 d5 (aS L name (ax ((B.take (i+1)).filter (jQ S)) fl5))):=ae (by rw[qT.out,HE.out,if_pos rfl];exact kP);clear kP hput gC q0 q1 q2 q3;go_wp2;go_roundw
     case rel=>exact⟨i+1,fl5,o5,d5,by go_num,af,lL⟩
     case measure=>simp[intOf];omega
  ·have hiz:¬(i:Int)<(M:Int):=by omega
   have HQ:Hid (R (.returned (.int .i64 0)) W2):=ae (by
    have:=eV.out;rw[List.take_of_length_le (by have:=HM.out;omega)]at this;rw[TM.out];exact⟨kT,d2,o2,rfl,this⟩)
   clear eV TM;go_wp2;exact HQ.out
end
end
section
open Go.RowKit Go.Maps
theorem JC(a:UInt32):IntKind.u32.wrap ((a.toNat:Int)+1)=((a+1).toNat:Int):=by
 rfl
theorem JD{l:List cj}{i:Nat}{y:cj}(r:UInt32)(h:l[i]? = some y):(cJ l).set (i*3) (.int .u32 (r.toNat:Int))=cJ (l.set i ⟨r,y.l,y.g⟩):=by
 induction l generalizing i with
 |nil=>cases h
 |cons a l ih=>
   cases i with
   |zero=>cases h;rfl
   |succ i=>grind [cJ]
theorem yO{l:List cj}{i:Nat}{y:cj}(r:UInt32)(h:l[i]? = some y):(cJ l).set (i*3+1) (.int .u32 (r.toNat:Int))=cJ (l.set i ⟨y.r,r,y.g⟩):=by
 induction l generalizing i with
 |nil=>cases h
 |cons a l ih=>
   cases i with
   |zero=>cases h;rfl
   |succ i=>grind [cJ]
theorem JE{l:List cj}{i:Nat}{y:cj}(r:UInt32)(h:l[i]? = some y):(cJ l).set (i*3+2) (.int .u32 (r.toNat:Int))=cJ (l.set i ⟨y.r,y.l,r⟩):=by
 induction l generalizing i with
 |nil=>cases h
 |cons a l ih=>
   cases i with
   |zero=>cases h;rfl
   |succ i=>grind [cJ]
theorem lN{L:aH}{k:Name}{f:iB}(hk:(L.map (·.1)).Nodup)(h:aB L k=some f)(f':iB):need (aS L k f')+f.need=f'.need+need L:=by
 have e:need (aS L k f)=need L:=Ap hk (ct hk) fun x=>by
  grind [ay]
 grind [aS,j6]
def eN(es:List aD):Nat:=(ax es true).need
theorem NJ(es:List aD)(fl:Bool):(ax es fl).need=eN es:=rfl
theorem gA(es:List aD):eN es<=4*es.length:=cR es true
structure RL(L0 L:aH)(nX nU nD:Name)(R U D:List aD):Prop where
 x:∃f,aB L nX=some (ax R f)
 u:∃f,aB L nU=some (ax U f)
 d:∃f,aB L nD=some (ax D f)
 tP:∀y,y≠nX->y≠nU->y≠nD->aB L y=aB L0 y
 need:need L<=need L0+eN R+eN U+eN D
section
variable {S:Nat->Prop} {w0 w w' W W':World} {pb db n gb gen N ob ib vb rb mb pc done sb g vk base:Nat} {o o' gY:au} {d d' ig:Dsk} {L0 L L' Ao:aH} {es l R U D:List aD} {vs vs':List cj} {x4 x5 x6 v:Value} {name nX nU nD:Name} {fl:Bool}
theorem NK(h:RL L0 L nX nU nD R U D)(hk:(L.map (·.1)).Nodup)(h1:nX≠nU)(h2:nX≠nD)(R':List aD)(fl:Bool):RL L0 (aS L nX (ax R' fl)) nX nU nD R' U D:=by
 obtain⟨f,hf⟩:=h.x;refine⟨⟨fl,by grind [ay]⟩,?_,?_,fun y h3 h4 h5=>by grind [ay,RL.tP],?_⟩
 ·grind [ay,RL.u]
 ·grind [ay,RL.d]
 ·have:=lN hk hf (ax R' fl);have:=h.need;grind [NJ]
theorem Xn(h:RL L0 L nX nU nD R U D)(hk:(L.map (·.1)).Nodup)(h1:nX≠nU)(h2:nU≠nD)(R':List aD)(fl:Bool):RL L0 (aS L nU (ax R' fl)) nX nU nD R R' D:=by
 obtain⟨f,hf⟩:=h.u;refine⟨?_,⟨fl,by grind [ay]⟩,?_,fun y h3 h4 h5=>by grind [ay,RL.tP],?_⟩
 ·grind [ay,RL.x]
 ·grind [ay,RL.d]
 ·have:=lN hk hf (ax R' fl);have:=h.need;grind [NJ]
theorem Xo(h:RL L0 L nX nU nD R U D)(hk:(L.map (·.1)).Nodup)(h1:nX≠nD)(h2:nU≠nD)(R':List aD)(fl:Bool):RL L0 (aS L nD (ax R' fl)) nX nU nD R U R':=by
 obtain⟨f,hf⟩:=h.d;refine⟨?_,?_,⟨fl,by grind [ay]⟩,fun y h3 h4 h5=>by grind [ay,RL.tP],?_⟩
 ·grind [ay,RL.x]
 ·grind [ay,RL.u]
 ·have:=lN hk hf (ax R' fl);have:=h.need;grind [NJ]
structure RNm(gen:Nat)(nX nU nD:Name):Prop where
 xu:nX≠nU
 xd:nX≠nD
 ud:nU≠nD
 x1:nX≠aK 101 gen
 x2:nX≠aK 114 gen
 u1:nU≠aK 101 gen
 u2:nU≠aK 114 gen
 d1:nD≠aK 101 gen
 d2:nD≠aK 114 gen
theorem fG.NL{w w':World}{v:Value}{vs:List cj}(h:fG w v vs)(hb:∀b,v.ownBlock=some b->w'.heap[b]? = w.heap[b]?):fG w' v vs:=by
 obtain⟨a,cap,rfl,h1,h2,h3⟩:=h;refine⟨a,cap,rfl,h1,h2,h3.imp id ?_⟩;rintro⟨b,off,rfl,hc⟩;refine⟨b,off,rfl,fun i hi=>?_⟩;obtain⟨k0,k1,k2⟩:=hc i hi;have e:=hb b rfl;grind [World.cell?_of_block]
structure eC(w0 W:World)(pb db n:Nat)(o:au)(d:Dsk)(L0 L:aH)(gb gen N ob ib vb:Nat)(es:List aD)(rb mb g vk done:Nat)(x5:Value)(S:List Nat)(nX nU nD:Name)(xb ub eb:Nat)(wv:Value)(was:List cj)(R U D:List aD)(vs:List cj)(base:Nat):Prop where
 kh:fN w0 W pb db n o d L gb gen N ob ib vb es
 JF:dx W rb pb gb gen done (.map (some mb)) x5 (.slice (some ⟨g,0,none⟩) N vk)
 of:q9 w0 W o rb gb ob ib vb
 ch:fK W mb S
 oK:o mb=none
 rl:RL L0 L nX nU nD R U D
 nm:RNm gen nX nU nD
 sx:aF W xb pb nX 20
 su:aF W ub pb nU 20
 sd:aF W eb pb nD 20
 ox:o xb=none
 ou:o ub=none
 od:o eb=none
 Mw:fG W wv was
 own:∀b,wv.ownBlock=some b->b<W.heap.size/\o b=none
 PO:was.length=N
 row:dM W base (.slice (some ⟨g,0,none⟩) N vk) vs
 len:vs.length=N
 og:o g=none
 g0:w0.heap.size<=g
 gne:g≠rb/\g≠mb/\g≠gb/\g≠ob/\g≠ib/\g≠vb/\g≠xb/\g≠ub/\g≠eb/\wv.ownBlock≠some g
section
variable {xb ub eb:Nat} {wv:Value} {was:List cj} {S:List Nat}
theorem eC.moved(h:eC w0 W pb db n o d L0 L gb gen N ob ib vb es rb mb g vk done x5 S nX nU nD xb ub eb wv was R U D vs base)(hm:Moved (fun _=>False) n pb db W o d W' o' d' L'){R' U' D':List aD}(hl:RL L0 L' nX nU nD R' U' D')(hq:need L0+eN R'+eN U'+eN D'<=131072) :
 eC w0 W' pb db n o' d' L0 L' gb gen N ob ib vb es rb mb g vk done x5 S nX nU nD xb ub eb wv was R' U' D' vs base where
 kh:=tI h.kh hm (by rw[hl.tP _ h.nm.x1.symm h.nm.u1.symm h.nm.d1.symm,h.rl.tP _ h.nm.x1.symm h.nm.u1.symm h.nm.d1.symm]) (by rw[hl.tP _ h.nm.x2.symm h.nm.u2.symm h.nm.d2.symm,h.rl.tP _ h.nm.x2.symm h.nm.u2.symm h.nm.d2.symm]) (by have:=hl.need;omega)
 JF:=h.JF.moved h.of.free hm
 of:=h.of.moved hm
 ch:=h.ch.kept (hm.block h.ch.lt h.oK (fun e=>e))
 oK:=hm.free h.ch.lt h.oK
 rl:=hl
 nm:=h.nm
 sx:=h.sx.moved hm h.ox (fun e=>e)
 su:=h.su.moved hm h.ou (fun e=>e)
 sd:=h.sd.moved hm h.od (fun e=>e)
 ox:=hm.free h.sx.lt h.ox
 ou:=hm.free h.su.lt h.ou
 od:=hm.free h.sd.lt h.od
 Mw:=h.Mw.NL (fun b hb=>hm.block (h.own b hb).1 (h.own b hb).2 (fun e=>e))
 own:=fun b hb=>⟨Nat.lt_of_lt_of_le (h.own b hb).1 hm.size,hm.free (h.own b hb).1 (h.own b hb).2⟩
 PO:=h.PO
 row:=hm.ownsRow h.row (fun b hb=>by cases hb;grind [og])
 len:=h.len
 og:=hm.free (aL h.row g rfl).1 h.og
 g0:=h.g0
 gne:=h.gne
theorem eC.below(h:eC w0 W pb db n o d L0 L gb gen N ob ib vb es rb mb g vk done x5 S nX nU nD xb ub eb wv was R U D vs base)(hb:Below W.heap.size W W')(hq:need L0+eN R+eN U+eN D<=131072) :
 eC w0 W' pb db n o d L0 L gb gen N ob ib vb es rb mb g vk done x5 S nX nU nD xb ub eb wv was R U D vs base:=h.moved (Moved.aV h.kh.held.aY hb) h.rl hq
theorem eC.set(h:eC w0 W pb db n o d L0 L gb gen N ob ib vb es rb mb g vk done x5 S nX nU nD xb ub eb wv was R U D vs base)(j:Nat)(u:Value)(hr:(cJ vs).set j u=cJ vs')(hl:vs'.length=vs.length) :
 eC w0 (W.setCell ⟨g,j,none⟩ u) pb db n o d L0 L gb gen N ob ib vb es rb mb g vk done x5 S nX nU nD xb ub eb wv was R U D vs' base:=by
 obtain⟨n1,n2,n3,n4,n5,n6,n7,n8,n9,n10⟩:=h.gne;have hm:Moved (·=g) n pb db W o d (W.setCell ⟨g,j,none⟩ u) o d L:=(Moved.refl _ h.kh.held.aY).setCell _ _ h.og (.inl rfl);have hk:∀b,b≠g->(W.setCell ⟨g,j,none⟩ u).heap[b]? = W.heap[b]? := fun b hb=>Below.heap_setCell _ _ _ _ hb;have hg:=h.kh.gr;have hsz:(W.setCell ⟨g,j,none⟩ u).heap.size=W.heap.size:=by simp
 exact {
  kh:=⟨h.kh.held.moved hm (fun _ e=>e▸h.g0),h.kh.need,⟨hg.raw.moved hm hg.Ys n3.symm,hg.out.moved hm hg.S0 n4.symm,hg.rV.moved hm hg.Wp n5.symm,hg.sH.moved hm hg.Ll n6.symm,hg.Ys,hg.S0,hg.Wp,hg.Ll⟩,h.kh.file,h.kh.Jh,h.kh.len,h.kh.top,h.kh.ends⟩
  JF:=(hk rb n1.symm).trans h.JF
  of:=⟨h.of.new,by rw[hsz];exact h.of.lt,h.of.free,h.of.graph⟩
  ch:=h.ch.kept (hk mb n2.symm)
  oK:=h.oK
  rl:=h.rl
  nm:=h.nm
  sx:=h.sx.kept (hk _ n7.symm)
  su:=h.su.kept (hk _ n8.symm)
  sd:=h.sd.kept (hk _ n9.symm)
  ox:=h.ox
  ou:=h.ou
  od:=h.od
  Mw:=h.Mw.NL (fun b hb=>hk b (fun e=>n10 (e▸hb)))
  own:=fun b hb=>⟨by rw[hsz];exact(h.own b hb).1,(h.own b hb).2⟩
  PO:=h.PO
  row:=by
   grind [World.ownsRow.stored,row,len]
  len:=hl.trans h.len
  og:=h.og
  g0:=h.g0
  gne:=h.gne }
end
end
end
section
open Go.RowKit Go.Maps
section
variable {w0 w w' W W':World} {pb db n gb gen N ob ib vb rb mb done g vk base xb ub eb:Nat} {o o' gY:au} {d d' ig:Dsk} {L0 L L' Ao:aH} {es R U D:List aD} {vs vs' was:List cj} {x5 wv:Value} {S:List Nat} {nX nU nD:Name}
def FW(w0 w:World)(pb db n:Nat)(o:au)(d:Dsk)(L0:aH)(gb gen N ob ib vb:Nat)(es:List aD)(rb mb g vk done:Nat)(x5:Value)(S:List Nat)(nX nU nD:Name)(xb ub eb:Nat)(wv:Value)(was:List cj)(R U D:List aD)(vs:List cj)(base:Nat)(e:Ending)(w':World):Prop:=
 ∃d' o' L',e=.returned (.int .i64 0)/\Moved (·=g) n pb db w o d w' o' d' L'/\eC w0 w' pb db n o' d' L0 L' gb gen N ob ib vb es rb mb g vk done x5 S nX nU nD xb ub eb wv was R U D vs base
theorem eC.put(HW:aP)(h:eC w0 W pb db n o d L0 L gb gen N ob ib vb es rb mb g vk done x5 S nX nU nD xb ub eb wv was R U D vs base){sb:Nat}{name:Name}{A l:List aD}{v:Value}{fl:Bool}(hst:aF W sb pb name 20)(N6:o sb=none)(hL:aB L name=some (ax A fl))(hv:kC W v l)(mG:∀b,v.ownBlock=some b->o b=none)(hA:A.length<=R.length+U.length+D.length)(hq:need L0+8*(l.length+R.length+U.length+D.length)<=131072) :
 Calls prog 151 #[ptrTo sb,v] W (jI (fun _=>False) n pb db W o d L name (A++l)):=by
 have:=h.rl.need;have:=gA R;have:=gA U;have:=gA D;exact Jz HW h.kh.held hst N6 hL hv mG af af
theorem PQ{l:List cj}{i:Nat}{y:cj}(h:l[i]? = some y):l.set i y=l:=by
 refine List.ext_getElem? fun j=>?_;grind
theorem BF{l:List cj}{i:Nat}{y:cj}{f:cj->cj}(h:l[i]? = some y):l.modify i f=l.set i (f y):=by
 refine List.ext_getElem? fun j=>?_;grind
def YV(w:World)(o:au)(v:Value)(l:List aD):Prop:=kC w v l/\∀b,v.ownBlock=some b->b<w.heap.size/\o b=none
theorem YV.moved{v:Value}{l:List aD}(h:YV w o v l)(hm:Moved (fun _=>False) n pb db w o d w' o' d' L'):YV w' o' v l:=
 ⟨h.1.moved hm (fun b hb=>(h.2 b hb).2),fun b hb=>⟨Nat.lt_of_lt_of_le (h.2 b hb).1 hm.size,hm.free (h.2 b hb).1 (h.2 b hb).2⟩⟩
theorem YV.of{v:Value}{l:List aD}(h:aJ w base v l)(ho:∀b,v.ownBlock=some b->o b=none):YV w o v l:=⟨nC h,fun b hb=>⟨(aL h b hb).1,ho b hb⟩⟩
section
variable {pc:Nat} {oo:au} {dd:Dsk} {ob':Obj}
theorem gS(h:eC w0 W pb db n o d L0 L gb gen N ob ib vb es rb mb g vk done x5 S nX nU nD xb ub eb wv was R U D vs base/\W.heap[pc]? = some ob'/\o pc=none/\Moved (·=g) n pb db w oo dd W o d L)(hm:Moved (fun _=>False) n pb db W o d W' o' d' L'){R' U' D':List aD}(hl:RL L0 L' nX nU nD R' U' D')(hq:need L0+eN R'+eN U'+eN D'<=131072) :
 eC w0 W' pb db n o' d' L0 L' gb gen N ob ib vb es rb mb g vk done x5 S nX nU nD xb ub eb wv was R' U' D' vs base/\W'.heap[pc]? = some ob'/\o' pc=none/\Moved (·=g) n pb db w oo dd W' o' d' L':=
 ⟨h.1.moved hm hl hq,hm.heap h.2.1 h.2.2.1 (fun e=>e),hm.free (Array.getElem?_eq_some_iff.1 h.2.1).1 h.2.2.1,h.2.2.2.trans hm (fun _ _ e=>e.elim)⟩
theorem zD(h:eC w0 W pb db n o d L0 L gb gen N ob ib vb es rb mb g vk done x5 S nX nU nD xb ub eb wv was R U D vs base/\W.heap[pc]? = some ob'/\o pc=none/\Moved (·=g) n pb db w oo dd W o d L)(hne:pc≠g)(j:Nat)(u:Value)(hr:(cJ vs).set j u=cJ vs')(hl:vs'.length=vs.length) :
 eC w0 (W.setCell ⟨g,j,none⟩ u) pb db n o d L0 L gb gen N ob ib vb es rb mb g vk done x5 S nX nU nD xb ub eb wv was R U D vs' base/\(W.setCell ⟨g,j,none⟩ u).heap[pc]? = some ob'/\o pc=none/\Moved (·=g) n pb db w oo dd (W.setCell ⟨g,j,none⟩ u) o d L:=
 ⟨h.1.set j u hr hl,by grind [Below.heap_setCell],h.2.2.1,h.2.2.2.setCell _ _ h.1.og (.inl rfl)⟩
theorem Ua(h:eC w0 W pb db n o d L0 L gb gen N ob ib vb es rb mb g vk done x5 S nX nU nD xb ub eb wv was R U D vs base/\W.heap[pc]? = some ob'/\o pc=none/\Moved (·=g) n pb db w oo dd W o d L)(hne:pc≠g)(j:Nat)(u:Value)(hr:(cJ vs).set j u=cJ vs')(hl:vs'.length=vs.length)(hq:need L0+eN R+eN U+eN D<=131072) :
 eC w0 (W.setCell ⟨g,j,none⟩ u).drew pb db n o d L0 L gb gen N ob ib vb es rb mb g vk done x5 S nX nU nD xb ub eb wv was R U D vs' base/\(W.setCell ⟨g,j,none⟩ u).drew.heap[pc]? = some ob'/\o pc=none/\Moved (·=g) n pb db w oo dd (W.setCell ⟨g,j,none⟩ u).drew o d L:=
 have h1:=zD h hne j u hr hl;gS h1 (Moved.aV h1.1.kh.held.aY ak.drew) h1.1.rl hq
end
end
end
section
open Go.RowKit Go.Maps
def vN(vs:List cj):Nat:=(b6 vs true).need
structure nK(L L':aH)(gen:Nat)(R U D:List aD)(vs:List cj):Prop where
 e:aB L' (aK 101 (gen+1))=some (ax (aC false R) true)
 r:aB L' (aK 114 (gen+1))=some (ax (aC true R) true)
 v:aB L' (aK 118 (gen+1))=some (b6 vs true)
 u:aB L' (aK 117 (gen+1))=some (ax U true)
 d:aB L' (aK 100 (gen+1))=some (ax D true)
 tP:∀y,y≠aK 101 (gen+1)->y≠aK 114 (gen+1)->y≠aK 118 (gen+1)->y≠aK 117 (gen+1)->y≠aK 100 (gen+1)->aB L' y=aB L y
 need:need L'<=need L+eN (aC false R)+eN (aC true R)+vN vs+eN U+eN D
theorem FX(L:aH)(k:Name):need (bX L k)<=need L:=by
 have h1:=cL L k (.inl (([]:List Pg),true));grind [aS,j6]
theorem Ub{L:aH}{k:Name}{f:iB}(hk:(L.map (·.1)).Nodup)(h:aB L k=some f):need (bX L k)+f.need=need L:=by
 have:=lN hk h (.inl (([]:List Pg),true));grind [aS,j6]
theorem rQ{L:aH}{gen:Nat}{R:List aD}{vs:List cj}{y:Name}(h1:y≠aK 101 gen)(h2:y≠aK 114 gen)(h3:y≠aK 118 gen):aB (fT L gen R vs) y=aB L y:=by
 grind [fT,ay]
theorem Mx{L L3:aH}{gen:Nat}{R U D:List aD}{vs:List cj}(hk:(L3.map (·.1)).Nodup)(h:RL L L3 (aK 120 (gen+1)) (aK 117 (gen+1)) (aK 100 (gen+1)) R U D)(hx:aB L (aK 120 (gen+1))=none) :
 nK L (bX (aS (aS (fT L3 (gen+1) R vs) (aK 117 (gen+1)) (ax U true)) (aK 100 (gen+1)) (ax D true)) (aK 120 (gen+1))) gen R U D vs:=by
 have ne:∀{c c':UInt8},c≠c'->aK c (gen+1)≠aK c' (gen+1):=fun h=>iE h _ _;obtain⟨f1,f2,f3⟩:=yH L3 (gen+1) R vs;have hmo:∀y,y≠aK 101 (gen+1)->y≠aK 114 (gen+1)->y≠aK 118 (gen+1)->aB (fT L3 (gen+1) R vs) y=aB L3 y:=fun y h1 h2 h3=>rQ h1 h2 h3;have tL:((fT L3 (gen+1) R vs).map (·.1)).Nodup:=by grind [fT,ct]
 obtain⟨fx,Xp⟩:=h.x;obtain⟨fu,XS⟩:=h.u;obtain⟨fd,YN⟩:=h.d;refine⟨?_,?_,?_,?_,?_,fun y h1 h2 h3 h4 h5=>?_,?_⟩
 ·grind [cD,ay]
 ·grind [cD,ay]
 ·grind [cD,ay]
 ·grind [cD,ay]
 ·grind [cD,ay]
 ·grind [cD,ay,RL.tP]
 ·have g1:=Ub (L:=aS (aS (fT L3 (gen+1) R vs) (aK 117 (gen+1)) (ax U true)) (aK 100 (gen+1)) (ax D true)) (k:=aK 120 (gen+1)) (f:=ax R fx) (ct (ct tL)) (by grind [ay]);have g2:=lN (L:=aS (fT L3 (gen+1) R vs) (aK 117 (gen+1)) (ax U true)) (k:=aK 100 (gen+1)) (f:=ax D fd) (ct tL) (by grind [ay]) (ax D true);have g3:=lN (L:=fT L3 (gen+1) R vs) (k:=aK 117 (gen+1)) (f:=ax U fu) tL (by grind) (ax U true);have g4:=cL (aS (aS L3 (aK 101 (gen+1)) (ax (aC false R) true)) (aK 114 (gen+1)) (ax (aC true R) true)) (aK 118 (gen+1)) (b6 vs true);have g5:=cL (aS L3 (aK 101 (gen+1)) (ax (aC false R) true)) (aK 114 (gen+1)) (ax (aC true R) true);have g6:=cL L3 (aK 101 (gen+1)) (ax (aC false R) true);have g7:=h.need;grind [vN,NJ,fT]
end
section
open Go Go.RowKit
section
variable {P:Program} {C:World->Prop} {val:Nat->Value} {Dn:Nat->World->Prop} {l:List Oper} {a0:Act}
structure rq(C:World->Prop)(val:Nat->Value)(Dn:Nat->World->Prop)(l:List Oper)(a0:Act)(listed:Array Bool)(a:Act)(w:World):Prop where
 size:listed.size=l.length
 cls:C w
 Ni:a.tmps.size=a0.tmps.size
 Wi:a.defers=a0.defers
 out:∀k,(∀o∈l,o.dst≠some k)->a.tmps[k]? = a0.tmps[k]?
 slot:∀(i:Nat)(o:Oper)(k:Nat),l[i]? = some o->o.dst=some k->listed.getD i true=true->a.tmps[k]? = some (val i)
 dn:∀i,i<l.length->listed.getD i true=true->Dn i w
def rR(val:Nat->Value)(l:List Oper)(a0:Act)(o:Oper)(a:Act):Prop:=
 (∀k,(∀o∈l,o.dst≠some k)->a.tmps[k]? = a0.tmps[k]?)/\∀e∈o.after,Region.binds .any e=true->∀(oj:Oper)(k:Nat),l[e.on]? = some oj->oj.dst=some k->a.tmps[k]? = some (val e.on)
theorem rR.get{o:Oper}{a:Act}(h:rR val l a0 o a)(j:Nat){oj:Oper}{k:Nat}(hj:(o.after.toList.any fun e=>decide (e.on=j) && Region.binds .any e)=true)(ho:l[j]? = some oj)(hk:oj.dst=some k):a.tmps[k]? = some (val j):=by
 rw[List.any_eq_true]at hj;obtain⟨e,he,h1⟩:=hj;rw[Bool.and_eq_true,decide_eq_true_eq]at h1;obtain⟨rfl,h2⟩:=h1;exact h.2 e (by grind) h2 oj k ho hk
theorem rR.old{o:Oper}{a:Act}(h:rR val l a0 o a)(k:Nat){v:Value}(hk:(l.all fun o=>decide (o.dst≠some k))=true)(h0:a0.tmps[k]? = some v):a.tmps[k]? = some v:=by
 refine(h.1 k fun o ho=>?_).trans h0;grind
def FY(P:Program)(C:World->Prop)(val:Nat->Value)(Dn:Nat->World->Prop)(i:Nat)(o:Oper)(a:Act)(w:World):Prop:=
 ∃w',((execOp a.eval o).run P w=.ok (.value (val i)) w'\/o.dst=none/\(execOp a.eval o).run P w=.ok .skip w')/\C w'/\Dn i w'/\∀j,Dn j w->Dn j w'
theorem PR{Q:Exit->Act->World->Prop}(hB:IA l a0.tmps.size=true)(hstep:∀(i:Nat)(o:Oper),l[i]? = some o->∀a w,C w->rR val l a0 o a->FY P C val Dn i o a w)(hend:∀listed a w,rq C val Dn l a0 listed a w->Region.ready .any l.toArray listed=[]->Q .normal a w)(f:Nat) :
 ∀(listed:Array Bool)(a:Act)(w:World),rq C val Dn l a0 listed a w->listed.toList.count false<=f->wpAny P .any l.toArray Q f listed a w:=by
 simp only[IA,Bool.and_eq_true,List.all_eq_true]at hB;obtain⟨⟨hg,hb⟩,hd⟩:=hB;induction f with
 |zero=>
   intro listed a w inv hf;have hr:Region.ready .any l.toArray listed=[]:=by
    unfold Region.ready;rw[List.filter_eq_nil_iff];intro i _;have:listed.getD i true=true:=by
     rw[Array.getD_eq_getD_getElem?];grind [List.count_pos_iff]
    grind
   exact⟨hr,hend _ _ _ inv hr⟩
 |succ f ih=>
   intro listed a w inv hf;refine⟨hend _ _ _ inv,fun i hi=>?_⟩;obtain⟨oG,o,ho,hall⟩:=mem_ready.1 hi;have jM:l[i]? = some o:=by grind
   have hol:o∈l:=List.mem_of_getElem? jM;have mU:i<l.length:=(List.getElem?_eq_some_iff.1 jM).1;have hw:Region.wanted o (yielded l.toArray a.tmps)=true:=by
    grind [Region.wanted]
   obtain⟨w',hrun,hC,hD,hK⟩:=hstep i o jM a w inv.cls ⟨inv.out,fun e he Lh oj k km hk=>inv.slot _ oj k km hk (by
    grind)⟩
   have Uc:∀j,i≠j->(listed.setIfInBounds i true).getD j true=true->listed.getD j true=true:=fun j eY h=>by
    simp_all
   unfold wpOp;rw[ho];simp only[hw,if_true];refine .inl ?_;have key:wpAny P .any l.toArray Q f (listed.setIfInBounds i true) (a.put o.dst (val i)) w':=by
    refine ih _ _ _ ⟨by grind [rq.size],hC,by rw[qV];exact inv.Ni,by rw[sF];exact inv.Wi,fun k hk=>(pR _ _ _ _ (hk o hol)).trans (inv.out k hk),fun j oj k km hk hlj=>?_,fun j hj hlj=>?_⟩ ?_
    ·by_cases eY:i=j
     ·grind [Act.put,rq.Ni]
     ·refine(pR _ _ _ _ (fun e=>?_)).trans (inv.slot j oj k km hk (Uc j eY hlj));have h4:=hd i (List.mem_range.2 mU) j (List.mem_range.2 (List.getElem?_eq_some_iff.1 km).1);grind
    ·grind [rq.dn]
    ·have sY:listed[i]? = some false:=by
      rw[Array.getD_eq_getD_getElem?]at oG;grind
     grind
   unfold Oper.wp;rcases hrun with hrun |⟨WX,hrun⟩
   ·rw[hrun];exact key
   ·rw[hrun];rw[WX]at key;show wpAny P .any l.toArray Q f _ (a.put o.dst undef) w';rw[WX];exact key
def af1(l:List Oper):Bool:=(List.range l.length).all fun i=>match l[i]? with | some o=>o.after.toList.all (fun e=>!Region.binds .any e || decide (e.on<i)) | none=>true
def BG(val:Nat->Value):Act->Nat->List Oper->Act
 |a,_,[]=>a
 |a,k,o::l=>BG val (a.put o.dst (val k)) (k+1) l
theorem PS(l:List Oper):∀(a:Act)(k:Nat),BG val a k l=jC a l ((List.range' k l.length).map val):=by
 induction l with
 |nil=>intro a k;rfl
 |cons o l ih=>grind [BG,List.range'_succ,jC]
theorem C8{id:Nat}{Q:Exit->Act->World->Prop}{w:World}(C:World->Prop)(val:Nat->Value)(Dn:Nat->World->Prop)(hm:P.follows .mixedOrders=true)(hB:IA l a0.tmps.size=true)(hA:af1 l=true)(hC:C w.drew)(hstep:∀(i:Nat)(o:Oper),l[i]? = some o->∀a w,C w->rR val l a0 o a->FY P C val Dn i o a w)(hend:∀w',C w'->(∀i,i<l.length->Dn i w')->Q .normal (BG val a0 0 l) w'):(Code.region id l.toArray true).wp P Q a0 w:=by
 refine wp_region_any hm ?_;refine PR hB hstep (fun listed a w inv hr=>?_) _ _ _ _ ⟨ai,hC,rfl,rfl,fun _ _=>rfl,fun i o k ho _ hl=>?_,fun i hi hl=>?_⟩ (Nat.le_trans List.count_le_length ai)
 ·have hall:∀i,i<l.length->listed.getD i true=true:=by
   intro i;induction i using Nat.strongRecOn with
   |_ i ih=>
     intro hi;by_cases hd:listed.getD i true=true
     ·exact hd
     ·exfalso
      have hm:i∈Region.ready .any l.toArray listed:=by
       refine mem_ready.2 ⟨by grind,l[i],ai,fun e he Lh=>?_⟩;unfold af1 at hA;rw[List.all_eq_true]at hA;have h1:=hA i (List.mem_range.2 hi);grind
      grind
  have ha:a=jC a0 l ((List.range l.length).map val):=by
   simp only[IA,Bool.and_eq_true,List.all_eq_true]at hB;obtain⟨⟨_,h2⟩,h3⟩:=hB;obtain⟨k1,k2,k3⟩:=nx l a0 ((List.range l.length).map val);refine qU (by rw[k1,inv.Ni]) (by rw[k2,inv.Wi]) (fun k hk=>?_);rw[k1]at hk;by_cases he:∃o∈l,o.dst=some k
   ·obtain⟨o,ho,fe⟩:=he;obtain⟨i,hi⟩:=List.mem_iff_getElem?.1 ho;have mU:=(List.getElem?_eq_some_iff.1 hi).1;rw[inv.slot i o k hi fe (hall i mU)];refine(xv l a0 _ i o k _ hi fe (by grind) hk (fun j oj hj hjk=>?_)).symm;have h4:=h3 j (List.mem_range.2 (List.getElem?_eq_some_iff.1 hj).1) i (List.mem_range.2 mU);grind
   grind [rq.out]
  grind [List.range_eq_range',PS,rq.cls,rq.dn]
 ·have mU:i<l.length:=(List.getElem?_eq_some_iff.1 ho).1;simp_all
 simp_all
theorem cn{i:Nat}{o:Oper}{a:Act}{w:World}(hC:C w)(hD:Dn i w)(h:(execOp a.eval o).run P w=.ok (.value (val i)) w):FY P C val Dn i o a w:=⟨w,.inl h,hC,hD,fun _ h=>h⟩
end
end
section
open Go.RowKit Go.Maps
section
variable {w0 w w' W W':World} {pb db n gb gen N ob ib vb rb mb done g vk base xb ub eb:Nat} {o o' gY:au} {d d' ig:Dsk} {L0 L L' Ao:aH} {es R U D:List aD} {vs vs' was:List cj} {x5 wv:Value} {S:List Nat} {nX nU nD:Name}
theorem FZ(HW:aP)(h:eC w0 w pb db n o d L0 L gb gen N ob ib vb es rb mb g vk done x5 S nX nU nD xb ub eb wv was R U D vs base)(i v:Nat)(hv:v<N)(hi:done+i<4294967296)(Ud:gen<1048576)(_hbase:base<=w.heap.size)(xG:(fJ es v).length*(aX es v).length<=100000)(hq:need L0+8*(R.length+U.length+D.length+(aX es v).length+(fJ es v).length+(iu es S v).length)<=131072) :
 Calls prog 103 #[ptrTo rb,.int .i64 (i:Int),.int .u32 (v:Int),wv,ptrTo xb,ptrTo ub,ptrTo eb] w
  (FW w0 w pb db n o d L0 gb gen N ob ib vb es rb mb g vk done x5 S nX nU nD xb ub eb wv was (R++iu es S v) (U++aX es v) (D++fJ es v) (gw es was done gen vs i v) base):=by
 obtain⟨wa,wk,rfl,-⟩:=h.Mw;have hN:N<=1000:=h.kh.top;obtain⟨V,hV⟩:∃V,V=UInt32.ofNat v:=⟨_,rfl⟩;have hVv:V.toNat=v:=by grind [UInt32.toNat_ofNat']
 have HV:=ae (show V=UInt32.ofNat v/\V.toNat=v from⟨hV,hVv⟩);obtain⟨RK,hRK⟩:∃x:UInt32,x=UInt32.ofNat (done+i):=⟨_,rfl⟩;obtain⟨LV,hLV⟩:∃x:UInt32,x=UInt32.ofNat (gen+1):=⟨_,rfl⟩;have hRn:RK.toNat=done+i:=by simp_all
 have hLn:LV.toNat=gen+1:=by grind [UInt32.toNat_ofNat']
 have HRL:=ae (show RK=UInt32.ofNat (done+i)/\LV=UInt32.ofNat (gen+1) from⟨hRK,hLV⟩);have HWR:Hid (IntKind.u32.wrap (i:Int)=(i:Int)/\IntKind.u32.wrap ((done:Int)+(i:Int))=(RK.toNat:Int)/\IntKind.i64.wrap ((gen:Int)+1)=((gen+1:Nat):Int)/\((gen:Int)+1)%4294967296=(LV.toNat:Int)/\IntKind.u32.wrap ((gen:Int)+1)=(LV.toNat:Int)):=ae ⟨eo _ af af,by grind [eo],by grind [aw],af,by grind [IntKind.wrap_u32]⟩;have HQ:=ae hq;have HDG:=ae xG;have HRM:Hid (need L0+eN R+eN U+eN D<=131072):=ae (by grind [gA]);have HVN:=ae hv;obtain⟨PST,mE⟩:∃P,P=FW w0 w pb db n o d L0 gb gen N ob ib vb es rb mb g vk done x5 S nX nU nD xb ub eb (.slice wa was.length wk) was (R++iu es S v) (U++aX es v) (D++fJ es v) (gw es was done gen vs i v) base:=⟨_,rfl⟩;have xP:=ae mE;rw[<- mE];have H1:Hid (eC w0 (w.alloc (.cells #[ptrTo rb] 130)) pb db n o d L0 L gb gen N ob ib vb es rb mb g vk done x5 S nX nU nD xb ub eb (.slice wa was.length wk) was R U D vs base/\(w.alloc (.cells #[ptrTo rb] 130)).heap[w.heap.size]? = some (.cells #[ptrTo rb] 130)/\o w.heap.size=none/\w.heap.size≠g):=ae ⟨h.below aj (by assumption),heap_alloc_new _ _,h.kh.held.aY.fresh (Nat.le_refl _),fun e=>by have:=(aL h.row g rfl).1;omega⟩;have e9:Hid (Moved (·=g) n pb db w o d (w.alloc (.cells #[ptrTo rb] 130)) o d L):=ae ((Moved.refl _ h.kh.held.aY).alloc _);have c1:=h.JF.cells.2.1;have JR:=h.JF.lt;clear h hq xG hN _hbase hv mE hV hVv hRK hLV hRn hLn hi Ud;unfold ptrTo at *;go_enter func103,ntmps103;go_wp2_with fail;clear c1 JR;have jg:Hid (eC w0 (w.alloc (.cells #[.pointer (some ⟨rb,0,none⟩)] 130)) pb db n o d L0 L gb gen N ob ib vb es rb mb g vk done x5 S nX nU nD xb ub eb (.slice wa was.length wk) was R U D vs base/\(w.alloc (.cells #[.pointer (some ⟨rb,0,none⟩)] 130)).heap[w.heap.size]? = some (.cells #[.pointer (some ⟨rb,0,none⟩)] 130)/\o w.heap.size=none/\Moved (·=g) n pb db w o d (w.alloc (.cells #[.pointer (some ⟨rb,0,none⟩)] 130)) o d L):=ae ⟨H1.out.1,H1.out.2.1,H1.out.2.2.1,e9.out⟩;have HPG:Hid (w.heap.size≠g):=ae H1.out.2.2.2;clear H1 e9;generalize w.alloc (.cells #[.pointer (some ⟨rb,0,none⟩)] 130)=W1 at *;obtain⟨pc,hpc⟩:∃x,x=w.heap.size:=⟨_,rfl⟩;rw[<- hpc]at jg HPG ⊢;clear hpc;have hout:=ae (jg.out.1.kh.out HW HVN.out);unfold jD ptrTo at hout;refine hout.out.mono ?_;rintro e w2⟨ov,d2,o2,rfl,cT,kD,hf2⟩;obtain⟨oa,oc,rfl⟩:=aA kD;have eP:=ae (gS jg.out cT jg.out.1.rl HRM.out);have af3:=ae (YV.of kD hf2);have oC:=ae (eP.out.1.kh.rV HW HVN.out);have c0:w2.cell? ⟨pc,0,none⟩=some (.pointer (some ⟨rb,0,none⟩)):=by rw[ar eP.out.2.1];rfl
 have c1:w2.cell? ⟨rb,1,none⟩=some (.pointer (some ⟨gb,0,none⟩)):=eP.out.1.JF.cells.2.1;unfold jD ptrTo at oC;clear cT kD hf2 hout jg;go_wp2_with fail;refine oC.out.mono ?_;rintro e w3⟨iv,d3,o3,rfl,eE,hi3,hf3⟩;obtain⟨ia,ic,rfl⟩:=aA hi3;have fF:=ae (gS eP.out eE eP.out.1.rl HRM.out);have af4:=ae (af3.out.moved eE);have af5:=ae (YV.of hi3 hf3);clear eE hi3 hf3 oC eP af3 c0 c1;have F:Hid (∀w',Below w3.heap.size w3 w'->w'.cell? ⟨pc,0,none⟩=some (.pointer (some ⟨rb,0,none⟩))/\w'.cell? ⟨rb,1,none⟩=some (.pointer (some ⟨gb,0,none⟩))):=ae (fun w' hw'=>by
  have hs:=gS fF.out (Moved.aV fF.out.1.kh.held.aY hw') fF.out.1.rl HRM.out;exact⟨by rw[ar hs.2.1];rfl,hs.1.JF.cells.2.1⟩)
 go_wp2_with fail;refine cE (Below w3.heap.size w3) 12 rfl ah ah (ak.drew) ?_;simp only[List.take_succ_cons,List.take_zero];refine qz ?_ (fun w' hw'=>by obtain⟨f0,f1⟩:=F.out w' hw';go_simp<;>rfl);iterate 2 (refine qz ?_)
 refine qz ?_ (fun w' hw'=>by obtain⟨f0,f1⟩:=F.out w' hw';go_simp<;>rfl);refine qz ?_;refine qz ?_ (fun w' hw'=>by obtain⟨f0,f1⟩:=F.out w' hw';go_simp<;>rfl);iterate 2 (refine qz ?_)
 refine qz ?_ (fun w' hw'=>by obtain⟨f0,f1⟩:=F.out w' hw';go_simp<;>rfl);iterate 3 (refine qz ?_)
 refine wpQuiet_nil ?_;intro w4 hw4;refine⟨_,_,rfl,(by go_simp<;>exact⟨rfl,rfl⟩),?_⟩;have gD:=ae (gS fF.out (Moved.aV fF.out.1.kh.held.aY hw4) fF.out.1.rl HRM.out);have Wt:=ae (af4.out.moved (Moved.aV (n:=n) fF.out.1.kh.held.aY hw4));have af6:=ae (af5.out.moved (Moved.aV (n:=n) fF.out.1.kh.held.aY hw4));have tL:=ae (sN HW gD.out.1.kh (T8 gD.out.2.1 gD.out.1.JF gD.out.1.ch gD.out.2.2.1 gD.out.1.of.free gD.out.1.oK) V (by grind [Hid.out]) (by grind [Hid.out]));have hce:nA (aX es) (fun x=>decide (x∈S)) (fJ es v) V=iu es S v:=by grind [iu,Hid.out]
 rw[HV.out.2,hce]at tL;unfold vh ve FH ptrTo at tL;clear hw4 F fF af4 af5 hce;refine tL.out.mono ?_;rintro e w5⟨cv,d5,o5,rfl,kP,qj,Qt⟩;have b7:=ae (gS gD.out kP gD.out.1.rl HRM.out);have abA:=ae (Wt.out.moved kP);have af7:=ae (af6.out.moved kP);have af8:Hid (YV w5 o5 cv (iu es S v)):=ae ⟨qj,fun b hb=>⟨(Qt b hb).2.2,(Qt b hb).1⟩⟩;obtain⟨ca,cc,rfl,-⟩:=qj;clear kP Qt tL gD Wt af6;refine⟨_,rfl,?_⟩;go_simp;iterate 5 (refine qz ?_)
 refine wpQuiet_nil ?_;obtain⟨fu,XS⟩:=b7.out.1.rl.u;have hpu:=ae (b7.out.1.put HW b7.out.1.su b7.out.1.ou XS abA.out.1 (fun b hb=>(abA.out.2 b hb).2) af (by grind [Hid.out]));unfold jI ptrTo at hpu;clear XS;go_wp2_with fail;refine hpu.out.mono ?_;rintro e w6⟨f6,d6,o6,rfl,oA⟩;have gH:=ae (gS b7.out oA (Xn b7.out.1.rl b7.out.1.kh.held.aY.keys b7.out.1.nm.xu b7.out.1.nm.ud (U++aX es v) f6) (by grind [Hid.out,gA]));have abB:=ae (af7.out.moved oA);have af9:=ae (af8.out.moved oA);clear oA hpu b7 abA af7 af8;obtain⟨fd,YN⟩:=gH.out.1.rl.d;have hpd:=ae (gH.out.1.put HW gH.out.1.sd gH.out.1.od YN abB.out.1 (fun b hb=>(abB.out.2 b hb).2) af (by grind [Hid.out]));unfold jI ptrTo at hpd;clear YN;go_wp2_with fail;refine hpd.out.mono ?_;rintro e w7⟨f7,d7,o7,rfl,rW⟩;have j5:=ae (gS gH.out rW (Xo gH.out.1.rl gH.out.1.kh.held.aY.keys gH.out.1.nm.xd gH.out.1.nm.ud (D++fJ es v) f7) (by grind [Hid.out,gA]));have abC:=ae (af9.out.moved rW);clear rW hpd gH abB af9;obtain⟨fx,Xp⟩:=j5.out.1.rl.x;have hpx:=ae (j5.out.1.put HW j5.out.1.sx j5.out.1.ox Xp abC.out.1 (fun b hb=>(abC.out.2 b hb).2) af (by grind [Hid.out]));unfold jI ptrTo at hpx;clear Xp;go_wp2_with fail;refine hpx.out.mono ?_;rintro e w8⟨f8,d8,o8,rfl,Nc⟩;have Xq:Hid (need L0+eN (R++iu es S v)+eN (U++aX es v)+eN (D++fJ es v)<=131072):=ae (by grind [Hid.out,gA]);have jK:=ae (gS j5.out Nc (NK j5.out.1.rl j5.out.1.kh.held.aY.keys j5.out.1.nm.xu j5.out.1.nm.xd (R++iu es S v) f8) Xq.out);clear Nc hpx j5 abC;generalize aS (aS (aS L nU (ax (U++aX es v) f6)) nD (ax (D++fJ es v) f7)) nX (ax (R++iu es S v) f8)=L8 at *;generalize R++iu es S v=R8 at *;generalize U++aX es v=U8 at *;generalize D++fJ es v=D8 at *;obtain⟨y,hy⟩:∃y,vs[v]? = some y:=⟨_,List.getElem?_eq_getElem (by have:=HVN.out;have:=jK.out.1.len;omega)⟩;have HY:=ae hy;obtain⟨pp,mH⟩:∃p,p=v*3:=⟨_,rfl⟩;have HPP:=ae mH;obtain⟨n1,-⟩:=jK.out.1.gne;have n2:=HPG.out;have hvn:=HVN.out;clear hy mH;obtain⟨C,hC⟩:∃C:World->Prop,C=fun W=>∃r l,(eC w0 W pb db n o8 d8 L0 L8 gb gen N ob ib vb es rb mb g vk done x5 S nX nU nD xb ub eb (.slice wa was.length wk) was R8 U8 D8 (vs.set v ⟨r,l,y.g⟩) base/\W.heap[pc]? = some (.cells #[.pointer (some ⟨rb,0,none⟩)] 130)/\o8 pc=none/\Moved (·=g) n pb db w o d W o8 d8 L8):=⟨_,rfl⟩;have HC:=ae hC;have F:Hid (∀W,C W->W.cell? ⟨pc,0,none⟩=some (.pointer (some ⟨rb,0,none⟩))/\W.cell? ⟨rb,2,none⟩=some (.int .i64 (gen:Int))/\W.cell? ⟨rb,3,none⟩=some (.int .u32 (done:Int))/\W.cell? ⟨rb,6,none⟩=some (.slice (some ⟨g,0,none⟩) N vk)):=ae (fun W hw=>by
  rw[HC.out]at hw;obtain⟨r,l,hs⟩:=hw;obtain⟨-,-,h2,h3,-,-,h6,-⟩:=hs.1.JF.cells;exact⟨by rw[ar hs.2.1];rfl,h2,h3,h6⟩)
 have HLV:Hid (v<vs.length):=ae (aN HY.out);have G:Hid (∀W,C W->(∃r l,W.cell? ⟨g,pp,none⟩=some (.int .u32 ((r:UInt32).toNat:Int))/\W.cell? ⟨g,pp+1,none⟩=some (.int .u32 ((l:UInt32).toNat:Int))/\eC w0 W pb db n o8 d8 L0 L8 gb gen N ob ib vb es rb mb g vk done x5 S nX nU nD xb ub eb (.slice wa was.length wk) was R8 U8 D8 (vs.set v ⟨r,l,y.g⟩) base/\W.heap[pc]? = some (.cells #[.pointer (some ⟨rb,0,none⟩)] 130)/\o8 pc=none/\Moved (·=g) n pb db w o d W o8 d8 L8)/\W.frozen? ⟨g,pp,none⟩=false/\W.frozen? ⟨g,pp+1,none⟩=false):=ae (fun W hw=>by
  rw[HC.out]at hw;obtain⟨r,l,hs⟩:=hw;have hrow:=hs.1.row;rw[<- hs.1.len]at hrow;obtain⟨q0,q1,-⟩:=jH hrow (List.getElem?_set_self HLV.out);grind [Hid.out,World.ownsRow.frozenAt])
 have ST:Hid (∀W,C W->C (W.setCell ⟨g,pp,none⟩ (.int .u32 (RK.toNat:Int)))/\C (W.setCell ⟨g,pp+1,none⟩ (.int .u32 (LV.toNat:Int)))):=ae (fun W hw=>by
  rw[HC.out]at hw ⊢;obtain⟨r,l,hs⟩:=hw;have hg:=List.getElem?_set_self (a:=⟨r,l,y.g⟩) HLV.out;have h1:=zD hs HPG.out pp (.int .u32 (RK.toNat:Int)) (by rw[HPP.out];exact JD RK hg) ai;have h2:=zD hs HPG.out (pp+1) (.int .u32 (LV.toNat:Int)) (by rw[HPP.out];exact yO LV hg) ai;grind [List.set_set])
 have VC:Hid (C w8.drew):=ae (by
  have h1:=gS jK.out (Moved.aV jK.out.1.kh.held.aY ak.drew) jK.out.1.rl Xq.out;rw[HC.out];refine⟨y.r,y.l,?_⟩;rw[show vs.set v ⟨y.r,y.l,y.g⟩=vs from PQ HY.out];exact h1)
 have Xr:Hid (∀W,C W->W.cell? ⟨g,pp,none⟩=some (.int .u32 (RK.toNat:Int))->W.cell? ⟨g,pp+1,none⟩=some (.int .u32 (LV.toNat:Int))->(eC w0 W pb db n o8 d8 L0 L8 gb gen N ob ib vb es rb mb g vk done x5 S nX nU nD xb ub eb (.slice wa was.length wk) was R8 U8 D8 (vs.modify v fun x=>⟨RK,LV,x.g⟩) base/\W.heap[pc]? = some (.cells #[.pointer (some ⟨rb,0,none⟩)] 130)/\o8 pc=none/\Moved (·=g) n pb db w o d W o8 d8 L8)):=ae (fun W hw h1 h2=>by
  obtain⟨⟨r,l,q0,q1,hs⟩,-⟩:=G.out W hw;rw[h1]at q0;rw[h2]at q1;have e1:r=RK:=UInt32.toNat_inj.1 (by grind);have e2:l=LV:=UInt32.toNat_inj.1 (by grind);grind [BF,Hid.out])
 obtain⟨z1,z2,z3,z4,z5⟩:=HWR.out;clear hC jK HY;go_wp2_with fail;refine C8 C (fun q=>match q with
  |0=>.pointer (some ⟨rb,0,none⟩) | 1=>.pointer (some ⟨rb,0,none⟩) | 2=>.pointer (some ⟨rb,6,none⟩) | 3=>.slice (some ⟨g,0,none⟩) N vk | 4=>.int .u32 (v:Int)
  |5=>.pointer (some ⟨rb,0,none⟩) | 6=>.pointer (some ⟨rb,0,none⟩) | 7=>.pointer (some ⟨rb,6,none⟩) | 8=>.slice (some ⟨g,0,none⟩) N vk | 9=>.int .u32 (v:Int)
  |10=>.pointer (some ⟨rb,0,none⟩) | 11=>.pointer (some ⟨rb,0,none⟩) | 12=>.pointer (some ⟨rb,3,none⟩) | 13=>.int .u32 (done:Int) | 14=>.int .i64 (i:Int) | 15=>.int .u32 (i:Int) | 16=>.int .u32 (RK.toNat:Int)
  |17=>.pointer (some ⟨rb,0,none⟩) | 18=>.pointer (some ⟨rb,0,none⟩) | 19=>.pointer (some ⟨rb,2,none⟩) | 20=>.int .i64 (gen:Int) | 21=>.int .i64 ((gen:Int)+1) | 22=>.int .u32 (LV.toNat:Int)
  |23=>.pointer (some ⟨g,pp,none⟩) | 24=>.pointer (some ⟨g,pp,none⟩) | 26=>.pointer (some ⟨g,pp,none⟩) | 27=>.pointer (some ⟨g,pp+1,none⟩) | _=>undef)
  (fun q W=>match q with | 25=>W.cell? ⟨g,pp,none⟩=some (.int .u32 (RK.toNat:Int)) | 28=>W.cell? ⟨g,pp+1,none⟩=some (.int .u32 (LV.toNat:Int)) | _=>True) (by rfl) (by rfl) (by rfl) VC.out ?_ ?_
 ·intro j oo ho a W hW hd;obtain⟨f0,f2,f3,f6⟩:=F.out W hW;obtain⟨⟨r,l,g0,g1,-⟩,Y6,fr1⟩:=G.out W hW;match j,ho with
  |0,ho=>cases ho;have h7:=hd.old 7 rfl rfl;exact cn hW trivial (by go_simp)
  |1,ho=>cases ho;have d0:=hd.get 0 rfl rfl rfl;exact cn hW trivial (by go_simp)
  |2,ho=>cases ho;have d1:=hd.get 1 rfl rfl rfl;exact cn hW trivial (by go_simp)
  |3,ho=>cases ho;have d2:=hd.get 2 rfl rfl rfl;exact cn hW trivial (by go_simp)
  |4,ho=>cases ho;have h2:=hd.old 2 rfl rfl;exact cn hW trivial (by go_simp)
  |5,ho=>cases ho;have h7:=hd.old 7 rfl rfl;exact cn hW trivial (by go_simp)
  |6,ho=>cases ho;have d5:=hd.get 5 rfl rfl rfl;exact cn hW trivial (by go_simp)
  |7,ho=>cases ho;have d6:=hd.get 6 rfl rfl rfl;exact cn hW trivial (by go_simp)
  |8,ho=>cases ho;have d7:=hd.get 7 rfl rfl rfl;exact cn hW trivial (by go_simp)
  |9,ho=>cases ho;have h2:=hd.old 2 rfl rfl;exact cn hW trivial (by go_simp)
  |10,ho=>cases ho;have h7:=hd.old 7 rfl rfl;exact cn hW trivial (by go_simp)
  |11,ho=>cases ho;have d10:=hd.get 10 rfl rfl rfl;exact cn hW trivial (by go_simp)
  |12,ho=>cases ho;have d11:=hd.get 11 rfl rfl rfl;exact cn hW trivial (by go_simp)
  |13,ho=>cases ho;have d12:=hd.get 12 rfl rfl rfl;exact cn hW trivial (by go_simp)
  |14,ho=>cases ho;have h1:=hd.old 1 rfl rfl;exact cn hW trivial (by go_simp)
  |15,ho=>cases ho;have d14:=hd.get 14 rfl rfl rfl;exact cn hW trivial (by go_simp)
  |16,ho=>cases ho;have d13:=hd.get 13 rfl rfl rfl;have d15:=hd.get 15 rfl rfl rfl;exact cn hW trivial (by go_simp)
  |17,ho=>cases ho;have h7:=hd.old 7 rfl rfl;exact cn hW trivial (by go_simp)
  |18,ho=>cases ho;have d17:=hd.get 17 rfl rfl rfl;exact cn hW trivial (by go_simp)
  |19,ho=>cases ho;have d18:=hd.get 18 rfl rfl rfl;exact cn hW trivial (by go_simp)
  |20,ho=>cases ho;have d19:=hd.get 19 rfl rfl rfl;exact cn hW trivial (by go_simp)
  |21,ho=>cases ho;have d20:=hd.get 20 rfl rfl rfl;exact cn hW trivial (by go_simp)
  |22,ho=>cases ho;have d21:=hd.get 21 rfl rfl rfl;exact cn hW trivial (by go_simp)
  |23,ho=>cases ho;have e:=HPP.out.symm;have d3:=hd.get 3 rfl rfl rfl;have d4:=hd.get 4 rfl rfl rfl;exact cn hW trivial (by go_simp)
  |24,ho=>cases ho;have d23:=hd.get 23 rfl rfl rfl;exact cn hW trivial (by go_simp)
  |25,ho=>
    cases ho;have d24:=hd.get 24 rfl rfl rfl;have d16:=hd.get 16 rfl rfl rfl;refine⟨W.setCell ⟨g,pp,none⟩ (.int .u32 (RK.toNat:Int)),.inr ⟨rfl,by go_simp⟩,(ST.out W hW).1,(by dsimp only;go_simp),fun j hj=>?_⟩
    dsimp only at hj ⊢;split
    ·go_simp
    ·clear g0 g1;go_simp;exact hj
    simp
  |26,ho=>cases ho;have e:=HPP.out.symm;have d8:=hd.get 8 rfl rfl rfl;have d9:=hd.get 9 rfl rfl rfl;exact cn hW trivial (by go_simp)
  |27,ho=>cases ho;have d26:=hd.get 26 rfl rfl rfl;exact cn hW trivial (by go_simp)
  |28,ho=>
    cases ho;have d27:=hd.get 27 rfl rfl rfl;have d22:=hd.get 22 rfl rfl rfl;refine⟨W.setCell ⟨g,pp+1,none⟩ (.int .u32 (LV.toNat:Int)),.inr ⟨rfl,by go_simp⟩,(ST.out W hW).2,(by dsimp only;go_simp),fun j hj=>?_⟩
    dsimp only at hj ⊢;split
    ·clear g0 g1;go_simp;exact hj
    ·go_simp
    simp
  |_+29,ho=>cases ho
 ·intro W9 hW9 hD;have Br:=ae (Xr.out W9 hW9 (hD 25 ag) (hD 28 ag));clear hW9 hD Xr VC ST G F HC HLV n1 n2 hvn z1 z2 z3 z4 z5;simp only[BG];go_simp;have c0:W9.cell? ⟨pc,0,none⟩=some (.pointer (some ⟨rb,0,none⟩)):=by rw[ar Br.out.2.1];rfl
  have hnr:=ae (Jm HW Br.out.1.kh v HVN.out Br.out.1.JF rfl Br.out.1.of.free);unfold Bt ptrTo at hnr;go_wp2_with fail;refine hnr.out.mono ?_;rintro e YW⟨nv,d12,J9,rfl,Ue,abE,alp⟩;obtain⟨na,nk,rfl⟩:=aA abE;have xH:=ae (gS Br.out Ue Br.out.1.rl Xq.out);obtain⟨K,hK⟩:∃K,K=(cV es v).length:=⟨_,rfl⟩;have HKL:Hid (K=(cV es v).length/\K<2147483648):=ae ⟨hK,by grind [Bu,nJ,Hid.out]⟩;have HNR:Hid (bF YW W9.heap.size (.slice na K nk) (cV es v)/\∀b,(Value.slice na K nk).ownBlock=some b->b≠g):=ae ⟨by grind,fun b hb e=>by
   have h1:=aI abE b (by grind);have h2:=(aL Br.out.1.row g rfl).1;omega⟩
  rw[<- hK];clear Ue abE alp hnr Br c0 hK;obtain⟨zv,hzv⟩:∃z,was[v]? = some z:=⟨_,List.getElem?_eq_getElem (by have:=HVN.out;have:=xH.out.1.PO;omega)⟩;have HZV:=ae hzv;clear hzv;obtain⟨lv,hlv⟩:∃x,x=zv.l+1:=⟨_,rfl⟩;have alq:=ae hlv;clear hlv;have zk:Hid ((eC w0 YW pb db n J9 d12 L0 L8 gb gen N ob ib vb es rb mb g vk done x5 S nX nU nD xb ub eb (.slice wa was.length wk) was R8 U8 D8 (((cV es v).take 0).foldl (kL lv) (vs.modify v fun x=>⟨RK,LV,x.g⟩)) base/\YW.heap[pc]? = some (.cells #[.pointer (some ⟨rb,0,none⟩)] 130)/\J9 pc=none/\Moved (·=g) n pb db w o d YW J9 d12 L8)/\bF YW W9.heap.size (.slice na K nk) (cV es v)):=ae ⟨xH.out,HNR.out.1⟩;clear xH;generalize W9.heap.size=bn at *;go_wp2_with fail;go_loopw [125] (fun vi wr=>∃k:Nat,vi=.int .i64 (k:Int)/\k<=K/\Hid ((eC w0 wr pb db n J9 d12 L0 L8 gb gen N ob ib vb es rb mb g vk done x5 S nX nU nD xb ub eb (.slice wa was.length wk) was R8 U8 D8 (((cV es v).take k).foldl (kL lv) (vs.modify v fun x=>⟨RK,LV,x.g⟩)) base/\wr.heap[pc]? = some (.cells #[.pointer (some ⟨rb,0,none⟩)] 130)/\J9 pc=none/\Moved (·=g) n pb db w o d wr J9 d12 L8)/\bF wr bn (.slice na K nk) (cV es v))) (fun vi _=>K-(intOf vi).toNat)
  case atStart=>grind
  case round=>
   obtain⟨k,rfl,hk,tE⟩:=hrel;clear zk;generalize wr=PT at *;by_cases hlt:k<K
   ·have Gj:(k:Int)<(K:Int):=by omega
    have wk':IntKind.i64.wrap ((k:Int)+1)=((k+1:Nat):Int):=by grind [Hid.out,aw]
    obtain⟨y0,hy0⟩:∃y,(cV es v)[k]? = some y:=⟨_,List.getElem?_eq_getElem (by grind [Hid.out])⟩;have ary:y0<N:=NF tE.out.1.1.kh.ends y0 (List.mem_of_getElem? hy0);have qT:Hid (((cV es v).take (k+1)).foldl (kL lv) (vs.modify v fun x=>⟨RK,LV,x.g⟩)=kL lv (((cV es v).take k).foldl (kL lv) (vs.modify v fun x=>⟨RK,LV,x.g⟩)) y0):=ae (by
     grind [List.take_succ_eq_append_getElem])
    generalize ((cV es v).take k).foldl (kL lv) (vs.modify v fun x=>⟨RK,LV,x.g⟩)=vk0 at *;obtain⟨x0,hx0⟩:∃x,vk0[y0]? = some x:=⟨_,List.getElem?_eq_getElem (by have:=tE.out.1.1.len;omega)⟩;have CT:=ae hx0;obtain⟨ng,rfl⟩:∃g,na=some ⟨g,0,none⟩:=by
     obtain⟨-,⟨h1,h2⟩|⟨g,_,_,h1,_⟩⟩:=tE.out.2
     ·grind
     grind
    have hnr:=tE.out.2;rw[HKL.out.1]at hnr;have q0:=iG (l:=cV es v) hnr hy0;have hrow:=tE.out.1.1.row;rw[<- tE.out.1.1.len]at hrow;obtain⟨r0,r1,r2⟩:=jH hrow hx0;obtain⟨yy,hyy⟩:∃p,y0*3=p:=⟨_,rfl⟩;have fr2:=World.ownsRow.frozenAt hrow (yy+2);rw[hyy]at r0 r1 r2;have c0:PT.cell? ⟨pc,0,none⟩=some (.pointer (some ⟨rb,0,none⟩)):=by rw[ar tE.out.1.2.1];rfl
    obtain⟨-,-,-,-,-,-,c6,-⟩:=tE.out.1.1.JF.cells;obtain⟨gg,hgg⟩:∃x,x=x0.g+1:=⟨_,rfl⟩;have zg:((x0.g.toNat:Int)+1)%4294967296=(gg.toNat:Int):=by simp_all
    have HGG:=ae hgg;clear hgg;have Uf:=ae (zD tE.out.1 HPG.out (yy+2) (.int .u32 (gg.toNat:Int)) (by rw[<- hyy];exact JE gg hx0) ai);have YX:Hid (bF (PT.setCell ⟨g,yy+2,none⟩ (.int .u32 (gg.toNat:Int))) bn (.slice (some ⟨ng,0,none⟩) K nk) (cV es v)):=ae (bH tE.out.2 (fun b hb=>Below.heap_setCell _ _ _ _ (HNR.out.2 b hb)));clear hnr hrow hy0 hx0 tE;go_wp2_with fail;clear q0 r0 r1 r2 fr2 c0 c6 zg;generalize PT.setCell ⟨g,yy+2,none⟩ (.int .u32 (gg.toNat:Int))=W15 at *;have abG:(vk0.set y0 ⟨x0.r,x0.l,gg⟩)[y0]? = some ⟨x0.r,x0.l,gg⟩:=List.getElem?_set_self (aN CT.out);have hrow:=Uf.out.1.row;rw[<- Uf.out.1.len]at hrow;obtain⟨-,r1,-⟩:=jH hrow abG;rw[hyy]at r1;have fr1:=World.ownsRow.frozenAt hrow (yy+1);obtain⟨wa',wk',hwe,-,-,hwc⟩:=Uf.out.1.Mw;obtain⟨rfl,-,rfl⟩:wa=wa'/\was.length=was.length/\wk=wk':=by simp_all
    have hvw:v<was.length:=aN HZV.out;obtain⟨wb,wo,rfl,aga⟩:=hwc.resolve_left af;obtain⟨-,s1,-⟩:=aga v hvw;have ez:was[v]=zv:=(List.getElem?_eq_some_iff.1 HZV.out).2;rw[ez]at s1;obtain⟨lm,hlm⟩:∃x,x=if x0.l<lv then lv else x0.l:=⟨_,rfl⟩;have zl:((zv.l.toNat:Int)+1)%4294967296=(lv.toNat:Int):=by have:=JC zv.l;rw[alq.out];rfl
    have alu:=ae (Ua Uf.out HPG.out (yy+1) (.int .u32 (lm.toNat:Int)) (by rw[<- hyy];exact yO lm abG) ai Xq.out);have YY:Hid (bF (W15.setCell ⟨g,yy+1,none⟩ (.int .u32 (lm.toNat:Int))).drew bn (.slice (some ⟨ng,0,none⟩) K nk) (cV es v)):=ae (bH YX.out (fun b hb=>by
     show(W15.setCell ⟨g,yy+1,none⟩ (.int .u32 (lm.toNat:Int))).heap[b]? = _;exact Below.heap_setCell _ _ _ _ (HNR.out.2 b hb)))
    have HLM:=ae hlm;clear hrow abG hwe hwc aga ez hlm Uf YX;have HFN:Hid (kL lv vk0 y0=(vk0.set y0 ⟨x0.r,x0.l,gg⟩).set y0 ⟨x0.r,lm,gg⟩):=ae (by
     unfold kL;rw[BF CT.out,List.set_set,HLM.out,HGG.out])
    by_cases Qe:x0.l<lv;case' pos=>
     have agb:(x0.l.toNat:Int)<(lv.toNat:Int):=by have:=UInt32.lt_iff_toNat_lt.1 Qe;omega
     have hmx:max (x0.l.toNat:Int) (lv.toNat:Int)=(lm.toNat:Int):=by rw[HLM.out,if_pos Qe];omega
    case' neg=>
     have agb:¬(x0.l.toNat:Int)<(lv.toNat:Int):=by have:=mt UInt32.lt_iff_toNat_lt.2 Qe;omega
     have hmx:max (x0.l.toNat:Int) (lv.toNat:Int)=(lm.toNat:Int):=by rw[HLM.out,if_neg Qe];omega
    all_goals
     clear Qe;go_wp2_with fail;go_big_region
     clear r1 fr1 s1 zl agb hmx hvw;generalize (W15.setCell ⟨g,yy+1,none⟩ (.int .u32 (lm.toNat:Int))).drew=W16 at *;have arC:Hid ((eC w0 W16 pb db n J9 d12 L0 L8 gb gen N ob ib vb es rb mb g vk done x5 S nX nU nD xb ub eb (.slice (some ⟨wb,wo,none⟩) was.length wk) was R8 U8 D8 (((cV es v).take (k+1)).foldl (kL lv) (vs.modify v fun x=>⟨RK,LV,x.g⟩)) base/\W16.heap[pc]? = some (.cells #[.pointer (some ⟨rb,0,none⟩)] 130)/\J9 pc=none/\Moved (·=g) n pb db w o d W16 J9 d12 L8)/\bF W16 bn (.slice (some ⟨ng,0,none⟩) K nk) (cV es v)):=ae ⟨by rw[qT.out,HFN.out];assumption,YY.out⟩;clear alu YY qT HFN HLM HGG;go_wp2;grind [intOf]
   ·have Gj:¬(k:Int)<(K:Int):=by omega
    have HQF:Hid (PST (.returned (.int .i64 0)) PT):=ae (by
     have h1:=tE.out.1;rw[List.take_of_length_le (by grind [Hid.out])]at h1;rw[xP.out];refine⟨d12,J9,L8,rfl,h1.2.2.2,?_⟩;grind [gw,Hid.out])
    clear tE;go_wp2;assumption
end
end
section
open Go.RowKit Go.Maps
section
variable {w0 w w' W W':World} {pb db n gb gen N ob ib vb rb mb done g vk base NN:Nat} {o o' gY:au} {d d' ig:Dsk} {L L' Ao:aH} {es:List aD} {was:List cj} {ov:Value} {S ch:List Nat}
def xQ(w:World)(pb db n:Nat)(o:au)(d:Dsk)(L:aH)(g gen:Nat)(R U D:List aD)(vs:List cj)(e:Ending)(w':World):Prop:=
 ∃d' o' L',e=.returned (.int .i64 0)/\Moved (·=g) n pb db w o d w' o' d' L'/\nK L L' gen R U D vs
theorem BH(es:List aD)(h:∀z,z∈S↔z∈ch):gO es S=gO es ch:=by
 grind [gO]
theorem Ef(es:List aD)(v:Nat)(h:∀z,z∈S↔z∈ch):iu es S v=iu es ch v:=by
 grind [iu]
structure NP(w0 w:World)(pb db n:Nat)(o:au)(d:Dsk)(L:aH)(gb gen N ob ib vb:Nat)(es:List aD)(rb mb g vk done:Nat)(ov:Value)(S ch:List Nat)(was:List cj)(base NN:Nat):Prop where
 kh:fN w0 w pb db n o d L gb gen N ob ib vb es
 JF:dx w rb pb gb gen done (.map (some mb)) ov (.slice (some ⟨g,0,none⟩) N vk)
 of:q9 w0 w o rb gb ob ib vb
 cho:fK w mb S
 oK:o mb=none
 ord:bF w NN ov ch
 alv:∀b,ov.ownBlock=some b->o b=none
 row:dM w base (.slice (some ⟨g,0,none⟩) N vk) was
 len:was.length=N
 og:o g=none
 rg:rb<g
 gm:g<mb
 go:∀b,ov.ownBlock=some b->g<b
 same:∀z,z∈S↔z∈ch
 low:∀v∈ch,v<N
 ne:ch≠[]
theorem Ug{nX nU nD:Name}(xu:nX≠nU)(xd:nX≠nD)(ud:nU≠nD):RL L (aS (aS (aS L nX (ax [] true)) nU (ax [] true)) nD (ax [] true)) nX nU nD [] [] []:=by
 refine⟨⟨true,?_⟩,⟨true,?_⟩,⟨true,?_⟩,fun y g1 g2 g3=>?_,?_⟩
 ·grind [ay]
 ·grind [ay]
 ·grind [ay]
 ·grind [ay]
 ·have e:(ax [] true).need=0:=rfl;grind [cL]
theorem F0{α β:Type}(l:List α)(f:α->List β)(k:Nat):((l.take k).flatMap f).length<=(l.flatMap f).length:=by
 grind [List.take_append_drop]
theorem Uh{l:List Nat}{k y:Nat}(h:l[k]? = some y):(l.take (k+1)).zipIdx=(l.take k).zipIdx++[(y,k)]:=by
 grind [List.take_succ_eq_append_getElem]
theorem fG.lt{v:Value}{vs:List cj}(h:fG w v vs)(h0:vs.length≠0):∀b,v.ownBlock=some b->b<w.heap.size:=by
 obtain⟨a,cap,rfl,-,-,h |⟨b,off,rfl,hc⟩⟩:=h
 ·omega
 ·intro x hx;cases hx;exact World.block_lt_of_cell? _ _ (hc 0 af).1
theorem BI(HW:aP){m:Nat}(zb:dZ m)(hn:8<=n)(h:NP w0 w pb db n o d L gb gen N ob ib vb es rb mb g vk done ov S ch was base NN)(Ud:gen+1<100)(fR:∀c,aB L (aK c (gen+1))=none)(B7:∀k,aB L (dC k)=none)(hm:(ew es ch).length<=m)(hq:need L+24*((ew es ch).length+(yK es ch).length+(gu es ch).length)+8*es.length+4*N+8<=131072)(hdone:done+ch.length<4294967296)(xG:∀v,v<N->(fJ es v).length*(aX es v).length<=100000) :
 Calls prog 65 #[ptrTo rb] w (xQ w pb db n o d L g gen (ew es ch) (yK es ch) (gu es ch) (cS es was done gen ch)):=by
 have H:=ae h;have uu:Hid (gen+1<100):=ae Ud;have HF:=ae fR;have HNT:=ae B7;have Yj:=ae hm;have HQ:=ae hq;have TC:=ae hdone;have HDG:=ae xG;have ne:∀{c c':UInt8},c≠c'->aK c (gen+1)≠aK c' (gen+1):=fun h=>iE h _ _;have ng:∀(c c':UInt8),aK c (gen+1)≠aK c' gen:=fun c c'=>bq af;have Bp:Hid (RNm gen (aK 120 (gen+1)) (aK 117 (gen+1)) (aK 100 (gen+1))):=ae ⟨ne ag,ne ag,ne ag,ng _ _,ng _ _,ng _ _,ng _ _,ng _ _,ng _ _⟩;have Xs:Hid (∀c:UInt8,jl c=true->bM (aK c (gen+1))=true):=ae (fun c hc=>uW c hc af);have G5:Hid (∀(c:UInt8)W,Calls prog 18 #[.int .u8 (c.toNat:Int),.int .i64 ((gen+1:Nat):Int)] W fun e w'=>e=.returned (.string (aK c (gen+1)))/\Below W.heap.size W w'):=ae (fun c W=>dS c (gen+1) (o:=fun _=>Option.none) (.inl Ud));have wg:IntKind.i64.wrap ((gen:Int)+1)=((gen+1:Nat):Int):=by grind [aw]
 have Eg:Hid (∀W o' d' L',Moved (fun _=>False) n pb db w o d W o' d' L'->Held w0 W pb db n o' d' L'/\dx W rb pb gb gen done (.map (some mb)) ov (.slice (some ⟨g,0,none⟩) N vk)/\o' rb=none):=ae (fun W o' d' L' ql=>⟨h.kh.held.moved ql (fun _ e=>e.elim),h.JF.moved h.of.free ql,ql.free h.of.lt h.of.free⟩);obtain⟨PST,mE⟩:∃P,P=xQ w pb db n o d L g gen (ew es ch) (yK es ch) (gu es ch) (cS es was done gen ch):=⟨_,rfl⟩;have xP:=ae mE;rw[<- mE];obtain⟨c0,-,c2,-⟩:=h.JF.cells;clear h Ud fR B7 hm hq hdone xG mE ne ng;obtain⟨nX,hX⟩:∃x,x=aK 120 (gen+1):=⟨_,rfl⟩;obtain⟨nU,hU⟩:∃x,x=aK 117 (gen+1):=⟨_,rfl⟩;obtain⟨nD,hD⟩:∃x,x=aK 100 (gen+1):=⟨_,rfl⟩;have Vd:=ae (show nX=aK 120 (gen+1)/\nU=aK 117 (gen+1)/\nD=aK 100 (gen+1) from⟨hX,hU,hD⟩);rw[<- hX,<- hU,<- hD]at Bp;have J3:Hid (bM nX=true/\bM nU=true/\bM nD=true):=ae ⟨by rw[hX];exact Xs.out 120 ag,by rw[hU];exact Xs.out 117 ag,by rw[hD];exact Xs.out 100 ag⟩;have HFX:Hid (aB L nX=none/\aB L nU=none/\aB L nD=none):=ae ⟨by grind [Hid.out],by grind [Hid.out],by grind [Hid.out]⟩;have BU:=ae (G5.out 120);have U4:=ae (G5.out 117);have hn3:=ae (G5.out 100);rw[<- hX]at BU;rw[<- hU]at U4;rw[<- hD]at hn3;clear hX hU hD G5 Xs;unfold ptrTo at *;go_enter func65,ntmps65;go_wp2_with fail;refine(BU.out _).mono ?_;rintro e w1⟨rfl,hb1⟩;have e9:Hid (Moved (fun _=>False) n pb db w o d w1 o d L):=ae (Moved.aV H.out.kh.held.aY hb1);clear hb1 BU c0 c2;have qj:=ae (kX (Eg.out _ _ _ _ e9.out).1 (Eg.out _ _ _ _ e9.out).2.1 (Eg.out _ _ _ _ e9.out).2.2 J3.out.1 HFX.out.1);unfold kO ptrTo at qj;go_wp2_with fail;refine qj.out.mono ?_;rintro e w2⟨xb,d2,o2,rfl,cT,hsx,hxg,hox⟩;have kZ:Hid (aF w2 xb pb nX 20/\o2 xb=none/\w.heap.size<=xb):=ae ⟨hsx,hox,Nat.le_trans e9.out.size hxg⟩;have eV:=ae (e9.out.trans cT (fun _ _ e=>e));obtain⟨-,-,c2,-⟩:=(Eg.out _ _ _ _ eV.out).2.1.cells;clear cT hsx hxg hox qj e9;go_wp2_with fail;refine(U4.out _).mono ?_;rintro e w3⟨rfl,hb3⟩;have eH:=ae (eV.out.below hb3);have iD:Hid (aF w3 xb pb nX 20/\o2 xb=none):=ae ⟨kZ.out.1.below hb3,kZ.out.2.1⟩;clear hb3 U4 c2;have qj:=ae (kX (Eg.out _ _ _ _ eH.out).1 (Eg.out _ _ _ _ eH.out).2.1 (Eg.out _ _ _ _ eH.out).2.2 J3.out.2.1 (by rw[ay,if_neg Bp.out.xu.symm];exact HFX.out.2.1));unfold kO ptrTo at qj;go_wp2_with fail;refine qj.out.mono ?_;rintro e w4⟨ub,d4,o4,rfl,eX,hsu,hug,hou⟩;have Gi:Hid ((aF w4 xb pb nX 20/\o4 xb=none)/\(aF w4 ub pb nU 20/\o4 ub=none/\w.heap.size<=ub)):=ae ⟨⟨iD.out.1.moved eX iD.out.2 (fun e=>e),eX.free iD.out.1.lt iD.out.2⟩,hsu,hou,Nat.le_trans eH.out.size hug⟩;have gC:=ae (eH.out.trans eX (fun _ _ e=>e));obtain⟨-,-,c2,-⟩:=(Eg.out _ _ _ _ gC.out).2.1.cells;clear eX hsu hug hou qj eH eV iD;go_wp2_with fail;refine(hn3.out _).mono ?_;rintro e w5⟨rfl,pj⟩;have lL:=ae (gC.out.below pj);have qE:Hid ((aF w5 xb pb nX 20/\o4 xb=none)/\(aF w5 ub pb nU 20/\o4 ub=none)):=ae ⟨⟨Gi.out.1.1.below pj,Gi.out.1.2⟩,Gi.out.2.1.below pj,Gi.out.2.2.1⟩;clear pj hn3 c2;have qj:=ae (kX (Eg.out _ _ _ _ lL.out).1 (Eg.out _ _ _ _ lL.out).2.1 (Eg.out _ _ _ _ lL.out).2.2 J3.out.2.2 (by rw[ay,if_neg Bp.out.ud.symm,ay,if_neg Bp.out.xd.symm];exact HFX.out.2.2));unfold kO ptrTo at qj;go_wp2_with fail;refine qj.out.mono ?_;rintro e w6⟨eb,d6,o6,rfl,oA,hse,heg,hoe⟩;have qb:Hid ((aF w6 xb pb nX 20/\o6 xb=none/\w.heap.size<=xb)/\(aF w6 ub pb nU 20/\o6 ub=none/\w.heap.size<=ub)/\aF w6 eb pb nD 20/\o6 eb=none/\w.heap.size<=eb):=ae ⟨⟨qE.out.1.1.moved oA qE.out.1.2 (fun e=>e),oA.free qE.out.1.1.lt qE.out.1.2,kZ.out.2.2⟩,⟨qE.out.2.1.moved oA qE.out.2.2 (fun e=>e),oA.free qE.out.2.1.lt qE.out.2.2,Gi.out.2.2.2⟩,hse,hoe,Nat.le_trans lL.out.size heg⟩;have yF:=ae (lL.out.trans oA (fun _ _ e=>e));have Ui:=ae (Ug (L:=L) Bp.out.xu Bp.out.xd Bp.out.ud);generalize hL6:aS (aS (aS L nX (ax [] true)) nU (ax [] true)) nD (ax [] true)=L6 at *;clear oA hse heg hoe qj lL gC qE Gi kZ hL6;have Mu:Hid (∀W o' d' L' R U D,Moved (fun _=>False) n pb db w o d W o' d' L'->RL L L' nX nU nD R U D->need L'<=131072->fN w0 W pb db n o' d' L' gb gen N ob ib vb es):=ae (fun W o' d' L' R U D ql hl hq=>tI H.out.kh ql (hl.tP _ Bp.out.x1.symm Bp.out.u1.symm Bp.out.d1.symm) (hl.tP _ Bp.out.x2.symm Bp.out.u2.symm Bp.out.d2.symm) hq);have HN6:Hid (need L6<=need L):=ae (by have:=Ui.out.need;exact this);obtain⟨fx,Xp⟩:=Ui.out.x;have hst:=ae (C7 HW (Mu.out _ _ _ _ _ _ _ yF.out Ui.out (by grind [Hid.out])) (Eg.out _ _ _ _ yF.out).2.1 (Eg.out _ _ _ _ yF.out).2.2 (H.out.cho.kept (yF.out.block H.out.cho.lt H.out.oK (fun e=>e))) (yF.out.free H.out.cho.lt H.out.oK) qb.out.1.1 qb.out.1.2.1 Xp Bp.out.x1 Bp.out.x2 (by grind [Hid.out]));unfold jI ptrTo at hst;clear Xp;go_wp2_with fail;refine hst.out.mono ?_;rintro e w7⟨f7,d7,o7,rfl,rW⟩;have Xt:=ae (NK Ui.out yF.out.aY.keys Bp.out.xu Bp.out.xd (gO es S) f7);have mq:Hid ((aF w7 xb pb nX 20/\o7 xb=none)/\(aF w7 ub pb nU 20/\o7 ub=none)/\aF w7 eb pb nD 20/\o7 eb=none):=ae ⟨⟨qb.out.1.1.moved rW qb.out.1.2.1 (fun e=>e),rW.free qb.out.1.1.lt qb.out.1.2.1⟩,⟨qb.out.2.1.1.moved rW qb.out.2.1.2.1 (fun e=>e),rW.free qb.out.2.1.1.lt qb.out.2.1.2.1⟩,qb.out.2.2.1.moved rW qb.out.2.2.2.1 (fun e=>e),rW.free qb.out.2.2.1.lt qb.out.2.2.2.1⟩;have BZ:=ae (yF.out.trans rW (fun _ _ e=>e));generalize aS L6 nX (ax (gO es S) f7)=L7 at *;clear rW hst yF Ui HN6;obtain⟨oa,ok,rfl⟩:=aA H.out.ord;obtain⟨M,hM'⟩:∃M,M=ch.length:=⟨_,rfl⟩;have Xl:=ae hM';clear hM';obtain⟨-,-,-,-,-,-,c6,-⟩:=(Eg.out _ _ _ _ BZ.out).2.1.cells;have alw:=(Eg.out _ _ _ _ BZ.out).2.1.lt;have YZ:Hid (dM w7 base (.slice (some ⟨g,0,none⟩) N vk) was):=ae (BZ.out.ownsRow H.out.row (fun b hb=>by cases hb;exact⟨H.out.og,fun e=>e⟩));have age:Hid (WI w7 (.slice (some ⟨g,0,none⟩) N vk) was):=ae (ky YZ.out).1.rd;have HWL:Hid (was.length<=1000):=ae (by rw[H.out.len];exact H.out.kh.top);go_wp2_with (refine k8 (w:=w7) (by rfl) _ _ rfl rfl _ was rfl age.out (by grind [Hid.out]) (fun v8 w8 HVs HVo zC=>?_);have c5:w8.cell? ⟨rb,5,none⟩=some (.slice oa M ok):=(by rw[Xl.out];exact(Eg.out _ _ _ _ (BZ.out.below zC.out)).2.1.cells.2.2.2.2.2.1));have hM:=Xl.out;obtain⟨wa,wk,rfl,-⟩:=HVs.out;have sf:=ae (BZ.out.below zC.out);have k7:Hid (was.length≠0):=ae (by
  cases e:ch with
  |nil=>exact absurd e H.out.ne
  |cons v l=>have:=H.out.low v (by grind);rw[H.out.len];omega)
 have HGL:Hid (g<w.heap.size/\base<=g):=ae ⟨(aL H.out.row g rfl).1,aI H.out.row g rfl⟩;have jK:Hid (eC w0 w8 pb db n o7 d7 L L7 gb gen N ob ib vb es rb mb g vk done (.slice oa ch.length ok) S nX nU nD xb ub eb (.slice wa was.length wk) was (gO es S++(ch.take 0).flatMap (iu es S)) ((ch.take 0).flatMap (aX es)) ((ch.take 0).flatMap (fJ es)) (((ch.take 0).zipIdx).foldl (fun vs p=>gw es was done gen vs p.2 p.1) was) base/\Moved (·=g) n pb db w o d w8 o7 d7 L7):=ae (by
  obtain⟨g1,g2,g3,g4⟩:=H.out.of.graph;have g5:=H.out.rg;have g6:=H.out.gm;have g7:=HGL.out.1;have g8:=qb.out.1.2.2;have g9:=qb.out.2.1.2.2;have g10:=qb.out.2.2.2.2;have hst:(gO es S++(ch.take 0).flatMap (iu es S))=gO es S:=by simp
  rw[hst];exact⟨{
   kh:=Mu.out _ _ _ _ _ _ _ sf.out Xt.out (by have:=Xt.out.need;grind [gA,gO,b8,Hid.out])
   JF:=(Eg.out _ _ _ _ sf.out).2.1
   of:=H.out.of.moved sf.out
   ch:=H.out.cho.kept (sf.out.block H.out.cho.lt H.out.oK (fun e=>e))
   oK:=sf.out.free H.out.cho.lt H.out.oK
   rl:=Xt.out
   nm:=Bp.out
   sx:=mq.out.1.1.below zC.out
   su:=mq.out.2.1.1.below zC.out
   sd:=mq.out.2.2.1.below zC.out
   ox:=mq.out.1.2
   ou:=mq.out.2.1.2
   od:=mq.out.2.2.2
   Mw:=HVs.out
   own:=fun b hb=>⟨fG.lt HVs.out k7.out b hb,BZ.out.aY.fresh (HVo.out b hb)⟩
   PO:=H.out.len
   row:=sf.out.ownsRow H.out.row (fun b hb=>by cases hb;exact⟨H.out.og,fun e=>e⟩)
   len:=H.out.len
   og:=sf.out.free HGL.out.1 H.out.og
   g0:=Nat.le_trans H.out.of.new (Nat.le_of_lt H.out.rg)
   gne:=⟨af,af,af,af,af,af,af,af,af,fun e=>by have:=HVo.out g e;have:=BZ.out.size;omega⟩ },sf.out.mono (fun _ _ e=>e.elim)⟩)
 have HM:Hid (M=ch.length/\M<=9223372036854775807):=ae ⟨hM,by
  grind [Hid.out]⟩
 have agf:Hid (∀W o' d' L',Moved (·=g) n pb db w o d W o' d' L'->bF W NN (.slice oa M ok) ch):=ae (fun W o' d' L' ql=>by rw[hM];exact ql.ownsRow H.out.ord (fun b hb=>⟨H.out.alv b hb,fun e=>by have:=H.out.go b hb;omega⟩));rw[<- hM]at jK;have HLEN:Hid (∀k,(gO es S++(ch.take k).flatMap (iu es S)).length<=(ew es ch).length/\((ch.take k).flatMap (aX es)).length<=(yK es ch).length/\((ch.take k).flatMap (fJ es)).length<=(gu es ch).length):=ae (fun k=>by
  refine⟨?_,F0 _ _ _,F0 _ _ _⟩;have hf:iu es S=iu es ch:=funext fun v=>Ef es v H.out.same;unfold ew;rw[BH es H.out.same,hf,List.length_append,List.length_append];grind [F0])
 clear hM Xl c6 alw HVs HVo zC YZ age HWL qb mq Xt BZ sf k7 c5;go_loopw [76] (fun vi wr=>∃(k:Nat)(o':au)(d':Dsk)(L':aH),vi=.int .i64 (k:Int)/\k<=M/\Hid (eC w0 wr pb db n o' d' L L' gb gen N ob ib vb es rb mb g vk done (.slice oa M ok) S nX nU nD xb ub eb (.slice wa was.length wk) was (gO es S++(ch.take k).flatMap (iu es S)) ((ch.take k).flatMap (aX es)) ((ch.take k).flatMap (fJ es)) (((ch.take k).zipIdx).foldl (fun vs p=>gw es was done gen vs p.2 p.1) was) base/\Moved (·=g) n pb db w o d wr o' d' L')) (fun vi _=>M-(intOf vi).toNat)
 case atStart=>grind
 case round=>
  obtain⟨k,o9,d9,L9,rfl,hk,qs⟩:=hrel;clear jK;generalize wr=W9 at *;by_cases hlt:k<M
  ·have Gj:(k:Int)<(M:Int):=by omega
   have wk':IntKind.i64.wrap ((k:Int)+1)=((k+1:Nat):Int):=by grind [Hid.out,aw]
   obtain⟨v,hv⟩:∃v,ch[k]? = some v:=⟨_,List.getElem?_eq_getElem (by grind [Hid.out])⟩;obtain⟨og',rfl⟩:∃g,oa=some ⟨g,0,none⟩:=by
    obtain⟨-,⟨h1,h2⟩|⟨g,_,_,h1,_⟩⟩:=H.out.ord
    ·grind
    grind
   have hrow:=agf.out _ _ _ _ qs.out.2;rw[HM.out.1]at hrow;have q0:=iG (l:=ch) hrow hv;have e1:=rO (f:=iu es S) hv;have e2:=rO (f:=aX es) hv;have e3:=rO (f:=fJ es) hv;have e4:=Uh hv;have HE:Hid (gO es S++(ch.take (k+1)).flatMap (iu es S)=(gO es S++(ch.take k).flatMap (iu es S))++iu es S v/\(ch.take (k+1)).flatMap (aX es)=(ch.take k).flatMap (aX es)++aX es v/\(ch.take (k+1)).flatMap (fJ es)=(ch.take k).flatMap (fJ es)++fJ es v/\((ch.take (k+1)).zipIdx).foldl (fun vs p=>gw es was done gen vs p.2 p.1) was=gw es was done gen (((ch.take k).zipIdx).foldl (fun vs p=>gw es was done gen vs p.2 p.1) was) k v):=ae ⟨by grind,e2,e3,by grind⟩;have hout:=ae (FZ HW qs.out.1 k v (H.out.low v (List.mem_of_getElem? hv)) (by grind [Hid.out]) (by grind [Hid.out]) (by have:=HGL.out;have:=qs.out.2.size;omega) (HDG.out v (H.out.low v (List.mem_of_getElem? hv))) (by
    grind [Hid.out]))
   unfold FW ptrTo at hout;clear hrow hv e1 e2 e3 e4;go_wp2_with fail;refine hout.out.mono ?_;rintro e Wo⟨d10,o10,L10,rfl,A4,alx⟩;have oy:Hid (eC w0 Wo pb db n o10 d10 L L10 gb gen N ob ib vb es rb mb g vk done (.slice (some ⟨og',0,none⟩) M ok) S nX nU nD xb ub eb (.slice wa was.length wk) was (gO es S++(ch.take (k+1)).flatMap (iu es S)) ((ch.take (k+1)).flatMap (aX es)) ((ch.take (k+1)).flatMap (fJ es)) (((ch.take (k+1)).zipIdx).foldl (fun vs p=>gw es was done gen vs p.2 p.1) was) base/\Moved (·=g) n pb db w o d Wo o10 d10 L10):=ae ⟨by rw[HE.out.1,HE.out.2.1,HE.out.2.2.1,HE.out.2.2.2];omega,qs.out.2.trans A4 (fun _ _ e=>e)⟩;clear A4 alx hout qs HE q0;go_wp2;go_roundw
   case rel=>grind
   grind [intOf]
  ·have Gj:¬(k:Int)<(M:Int):=by omega
   have oy:Hid (eC w0 W9 pb db n o9 d9 L L9 gb gen N ob ib vb es rb mb g vk done (.slice oa M ok) S nX nU nD xb ub eb (.slice wa was.length wk) was (ew es ch) (yK es ch) (gu es ch) (cS es was done gen ch) base/\Moved (·=g) n pb db w o d W9 o9 d9 L9):=ae (by
    have h1:=qs.out;rw[List.take_of_length_le (by grind [Hid.out]),BH es H.out.same,show iu es S=iu es ch from funext fun v=>Ef es v H.out.same]at h1;exact h1)
   clear qs agf Mu;have HMK:Hid (∀W o' d',Moved (fun _=>False) n pb db W9 o9 d9 W o' d' L9->Calls prog 45 #[ptrTo pb,.string nX,.int .i64 ((gen+1:Nat):Int),.slice (some ⟨g,0,none⟩) N vk] W fun e w'=>∃ig gY,e=.returned (.int .i64 0)/\Moved (fun _=>False) n pb db W9 o9 d9 w' gY ig (fT L9 (gen+1) (ew es ch) (cS es was done gen ch))):=ae (fun W o' d' ql=>by
    have hs:=oy.out.1;obtain⟨fl,MU⟩:=hs.rl.x;have Uc:∀c:UInt8,c≠120->c≠117->c≠100->aB L9 (aK c (gen+1))=none:=fun c h1 h2 h3=>by
     rw[hs.rl.tP _ (by grind [Hid.out,iE]) (by grind [Hid.out,iE]) (by grind [Hid.out,iE]),HF.out c]
    have hrow:=ql.ownsRow hs.row (fun b hb=>by cases hb;grind [eC.og]);have hv:=(ky hrow).1;refine(sG HW zb ql.aY hn (gen:=gen+1) (.inl uu.out) MU (by grind [Hid.out,rL]) Yj.out (Uc 101 ag ag ag) (Uc 114 ag ag ag) (Uc 118 ag ag ag) (fun k=>by
     rw[hs.rl.tP _ (by grind [Hid.out,bm]) (by grind [Hid.out,bm]) (by grind [Hid.out,bm]),HNT.out k]) hv (fun b hb=>by cases hb;exact ql.free (aL hs.row g rfl).1 hs.og) (by rw[hs.len];have:=hs.kh.top;omega)).mono ?_
    rintro e w'⟨c,ig,gY,Ao,rfl,cT,-,hc⟩;have hh:=hs.kh.held.moved ql (fun _ e=>e.elim);have h0:c=0:=hh.fine cT (hc.imp (fun h=>h.1) id) (by
     have g1:=hs.rl.need;grind [gA,eC.len,Hid.out])
    subst h0;rcases hc with⟨_,rfl⟩| hc
    ·exact⟨ig,gY,rfl,ql.trans cT (fun _ _ e=>e)⟩
    grind [jL.ne])
   have Xu:Hid (∀W o' d' L',Moved (fun _=>False) n pb db W9 o9 d9 W o' d' L'->W.cell? ⟨rb,0,none⟩=some (.pointer (some ⟨pb,0,none⟩))/\W.cell? ⟨rb,2,none⟩=some (.int .i64 (gen:Int))/\W.cell? ⟨rb,6,none⟩=some (.slice (some ⟨g,0,none⟩) N vk)):=ae (fun W o' d' L' ql=>by
    obtain⟨h0,-,h2,-,-,-,h6,-⟩:=(oy.out.1.JF.moved oy.out.1.of.free ql).cells;exact⟨h0,h2,h6⟩)
   have s7:Hid (∀c:UInt8,c=120\/c=117\/c=100->aK c (gen+1)≠aK 101 (gen+1)/\aK c (gen+1)≠aK 114 (gen+1)/\aK c (gen+1)≠aK 118 (gen+1)):=ae (by
    grind [iE])
   obtain⟨Uj,abJ⟩:∃l,l=fT L9 (gen+1) (ew es ch) (cS es was done gen ch):=⟨_,rfl⟩;rw[<- abJ]at HMK;have alz:Hid (need Uj<=need L+12*(ew es ch).length+4*(yK es ch).length+4*(gu es ch).length+4*N):=ae (by
    have g1:=oy.out.1.rl.need;have g2:=gA (ew es ch);have g3:=gA (yK es ch);have g4:=gA (gu es ch);have g5:=oy.out.1.len;grind [Ba])
   have Xv:Hid ((∃f,aB Uj nX=some (ax (ew es ch) f))/\(∃f,aB Uj nU=some (ax (yK es ch) f))/\∃f,aB Uj nD=some (ax (gu es ch) f)):=ae (by
    have hs:=oy.out.1.rl;grind [RL.x,Hid.out,rQ,RL.u,RL.d])
   have agh:Hid (∀W o' d',Moved (fun _=>False) n pb db W9 o9 d9 W o' d' Uj->Calls prog 79 #[ptrTo pb,.string nU] W fun e w'=>∃ig gY,e=.returned (.int .i64 0)/\Moved (fun _=>False) n pb db W9 o9 d9 w' gY ig (aS Uj nU (ax (yK es ch) true))):=ae (fun W o' d' ql=>by
    obtain⟨f,hf⟩:=Xv.out.2.1;refine(pO HW ql.aY hf).mono ?_;rintro e w'⟨c,ig,gY,rfl,cT,qp⟩;have h0:c=0:=(oy.out.1.kh.held.moved ql (fun _ e=>e.elim)).qY cT qp (by grind [Hid.out]);subst h0;exact⟨ig,gY,rfl,ql.trans cT (fun _ _ e=>e)⟩)
   have agi:Hid (∀W o' d',Moved (fun _=>False) n pb db W9 o9 d9 W o' d' (aS Uj nU (ax (yK es ch) true))->Calls prog 79 #[ptrTo pb,.string nD] W fun e w'=>∃ig gY,e=.returned (.int .i64 0)/\Moved (fun _=>False) n pb db W9 o9 d9 w' gY ig (aS (aS Uj nU (ax (yK es ch) true)) nD (ax (gu es ch) true))):=ae (fun W o' d' ql=>by
    obtain⟨f,hf⟩:=Xv.out.2.2;refine(pO HW ql.aY (by rw[ay,if_neg Bp.out.ud.symm];exact hf)).mono ?_;rintro e w'⟨c,ig,gY,rfl,cT,qp⟩;have h0:c=0:=(oy.out.1.kh.held.moved ql (fun _ e=>e.elim)).qY cT qp (by
     grind [cL,cR,Hid.out])
    subst h0;exact⟨ig,gY,rfl,ql.trans cT (fun _ _ e=>e)⟩)
   have alA:Hid (∀W o' d',Moved (fun _=>False) n pb db W9 o9 d9 W o' d' (aS (aS Uj nU (ax (yK es ch) true)) nD (ax (gu es ch) true))->Calls prog 62 #[ptrTo pb,.string nX] W fun e w'=>∃ig gY,e=.returned (.int .i64 0)/\Moved (fun _=>False) n pb db W9 o9 d9 w' gY ig (bX (aS (aS Uj nU (ax (yK es ch) true)) nD (ax (gu es ch) true)) nX)):=ae (fun W o' d' ql=>by
    obtain⟨f,hf⟩:=Xv.out.1;refine(uB ql.aY (by rw[ay,if_neg Bp.out.xd,ay,if_neg Bp.out.xu];exact hf)).mono ?_;rintro e w'⟨c,ig,gY,Ao,rfl,hp,ht,hg,zu,hdr⟩;have cT:Moved (fun _=>False) n pb db W o' d' w' gY ig Ao:=ju hp ht hg zu;have hh:=(oy.out.1.kh.held.moved ql (fun _ e=>e.elim)).moved cT (fun _ e=>e.elim);rcases hdr with⟨rfl,rfl⟩|⟨-,h2,-⟩
    ·exact⟨ig,gY,rfl,ql.trans cT (fun _ _ e=>e)⟩
    grind [Held.dead])
   have Xr:Hid (∀d' o' w',Moved (fun _=>False) n pb db W9 o9 d9 w' o' d' (bX (aS (aS Uj nU (ax (yK es ch) true)) nD (ax (gu es ch) true)) nX)->PST (.returned (.int .i64 0)) w'):=ae (fun d' o' w' ql=>by
    rw[xP.out];have JR:=oy.out.1.rl;have Xp:=HFX.out.1;rw[Vd.out.1,Vd.out.2.1,Vd.out.2.2]at JR;rw[Vd.out.1]at Xp;have hr:=Mx oy.out.1.kh.held.aY.keys JR Xp (vs:=cS es was done gen ch);rw[Vd.out.1,Vd.out.2.1,Vd.out.2.2,abJ]at ql;exact⟨d',o',_,rfl,oy.out.2.trans ql (fun _ _ e=>e.elim),hr⟩)
   have HNU:Hid (∀W,Calls prog 18 #[.int .u8 117,.int .i64 ((gen+1:Nat):Int)] W fun e w'=>e=.returned (.string nU)/\Below W.heap.size W w'):=ae (fun W=>by rw[Vd.out.2.1];exact dS 117 (gen+1) (o:=fun _=>Option.none) (.inl uu.out));have UW:Hid (∀W,Calls prog 18 #[.int .u8 100,.int .i64 ((gen+1:Nat):Int)] W fun e w'=>e=.returned (.string nD)/\Below W.heap.size W w'):=ae (fun W=>by rw[Vd.out.2.2];exact dS 100 (gen+1) (o:=fun _=>Option.none) (.inl uu.out));have HP9:=ae (Moved.refl (fun _=>False) oy.out.1.kh.held.aY);clear alz Xv s7 abJ HF HNT Yj HQ TC HDG HFX Bp Vd xP HLEN oy HGL;unfold ptrTo at *;go_wp2_with fail;refine cE (Below W9.heap.size W9) 14 rfl ah ah (ak.drew) ?_;simp only[List.take_succ_cons,List.take_zero];iterate 3 (refine qz ?_)
   refine qz ?_ (fun w' hw'=>by obtain⟨f0,f2,f6⟩:=Xu.out _ _ _ _ (HP9.out.below hw');go_simp<;>rfl);iterate 4 (refine qz ?_)
   refine qz ?_ (fun w' hw'=>by obtain⟨f0,f2,f6⟩:=Xu.out _ _ _ _ (HP9.out.below hw');go_simp<;>rfl);refine qz ?_ (fun w' hw'=>by have hx:=wg;go_simp<;>rfl);iterate 3 (refine qz ?_)
   refine qz ?_ (fun w' hw'=>by obtain⟨f0,f2,f6⟩:=Xu.out _ _ _ _ (HP9.out.below hw');go_simp<;>rfl);refine wpQuiet_nil ?_;intro w11 agj;refine⟨_,_,rfl,(by go_simp<;>exact⟨rfl,rfl⟩),?_⟩;refine(HMK.out w11 o9 d9 (HP9.out.below agj)).mono ?_;rintro e YW⟨d12,J9,rfl,Ue⟩;have Xw:=ae Ue;clear Ue agj HMK;refine⟨_,rfl,?_⟩;go_simp;refine qz ?_;refine wpQuiet_nil ?_;go_wp2_with fail;refine cE (Below YW.heap.size YW) 10 rfl ah ah (ak.drew) ?_;simp only[List.take_succ_cons,List.take_zero];iterate 3 (refine qz ?_)
   refine qz ?_ (fun w' hw'=>by obtain⟨f0,f2,f6⟩:=Xu.out _ _ _ _ (Xw.out.below hw');go_simp<;>rfl);iterate 3 (refine qz ?_)
   refine qz ?_ (fun w' hw'=>by obtain⟨f0,f2,f6⟩:=Xu.out _ _ _ _ (Xw.out.below hw');go_simp<;>rfl);refine qz ?_ (fun w' hw'=>by have hx:=wg;go_simp<;>rfl);refine qw (fun w' hw'=>(HNU.out w').mono (fun e w'' h=>⟨h.1,hw'.trans (h.2.mono hw'.size)⟩)) ?_;refine wpQuiet_nil ?_;intro J8 agk;refine⟨_,_,rfl,(by go_simp<;>exact⟨rfl,rfl⟩),?_⟩;refine(agh.out J8 J9 d12 (Xw.out.below agk)).mono ?_;rintro e w14⟨d14,o14,rfl,agl⟩;have Xx:=ae agl;clear agl agk agh Xw;refine⟨_,rfl,?_⟩;go_simp;refine qz ?_;refine wpQuiet_nil ?_;go_wp2_with fail;refine cE (Below w14.heap.size w14) 10 rfl ah ah (ak.drew) ?_;simp only[List.take_succ_cons,List.take_zero];iterate 3 (refine qz ?_)
   refine qz ?_ (fun w' hw'=>by obtain⟨f0,f2,f6⟩:=Xu.out _ _ _ _ (Xx.out.below hw');go_simp<;>rfl);iterate 3 (refine qz ?_)
   refine qz ?_ (fun w' hw'=>by obtain⟨f0,f2,f6⟩:=Xu.out _ _ _ _ (Xx.out.below hw');go_simp<;>rfl);refine qz ?_ (fun w' hw'=>by have hx:=wg;go_simp<;>rfl);refine qw (fun w' hw'=>(UW.out w').mono (fun e w'' h=>⟨h.1,hw'.trans (h.2.mono hw'.size)⟩)) ?_;refine wpQuiet_nil ?_;intro w15 agm;refine⟨_,_,rfl,(by go_simp<;>exact⟨rfl,rfl⟩),?_⟩;refine(agi.out w15 o14 d14 (Xx.out.below agm)).mono ?_;rintro e w16⟨d16,o16,rfl,agn⟩;have ago:=ae agn;clear agn agm agi Xx;refine⟨_,rfl,?_⟩;go_simp;refine qz ?_;refine wpQuiet_nil ?_;have hdr:=ae (alA.out w16 o16 d16 ago.out);obtain⟨k0,k2,k6⟩:=Xu.out _ _ _ _ ago.out;go_wp2_with fail;refine hdr.out.mono ?_;rintro e w17⟨d17,o17,rfl,agp⟩;have XT:=ae (Xr.out d17 o17 w17 agp);clear agp hdr k0 k2 k6;go_wp2;assumption
end
end
section
open Go.RowKit Go.Maps
section
variable {w0 w w' W W':World} {pb db n gen done:Nat} {o o' gY:au} {d d' ig:Dsk} {L L' Ao:aH} {es:List aD} {vs:List cj}
structure Uk(w0 w:World)(pb db n:Nat)(o:au)(d:Dsk)(L:aH)(gen done m:Nat)(es:List aD)(vs:List cj):Prop where
 held:Held w0 w pb db n o d L
 frames:8<=n
 glt:gen+1<100
 e:aB L (aK 101 gen)=some (ax (aC false es) true)
 r:aB L (aK 114 gen)=some (ax (aC true es) true)
 v:aB L (aK 118 gen)=some (b6 vs true)
 len:es.length<=1000
 top:vs.length<=1000
 ends:∀x∈es,x.t.toNat<vs.length/\x.h.toNat<vs.length
 agq:(eu es vs).length<=24
 free:∀c,aB L (aK c (gen+1))=none
 nt:∀k,aB L (dC k)=none
 most:(ew es (az es vs)).length<=m
 need:need L+24*((ew es (az es vs)).length+(yK es (az es vs)).length+(gu es (az es vs)).length)+8*es.length+4*vs.length+8<=131072
 dlt:done+(az es vs).length<4294967296
 deg:∀v,v<vs.length->(fJ es v).length*(aX es v).length<=100000
def oZ(w:World)(pb db n:Nat)(o:au)(d:Dsk)(L:aH)(gen done:Nat)(es:List aD)(vs:List cj)(e:Ending)(w':World):Prop:=
 ∃d' o' L',e=.returned (.tuple #[.int .u32 ((az es vs).length:Int),.int .i64 0])/\Moved (fun _=>False) n pb db w o d w' o' d' L'/\(az es vs=[]->L'=L)/\(az es vs≠[]->nK L L' gen (ew es (az es vs)) (yK es (az es vs)) (gu es (az es vs)) (cS es vs done gen (az es vs)))
theorem rS(HW:aP){m:Nat}(zb:dZ m)(h:Uk w0 w pb db n o d L gen done m es vs) :
 Calls prog 33 #[ptrTo pb,.int .i64 (gen:Int),.int .u32 (done:Int)] w (oZ w pb db n o d L gen done es vs):=by
 have H:=ae h;have hq:need L<=131072:=by have:=h.need;omega
 have dQ:=ae (jA h.held.aY);have hop:=ae (sJ HW h.held.aY (gen:=gen) (.inl (by have:=h.glt;omega)) h.v h.e h.r);have hn8:¬(n:Int)<8:=by have:=h.frames;omega
 have HQ:=ae hq;obtain⟨CH,hCH⟩:∃l,l=az es vs:=⟨_,rfl⟩;have YU:=ae hCH;obtain⟨PST,mE⟩:∃P,P=oZ w pb db n o d L gen done es vs:=⟨_,rfl⟩;have xP:=ae mE;rw[<- mE];clear h hq hCH mE;unfold ptrTo sI at *;go_enter func33,ntmps33;go_wp2_with fail;refine dQ.out.mono ?_;rintro e w1⟨rfl,rfl⟩;clear dQ;go_wp2_with fail;refine hop.out.mono ?_;rintro e w2⟨v2,c2,d2,o2,rfl,cT,qp,jw,-⟩;have hc2:c2=0:=H.out.held.qY cT qp HQ.out;subst hc2;obtain⟨gb,ob,ib,vb,rfl,hg2⟩:=jw rfl;have eV:=ae cT;have uu:=ae hg2;have hlt:Hid (gb<w2.heap.size/\ob<w2.heap.size/\ib<w2.heap.size/\vb<w2.heap.size):=ae ⟨hg2.raw.lt,hg2.out.lt,hg2.rV.lt,hg2.sH.lt⟩;clear cT hg2 qp jw hop;unfold ptrTo at *;obtain⟨rb,hrb⟩:∃x,x=w2.heap.size:=⟨_,rfl⟩;have zx:Hid (dx (w2.alloc (.cells #[.pointer (some ⟨pb,0,none⟩),.pointer (some ⟨gb,0,none⟩),.int .i64 (gen:Int),.int .u32 (done:Int),.map none,.slice none 0 0,.slice none 0 0] 133)) w2.heap.size pb gb gen done (.map none) (.slice none 0 0) (.slice none 0 0)/\Moved (fun _=>False) n pb db w o d (w2.alloc (.cells #[.pointer (some ⟨pb,0,none⟩),.pointer (some ⟨gb,0,none⟩),.int .i64 (gen:Int),.int .u32 (done:Int),.map none,.slice none 0 0,.slice none 0 0] 133)) o2 d2 L/\dH (w2.alloc (.cells #[.pointer (some ⟨pb,0,none⟩),.pointer (some ⟨gb,0,none⟩),.int .i64 (gen:Int),.int .u32 (done:Int),.map none,.slice none 0 0,.slice none 0 0] 133)) o2 gb pb gen vs.length ob ib vb):=ae ⟨heap_alloc_new _ _,eV.out.alloc _,uu.out.moved (Moved.aV (n:=n) eV.out.aY aj)⟩;go_wp2_with fail;rw[<- hrb]at zx ⊢;generalize w2.alloc (.cells #[.pointer (some ⟨pb,0,none⟩),.pointer (some ⟨gb,0,none⟩),.int .i64 (gen:Int),.int .u32 (done:Int),.map none,.slice none 0 0,.slice none 0 0] 133)=W3 at *;have Xu:Hid (rb=w2.heap.size/\w.heap.size<=rb):=ae ⟨hrb,by rw[hrb];exact eV.out.size⟩;have Ul:Hid (fN w0 W3 pb db n o2 d2 L gb gen vs.length ob ib vb es):=ae ⟨H.out.held.moved zx.out.2.1 (fun _ e=>e.elim),HQ.out,zx.out.2.2,H.out.e,H.out.r,H.out.len,H.out.top,H.out.ends⟩;have Xy:Hid (q9 w0 W3 o2 rb gb ob ib vb):=ae ⟨by rw[hrb];exact(H.out.held.moved eV.out (fun _ e=>e.elim)).below.size,zx.out.1.lt,by rw[hrb];exact eV.out.aY.fresh (Nat.le_refl _),by grind [Hid.out]⟩;have mX:=ae (CZ HW Ul.out H.out.v zx.out.1 Xy.out);unfold xJ ptrTo at mX;clear hrb uu hlt;refine mX.out.mono ?_;rintro e w4⟨vv,d4,o4,rfl,pq⟩;have gD:=ae pq;have Um:=ae (Ul.out.FK Xy.out pq.mv);have Xz:=ae (Xy.out.moved pq.mv);have gC:Hid (Moved (fun _=>False) n pb db w o d w4 o4 d4 L):=ae (zx.out.2.1.trans pq.mv (fun x hx e=>by grind [Hid.out]));have hch:=ae (zm HW Um.out pq.at' Xz.out pq.row pq.own H.out.deg H.out.agq);rw[<- YU.out]at hch;unfold tH ptrTo at hch;clear pq mX Ul Xy;go_wp2_with fail;refine hch.out.mono ?_;rintro e w5⟨mb,ov,S,d5,o5,rfl,kP,Lx,Un,agr,ags,agt,agu,Ho⟩;obtain⟨oa,ok,rfl⟩:=aA Un;obtain⟨KN,JZ⟩:∃k,k=CH.length:=⟨_,rfl⟩;have lL:Hid (Moved (fun _=>False) n pb db w o d w5 o5 d5 L):=ae (gC.out.trans kP (fun x hx e=>by grind [Hid.out]));have DW:=ae Lx;have Oi:Hid (bF w5 w4.heap.size (.slice oa CH.length ok) CH/\(∀b,(Value.slice oa CH.length ok).ownBlock=some b->o5 b=none)/\fK w5 mb S/\w4.heap.size<=mb/\o5 mb=none/\∀z,z∈S↔z∈CH):=ae ⟨Un,agr,ags,agt,agu,Ho⟩;have agv:=ae (Um.out.FK Xz.out kP);have agw:=ae (Xz.out.moved kP);have Oo:Hid (dM w5 W3.heap.size vv vs/\(∀b,vv.ownBlock=some b->o5 b=none/\b<w4.heap.size)):=ae ⟨kP.ownsRow gD.out.row (fun b hb=>⟨gD.out.own b hb,fun e=>by have h1:=aI gD.out.row b hb;have h2:=zx.out.1.lt;omega⟩),fun b hb=>⟨kP.free (aL gD.out.row b hb).1 (gD.out.own b hb),(aL gD.out.row b hb).1⟩⟩;obtain⟨-,-,-,-,-,c5,-⟩:=Lx.cells;rw[<- JZ]at c5;have HKN:Hid (KN=CH.length/\KN<4294967296):=ae ⟨JZ,by have:=H.out.dlt;grind [Hid.out]⟩;clear kP Lx Un agr ags agt agu Ho hch JZ Um Xz gC;by_cases hz:KN=0
 ·have hzz:(KN:Int)=0:=by omega
  have HQF:Hid (PST (.returned (.tuple #[.int .u32 0,.int .i64 0])) w5):=ae (by
   have hn:az es vs=[]:=by grind [Hid.out]
   rw[xP.out];exact⟨d5,o5,L,by grind,lL.out,fun _=>rfl,fun h=>absurd hn h⟩)
  clear hz;go_wp2;assumption
 ·have hzz:¬(KN:Int)=0:=by omega
  have HCN:Hid (CH≠[]):=ae (fun e=>hz (by grind [Hid.out]));have HVN:Hid (vs.length≠0):=ae (by
   cases e:CH with
   |nil=>grind [Hid.out]
   |cons v l=>have:=lM (es:=es) (vs:=vs) (v:=v) (by grind [Hid.out]);omega)
  obtain⟨g,vk,rfl⟩:∃g k,vv=.slice (some ⟨g,0,none⟩) vs.length k:=by
   obtain⟨-,⟨h1,h2⟩|⟨g,k,_,h1,_⟩⟩:=Oo.out.1
   ·grind [Hid.out]
   grind
  have HG:Hid (rb<g/\g<w4.heap.size/\w.heap.size<=g/\rb≠g):=ae (by
   have h1:=aI Oo.out.1 g rfl;have h2:=zx.out.1.lt;have h3:=(Oo.out.2 g rfl).2;grind [Hid.out])
  have HWI:Hid (NP w0 w5 pb db n o5 d5 L gb gen vs.length ob ib vb es rb mb g vk done (.slice oa CH.length ok) S CH vs W3.heap.size w4.heap.size):=ae
   ⟨agv.out,DW.out,agw.out,Oi.out.2.2.1,Oi.out.2.2.2.2.1,Oi.out.1,Oi.out.2.1,Oo.out.1,rfl,(Oo.out.2 g rfl).1,HG.out.1,Nat.lt_of_lt_of_le HG.out.2.1 Oi.out.2.2.2.1,fun b hb=>Nat.lt_of_lt_of_le HG.out.2.1 (aI Oi.out.1 b hb),Oi.out.2.2.2.2.2,fun v hv=>lM (es:=es) (by grind [Hid.out]),HCN.out⟩
  have hwr:=ae (BI HW zb H.out.frames HWI.out H.out.glt H.out.free H.out.nt (by rw[YU.out];exact H.out.most) (by rw[YU.out];exact H.out.need) (by rw[YU.out];exact H.out.dlt) H.out.deg);unfold xQ ptrTo at hwr;clear hz HWI;go_wp2_with fail;refine hwr.out.mono ?_;rintro e w6⟨d6,o6,L6,rfl,oA,BP⟩;have Bi:dx w6 rb pb gb gen done (.map (some mb)) (.slice oa CH.length ok) (.slice (some ⟨g,0,none⟩) vs.length vk):=oA.heap DW.out agw.out.free HG.out.2.2.2;obtain⟨-,-,-,-,-,c5',-⟩:=Bi.cells;rw[<- HKN.out.1]at c5';have wku:IntKind.u32.wrap (KN:Int)=(KN:Int):=eo _ af (by grind [Hid.out]);have HQF:Hid (PST (.returned (.tuple #[.int .u32 (KN:Int),.int .i64 0])) w6):=ae (by
   rw[xP.out];refine⟨d6,o6,L6,by grind [Hid.out],lL.out.trans oA (fun x hx e=>by grind [Hid.out]),fun h=>absurd (YU.out.trans h) HCN.out,fun _=>?_⟩;grind [Hid.out])
  clear oA BP Bi hwr c5 hzz;go_wp2;assumption
end
end
section
open Go.RowKit Go.Maps
theorem xR{w:World}{ops:Array Oper}{o:Oper}{a:Act}{K:Act->World->Prop}{Q:Exit->Act->World->Prop}{E:Prop}(hgd:o.guard=none)(s x:Operand)(ho:o.op=.call { callee:=.builtin .append,args:=#[s,x],argTypes:=#[22,22] })(base:Nat)(v:Value)(l:List aD)(hs:a.eval s=v)(hown:aJ w base v l)(y:aD)(xb c:Nat)(hx:a.eval x=.slice (some ⟨xb,0,none⟩) 1 c)(Gl:w.heap[xb]? = some (.cells #[.int .u32 (y.t.toNat:Int),.int .u32 (y.h.toNat:Int),.int .u64 (y.x.toNat:Int),.int .u32 (y.m.toNat:Int)] 64))(hl:l.length<=100000)(hbase:base<=w.heap.size)(k:∀v' w',aJ w' base v' (l++[y])->mr v w w' v'->K (a.put o.dst v') w'):if Region.wanted o (yielded ops a.tmps)=true then Oper.wp prog o a w K Q else E:=by
 refine mC hgd s x 22 ho base 64 _ 4 24 Tryz.underlying22 rI rfl ag v l.length (dD l) hs hown ⟨xb,0,none⟩ 1 c y.cells hx rfl (fun j u hj=>?_) (by simp[Value.oneCell']) (by grind [maxLen]) af hbase (fun v' w' h1 h2=>k v' w' ?_ h2)
 ·rw[bI,Nat.zero_add,ar Gl];grind
 ·unfold aJ;rw[nY,List.length_append];exact h1
def pY(n:Nat)(x:aD):aD:=⟨UInt32.ofNat (x.t.toNat%n),UInt32.ofNat (x.h.toNat%n),UInt64.ofNat (x.x.toNat%288230376151711744),4294967295⟩
def iw(n:Nat)(es:List aD):List aD:=if n=0 then [] else (es.take 80).map (pY n)
theorem Eh{n:Nat}(x:aD):(pY n x).t.toNat=x.t.toNat%n/\(pY n x).h.toNat=x.h.toNat%n/\(pY n x).x.toNat=x.x.toNat%288230376151711744/\(pY n x).m.toNat=4294967295:=by
 have h1:=Nat.mod_le x.t.toNat n;have h2:=Nat.mod_le x.h.toNat n;have:=x.t.toNat_lt;have:=x.h.toNat_lt;refine⟨?_,?_,?_,rfl⟩
 ·show(UInt32.ofNat _).toNat=_;grind [UInt32.toNat_ofNat']
 ·show(UInt32.ofNat _).toNat=_;grind [UInt32.toNat_ofNat']
 ·show(UInt64.ofNat _).toNat=_;grind [UInt64.toNat_ofNat']
def xS(w:World)(n:Nat)(l:List aD)(e:Ending)(w':World):Prop:=
 ∃v,e=.returned (.tuple #[.int .i64 (n:Int),v])/\Below w.heap.size w w'/\aJ w' w.heap.size v l
theorem Ei{w:World}{ev:Value}{es:List aD}(N F:Nat)(hN:N<256)(he:kC w ev es) :
 Calls prog 29 #[.agg #[.int .u8 (N:Int),ev,.int .u8 (F:Int)]] w (xS w (N%25) (iw (N%25) es)):=by
 obtain⟨ea,ec,rfl,-⟩:=id he;have HE:=ae he;obtain⟨V,hV⟩:∃v,v=N%25:=⟨_,rfl⟩;have hN1:wrap64 (N:Int)=(N:Int):=by grind [wrap64]
 have hN2:(N:Int).tmod 25=(V:Int):=by grind
 have OH:Hid (V=N%25/\V<25):=ae ⟨hV,af⟩;rw[<- hV];obtain⟨M,hM⟩:∃m,m=es.length:=⟨_,rfl⟩;have HM:=ae hM;have kR:Hid (Below w.heap.size w (w.alloc (.cells #[.int .u8 (N:Int),.slice ea M ec,.int .u8 (F:Int)] 69))):=ae aj;have CT:Hid ((w.alloc (.cells #[.int .u8 (N:Int),.slice ea M ec,.int .u8 (F:Int)] 69)).heap[w.heap.size]? = some (.cells #[.int .u8 (N:Int),.slice ea M ec,.int .u8 (F:Int)] 69)):=ae (heap_alloc_new _ _);have HE0:Hid (kC (w.alloc (.cells #[.int .u8 (N:Int),.slice ea M ec,.int .u8 (F:Int)] 69)) (.slice ea M ec) es):=ae (by rw[hM];exact he.below aj);obtain⟨PST,mE⟩:∃P,P=xS w V (iw V es):=⟨_,rfl⟩;have xP:=ae mE;rw[<- mE];rw[<- hM];clear he hV hM mE hN;go_enter func29,ntmps29;go_wp2_with fail;generalize Y0:w.heap.size=wb at *;generalize w.alloc (.cells #[.int .u8 (N:Int),.slice ea M ec,.int .u8 (F:Int)] 69)=W0 at *;have Y1:Hid (w.heap.size=wb/\wb<W0.heap.size):=ae ⟨Y0,(Array.getElem?_eq_some_iff.1 CT.out).1⟩;clear Y0 hN1 hN2;go_loopw [5,6] (fun vl vi wr=>∃(k:Nat)(acc:List aD),vi=.int .i64 (k:Int)/\k<=M/\k<=80/\(k=0\/0<V)/\Hid (acc=(es.take k).map (pY V)/\Below W0.heap.size W0 wr/\aJ wr W0.heap.size vl acc)) (fun _ vi _=>80-(intOf vi).toNat)
 case atStart=>exact⟨0,[],rfl,Nat.zero_le _,af,.inl rfl,ae ⟨rfl,Below.refl _ _,World.ownsRow_nil _ _ _ _⟩⟩
 case round=>
  generalize u5=lv at *;obtain⟨k,acc,rfl,hk,hk8,Ka,HS⟩:=hrel;generalize wr=W1 at *;obtain⟨la,lc,rfl⟩:=aA HS.out.2.2;have Gc:W1.heap[wb]? = some (.cells #[.int .u8 (N:Int),.slice ea M ec,.int .u8 (F:Int)] 69):=(HS.out.2.1.block _ Y1.out.2).trans CT.out;have b1:W1.cell? ⟨wb,1,none⟩=some (.slice ea M ec):=by rw[ar Gc];rfl
  clear Gc;by_cases h1:k<M
  ·have h1z:(k:Int)<(M:Int):=by omega
   by_cases h2:k<80
   ·have h2z:(k:Int)<80:=by omega
    by_cases h3:0<V
    ·have wk:IntKind.i64.wrap ((k:Int)+1)=((k+1:Nat):Int):=by grind [aw]
     have wv:IntKind.u32.wrap (V:Int)=(V:Int):=by grind [Hid.out,eo]
     obtain⟨x,hx⟩:∃x,es[k]? = some x:=⟨_,List.getElem?_eq_getElem (by grind [Hid.out])⟩;have HX:=ae hx;obtain⟨a',cap',Cz,hce⟩:=HE0.out.below HS.out.2.1;obtain⟨rfl,-,rfl⟩:ea=a'/\M=es.length/\ec=cap':=by grind
     obtain⟨b,off,rfl,Qt⟩:=hce.resolve_left (by grind);obtain⟨q0,q1,q2,q3⟩:=Qt k _ hx;clear hce Qt Cz hx;obtain⟨y,hy⟩:∃y,y=pY V x:=⟨_,rfl⟩;have HY:=ae hy;obtain⟨y0,y1,y2,y3⟩:=Eh (n:=V) x;rw[<- hy]at y0 y1 y2 y3;have cO:Hid (Below W0.heap.size W0 (W1.alloc (.cells #[.int .u32 (x.t.toNat:Int),.int .u32 (x.h.toNat:Int),.int .u64 (x.x.toNat:Int),.int .u32 (x.m.toNat:Int)] 64))):=ae (HS.out.2.1.alloc HS.out.2.1.size _);have nN:Hid (aJ (W1.alloc (.cells #[.int .u32 (x.t.toNat:Int),.int .u32 (x.h.toNat:Int),.int .u64 (x.x.toNat:Int),.int .u32 (x.m.toNat:Int)] 64)) W0.heap.size (.slice la acc.length lc) acc):=ae (World.ownsRow.alloc HS.out.2.2 _);have WN:Hid ((W1.alloc (.cells #[.int .u32 (x.t.toNat:Int),.int .u32 (x.h.toNat:Int),.int .u64 (x.x.toNat:Int),.int .u32 (x.m.toNat:Int)] 64)).heap[W1.heap.size]? = some (.cells #[.int .u32 (x.t.toNat:Int),.int .u32 (x.h.toNat:Int),.int .u64 (x.x.toNat:Int),.int .u32 (x.m.toNat:Int)] 64)):=ae (heap_alloc_new _ _);have HL:Hid (acc=(es.take k).map (pY V)/\acc.length<=80):=ae ⟨HS.out.1,by grind [Hid.out]⟩;clear hy HS;go_wp2_with fail;clear q0 q1 q2 q3 b1;generalize W1.heap.size=xb at *;generalize W1.alloc (.cells #[.int .u32 (x.t.toNat:Int),.int .u32 (x.h.toNat:Int),.int .u64 (x.x.toNat:Int),.int .u32 (x.m.toNat:Int)] 64)=W2 at *;have x0:W2.cell? ⟨xb,0,none⟩=some (.int .u32 (x.t.toNat:Int)):=by rw[ar WN.out];rfl
     have x1:W2.cell? ⟨xb,1,none⟩=some (.int .u32 (x.h.toNat:Int)):=by rw[ar WN.out];rfl
     have x2:W2.cell? ⟨xb,2,none⟩=some (.int .u64 (x.x.toNat:Int)):=by rw[ar WN.out];rfl
     have e0:(x.t.toNat:Int)%(V:Int)=(y.t.toNat:Int):=by omega
     have e1:(x.h.toNat:Int)%(V:Int)=(y.h.toNat:Int):=by omega
     have e2:(x.x.toNat:Int)%288230376151711744=(y.x.toNat:Int):=by omega
     have t0:(x.t.toNat:Int).tmod (V:Int)=(y.t.toNat:Int):=by assumption
     have t1:(x.h.toNat:Int).tmod (V:Int)=(y.h.toNat:Int):=by assumption
     have t2:(x.x.toNat:Int).tmod 288230376151711744=(y.x.toNat:Int):=by assumption
     have e3:(4294967295:Int)=(y.m.toNat:Int):=by omega
     have h3n:¬V=0:=by omega
     clear y0 y1 y2 y3;have Tg:=World.block_lt_of_cell? _ _ x0;have HBD:Hid (∀ob,Below W2.heap.size W2 (W2.drew.alloc ob)):=ae (fun ob=>ak.drew.alloc (Nat.le_refl _) ob);have HBZ:Hid (W0.heap.size<=W2.heap.size):=ae cO.out.size;go_region_law (refine xR rfl _ _ rfl W0.heap.size _ acc rfl (World.ownsRow.alloc (World.ownsRow.drew nN.out) _) y _ 1 rfl (heap_alloc_new _ _) (by have:=HL.out;omega) (Nat.le_trans HBZ.out (HBD.out _).size) ?_;intro v5 w5 h5 ha;have HA5:=ae ha;have Vp:=ae h5;clear ha h5)
     all_goals
      obtain⟨v5a,v5c,U5⟩:=aA Vp.out;subst U5;have eP:Hid (acc++[y]=(es.take (k+1)).map (pY V)/\Below W0.heap.size W0 w5/\aJ w5 W0.heap.size (.slice v5a (acc++[y]).length v5c) (acc++[y])):=ae ⟨by
       rw[HL.out.1,HY.out,List.take_add_one,HX.out,List.map_append];rfl,(gP (cO.out.trans ((HBD.out _).mono HBZ.out)) (fun b hb=>aI nN.out b hb) HA5.out).1,Vp.out⟩
      clear HA5 Vp nN HBD t0 t1 t2 e0 e1 e2 e3 x0 x1 x2 Tg;generalize (acc++[y]).length=L5 at *;go_wp2_with fail;go_roundw
      case rel=>grind
      grind [intOf]
    ·have h3z:¬(V:Int)>0:=by omega
     have HQ:Hid (PST (.returned (.tuple #[.int .i64 (V:Int),.slice la acc.length lc])) W1):=ae (by
      rw[xP.out];obtain rfl:k=0:=by omega
      have hb:=kR.out;have hs:=HS.out;rw[Y1.out.1.symm]at hb;refine⟨_,rfl,hb.trans (hs.2.1.mono hb.size),?_⟩;grind [iw,aU,Below.size])
     clear HS;go_wp2;exact HQ.out
   ·have h2z:¬(k:Int)<80:=by omega
    have HQ:Hid (PST (.returned (.tuple #[.int .i64 (V:Int),.slice la acc.length lc])) W1):=ae (by
     rw[xP.out];obtain rfl:k=80:=by omega
     have hb:=kR.out;have hs:=HS.out;rw[Y1.out.1.symm]at hb;refine⟨_,rfl,hb.trans (hs.2.1.mono hb.size),?_⟩;grind [iw,aU,Below.size])
    clear HS;go_wp2;exact HQ.out
  ·have h1z:¬(k:Int)<(M:Int):=by omega
   have HQ:Hid (PST (.returned (.tuple #[.int .i64 (V:Int),.slice la acc.length lc])) W1):=ae (by
    rw[xP.out];obtain rfl:k=M:=by omega
    have hb:=kR.out;have hs:=HS.out;rw[Y1.out.1.symm]at hb;refine⟨_,rfl,hb.trans (hs.2.1.mono hb.size),?_⟩;have e1:acc=iw V es:=by
     rw[hs.1];unfold iw;grind [Hid.out]
    grind [aU,Below.size])
   clear HS;go_wp2;exact HQ.out
end
end Go.Proofs.YthkkgdpomhhjjaaGreatDoor
