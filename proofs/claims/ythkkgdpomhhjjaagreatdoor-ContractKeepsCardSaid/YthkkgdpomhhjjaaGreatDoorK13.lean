/-
  Joined.
-/
import Derived.Test.YthkkgdpomhhjjaaGreatDoorK12
set_option maxRecDepth 100000
set_option maxHeartbeats 32000000
namespace Go.Proofs.YthkkgdpomhhjjaaGreatDoor
open Go.Proofs.Tryz
section
open Go.RowKit Go.Maps
open Go.ChangeMaps (setBlock)
theorem FI(S:List Nat)(x:Nat):aB (S.map fun x=>(x,())) x=if x∈S then some () else none:=by
 have h:=rN S x;unfold qh at h;cases e:aB (S.map fun x=>(x,())) x with
 |none=>
   grind
 |some u=>
   grind
abbrev bF(w:World)(base:Nat)(v:Value)(l:List Nat):Prop:=w.ownsRow base 26 1 v l.length (l.map je)
theorem TK:(prog.info? 26).map (fun i=>(i.zero,i.size,i.bytes))=some (some (.int .u32 0),1,4):=by kernel_rfl
theorem iG{w:World}{base g cap:Nat}{l:List Nat}{i x:Nat}(h:bF w base (.slice (some ⟨g,0,none⟩) l.length cap) l)(hi:l[i]? = some x):w.cell? ⟨g,i,none⟩=some (.int .u32 (x:Int)):=by
 have:=World.ownsRow.cells h (g:=g) rfl i (je x) (by grind);grind [bI]
section
variable {w:World} {ops:Array Oper} {rest:List Oper} {op:Oper} {a:Act} {Q:Exit->Act->World->Prop}
theorem nI(hgd:op.guard=none)(s x:Operand)(ho:op.op=.call { callee:=.builtin .append,args:=#[s,x],argTypes:=#[88,88] })(base:Nat)(v:Value)(l:List Nat)(hs:a.eval s=v)(hown:bF w base v l)(y c:Nat)(hx:a.eval x=.slice (some ⟨w.heap.size,0,none⟩) 1 c)(hl:l.length<=100000)(hbase:base<=w.heap.size)(k:∀v' w',bF w' base v' (l++[y])->mr v (w.alloc (.cells #[.int .u32 (y:Int)] 26)) w' v'->wpList prog ops Q rest (a.put op.dst v') w') :
 wpList prog ops Q (op::rest) a (w.alloc (.cells #[.int .u32 (y:Int)] 26)):=by
 refine dO hgd s x 88 ho base 26 _ 1 4 Tryz.underlying88 TK rfl ag v l.length (l.map je) hs (World.ownsRow.alloc hown _) ⟨w.heap.size,0,none⟩ 1 c [je y] hx rfl (fun j u hj=>?_) (by simp[Value.oneCell']) (by grind [maxLen]) af (by simp;omega) (fun v' w' h1 h2=>k v' w' ?_ h2)
 ·rw[bI,Nat.zero_add];simp_all
 grind
end
abbrev TL(w:World)(b:Nat)(S:List Nat):Prop:=bS prog 26 je (fun _:Unit=>Value.int .i64 1) w b (S.map fun x=>(x,()))
structure jF(W:World)(base mc lc mb:Nat)(lv:Value)(acc:List Nat):Prop where
 c1:W.heap[mc]? = some (.cells #[.map (some mb)] 237)
 c2:W.heap[lc]? = some (.cells #[lv] 88)
 mp:TL W mb acc.reverse
 row:bF W base lv acc
 n1:mc≠lc
 n2:mc≠mb
 n3:lc≠mb
 n4:∀b,lv.ownBlock=some b->b≠mc/\b≠lc/\b≠mb
section
variable {W W':World} {base mc lc mb:Nat} {lv:Value} {acc:List Nat}
theorem jF.lt(h:jF W base mc lc mb lv acc):mc<W.heap.size/\lc<W.heap.size/\mb<W.heap.size/\∀b,lv.ownBlock=some b->b<W.heap.size:=
 ⟨(Array.getElem?_eq_some_iff.1 h.c1).1,(Array.getElem?_eq_some_iff.1 h.c2).1,h.mp.lt,fun b hb=>(aL h.row b hb).1⟩
theorem jF.kept(h:jF W base mc lc mb lv acc)(hk:∀b,b=mc\/b=lc\/b=mb\/lv.ownBlock=some b->W'.heap[b]? = W.heap[b]?):jF W' base mc lc mb lv acc:=
 ⟨(hk _ (.inl rfl)).trans h.c1,(hk _ (.inr (.inl rfl))).trans h.c2,h.mp.kept (hk _ (.inr (.inr (.inl rfl)))),bH h.row (fun b hb=>hk b (.inr (.inr (.inr hb)))),h.n1,h.n2,h.n3,h.n4⟩
theorem jF.below(h:jF W base mc lc mb lv acc)(hb:Below W.heap.size W W'):jF W' base mc lc mb lv acc:=by
 obtain⟨l1,l2,l3,l4⟩:=h.lt;grind [kept,Below.block]
def iH(acc:List Nat)(x:Nat):List Nat:=if x∈acc then acc else acc++[x]
def Xb(W:World)(base mc lc mb:Nat)(lv:Value)(acc:List Nat)(x:Nat)(e:Ending)(W':World):Prop:=
 ∃J7,e=.returned (.tuple #[])/\jF W' base mc lc mb J7 (iH acc x)/\aG (fun b=>b=mb\/b=lc\/lv.ownBlock=some b) W W'/\∀b,J7.ownBlock=some b->lv.ownBlock=some b\/W.heap.size<=b
theorem jF.added(h:jF W base mc lc mb lv acc){x:Nat}{r9 ob2:Obj}{w5:World}{v5:Value}(hm:TL (setBlock W mb r9) mb (acc++[x]).reverse)(ha:mr lv ((setBlock W mb r9).alloc ob2) w5 v5)(h5:bF w5 base v5 (acc++[x])) :
 w5.heap[lc]? = some (.cells #[lv] 88)/\jF (w5.setCell ⟨lc,0,none⟩ v5) base mc lc mb v5 (acc++[x])/\aG (fun b=>b=mb\/b=lc\/lv.ownBlock=some b) W (w5.setCell ⟨lc,0,none⟩ v5)/\∀b,v5.ownBlock=some b->lv.ownBlock=some b\/W.heap.size<=b:=by
 obtain⟨l1,l2,l3,l4⟩:=h.lt;obtain⟨hg,hv⟩:=ha;have hs:(setBlock W mb r9).heap.size=W.heap.size:=by grind [setBlock]
 have mJ:aG (fun b=>b=mb\/b=lc\/lv.ownBlock=some b) W ((setBlock W mb r9).alloc ob2):=((aG.refl _ W).setBlock _ _ af).alloc _;have oJ:aG (fun b=>lv.ownBlock=some b) ((setBlock W mb r9).alloc ob2) w5:=⟨hg.os,hg.tape,hg.output,hg.size,fun k hk hn=>hg.block k hk (by grind)⟩;have hz:∀b,b<W.heap.size->b<((setBlock W mb r9).alloc ob2).heap.size:=fun b hb=>by simp;omega
 have hk:∀b,b<W.heap.size->b≠mb->lv.ownBlock≠some b->w5.heap[b]? = W.heap[b]? := fun b hb h1 h2=>by
  grind [aG.block,MapKept.heap_alloc,bg]
 have e5:=(hk lc l2 h.n3 (fun e=>(h.n4 lc e).2.1 rfl)).trans h.c2;have Y8:∀b,v5.ownBlock=some b->lv.ownBlock=some b\/W.heap.size<=b:=(by grind);have hne:∀b,v5.ownBlock=some b->b≠mc/\b≠lc/\b≠mb:=fun b hb=>by
  grind [n4]
 have hmb:w5.heap[mb]? = (setBlock W mb r9).heap[mb]? := by
  grind [aG.block,n4,MapKept.heap_alloc]
 refine⟨e5,⟨?_,aT e5 0 v5,?_,?_,h.n1,h.n2,h.n3,hne⟩,(mJ.trans oJ (by grind)).setCell _ _ (by grind),Y8⟩
 ·grind [Below.heap_setCell,n2,n4,c1]
 ·grind [bS.kept,Below.heap_setCell,n3]
 grind [bH,Below.heap_setCell]
theorem PA(h:jF W base mc lc mb lv acc)(x:Nat)(hx:x<4294967296)(hl:acc.length<=100000)(hbase:base<=W.heap.size) :
 Calls prog 145 #[.int .u32 (x:Int),.pointer (some ⟨mc,0,none⟩),.pointer (some ⟨lc,0,none⟩)] W (Xb W base mc lc mb lv acc x):=by
 obtain⟨la,lk,rfl⟩:=aA h.row;have H:=ae h;have HG:=ae (fU hx);have HZ:Hid (∀W,(zeroValue 3).run prog W=.ok (.int .i64 0) W):=(by simp_all);have c0:W.cell? ⟨mc,0,none⟩=some (.map (some mb)):=by rw[ar h.c1];rfl
 have c1:W.cell? ⟨lc,0,none⟩=some (.slice la acc.length lk):=by rw[ar h.c2];rfl
 have HL:=ae hl;have HBA:=ae hbase;clear h hl hbase;by_cases oC:x∈acc
 ·have HM:Hid (aB (acc.reverse.map fun x=>(x,())) x=some ()):=ae (by grind [FI]);have HO:Hid (iH acc x=acc):=ae (if_pos oC);clear oC;go_enter func145,ntmps145;go_wp2_with (at_lookup;refine bY _ rfl _ _ _ _ rfl 3 cd dr Tryz.underlying237 (HZ.out _) mb _ rfl H.out.mp x rfl HG.out ?_;rw[HM.out];simp only[Option.map_some,Option.getD_some,Bool.false_eq_true,if_false]);go_returns;exact⟨_,rfl,by grind [Hid.out],aG.refl _ _,fun b hb=>.inl hb⟩
 ·have HM:Hid (aB (acc.reverse.map fun x=>(x,())) x=none):=ae (by grind [FI]);have HO:Hid (iH acc x=acc++[x]):=ae (if_neg oC);have nO:Hid (aS (acc.reverse.map fun x=>(x,())) x ()=(acc++[x]).reverse.map fun x=>(x,())):=ae (by grind [FE]);clear oC;go_enter func145,ntmps145;go_wp2_with (first | (at_lookup;refine bY _ rfl _ _ _ _ rfl 3 cd dr Tryz.underlying237 (HZ.out _) mb _ rfl H.out.mp x rfl HG.out ?_;rw[HM.out];simp only[Option.map_none,Option.getD_none,Bool.false_eq_true,if_false]) | (at_mapUpdate;refine eL _ rfl _ _ _ _ rfl 3 cd dr Tryz.underlying237 mb _ rfl H.out.mp x () rfl rfl HG.out ?_;intro es clock cT;rw[nO.out]at cT;have eV:=ae cT;clear cT;have d1:(setBlock W mb (.map es clock)).cell? ⟨lc,0,none⟩=some (.slice la acc.length lk):=(by rw[World.cell?_of_block (a:=⟨lc,0,none⟩) (bg (w:=W) (b:=mb) (.map es clock) H.out.n3)];exact c1);have GF:Hid (bF (setBlock W mb (.map es clock)) base (.slice la acc.length lk) acc):=ae (bH H.out.row (fun b hb=>bg _ (H.out.n4 b hb).2.2));have cY:Hid (base<=(setBlock W mb (.map es clock)).heap.size):=ae (by grind [setBlock,Hid.out])) | (at_builtin;refine nI rfl _ _ rfl base _ acc rfl GF.out x 1 rfl HL.out cY.out ?_;intro v5 w5 h5 ha;obtain⟨e5,hst,zr,CL⟩:=H.out.added eV.out ha h5;obtain⟨a5,k5,rfl⟩:=aA h5;have HQ:=ae (show _/\_/\_ from⟨hst,zr,CL⟩);have d5:w5.cell? ⟨lc,0,none⟩=some (.slice la acc.length lk):=(by rw[ar e5];rfl);have f5 :=fun k=>aO e5 k;clear hst zr CL h5 ha e5));rw[show(acc++[x]).length=acc.length+1 by simp]at HQ;go_returns;exact⟨_,rfl,by grind [Hid.out],HQ.out.2.1,HQ.out.2.2⟩
theorem PB(acc:List Nat)(x y:Nat)(h:y∈iH acc x):y∈acc\/y=x:=by
 grind [iH]
theorem FJ(acc:List Nat)(x:Nat):(iH acc x).length<=acc.length+1:=by
 grind [iH]
end
section
variable {w0 w w' W:World} {pb db n gb gen N ob ib vb rb:Nat} {o o':au} {d d':Dsk} {L:aH} {es:List aD}
def Bt(n pb db:Nat)(w:World)(o:au)(d:Dsk)(L:aH)(l:List Nat)(e:Ending)(w':World):Prop:=
 ∃v d' o',e=.returned (.tuple #[v,.int .i64 0])/\Moved (fun _=>False) n pb db w o d w' o' d' L/\bF w' w.heap.size v l/\∀x,v.ownBlock=some x->o' x=none
theorem Eb{l:List Nat}{acc:List Nat}{j x:Nat}(h:l[j]? = some x):(l.take (j+1)).foldl iH acc=iH ((l.take j).foldl iH acc) x:=by
 grind [List.take_succ_eq_append_getElem]
theorem nJ{l:List Nat}{acc:List Nat}:(l.foldl iH acc).length<=acc.length+l.length:=by
 induction l generalizing acc with
 |nil=>simp
 |cons x l ih=>
   grind [FJ]
theorem Bu(es:List aD)(v:Nat):cV es v=((fJ es v).map (·.t.toNat)).foldl iH (((aX es v).map (·.h.toNat)).foldl iH []):=by
 unfold cV Tx;rw[List.foldl_append];rfl
structure kW(n pb db:Nat)(w:World)(o:au)(d:Dsk)(L:aH)(W0:World)(mc lc mb:Nat)(r1 r2:Value)(acc:List Nat)(W:World)(o':au)(d':Dsk):Prop where
 mv:Moved (fun _=>False) n pb db w o d W o' d' L
 st:∃lv,jF W w.heap.size mc lc mb lv acc/\∀b,b=mc\/b=lc\/b=mb\/lv.ownBlock=some b->w.heap.size<=b/\o' b=none/\r1.ownBlock≠some b/\r2.ownBlock≠some b
 Vc:∀b,r1.ownBlock=some b\/r2.ownBlock=some b->W.heap[b]? = W0.heap[b]? /\ b<W.heap.size
variable {W0 W':World} {mc lc mb:Nat} {r1 r2:Value} {acc:List Nat}
theorem kW.below(h:kW n pb db w o d L W0 mc lc mb r1 r2 acc W o' d')(hb:Below W.heap.size W W'):kW n pb db w o d L W0 mc lc mb r1 r2 acc W' o' d':=by
 obtain⟨lv,h1,h2⟩:=h.st;exact⟨h.mv.below hb,⟨lv,h1.below hb,h2⟩,fun b hr=>⟨(hb.block b (h.Vc b hr).2).trans (h.Vc b hr).1,Nat.lt_of_lt_of_le (h.Vc b hr).2 hb.size⟩⟩
theorem kW.add(h:kW n pb db w o d L W0 mc lc mb r1 r2 acc W o' d')(x:Nat)(hx:x<4294967296)(hl:acc.length<=100000) :
 Calls prog 145 #[.int .u32 (x:Int),.pointer (some ⟨mc,0,none⟩),.pointer (some ⟨lc,0,none⟩)] W fun e W'=>e=.returned (.tuple #[])/\kW n pb db w o d L W0 mc lc mb r1 r2 (iH acc x) W' o' d':=by
 obtain⟨lv,h1,h2⟩:=h.st;refine(PA h1 x hx hl h.mv.size).mono ?_;rintro e W'⟨J7,rfl,hst,zr,CL⟩;have hB:∀b,(b=mb\/b=lc\/lv.ownBlock=some b)->(b=mc\/b=lc\/b=mb\/lv.ownBlock=some b):=(by grind);refine⟨rfl,h.mv.zB (by grind) zr,⟨J7,hst,fun b e=>?_⟩,fun b hr=>⟨(zr.block b (h.Vc b hr).2 (fun e=>?_)).trans (h.Vc b hr).1,Nat.lt_of_lt_of_le (h.Vc b hr).2 zr.size⟩⟩
 ·rcases e with e | e | e | e
  ·grind
  ·grind
  ·grind
  ·rcases CL b e with e | e
   ·grind
   ·exact⟨Nat.le_trans h.mv.size e,h.mv.aY.fresh e,fun e'=>by have:=(h.Vc b (.inl e')).2;omega,fun e'=>by have:=(h.Vc b (.inr e')).2;omega⟩
 grind
end
end
section
open Go.RowKit Go.Maps
open Go.ChangeMaps (setBlock)
section
variable {w0 w w' W:World} {pb db n gb gen N ob ib vb rb:Nat} {o o':au} {d d':Dsk} {L:aH} {es:List aD}
theorem Jm(HW:aP)(h:fN w0 w pb db n o d L gb gen N ob ib vb es)(v:Nat)(hv:v<N){cs:Array Value}{t:TypeId}(hr:w.heap[rb]? = some (.cells cs t))(hc:cs[1]? = some (ptrTo gb))(hro:o rb=none) :
 Calls prog 98 #[ptrTo rb,.int .u32 (v:Int)] w (Bt n pb db w o d L (cV es v)):=by
 have H:=ae h;have hout:=ae (h.out HW hv);have HI:Hid (∀W o' d',Moved (fun _=>False) n pb db w o d W o' d' L->Calls prog 22 #[ptrTo gb,.int .u32 (v:Int)] W (jD n pb db W o' d' L (fJ es v))/\W.cell? ⟨rb,1,none⟩=some (ptrTo gb)):=ae (fun W o' d' hm=>⟨(h.moved hm).rV HW hv,by grind [ar,Moved.heap]⟩);have c0:w.cell? ⟨rb,1,none⟩=some (ptrTo gb):=by grind [ar]
 have tL:∀(t:TypeId)(W:World),(Instr.makeMap t none).run prog W=.ok (.map (some W.heap.size)) (W.alloc (.map #[] 0)):=fun _ _=>rfl;clear h hr hc hro;unfold jD ptrTo at *;go_enter func98,ntmps98;go_wp2_with fail;refine hout.out.mono ?_;rintro e w1⟨ov,d1,o1,rfl,ej,lp,sY⟩;obtain⟨oa,oc,rfl⟩:=aA lp;obtain⟨oC,c1⟩:=HI.out _ _ _ ej;have HIN:=ae oC;have e9:=ae ej;have DF:=ae lp;have RJ:=ae sY;clear ej lp sY hout oC c0 HI;go_wp2_with fail;refine HIN.out.mono ?_;rintro e w2⟨iv,d2,o2,rfl,cT,Dl,hf2⟩;obtain⟨ia,ic,rfl⟩:=aA Dl;obtain⟨M1,OB⟩:∃M,M=(aX es v).length:=⟨_,rfl⟩;obtain⟨M2,Qi⟩:∃M,M=(fJ es v).length:=⟨_,rfl⟩;have HM:Hid (M1=(aX es v).length/\M2=(fJ es v).length/\M1<=1000/\M2<=1000):=ae ⟨OB,Qi,by rw[OB];exact Nat.le_trans (nH _ _) H.out.len,by rw[Qi];exact Nat.le_trans (Bq _ _) H.out.len⟩;have qo:Hid (aJ w2 w.heap.size (.slice oa M1 oc) (aX es v)/\aJ w2 w.heap.size (.slice ia M2 ic) (fJ es v)):=ae ⟨by grind [Moved.ownsRow,Hid.out],by rw[Qi];exact aU Dl e9.out.size⟩;have Qo:=ae (e9.out.trans cT (by grind));rw[<- OB,<- Qi];clear OB Qi cT Dl hf2 HIN c1 DF RJ e9;obtain⟨mb,hmb⟩:∃x,x=w2.heap.size:=⟨_,rfl⟩;obtain⟨mc,hmc⟩:∃x,x=w2.heap.size+1:=⟨_,rfl⟩;obtain⟨lc,hlc⟩:∃x,x=w2.heap.size+1+1:=⟨_,rfl⟩;have JY:Hid (kW n pb db w o d L (((w2.alloc (.map #[] 0)).alloc (.cells #[.map (some w2.heap.size)] 237)).alloc (.cells #[.slice none 0 0] 88)) mc lc mb (.slice oa M1 oc) (.slice ia M2 ic) [] (((w2.alloc (.map #[] 0)).alloc (.cells #[.map (some w2.heap.size)] 237)).alloc (.cells #[.slice none 0 0] 88)) o2 d2):=ae (by
  subst hmb hmc hlc;have hz:=Qo.out.size;have hb:Below w2.heap.size w2 (((w2.alloc (.map #[] 0)).alloc (.cells #[.map (some w2.heap.size)] 237)).alloc (.cells #[.slice none 0 0] 88)):=((ak.alloc af _).alloc ai _).alloc (by simp;omega) _;have hr:∀b,(Value.slice oa M1 oc).ownBlock=some b\/(Value.slice ia M2 ic).ownBlock=some b->b<w2.heap.size:=fun b hb=>hb.elim (fun e=>(aL qo.out.1 b e).1) (fun e=>(aL qo.out.2 b e).1);refine⟨Qo.out.below hb,⟨.slice none 0 0,⟨?_,?_,?_,World.ownsRow_nil _ _ _ _,af,af,af,fun b e=>by cases e⟩,fun b hb'=>?_⟩,fun b hb'=>⟨rfl,Nat.lt_of_lt_of_le (hr b hb') hb.size⟩⟩
  ·grind [World.alloc]
  ·grind [World.alloc]
  ·exact((bS.made w2 prog 26 je (fun _:Unit=>Value.int .i64 1)).kept ((MapKept.heap_alloc _ _).2 _ ai)).kept ((MapKept.heap_alloc _ _).2 _ (by simp;omega))
  ·have yR:w2.heap.size<=b:=by
    rcases hb' with e | e | e | e
    ·omega
    ·omega
    ·omega
    ·cases e
   exact⟨af,Qo.out.aY.fresh yR,(by grind),(by grind)⟩)
 have BS:Hid (aJ (((w2.alloc (.map #[] 0)).alloc (.cells #[.map (some w2.heap.size)] 237)).alloc (.cells #[.slice none 0 0] 88)) w.heap.size (.slice oa M1 oc) (aX es v)/\aJ (((w2.alloc (.map #[] 0)).alloc (.cells #[.map (some w2.heap.size)] 237)).alloc (.cells #[.slice none 0 0] 88)) w.heap.size (.slice ia M2 ic) (fJ es v)):=ae (by
  have hb:Below w2.heap.size w2 (((w2.alloc (.map #[] 0)).alloc (.cells #[.map (some w2.heap.size)] 237)).alloc (.cells #[.slice none 0 0] 88)):=(aj.alloc ai _).alloc (by simp;omega) _;grind [aW,Hid.out])
 clear qo Qo;go_wp2_with fail;rw[<- hlc,<- hmc];generalize ((w2.alloc (.map #[] 0)).alloc (.cells #[.map (some w2.heap.size)] 237)).alloc (.cells #[.slice none 0 0] 88)=W3 at *;clear hmb hmc hlc tL;have HL:Hid (([]:List Nat).length<=1000):=ae ai;go_loopw [44] (fun vi wr=>∃j:Nat,vi=.int .i64 (j:Int)/\j<=M1/\Hid (kW n pb db w o d L W3 mc lc mb (.slice oa M1 oc) (.slice ia M2 ic) ((((aX es v).map (·.h.toNat)).take j).foldl iH []) wr o2 d2)) (fun vi _=>M1-(intOf vi).toNat)
 case atStart=>grind
 case round=>
  obtain⟨j,rfl,hj,HN⟩:=hrel;generalize wr=Wra at *;by_cases hlt:j<M1
  ·have JX:(j:Int)<(M1:Int):=by omega
   have wj:IntKind.i64.wrap ((j:Int)+1)=((j+1:Nat):Int):=by grind [Hid.out,aw]
   obtain⟨x,hx⟩:∃x,(aX es v)[j]? = some x:=⟨_,List.getElem?_eq_getElem (by grind [Hid.out])⟩;have HX:Hid (((aX es v).map (·.h.toNat))[j]? = some x.h.toNat/\x.h.toNat<4294967296):=ae ⟨by grind,x.h.toNat_lt⟩;obtain⟨g,rfl⟩:∃g,oa=some ⟨g,0,none⟩:=by
    obtain⟨-,⟨h1,h2⟩|⟨g,_,_,h1,_⟩⟩:=BS.out.1
    ·grind
    grind
   have hrow:aJ Wra w.heap.size (.slice (some ⟨g,0,none⟩) (aX es v).length oc) (aX es v):=by rw[<- HM.out.1];exact bH BS.out.1 (fun b hb=>(HN.out.Vc b (.inl hb)).1)
   obtain⟨q0,q1,q2,q3⟩:=bK hrow hx;have Xc:=ae (HN.out.below (ak.alloc (Nat.le_refl _) (.cells #[.int .u32 (x.t.toNat:Int),.int .u32 (x.h.toNat:Int),.int .u64 (x.x.toNat:Int),.int .u32 (x.m.toNat:Int)] 64)));have lq:=ae (Xc.out.add x.h.toNat HX.out.2 (by grind [nJ,Hid.out]));clear hrow hx HN;go_wp2_with fail;refine lq.out.mono ?_;rintro e w5⟨rfl,J4⟩;have Pp:Hid (kW n pb db w o d L W3 mc lc mb (.slice (some ⟨g,0,none⟩) M1 oc) (.slice ia M2 ic) ((((aX es v).map (·.h.toNat)).take (j+1)).foldl iH []) w5 o2 d2):=ae (by grind [Eb,Hid.out]);clear q0 q1 q2 q3 lq J4 Xc;go_wp2;grind [intOf]
  ·have JX:¬(j:Int)<(M1:Int):=by omega
   obtain⟨A1,hA1⟩:∃A,A=((aX es v).map (·.h.toNat)).foldl iH []:=⟨_,rfl⟩;have HA1:=ae hA1;have UY:Hid (kW n pb db w o d L W3 mc lc mb (.slice oa M1 oc) (.slice ia M2 ic) A1 Wra o2 d2):=ae (by
    grind [Hid.out,List.length_map])
   have JU:Hid (A1.length<=1000):=ae (by grind [nJ,Hid.out]);clear hA1 HN HL JY;have HL:=JU;clear JU;go_wp2_with fail;go_loopw [55] (fun vi wr=>∃j:Nat,vi=.int .i64 (j:Int)/\j<=M2/\Hid (kW n pb db w o d L W3 mc lc mb (.slice oa M1 oc) (.slice ia M2 ic) ((((fJ es v).map (·.t.toNat)).take j).foldl iH A1) wr o2 d2)) (fun vi _=>M2-(intOf vi).toNat)
   case atStart=>grind
   case round=>
    obtain⟨j,rfl,hj,HN⟩:=hrel;generalize wr=Wrb at *;by_cases hlt:j<M2
    ·have JX:(j:Int)<(M2:Int):=by omega
     have wj:IntKind.i64.wrap ((j:Int)+1)=((j+1:Nat):Int):=by grind [Hid.out,aw]
     obtain⟨x,hx⟩:∃x,(fJ es v)[j]? = some x:=⟨_,List.getElem?_eq_getElem (by grind [Hid.out])⟩;have HX:Hid (((fJ es v).map (·.t.toNat))[j]? = some x.t.toNat/\x.t.toNat<4294967296):=ae ⟨by grind,x.t.toNat_lt⟩;obtain⟨g,rfl⟩:∃g,ia=some ⟨g,0,none⟩:=by
      obtain⟨-,⟨h1,h2⟩|⟨g,_,_,h1,_⟩⟩:=BS.out.2
      ·grind
      grind
     have hrow:aJ Wrb w.heap.size (.slice (some ⟨g,0,none⟩) (fJ es v).length ic) (fJ es v):=by rw[<- HM.out.2.1];exact bH BS.out.2 (fun b hb=>(HN.out.Vc b (.inr hb)).1)
     obtain⟨q0,q1,q2,q3⟩:=bK hrow hx;have Xc:=ae (HN.out.below (ak.alloc (Nat.le_refl _) (.cells #[.int .u32 (x.t.toNat:Int),.int .u32 (x.h.toNat:Int),.int .u64 (x.x.toNat:Int),.int .u32 (x.m.toNat:Int)] 64)));have lq:=ae (Xc.out.add x.t.toNat HX.out.2 (by grind [nJ,Hid.out]));clear hrow hx HN;go_wp2_with fail;refine lq.out.mono ?_;rintro e w5⟨rfl,J4⟩;have Pp:Hid (kW n pb db w o d L W3 mc lc mb (.slice oa M1 oc) (.slice (some ⟨g,0,none⟩) M2 ic) ((((fJ es v).map (·.t.toNat)).take (j+1)).foldl iH A1) w5 o2 d2):=ae (by grind [Eb,Hid.out]);clear q0 q1 q2 q3 lq J4 Xc;go_wp2;grind [intOf]
    ·have hjy:¬(j:Int)<(M2:Int):=by omega
     have HE:Hid ((((fJ es v).map (·.t.toNat)).take j).foldl iH A1=cV es v):=ae (by
      grind [List.length_map,Hid.out,Bu])
     obtain⟨lv,hs,hl⟩:=HN.out.st;have z0:Wrb.cell? ⟨lc,0,none⟩=some lv:=by rw[ar hs.c2];rfl
     have HQ:Hid (Bt n pb db w o d L (cV es v) (.returned (.tuple #[lv,.int .i64 0])) Wrb):=ae ⟨lv,d2,o2,rfl,HN.out.mv,by rw[<- HE.out];exact hs.row,fun x hx=>(hl x (.inr (.inr (.inr hx)))).2.1⟩;obtain⟨la,lk,rfl⟩:=aA hs.row;have z1:=hs.lt.2.1;clear hs hl HN HE;go_wp2;go_returns;exact HQ.out
end
end
section
open Go.RowKit Go.Maps
section
variable {S:Nat->Prop} {w0 w w' W W':World} {pb db n gb gen N ob ib vb rb done:Nat} {o o' gY:au} {d d' ig:Dsk} {L L':aH} {es:List aD} {vs acc:List cj} {x4 x5 x6 vv vv':Value}
def dx(w:World)(rb pb gb gen done:Nat)(x4 x5 x6:Value):Prop:=w.heap[rb]? = some (.cells #[ptrTo pb,ptrTo gb,.int .i64 (gen:Int),.int .u32 (done:Int),x4,x5,x6] 133)
structure q9(w0 w:World)(o:au)(rb gb ob ib vb:Nat):Prop where
 new:w0.heap.size<=rb
 lt:rb<w.heap.size
 free:o rb=none
 graph:gb<rb/\ob<rb/\ib<rb/\vb<rb
theorem dx.lt(h:dx w rb pb gb gen done x4 x5 x6):rb<w.heap.size:=(Array.getElem?_eq_some_iff.1 h).1
theorem dx.below(h:dx w rb pb gb gen done x4 x5 x6)(hb:Below w.heap.size w w'):dx w' rb pb gb gen done x4 x5 x6:=(hb.block _ h.lt).trans h
theorem dx.moved(h:dx w rb pb gb gen done x4 x5 x6)(ho:o rb=none)(hm:Moved (fun _=>False) n pb db w o d w' o' d' L'):dx w' rb pb gb gen done x4 x5 x6:=hm.heap h ho (fun e=>e)
theorem dx.cells(h:dx w rb pb gb gen done x4 x5 x6):w.cell? ⟨rb,0,none⟩=some (ptrTo pb)/\w.cell? ⟨rb,1,none⟩=some (ptrTo gb)/\w.cell? ⟨rb,2,none⟩=some (.int .i64 (gen:Int))/\w.cell? ⟨rb,3,none⟩=some (.int .u32 (done:Int))/\w.cell? ⟨rb,4,none⟩=some x4/\w.cell? ⟨rb,5,none⟩=some x5/\w.cell? ⟨rb,6,none⟩=some x6/\∀k,w.frozen? ⟨rb,k,none⟩=false:=
 ⟨by rw[ar h];rfl,by rw[ar h];rfl,by rw[ar h];rfl,by rw[ar h];rfl,by rw[ar h];rfl,by rw[ar h];rfl,by rw[ar h];rfl,fun k=>aO h k⟩
theorem dx.ak9(h:dx w rb pb gb gen done x4 x5 x6)(v:Value):dx (w.setCell ⟨rb,4,none⟩ v) rb pb gb gen done v x5 x6:=aT h 4 v
theorem dx.ala(h:dx w rb pb gb gen done x4 x5 x6)(v:Value):dx (w.setCell ⟨rb,5,none⟩ v) rb pb gb gen done x4 v x6:=aT h 5 v
theorem dx.alb(h:dx w rb pb gb gen done x4 x5 x6)(v:Value):dx (w.setCell ⟨rb,6,none⟩ v) rb pb gb gen done x4 x5 v:=aT h 6 v
theorem q9.moved(h:q9 w0 w o rb gb ob ib vb)(hm:Moved S n pb db w o d w' o' d' L'):q9 w0 w' o' rb gb ob ib vb:=⟨h.new,Nat.lt_of_lt_of_le h.lt hm.size,hm.free h.lt h.free,h.graph⟩
theorem fN.FK(h:fN w0 w pb db n o d L gb gen N ob ib vb es)(hr:q9 w0 w o rb gb ob ib vb)(hm:Moved (·=rb) n pb db w o d w' o' d' L):fN w0 w' pb db n o' d' L gb gen N ob ib vb es:=
 ⟨h.held.moved hm (fun _ e=>e▸hr.new),h.need,by
  have hg:=h.gr;obtain⟨l1,l2,l3,l4⟩:=hr.graph;exact⟨hg.raw.moved hm hg.Ys af,hg.out.moved hm hg.S0 af,hg.rV.moved hm hg.Wp af,hg.sH.moved hm hg.Ll af,hm.free hg.raw.lt hg.Ys,hm.free hg.out.lt hg.S0,hm.free hg.rV.lt hg.Wp,hm.free hg.sH.lt hg.Ll⟩,h.file,h.Jh,h.len,h.top,h.ends⟩
abbrev dM(w:World)(base:Nat)(v:Value)(l:List cj):Prop:=w.ownsRow base 55 3 v l.length (cJ l)
theorem sO(a b:List cj):cJ (a++b)=cJ a++cJ b:=by
 induction a with
 |nil=>rfl
 |cons e a ih=>grind [cJ]
theorem xI{ops:Array Oper}{o:Oper}{a:Act}{w:World}{K:Act->World->Prop}{Q:Exit->Act->World->Prop}{E:Prop}(hgd:o.guard=none)(s x:Operand)(ho:o.op=.call { callee:=.builtin .append,args:=#[s,x],argTypes:=#[23,23] })(base:Nat)(v:Value)(l:List cj)(hs:a.eval s=v)(hown:dM w base v l)(y:cj)(xb c:Nat)(hx:a.eval x=.slice (some ⟨xb,0,none⟩) 1 c)(Gl:w.heap[xb]? = some (.cells #[.int .u32 (y.r.toNat:Int),.int .u32 (y.l.toNat:Int),.int .u32 (y.g.toNat:Int)] 55))(hl:l.length<=100000)(hbase:base<=w.heap.size)(k:∀v' w',dM w' base v' (l++[y])->mr v w w' v'->K (a.put o.dst v') w'):if Region.wanted o (yielded ops a.tmps)=true then Oper.wp prog o a w K Q else E:=by
 refine mC hgd s x 23 ho base 55 _ 3 12 Tryz.underlying23 xD rfl ag v l.length (cJ l) hs hown ⟨xb,0,none⟩ 1 c [.int .u32 (y.r.toNat:Int),.int .u32 (y.l.toNat:Int),.int .u32 (y.g.toNat:Int)] hx rfl (fun j u hj=>?_) (by simp[Value.oneCell']) (by grind [maxLen]) af hbase (fun v' w' h1 h2=>k v' w' ?_ h2)
 ·rw[bI,Nat.zero_add,ar Gl];grind
 ·unfold dM;rw[sO,List.length_append];exact h1
structure j9(n pb db:Nat)(w:World)(o:au)(d:Dsk)(L:aH)(rb gb gen done:Nat)(x4 x5 vv:Value)(acc:List cj)(W:World)(o':au)(d':Dsk):Prop where
 mv:Moved (·=rb) n pb db w o d W o' d' L
 at':dx W rb pb gb gen done x4 x5 vv
 row:dM W w.heap.size vv acc
 own:∀b,vv.ownBlock=some b->o' b=none
theorem j9.below(h:j9 n pb db w o d L rb gb gen done x4 x5 vv acc W o' d')(hb:Below W.heap.size W W'):j9 n pb db w o d L rb gb gen done x4 x5 vv acc W' o' d':=
 ⟨h.mv.below hb,h.at'.below hb,aW h.row hb,h.own⟩
theorem j9.moved(h:j9 n pb db w o d L rb gb gen done x4 x5 vv acc W o' d')(hr:q9 w0 w o rb gb ob ib vb)(hm:Moved (fun _=>False) n pb db W o' d' W' gY ig L):j9 n pb db w o d L rb gb gen done x4 x5 vv acc W' gY ig:=
 ⟨h.mv.trans hm (by grind),h.at'.moved (h.mv.free hr.lt hr.free) hm,hm.ownsRow h.row (fun b hb=>⟨h.own b hb,fun e=>e⟩),fun b hb=>hm.free (aL h.row b hb).1 (h.own b hb)⟩
theorem j9.LF(h:j9 n pb db w o d L rb gb gen done x4 x5 vv acc W o' d')(hr:q9 w0 w o rb gb ob ib vb){y:cj}(hw:dM W' w.heap.size vv' (acc++[y]))(ha:mr vv W W' vv') :
 W'.cell? ⟨rb,6,none⟩=some vv/\W'.frozen? ⟨rb,6,none⟩=false/\j9 n pb db w o d L rb gb gen done x4 x5 vv' (acc++[y]) (W'.setCell ⟨rb,6,none⟩ vv') o' d':=by
 obtain⟨hg,hv⟩:=ha;have hne:∀b,vv.ownBlock=some b->b≠rb:=fun b hb e=>by
  have:=(aL h.row b hb).2;have:=hr.lt;omega
 have hat:dx W' rb pb gb gen done x4 x5 vv:=(hg.block rb h.at'.lt (by grind)).trans h.at';have fR :=h.mv.free hr.lt hr.free;have hm :=h.mv.grown hg (fun k hk=>⟨h.own k hk,.inr (aL h.row k hk).2⟩);have GU:∀b,vv'.ownBlock=some b->o' b=none/\b≠rb:=fun b hb=>by
  have yR:=aI hw b hb;refine⟨?_,by have:=hr.lt;omega⟩;rcases hv with e | e
  ·grind [own]
  ·rw[e]at hb;cases hb;exact h.mv.aY.fresh af
 refine⟨hat.cells.2.2.2.2.2.2.1,hat.cells.2.2.2.2.2.2.2 6,hm.setCell _ _ fR (.inl rfl),hat.alb vv',bH hw (fun b hb=>Below.heap_setCell _ _ _ _ (GU b hb).2),(by grind)⟩
def xJ(n pb db:Nat)(w:World)(o:au)(d:Dsk)(L:aH)(rb gb gen done:Nat)(x4 x5:Value)(vs:List cj)(e:Ending)(w':World):Prop:=
 ∃vv d' o',e=.returned (.int .i64 0)/\j9 n pb db w o d L rb gb gen done x4 x5 vv vs w' o' d'
theorem Md{y:cj}{v:Value}{base:Nat}(h:dM w base v (acc++[y])):∃g k M,Hid (M=acc.length+1)/\v=.slice (some ⟨g,0,none⟩) M k:=by
 obtain⟨-,⟨h1,h2⟩|⟨g,k,_,h1,_⟩⟩:=h
 ·grind
 grind [ae]
theorem CZ(HW:aP){fl:Bool}(h:fN w0 w pb db n o d L gb gen vs.length ob ib vb es)(hv:aB L (aK 118 gen)=some (b6 vs fl))(hr:dx w rb pb gb gen done x4 x5 (.slice none 0 0))(hro:q9 w0 w o rb gb ob ib vb) :
 Calls prog 63 #[ptrTo rb] w (xJ n pb db w o d L rb gb gen done x4 x5 vs):=by
 have H:=ae h;have HV:=ae hv;have Hu:=ae hro;obtain⟨R,hR⟩:∃R,R=xJ n pb db w o d L rb gb gen done x4 x5 vs:=⟨_,rfl⟩;have TM:=ae hR;rw[<- hR];obtain⟨M,hM⟩:∃M,M=vs.length:=⟨_,rfl⟩;have HM:Hid (M=vs.length/\M<=1000):=ae ⟨hM,by rw[hM];exact h.top⟩;have hsz:=ae (CR h.gr);rw[<- hM]at hsz;have Fc:Hid (j9 n pb db w o d L rb gb gen done x4 x5 (.slice none 0 0) [] w o d):=ae ⟨Moved.refl _ h.held.aY,hr,World.ownsRow_nil _ _ _ _,fun b e=>by cases e⟩;obtain⟨-,c1,-⟩:=hr.cells;clear h hv hr hro hR hM;unfold ptrTo at *;go_enter func63,ntmps63;go_wp2_with fail;refine hsz.out.mono ?_;rintro e w1⟨rfl,rfl⟩;clear hsz c1;go_wp2_with fail;go_loopw [11] (fun vi wr=>∃(j:Nat)(acc:List cj)(vv:Value)(o':au)(d':Dsk),vi=.int .i64 (j:Int)/\j<=M/\Hid (acc=vs.take j)/\Hid (j9 n pb db w o d L rb gb gen done x4 x5 vv acc wr o' d')) (fun vi _=>M-(intOf vi).toNat)
 case atStart=>exact⟨0,[],_,o,d,rfl,Nat.zero_le _,rfl,Fc⟩
 case round=>
  obtain⟨j,acc,vv,o1,d1,rfl,hj,afU,HS⟩:=hrel;clear Fc;generalize wr=W1 at *;by_cases hlt:j<M
  ·have JX:(j:Int)<(M:Int):=by omega
   have wj:IntKind.i64.wrap ((j:Int)+1)=((j+1:Nat):Int):=by grind [Hid.out,aw]
   have wu:IntKind.u32.wrap (j:Int)=(j:Int):=by grind [Hid.out,eo]
   obtain⟨-,c1,-⟩:=HS.out.at'.cells;have hvt:=ae (D7 HW ((H.out.FK Hu.out HS.out.mv).held) H.out.need (H.out.FK Hu.out HS.out.mv).gr HV.out (v:=j) (by grind [Hid.out]) (by grind [Hid.out]));obtain⟨x,hx⟩:∃x,x=vs[j]'(by grind [Hid.out]):=⟨_,rfl⟩;rw[<- hx]at hvt;have HX:Hid (acc++[x]=vs.take (j+1)):=ae (by rw[hx,afU.out,List.take_succ_eq_append_getElem]);clear hx;unfold xw ptrTo at *;go_wp2_with fail;refine hvt.out.mono ?_;rintro e w2⟨d2,o2,rfl,cT⟩;have eP:=ae (HS.out.moved Hu.out cT);clear hvt cT HS c1;have fF:Hid (j9 n pb db w o d L rb gb gen done x4 x5 vv acc (w2.alloc (.cells #[.int .u32 (x.r.toNat:Int),.int .u32 (x.l.toNat:Int),.int .u32 (x.g.toNat:Int)] 55)) o2 d2/\(w2.alloc (.cells #[.int .u32 (x.r.toNat:Int),.int .u32 (x.l.toNat:Int),.int .u32 (x.g.toNat:Int)] 55)).heap[w2.heap.size]? = some (.cells #[.int .u32 (x.r.toNat:Int),.int .u32 (x.l.toNat:Int),.int .u32 (x.g.toNat:Int)] 55)):=ae ⟨eP.out.below (ak.alloc af _),heap_alloc_new _ _⟩;clear eP;go_wp2_with fail;generalize w2.heap.size=xb at *;generalize w2.alloc (.cells #[.int .u32 (x.r.toNat:Int),.int .u32 (x.l.toNat:Int),.int .u32 (x.g.toNat:Int)] 55)=W3 at *;obtain⟨la,lk,rfl⟩:=aA fF.out.1.row;obtain⟨-,-,-,-,-,-,c6,f6⟩:=fF.out.1.at'.cells;have x0:W3.cell? ⟨xb,0,none⟩=some (.int .u32 (x.r.toNat:Int)):=by rw[ar fF.out.2];rfl
   have x1:W3.cell? ⟨xb,1,none⟩=some (.int .u32 (x.l.toNat:Int)):=by rw[ar fF.out.2];rfl
   have x2:W3.cell? ⟨xb,2,none⟩=some (.int .u32 (x.g.toNat:Int)):=by rw[ar fF.out.2];rfl
   have alc:=fF.out.1.at'.lt;have Tg:=World.block_lt_of_cell? _ _ x0;have HL:Hid (acc.length<=100000/\w.heap.size<=W3.heap.size):=ae ⟨by grind [Hid.out],fF.out.1.mv.size⟩;have jJ:Hid (∀ob,Below W3.heap.size W3 (W3.alloc ob).drew):=ae (fun ob=>(ak.alloc (Nat.le_refl _) ob).drew);go_region_law (refine xI rfl _ _ rfl w.heap.size _ acc rfl (World.ownsRow.alloc (World.ownsRow.drew fF.out.1.row) _) x _ 1 rfl (heap_alloc_new _ _) HL.out.1 (Nat.le_trans HL.out.2 (jJ.out _).size) ?_;intro v5 w5 h5 ha;obtain⟨g5,k5,M5,lL,rfl⟩:=Md h5;obtain⟨c5,f5,hs5⟩:=(fF.out.1.below (jJ.out _)).LF Hu.out h5 ha;have b7:=ae hs5;clear hs5 ha h5)
   all_goals
    have gH :=b7;clear c6 f6 x0 x1 x2 alc Tg c5 f5 fF b7 jJ HL;go_wp2;grind [intOf]
  ·have JX:¬(j:Int)<(M:Int):=by omega
   have HQ:Hid (R (.returned (.int .i64 0)) W1):=ae (by
    rw[TM.out];have:=HS.out;rw[afU.out,List.take_of_length_le (by grind [Hid.out])]at this;exact⟨vv,d1,o1,rfl,this⟩)
   clear HS TM;go_wp2;exact HQ.out
end
end
section
open Go.RowKit Go.Maps Go.Sort
theorem Jn(x:Nat)(w:World):Calls prog 246 #[.int .u32 (x:Int)] w fun e w'=>e=.returned (.bool false)/\w'=w:=by
 go_enter func246,ntmps246;go_wp2;go_ret;exact⟨ai,rfl⟩
theorem Bv(x y:Nat)(w:World):Calls prog 253 #[.int .u32 (x:Int),.int .u32 (y:Int)] w fun e w'=>e=.returned (.bool (decide (x<y)))/\w'=w:=by
 have hn:=ae (Jn x w);have HD:Hid (decide ((x:Int)<(y:Int))=decide (x<y)):=ae (by rw[decide_eq_decide];omega);go_enter func253,ntmps253;go_wp2_with fail;refine hn.out.mono ?_;rintro e w'⟨rfl,rfl⟩;go_wp2;go_ret;exact⟨by rw[<- HD.out];rfl,rfl⟩
structure bw(w0:World)(base g cap:Nat)(d:Array Nat)(W:World):Prop where
 row:bF W base (.slice (some ⟨g,0,none⟩) d.size cap) d.toList
 turn:aG (·=g) w0 W
abbrev aZ(a b:Nat):Bool:=decide (a<b)
section
variable {w0 W W':World} {base g cap:Nat} {d:Array Nat}
theorem bw.below(h:bw w0 base g cap d W)(hb:Below W.heap.size W W'):bw w0 base g cap d W':=⟨aW h.row hb,h.turn.bN hb⟩
theorem bw.cell(h:bw w0 base g cap d W){i:Nat}(hi:i<d.size):W.cell? ⟨g,i,none⟩=some (.int .u32 (d[i]! : Int)):=by
 have hg:d.toList[i]? = some d[i]! := by rw[Array.getElem?_toList,Array.getElem?_eq_getElem hi,getElem!_pos d i hi]
 exact iG (l:=d.toList) (by have:=h.row;simpa using this) hg
theorem bw.put(h:bw w0 base g cap d W){i:Nat}(x:Nat):bw w0 base g cap (d.setIfInBounds i x) (W.setCell ⟨g,i,none⟩ (.int .u32 (x:Int))):=by
 refine⟨?_,h.turn.setCell _ _ (.inl rfl)⟩;have h1:=World.ownsRow.stored h.row i (.int .u32 (x:Int));have h2:=h1.1;unfold bF;rw[Array.size_setIfInBounds];simpa[List.map_set]using h2
theorem bw.lA(h:bw w0 base g cap d W)(i j:Nat):bw w0 base g cap (swp d i j) ((W.setCell ⟨g,i,none⟩ (.int .u32 (d[j]! : Int))).setCell ⟨g,j,none⟩ (.int .u32 (d[i]! : Int))).drew:=
 ((h.put d[j]!).put d[i]!).below ak.drew
theorem Ec:SWO aZ:=⟨fun x=>by simp[aZ],fun x y z h1 h2=>by simp[aZ]at *;omega,fun x y z h1 h2=>by simp[aZ]at *;omega⟩
def Bw(w:World)(base:Nat)(v:Value)(l:List Nat)(e:Ending)(w':World):Prop:=
 ∃l',e=.returned (.tuple #[])/\bF w' base v l'/\l'.Perm l/\l'.Pairwise (·<=·)/\aG (fun b=>v.ownBlock=some b) w w'
end
end
section
open Go.RowKit Go.Maps
open Go.ChangeMaps (setBlock)
abbrev pV(c:zy)(nv:Value):Value:=.agg #[.int .u32 (c.v:Int),.int .u64 (c.k:Int),nv]
theorem FL(a b:zy):decide (nT (qi a.k b.k) (qi a.v b.v)<0)=decide (gM a b):=by
 rw[decide_eq_decide];unfold gM nT;rcases gL a.k b.k with⟨g1,g2⟩|⟨g1,g2⟩|⟨g1,g2⟩
 ·rw[g2,if_neg ag];omega
 ·rw[g2,if_neg ag];omega
 ·rw[g2,if_pos rfl];rcases gL a.v b.v with⟨k1,k2⟩|⟨k1,k2⟩|⟨k1,k2⟩<;>rw[k2]<;>omega
theorem PC(x y:zy){xa ya:Option Addr}{xn xc yn yc:Nat}(w:World):Calls prog 149 #[pV x (.slice xa xn xc),pV y (.slice ya yn yc)] w fun e w'=>e=.returned (.bool (decide (gM x y)))/\dY w w':=by
 have hf:=ae (FL x y);unfold pV;generalize x.k=xk at *;generalize x.v=xi at *;generalize y.k=yk at *;generalize y.v=yi at *;generalize hX:(Value.slice xa xn xc)=X at *;generalize hY:(Value.slice ya yn yc)=Y at *;subst hX hY;go_enter func149,ntmps149;have HG:Hid (dY w ((w.alloc (.cells #[.int .u32 (xi:Int),.int .u64 (xk:Int),.slice xa xn xc] 181)).alloc (.cells #[.int .u32 (yi:Int),.int .u64 (yk:Int),.slice ya yn yc] 181))):=ae (((dY.refl w).alloc _).alloc _);go_wp2;have K:Hid (((w.alloc (.cells #[.int .u32 (xi:Int),.int .u64 (xk:Int),.slice xa xn xc] 181)).alloc (.cells #[.int .u32 (yi:Int),.int .u64 (yk:Int),.slice ya yn yc] 181)).cell? ⟨w.heap.size,0,none⟩=some (.int .u32 (xi:Int))/\((w.alloc (.cells #[.int .u32 (xi:Int),.int .u64 (xk:Int),.slice xa xn xc] 181)).alloc (.cells #[.int .u32 (yi:Int),.int .u64 (yk:Int),.slice ya yn yc] 181)).cell? ⟨w.heap.size,1,none⟩=some (.int .u64 (xk:Int))/\((w.alloc (.cells #[.int .u32 (xi:Int),.int .u64 (xk:Int),.slice xa xn xc] 181)).alloc (.cells #[.int .u32 (yi:Int),.int .u64 (yk:Int),.slice ya yn yc] 181)).cell? ⟨w.heap.size+1,0,none⟩=some (.int .u32 (yi:Int))/\((w.alloc (.cells #[.int .u32 (xi:Int),.int .u64 (xk:Int),.slice xa xn xc] 181)).alloc (.cells #[.int .u32 (yi:Int),.int .u64 (yk:Int),.slice ya yn yc] 181)).cell? ⟨w.heap.size+1,1,none⟩=some (.int .u64 (yk:Int))):=ae ai;generalize ((w.alloc (.cells #[.int .u32 (xi:Int),.int .u64 (xk:Int),.slice xa xn xc] 181)).alloc (.cells #[.int .u32 (yi:Int),.int .u64 (yk:Int),.slice ya yn yc] 181))=W at *;refine cr (dY W) 10 ah ah (dY.refl W).drew ?_;simp only[List.take_succ_cons,List.take_zero,List.drop_succ_cons,List.drop_zero];refine qz ?_;refine qz ?_ (fun w' hw'=>by have hc:=hw'.cell K.out.2.1;go_simp<;>rfl);refine qz ?_;refine qz ?_ (fun w' hw'=>by have hc:=hw'.cell K.out.2.2.2;go_simp<;>rfl);refine qw (fun w' hw'=>(wT xk yk w').mono (fun e w'' h=>⟨h.1,h.2▸hw'⟩)) ?_;refine qz ?_;refine qz ?_ (fun w' hw'=>by have hc:=hw'.cell K.out.1;go_simp<;>rfl);refine qz ?_;refine qz ?_ (fun w' hw'=>by have hc:=hw'.cell K.out.2.2.1;go_simp<;>rfl);refine qw (fun w' hw'=>(wU xi yi w').mono (fun e w'' h=>⟨h.1,h.2▸hw'⟩)) ?_;refine wpQuiet_nil ?_;intro w3 hw3;have zx:=ae hw3;clear hw3;go_wp2_with fail;refine(D3 (qi xk yk) (qi xi yi) _ _ ai ai).mono ?_;rintro e w4⟨rfl,rfl⟩;go_wp2;go_ret;exact⟨by rw[<- hf.out];rfl,(HG.out.trans zx.out).alloc _⟩
end
section
open Go.RowKit Go.Maps
open Go.ChangeMaps (setBlock)
def TN(S:List Nat)(x:Nat):List Nat:=x::S.filter fun y=>decide (y≠x)
theorem TP(S:List Nat)(x y:Nat):y∈TN S x↔y∈S\/y=x:=by
 grind [TN]
theorem TQ(S:List Nat)(x:Nat):aS (S.map fun x=>(x,())) x ()=(TN S x).map fun x=>(x,()):=by
 unfold aS bX TN;rw[List.map_cons,List.filter_map];rfl
def FM(a b:zy)(z:Nat):Prop:=a.v≠b.v/\(gM a b/\b.v=z\/¬gM a b/\a.v=z)
section
variable {W:World} {qc mb:Nat} {S:List Nat}
def Bx(W:World)(qc mb:Nat)(S:List Nat)(x y:zy)(e:Ending)(W':World):Prop:=
 ∃S',e=.returned (.tuple #[])/\jE W' mb S'/\(∀z,z∈S'↔z∈S\/FM x y z)/\aG (·=mb) W W'/\W'.heap[qc]? = some (.cells #[.map (some mb)] 243)
theorem Jo{w1:World}{x:Nat}(hc:w1.heap[qc]? = some (.cells #[.map (some mb)] 243))(hne:qc≠mb)(ht:aG (·=mb) W w1){es:Array MapEntry}{clock:Nat}(hm:bS prog 26 je (fun _:Unit=>Value.agg #[]) (setBlock w1 mb (.map es clock)) mb (aS (S.map fun x=>(x,())) x ())){a b:zy}(h:∀z,z=x↔FM a b z) :
 Bx W qc mb S a b (.returned (.tuple #[])) (setBlock w1 mb (.map es clock)):=
 ⟨TN S x,rfl,by grind [TQ],fun z=>by rw[TP,h z],ht.setBlock _ _ (.inl rfl),by grind [bg]⟩
theorem TR(hc:W.heap[qc]? = some (.cells #[.map (some mb)] 243))(hs:jE W mb S)(hne:qc≠mb)(x y:zy)(hx:x.v<4294967296)(hy:y.v<4294967296){xa ya:Option Addr}{xn xc yn yc:Nat} :
 Calls prog 148 #[pV x (.slice xa xn xc),pV y (.slice ya yn yc),.pointer (some ⟨qc,0,none⟩)] W (Bx W qc mb S x y):=by
 have HA:=ae (fun w=>PC x y (xa:=xa) (ya:=ya) (xn:=xn) (xc:=xc) (yn:=yn) (yc:=yc) w);have HB:Hid (Below W.heap.size W ((W.alloc (.cells #[.int .u32 (x.v:Int),.int .u64 (x.k:Int),.slice xa xn xc] 181)).alloc (.cells #[.int .u32 (y.v:Int),.int .u64 (y.k:Int),.slice ya yn yc] 181))):=ae (aj.alloc ai _);have HK:Hid (((W.alloc (.cells #[.int .u32 (x.v:Int),.int .u64 (x.k:Int),.slice xa xn xc] 181)).alloc (.cells #[.int .u32 (y.v:Int),.int .u64 (y.k:Int),.slice ya yn yc] 181)).heap[W.heap.size]? = some (.cells #[.int .u32 (x.v:Int),.int .u64 (x.k:Int),.slice xa xn xc] 181)/\((W.alloc (.cells #[.int .u32 (x.v:Int),.int .u64 (x.k:Int),.slice xa xn xc] 181)).alloc (.cells #[.int .u32 (y.v:Int),.int .u64 (y.k:Int),.slice ya yn yc] 181)).heap[W.heap.size+1]? = some (.cells #[.int .u32 (y.v:Int),.int .u64 (y.k:Int),.slice ya yn yc] 181)):=ae (by
  grind [World.alloc])
 have HC:=ae hc;have HS:=ae hs;have s7:=ae hne;have HGX:=ae (fU hx);have HGY:=ae (fU hy);clear hc hs hne;by_cases heq:x.v=y.v
 ·have hz:(x.v:Int)=(y.v:Int):=by omega
  have HQ:Hid (Bx W qc mb S x y (.returned (.tuple #[])) ((W.alloc (.cells #[.int .u32 (x.v:Int),.int .u64 (x.k:Int),.slice xa xn xc] 181)).alloc (.cells #[.int .u32 (y.v:Int),.int .u64 (y.k:Int),.slice ya yn yc] 181))):=ae ⟨S,rfl,HS.out.kept (HB.out.block _ HS.out.lt),fun z=>⟨.inl,fun e=>e.elim id (fun e=>absurd heq e.1)⟩,aG.aV HB.out,(HB.out.block _ (Array.getElem?_eq_some_iff.1 HC.out).1).trans HC.out⟩;have hzb:((x.v:Int) == (y.v:Int))=true:=by grind
  clear hz heq;unfold pV;go_enter func148,ntmps148;go_wp2;go_returns;exact HQ.out
 ·have hz:¬(x.v:Int)=(y.v:Int):=by omega
  have HEQ:=ae heq;clear heq;unfold pV at *;go_enter func148,ntmps148;go_wp2_with fail;refine(HA.out _).mono ?_;rintro e w1⟨rfl,hg⟩;have hb1:=hg.below;have cO:=ae (HB.out.trans (hb1.mono HB.out.size));have k1:=(hb1.block _ (Array.getElem?_eq_some_iff.1 HK.out.1).1).trans HK.out.1;have k2:=(hb1.block _ (Array.getElem?_eq_some_iff.1 HK.out.2).1).trans HK.out.2;have x0:w1.cell? ⟨W.heap.size,0,none⟩=some (.int .u32 (x.v:Int)):=by rw[ar k1];rfl
  have y0:w1.cell? ⟨W.heap.size+1,0,none⟩=some (.int .u32 (y.v:Int)):=by rw[ar k2];rfl
  have RN:=ae ((cO.out.block _ (Array.getElem?_eq_some_iff.1 HC.out).1).trans HC.out);have jg:Hid (jE w1 mb S):=ae (HS.out.kept (cO.out.block _ HS.out.lt));have q0:w1.cell? ⟨qc,0,none⟩=some (.map (some mb)):=by rw[ar RN.out];rfl
  clear hg hb1 k1 k2 HK;by_cases YO:gM x y
  ·rw[show decide (gM x y)=true from decide_eq_true YO];have HM:Hid (∀z,z=y.v↔FM x y z):=ae (fun z=>⟨fun e=>⟨HEQ.out,.inl ⟨YO,e.symm⟩⟩,fun e=>e.2.elim (fun e=>e.2.symm) (fun e=>absurd YO e.1)⟩);clear YO;go_wp2_with (at_mapUpdate;refine eL _ rfl _ _ _ _ rfl 245 cd dr Tryz.underlying243 mb _ rfl jg.out y.v () rfl rfl HGY.out ?_;intro es clock hm);have HQ:=ae (Jo RN.out s7.out (aG.aV cO.out) hm HM.out);clear hm;go_returns;exact HQ.out
  ·rw[show decide (gM x y)=false from decide_eq_false YO];have HM:Hid (∀z,z=x.v↔FM x y z):=ae (fun z=>⟨fun e=>⟨HEQ.out,.inr ⟨YO,e.symm⟩⟩,fun e=>e.2.elim (fun e=>absurd e.1 YO) (fun e=>e.2.symm)⟩);clear YO;go_wp2_with (at_mapUpdate;refine eL _ rfl _ _ _ _ rfl 245 cd dr Tryz.underlying243 mb _ rfl jg.out x.v () rfl rfl HGX.out ?_;intro es clock hm);have HQ:=ae (Jo RN.out s7.out (aG.aV cO.out) hm HM.out);clear hm;go_returns;exact HQ.out
end
end
section
open Go Go.Sort
section
variable {α:Type} [Inhabited α] {lt:α->α->Bool} {d:Array α}
theorem TS{hi first r:Nat}(h:hi<=2*r+1):siftDown lt hi first r d=d:=by
 unfold siftDown;rw[dif_pos h]
theorem PD{hi first r C:Nat}{bb:Bool}(h:2*r+1<hi)(hb:bb=(decide (2*r+2<hi) && lt d[first+(2*r+1)]! d[first+(2*r+2)]!))(hc:C=if bb=true then 2*r+2 else 2*r+1) :
 siftDown lt hi first r d=if lt d[first+r]! d[first+C]! = true then siftDown lt hi first C (swp d (first+r) (first+C)) else d:=by
 conv=>lhs;unfold siftDown
 rw[dif_neg af,show(decide (2*r+1+1<hi) && lt d[first+(2*r+1)]! d[first+(2*r+1)+1]!)=bb from hb.symm];subst hc;cases bb
 ·simp only[if_false,Bool.false_eq_true];cases lt d[first+r]! d[first+(2*r+1)]! <;> simp
 ·have h2:2*r+2<hi:=by
   simp only[Bool.true_eq,Bool.and_eq_true,decide_eq_true_eq]at hb;exact hb.1
  simp only[if_true,h2];cases lt d[first+r]! d[first+(2*r+2)]! <;> simp
theorem FN{p:α->Bool}{i j u:Nat}(hu:u=scanUp p d j i)(eY:i<=j+1):i<=u/\u<=j+1:=by
 have h:=scanUp_spec p d j _ i rfl;subst hu;exact⟨h.1,h.2.1 eY⟩
theorem xK{p q:α->Bool}{i j u v:Nat}(hq:∀x,q x=!p x)(hu:u=scanUp p d j i)(hv:v=scanDown q d u j)(eY:i<=j+1):i<=u/\u<=j+1/\v<=j/\u<=v+1/\(0<v->u≠v):=by
 have h1:=scanUp_spec p d j _ i rfl;rw[<- hu]at h1;have h2:=scanDown_spec q d u j;rw[<- hv]at h2;refine⟨h1.1,h1.2.1 eY,h2.1,h2.2.1 (h1.2.1 eY),fun h0 e=>?_⟩;have k2:=h2.2.2.2 af h0;rw[hq,<- e,h1.2.2.2 af]at k2;cases k2
theorem PE{a i j u v:Nat}(hu:u=scanUp (fun x=>lt x d[a]!) d j i)(hv:v=scanDown (fun x=>!lt x d[a]!) d u j) :
 partLoop lt a i j d=if u>v then (v,d) else partLoop lt a (u+1) (v-1) (swp d u v):=by
 subst hu hv;exact partLoop_eq lt a i j d
theorem Me{a b pv u v:Nat}{D:Array α}{r:Nat×Array α}(hD:D=swp d a pv)(hu:u=scanUp (fun x=>lt x D[a]!) D (b-1) (a+1))(hv:v=scanDown (fun x=>!lt x D[a]!) D u (b-1))(hr:¬u>v->r=partLoop lt a (u+1) (v-1) (swp D u v)) :
 partition lt d a b pv=if u>v then (v,true,swp D v a) else (r.1,false,swp r.2 r.1 a):=by
 subst hD hu hv;unfold partition;dsimp only;split
 ·rfl
 ·rename_i h
  rw[hr h]
theorem Xd{a i j u v:Nat}(hu:u=scanUp (fun x=>!lt d[a]! x) d j i)(hv:v=scanDown (fun x=>lt d[a]! x) d u j) :
 partEqLoop lt a i j d=if u>v then (u,d) else partEqLoop lt a (u+1) (v-1) (swp d u v):=by
 subst hu hv;exact partEqLoop_eq lt a i j d
end
end
section
open Go.RowKit Go.Maps Go.Sort
section
variable {w0 W W':World} {base g cap:Nat} {d:Array Nat}
def pW(w0:World)(base g cap:Nat)(d:Array Nat)(e:Ending)(w':World):Prop:=e=.returned (.tuple #[])/\bw w0 base g cap d w'
theorem bw.drawn(h:bw w0 base g cap d W)(n:Nat):bw w0 base g cap d (W.drewN n):=h.below ⟨rfl,rfl,rfl,Nat.le_refl _,fun _ _=>rfl⟩
theorem bw.two(h:bw w0 base g cap d W)(i j:Nat)(hi:i<d.size)(hj:j<d.size):∃(x y:Nat)(b:Bool),W.cell? ⟨g,i,none⟩=some (.int .u32 (x:Int))/\W.cell? ⟨g,j,none⟩=some (.int .u32 (y:Int))/\Hid (∀w,Calls prog 253 #[.int .u32 (x:Int),.int .u32 (y:Int)] w fun e w'=>e=.returned (.bool b)/\w'=w)/\Hid (b=aZ d[i]! d[j]!):=
 ⟨_,_,_,h.cell hi,h.cell hj,ae fun w=>Bv _ _ w,ae rfl⟩
theorem bw.swap(h:bw w0 base g cap d W)(i j:Nat)(hi:i<d.size)(hj:j<d.size):∃x y:Nat,W.cell? ⟨g,i,none⟩=some (.int .u32 (x:Int))/\W.cell? ⟨g,j,none⟩=some (.int .u32 (y:Int))/\(∀k,W.frozen? ⟨g,k,none⟩=false)/\(∃z:Nat,(W.setCell ⟨g,i,none⟩ (.int .u32 (y:Int))).cell? ⟨g,j,none⟩=some (.int .u32 (z:Int)))/\Hid (bw w0 base g cap (swp d i j) ((W.setCell ⟨g,i,none⟩ (.int .u32 (y:Int))).setCell ⟨g,j,none⟩ (.int .u32 (x:Int))).drew):=
 ⟨_,_,h.cell hi,h.cell hj,fun k=>World.ownsRow.frozenAt h.row k,⟨_,(h.put (i:=i) d[j]!).cell (by simpa using hj)⟩,ae (h.lA i j)⟩
theorem Mf(h:bw w0 base g cap d W)(lo hi first:Nat)(JQ:lo<=hi)(hb:first+hi<=d.size)(hsz:d.size<=1000000) :
 Calls prog 286 #[.slice (some ⟨g,0,none⟩) d.size cap,.int .i64 (lo:Int),.int .i64 (hi:Int),.int .i64 (first:Int)] W (pW w0 base g cap (siftDown aZ hi first lo d)):=by
 obtain⟨N,hN⟩:∃N,N=d.size:=⟨_,rfl⟩;rw[<- hN]at hb hsz ⊢;have H:=ae (show _/\_/\_ from⟨h,JQ,hN⟩);clear h JQ hN;go_enter func286,ntmps286;go_wp2;go_loopw [8] (fun vi wr=>∃(r:Nat)(dk:Array Nat),vi=.int .i64 (r:Int)/\r<=hi/\dk.size=N/\bw w0 base g cap dk wr/\Hid (siftDown aZ hi first r dk=siftDown aZ hi first lo d)) (fun vi _=>hi-(intOf vi).toNat)
 case atStart=>exact⟨lo,d,rfl,H.out.2.1,H.out.2.2.symm,H.out.1,rfl⟩
 case round=>
  obtain⟨r,dk,rfl,hr,hsk,hs,HO⟩:=hrel;generalize wr=Wr at *;have HS:=ae hs;obtain⟨R2,hR2⟩:∃x,x=2*r:=⟨_,rfl⟩;obtain⟨C,hC⟩:∃x,x=R2+1:=⟨_,rfl⟩;obtain⟨C1,X9⟩:∃x,x=C+1:=⟨_,rfl⟩;obtain⟨P,hP⟩:∃x,x=first+r:=⟨_,rfl⟩;obtain⟨Q,hQ⟩:∃x,x=first+C:=⟨_,rfl⟩;obtain⟨Q1,hQ1⟩:∃x,x=Q+1:=⟨_,rfl⟩;have wR2:IntKind.i64.wrap (2*(r:Int))=(R2:Int):=by rw[aw]<;>omega
  have wC:IntKind.i64.wrap ((R2:Int)+1)=(C:Int):=by rw[aw]<;>omega
  have HX:Hid (C=2*r+1/\C1=C+1/\P=first+r/\Q=first+(2*r+1)/\Q1=first+(2*r+2)/\first+hi<=N/\dk.size=N/\N<=1000000):=ae af;by_cases hch:C<hi
  ·have Z9:¬(C:Int) >= (hi:Int):=by omega
   have wP:IntKind.i64.wrap ((first:Int)+(r:Int))=(P:Int):=by rw[aw]<;>omega
   have wQ:IntKind.i64.wrap ((first:Int)+(C:Int))=(Q:Int):=by rw[aw]<;>omega
   have wQ1:IntKind.i64.wrap ((Q:Int)+1)=(Q1:Int):=by rw[aw]<;>omega
   have bP:(P:Int)<(N:Int):=by omega
   have wC1:IntKind.i64.wrap ((C:Int)+1)=(C1:Int):=by rw[aw]<;>omega
   obtain⟨xq,xq1,b1,c1,c2,hl,hb1⟩:∃(x y:Nat)(b:Bool),(Wr.cell? ⟨g,Q,none⟩=some (.int .u32 (x:Int)))/\(C1<hi->Wr.cell? ⟨g,Q1,none⟩=some (.int .u32 (y:Int)))/\Hid (∀w,Calls prog 253 #[.int .u32 (x:Int),.int .u32 (y:Int)] w fun e w'=>e=.returned (.bool b)/\w'=w)/\Hid ((decide (C1<hi) && b)=(decide (2*r+2<hi) && aZ dk[first+(2*r+1)]! dk[first+(2*r+2)]!)):=
    ⟨_,dk[Q1]!,_,hs.cell af,fun h=>hs.cell af,ae fun w=>Bv _ _ w,ae (by rw[show Q=first+(2*r+1) by omega,show Q1=first+(2*r+2) by omega,show C1=2*r+2 by omega])⟩
   have bQ:(Q:Int)<(N:Int):=by omega
   clear hs hR2 hC X9 hP hQ hQ1 hsk;go_upto_region 3 with fail
   go_cut [36] from 17 to 35 (fun v Wx=>v=.bool (decide (C1<hi) && b1)/\bw w0 base g cap dk Wx)
   case first=>
    by_cases hc1:C1<hi
    ·have hd:Hid (decide (C1<hi)=true):=ae (decide_eq_true hc1);have hdz:=hd.out;have bQ1:(Q1:Int)<(N:Int):=by have:=HX.out;omega
     have c3:=c2 hc1;clear hc1 c2;go_wp2_with fail;go_quiet ((go_at_call 253;exact Calls.quiet_of_same (hl.out _)))
     have gD:=ae (HS.out.drawn nq);go_wp2;go_meet
     exact⟨by rw[hd.out];rfl,gD.out⟩
    ·have hd:Hid (decide (C1<hi)=false):=ae (decide_eq_false hc1);have hdz:=hd.out;clear hc1 c2;go_wp2_with fail;go_quiet (fail)
     have gD:=ae (HS.out.drawn nq);go_wp2;go_meet
     exact⟨by rw[hd.out];rfl,gD.out⟩
   case rest=>
    obtain⟨rfl,pq⟩:=hcut;have gD:=ae pq;clear pq c1 c2 hl;generalize wc=W4 at *;generalize YP:(decide (C1<hi) && b1)=bb at *;obtain⟨D,hD⟩:∃x,x=if bb=true then C1 else C:=⟨_,rfl⟩;have HD:Hid (D=(if bb=true then 2*r+2 else 2*r+1)/\D<hi/\r<D):=ae (by
     have hx:=HX.out;rw[hD];cases bb
     ·simp;omega
     ·simp at YP ⊢;omega)
    go_upto_if 36 with fail
    go_cut [9] from 37 to 38 (fun v Wx=>v=.int .i64 (D:Int)/\W4=Wx)
    case first=>
     cases bb
     ·simp at hD;subst hD;go_wp2;go_meet;exact⟨rfl,rfl⟩
     ·simp at hD;subst hD;go_wp2;go_meet;exact⟨rfl,rfl⟩
    case rest=>
     obtain⟨rfl,rfl⟩:=hcut;obtain⟨E,hE⟩:∃x,x=first+D:=⟨_,rfl⟩;have hB:P<dk.size/\E<dk.size:=by have:=HD.out;have:=HX.out;omega
     have HST:=ae (PD (lt:=aZ) (d:=dk) (first:=first) (show 2*r+1<hi by have:=HX.out;omega) hb1.out HD.out.1);rw[<- hE,<- HX.out.2.2.1]at HST;have wE:IntKind.i64.wrap ((first:Int)+(D:Int))=(E:Int):=by have:=HD.out;have:=HX.out;rw[aw]<;>omega
     have bE:(E:Int)<(N:Int):=by have:=HX.out;omega
     have HB:=ae (show _/\_/\¬E=P from⟨hB.1,hB.2,by have:=HD.out;have:=HX.out;omega⟩);obtain⟨x,y,cb,x0,y0,hl,hcb⟩:=gD.out.two P E hB.1 hB.2;rw[<- hcb.out]at HST;clear hD hE hB hch YP hb1;go_wp2_with fail;go_quiet ((go_at_call 253;exact Calls.quiet_of_same (hl.out _)))
     have b7:=ae (gD.out.drawn nq);generalize W4.drewN nq=W5 at *;cases cb
     ·have HF:Hid (siftDown aZ hi first lo d=dk):=ae (by rw[<- HO.out,HST.out];rfl);go_wp2;go_returns;exact⟨rfl,by rw[HF.out];exact b7.out⟩
     ·obtain⟨u,v,u0,v0,dQ,⟨z,hz⟩,HQ⟩:=b7.out.swap P E HB.out.1 HB.out.2.1;clear x0 y0 hl hcb;go_wp2_with fail;go_big_region
      all_goals
       clear u0 v0 dQ hz;go_wp2;exact⟨⟨D,_,rfl,by have:=HD.out;omega,by rw[size_swp];exact HX.out.2.2.2.2.2.2.1,HQ.out,by show siftDown _ _ _ _ _=_;rw[<- HO.out,HST.out];rfl⟩,by have:=HD.out;simp[intOf];omega⟩
  ·have Z9:(C:Int) >= (hi:Int):=by omega
   have HF:Hid (siftDown aZ hi first lo d=dk):=ae (by rw[<- HO.out];exact TS af);clear hs hR2 hC X9 hP hQ hQ1 hsk;go_wp2;go_returns;exact⟨rfl,by rw[HF.out];exact HS.out⟩
end
end
section
open Go.RowKit Go.Maps Go.Sort
section
variable {w0 W W':World} {base g cap:Nat} {d:Array Nat}
theorem Mg(h:bw w0 base g cap d W)(a b:Nat)(hab:a<b)(hb:b<=d.size)(hsz:d.size<=1000000) :
 Calls prog 248 #[.slice (some ⟨g,0,none⟩) d.size cap,.int .i64 (a:Int),.int .i64 (b:Int)] W (pW w0 base g cap (heapSort aZ d a b)):=by
 obtain⟨N,hN⟩:∃N,N=d.size:=⟨_,rfl⟩;rw[<- hN]at hb hsz ⊢;obtain⟨n,hn⟩:∃n,n=b-a:=⟨_,rfl⟩;obtain⟨M,hM⟩:∃M,M=(n-1)/2:=⟨_,rfl⟩;have Qf:Hid (∀(W:World)(dk:Array Nat),dk.size=N->bw w0 base g cap dk W->∀(lo hi:Nat),lo<=hi->hi<=n->Calls prog 286 #[.slice (some ⟨g,0,none⟩) N cap,.int .i64 (lo:Int),.int .i64 (hi:Int),.int .i64 (a:Int)] W fun e w'=>e=.returned (.tuple #[])/\bw w0 base g cap (siftDown aZ hi a lo dk) w'/\(siftDown aZ hi a lo dk).size=N):=ae (fun W dk hs h lo hi h1 h2=>by
  rw[<- hs];exact(Mf h lo hi a h1 af af).mono fun e w' h=>⟨h.1,h.2,size_siftDown _ hi a hi lo dk af⟩)
 have HX:Hid (heapSort aZ d a b=heapPop aZ a n (heapBuild aZ n a (M+1) d)/\bw w0 base g cap d W/\d.size=N/\M<=n/\a+n<=N/\N<=1000000):=ae ⟨by unfold heapSort;rw[<- hn,<- hM],h,af,af,af,hsz⟩;have w1:IntKind.i64.wrap ((b:Int)-(a:Int))=(n:Int):=by rw[aw]<;>omega
 have w2:IntKind.i64.wrap ((n:Int)-1)=(n:Int)-1:=aw af af;have w3:IntKind.i64.wrap (((n:Int)-1).tdiv 2)=(M:Int):=by
  rw[show((n:Int)-1)=((n-1:Nat):Int) by omega,hM,show(((n-1:Nat):Int)).tdiv 2=(((n-1)/2:Nat):Int) from rfl];exact aw af af
 have han:(a:Int)<(N:Int):=by omega
 clear h hN hn hM hab hb;go_enter func248,ntmps248;go_wp2;go_loopw [9] (fun vi wr=>∃(z:Int)(k:Nat)(dk:Array Nat),vi=.int .i64 z/\z=(k:Int)-1/\k<=M+1/\dk.size=N/\bw w0 base g cap dk wr/\Hid (heapBuild aZ n a k dk=heapBuild aZ n a (M+1) d)) (fun vi _=>(intOf vi+1).toNat)
 case atStart=>exact⟨(M:Int),M+1,d,rfl,af,Nat.le_refl _,HX.out.2.2.1,HX.out.2.1,rfl⟩
 case round=>
  obtain⟨z,k,dk,rfl,hz,hk,hsk,hs,HO⟩:=hrel;generalize wr=Wr at *;have HS:=ae (show _/\_ from⟨hsk,hs⟩);have HK:=ae (show k<=M+1/\M<=n/\n<=1000000 by have:=HX.out;omega);clear hsk hs hk;cases k with
  |succ kp=>
    obtain rfl:z=(kp:Int):=by omega
    have hz0:¬(kp:Int)<0:=by omega
    have w4:IntKind.i64.wrap ((kp:Int)-1)=(kp:Int)-1:=by have:=HK.out;rw[aw]<;>omega
    have hc:=ae (Qf.out Wr dk HS.out.1 HS.out.2 kp n (by have:=HK.out;omega) (Nat.le_refl _));clear hz;go_wp2_with fail;refine hc.out.mono ?_;rintro e w5⟨rfl,hs5⟩;have b7:=ae hs5;clear hs5 hc;go_wp2;exact⟨⟨_,kp,_,rfl,rfl,by have:=HK.out;omega,b7.out.2,b7.out.1,HO.out⟩,by simp[intOf]⟩
  |zero=>
    obtain rfl:z=-1:=by omega
    clear hz HK;go_wp2;go_loopw [10] (fun vi wr=>∃(z:Int)(k:Nat)(dj:Array Nat),vi=.int .i64 z/\z=(k:Int)-1/\k<=n/\dj.size=N/\bw w0 base g cap dj wr/\Hid (heapPop aZ a k dj=heapSort aZ d a b)) (fun vi _=>(intOf vi+1).toNat)
    case atStart=>exact⟨(n:Int)-1,n,dk,rfl,rfl,Nat.le_refl _,HS.out.1,HS.out.2,ae (by rw[HX.out.1,<- HO.out];rfl)⟩
    case round=>
     obtain⟨z,k,dj,rfl,hz,hk,hsk,hs,HQ⟩:=hrel;generalize wr=Wj at *;have HJ:=ae (show _/\_ from⟨hsk,hs⟩);clear hs;cases k with
     |zero=>
       obtain rfl:z=-1:=by omega
       clear hz hk hsk;go_wp2;go_returns;exact⟨rfl,by rw[<- HQ.out];exact HJ.out.2⟩
     |succ kp=>
       obtain rfl:z=(kp:Int):=by omega
       have hz0:¬(kp:Int)<0:=by omega
       have hX:=HX.out;have w4:IntKind.i64.wrap ((kp:Int)-1)=(kp:Int)-1:=by rw[aw]<;>omega
       obtain⟨Q,hQ⟩:∃Q,Q=a+kp:=⟨_,rfl⟩;have wQ:IntKind.i64.wrap ((a:Int)+(kp:Int))=(Q:Int):=by rw[aw]<;>omega
       have bQ:(Q:Int)<(N:Int):=by omega
       obtain⟨x,y,x0,y0,dQ,⟨v,v0⟩,hd⟩:=HJ.out.2.swap a Q af af;have hc:=ae (Qf.out _ (swp dj a Q) (by rw[size_swp];exact hsk) hd.out 0 kp (Nat.zero_le _) af);have HQ2:Hid (heapPop aZ a kp (siftDown aZ kp a 0 (swp dj a Q))=heapSort aZ d a b/\kp<=n):=ae ⟨by rw[hQ,<- HQ.out];rfl,af⟩;simp only[Int.natCast_zero]at hc;clear hz hk hsk hQ hX;go_wp2_with fail;go_big_region
       all_goals
        clear x0 y0 dQ v0;go_wp2_with fail;refine hc.out.mono ?_;rintro e w5⟨rfl,hs5⟩;have b7:=ae hs5;clear hs5 hc;go_wp2;exact⟨⟨_,kp,_,rfl,rfl,HQ2.out.2,b7.out.2,b7.out.1,ae HQ2.out.1⟩,by simp[intOf]⟩
theorem abo{α:Type}[Inhabited α]{i j:Nat}{d:Array α}(h:i<j):reverseLoop i j d=reverseLoop (i+1) (j-1) (swp d i j):=by
 conv=>lhs;unfold reverseLoop
 rw[if_pos h]
theorem TT{α:Type}[Inhabited α]{i j:Nat}{d:Array α}(h:¬i<j):reverseLoop i j d=d:=by
 unfold reverseLoop;rw[if_neg h]
theorem C0(h:bw w0 base g cap d W)(a b:Nat)(hab:a<b)(hb:b<=d.size)(hsz:d.size<=1000000) :
 Calls prog 251 #[.slice (some ⟨g,0,none⟩) d.size cap,.int .i64 (a:Int),.int .i64 (b:Int)] W (pW w0 base g cap (reverseRange d a b)):=by
 obtain⟨N,hN⟩:∃N,N=d.size:=⟨_,rfl⟩;rw[<- hN]at hb hsz ⊢;obtain⟨J,hJ⟩:∃J,J=b-1:=⟨_,rfl⟩;have w1:IntKind.i64.wrap ((b:Int)-1)=(J:Int):=by rw[aw]<;>omega
 have H:=ae (show _/\_/\_/\reverseRange d a b=reverseLoop a J d/\a<=N/\N<=1000000 from⟨h,hN.symm,show J<N by omega,by unfold reverseRange;rw[hJ],af,hsz⟩);rw[H.out.2.2.2.1];clear h hN hJ hab hb hsz;go_enter func251,ntmps251;go_wp2;go_loopw [6,7] (fun vi vj wr=>∃(i j:Nat)(dk:Array Nat),vi=.int .i64 (i:Int)/\vj=.int .i64 (j:Int)/\i<=N/\j<N/\dk.size=N/\bw w0 base g cap dk wr/\Hid (reverseLoop i j dk=reverseLoop a J d)) (fun _ vj _=>(intOf vj).toNat)
 case atStart=>exact⟨a,J,d,rfl,rfl,H.out.2.2.2.2.1,H.out.2.2.1,H.out.2.1,H.out.1,rfl⟩
 case round=>
  obtain⟨i,j,dk,rfl,rfl,hi,hj,hsk,hs,HO⟩:=hrel;generalize wr=Wr at *;by_cases eY:i<j
  ·obtain⟨k,rfl⟩:∃k,j=k+1:=⟨j-1,af⟩;have hN:=H.out;have qO:(i:Int)<(k:Int)+1:=by omega
   have wi:IntKind.i64.wrap ((i:Int)+1)=((i+1:Nat):Int):=by rw[aw]<;>omega
   have wj:IntKind.i64.wrap (k:Int)=(k:Int):=by rw[aw]<;>omega
   have bi:(i:Int)<(N:Int):=by omega
   have bj:(k:Int)+1<(N:Int):=by omega
   have p0:(0:Int)<=(k:Int)+1:=by omega
   have e0:((k:Int)+1).toNat=k+1:=by omega
   obtain⟨x,y,x0,y0,dQ,⟨v,v0⟩,HD⟩:=hs.swap i (k+1) af af;have HQ:Hid (reverseLoop (i+1) k (swp dk i (k+1))=reverseLoop a J d/\i+1<=N/\k<N/\dk.size=N):=ae ⟨by rw[<- HO.out,abo eY];rfl,af,af,hsk⟩;clear hs hsk hi hj eY hN;go_wp2_with fail;go_big_region
   all_goals
    clear x0 y0 dQ v0;go_wp2;exact⟨⟨i+1,k,_,rfl,rfl,HQ.out.2.1,HQ.out.2.2.1,by rw[size_swp];exact HQ.out.2.2.2,HD.out,ae HQ.out.1⟩,by simp[intOf]⟩
  ·have qO:¬(i:Int)<(j:Int):=by omega
   have HS:=ae (show bw w0 base g cap (reverseLoop a J d) Wr by rw[<- HO.out,TT eY];exact hs);clear hs hsk;go_wp2;go_returns;exact⟨rfl,HS.out⟩
end
end
section
open Go.RowKit Go.Maps Go.Sort
section
variable {w0 W W':World} {base g cap c s:Nat} {d:Array Nat} {v:Value}
structure eT(w0:World)(base g cap:Nat)(d:Array Nat)(c:Nat)(v:Value)(W:World):Prop where
 num:bw w0 base g cap d W
 box:∃T,W.heap[c]? = some (.cells #[v] T (0,0))
 new:w0.heap.size<=c
 ng:c≠g
theorem eT.cell(h:eT w0 base g cap d c v W):W.cell? ⟨c,0,none⟩=some v/\W.frozen? ⟨c,0,none⟩=false:=by
 obtain⟨T,hT⟩:=h.box;exact⟨by rw[ar hT];rfl,aO hT _⟩
theorem eT.drawn(h:eT w0 base g cap d c v W)(n:Nat):eT w0 base g cap d c v (W.drewN n):=⟨h.num.drawn n,h.box,h.new,h.ng⟩
theorem eT.put(h:eT w0 base g cap d c v W)(u:Value):eT w0 base g cap d c u (W.setCell ⟨c,0,none⟩ u):=by
 obtain⟨T,hT⟩:=h.box;have ht:aG (·=c) W (W.setCell ⟨c,0,none⟩ u):=aG.setCell (aG.refl _ _) _ _ (.inl rfl);exact⟨⟨ht.ownsRow h.num.row (fun b hb e=>h.ng (by cases hb;exact e.symm)),h.num.turn.setCell _ _ (.inr h.new)⟩,⟨T,by rw[aT hT];rfl⟩,h.new,h.ng⟩
theorem eT.NC(h:bw w0 base g cap d W)(v:Value)(T:TypeId):eT w0 base g cap d W.heap.size v (W.alloc (.cells #[v] T)):=by
 refine⟨h.below aj,⟨T,heap_alloc_new W _⟩,h.turn.size,fun e=>?_⟩;have:=(aL h.row g rfl).1;omega
def ND(w0:World)(base g cap:Nat)(d:Array Nat)(c a b s:Nat)(e:Ending)(w':World):Prop:=
 ∃x y t:Nat,e=.returned (.tuple #[.int .i64 (x:Int),.int .i64 (y:Int)])/\eT w0 base g cap d c (.int .i64 (t:Int)) w'/\order2 aZ d a b s=(x,y,t)/\x<d.size/\y<d.size/\t<=s+1
def Xe(w0:World)(base g cap:Nat)(d:Array Nat)(c a b k s:Nat)(e:Ending)(w':World):Prop:=
 ∃m t:Nat,e=.returned (.int .i64 (m:Int))/\eT w0 base g cap d c (.int .i64 (t:Int)) w'/\median aZ d a b k s=(m,t)
theorem rh(h:eT w0 base g cap d c (.int .i64 (s:Int)) W)(a b:Nat)(ha:a<d.size)(hb:b<d.size)(hs:s<=1000) :
 Calls prog 303 #[.slice (some ⟨g,0,none⟩) d.size cap,.int .i64 (a:Int),.int .i64 (b:Int),ptrTo c] W
  (ND w0 base g cap d c a b s):=by
 have H:=ae (show _/\a<d.size/\b<d.size from⟨h,ha,hb⟩);have ba:(a:Int)<(d.size:Int):=by omega
 have bb:(b:Int)<(d.size:Int):=by omega
 have ws:IntKind.i64.wrap ((s:Int)+1)=((s+1:Nat):Int):=by rw[aw]<;>omega
 obtain⟨x,y,r,x0,y0,hl,hr⟩:=h.num.two b a hb ha;have HO:Hid (order2 aZ d a b s=cond r (b,a,s+1) (a,b,s)):=ae (by unfold order2;rw[hr.out];cases aZ d[b]! d[a]! <;> rfl);clear h ha hb hr;obtain⟨N,hN⟩:∃N,N=d.size:=⟨_,rfl⟩;rw[<- hN]at H ba bb ⊢;obtain⟨PST,hP⟩:∃P,P=ND w0 base g cap d c a b s:=⟨_,rfl⟩;rw[<- hP];have HP:Hid (∀x y t W',eT w0 base g cap d c (.int .i64 ((t:Nat):Int)) W'->order2 aZ d a b s=(x,y,t)->x<N->y<N->t<=s+1->PST (.returned (.tuple #[.int .i64 (x:Int),.int .i64 (y:Int)])) W'):=ae (fun x y t W' h1 h2 h3 h4 h5=>by rw[hP];exact⟨x,y,t,rfl,h1,h2,by rw[<- hN];exact h3,by rw[<- hN];exact h4,h5⟩);unfold ptrTo;clear hN hP;go_enter func303,ntmps303;go_wp2_with fail;go_quiet ((go_at_call 253;exact Calls.quiet_of_same (hl.out _)))
 have H3:=ae (H.out.1.drawn nq);clear x0 y0;generalize W.drewN nq=W3 at *;cases r
 ·go_wp2;exact HP.out _ _ _ _ H3.out HO.out H.out.2.1 H.out.2.2 af
 ·have RX:=ae (H3.out.put (.int .i64 ((s+1:Nat):Int)));obtain⟨hc,hf⟩:=H3.out.cell;go_wp2;exact HP.out _ _ _ _ RX.out HO.out H.out.2.2 H.out.2.1 af
theorem FO(h:eT w0 base g cap d c (.int .i64 (s:Int)) W)(a b k:Nat)(ha:a<d.size)(hb:b<d.size)(hk:k<d.size)(hs:s<=900) :
 Calls prog 288 #[.slice (some ⟨g,0,none⟩) d.size cap,.int .i64 (a:Int),.int .i64 (b:Int),.int .i64 (k:Int),ptrTo c] W
  (Xe w0 base g cap d c a b k s):=by
 have h1:=ae (rh h a b ha hb af);clear h;unfold ptrTo at *;go_enter func288,ntmps288;go_wp2_with fail;refine h1.out.mono ?_;rintro e w1⟨x1,y1,t1,rfl,n1,o1,p1,q1,r1⟩;have h2:=ae (rh n1 y1 k q1 hk af);have O1:=ae o1;clear n1 o1 h1;unfold ptrTo at h2;go_wp2_with fail;refine h2.out.mono ?_;rintro e w2⟨x2,y2,t2,rfl,n2,o2,p2,q2,r2⟩;have h3:=ae (rh n2 x1 x2 p1 p2 af);have O2:=ae o2;clear n2 o2 h2;unfold ptrTo at h3;go_wp2_with fail;refine h3.out.mono ?_;rintro e w3⟨x3,y3,t3,rfl,n3,o3,-⟩;have O3:=ae (show _/\_ from⟨o3,n3⟩);clear n3 o3 h3;go_wp2;go_ret;exact⟨y3,t3,rfl,O3.out.2,by unfold median;simp only[O1.out,O2.out,O3.out.1]⟩
theorem Jp(h:bw w0 base g cap d W)(a b:Nat)(hl:12<b-a)(h50:b-a<50)(hb:b<=d.size)(hsz:d.size<=1000000) :
 Calls prog 250 #[.slice (some ⟨g,0,none⟩) d.size cap,.int .i64 (a:Int),.int .i64 (b:Int)] W fun e w'=>e=.returned (.tuple #[.int .i64 ((choosePivot aZ d a b).1:Int),.int .i64 (nh (choosePivot aZ d a b).2:Int)])/\bw w0 base g cap d w':=by
 have H0:=ae (eT.NC h (.int .i64 ((0:Nat):Int)) 3);obtain⟨L,hL⟩:∃L,L=b-a:=⟨_,rfl⟩;obtain⟨Q,hQ⟩:∃Q,Q=(b-a)/4:=⟨_,rfl⟩;obtain⟨Q2,VQ⟩:∃Q2,Q2=Q*2:=⟨_,rfl⟩;obtain⟨Q3,hQ3⟩:∃Q3,Q3=Q*3:=⟨_,rfl⟩;obtain⟨I,hI⟩:∃I,I=a+Q:=⟨_,rfl⟩;obtain⟨J,hJ⟩:∃J,J=a+Q2:=⟨_,rfl⟩;obtain⟨K,hK⟩:∃K,K=a+Q3:=⟨_,rfl⟩;have wL:IntKind.i64.wrap ((b:Int)-(a:Int))=(L:Int):=by rw[aw]<;>omega
 have wQ:IntKind.i64.wrap ((L:Int)/4)=(Q:Int):=by rw[aw]<;>omega
 have wQ1:IntKind.i64.wrap (Q:Int)=(Q:Int):=aw af af;have wQ2:IntKind.i64.wrap ((Q:Int)*2)=(Q2:Int):=by rw[aw]<;>omega
 have wQ3:IntKind.i64.wrap ((Q:Int)*3)=(Q3:Int):=by rw[aw]<;>omega
 have wI:IntKind.i64.wrap ((a:Int)+(Q:Int))=(I:Int):=by rw[aw]<;>omega
 have wJ:IntKind.i64.wrap ((a:Int)+(Q2:Int))=(J:Int):=by rw[aw]<;>omega
 have wK:IntKind.i64.wrap ((a:Int)+(Q3:Int))=(K:Int):=by rw[aw]<;>omega
 have l8:¬(L:Int)<8:=by omega
 have l50:(L:Int)<50:=by omega
 have HM:=ae (fun W'(hW:eT w0 base g cap d W.heap.size (.int .i64 ((0:Nat):Int)) W')=>FO hW I J K af af af af);have HT:Hid (∀m,median aZ d I J K 0=m->choosePivot aZ d a b=(m.1,if m.2=0 then .increasing else if m.2=12 then .decreasing else .unknown)):=ae (fun m hm=>by
  rw[hI,hJ,hK,VQ,hQ3,hQ,<- Nat.mul_one ((b-a)/4)]at hm;rw[Nat.mul_one ((b-a)/4)]at hm;unfold choosePivot;simp only[ge_iff_le,show 8<=b-a by omega,show ¬50<=b-a by omega,if_true,if_false,Nat.mul_one,hm])
 clear h hL hQ VQ hQ3 hI hJ hK hl h50 hb hsz;unfold ptrTo at *;generalize d.size=N at *;generalize choosePivot aZ d a b=r at HT ⊢;go_enter func250,ntmps250;go_wp2_with fail;refine(HM.out _ H0.out).mono ?_;rintro e w4⟨m,t,rfl,h4,hm⟩;have H4:=ae (show _/\_ from⟨h4.num,HT.out _ hm⟩);obtain⟨hcell,-⟩:=h4.cell;clear h4 hm HM HT H0;by_cases m0:t=0
 ·subst m0;simp only[Int.natCast_zero]at hcell;go_wp2;go_ret2;rw[H4.out.2];exact⟨rfl,H4.out.1⟩
 ·by_cases m12:t=12
  ·subst m12;have RY:w4.cell? ⟨W.heap.size,0,none⟩=some (.int .i64 12):=hcell;clear hcell;go_wp2;go_ret2;rw[H4.out.2];exact⟨rfl,H4.out.1⟩
  ·have z0b:((t:Int) == 0)=false:=beq_false_of_ne af;have ad9:((t:Int) == 12)=false:=beq_false_of_ne af;have HN:=ae (show _/\_ from⟨m0,m12⟩);clear m0 m12;go_wp2;go_ret2;rw[H4.out.2];simp only[HN.out.1,HN.out.2,if_false];exact⟨rfl,H4.out.1⟩
end
end
section
open Go.RowKit Go.Maps Go.Sort
section
variable {w0 W W':World} {base g cap c:Nat} {d:Array Nat} {v:Value}
theorem eT.swap(h:eT w0 base g cap d c v W)(i j:Nat)(hi:i<d.size)(hj:j<d.size):∃x y:Nat,W.cell? ⟨g,i,none⟩=some (.int .u32 (x:Int))/\W.cell? ⟨g,j,none⟩=some (.int .u32 (y:Int))/\(∀k,W.frozen? ⟨g,k,none⟩=false)/\(∃z:Nat,(W.setCell ⟨g,i,none⟩ (.int .u32 (y:Int))).cell? ⟨g,j,none⟩=some (.int .u32 (z:Int)))/\Hid (eT w0 base g cap (swp d i j) c v ((W.setCell ⟨g,i,none⟩ (.int .u32 (y:Int))).setCell ⟨g,j,none⟩ (.int .u32 (x:Int))).drew):=by
 obtain⟨x,y,h1,h2,h3,h4,h5⟩:=h.num.swap i j hi hj;obtain⟨T,hT⟩:=h.box;have ht:aG (·=g) W ((W.setCell ⟨g,i,none⟩ (.int .u32 (y:Int))).setCell ⟨g,j,none⟩ (.int .u32 (x:Int))).drew:=(((aG.refl (·=g) W).setCell _ _ (.inl rfl)).setCell _ _ (.inl rfl)).drew;exact⟨x,y,h1,h2,h3,h4,ae ⟨h5.out,⟨T,ht.heap hT h.ng⟩,h.new,h.ng⟩⟩
theorem Jq(h:bw w0 base g cap d W)(a b:Nat)(hl:12<b-a)(hb:b<=d.size)(hsz:d.size<=1000000) :
 Calls prog 249 #[.slice (some ⟨g,0,none⟩) d.size cap,.int .i64 (a:Int),.int .i64 (b:Int)] W (pW w0 base g cap (breakPatterns d a b)):=by
 obtain⟨L,hL⟩:∃L,L=b-a:=⟨_,rfl⟩;obtain rfl:b=a+L:=by omega
 rw[breakPatterns_eq d a L af];obtain⟨M,hM⟩:∃M:Nat,M=1 <<< bitsLen L:=⟨_,rfl⟩;have OB:1<=M/\M<=2*L:=by rw[hM,Nat.one_shiftLeft];exact⟨Nat.two_pow_pos _,two_pow_bitsLen_le af⟩
 have HNP:Hid (∀W',Calls prog 192 #[.int .i64 (L:Int)] W' fun e w'=>e=.returned (.int .u64 (M:Int))/\w'=W'):=ae (fun W'=>by
  rw[hM];exact AnyF.nextPowerOfTwo (P:=prog) (ρ:=Tryz.eI) { Tryz.jY with } L af W')
 rw[<- hM];obtain⟨N,hN⟩:∃N,N=d.size:=⟨_,rfl⟩;rw[<- hN]at hb hsz ⊢;obtain⟨Q,hQ⟩:∃Q,Q=L/4:=⟨_,rfl⟩;obtain⟨Q2,VQ⟩:∃Q2,Q2=Q*2:=⟨_,rfl⟩;obtain⟨A2,hA2⟩:∃A2,A2=a+Q2:=⟨_,rfl⟩;obtain⟨E,hE⟩:∃E,E=A2+1:=⟨_,rfl⟩;obtain⟨B,hB⟩:∃B,B=A2-1:=⟨_,rfl⟩;obtain⟨BN,hBN⟩:∃BN,BN=a+L:=⟨_,rfl⟩;have wL:IntKind.i64.wrap ((BN:Int)-(a:Int))=(L:Int):=by rw[aw]<;>omega
 have ai6:IntKind.u64.wrap (L:Int)=(L:Int):=fW _ af af;have wQ:IntKind.i64.wrap ((L:Int)/4)=(Q:Int):=by rw[aw]<;>omega
 have wQ2:IntKind.i64.wrap ((Q:Int)*2)=(Q2:Int):=by rw[aw]<;>omega
 have wA2:IntKind.i64.wrap ((a:Int)+(Q2:Int))=(A2:Int):=by rw[aw]<;>omega
 have wE:IntKind.i64.wrap ((A2:Int)+1)=(E:Int):=by rw[aw]<;>omega
 have wB:IntKind.i64.wrap ((A2:Int)-1)=(B:Int):=by rw[aw]<;>omega
 have wM:IntKind.u64.wrap ((M:Int)-1)=(M:Int)-1:=fW _ af af;have l8:¬(L:Int)<8:=by omega
 have HX:Hid (E=B+2/\B+3<=a+L/\a+L<=N/\a<=B/\8<=L/\1<=M/\M<=2*L/\L<=N/\N<=1000000/\d.size=N):=ae af;have H0:=ae (eT.NC h (.int .u64 (L:Int)) 280);rw[show a+L/4*2-1=B by omega,<- hBN];clear h hL hM OB hN hQ VQ hA2 hE hB hBN hb hsz hl;unfold ptrTo at *;go_enter func249,ntmps249;go_wp2_with fail;generalize W.heap.size=rb at H0 ⊢;generalize W.alloc (.cells #[.int .u64 (L:Int)] 280)=W1 at H0 ⊢;refine(HNP.out _).mono ?_;rintro e w'⟨rfl,hw'⟩;obtain rfl:=hw';clear HNP;go_wp2;go_loopw [9] (fun vi wr=>∃(i t:Nat)(r:UInt64)(dk:Array Nat),vi=.int .i64 (i:Int)/\t<=3/\dk.size=N/\eT w0 base g cap dk rb (.int .u64 (r.toNat:Int)) wr/\Hid (i=B+t)/\Hid (bpRest a L M B (3-t) t (r,dk)=bpRest a L M B 3 0 (UInt64.ofNat L,d))) (fun vi _=>B+3-(intOf vi).toNat)
 case atStart=>
  refine⟨B,0,UInt64.ofNat L,d,rfl,af,HX.out.2.2.2.2.2.2.2.2.2,?_,ae rfl,rfl⟩;rw[show(UInt64.ofNat L).toNat=L from by rw[UInt64.toNat_ofNat'];have:=HX.out;omega];exact H0.out
 case round=>
  obtain⟨i,t,r,dk,rfl,ht,hsk,hs,hi,HO⟩:=hrel;generalize wr=Wr at *;by_cases yY:t<3
  ·obtain⟨R',VR⟩:∃R':Nat,R'=xorNextN r.toNat:=⟨_,rfl⟩;obtain⟨O,hO⟩:∃O:Nat,O=R' &&& (M-1):=⟨_,rfl⟩;have hx:=HX.out;have VS:=hi.out;have lO:O<=M-1:=by rw[hO];exact Nat.and_le_right
   have ai7:bits .and .u64 (R':Int) ((M:Int)-1)=(O:Int):=by
    rw[show((M:Int)-1)=((M-1:Nat):Int) by omega,bits_and_u64_nat _ _ (by rw[VR];exact xorNextN_lt _ r.toNat_lt) af,hO]
   obtain⟨V,hV⟩:∃V,V=if O >= L then O-L else O:=⟨_,rfl⟩;have hVL:V<L/\(L<=O->V=O-L)/\(¬L<=O->V=O):=by rw[hV];split<;>omega
   obtain⟨P,hP⟩:∃P,P=a+V:=⟨_,rfl⟩;have AP:Hid (Calls prog 193 #[.pointer (some ⟨rb,0,none⟩)] Wr fun e w'=>e=.returned (.int .u64 (R':Int))/\eT w0 base g cap dk rb (.int .u64 ((xorNext r).toNat:Int)) w'):=ae ((AnyF.xorshift_Next (P:=prog) (ρ:=Tryz.eI) { Tryz.jY with } rb 0 r.toNat r.toNat_lt Wr hs.cell.1 hs.cell.2).mono fun e w' ⟨h1,h2⟩=>by
    rw[VR];refine⟨h1,?_⟩;rw[h2,xorNext_toNat];exact(hs.put _).drawn 3)
   have hiz:(i:Int)<=(E:Int):=by omega
   have bi:(i:Int)<(N:Int):=by omega
   have bP:(P:Int)<(N:Int):=by omega
   have wO:IntKind.i64.wrap (O:Int)=(O:Int):=aw af af;have Yb:IntKind.i64.wrap ((i:Int)+1)=((i+1:Nat):Int):=by rw[aw]<;>omega
   have wP:IntKind.i64.wrap ((a:Int)+(V:Int))=(P:Int):=by rw[aw]<;>omega
   have HBP:Hid (bpRest a L M B (3-(t+1)) (t+1) (xorNext r,swp dk i P)=bpRest a L M B 3 0 (UInt64.ofNat L,d)):=ae (by
    rw[<- HO.out,bp_step a L M B t r dk V yY (by rw[hV,hO,VR,xorNext_toNat]),VS,hP])
   have HV:=ae (show _/\i<dk.size/\P<dk.size/\O<=2000000/\i+1=B+(t+1)/\t+1<=3/\dk.size=N from⟨hVL,af,af,af,af,af,hsk⟩);clear VR hO lO hV hVL hP hs hi hx VS HO ht yY hsk;go_wp2_with fail;refine AP.out.mono ?_;rintro e w2⟨rfl,hb2⟩;have cY:=ae hb2;clear hb2 AP;go_upto_if 43 with fail
   go_cut [10] from 41 to 46 (fun vo wx=>vo=.int .i64 (V:Int)/\w2=wx)
   case first=>
    by_cases hLO:L<=O
    ·have aac:(O:Int) >= (L:Int):=by omega
     have wV:IntKind.i64.wrap ((O:Int)-(L:Int))=(V:Int):=by have:=HV.out;have:=HX.out;rw[aw]<;>omega
     go_wp2;go_meet
     exact⟨rfl,rfl⟩
    ·have aac:¬(O:Int) >= (L:Int):=by omega
     have hVO:V=O:=HV.out.1.2.2 hLO;go_wp2;go_meet
     exact⟨by rw[hVO],rfl⟩
   case rest=>
    obtain⟨rfl,rfl⟩:=hcut;obtain⟨x,y,x0,y0,dQ,⟨z,z0⟩,HD⟩:=cY.out.swap i P HV.out.2.1 HV.out.2.2.1;go_wp2_with fail;go_big_region
    all_goals
     clear x0 y0 dQ z0;go_wp2;exact⟨⟨i+1,t+1,xorNext r,_,rfl,HV.out.2.2.2.2.2.1,by rw[size_swp];exact HV.out.2.2.2.2.2.2,HD.out,ae HV.out.2.2.2.2.1,HBP⟩,by have:=HV.out;have:=HX.out;simp[intOf];omega⟩
  ·have hiz:¬(i:Int)<=(E:Int):=by have:=HX.out;have:=hi.out;omega
   obtain rfl:t=3:=by omega
   have HS:=ae (show bw w0 base g cap (bpRest a L M B 3 0 (UInt64.ofNat L,d)) Wr by rw[<- HO.out];exact hs.num);clear hs HO hi;go_wp2;go_returns;exact⟨rfl,HS.out⟩
end
end
section
open Go.RowKit Go.Maps Go.Sort
section
variable {w0 W W':World} {base g cap:Nat} {d:Array Nat}
def Mh(w0:World)(base g cap:Nat)(r:Nat×Bool×Array Nat)(e:Ending)(w':World):Prop:=e=.returned (.tuple #[.int .i64 (r.1:Int),.bool r.2.1])/\bw w0 base g cap r.2.2 w'
theorem Mi(h:bw w0 base g cap d W)(a b pv:Nat)(hap:a<=pv)(N4:pv<b)(hb:b<=d.size)(hsz:d.size<=1000000) :
 Calls prog 255 #[.slice (some ⟨g,0,none⟩) d.size cap,.int .i64 (a:Int),.int .i64 (b:Int),.int .i64 (pv:Int)] W (Mh w0 base g cap (partition aZ d a b pv)):=by
 have H:=ae h;obtain⟨N,hN⟩:∃N,N=d.size:=⟨_,rfl⟩;rw[<- hN]at hb hsz ⊢;obtain⟨J,hJ⟩:∃J,J=b-1:=⟨_,rfl⟩;have wJ:IntKind.i64.wrap ((b:Int)-1)=(J:Int):=by rw[aw]<;>omega
 have wI:IntKind.i64.wrap ((a:Int)+1)=((a+1:Nat):Int):=by rw[aw]<;>omega
 have ba:(a:Int)<(N:Int):=by omega
 have bp:(pv:Int)<(N:Int):=by omega
 have HX:Hid (a<d.size/\pv<d.size/\J<N/\a<=J/\N<=1000000/\b-1=J/\d.size=N):=ae af;obtain⟨D,hD⟩:∃D,D=swp d a pv:=⟨_,rfl⟩;obtain⟨r,hr⟩:∃r,r=partition aZ d a b pv:=⟨_,rfl⟩;rw[<- hr];have Fc:=ae (show _/\_ from⟨hD,hr⟩);clear h hJ hap N4 hb hsz hN hD hr;go_enter func255,ntmps255;go_upto_region 1 with fail
 go_cut [] from 12 to 25 (fun wx=>bw w0 base g cap (swp d a pv) wx)
 case first=>
  obtain⟨x,y,x0,y0,dQ,⟨z,z0⟩,HD⟩:=H.out.swap a pv (by have:=HX.out;omega) (by have:=HX.out;omega);go_big_region
  all_goals
   clear x0 y0 dQ z0;go_wp2;go_meet
   exact HD.out
 case rest=>
  have jg:=ae (show bw w0 base g cap D _ by rw[Fc.out.1];exact hcut);have cO:Hid (D.size=N/\a+1<=J+1/\J<N/\1<=a+1/\a<N/\N<=1000000/\a<a+1):=ae (by have:=HX.out;rw[Fc.out.1,size_swp];omega);clear hcut H;go_upto_block 0 with fail
  go_cut [10] from 30 to 45 (fun vi wx=>∃i:Nat,vi=.int .i64 (i:Int)/\bw w0 base g cap D wx/\Hid (i=scanUp (fun x=>aZ x D[a]!) D J (a+1)))
  case first=>
   go_wp2_with fail;go_loopw [10] (fun vi wr=>∃i:Nat,vi=.int .i64 (i:Int)/\(a+1)<=i/\i<=J+1/\bw w0 base g cap D wr/\Hid (scanUp (fun x=>aZ x D[a]!) D J i=scanUp (fun x=>aZ x D[a]!) D J (a+1))) (fun vi _=>J+1-(intOf vi).toNat)
   case atStart=>exact⟨(a+1),rfl,by have:=cO.out;omega,by have:=cO.out;omega,jg.out,rfl⟩
   case round=>
    obtain⟨i,rfl,h1,h2,hs,HO⟩:=hrel;have HS:=ae hs;by_cases eY:i<=J
    ·have hz:(i:Int)<=(J:Int):=by omega
     have bi:(i:Int)<(N:Int):=by have:=cO.out;omega
     have wi:IntKind.i64.wrap ((i:Int)+1)=((i+1:Nat):Int):=by have:=cO.out;rw[aw]<;>omega
     obtain⟨x,y,b,x0,y0,hl,hb⟩:=hs.two i a (by have:=cO.out;omega) (by have:=cO.out;omega);have HQ:Hid (b=false->i=scanUp (fun x=>aZ x D[a]!) D J (a+1)):=ae fun e=>by rw[<- HO.out,scanUp_end _ _ _ _ (.inr (by rw[e]at hb;simp[<- hb.out]))]
     have HG:Hid (b=true->scanUp (fun x=>aZ x D[a]!) D J (i+1)=scanUp (fun x=>aZ x D[a]!) D J (a+1)/\(a+1)<=(i+1)/\(i+1)<=J+1):=ae fun e=>⟨by rw[<- HO.out,scanUp_go _ _ _ _ eY (by rw[e]at hb;simp[<- hb.out])],by have:=cO.out;omega,af⟩;have HI:=ae eY;clear hs h1 h2 hb eY HO;go_wp2_with fail;go_quiet ((go_at_call 253;exact Calls.quiet_of_same (hl.out _)))
     have b7:=ae (HS.out.drawn nq);clear HS x0 y0;cases b
     ·go_wp2;go_meet
      exact⟨i,rfl,b7.out,ae (HQ.out trivial)⟩
     ·have hg:=HG.out rfl;have VA:=HI.out;have YP:=cO.out;go_wp2;exact⟨⟨(i+1),rfl,hg.2.1,hg.2.2,b7.out,ae hg.1⟩,by simp[intOf];omega⟩
    ·have hz:¬(i:Int)<=(J:Int):=by omega
     have HQ:Hid (i=scanUp (fun x=>aZ x D[a]!) D J (a+1)):=ae (by rw[<- HO.out,scanUp_end _ _ _ _ (.inl eY)]);clear hs h1 h2 HO;go_wp2_with fail;go_quiet (fail)
     have b7:=ae (HS.out.drawn nq);go_wp2;go_meet
     exact⟨i,rfl,b7.out,HQ⟩
  case rest=>
   obtain⟨i1,rfl,hs,se⟩:=hcut;have eP:=ae hs;have hu:=FN se.out (by have:=cO.out;omega);have cY:Hid (D.size=N/\i1<=J+1/\J<N/\1<=i1/\a<N/\N<=1000000/\a<i1):=ae (by have:=cO.out;omega);clear hs hu jg;go_upto_block 2 with fail
   go_cut [11] from 46 to 62 (fun vi wx=>∃i:Nat,vi=.int .i64 (i:Int)/\bw w0 base g cap D wx/\Hid (i=scanDown (fun x=>!aZ x D[a]!) D i1 J))
   case first=>
    go_wp2_with fail;go_loopw [11] (fun vi wr=>∃i:Nat,vi=.int .i64 (i:Int)/\i1<=i+1/\i<=J/\bw w0 base g cap D wr/\Hid (scanDown (fun x=>!aZ x D[a]!) D i1 i=scanDown (fun x=>!aZ x D[a]!) D i1 J)) (fun vi _=>(intOf vi).toNat)
    case atStart=>exact⟨J,rfl,by have:=cY.out;omega,by have:=cY.out;omega,eP.out,rfl⟩
    case round=>
     obtain⟨i,rfl,h1,h2,hs,HO⟩:=hrel;have HS:=ae hs;by_cases eY:i1<=i
     ·have hz:(i1:Int)<=(i:Int):=by omega
      have bi:(i:Int)<(N:Int):=by have:=cY.out;omega
      have wi:IntKind.i64.wrap ((i:Int)-1)=((i-1:Nat):Int):=by have:=cY.out;rw[aw]<;>omega
      obtain⟨x,y,b,x0,y0,hl,hb⟩:=hs.two i a (by have:=cY.out;omega) (by have:=cY.out;omega);have HQ:Hid (b=true->i=scanDown (fun x=>!aZ x D[a]!) D i1 J):=ae fun e=>by rw[<- HO.out,scanDown_end _ _ _ _ (.inr (by rw[e]at hb;simp[<- hb.out]))]
      have HG:Hid (b=false->scanDown (fun x=>!aZ x D[a]!) D i1 (i-1)=scanDown (fun x=>!aZ x D[a]!) D i1 J/\i1<=(i-1)+1/\(i-1)<=J):=ae fun e=>⟨by rw[<- HO.out,scanDown_go _ _ _ _ eY (by have:=cY.out;omega) (by rw[e]at hb;simp[<- hb.out])],by have:=cY.out;omega,af⟩;have HI:=ae eY;clear hs h1 h2 hb eY HO;go_wp2_with fail;go_quiet ((go_at_call 253;exact Calls.quiet_of_same (hl.out _)))
      have b7:=ae (HS.out.drawn nq);clear HS x0 y0;cases b
      ·have hg:=HG.out rfl;have VA:=HI.out;have YP:=cY.out;go_wp2;exact⟨⟨(i-1),rfl,hg.2.1,hg.2.2,b7.out,ae hg.1⟩,by simp[intOf];omega⟩
      ·go_wp2;go_meet
       exact⟨i,rfl,b7.out,ae (HQ.out trivial)⟩
     ·have hz:¬(i1:Int)<=(i:Int):=by omega
      have HQ:Hid (i=scanDown (fun x=>!aZ x D[a]!) D i1 J):=ae (by rw[<- HO.out,scanDown_end _ _ _ _ (.inl eY)]);clear hs h1 h2 HO;go_wp2_with fail;go_quiet (fail)
      have b7:=ae (HS.out.drawn nq);go_wp2;go_meet
      exact⟨i,rfl,b7.out,HQ⟩
   case rest=>
    obtain⟨j1,rfl,hs,KM⟩:=hcut;have fF:=ae hs;have hu:=xK (fun _=>rfl) se.out KM.out (by have:=cO.out;omega);have jJ:Hid (D.size=N/\i1<=j1+1/\j1<N/\a<=j1/\1<=i1/\a<N/\N<=1000000/\a<i1/\(i1<=j1->i1+1<=j1)):=ae (by have:=cY.out;omega);have bj:(j1:Int)<(N:Int):=by have:=cY.out;omega
    have hst:=fun r=>Me (lt:=aZ) (u:=i1) (v:=j1) (r:=r) Fc.out.1 (by rw[HX.out.2.2.2.2.2.1];exact se.out) (by rw[HX.out.2.2.2.2.2.1];exact KM.out);clear hs hu eP;by_cases zw:i1>j1
    ·have hz:(i1:Int)>(j1:Int):=by omega
     have HP:Hid (r=(j1,true,swp D j1 a)):=ae (by rw[Fc.out.2,hst (0,d) (fun hn=>absurd zw hn),if_pos zw]);clear hst;go_upto_region 8 with fail
     go_cut [] from 66 to 79 (fun wx=>bw w0 base g cap (swp D j1 a) wx)
     case first=>
      obtain⟨x,y,x0,y0,dQ,⟨z,z0⟩,HD⟩:=fF.out.swap j1 a (by have:=jJ.out;omega) (by have:=jJ.out;omega);go_big_region
      all_goals
       clear x0 y0 dQ z0;go_wp2;go_meet
       exact HD.out
     case rest=>
      have gD:=ae hcut;clear hcut;go_wp2;go_ret2;rw[HP.out];exact⟨rfl,gD.out⟩
    ·have hz:¬(i1:Int)>(j1:Int):=by omega
     have oB:Hid (D.size=N/\i1+1<=j1/\j1<N/\a<i1/\N<=1000000):=ae (by have:=jJ.out;omega);have bi:(i1:Int)<(N:Int):=by have:=jJ.out;omega
     have wi:IntKind.i64.wrap ((i1:Int)+1)=((i1+1:Nat):Int):=by have:=oB.out;rw[aw]<;>omega
     have wj:IntKind.i64.wrap ((j1:Int)-1)=((j1-1:Nat):Int):=by have:=oB.out;rw[aw]<;>omega
     have HP:Hid (r=((partLoop aZ a (i1+1) (j1-1) (swp D i1 j1)).1,false,swp (partLoop aZ a (i1+1) (j1-1) (swp D i1 j1)).2 (partLoop aZ a (i1+1) (j1-1) (swp D i1 j1)).1 a)):=ae (by rw[Fc.out.2,hst _ (fun _=>rfl),if_neg zw]);clear hst;go_upto_region 10 with fail
     go_cut [] from 81 to 94 (fun wx=>bw w0 base g cap (swp D i1 j1) wx)
     case first=>
      obtain⟨x,y,x0,y0,dQ,⟨z,z0⟩,HD⟩:=fF.out.swap i1 j1 (by have:=oB.out;omega) (by have:=oB.out;omega);go_big_region
      all_goals
       clear x0 y0 dQ z0;go_wp2;go_meet
       exact HD.out
     case rest=>
      have b7:=ae hcut;clear hcut fF;generalize hq:partLoop aZ a (i1+1) (j1-1) (swp D i1 j1)=q at *;have HQ:=ae hq;clear hq;go_wp2_with fail;go_loopw [10,11] (fun vi vj wr=>∃(i3 j3:Nat)(dk:Array Nat),vi=.int .i64 (i3:Int)/\vj=.int .i64 (j3:Int)/\a<i3/\i3<=j3+1/\j3<N/\dk.size=N/\bw w0 base g cap dk wr/\Hid (partLoop aZ a i3 j3 dk=q)) (fun vi vj _=>(intOf vj).toNat+1-(intOf vi).toNat)
      case atStart=>exact⟨i1+1,j1-1,_,rfl,rfl,by have:=oB.out;omega,by have:=oB.out;omega,by have:=oB.out;omega,by rw[size_swp];exact oB.out.1,b7.out,HQ⟩
      case round=>
       obtain⟨i3,j3,dk,rfl,rfl,Yc,R6,Qk,hsk,hs3,mQ⟩:=hrel;have gH:=ae hs3;have nw:Hid (dk.size=N/\i3<=j3+1/\j3<N/\1<=i3/\a<N/\N<=1000000/\a<i3):=ae (by have:=oB.out;omega);clear hs3 hsk Yc R6 Qk;go_upto_block 6 with fail
       go_cut [10] from 99 to 114 (fun vi wx=>∃i:Nat,vi=.int .i64 (i:Int)/\bw w0 base g cap dk wx/\Hid (i=scanUp (fun x=>aZ x dk[a]!) dk j3 i3))
       case first=>
        go_wp2_with fail;go_loopw [10] (fun vi wr=>∃i:Nat,vi=.int .i64 (i:Int)/\i3<=i/\i<=j3+1/\bw w0 base g cap dk wr/\Hid (scanUp (fun x=>aZ x dk[a]!) dk j3 i=scanUp (fun x=>aZ x dk[a]!) dk j3 i3)) (fun vi _=>j3+1-(intOf vi).toNat)
        case atStart=>exact⟨i3,rfl,by have:=nw.out;omega,by have:=nw.out;omega,gH.out,rfl⟩
        case round=>
         obtain⟨i,rfl,h1,h2,hs,HO⟩:=hrel;have HS:=ae hs;by_cases eY:i<=j3
         ·have hz:(i:Int)<=(j3:Int):=by omega
          have bi:(i:Int)<(N:Int):=by have:=nw.out;omega
          have wi:IntKind.i64.wrap ((i:Int)+1)=((i+1:Nat):Int):=by have:=nw.out;rw[aw]<;>omega
          obtain⟨x,y,b,x0,y0,hl,hb⟩:=hs.two i a (by have:=nw.out;omega) (by have:=nw.out;omega);have HQ:Hid (b=false->i=scanUp (fun x=>aZ x dk[a]!) dk j3 i3):=ae fun e=>by rw[<- HO.out,scanUp_end _ _ _ _ (.inr (by rw[e]at hb;simp[<- hb.out]))]
          have HG:Hid (b=true->scanUp (fun x=>aZ x dk[a]!) dk j3 (i+1)=scanUp (fun x=>aZ x dk[a]!) dk j3 i3/\i3<=(i+1)/\(i+1)<=j3+1):=ae fun e=>⟨by rw[<- HO.out,scanUp_go _ _ _ _ eY (by rw[e]at hb;simp[<- hb.out])],by have:=nw.out;omega,af⟩;have HI:=ae eY;clear hs h1 h2 hb eY HO;go_wp2_with fail;go_quiet ((go_at_call 253;exact Calls.quiet_of_same (hl.out _)))
          have b7:=ae (HS.out.drawn nq);clear HS x0 y0;cases b
          ·go_wp2;go_meet
           exact⟨i,rfl,b7.out,ae (HQ.out trivial)⟩
          ·have hg:=HG.out rfl;have VA:=HI.out;have YP:=nw.out;go_wp2;exact⟨⟨(i+1),rfl,hg.2.1,hg.2.2,b7.out,ae hg.1⟩,by simp[intOf];omega⟩
         ·have hz:¬(i:Int)<=(j3:Int):=by omega
          have HQ:Hid (i=scanUp (fun x=>aZ x dk[a]!) dk j3 i3):=ae (by rw[<- HO.out,scanUp_end _ _ _ _ (.inl eY)]);clear hs h1 h2 HO;go_wp2_with fail;go_quiet (fail)
          have b7:=ae (HS.out.drawn nq);go_wp2;go_meet
          exact⟨i,rfl,b7.out,HQ⟩
       case rest=>
        obtain⟨i4,rfl,hs,xX⟩:=hcut;have j5:=ae hs;have hu:=FN xX.out (by have:=nw.out;omega);have rY:Hid (dk.size=N/\i4<=j3+1/\j3<N/\1<=i4/\a<N/\N<=1000000/\a<i4):=ae (by have:=nw.out;omega);clear hs hu gH;go_upto_block 8 with fail
        go_cut [11] from 115 to 131 (fun vi wx=>∃i:Nat,vi=.int .i64 (i:Int)/\bw w0 base g cap dk wx/\Hid (i=scanDown (fun x=>!aZ x dk[a]!) dk i4 j3))
        case first=>
         go_wp2_with fail;go_loopw [11] (fun vi wr=>∃i:Nat,vi=.int .i64 (i:Int)/\i4<=i+1/\i<=j3/\bw w0 base g cap dk wr/\Hid (scanDown (fun x=>!aZ x dk[a]!) dk i4 i=scanDown (fun x=>!aZ x dk[a]!) dk i4 j3)) (fun vi _=>(intOf vi).toNat)
         case atStart=>exact⟨j3,rfl,by have:=rY.out;omega,by have:=rY.out;omega,j5.out,rfl⟩
         case round=>
          obtain⟨i,rfl,h1,h2,hs,HO⟩:=hrel;have HS:=ae hs;by_cases eY:i4<=i
          ·have hz:(i4:Int)<=(i:Int):=by omega
           have bi:(i:Int)<(N:Int):=by have:=rY.out;omega
           have wi:IntKind.i64.wrap ((i:Int)-1)=((i-1:Nat):Int):=by have:=rY.out;rw[aw]<;>omega
           obtain⟨x,y,b,x0,y0,hl,hb⟩:=hs.two i a (by have:=rY.out;omega) (by have:=rY.out;omega);have HQ:Hid (b=true->i=scanDown (fun x=>!aZ x dk[a]!) dk i4 j3):=ae fun e=>by rw[<- HO.out,scanDown_end _ _ _ _ (.inr (by rw[e]at hb;simp[<- hb.out]))]
           have HG:Hid (b=false->scanDown (fun x=>!aZ x dk[a]!) dk i4 (i-1)=scanDown (fun x=>!aZ x dk[a]!) dk i4 j3/\i4<=(i-1)+1/\(i-1)<=j3):=ae fun e=>⟨by rw[<- HO.out,scanDown_go _ _ _ _ eY (by have:=rY.out;omega) (by rw[e]at hb;simp[<- hb.out])],by have:=rY.out;omega,af⟩;have HI:=ae eY;clear hs h1 h2 hb eY HO;go_wp2_with fail;go_quiet ((go_at_call 253;exact Calls.quiet_of_same (hl.out _)))
           have b7:=ae (HS.out.drawn nq);clear HS x0 y0;cases b
           ·have hg:=HG.out rfl;have VA:=HI.out;have YP:=rY.out;go_wp2;exact⟨⟨(i-1),rfl,hg.2.1,hg.2.2,b7.out,ae hg.1⟩,by simp[intOf];omega⟩
           ·go_wp2;go_meet
            exact⟨i,rfl,b7.out,ae (HQ.out trivial)⟩
          ·have hz:¬(i4:Int)<=(i:Int):=by omega
           have HQ:Hid (i=scanDown (fun x=>!aZ x dk[a]!) dk i4 j3):=ae (by rw[<- HO.out,scanDown_end _ _ _ _ (.inl eY)]);clear hs h1 h2 HO;go_wp2_with fail;go_quiet (fail)
           have b7:=ae (HS.out.drawn nq);go_wp2;go_meet
           exact⟨i,rfl,b7.out,HQ⟩
        case rest=>
         obtain⟨j4,rfl,hs,Sb⟩:=hcut;have jK:=ae hs;have hu:=xK (fun _=>rfl) xX.out Sb.out (by have:=nw.out;omega);have zC:Hid (dk.size=N/\j4<N/\a<=j4/\a<i4/\a<N/\N<=1000000/\i4<=j4+1/\(i4<=j4->i4+1<=j4)/\i3<=i4/\j4<=j3):=ae (by have:=rY.out;omega);have bj:(j4:Int)<(N:Int):=by have:=zC.out;omega
         have hst:=PE xX.out Sb.out;rw[mQ.out]at hst;clear hs hu j5;by_cases zw:i4>j4
         ·have hz:(i4:Int)>(j4:Int):=by omega
          rw[if_pos zw]at hst;have HST:=ae hst;clear hst;go_upto_region 21 with fail
          go_cut [] from 153 to 166 (fun wx=>bw w0 base g cap (swp dk j4 a) wx)
          case first=>
           obtain⟨x,y,x0,y0,dQ,⟨z,z0⟩,HD⟩:=jK.out.swap j4 a (by have:=zC.out;omega) (by have:=zC.out;omega);go_big_region
           all_goals
            clear x0 y0 dQ z0;go_wp2;go_meet
            exact HD.out
          case rest=>
           have qs:=ae hcut;clear hcut;go_wp2;go_ret2;rw[HP.out,HST.out];exact⟨rfl,qs.out⟩
         ·have hz:¬(i4:Int)>(j4:Int):=by omega
          rw[if_neg zw]at hst;have HST:=ae hst;have rZ:Hid (dk.size=N/\i4+1<=j4/\j4<N/\a<i4/\N<=1000000/\i3<=i4/\j4<=j3):=ae (by have:=zC.out;omega);have bi:(i4:Int)<(N:Int):=by have:=rZ.out;omega
          have wi:IntKind.i64.wrap ((i4:Int)+1)=((i4+1:Nat):Int):=by have:=rZ.out;rw[aw]<;>omega
          have wj:IntKind.i64.wrap ((j4:Int)-1)=((j4-1:Nat):Int):=by have:=rZ.out;rw[aw]<;>omega
          clear hst;go_upto_region 18 with fail
          go_cut [] from 135 to 148 (fun wx=>bw w0 base g cap (swp dk i4 j4) wx)
          case first=>
           obtain⟨x,y,x0,y0,dQ,⟨z,z0⟩,HD⟩:=jK.out.swap i4 j4 (by have:=rZ.out;omega) (by have:=rZ.out;omega);go_big_region
           all_goals
            clear x0 y0 dQ z0;go_wp2;go_meet
            exact HD.out
          case rest=>
           have qs:=ae hcut;clear hcut;go_wp2;have hb:=rZ.out;exact⟨⟨i4+1,j4-1,_,rfl,rfl,af,af,af,by rw[size_swp];exact hb.1,qs.out,ae HST.out.symm⟩,by simp[intOf];omega⟩
end
end
section
open Go.RowKit Go.Maps Go.Sort
section
variable {w0 W W':World} {base g cap:Nat} {d:Array Nat}
def TU(w0:World)(base g cap:Nat)(r:Nat×Array Nat)(e:Ending)(w':World):Prop:=e=.returned (.int .i64 (r.1:Int))/\bw w0 base g cap r.2 w'
theorem FP(h:bw w0 base g cap d W)(a b pv:Nat)(hap:a<=pv)(N4:pv<b)(hb:b<=d.size)(hsz:d.size<=1000000) :
 Calls prog 254 #[.slice (some ⟨g,0,none⟩) d.size cap,.int .i64 (a:Int),.int .i64 (b:Int),.int .i64 (pv:Int)] W (TU w0 base g cap (partitionEqual aZ d a b pv)):=by
 have H:=ae h;obtain⟨N,hN⟩:∃N,N=d.size:=⟨_,rfl⟩;rw[<- hN]at hb hsz ⊢;obtain⟨J,hJ⟩:∃J,J=b-1:=⟨_,rfl⟩;have wJ:IntKind.i64.wrap ((b:Int)-1)=(J:Int):=by rw[aw]<;>omega
 have wI:IntKind.i64.wrap ((a:Int)+1)=((a+1:Nat):Int):=by rw[aw]<;>omega
 have ba:(a:Int)<(N:Int):=by omega
 have bp:(pv:Int)<(N:Int):=by omega
 obtain⟨r,hr⟩:∃r,r=partitionEqual aZ d a b pv:=⟨_,rfl⟩;rw[<- hr];have HX:Hid (a<d.size/\pv<d.size/\J<N/\a<=J/\N<=1000000/\d.size=N/\partEqLoop aZ a (a+1) J (swp d a pv)=r):=ae ⟨af,af,af,af,af,af,by rw[hr,hJ];rfl⟩;clear h hJ hap N4 hb hsz hN hr;go_enter func254,ntmps254;go_upto_region 1 with fail
 go_cut [] from 11 to 24 (fun wx=>bw w0 base g cap (swp d a pv) wx)
 case first=>
  obtain⟨x,y,x0,y0,dQ,⟨z,z0⟩,HD⟩:=H.out.swap a pv (by have:=HX.out;omega) (by have:=HX.out;omega);go_big_region
  all_goals
   clear x0 y0 dQ z0;go_wp2;go_meet
   exact HD.out
 case rest=>
  have jg:=ae hcut;clear hcut H;go_wp2_with fail;go_loopw [9,10] (fun vi vj wr=>∃(i3 j3:Nat)(dk:Array Nat),vi=.int .i64 (i3:Int)/\vj=.int .i64 (j3:Int)/\a<i3/\i3<=j3+1/\j3<N/\dk.size=N/\bw w0 base g cap dk wr/\Hid (partEqLoop aZ a i3 j3 dk=r)) (fun vi vj _=>(intOf vj).toNat+1-(intOf vi).toNat)
  case atStart=>exact⟨a+1,J,_,rfl,rfl,af,by have:=HX.out;omega,HX.out.2.2.1,by rw[size_swp];exact HX.out.2.2.2.2.2.1,jg.out,ae HX.out.2.2.2.2.2.2⟩
  case round=>
   obtain⟨i3,j3,dk,rfl,rfl,Yc,R6,Qk,hsk,hs3,mQ⟩:=hrel;have gH:=ae hs3;have nw:Hid (dk.size=N/\i3<=j3+1/\j3<N/\1<=i3/\a<N/\N<=1000000/\a<i3):=ae (by have:=HX.out;omega);clear hs3 hsk Yc R6 Qk jg;go_upto_block 2 with fail
   go_cut [9] from 29 to 45 (fun vi wx=>∃i:Nat,vi=.int .i64 (i:Int)/\bw w0 base g cap dk wx/\Hid (i=scanUp (fun x=>!aZ dk[a]! x) dk j3 i3))
   case first=>
    go_wp2_with fail;go_loopw [9] (fun vi wr=>∃i:Nat,vi=.int .i64 (i:Int)/\i3<=i/\i<=j3+1/\bw w0 base g cap dk wr/\Hid (scanUp (fun x=>!aZ dk[a]! x) dk j3 i=scanUp (fun x=>!aZ dk[a]! x) dk j3 i3)) (fun vi _=>j3+1-(intOf vi).toNat)
    case atStart=>exact⟨i3,rfl,by have:=nw.out;omega,by have:=nw.out;omega,gH.out,rfl⟩
    case round=>
     obtain⟨i,rfl,h1,h2,hs,HO⟩:=hrel;have HS:=ae hs;by_cases eY:i<=j3
     ·have hz:(i:Int)<=(j3:Int):=by omega
      have bi:(i:Int)<(N:Int):=by have:=nw.out;omega
      have wi:IntKind.i64.wrap ((i:Int)+1)=((i+1:Nat):Int):=by have:=nw.out;rw[aw]<;>omega
      obtain⟨x,y,b,x0,y0,hl,hb⟩:=hs.two a i (by have:=nw.out;omega) (by have:=nw.out;omega);have HQ:Hid (b=true->i=scanUp (fun x=>!aZ dk[a]! x) dk j3 i3):=ae fun e=>by rw[<- HO.out,scanUp_end _ _ _ _ (.inr (by rw[e]at hb;simp[<- hb.out]))]
      have HG:Hid (b=false->scanUp (fun x=>!aZ dk[a]! x) dk j3 (i+1)=scanUp (fun x=>!aZ dk[a]! x) dk j3 i3/\i3<=(i+1)/\(i+1)<=j3+1):=ae fun e=>⟨by rw[<- HO.out,scanUp_go _ _ _ _ eY (by rw[e]at hb;simp[<- hb.out])],by have:=nw.out;omega,af⟩;have HI:=ae eY;clear hs h1 h2 hb eY HO;go_wp2_with fail;go_quiet ((go_at_call 253;exact Calls.quiet_of_same (hl.out _)))
      have b7:=ae (HS.out.drawn nq);clear HS x0 y0;cases b
      ·have hg:=HG.out rfl;have VA:=HI.out;have YP:=nw.out;go_wp2;exact⟨⟨(i+1),rfl,hg.2.1,hg.2.2,b7.out,ae hg.1⟩,by simp[intOf];omega⟩
      ·go_wp2;go_meet
       exact⟨i,rfl,b7.out,ae (HQ.out trivial)⟩
     ·have hz:¬(i:Int)<=(j3:Int):=by omega
      have HQ:Hid (i=scanUp (fun x=>!aZ dk[a]! x) dk j3 i3):=ae (by rw[<- HO.out,scanUp_end _ _ _ _ (.inl eY)]);clear hs h1 h2 HO;go_wp2_with fail;go_quiet (fail)
      have b7:=ae (HS.out.drawn nq);go_wp2;go_meet
      exact⟨i,rfl,b7.out,HQ⟩
   case rest=>
    obtain⟨i4,rfl,hs,xX⟩:=hcut;have j5:=ae hs;have hu:=FN xX.out (by have:=nw.out;omega);have rY:Hid (dk.size=N/\i4<=j3+1/\j3<N/\1<=i4/\a<N/\N<=1000000/\a<i4):=ae (by have:=nw.out;omega);clear hs hu gH;go_upto_block 4 with fail
    go_cut [10] from 46 to 61 (fun vi wx=>∃i:Nat,vi=.int .i64 (i:Int)/\bw w0 base g cap dk wx/\Hid (i=scanDown (fun x=>aZ dk[a]! x) dk i4 j3))
    case first=>
     go_wp2_with fail;go_loopw [10] (fun vi wr=>∃i:Nat,vi=.int .i64 (i:Int)/\i4<=i+1/\i<=j3/\bw w0 base g cap dk wr/\Hid (scanDown (fun x=>aZ dk[a]! x) dk i4 i=scanDown (fun x=>aZ dk[a]! x) dk i4 j3)) (fun vi _=>(intOf vi).toNat)
     case atStart=>exact⟨j3,rfl,by have:=rY.out;omega,by have:=rY.out;omega,j5.out,rfl⟩
     case round=>
      obtain⟨i,rfl,h1,h2,hs,HO⟩:=hrel;have HS:=ae hs;by_cases eY:i4<=i
      ·have hz:(i4:Int)<=(i:Int):=by omega
       have bi:(i:Int)<(N:Int):=by have:=rY.out;omega
       have wi:IntKind.i64.wrap ((i:Int)-1)=((i-1:Nat):Int):=by have:=rY.out;rw[aw]<;>omega
       obtain⟨x,y,b,x0,y0,hl,hb⟩:=hs.two a i (by have:=rY.out;omega) (by have:=rY.out;omega);have HQ:Hid (b=false->i=scanDown (fun x=>aZ dk[a]! x) dk i4 j3):=ae fun e=>by rw[<- HO.out,scanDown_end _ _ _ _ (.inr (by rw[e]at hb;simp[<- hb.out]))]
       have HG:Hid (b=true->scanDown (fun x=>aZ dk[a]! x) dk i4 (i-1)=scanDown (fun x=>aZ dk[a]! x) dk i4 j3/\i4<=(i-1)+1/\(i-1)<=j3):=ae fun e=>⟨by rw[<- HO.out,scanDown_go _ _ _ _ eY (by have:=rY.out;omega) (by rw[e]at hb;simp[<- hb.out])],by have:=rY.out;omega,af⟩;have HI:=ae eY;clear hs h1 h2 hb eY HO;go_wp2_with fail;go_quiet ((go_at_call 253;exact Calls.quiet_of_same (hl.out _)))
       have b7:=ae (HS.out.drawn nq);clear HS x0 y0;cases b
       ·go_wp2;go_meet
        exact⟨i,rfl,b7.out,ae (HQ.out trivial)⟩
       ·have hg:=HG.out rfl;have VA:=HI.out;have YP:=rY.out;go_wp2;exact⟨⟨(i-1),rfl,hg.2.1,hg.2.2,b7.out,ae hg.1⟩,by simp[intOf];omega⟩
      ·have hz:¬(i4:Int)<=(i:Int):=by omega
       have HQ:Hid (i=scanDown (fun x=>aZ dk[a]! x) dk i4 j3):=ae (by rw[<- HO.out,scanDown_end _ _ _ _ (.inl eY)]);clear hs h1 h2 HO;go_wp2_with fail;go_quiet (fail)
       have b7:=ae (HS.out.drawn nq);go_wp2;go_meet
       exact⟨i,rfl,b7.out,HQ⟩
    case rest=>
     obtain⟨j4,rfl,hs,Sb⟩:=hcut;have jK:=ae hs;have hu:=xK (fun _=>by simp) xX.out Sb.out (by have:=nw.out;omega);have zC:Hid (dk.size=N/\j4<N/\a<=j4/\a<i4/\a<N/\N<=1000000/\i4<=j4+1/\(i4<=j4->i4+1<=j4)/\i3<=i4/\j4<=j3):=ae (by have:=rY.out;omega);have bj:(j4:Int)<(N:Int):=by have:=zC.out;omega
     have hst:=Xd xX.out Sb.out;rw[mQ.out]at hst;clear hs hu j5;by_cases zw:i4>j4
     ·have hz:(i4:Int)>(j4:Int):=by omega
      rw[if_pos zw]at hst;have HST:=ae hst;clear hst;go_wp2;go_ret;rw[HST.out];exact⟨rfl,jK.out⟩
     ·have hz:¬(i4:Int)>(j4:Int):=by omega
      rw[if_neg zw]at hst;have HST:=ae hst;have rZ:Hid (dk.size=N/\i4+1<=j4/\j4<N/\a<i4/\N<=1000000/\i3<=i4/\j4<=j3):=ae (by have:=zC.out;omega);have bi:(i4:Int)<(N:Int):=by have:=rZ.out;omega
      have wi:IntKind.i64.wrap ((i4:Int)+1)=((i4+1:Nat):Int):=by have:=rZ.out;rw[aw]<;>omega
      have wj:IntKind.i64.wrap ((j4:Int)-1)=((j4-1:Nat):Int):=by have:=rZ.out;rw[aw]<;>omega
      clear hst;go_upto_region 8 with fail
      go_cut [] from 65 to 78 (fun wx=>bw w0 base g cap (swp dk i4 j4) wx)
      case first=>
       obtain⟨x,y,x0,y0,dQ,⟨z,z0⟩,HD⟩:=jK.out.swap i4 j4 (by have:=rZ.out;omega) (by have:=rZ.out;omega);go_big_region
       all_goals
        clear x0 y0 dQ z0;go_wp2;go_meet
        exact HD.out
      case rest=>
       have qs:=ae hcut;clear hcut;go_wp2;have hb:=rZ.out;exact⟨⟨i4+1,j4-1,_,rfl,rfl,af,af,af,by rw[size_swp];exact hb.1,qs.out,ae HST.out.symm⟩,by simp[intOf];omega⟩
end
end
section
open Go.RowKit Go.Maps Go.Sort
section
variable {w0 W W':World} {base g cap:Nat} {d:Array Nat}
theorem C5(h:bw w0 base g cap d W)(a b:Nat)(hab:a<b)(h50:b-a<50)(hb:b<=d.size)(hsz:d.size<=1000000) :
 Calls prog 252 #[.slice (some ⟨g,0,none⟩) d.size cap,.int .i64 (a:Int),.int .i64 (b:Int)] W fun e w'=>e=.returned (.bool (partialInsertionSort aZ d a b).2)/\(partialInsertionSort aZ d a b).1=d/\bw w0 base g cap d w':=by
 have H:=ae h;obtain⟨N,hN⟩:∃N,N=d.size:=⟨_,rfl⟩;rw[<- hN]at hb hsz ⊢;have HR:Hid (∀u,u=scanSorted aZ d b (a+1)->partialInsertionSort aZ d a b=(d,decide (u=b))):=ae (fun u hu=>by
  unfold partialInsertionSort;rw[partialIns_succ,<- hu];by_cases e:u=b
  ·rw[if_pos e,decide_eq_true e]
  ·rw[if_neg e,if_pos h50,decide_eq_false e])
 obtain⟨L,hL⟩:∃L,L=b-a:=⟨_,rfl⟩;have wL:IntKind.i64.wrap ((b:Int)-(a:Int))=(L:Int):=by rw[aw]<;>omega
 have wI:IntKind.i64.wrap ((a:Int)+1)=((a+1:Nat):Int):=by rw[aw]<;>omega
 have arl:(L:Int)<50:=by omega
 have HX:Hid (a<b/\b<=N/\N<=1000000/\d.size=N):=ae af;generalize partialInsertionSort aZ d a b=r at HR ⊢;clear h hN hL hab hb hsz h50;go_enter func252,ntmps252;go_upto_block 0 with fail
 go_wp2_with fail;refine wp_loop_rounds 1 ?_;rw[rounds_succ];go_upto_block 2 with fail
 go_cut [7] from 17 to 34 (fun vi wx=>∃i:Nat,vi=.int .i64 (i:Int)/\i<=b/\bw w0 base g cap d wx/\Hid (i=scanSorted aZ d b (a+1)))
 case first=>
  go_wp2_with fail;go_loopw [7] (fun vi wr=>∃i:Nat,vi=.int .i64 (i:Int)/\a+1<=i/\i<=b/\bw w0 base g cap d wr/\Hid (scanSorted aZ d b i=scanSorted aZ d b (a+1))) (fun vi _=>b-(intOf vi).toNat)
  case atStart=>exact⟨a+1,by go_num,Nat.le_refl _,HX.out.1,H.out,rfl⟩
  case round=>
   obtain⟨i,rfl,h1,h2,hs,HO⟩:=hrel;have HS:=ae hs;by_cases eY:i<b
   ·obtain⟨k,hk⟩:∃k,k=i-1:=⟨_,rfl⟩;have hz:(i:Int)<(b:Int):=by omega
    have bi:(i:Int)<(N:Int):=by have:=HX.out;omega
    have bk:(k:Int)<(N:Int):=by omega
    have wi:IntKind.i64.wrap ((i:Int)+1)=((i+1:Nat):Int):=by have:=HX.out;rw[aw]<;>omega
    have wk:IntKind.i64.wrap ((i:Int)-1)=(k:Int):=by have:=HX.out;rw[aw]<;>omega
    obtain⟨x,y,c,x0,y0,hl,hc⟩:=hs.two i k (by have:=HX.out;omega) (by have:=HX.out;omega);rw[hk]at hc;have HQ:Hid (c=true->i=scanSorted aZ d b (a+1)):=ae fun e=>by rw[<- HO.out,scanSorted_stop _ _ _ _ (.inr (by rw[<- hc.out,e]))]
    have HG:Hid (c=false->scanSorted aZ d b (i+1)=scanSorted aZ d b (a+1)):=ae fun e=>by rw[<- HO.out,scanSorted_go _ _ _ _ eY (by rw[<- hc.out,e])]
    have HI:=ae (show a+1<=i+1/\i+1<=b by omega);clear hs h1 h2 hc eY HO hk;go_wp2_with fail;go_quiet ((go_at_call 253;exact Calls.quiet_of_same (hl.out _)))
    have b7:=ae (HS.out.drawn nq);clear HS x0 y0;cases c
    ·have hg:=HG.out rfl;go_wp2;exact⟨⟨i+1,rfl,HI.out.1,HI.out.2,b7.out,ae hg⟩,by simp[intOf];omega⟩
    ·go_wp2;go_meet
     exact⟨i,rfl,by have:=HI.out;omega,b7.out,ae (HQ.out trivial)⟩
   ·have hz:¬(i:Int)<(b:Int):=by omega
    have HQ:Hid (i=scanSorted aZ d b (a+1)):=ae (by rw[<- HO.out,scanSorted_stop _ _ _ _ (.inl eY)]);have HI:=ae h2;clear hs h1 h2 HO;go_wp2_with fail;go_quiet (fail)
    have b7:=ae (HS.out.drawn nq);go_wp2;go_meet
    exact⟨i,rfl,HI.out,b7.out,HQ⟩
 case rest=>
  obtain⟨u,rfl,VX,hs,hu⟩:=hcut;have HS:=ae hs;have HE:=ae (HR.out u hu.out);clear hs hu;by_cases e:u=b
  ·have hz:((u:Int) == (b:Int))=true:=by simp[e]
   have hr:=HE.out;rw[decide_eq_true e]at hr;have HF:=ae hr;clear hr e VX;go_wp2;go_ret;rw[HF.out];exact⟨rfl,rfl,HS.out⟩
  ·have hz:((u:Int) == (b:Int))=false:=by simp;omega
   have hr:=HE.out;rw[decide_eq_false e]at hr;have HF:=ae hr;clear hr e VX;go_wp2;go_ret;rw[HF.out];exact⟨rfl,rfl,HS.out⟩
end
end
section
open Go Go.Sort
structure TV{α:Type}[Inhabited α](lt:α->α->Bool)(a b lim:Nat)(wb wp:Bool)(dk:Array α)(R:Sort.Rd α):Prop where
 brk:wb=false->R.d1=breakPatterns dk a b/\R.lim=lim-1
 nob:wb=true->R.d1=dk/\R.lim=lim
 c:R.c=choosePivot lt R.d1 a b
 dec:R.c.2=.decreasing->R.d2=reverseRange R.d1 a b/\R.pivot=(b-1)-(R.c.1-a)/\R.hint=.increasing
 Sh:R.c.2≠.decreasing->R.d2=R.d1/\R.pivot=R.c.1/\R.hint=R.c.2
 yes:(wb && wp && decide (R.hint=.increasing))=true->R.pi=partialInsertionSort lt R.d2 a b
 no:(wb && wp && decide (R.hint=.increasing))=false->R.pi=(R.d2,false)
 s1:R.d1.size=dk.size
 c1:a<=R.c.1
 c2:R.c.1<b
 s2:R.d2.size=dk.size
 p1:a<=R.pivot
 p2:R.pivot<b
 s3:R.pi.1.size=dk.size
 B3:Sort.Below lt a b R.pi.1
 jZ:R.lim<=lim
 done:R.pi.2=true->pdq lt dk a b lim wb wp=R.pi.1
 eq:R.pi.2=false->(decide (a>0) && !lt R.pi.1[a-1]! R.pi.1[R.pivot]!)=true->∀mid d4,partitionEqual lt R.pi.1 a b R.pivot=(mid,d4)->a<mid->mid<=b->pdq lt dk a b lim wb wp=pdq lt d4 mid b R.lim wb wp
 left:R.pi.2=false->(decide (a>0) && !lt R.pi.1[a-1]! R.pi.1[R.pivot]!)=false->∀mid ap d4,partition lt R.pi.1 a b R.pivot=(mid,ap,d4)->a<=mid->mid<b->mid-a<b-mid->pdq lt dk a b lim wb wp=pdq lt (pdq lt d4 a mid R.lim true true) (mid+1) b R.lim (decide (mid-a >= (b-a)/8)) ap
 right:R.pi.2=false->(decide (a>0) && !lt R.pi.1[a-1]! R.pi.1[R.pivot]!)=false->∀mid ap d4,partition lt R.pi.1 a b R.pivot=(mid,ap,d4)->a<=mid->mid<b->¬mid-a<b-mid->pdq lt dk a b lim wb wp=pdq lt (pdq lt d4 (mid+1) b R.lim true true) a mid R.lim (decide (b-mid >= (b-a)/8)) ap
theorem PF{α:Type}[Inhabited α]{lt:α->α->Bool}(h:SWO lt){a b lim:Nat}(wb wp:Bool){dk:Array α}(ET:¬b-a<=12)(h0:¬lim=0)(hb:b<=dk.size)(hB:Sort.Below lt a b dk):TV lt a b lim wb wp dk (rd lt dk a b lim wb wp):=by
 obtain⟨s1,B1,hc1,s2,B2,Ye,s3,B3⟩:=rd_facts (limit:=lim) (wb:=wb) (wp:=wp) h partialInsertionSort_holds reverseRange_holds (show a<b by omega) hb hB;exact {
  brk:=by rintro rfl;exact rd_false
  nob:=by rintro rfl;exact rd_true
  c:=rd_c
  dec:=rd_dec
  Sh:=rd_not
  yes:=rd_pi_yes
  no:=rd_pi_no
  s1:=s1
  c1:=hc1.1
  c2:=hc1.2
  s2:=s2
  p1:=Ye.1
  p2:=Ye.2
  s3:=s3
  B3:=B3
  jZ:=rd_lim_le
  done:=pdq_done ET h0
  eq:=fun h1 h2 mid d4 hx r1 r2=>by rw[pdq_eq ET h0 h1 h2 (by rw[hx];exact⟨r1,r2⟩),hx]
  left:=fun h1 h2 mid ap d4 hx r1 r2 h4=>by rw[pdq_left ET h0 h1 h2 (by rw[hx];exact⟨r1,r2⟩) (by rw[hx];exact h4),hx]
  right:=fun h1 h2 mid ap d4 hx r1 r2 h4=>by rw[pdq_right ET h0 h1 h2 (by rw[hx];exact⟨r1,r2⟩) (by rw[hx];exact h4),hx] }
end
end Go.Proofs.YthkkgdpomhhjjaaGreatDoor
