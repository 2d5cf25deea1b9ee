/-
  Joined.
-/
import Derived.Test.YthkkgdpomhhjjaaGreatDoorD12
set_option maxRecDepth 100000
set_option maxHeartbeats 32000000
namespace Go.Proofs.YthkkgdpomhhjjaaGreatDoor
open Go.Proofs.Tryz
section
open Go.RowKit Go.Maps
open Go.ChangeMaps (setBlock)
section
variable {w0 w w' W:World} {pb db n gb gen N ob ib vb rb:Nat} {o o':ar} {d d':Dsk} {L:aD} {es:List aJ}
theorem I6(HW:aP)(h:fI w0 w pb db n o d L gb gen N ob ib vb es)(v:Nat)(hv:v<N){cs:Array Value}{t:TypeId}(hr:w.heap[rb]? = some (.cells cs t))(hc:cs[1]? = some (ptrTo gb))(hro:o rb=none) :
 Calls prog 98 #[ptrTo rb,.int .u32 (v:Int)] w (Bd n pb db w o d L (cV es v)):=by
 have H:=aa h;have hout:=aa (h.out HW hv);have HI:Hid (∀W o' d',au (fun _=>False) n pb db w o d W o' d' L->Calls prog 22 #[ptrTo gb,.int .u32 (v:Int)] W (jx n pb db W o' d' L (fC es v))/\W.cell? ⟨rb,1,none⟩=some (ptrTo gb)):=aa (fun W o' d' hm=>⟨(h.moved hm).rE HW hv,by grind [aq,au.heap]⟩);have c0:w.cell? ⟨rb,1,none⟩=some (ptrTo gb):=by grind [aq]
 have vL:∀(t:TypeId)(W:World),(Instr.makeMap t none).run prog W=.ok (.map (some W.heap.size)) (W.alloc (.map #[] 0)):=fun _ _=>rfl;clear h hr hc hro;unfold jx ptrTo at *;go_enter func98,ntmps98;go_wp2_with fail;refine hout.o.mono ?_;rintro e w1⟨ov,d1,o1,rfl,ee,k9,tP⟩;obtain⟨oa,oc,rfl⟩:=az k9;obtain⟨qh,c1⟩:=HI.o _ _ _ ee;have HIN:=aa qh;have eu:=aa ee;have Dq:=aa k9;have Rh:=aa tP;clear ee k9 tP hout qh c0 HI;go_wp2_with fail;refine HIN.o.mono ?_;rintro e w2⟨iv,d2,o2,rfl,cQ,Da,hf2⟩;obtain⟨ia,ic,rfl⟩:=az Da;obtain⟨M1,Hf⟩:∃M,M=(aY es v).length:=⟨_,rfl⟩;obtain⟨M2,JE⟩:∃M,M=(fC es v).length:=⟨_,rfl⟩;have HM:Hid (M1=(aY es v).length/\M2=(fC es v).length/\M1<=1000/\M2<=1000):=aa ⟨Hf,JE,by rw[Hf];exact Nat.le_trans (nh _ _) H.o.len,by rw[JE];exact Nat.le_trans (Bb _ _) H.o.len⟩;have qd:Hid (aI w2 w.heap.size (.slice oa M1 oc) (aY es v)/\aI w2 w.heap.size (.slice ia M2 ic) (fC es v)):=aa ⟨by grind [au.ownsRow,Hid.out],by rw[JE];exact aU Da eu.o.size⟩;have PU:=aa (eu.o.trans cQ (by grind));rw[<- Hf,<- JE];clear Hf JE cQ Da hf2 HIN c1 Dq Rh eu;obtain⟨mb,XZ⟩:∃x,x=w2.heap.size:=⟨_,rfl⟩;obtain⟨mc,hmc⟩:∃x,x=w2.heap.size+1:=⟨_,rfl⟩;obtain⟨lc,hlc⟩:∃x,x=w2.heap.size+1+1:=⟨_,rfl⟩;have JG:Hid (kS n pb db w o d L (((w2.alloc (.map #[] 0)).alloc (.cells #[.map (some w2.heap.size)] 237)).alloc (.cells #[.slice none 0 0] 88)) mc lc mb (.slice oa M1 oc) (.slice ia M2 ic) [] (((w2.alloc (.map #[] 0)).alloc (.cells #[.map (some w2.heap.size)] 237)).alloc (.cells #[.slice none 0 0] 88)) o2 d2):=aa (by
  subst XZ hmc hlc;have hz:=PU.o.size;have hb:Below w2.heap.size w2 (((w2.alloc (.map #[] 0)).alloc (.cells #[.map (some w2.heap.size)] 237)).alloc (.cells #[.slice none 0 0] 88)):=((aj.alloc ae _).alloc ah _).alloc (by simp;omega) _;have hr:∀b,(Value.slice oa M1 oc).ownBlock=some b\/(Value.slice ia M2 ic).ownBlock=some b->b<w2.heap.size:=fun b hb=>hb.elim (fun e=>(aL qd.o.1 b e).1) (fun e=>(aL qd.o.2 b e).1);refine⟨PU.o.below hb,⟨.slice none 0 0,⟨?_,?_,?_,World.ownsRow_nil _ _ _ _,ae,ae,ae,fun b e=>by cases e⟩,fun b hb'=>?_⟩,fun b hb'=>⟨rfl,Nat.lt_of_lt_of_le (hr b hb') hb.size⟩⟩
  ·grind [World.alloc]
  ·grind [World.alloc]
  ·exact((bO.made w2 prog 26 iX (fun _:Unit=>Value.int .i64 1)).kept ((MapKept.heap_alloc _ _).2 _ ah)).kept ((MapKept.heap_alloc _ _).2 _ (by simp;omega))
  ·have vG:w2.heap.size<=b:=by
    rcases hb' with e | e | e | e
    ·omega
    ·omega
    ·omega
    ·cases e
   exact⟨ae,PU.o.aX.fresh vG,(by grind),(by grind)⟩)
 have BD:Hid (aI (((w2.alloc (.map #[] 0)).alloc (.cells #[.map (some w2.heap.size)] 237)).alloc (.cells #[.slice none 0 0] 88)) w.heap.size (.slice oa M1 oc) (aY es v)/\aI (((w2.alloc (.map #[] 0)).alloc (.cells #[.map (some w2.heap.size)] 237)).alloc (.cells #[.slice none 0 0] 88)) w.heap.size (.slice ia M2 ic) (fC es v)):=aa (by
  have hb:Below w2.heap.size w2 (((w2.alloc (.map #[] 0)).alloc (.cells #[.map (some w2.heap.size)] 237)).alloc (.cells #[.slice none 0 0] 88)):=(ai.alloc ah _).alloc (by simp;omega) _;grind [aV,Hid.out])
 clear qd PU;go_wp2_with fail;rw[<- hlc,<- hmc];generalize ((w2.alloc (.map #[] 0)).alloc (.cells #[.map (some w2.heap.size)] 237)).alloc (.cells #[.slice none 0 0] 88)=W3 at *;clear XZ hmc hlc vL;have HL:Hid (([]:List Nat).length<=1000):=aa ah;go_loopw [44] (fun vi wr=>∃j:Nat,vi=.int .i64 (j:Int)/\j<=M1/\Hid (kS n pb db w o d L W3 mc lc mb (.slice oa M1 oc) (.slice ia M2 ic) ((((aY es v).map (·.h.toNat)).take j).foldl iz []) wr o2 d2)) (fun vi _=>M1-(intOf vi).toNat)
 case atStart=>grind
 case round=>
  obtain⟨j,rfl,hj,HN⟩:=hrel;generalize wr=Wra at *;by_cases hlt:j<M1
  ·have JF:(j:Int)<(M1:Int):=by omega
   have wj:IntKind.i64.wrap ((j:Int)+1)=((j+1:Nat):Int):=by grind [Hid.out,ax]
   obtain⟨x,hx⟩:∃x,(aY es v)[j]? = some x:=⟨_,List.getElem?_eq_getElem (by grind [Hid.out])⟩;have HX:Hid (((aY es v).map (·.h.toNat))[j]? = some x.h.toNat/\x.h.toNat<4294967296):=aa ⟨by grind,x.h.toNat_lt⟩;obtain⟨g,rfl⟩:∃g,oa=some ⟨g,0,none⟩:=by
    obtain⟨-,⟨h1,h2⟩|⟨g,_,_,h1,_⟩⟩:=BD.o.1
    ·grind
    grind
   have hrow:aI Wra w.heap.size (.slice (some ⟨g,0,none⟩) (aY es v).length oc) (aY es v):=by rw[<- HM.o.1];exact bI BD.o.1 (fun b hb=>(HN.out.Uq b (.inl hb)).1)
   obtain⟨q0,q1,q2,q3⟩:=bL hrow hx;have V8:=aa (HN.out.below (aj.alloc (Nat.le_refl _) (.cells #[.int .u32 (x.t.toNat:Int),.int .u32 (x.h.toNat:Int),.int .u64 (x.x.toNat:Int),.int .u32 (x.m.toNat:Int)] 64)));have lf:=aa (V8.o.add x.h.toNat HX.o.2 (by grind [np,Hid.out]));clear hrow hx HN;go_wp2_with fail;refine lf.o.mono ?_;rintro e w5⟨rfl,Un⟩;have OP:Hid (kS n pb db w o d L W3 mc lc mb (.slice (some ⟨g,0,none⟩) M1 oc) (.slice ia M2 ic) ((((aY es v).map (·.h.toNat)).take (j+1)).foldl iz []) w5 o2 d2):=aa (by grind [DR,Hid.out]);clear q0 q1 q2 q3 lf Un V8;go_wp2;grind [intOf]
  ·have JF:¬(j:Int)<(M1:Int):=by omega
   obtain⟨A1,hA1⟩:∃A,A=((aY es v).map (·.h.toNat)).foldl iz []:=⟨_,rfl⟩;have HA1:=aa hA1;have Uc:Hid (kS n pb db w o d L W3 mc lc mb (.slice oa M1 oc) (.slice ia M2 ic) A1 Wra o2 d2):=aa (by
    grind [Hid.out,List.length_map])
   have JC:Hid (A1.length<=1000):=aa (by grind [np,Hid.out]);clear hA1 HN HL JG;have HL:=JC;clear JC;go_wp2_with fail;go_loopw [55] (fun vi wr=>∃j:Nat,vi=.int .i64 (j:Int)/\j<=M2/\Hid (kS n pb db w o d L W3 mc lc mb (.slice oa M1 oc) (.slice ia M2 ic) ((((fC es v).map (·.t.toNat)).take j).foldl iz A1) wr o2 d2)) (fun vi _=>M2-(intOf vi).toNat)
   case atStart=>grind
   case round=>
    obtain⟨j,rfl,hj,HN⟩:=hrel;generalize wr=Wrb at *;by_cases hlt:j<M2
    ·have JF:(j:Int)<(M2:Int):=by omega
     have wj:IntKind.i64.wrap ((j:Int)+1)=((j+1:Nat):Int):=by grind [Hid.out,ax]
     obtain⟨x,hx⟩:∃x,(fC es v)[j]? = some x:=⟨_,List.getElem?_eq_getElem (by grind [Hid.out])⟩;have HX:Hid (((fC es v).map (·.t.toNat))[j]? = some x.t.toNat/\x.t.toNat<4294967296):=aa ⟨by grind,x.t.toNat_lt⟩;obtain⟨g,rfl⟩:∃g,ia=some ⟨g,0,none⟩:=by
      obtain⟨-,⟨h1,h2⟩|⟨g,_,_,h1,_⟩⟩:=BD.o.2
      ·grind
      grind
     have hrow:aI Wrb w.heap.size (.slice (some ⟨g,0,none⟩) (fC es v).length ic) (fC es v):=by rw[<- HM.o.2.1];exact bI BD.o.2 (fun b hb=>(HN.out.Uq b (.inr hb)).1)
     obtain⟨q0,q1,q2,q3⟩:=bL hrow hx;have V8:=aa (HN.out.below (aj.alloc (Nat.le_refl _) (.cells #[.int .u32 (x.t.toNat:Int),.int .u32 (x.h.toNat:Int),.int .u64 (x.x.toNat:Int),.int .u32 (x.m.toNat:Int)] 64)));have lf:=aa (V8.o.add x.t.toNat HX.o.2 (by grind [np,Hid.out]));clear hrow hx HN;go_wp2_with fail;refine lf.o.mono ?_;rintro e w5⟨rfl,Un⟩;have OP:Hid (kS n pb db w o d L W3 mc lc mb (.slice oa M1 oc) (.slice (some ⟨g,0,none⟩) M2 ic) ((((fC es v).map (·.t.toNat)).take (j+1)).foldl iz A1) w5 o2 d2):=aa (by grind [DR,Hid.out]);clear q0 q1 q2 q3 lf Un V8;go_wp2;grind [intOf]
    ·have hjy:¬(j:Int)<(M2:Int):=by omega
     have HE:Hid ((((fC es v).map (·.t.toNat)).take j).foldl iz A1=cV es v):=aa (by
      grind [List.length_map,Hid.out,Be])
     obtain⟨lv,hs,hl⟩:=HN.out.st;have z0:Wrb.cell? ⟨lc,0,none⟩=some lv:=by rw[aq hs.c2];rfl
     have HQ:Hid (Bd n pb db w o d L (cV es v) (.returned (.tuple #[lv,.int .i64 0])) Wrb):=aa ⟨lv,d2,o2,rfl,HN.out.mv,by rw[<- HE.o];exact hs.row,fun x hx=>(hl x (.inr (.inr (.inr hx)))).2.1⟩;obtain⟨la,lk,rfl⟩:=az hs.row;have z1:=hs.lt.2.1;clear hs hl HN HE;go_wp2;go_returns;exact HQ.o
end
end
section
open Go.RowKit Go.Maps
section
variable {S:Nat->Prop} {w0 w w' W W':World} {pb db n gb gen N ob ib vb rb done:Nat} {o o' gP:ar} {d d' gB:Dsk} {L L':aD} {es:List aJ} {vs acc:List bW} {x4 x5 x6 vv vv':Value}
def dA(w:World)(rb pb gb gen done:Nat)(x4 x5 x6:Value):Prop:=w.heap[rb]? = some (.cells #[ptrTo pb,ptrTo gb,.int .i64 (gen:Int),.int .u32 (done:Int),x4,x5,x6] 133)
structure qY(w0 w:World)(o:ar)(rb gb ob ib vb:Nat):Prop where
 new:w0.heap.size<=rb
 lt:rb<w.heap.size
 free:o rb=none
 graph:gb<rb/\ob<rb/\ib<rb/\vb<rb
theorem dA.lt(h:dA w rb pb gb gen done x4 x5 x6):rb<w.heap.size:=(Array.getElem?_eq_some_iff.1 h).1
theorem dA.below(h:dA w rb pb gb gen done x4 x5 x6)(hb:Below w.heap.size w w'):dA w' rb pb gb gen done x4 x5 x6:=(hb.block _ h.lt).trans h
theorem dA.moved(h:dA w rb pb gb gen done x4 x5 x6)(ho:o rb=none)(hm:au (fun _=>False) n pb db w o d w' o' d' L'):dA w' rb pb gb gen done x4 x5 x6:=hm.heap h ho (fun e=>e)
theorem dA.cells(h:dA w rb pb gb gen done x4 x5 x6):w.cell? ⟨rb,0,none⟩=some (ptrTo pb)/\w.cell? ⟨rb,1,none⟩=some (ptrTo gb)/\w.cell? ⟨rb,2,none⟩=some (.int .i64 (gen:Int))/\w.cell? ⟨rb,3,none⟩=some (.int .u32 (done:Int))/\w.cell? ⟨rb,4,none⟩=some x4/\w.cell? ⟨rb,5,none⟩=some x5/\w.cell? ⟨rb,6,none⟩=some x6/\∀k,w.frozen? ⟨rb,k,none⟩=false:=
 ⟨by rw[aq h];rfl,by rw[aq h];rfl,by rw[aq h];rfl,by rw[aq h];rfl,by rw[aq h];rfl,by rw[aq h];rfl,by rw[aq h];rfl,fun k=>aO h k⟩
theorem dA.akm(h:dA w rb pb gb gen done x4 x5 x6)(v:Value):dA (w.setCell ⟨rb,4,none⟩ v) rb pb gb gen done v x5 x6:=aT h 4 v
theorem dA.akn(h:dA w rb pb gb gen done x4 x5 x6)(v:Value):dA (w.setCell ⟨rb,5,none⟩ v) rb pb gb gen done x4 v x6:=aT h 5 v
theorem dA.ako(h:dA w rb pb gb gen done x4 x5 x6)(v:Value):dA (w.setCell ⟨rb,6,none⟩ v) rb pb gb gen done x4 x5 v:=aT h 6 v
theorem qY.moved(h:qY w0 w o rb gb ob ib vb)(hm:au S n pb db w o d w' o' d' L'):qY w0 w' o' rb gb ob ib vb:=⟨h.new,Nat.lt_of_lt_of_le h.lt hm.size,hm.free h.lt h.free,h.graph⟩
theorem fI.Fo(h:fI w0 w pb db n o d L gb gen N ob ib vb es)(hr:qY w0 w o rb gb ob ib vb)(hm:au (·=rb) n pb db w o d w' o' d' L):fI w0 w' pb db n o' d' L gb gen N ob ib vb es:=
 ⟨h.held.moved hm (fun _ e=>e▸hr.new),h.need,by
  have hg:=h.gr;obtain⟨l1,l2,l3,l4⟩:=hr.graph;exact⟨hg.raw.moved hm hg.VF ae,hg.out.moved hm hg.PW ae,hg.rE.moved hm hg.Uk ae,hg.qR.moved hm hg.JJ ae,hm.free hg.raw.lt hg.VF,hm.free hg.out.lt hg.PW,hm.free hg.rE.lt hg.Uk,hm.free hg.qR.lt hg.JJ⟩,h.file,h.DN,h.len,h.top,h.ends⟩
abbrev dP(w:World)(base:Nat)(v:Value)(l:List bW):Prop:=w.ownsRow base 55 3 v l.length (cL l)
theorem sI(a b:List bW):cL (a++b)=cL a++cL b:=by
 induction a with
 |nil=>rfl
 |cons e a ih=>grind [cL]
theorem xf{ops:Array Oper}{o:Oper}{a:Act}{w:World}{K:Act->World->Prop}{Q:Exit->Act->World->Prop}{E:Prop}(hgd:o.guard=none)(s x:Operand)(ho:o.op=.call { callee:=.builtin .append,args:=#[s,x],argTypes:=#[23,23] })(base:Nat)(v:Value)(l:List bW)(hs:a.eval s=v)(hown:dP w base v l)(y:bW)(xb c:Nat)(hx:a.eval x=.slice (some ⟨xb,0,none⟩) 1 c)(FX:w.heap[xb]? = some (.cells #[.int .u32 (y.r.toNat:Int),.int .u32 (y.l.toNat:Int),.int .u32 (y.g.toNat:Int)] 55))(hl:l.length<=100000)(hbase:base<=w.heap.size)(k:∀v' w',dP w' base v' (l++[y])->lr v w w' v'->K (a.put o.dst v') w'):if Region.wanted o (yielded ops a.tmps)=true then Oper.wp prog o a w K Q else E:=by
 refine mn hgd s x 23 ho base 55 _ 3 12 Tryz.underlying23 wT rfl af v l.length (cL l) hs hown ⟨xb,0,none⟩ 1 c [.int .u32 (y.r.toNat:Int),.int .u32 (y.l.toNat:Int),.int .u32 (y.g.toNat:Int)] hx rfl (fun j u hj=>?_) (by simp[Value.oneCell']) (by grind [maxLen]) ae hbase (fun v' w' h1 h2=>k v' w' ?_ h2)
 ·rw[bG,Nat.zero_add,aq FX];grind
 ·unfold dP;rw[sI,List.length_append];exact h1
structure jY(n pb db:Nat)(w:World)(o:ar)(d:Dsk)(L:aD)(rb gb gen done:Nat)(x4 x5 vv:Value)(acc:List bW)(W:World)(o':ar)(d':Dsk):Prop where
 mv:au (·=rb) n pb db w o d W o' d' L
 at':dA W rb pb gb gen done x4 x5 vv
 row:dP W w.heap.size vv acc
 own:∀b,vv.ownBlock=some b->o' b=none
theorem jY.below(h:jY n pb db w o d L rb gb gen done x4 x5 vv acc W o' d')(hb:Below W.heap.size W W'):jY n pb db w o d L rb gb gen done x4 x5 vv acc W' o' d':=
 ⟨h.mv.below hb,h.at'.below hb,aV h.row hb,h.own⟩
theorem jY.moved(h:jY n pb db w o d L rb gb gen done x4 x5 vv acc W o' d')(hr:qY w0 w o rb gb ob ib vb)(hm:au (fun _=>False) n pb db W o' d' W' gP gB L):jY n pb db w o d L rb gb gen done x4 x5 vv acc W' gP gB:=
 ⟨h.mv.trans hm (by grind),h.at'.moved (h.mv.free hr.lt hr.free) hm,hm.ownsRow h.row (fun b hb=>⟨h.own b hb,fun e=>e⟩),fun b hb=>hm.free (aL h.row b hb).1 (h.own b hb)⟩
theorem jY.IA(h:jY n pb db w o d L rb gb gen done x4 x5 vv acc W o' d')(hr:qY w0 w o rb gb ob ib vb){y:bW}(hw:dP W' w.heap.size vv' (acc++[y]))(ha:lr vv W W' vv') :
 W'.cell? ⟨rb,6,none⟩=some vv/\W'.frozen? ⟨rb,6,none⟩=false/\jY n pb db w o d L rb gb gen done x4 x5 vv' (acc++[y]) (W'.setCell ⟨rb,6,none⟩ vv') o' d':=by
 obtain⟨hg,hv⟩:=ha;have hne:∀b,vv.ownBlock=some b->b≠rb:=fun b hb e=>by
  have:=(aL h.row b hb).2;have:=hr.lt;omega
 have hat:dA W' rb pb gb gen done x4 x5 vv:=(hg.block rb h.at'.lt (by grind)).trans h.at';have fO :=h.mv.free hr.lt hr.free;have hm :=h.mv.grown hg (fun k hk=>⟨h.own k hk,.inr (aL h.row k hk).2⟩);have zN:∀b,vv'.ownBlock=some b->o' b=none/\b≠rb:=fun b hb=>by
  have vG:=aF hw b hb;refine⟨?_,by have:=hr.lt;omega⟩;rcases hv with e | e
  ·grind [own]
  ·rw[e]at hb;cases hb;exact h.mv.aX.fresh ae
 refine⟨hat.cells.2.2.2.2.2.2.1,hat.cells.2.2.2.2.2.2.2 6,hm.setCell _ _ fO (.inl rfl),hat.ako vv',bI hw (fun b hb=>Below.heap_setCell _ _ _ _ (zN b hb).2),(by grind)⟩
def xg(n pb db:Nat)(w:World)(o:ar)(d:Dsk)(L:aD)(rb gb gen done:Nat)(x4 x5:Value)(vs:List bW)(e:Ending)(w':World):Prop:=
 ∃vv d' o',e=.returned (.int .i64 0)/\jY n pb db w o d L rb gb gen done x4 x5 vv vs w' o' d'
theorem LB{y:bW}{v:Value}{base:Nat}(h:dP w base v (acc++[y])):∃g k M,Hid (M=acc.length+1)/\v=.slice (some ⟨g,0,none⟩) M k:=by
 obtain⟨-,⟨h1,h2⟩|⟨g,k,_,h1,_⟩⟩:=h
 ·grind
 grind [aa]
theorem CL(HW:aP){fl:Bool}(h:fI w0 w pb db n o d L gb gen vs.length ob ib vb es)(hv:aB L (aG 118 gen)=some (b7 vs fl))(hr:dA w rb pb gb gen done x4 x5 (.slice none 0 0))(hro:qY w0 w o rb gb ob ib vb) :
 Calls prog 63 #[ptrTo rb] w (xg n pb db w o d L rb gb gen done x4 x5 vs):=by
 have H:=aa h;have HV:=aa hv;have G8:=aa hro;obtain⟨R,hR⟩:∃R,R=xg n pb db w o d L rb gb gen done x4 x5 vs:=⟨_,rfl⟩;have Tf:=aa hR;rw[<- hR];obtain⟨M,hM⟩:∃M,M=vs.length:=⟨_,rfl⟩;have HM:Hid (M=vs.length/\M<=1000):=aa ⟨hM,by rw[hM];exact h.top⟩;have hsz:=aa (sD h.gr);rw[<- hM]at hsz;have EU:Hid (jY n pb db w o d L rb gb gen done x4 x5 (.slice none 0 0) [] w o d):=aa ⟨au.refl _ h.held.aX,hr,World.ownsRow_nil _ _ _ _,fun b e=>by cases e⟩;obtain⟨-,c1,-⟩:=hr.cells;clear h hv hr hro hR hM;unfold ptrTo at *;go_enter func63,ntmps63;go_wp2_with fail;refine hsz.o.mono ?_;rintro e w1⟨rfl,rfl⟩;clear hsz c1;go_wp2_with fail;go_loopw [11] (fun vi wr=>∃(j:Nat)(acc:List bW)(vv:Value)(o':ar)(d':Dsk),vi=.int .i64 (j:Int)/\j<=M/\Hid (acc=vs.take j)/\Hid (jY n pb db w o d L rb gb gen done x4 x5 vv acc wr o' d')) (fun vi _=>M-(intOf vi).toNat)
 case atStart=>exact⟨0,[],_,o,d,rfl,Nat.zero_le _,rfl,EU⟩
 case round=>
  obtain⟨j,acc,vv,o1,d1,rfl,hj,aeR,HS⟩:=hrel;clear EU;generalize wr=W1 at *;by_cases hlt:j<M
  ·have JF:(j:Int)<(M:Int):=by omega
   have wj:IntKind.i64.wrap ((j:Int)+1)=((j+1:Nat):Int):=by grind [Hid.out,ax]
   have wu:IntKind.u32.wrap (j:Int)=(j:Int):=by grind [Hid.out,eL]
   obtain⟨-,c1,-⟩:=HS.out.at'.cells;have hvt:=aa (DL HW ((H.o.Fo G8.o HS.out.mv).held) H.o.need (H.o.Fo G8.o HS.out.mv).gr HV.o (v:=j) (by grind [Hid.out]) (by grind [Hid.out]));obtain⟨x,hx⟩:∃x,x=vs[j]'(by grind [Hid.out]):=⟨_,rfl⟩;rw[<- hx]at hvt;have HX:Hid (acc++[x]=vs.take (j+1)):=aa (by rw[hx,aeR.out,List.take_succ_eq_append_getElem]);clear hx;unfold wH ptrTo at *;go_wp2_with fail;refine hvt.o.mono ?_;rintro e w2⟨d2,o2,rfl,cQ⟩;have eR:=aa (HS.out.moved G8.o cQ);clear hvt cQ HS c1;have fB:Hid (jY n pb db w o d L rb gb gen done x4 x5 vv acc (w2.alloc (.cells #[.int .u32 (x.r.toNat:Int),.int .u32 (x.l.toNat:Int),.int .u32 (x.g.toNat:Int)] 55)) o2 d2/\(w2.alloc (.cells #[.int .u32 (x.r.toNat:Int),.int .u32 (x.l.toNat:Int),.int .u32 (x.g.toNat:Int)] 55)).heap[w2.heap.size]? = some (.cells #[.int .u32 (x.r.toNat:Int),.int .u32 (x.l.toNat:Int),.int .u32 (x.g.toNat:Int)] 55)):=aa ⟨eR.o.below (aj.alloc ae _),heap_alloc_new _ _⟩;clear eR;go_wp2_with fail;generalize w2.heap.size=xb at *;generalize w2.alloc (.cells #[.int .u32 (x.r.toNat:Int),.int .u32 (x.l.toNat:Int),.int .u32 (x.g.toNat:Int)] 55)=W3 at *;obtain⟨la,lk,rfl⟩:=az fB.o.1.row;obtain⟨-,-,-,-,-,-,c6,f6⟩:=fB.o.1.at'.cells;have x0:W3.cell? ⟨xb,0,none⟩=some (.int .u32 (x.r.toNat:Int)):=by rw[aq fB.o.2];rfl
   have x1:W3.cell? ⟨xb,1,none⟩=some (.int .u32 (x.l.toNat:Int)):=by rw[aq fB.o.2];rfl
   have x2:W3.cell? ⟨xb,2,none⟩=some (.int .u32 (x.g.toNat:Int)):=by rw[aq fB.o.2];rfl
   have akp:=fB.o.1.at'.lt;have SI:=World.block_lt_of_cell? _ _ x0;have HL:Hid (acc.length<=100000/\w.heap.size<=W3.heap.size):=aa ⟨by grind [Hid.out],fB.o.1.mv.size⟩;have jF:Hid (∀ob,Below W3.heap.size W3 (W3.alloc ob).drew):=aa (fun ob=>(aj.alloc (Nat.le_refl _) ob).drew);go_region_law (refine xf rfl _ _ rfl w.heap.size _ acc rfl (World.ownsRow.alloc (World.ownsRow.drew fB.o.1.row) _) x _ 1 rfl (heap_alloc_new _ _) HL.o.1 (Nat.le_trans HL.o.2 (jF.o _).size) ?_;intro v5 w5 h5 ha;obtain⟨g5,k5,M5,lF,rfl⟩:=LB h5;obtain⟨c5,f5,hs5⟩:=(fB.o.1.below (jF.o _)).IA G8.o h5 ha;have b9:=aa hs5;clear hs5 ha h5)
   all_goals
    have gA :=b9;clear c6 f6 x0 x1 x2 akp SI c5 f5 fB b9 jF HL;go_wp2;grind [intOf]
  ·have JF:¬(j:Int)<(M:Int):=by omega
   have HQ:Hid (R (.returned (.int .i64 0)) W1):=aa (by
    rw[Tf.o];have:=HS.out;rw[aeR.out,List.take_of_length_le (by grind [Hid.out])]at this;exact⟨vv,d1,o1,rfl,this⟩)
   clear HS Tf;go_wp2;exact HQ.o
end
end
section
open Go.RowKit Go.Maps Go.Sort
theorem I7(x:Nat)(w:World):Calls prog 246 #[.int .u32 (x:Int)] w fun e w'=>e=.returned (.bool false)/\w'=w:=by
 go_enter func246,ntmps246;go_wp2;go_ret;exact⟨ah,rfl⟩
theorem Bf(x y:Nat)(w:World):Calls prog 253 #[.int .u32 (x:Int),.int .u32 (y:Int)] w fun e w'=>e=.returned (.bool (decide (x<y)))/\w'=w:=by
 have hn:=aa (I7 x w);have HD:Hid (decide ((x:Int)<(y:Int))=decide (x<y)):=aa (by rw[decide_eq_decide];omega);go_enter func253,ntmps253;go_wp2_with fail;refine hn.o.mono ?_;rintro e w'⟨rfl,rfl⟩;go_wp2;go_ret;exact⟨by rw[<- HD.o];rfl,rfl⟩
structure bw(w0:World)(base g cap:Nat)(d:Array Nat)(W:World):Prop where
 row:bF W base (.slice (some ⟨g,0,none⟩) d.size cap) d.toList
 turn:aH (·=g) w0 W
abbrev aZ(a b:Nat):Bool:=decide (a<b)
section
variable {w0 W W':World} {base g cap:Nat} {d:Array Nat}
theorem bw.below(h:bw w0 base g cap d W)(hb:Below W.heap.size W W'):bw w0 base g cap d W':=⟨aV h.row hb,h.turn.bN hb⟩
theorem bw.cell(h:bw w0 base g cap d W){i:Nat}(hi:i<d.size):W.cell? ⟨g,i,none⟩=some (.int .u32 (d[i]! : Int)):=by
 have hg:d.toList[i]? = some d[i]! := by rw[Array.getElem?_toList,Array.getElem?_eq_getElem hi,getElem!_pos d i hi]
 exact iy (l:=d.toList) (by have:=h.row;simpa using this) hg
theorem bw.put(h:bw w0 base g cap d W){i:Nat}(x:Nat):bw w0 base g cap (d.setIfInBounds i x) (W.setCell ⟨g,i,none⟩ (.int .u32 (x:Int))):=by
 refine⟨?_,h.turn.setCell _ _ (.inl rfl)⟩;have h1:=World.ownsRow.stored h.row i (.int .u32 (x:Int));have h2:=h1.1;unfold bF;rw[Array.size_setIfInBounds];simpa[List.map_set]using h2
theorem bw.ll(h:bw w0 base g cap d W)(i j:Nat):bw w0 base g cap (swp d i j) ((W.setCell ⟨g,i,none⟩ (.int .u32 (d[j]! : Int))).setCell ⟨g,j,none⟩ (.int .u32 (d[i]! : Int))).drew:=
 ((h.put d[j]!).put d[i]!).below aj.drew
theorem DT:SWO aZ:=⟨fun x=>by simp[aZ],fun x y z h1 h2=>by simp[aZ]at *;omega,fun x y z h1 h2=>by simp[aZ]at *;omega⟩
def Bg(w:World)(base:Nat)(v:Value)(l:List Nat)(e:Ending)(w':World):Prop:=
 ∃l',e=.returned (.tuple #[])/\bF w' base v l'/\l'.Perm l/\l'.Pairwise (·<=·)/\aH (fun b=>v.ownBlock=some b) w w'
end
end
section
open Go.RowKit Go.Maps
open Go.ChangeMaps (setBlock)
abbrev pN(c:zb)(nv:Value):Value:=.agg #[.int .u32 (c.v:Int),.int .u64 (c.k:Int),nv]
theorem Fp(a b:zb):decide (nG (p9 a.k b.k) (p9 a.v b.v)<0)=decide (gH a b):=by
 rw[decide_eq_decide];unfold gH nG;rcases gG a.k b.k with⟨g1,g2⟩|⟨g1,g2⟩|⟨g1,g2⟩
 ·rw[g2,if_neg af];omega
 ·rw[g2,if_neg af];omega
 ·rw[g2,if_pos rfl];rcases gG a.v b.v with⟨k1,k2⟩|⟨k1,k2⟩|⟨k1,k2⟩<;>rw[k2]<;>omega
theorem O7(x y:zb){xa ya:Option Addr}{xn xc yn yc:Nat}(w:World):Calls prog 149 #[pN x (.slice xa xn xc),pN y (.slice ya yn yc)] w fun e w'=>e=.returned (.bool (decide (gH x y)))/\dX w w':=by
 have hf:=aa (Fp x y);unfold pN;generalize x.k=xk at *;generalize x.v=xi at *;generalize y.k=yk at *;generalize y.v=yi at *;generalize hX:(Value.slice xa xn xc)=X at *;generalize hY:(Value.slice ya yn yc)=Y at *;subst hX hY;go_enter func149,ntmps149;have HG:Hid (dX w ((w.alloc (.cells #[.int .u32 (xi:Int),.int .u64 (xk:Int),.slice xa xn xc] 181)).alloc (.cells #[.int .u32 (yi:Int),.int .u64 (yk:Int),.slice ya yn yc] 181))):=aa (((dX.refl w).alloc _).alloc _);go_wp2;have K:Hid (((w.alloc (.cells #[.int .u32 (xi:Int),.int .u64 (xk:Int),.slice xa xn xc] 181)).alloc (.cells #[.int .u32 (yi:Int),.int .u64 (yk:Int),.slice ya yn yc] 181)).cell? ⟨w.heap.size,0,none⟩=some (.int .u32 (xi:Int))/\((w.alloc (.cells #[.int .u32 (xi:Int),.int .u64 (xk:Int),.slice xa xn xc] 181)).alloc (.cells #[.int .u32 (yi:Int),.int .u64 (yk:Int),.slice ya yn yc] 181)).cell? ⟨w.heap.size,1,none⟩=some (.int .u64 (xk:Int))/\((w.alloc (.cells #[.int .u32 (xi:Int),.int .u64 (xk:Int),.slice xa xn xc] 181)).alloc (.cells #[.int .u32 (yi:Int),.int .u64 (yk:Int),.slice ya yn yc] 181)).cell? ⟨w.heap.size+1,0,none⟩=some (.int .u32 (yi:Int))/\((w.alloc (.cells #[.int .u32 (xi:Int),.int .u64 (xk:Int),.slice xa xn xc] 181)).alloc (.cells #[.int .u32 (yi:Int),.int .u64 (yk:Int),.slice ya yn yc] 181)).cell? ⟨w.heap.size+1,1,none⟩=some (.int .u64 (yk:Int))):=aa ah;generalize ((w.alloc (.cells #[.int .u32 (xi:Int),.int .u64 (xk:Int),.slice xa xn xc] 181)).alloc (.cells #[.int .u32 (yi:Int),.int .u64 (yk:Int),.slice ya yn yc] 181))=W at *;refine ct (dX W) 10 ag ag (dX.refl W).drew ?_;simp only[List.take_succ_cons,List.take_zero,List.drop_succ_cons,List.drop_zero];refine qz ?_;refine qz ?_ (fun w' hw'=>by have hc:=hw'.cell K.o.2.1;go_simp<;>rfl);refine qz ?_;refine qz ?_ (fun w' hw'=>by have hc:=hw'.cell K.o.2.2.2;go_simp<;>rfl);refine qw (fun w' hw'=>(vX xk yk w').mono (fun e w'' h=>⟨h.1,h.2▸hw'⟩)) ?_;refine qz ?_;refine qz ?_ (fun w' hw'=>by have hc:=hw'.cell K.o.1;go_simp<;>rfl);refine qz ?_;refine qz ?_ (fun w' hw'=>by have hc:=hw'.cell K.o.2.2.1;go_simp<;>rfl);refine qw (fun w' hw'=>(vY xi yi w').mono (fun e w'' h=>⟨h.1,h.2▸hw'⟩)) ?_;refine wpQuiet_nil ?_;intro w3 hw3;have y9:=aa hw3;clear hw3;go_wp2_with fail;refine(DG (p9 xk yk) (p9 xi yi) _ _ ah ah).mono ?_;rintro e w4⟨rfl,rfl⟩;go_wp2;go_ret;exact⟨by rw[<- hf.o];rfl,(HG.o.trans y9.o).alloc _⟩
end
section
open Go.RowKit Go.Maps
open Go.ChangeMaps (setBlock)
def Tg(S:List Nat)(x:Nat):List Nat:=x::S.filter fun y=>decide (y≠x)
theorem Th(S:List Nat)(x y:Nat):y∈Tg S x↔y∈S\/y=x:=by
 grind [Tg]
theorem Ti(S:List Nat)(x:Nat):aS (S.map fun x=>(x,())) x ()=(Tg S x).map fun x=>(x,()):=by
 unfold aS b8 Tg;rw[List.map_cons,List.filter_map];rfl
def Fq(a b:zb)(z:Nat):Prop:=a.v≠b.v/\(gH a b/\b.v=z\/¬gH a b/\a.v=z)
section
variable {W:World} {qc mb:Nat} {S:List Nat}
def Bh(W:World)(qc mb:Nat)(S:List Nat)(x y:zb)(e:Ending)(W':World):Prop:=
 ∃S',e=.returned (.tuple #[])/\jy W' mb S'/\(∀z,z∈S'↔z∈S\/Fq x y z)/\aH (·=mb) W W'/\W'.heap[qc]? = some (.cells #[.map (some mb)] 243)
theorem I8{w1:World}{x:Nat}(hc:w1.heap[qc]? = some (.cells #[.map (some mb)] 243))(hne:qc≠mb)(ht:aH (·=mb) W w1){es:Array MapEntry}{clock:Nat}(hm:bO prog 26 iX (fun _:Unit=>Value.agg #[]) (setBlock w1 mb (.map es clock)) mb (aS (S.map fun x=>(x,())) x ())){a b:zb}(h:∀z,z=x↔Fq a b z) :
 Bh W qc mb S a b (.returned (.tuple #[])) (setBlock w1 mb (.map es clock)):=
 ⟨Tg S x,rfl,by grind [Ti],fun z=>by rw[Th,h z],ht.setBlock _ _ (.inl rfl),by grind [bg]⟩
theorem Tj(hc:W.heap[qc]? = some (.cells #[.map (some mb)] 243))(hs:jy W mb S)(hne:qc≠mb)(x y:zb)(hx:x.v<4294967296)(hy:y.v<4294967296){xa ya:Option Addr}{xn xc yn yc:Nat} :
 Calls prog 148 #[pN x (.slice xa xn xc),pN y (.slice ya yn yc),.pointer (some ⟨qc,0,none⟩)] W (Bh W qc mb S x y):=by
 have HA:=aa (fun w=>O7 x y (xa:=xa) (ya:=ya) (xn:=xn) (xc:=xc) (yn:=yn) (yc:=yc) w);have HB:Hid (Below W.heap.size W ((W.alloc (.cells #[.int .u32 (x.v:Int),.int .u64 (x.k:Int),.slice xa xn xc] 181)).alloc (.cells #[.int .u32 (y.v:Int),.int .u64 (y.k:Int),.slice ya yn yc] 181))):=aa (ai.alloc ah _);have HK:Hid (((W.alloc (.cells #[.int .u32 (x.v:Int),.int .u64 (x.k:Int),.slice xa xn xc] 181)).alloc (.cells #[.int .u32 (y.v:Int),.int .u64 (y.k:Int),.slice ya yn yc] 181)).heap[W.heap.size]? = some (.cells #[.int .u32 (x.v:Int),.int .u64 (x.k:Int),.slice xa xn xc] 181)/\((W.alloc (.cells #[.int .u32 (x.v:Int),.int .u64 (x.k:Int),.slice xa xn xc] 181)).alloc (.cells #[.int .u32 (y.v:Int),.int .u64 (y.k:Int),.slice ya yn yc] 181)).heap[W.heap.size+1]? = some (.cells #[.int .u32 (y.v:Int),.int .u64 (y.k:Int),.slice ya yn yc] 181)):=aa (by
  grind [World.alloc])
 have HC:=aa hc;have HS:=aa hs;have sX:=aa hne;have HGX:=aa (fQ hx);have HGY:=aa (fQ hy);clear hc hs hne;by_cases heq:x.v=y.v
 ·have hz:(x.v:Int)=(y.v:Int):=by omega
  have HQ:Hid (Bh W qc mb S x y (.returned (.tuple #[])) ((W.alloc (.cells #[.int .u32 (x.v:Int),.int .u64 (x.k:Int),.slice xa xn xc] 181)).alloc (.cells #[.int .u32 (y.v:Int),.int .u64 (y.k:Int),.slice ya yn yc] 181))):=aa ⟨S,rfl,HS.o.kept (HB.o.block _ HS.o.lt),fun z=>⟨.inl,fun e=>e.elim id (fun e=>absurd heq e.1)⟩,aH.aW HB.o,(HB.o.block _ (Array.getElem?_eq_some_iff.1 HC.o).1).trans HC.o⟩;have hzb:((x.v:Int) == (y.v:Int))=true:=by grind
  clear hz heq;unfold pN;go_enter func148,ntmps148;go_wp2;go_returns;exact HQ.o
 ·have hz:¬(x.v:Int)=(y.v:Int):=by omega
  have HEQ:=aa heq;clear heq;unfold pN at *;go_enter func148,ntmps148;go_wp2_with fail;refine(HA.o _).mono ?_;rintro e w1⟨rfl,hg⟩;have hb1:=hg.below;have cT:=aa (HB.o.trans (hb1.mono HB.o.size));have k1:=(hb1.block _ (Array.getElem?_eq_some_iff.1 HK.o.1).1).trans HK.o.1;have k2:=(hb1.block _ (Array.getElem?_eq_some_iff.1 HK.o.2).1).trans HK.o.2;have x0:w1.cell? ⟨W.heap.size,0,none⟩=some (.int .u32 (x.v:Int)):=by rw[aq k1];rfl
  have y0:w1.cell? ⟨W.heap.size+1,0,none⟩=some (.int .u32 (y.v:Int)):=by rw[aq k2];rfl
  have Rj:=aa ((cT.o.block _ (Array.getElem?_eq_some_iff.1 HC.o).1).trans HC.o);have iY:Hid (jy w1 mb S):=aa (HS.o.kept (cT.o.block _ HS.o.lt));have q0:w1.cell? ⟨qc,0,none⟩=some (.map (some mb)):=by rw[aq Rj.o];rfl
  clear hg hb1 k1 k2 HK;by_cases X0:gH x y
  ·rw[show decide (gH x y)=true from decide_eq_true X0];have HM:Hid (∀z,z=y.v↔Fq x y z):=aa (fun z=>⟨fun e=>⟨HEQ.o,.inl ⟨X0,e.symm⟩⟩,fun e=>e.2.elim (fun e=>e.2.symm) (fun e=>absurd X0 e.1)⟩);clear X0;go_wp2_with (at_mapUpdate;refine eO _ rfl _ _ _ _ rfl 245 ck dv Tryz.underlying243 mb _ rfl iY.o y.v () rfl rfl HGY.o ?_;intro es clock hm);have HQ:=aa (I8 Rj.o sX.o (aH.aW cT.o) hm HM.o);clear hm;go_returns;exact HQ.o
  ·rw[show decide (gH x y)=false from decide_eq_false X0];have HM:Hid (∀z,z=x.v↔Fq x y z):=aa (fun z=>⟨fun e=>⟨HEQ.o,.inr ⟨X0,e.symm⟩⟩,fun e=>e.2.elim (fun e=>absurd e.1 X0) (fun e=>e.2.symm)⟩);clear X0;go_wp2_with (at_mapUpdate;refine eO _ rfl _ _ _ _ rfl 245 ck dv Tryz.underlying243 mb _ rfl iY.o x.v () rfl rfl HGX.o ?_;intro es clock hm);have HQ:=aa (I8 Rj.o sX.o (aH.aW cT.o) hm HM.o);clear hm;go_returns;exact HQ.o
end
end
section
open Go Go.Sort
section
variable {α:Type} [Inhabited α] {lt:α->α->Bool} {d:Array α}
theorem Tk{hi first r:Nat}(h:hi<=2*r+1):siftDown lt hi first r d=d:=by
 unfold siftDown;rw[dif_pos h]
theorem O8{hi first r C:Nat}{bb:Bool}(h:2*r+1<hi)(hb:bb=(decide (2*r+2<hi) && lt d[first+(2*r+1)]! d[first+(2*r+2)]!))(hc:C=if bb=true then 2*r+2 else 2*r+1) :
 siftDown lt hi first r d=if lt d[first+r]! d[first+C]! = true then siftDown lt hi first C (swp d (first+r) (first+C)) else d:=by
 conv=>lhs;unfold siftDown
 rw[dif_neg ae,show(decide (2*r+1+1<hi) && lt d[first+(2*r+1)]! d[first+(2*r+1)+1]!)=bb from hb.symm];subst hc;cases bb
 ·simp only[if_false,Bool.false_eq_true];cases lt d[first+r]! d[first+(2*r+1)]! <;> simp
 ·have h2:2*r+2<hi:=by
   simp only[Bool.true_eq,Bool.and_eq_true,decide_eq_true_eq]at hb;exact hb.1
  simp only[if_true,h2];cases lt d[first+r]! d[first+(2*r+2)]! <;> simp
theorem Fs{p:α->Bool}{i j u:Nat}(hu:u=scanUp p d j i)(fg:i<=j+1):i<=u/\u<=j+1:=by
 have h:=scanUp_spec p d j _ i rfl;subst hu;exact⟨h.1,h.2.1 fg⟩
theorem xo{p q:α->Bool}{i j u v:Nat}(hq:∀x,q x=!p x)(hu:u=scanUp p d j i)(hv:v=scanDown q d u j)(fg:i<=j+1):i<=u/\u<=j+1/\v<=j/\u<=v+1/\(0<v->u≠v):=by
 have h1:=scanUp_spec p d j _ i rfl;rw[<- hu]at h1;have h2:=scanDown_spec q d u j;rw[<- hv]at h2;refine⟨h1.1,h1.2.1 fg,h2.1,h2.2.1 (h1.2.1 fg),fun h0 e=>?_⟩;have k2:=h2.2.2.2 ae h0;rw[hq,<- e,h1.2.2.2 ae]at k2;cases k2
theorem O9{a i j u v:Nat}(hu:u=scanUp (fun x=>lt x d[a]!) d j i)(hv:v=scanDown (fun x=>!lt x d[a]!) d u j) :
 partLoop lt a i j d=if u>v then (v,d) else partLoop lt a (u+1) (v-1) (swp d u v):=by
 subst hu hv;exact partLoop_eq lt a i j d
theorem LC{a b pv u v:Nat}{D:Array α}{r:Nat×Array α}(hD:D=swp d a pv)(hu:u=scanUp (fun x=>lt x D[a]!) D (b-1) (a+1))(hv:v=scanDown (fun x=>!lt x D[a]!) D u (b-1))(hr:¬u>v->r=partLoop lt a (u+1) (v-1) (swp D u v)) :
 partition lt d a b pv=if u>v then (v,true,swp D v a) else (r.1,false,swp r.2 r.1 a):=by
 subst hD hu hv;unfold partition;dsimp only;split
 ·rfl
 ·rename_i h
  rw[hr h]
theorem V9{a i j u v:Nat}(hu:u=scanUp (fun x=>!lt d[a]! x) d j i)(hv:v=scanDown (fun x=>lt d[a]! x) d u j) :
 partEqLoop lt a i j d=if u>v then (u,d) else partEqLoop lt a (u+1) (v-1) (swp d u v):=by
 subst hu hv;exact partEqLoop_eq lt a i j d
end
end
section
open Go.RowKit Go.Maps Go.Sort
section
variable {w0 W W':World} {base g cap:Nat} {d:Array Nat}
def pO(w0:World)(base g cap:Nat)(d:Array Nat)(e:Ending)(w':World):Prop:=e=.returned (.tuple #[])/\bw w0 base g cap d w'
theorem bw.drawn(h:bw w0 base g cap d W)(n:Nat):bw w0 base g cap d (W.drewN n):=h.below ⟨rfl,rfl,rfl,Nat.le_refl _,fun _ _=>rfl⟩
theorem bw.two(h:bw w0 base g cap d W)(i j:Nat)(hi:i<d.size)(hj:j<d.size):∃(x y:Nat)(b:Bool),W.cell? ⟨g,i,none⟩=some (.int .u32 (x:Int))/\W.cell? ⟨g,j,none⟩=some (.int .u32 (y:Int))/\Hid (∀w,Calls prog 253 #[.int .u32 (x:Int),.int .u32 (y:Int)] w fun e w'=>e=.returned (.bool b)/\w'=w)/\Hid (b=aZ d[i]! d[j]!):=
 ⟨_,_,_,h.cell hi,h.cell hj,aa fun w=>Bf _ _ w,aa rfl⟩
theorem bw.swap(h:bw w0 base g cap d W)(i j:Nat)(hi:i<d.size)(hj:j<d.size):∃x y:Nat,W.cell? ⟨g,i,none⟩=some (.int .u32 (x:Int))/\W.cell? ⟨g,j,none⟩=some (.int .u32 (y:Int))/\(∀k,W.frozen? ⟨g,k,none⟩=false)/\(∃z:Nat,(W.setCell ⟨g,i,none⟩ (.int .u32 (y:Int))).cell? ⟨g,j,none⟩=some (.int .u32 (z:Int)))/\Hid (bw w0 base g cap (swp d i j) ((W.setCell ⟨g,i,none⟩ (.int .u32 (y:Int))).setCell ⟨g,j,none⟩ (.int .u32 (x:Int))).drew):=
 ⟨_,_,h.cell hi,h.cell hj,fun k=>World.ownsRow.frozenAt h.row k,⟨_,(h.put (i:=i) d[j]!).cell (by simpa using hj)⟩,aa (h.ll i j)⟩
theorem LD(h:bw w0 base g cap d W)(lo hi first:Nat)(JA:lo<=hi)(hb:first+hi<=d.size)(hsz:d.size<=1000000) :
 Calls prog 286 #[.slice (some ⟨g,0,none⟩) d.size cap,.int .i64 (lo:Int),.int .i64 (hi:Int),.int .i64 (first:Int)] W (pO w0 base g cap (siftDown aZ hi first lo d)):=by
 obtain⟨N,hN⟩:∃N,N=d.size:=⟨_,rfl⟩;rw[<- hN]at hb hsz ⊢;have H:=aa (show _/\_/\_ from⟨h,JA,hN⟩);clear h JA hN;go_enter func286,ntmps286;go_wp2;go_loopw [8] (fun vi wr=>∃(r:Nat)(dk:Array Nat),vi=.int .i64 (r:Int)/\r<=hi/\dk.size=N/\bw w0 base g cap dk wr/\Hid (siftDown aZ hi first r dk=siftDown aZ hi first lo d)) (fun vi _=>hi-(intOf vi).toNat)
 case atStart=>exact⟨lo,d,rfl,H.o.2.1,H.o.2.2.symm,H.o.1,rfl⟩
 case round=>
  obtain⟨r,dk,rfl,hr,hsk,hs,HO⟩:=hrel;generalize wr=Wr at *;have HS:=aa hs;obtain⟨R2,hR2⟩:∃x,x=2*r:=⟨_,rfl⟩;obtain⟨C,hC⟩:∃x,x=R2+1:=⟨_,rfl⟩;obtain⟨C1,Xp⟩:∃x,x=C+1:=⟨_,rfl⟩;obtain⟨P,hP⟩:∃x,x=first+r:=⟨_,rfl⟩;obtain⟨Q,hQ⟩:∃x,x=first+C:=⟨_,rfl⟩;obtain⟨Q1,hQ1⟩:∃x,x=Q+1:=⟨_,rfl⟩;have wR2:IntKind.i64.wrap (2*(r:Int))=(R2:Int):=by rw[ax]<;>omega
  have wC:IntKind.i64.wrap ((R2:Int)+1)=(C:Int):=by rw[ax]<;>omega
  have HX:Hid (C=2*r+1/\C1=C+1/\P=first+r/\Q=first+(2*r+1)/\Q1=first+(2*r+2)/\first+hi<=N/\dk.size=N/\N<=1000000):=aa ae;by_cases hch:C<hi
  ·have Zj:¬(C:Int) >= (hi:Int):=by omega
   have wP:IntKind.i64.wrap ((first:Int)+(r:Int))=(P:Int):=by rw[ax]<;>omega
   have wQ:IntKind.i64.wrap ((first:Int)+(C:Int))=(Q:Int):=by rw[ax]<;>omega
   have wQ1:IntKind.i64.wrap ((Q:Int)+1)=(Q1:Int):=by rw[ax]<;>omega
   have bP:(P:Int)<(N:Int):=by omega
   have wC1:IntKind.i64.wrap ((C:Int)+1)=(C1:Int):=by rw[ax]<;>omega
   obtain⟨xq,xq1,b1,c1,c2,hl,hb1⟩:∃(x y:Nat)(b:Bool),(Wr.cell? ⟨g,Q,none⟩=some (.int .u32 (x:Int)))/\(C1<hi->Wr.cell? ⟨g,Q1,none⟩=some (.int .u32 (y:Int)))/\Hid (∀w,Calls prog 253 #[.int .u32 (x:Int),.int .u32 (y:Int)] w fun e w'=>e=.returned (.bool b)/\w'=w)/\Hid ((decide (C1<hi) && b)=(decide (2*r+2<hi) && aZ dk[first+(2*r+1)]! dk[first+(2*r+2)]!)):=
    ⟨_,dk[Q1]!,_,hs.cell ae,fun h=>hs.cell ae,aa fun w=>Bf _ _ w,aa (by rw[show Q=first+(2*r+1) by omega,show Q1=first+(2*r+2) by omega,show C1=2*r+2 by omega])⟩
   have bQ:(Q:Int)<(N:Int):=by omega
   clear hs hR2 hC Xp hP hQ hQ1 hsk;go_upto_region 3 with fail
   go_cut [36] from 17 to 35 (fun v Wx=>v=.bool (decide (C1<hi) && b1)/\bw w0 base g cap dk Wx)
   case first=>
    by_cases hc1:C1<hi
    ·have hd:Hid (decide (C1<hi)=true):=aa (decide_eq_true hc1);have hdz:=hd.o;have bQ1:(Q1:Int)<(N:Int):=by have:=HX.o;omega
     have c3:=c2 hc1;clear hc1 c2;go_wp2_with fail;go_quiet ((go_at_call 253;exact Calls.quiet_of_same (hl.out _)))
     have gq:=aa (HS.o.drawn nq);go_wp2;go_meet
     exact⟨by rw[hd.o];rfl,gq.o⟩
    ·have hd:Hid (decide (C1<hi)=false):=aa (decide_eq_false hc1);have hdz:=hd.o;clear hc1 c2;go_wp2_with fail;go_quiet (fail)
     have gq:=aa (HS.o.drawn nq);go_wp2;go_meet
     exact⟨by rw[hd.o];rfl,gq.o⟩
   case rest=>
    obtain⟨rfl,oX⟩:=hcut;have gq:=aa oX;clear oX c1 c2 hl;generalize wc=W4 at *;generalize M4:(decide (C1<hi) && b1)=bb at *;obtain⟨D,hD⟩:∃x,x=if bb=true then C1 else C:=⟨_,rfl⟩;have HD:Hid (D=(if bb=true then 2*r+2 else 2*r+1)/\D<hi/\r<D):=aa (by
     have hx:=HX.o;rw[hD];cases bb
     ·simp;omega
     ·simp at M4 ⊢;omega)
    go_upto_if 36 with fail
    go_cut [9] from 37 to 38 (fun v Wx=>v=.int .i64 (D:Int)/\W4=Wx)
    case first=>
     cases bb
     ·simp at hD;subst hD;go_wp2;go_meet;exact⟨rfl,rfl⟩
     ·simp at hD;subst hD;go_wp2;go_meet;exact⟨rfl,rfl⟩
    case rest=>
     obtain⟨rfl,rfl⟩:=hcut;obtain⟨E,hE⟩:∃x,x=first+D:=⟨_,rfl⟩;have hB:P<dk.size/\E<dk.size:=by have:=HD.o;have:=HX.o;omega
     have HST:=aa (O8 (lt:=aZ) (d:=dk) (first:=first) (show 2*r+1<hi by have:=HX.o;omega) hb1.out HD.o.1);rw[<- hE,<- HX.o.2.2.1]at HST;have wE:IntKind.i64.wrap ((first:Int)+(D:Int))=(E:Int):=by have:=HD.o;have:=HX.o;rw[ax]<;>omega
     have bE:(E:Int)<(N:Int):=by have:=HX.o;omega
     have HB:=aa (show _/\_/\¬E=P from⟨hB.1,hB.2,by have:=HD.o;have:=HX.o;omega⟩);obtain⟨x,y,cb,x0,y0,hl,hcb⟩:=gq.o.two P E hB.1 hB.2;rw[<- hcb.out]at HST;clear hD hE hB hch M4 hb1;go_wp2_with fail;go_quiet ((go_at_call 253;exact Calls.quiet_of_same (hl.out _)))
     have b9:=aa (gq.o.drawn nq);generalize W4.drewN nq=W5 at *;cases cb
     ·have HF:Hid (siftDown aZ hi first lo d=dk):=aa (by rw[<- HO.out,HST.o];rfl);go_wp2;go_returns;exact⟨rfl,by rw[HF.o];exact b9.o⟩
     ·obtain⟨u,v,u0,v0,dS,⟨z,hz⟩,HQ⟩:=b9.o.swap P E HB.o.1 HB.o.2.1;clear x0 y0 hl hcb;go_wp2_with fail;go_big_region
      all_goals
       clear u0 v0 dS hz;go_wp2;exact⟨⟨D,_,rfl,by have:=HD.o;omega,by rw[size_swp];exact HX.o.2.2.2.2.2.2.1,HQ.out,by show siftDown _ _ _ _ _=_;rw[<- HO.out,HST.o];rfl⟩,by have:=HD.o;simp[intOf];omega⟩
  ·have Zj:(C:Int) >= (hi:Int):=by omega
   have HF:Hid (siftDown aZ hi first lo d=dk):=aa (by rw[<- HO.out];exact Tk ae);clear hs hR2 hC Xp hP hQ hQ1 hsk;go_wp2;go_returns;exact⟨rfl,by rw[HF.o];exact HS.o⟩
end
end
section
open Go.RowKit Go.Maps Go.Sort
section
variable {w0 W W':World} {base g cap:Nat} {d:Array Nat}
theorem LF(h:bw w0 base g cap d W)(a b:Nat)(hab:a<b)(hb:b<=d.size)(hsz:d.size<=1000000) :
 Calls prog 248 #[.slice (some ⟨g,0,none⟩) d.size cap,.int .i64 (a:Int),.int .i64 (b:Int)] W (pO w0 base g cap (heapSort aZ d a b)):=by
 obtain⟨N,hN⟩:∃N,N=d.size:=⟨_,rfl⟩;rw[<- hN]at hb hsz ⊢;obtain⟨n,hn⟩:∃n,n=b-a:=⟨_,rfl⟩;obtain⟨M,hM⟩:∃M,M=(n-1)/2:=⟨_,rfl⟩;have PL:Hid (∀(W:World)(dk:Array Nat),dk.size=N->bw w0 base g cap dk W->∀(lo hi:Nat),lo<=hi->hi<=n->Calls prog 286 #[.slice (some ⟨g,0,none⟩) N cap,.int .i64 (lo:Int),.int .i64 (hi:Int),.int .i64 (a:Int)] W fun e w'=>e=.returned (.tuple #[])/\bw w0 base g cap (siftDown aZ hi a lo dk) w'/\(siftDown aZ hi a lo dk).size=N):=aa (fun W dk hs h lo hi h1 h2=>by
  rw[<- hs];exact(LD h lo hi a h1 ae ae).mono fun e w' h=>⟨h.1,h.2,size_siftDown _ hi a hi lo dk ae⟩)
 have HX:Hid (heapSort aZ d a b=heapPop aZ a n (heapBuild aZ n a (M+1) d)/\bw w0 base g cap d W/\d.size=N/\M<=n/\a+n<=N/\N<=1000000):=aa ⟨by unfold heapSort;rw[<- hn,<- hM],h,ae,ae,ae,hsz⟩;have w1:IntKind.i64.wrap ((b:Int)-(a:Int))=(n:Int):=by rw[ax]<;>omega
 have w2:IntKind.i64.wrap ((n:Int)-1)=(n:Int)-1:=ax ae ae;have w3:IntKind.i64.wrap (((n:Int)-1).tdiv 2)=(M:Int):=by
  rw[show((n:Int)-1)=((n-1:Nat):Int) by omega,hM,show(((n-1:Nat):Int)).tdiv 2=(((n-1)/2:Nat):Int) from rfl];exact ax ae ae
 have han:(a:Int)<(N:Int):=by omega
 clear h hN hn hM hab hb;go_enter func248,ntmps248;go_wp2;go_loopw [9] (fun vi wr=>∃(z:Int)(k:Nat)(dk:Array Nat),vi=.int .i64 z/\z=(k:Int)-1/\k<=M+1/\dk.size=N/\bw w0 base g cap dk wr/\Hid (heapBuild aZ n a k dk=heapBuild aZ n a (M+1) d)) (fun vi _=>(intOf vi+1).toNat)
 case atStart=>exact⟨(M:Int),M+1,d,rfl,ae,Nat.le_refl _,HX.o.2.2.1,HX.o.2.1,rfl⟩
 case round=>
  obtain⟨z,k,dk,rfl,hz,hk,hsk,hs,HO⟩:=hrel;generalize wr=Wr at *;have HS:=aa (show _/\_ from⟨hsk,hs⟩);have HK:=aa (show k<=M+1/\M<=n/\n<=1000000 by have:=HX.o;omega);clear hsk hs hk;cases k with
  |succ kp=>
    obtain rfl:z=(kp:Int):=by omega
    have hz0:¬(kp:Int)<0:=by omega
    have w4:IntKind.i64.wrap ((kp:Int)-1)=(kp:Int)-1:=by have:=HK.o;rw[ax]<;>omega
    have hc:=aa (PL.o Wr dk HS.o.1 HS.o.2 kp n (by have:=HK.o;omega) (Nat.le_refl _));clear hz;go_wp2_with fail;refine hc.o.mono ?_;rintro e w5⟨rfl,hs5⟩;have b9:=aa hs5;clear hs5 hc;go_wp2;exact⟨⟨_,kp,_,rfl,rfl,by have:=HK.o;omega,b9.o.2,b9.o.1,HO.out⟩,by simp[intOf]⟩
  |zero=>
    obtain rfl:z=-1:=by omega
    clear hz HK;go_wp2;go_loopw [10] (fun vi wr=>∃(z:Int)(k:Nat)(dj:Array Nat),vi=.int .i64 z/\z=(k:Int)-1/\k<=n/\dj.size=N/\bw w0 base g cap dj wr/\Hid (heapPop aZ a k dj=heapSort aZ d a b)) (fun vi _=>(intOf vi+1).toNat)
    case atStart=>exact⟨(n:Int)-1,n,dk,rfl,rfl,Nat.le_refl _,HS.o.1,HS.o.2,aa (by rw[HX.o.1,<- HO.out];rfl)⟩
    case round=>
     obtain⟨z,k,dj,rfl,hz,hk,hsk,hs,HQ⟩:=hrel;generalize wr=Wj at *;have HJ:=aa (show _/\_ from⟨hsk,hs⟩);clear hs;cases k with
     |zero=>
       obtain rfl:z=-1:=by omega
       clear hz hk hsk;go_wp2;go_returns;exact⟨rfl,by rw[<- HQ.out];exact HJ.o.2⟩
     |succ kp=>
       obtain rfl:z=(kp:Int):=by omega
       have hz0:¬(kp:Int)<0:=by omega
       have hX:=HX.o;have w4:IntKind.i64.wrap ((kp:Int)-1)=(kp:Int)-1:=by rw[ax]<;>omega
       obtain⟨Q,hQ⟩:∃Q,Q=a+kp:=⟨_,rfl⟩;have wQ:IntKind.i64.wrap ((a:Int)+(kp:Int))=(Q:Int):=by rw[ax]<;>omega
       have bQ:(Q:Int)<(N:Int):=by omega
       obtain⟨x,y,x0,y0,dS,⟨v,v0⟩,hd⟩:=HJ.o.2.swap a Q ae ae;have hc:=aa (PL.o _ (swp dj a Q) (by rw[size_swp];exact hsk) hd.out 0 kp (Nat.zero_le _) ae);have HQ2:Hid (heapPop aZ a kp (siftDown aZ kp a 0 (swp dj a Q))=heapSort aZ d a b/\kp<=n):=aa ⟨by rw[hQ,<- HQ.out];rfl,ae⟩;simp only[Int.natCast_zero]at hc;clear hz hk hsk hQ hX;go_wp2_with fail;go_big_region
       all_goals
        clear x0 y0 dS v0;go_wp2_with fail;refine hc.o.mono ?_;rintro e w5⟨rfl,hs5⟩;have b9:=aa hs5;clear hs5 hc;go_wp2;exact⟨⟨_,kp,_,rfl,rfl,HQ2.o.2,b9.o.2,b9.o.1,aa HQ2.o.1⟩,by simp[intOf]⟩
theorem aat{α:Type}[Inhabited α]{i j:Nat}{d:Array α}(h:i<j):reverseLoop i j d=reverseLoop (i+1) (j-1) (swp d i j):=by
 conv=>lhs;unfold reverseLoop
 rw[if_pos h]
theorem Tl{α:Type}[Inhabited α]{i j:Nat}{d:Array α}(h:¬i<j):reverseLoop i j d=d:=by
 unfold reverseLoop;rw[if_neg h]
theorem CM(h:bw w0 base g cap d W)(a b:Nat)(hab:a<b)(hb:b<=d.size)(hsz:d.size<=1000000) :
 Calls prog 251 #[.slice (some ⟨g,0,none⟩) d.size cap,.int .i64 (a:Int),.int .i64 (b:Int)] W (pO w0 base g cap (reverseRange d a b)):=by
 obtain⟨N,hN⟩:∃N,N=d.size:=⟨_,rfl⟩;rw[<- hN]at hb hsz ⊢;obtain⟨J,hJ⟩:∃J,J=b-1:=⟨_,rfl⟩;have w1:IntKind.i64.wrap ((b:Int)-1)=(J:Int):=by rw[ax]<;>omega
 have H:=aa (show _/\_/\_/\reverseRange d a b=reverseLoop a J d/\a<=N/\N<=1000000 from⟨h,hN.symm,show J<N by omega,by unfold reverseRange;rw[hJ],ae,hsz⟩);rw[H.o.2.2.2.1];clear h hN hJ hab hb hsz;go_enter func251,ntmps251;go_wp2;go_loopw [6,7] (fun vi vj wr=>∃(i j:Nat)(dk:Array Nat),vi=.int .i64 (i:Int)/\vj=.int .i64 (j:Int)/\i<=N/\j<N/\dk.size=N/\bw w0 base g cap dk wr/\Hid (reverseLoop i j dk=reverseLoop a J d)) (fun _ vj _=>(intOf vj).toNat)
 case atStart=>exact⟨a,J,d,rfl,rfl,H.o.2.2.2.2.1,H.o.2.2.1,H.o.2.1,H.o.1,rfl⟩
 case round=>
  obtain⟨i,j,dk,rfl,rfl,hi,hj,hsk,hs,HO⟩:=hrel;generalize wr=Wr at *;by_cases fg:i<j
  ·obtain⟨k,rfl⟩:∃k,j=k+1:=⟨j-1,ae⟩;have hN:=H.o;have qI:(i:Int)<(k:Int)+1:=by omega
   have wi:IntKind.i64.wrap ((i:Int)+1)=((i+1:Nat):Int):=by rw[ax]<;>omega
   have wj:IntKind.i64.wrap (k:Int)=(k:Int):=by rw[ax]<;>omega
   have bi:(i:Int)<(N:Int):=by omega
   have bj:(k:Int)+1<(N:Int):=by omega
   have p0:(0:Int)<=(k:Int)+1:=by omega
   have e0:((k:Int)+1).toNat=k+1:=by omega
   obtain⟨x,y,x0,y0,dS,⟨v,v0⟩,HD⟩:=hs.swap i (k+1) ae ae;have HQ:Hid (reverseLoop (i+1) k (swp dk i (k+1))=reverseLoop a J d/\i+1<=N/\k<N/\dk.size=N):=aa ⟨by rw[<- HO.out,aat fg];rfl,ae,ae,hsk⟩;clear hs hsk hi hj fg hN;go_wp2_with fail;go_big_region
   all_goals
    clear x0 y0 dS v0;go_wp2;exact⟨⟨i+1,k,_,rfl,rfl,HQ.o.2.1,HQ.o.2.2.1,by rw[size_swp];exact HQ.o.2.2.2,HD.out,aa HQ.o.1⟩,by simp[intOf]⟩
  ·have qI:¬(i:Int)<(j:Int):=by omega
   have HS:=aa (show bw w0 base g cap (reverseLoop a J d) Wr by rw[<- HO.out,Tl fg];exact hs);clear hs hsk;go_wp2;go_returns;exact⟨rfl,HS.o⟩
end
end
section
open Go.RowKit Go.Maps Go.Sort
section
variable {w0 W W':World} {base g cap c s:Nat} {d:Array Nat} {v:Value}
structure eV(w0:World)(base g cap:Nat)(d:Array Nat)(c:Nat)(v:Value)(W:World):Prop where
 num:bw w0 base g cap d W
 box:∃T,W.heap[c]? = some (.cells #[v] T (0,0))
 new:w0.heap.size<=c
 ng:c≠g
theorem eV.cell(h:eV w0 base g cap d c v W):W.cell? ⟨c,0,none⟩=some v/\W.frozen? ⟨c,0,none⟩=false:=by
 obtain⟨T,hT⟩:=h.box;exact⟨by rw[aq hT];rfl,aO hT _⟩
theorem eV.drawn(h:eV w0 base g cap d c v W)(n:Nat):eV w0 base g cap d c v (W.drewN n):=⟨h.num.drawn n,h.box,h.new,h.ng⟩
theorem eV.put(h:eV w0 base g cap d c v W)(u:Value):eV w0 base g cap d c u (W.setCell ⟨c,0,none⟩ u):=by
 obtain⟨T,hT⟩:=h.box;have ht:aH (·=c) W (W.setCell ⟨c,0,none⟩ u):=aH.setCell (aH.refl _ _) _ _ (.inl rfl);exact⟨⟨ht.ownsRow h.num.row (fun b hb e=>h.ng (by cases hb;exact e.symm)),h.num.turn.setCell _ _ (.inr h.new)⟩,⟨T,by rw[aT hT];rfl⟩,h.new,h.ng⟩
theorem eV.M6(h:bw w0 base g cap d W)(v:Value)(T:TypeId):eV w0 base g cap d W.heap.size v (W.alloc (.cells #[v] T)):=by
 refine⟨h.below ai,⟨T,heap_alloc_new W _⟩,h.turn.size,fun e=>?_⟩;have:=(aL h.row g rfl).1;omega
def M7(w0:World)(base g cap:Nat)(d:Array Nat)(c a b s:Nat)(e:Ending)(w':World):Prop:=
 ∃x y t:Nat,e=.returned (.tuple #[.int .i64 (x:Int),.int .i64 (y:Int)])/\eV w0 base g cap d c (.int .i64 (t:Int)) w'/\order2 aZ d a b s=(x,y,t)/\x<d.size/\y<d.size/\t<=s+1
def Wa(w0:World)(base g cap:Nat)(d:Array Nat)(c a b k s:Nat)(e:Ending)(w':World):Prop:=
 ∃m t:Nat,e=.returned (.int .i64 (m:Int))/\eV w0 base g cap d c (.int .i64 (t:Int)) w'/\median aZ d a b k s=(m,t)
theorem qZ(h:eV w0 base g cap d c (.int .i64 (s:Int)) W)(a b:Nat)(ha:a<d.size)(hb:b<d.size)(hs:s<=1000) :
 Calls prog 303 #[.slice (some ⟨g,0,none⟩) d.size cap,.int .i64 (a:Int),.int .i64 (b:Int),ptrTo c] W
  (M7 w0 base g cap d c a b s):=by
 have H:=aa (show _/\a<d.size/\b<d.size from⟨h,ha,hb⟩);have ba:(a:Int)<(d.size:Int):=by omega
 have bb:(b:Int)<(d.size:Int):=by omega
 have ws:IntKind.i64.wrap ((s:Int)+1)=((s+1:Nat):Int):=by rw[ax]<;>omega
 obtain⟨x,y,r,x0,y0,hl,hr⟩:=h.num.two b a hb ha;have HO:Hid (order2 aZ d a b s=cond r (b,a,s+1) (a,b,s)):=aa (by unfold order2;rw[hr.out];cases aZ d[b]! d[a]! <;> rfl);clear h ha hb hr;obtain⟨N,hN⟩:∃N,N=d.size:=⟨_,rfl⟩;rw[<- hN]at H ba bb ⊢;obtain⟨PST,hP⟩:∃P,P=M7 w0 base g cap d c a b s:=⟨_,rfl⟩;rw[<- hP];have HP:Hid (∀x y t W',eV w0 base g cap d c (.int .i64 ((t:Nat):Int)) W'->order2 aZ d a b s=(x,y,t)->x<N->y<N->t<=s+1->PST (.returned (.tuple #[.int .i64 (x:Int),.int .i64 (y:Int)])) W'):=aa (fun x y t W' h1 h2 h3 h4 h5=>by rw[hP];exact⟨x,y,t,rfl,h1,h2,by rw[<- hN];exact h3,by rw[<- hN];exact h4,h5⟩);unfold ptrTo;clear hN hP;go_enter func303,ntmps303;go_wp2_with fail;go_quiet ((go_at_call 253;exact Calls.quiet_of_same (hl.out _)))
 have H3:=aa (H.o.1.drawn nq);clear x0 y0;generalize W.drewN nq=W3 at *;cases r
 ·go_wp2;exact HP.o _ _ _ _ H3.o HO.o H.o.2.1 H.o.2.2 ae
 ·have Rs:=aa (H3.o.put (.int .i64 ((s+1:Nat):Int)));obtain⟨hc,hf⟩:=H3.o.cell;go_wp2;exact HP.o _ _ _ _ Rs.o HO.o H.o.2.2 H.o.2.1 ae
theorem Fu(h:eV w0 base g cap d c (.int .i64 (s:Int)) W)(a b k:Nat)(ha:a<d.size)(hb:b<d.size)(hk:k<d.size)(hs:s<=900) :
 Calls prog 288 #[.slice (some ⟨g,0,none⟩) d.size cap,.int .i64 (a:Int),.int .i64 (b:Int),.int .i64 (k:Int),ptrTo c] W
  (Wa w0 base g cap d c a b k s):=by
 have h1:=aa (qZ h a b ha hb ae);clear h;unfold ptrTo at *;go_enter func288,ntmps288;go_wp2_with fail;refine h1.o.mono ?_;rintro e w1⟨x1,y1,t1,rfl,n1,o1,p1,q1,r1⟩;have h2:=aa (qZ n1 y1 k q1 hk ae);have O1:=aa o1;clear n1 o1 h1;unfold ptrTo at h2;go_wp2_with fail;refine h2.o.mono ?_;rintro e w2⟨x2,y2,t2,rfl,n2,o2,p2,q2,r2⟩;have h3:=aa (qZ n2 x1 x2 p1 p2 ae);have O2:=aa o2;clear n2 o2 h2;unfold ptrTo at h3;go_wp2_with fail;refine h3.o.mono ?_;rintro e w3⟨x3,y3,t3,rfl,n3,o3,-⟩;have O3:=aa (show _/\_ from⟨o3,n3⟩);clear n3 o3 h3;go_wp2;go_ret;exact⟨y3,t3,rfl,O3.o.2,by unfold median;simp only[O1.o,O2.o,O3.o.1]⟩
theorem I9(h:bw w0 base g cap d W)(a b:Nat)(hl:12<b-a)(h50:b-a<50)(hb:b<=d.size)(hsz:d.size<=1000000) :
 Calls prog 250 #[.slice (some ⟨g,0,none⟩) d.size cap,.int .i64 (a:Int),.int .i64 (b:Int)] W fun e w'=>e=.returned (.tuple #[.int .i64 ((choosePivot aZ d a b).1:Int),.int .i64 (mP (choosePivot aZ d a b).2:Int)])/\bw w0 base g cap d w':=by
 have H0:=aa (eV.M6 h (.int .i64 ((0:Nat):Int)) 3);obtain⟨L,hL⟩:∃L,L=b-a:=⟨_,rfl⟩;obtain⟨Q,hQ⟩:∃Q,Q=(b-a)/4:=⟨_,rfl⟩;obtain⟨Q2,Vb⟩:∃Q2,Q2=Q*2:=⟨_,rfl⟩;obtain⟨Q3,hQ3⟩:∃Q3,Q3=Q*3:=⟨_,rfl⟩;obtain⟨I,hI⟩:∃I,I=a+Q:=⟨_,rfl⟩;obtain⟨J,hJ⟩:∃J,J=a+Q2:=⟨_,rfl⟩;obtain⟨K,hK⟩:∃K,K=a+Q3:=⟨_,rfl⟩;have wL:IntKind.i64.wrap ((b:Int)-(a:Int))=(L:Int):=by rw[ax]<;>omega
 have wQ:IntKind.i64.wrap ((L:Int)/4)=(Q:Int):=by rw[ax]<;>omega
 have wQ1:IntKind.i64.wrap (Q:Int)=(Q:Int):=ax ae ae;have wQ2:IntKind.i64.wrap ((Q:Int)*2)=(Q2:Int):=by rw[ax]<;>omega
 have wQ3:IntKind.i64.wrap ((Q:Int)*3)=(Q3:Int):=by rw[ax]<;>omega
 have wI:IntKind.i64.wrap ((a:Int)+(Q:Int))=(I:Int):=by rw[ax]<;>omega
 have wJ:IntKind.i64.wrap ((a:Int)+(Q2:Int))=(J:Int):=by rw[ax]<;>omega
 have wK:IntKind.i64.wrap ((a:Int)+(Q3:Int))=(K:Int):=by rw[ax]<;>omega
 have l8:¬(L:Int)<8:=by omega
 have l50:(L:Int)<50:=by omega
 have HM:=aa (fun W'(hW:eV w0 base g cap d W.heap.size (.int .i64 ((0:Nat):Int)) W')=>Fu hW I J K ae ae ae ae);have HT:Hid (∀m,median aZ d I J K 0=m->choosePivot aZ d a b=(m.1,if m.2=0 then .increasing else if m.2=12 then .decreasing else .unknown)):=aa (fun m hm=>by
  rw[hI,hJ,hK,Vb,hQ3,hQ,<- Nat.mul_one ((b-a)/4)]at hm;rw[Nat.mul_one ((b-a)/4)]at hm;unfold choosePivot;simp only[ge_iff_le,show 8<=b-a by omega,show ¬50<=b-a by omega,if_true,if_false,Nat.mul_one,hm])
 clear h hL hQ Vb hQ3 hI hJ hK hl h50 hb hsz;unfold ptrTo at *;generalize d.size=N at *;generalize choosePivot aZ d a b=r at HT ⊢;go_enter func250,ntmps250;go_wp2_with fail;refine(HM.o _ H0.o).mono ?_;rintro e w4⟨m,t,rfl,h4,hm⟩;have H4:=aa (show _/\_ from⟨h4.num,HT.o _ hm⟩);obtain⟨hcell,-⟩:=h4.cell;clear h4 hm HM HT H0;by_cases m0:t=0
 ·subst m0;simp only[Int.natCast_zero]at hcell;go_wp2;go_ret2;rw[H4.o.2];exact⟨rfl,H4.o.1⟩
 ·by_cases m12:t=12
  ·subst m12;have Rt:w4.cell? ⟨W.heap.size,0,none⟩=some (.int .i64 12):=hcell;clear hcell;go_wp2;go_ret2;rw[H4.o.2];exact⟨rfl,H4.o.1⟩
  ·have z0b:((t:Int) == 0)=false:=beq_false_of_ne ae;have ac5:((t:Int) == 12)=false:=beq_false_of_ne ae;have HN:=aa (show _/\_ from⟨m0,m12⟩);clear m0 m12;go_wp2;go_ret2;rw[H4.o.2];simp only[HN.o.1,HN.o.2,if_false];exact⟨rfl,H4.o.1⟩
end
end
section
open Go.RowKit Go.Maps Go.Sort
section
variable {w0 W W':World} {base g cap c:Nat} {d:Array Nat} {v:Value}
theorem eV.swap(h:eV w0 base g cap d c v W)(i j:Nat)(hi:i<d.size)(hj:j<d.size):∃x y:Nat,W.cell? ⟨g,i,none⟩=some (.int .u32 (x:Int))/\W.cell? ⟨g,j,none⟩=some (.int .u32 (y:Int))/\(∀k,W.frozen? ⟨g,k,none⟩=false)/\(∃z:Nat,(W.setCell ⟨g,i,none⟩ (.int .u32 (y:Int))).cell? ⟨g,j,none⟩=some (.int .u32 (z:Int)))/\Hid (eV w0 base g cap (swp d i j) c v ((W.setCell ⟨g,i,none⟩ (.int .u32 (y:Int))).setCell ⟨g,j,none⟩ (.int .u32 (x:Int))).drew):=by
 obtain⟨x,y,h1,h2,h3,h4,h5⟩:=h.num.swap i j hi hj;obtain⟨T,hT⟩:=h.box;have ht:aH (·=g) W ((W.setCell ⟨g,i,none⟩ (.int .u32 (y:Int))).setCell ⟨g,j,none⟩ (.int .u32 (x:Int))).drew:=(((aH.refl (·=g) W).setCell _ _ (.inl rfl)).setCell _ _ (.inl rfl)).drew;exact⟨x,y,h1,h2,h3,h4,aa ⟨h5.out,⟨T,ht.heap hT h.ng⟩,h.new,h.ng⟩⟩
theorem Ja(h:bw w0 base g cap d W)(a b:Nat)(hl:12<b-a)(hb:b<=d.size)(hsz:d.size<=1000000) :
 Calls prog 249 #[.slice (some ⟨g,0,none⟩) d.size cap,.int .i64 (a:Int),.int .i64 (b:Int)] W (pO w0 base g cap (breakPatterns d a b)):=by
 obtain⟨L,hL⟩:∃L,L=b-a:=⟨_,rfl⟩;obtain rfl:b=a+L:=by omega
 rw[breakPatterns_eq d a L ae];obtain⟨M,hM⟩:∃M:Nat,M=1 <<< bitsLen L:=⟨_,rfl⟩;have Hf:1<=M/\M<=2*L:=by rw[hM,Nat.one_shiftLeft];exact⟨Nat.two_pow_pos _,two_pow_bitsLen_le ae⟩
 have HNP:Hid (∀W',Calls prog 192 #[.int .i64 (L:Int)] W' fun e w'=>e=.returned (.int .u64 (M:Int))/\w'=W'):=aa (fun W'=>by
  rw[hM];exact AnyF.nextPowerOfTwo (P:=prog) (ρ:=Tryz.eJ) { Tryz.jS with } L ae W')
 rw[<- hM];obtain⟨N,hN⟩:∃N,N=d.size:=⟨_,rfl⟩;rw[<- hN]at hb hsz ⊢;obtain⟨Q,hQ⟩:∃Q,Q=L/4:=⟨_,rfl⟩;obtain⟨Q2,Vb⟩:∃Q2,Q2=Q*2:=⟨_,rfl⟩;obtain⟨A2,hA2⟩:∃A2,A2=a+Q2:=⟨_,rfl⟩;obtain⟨E,hE⟩:∃E,E=A2+1:=⟨_,rfl⟩;obtain⟨B,hB⟩:∃B,B=A2-1:=⟨_,rfl⟩;obtain⟨BN,hBN⟩:∃BN,BN=a+L:=⟨_,rfl⟩;have wL:IntKind.i64.wrap ((BN:Int)-(a:Int))=(L:Int):=by rw[ax]<;>omega
 have aid:IntKind.u64.wrap (L:Int)=(L:Int):=iM _ ae ae;have wQ:IntKind.i64.wrap ((L:Int)/4)=(Q:Int):=by rw[ax]<;>omega
 have wQ2:IntKind.i64.wrap ((Q:Int)*2)=(Q2:Int):=by rw[ax]<;>omega
 have wA2:IntKind.i64.wrap ((a:Int)+(Q2:Int))=(A2:Int):=by rw[ax]<;>omega
 have wE:IntKind.i64.wrap ((A2:Int)+1)=(E:Int):=by rw[ax]<;>omega
 have wB:IntKind.i64.wrap ((A2:Int)-1)=(B:Int):=by rw[ax]<;>omega
 have wM:IntKind.u64.wrap ((M:Int)-1)=(M:Int)-1:=iM _ ae ae;have l8:¬(L:Int)<8:=by omega
 have HX:Hid (E=B+2/\B+3<=a+L/\a+L<=N/\a<=B/\8<=L/\1<=M/\M<=2*L/\L<=N/\N<=1000000/\d.size=N):=aa ae;have H0:=aa (eV.M6 h (.int .u64 (L:Int)) 280);rw[show a+L/4*2-1=B by omega,<- hBN];clear h hL hM Hf hN hQ Vb hA2 hE hB hBN hb hsz hl;unfold ptrTo at *;go_enter func249,ntmps249;go_wp2_with fail;generalize W.heap.size=rb at H0 ⊢;generalize W.alloc (.cells #[.int .u64 (L:Int)] 280)=W1 at H0 ⊢;refine(HNP.o _).mono ?_;rintro e w'⟨rfl,hw'⟩;obtain rfl:=hw';clear HNP;go_wp2;go_loopw [9] (fun vi wr=>∃(i t:Nat)(r:UInt64)(dk:Array Nat),vi=.int .i64 (i:Int)/\t<=3/\dk.size=N/\eV w0 base g cap dk rb (.int .u64 (r.toNat:Int)) wr/\Hid (i=B+t)/\Hid (bpRest a L M B (3-t) t (r,dk)=bpRest a L M B 3 0 (UInt64.ofNat L,d))) (fun vi _=>B+3-(intOf vi).toNat)
 case atStart=>
  refine⟨B,0,UInt64.ofNat L,d,rfl,ae,HX.o.2.2.2.2.2.2.2.2.2,?_,aa rfl,rfl⟩;rw[show(UInt64.ofNat L).toNat=L from by rw[UInt64.toNat_ofNat'];have:=HX.o;omega];exact H0.o
 case round=>
  obtain⟨i,t,r,dk,rfl,ht,hsk,hs,hi,HO⟩:=hrel;generalize wr=Wr at *;by_cases yJ:t<3
  ·obtain⟨R',Vc⟩:∃R':Nat,R'=xorNextN r.toNat:=⟨_,rfl⟩;obtain⟨O,hO⟩:∃O:Nat,O=R' &&& (M-1):=⟨_,rfl⟩;have hx:=HX.o;have Vd:=hi.out;have lO:O<=M-1:=by rw[hO];exact Nat.and_le_right
   have aie:bits .and .u64 (R':Int) ((M:Int)-1)=(O:Int):=by
    rw[show((M:Int)-1)=((M-1:Nat):Int) by omega,bits_and_u64_nat _ _ (by rw[Vc];exact xorNextN_lt _ r.toNat_lt) ae,hO]
   obtain⟨V,hV⟩:∃V,V=if O >= L then O-L else O:=⟨_,rfl⟩;have hVL:V<L/\(L<=O->V=O-L)/\(¬L<=O->V=O):=by rw[hV];split<;>omega
   obtain⟨P,hP⟩:∃P,P=a+V:=⟨_,rfl⟩;have Aw:Hid (Calls prog 193 #[.pointer (some ⟨rb,0,none⟩)] Wr fun e w'=>e=.returned (.int .u64 (R':Int))/\eV w0 base g cap dk rb (.int .u64 ((xorNext r).toNat:Int)) w'):=aa ((AnyF.xorshift_Next (P:=prog) (ρ:=Tryz.eJ) { Tryz.jS with } rb 0 r.toNat r.toNat_lt Wr hs.cell.1 hs.cell.2).mono fun e w' ⟨h1,h2⟩=>by
    rw[Vc];refine⟨h1,?_⟩;rw[h2,xorNext_toNat];exact(hs.put _).drawn 3)
   have hiz:(i:Int)<=(E:Int):=by omega
   have bi:(i:Int)<(N:Int):=by omega
   have bP:(P:Int)<(N:Int):=by omega
   have wO:IntKind.i64.wrap (O:Int)=(O:Int):=ax ae ae;have Xr:IntKind.i64.wrap ((i:Int)+1)=((i+1:Nat):Int):=by rw[ax]<;>omega
   have wP:IntKind.i64.wrap ((a:Int)+(V:Int))=(P:Int):=by rw[ax]<;>omega
   have Zl:Hid (bpRest a L M B (3-(t+1)) (t+1) (xorNext r,swp dk i P)=bpRest a L M B 3 0 (UInt64.ofNat L,d)):=aa (by
    rw[<- HO.out,bp_step a L M B t r dk V yJ (by rw[hV,hO,Vc,xorNext_toNat]),Vd,hP])
   have HV:=aa (show _/\i<dk.size/\P<dk.size/\O<=2000000/\i+1=B+(t+1)/\t+1<=3/\dk.size=N from⟨hVL,ae,ae,ae,ae,ae,hsk⟩);clear Vc hO lO hV hVL hP hs hi hx Vd HO ht yJ hsk;go_wp2_with fail;refine Aw.o.mono ?_;rintro e w2⟨rfl,hb2⟩;have cZ:=aa hb2;clear hb2 Aw;go_upto_if 43 with fail
   go_cut [10] from 41 to 46 (fun vo wx=>vo=.int .i64 (V:Int)/\w2=wx)
   case first=>
    by_cases hLO:L<=O
    ·have Zk:(O:Int) >= (L:Int):=by omega
     have wV:IntKind.i64.wrap ((O:Int)-(L:Int))=(V:Int):=by have:=HV.o;have:=HX.o;rw[ax]<;>omega
     go_wp2;go_meet
     exact⟨rfl,rfl⟩
    ·have Zk:¬(O:Int) >= (L:Int):=by omega
     have hVO:V=O:=HV.o.1.2.2 hLO;go_wp2;go_meet
     exact⟨by rw[hVO],rfl⟩
   case rest=>
    obtain⟨rfl,rfl⟩:=hcut;obtain⟨x,y,x0,y0,dS,⟨z,z0⟩,HD⟩:=cZ.o.swap i P HV.o.2.1 HV.o.2.2.1;go_wp2_with fail;go_big_region
    all_goals
     clear x0 y0 dS z0;go_wp2;exact⟨⟨i+1,t+1,xorNext r,_,rfl,HV.o.2.2.2.2.2.1,by rw[size_swp];exact HV.o.2.2.2.2.2.2,HD.out,aa HV.o.2.2.2.2.1,Zl⟩,by have:=HV.o;have:=HX.o;simp[intOf];omega⟩
  ·have hiz:¬(i:Int)<=(E:Int):=by have:=HX.o;have:=hi.out;omega
   obtain rfl:t=3:=by omega
   have HS:=aa (show bw w0 base g cap (bpRest a L M B 3 0 (UInt64.ofNat L,d)) Wr by rw[<- HO.out];exact hs.num);clear hs HO hi;go_wp2;go_returns;exact⟨rfl,HS.o⟩
end
end
section
open Go.RowKit Go.Maps Go.Sort
section
variable {w0 W W':World} {base g cap:Nat} {d:Array Nat}
def LG(w0:World)(base g cap:Nat)(r:Nat×Bool×Array Nat)(e:Ending)(w':World):Prop:=e=.returned (.tuple #[.int .i64 (r.1:Int),.bool r.2.1])/\bw w0 base g cap r.2.2 w'
theorem LH(h:bw w0 base g cap d W)(a b pv:Nat)(hap:a<=pv)(Nx:pv<b)(hb:b<=d.size)(hsz:d.size<=1000000) :
 Calls prog 255 #[.slice (some ⟨g,0,none⟩) d.size cap,.int .i64 (a:Int),.int .i64 (b:Int),.int .i64 (pv:Int)] W (LG w0 base g cap (partition aZ d a b pv)):=by
 have H:=aa h;obtain⟨N,hN⟩:∃N,N=d.size:=⟨_,rfl⟩;rw[<- hN]at hb hsz ⊢;obtain⟨J,hJ⟩:∃J,J=b-1:=⟨_,rfl⟩;have wJ:IntKind.i64.wrap ((b:Int)-1)=(J:Int):=by rw[ax]<;>omega
 have wI:IntKind.i64.wrap ((a:Int)+1)=((a+1:Nat):Int):=by rw[ax]<;>omega
 have ba:(a:Int)<(N:Int):=by omega
 have bp:(pv:Int)<(N:Int):=by omega
 have HX:Hid (a<d.size/\pv<d.size/\J<N/\a<=J/\N<=1000000/\b-1=J/\d.size=N):=aa ae;obtain⟨D,hD⟩:∃D,D=swp d a pv:=⟨_,rfl⟩;obtain⟨r,hr⟩:∃r,r=partition aZ d a b pv:=⟨_,rfl⟩;rw[<- hr];have EU:=aa (show _/\_ from⟨hD,hr⟩);clear h hJ hap Nx hb hsz hN hD hr;go_enter func255,ntmps255;go_upto_region 1 with fail
 go_cut [] from 12 to 25 (fun wx=>bw w0 base g cap (swp d a pv) wx)
 case first=>
  obtain⟨x,y,x0,y0,dS,⟨z,z0⟩,HD⟩:=H.o.swap a pv (by have:=HX.o;omega) (by have:=HX.o;omega);go_big_region
  all_goals
   clear x0 y0 dS z0;go_wp2;go_meet
   exact HD.out
 case rest=>
  have iY:=aa (show bw w0 base g cap D _ by rw[EU.o.1];exact hcut);have cT:Hid (D.size=N/\a+1<=J+1/\J<N/\1<=a+1/\a<N/\N<=1000000/\a<a+1):=aa (by have:=HX.o;rw[EU.o.1,size_swp];omega);clear hcut H;go_upto_block 0 with fail
  go_cut [10] from 30 to 45 (fun vi wx=>∃i:Nat,vi=.int .i64 (i:Int)/\bw w0 base g cap D wx/\Hid (i=scanUp (fun x=>aZ x D[a]!) D J (a+1)))
  case first=>
   go_wp2_with fail;go_loopw [10] (fun vi wr=>∃i:Nat,vi=.int .i64 (i:Int)/\(a+1)<=i/\i<=J+1/\bw w0 base g cap D wr/\Hid (scanUp (fun x=>aZ x D[a]!) D J i=scanUp (fun x=>aZ x D[a]!) D J (a+1))) (fun vi _=>J+1-(intOf vi).toNat)
   case atStart=>exact⟨(a+1),rfl,by have:=cT.o;omega,by have:=cT.o;omega,iY.o,rfl⟩
   case round=>
    obtain⟨i,rfl,h1,h2,hs,HO⟩:=hrel;have HS:=aa hs;by_cases fg:i<=J
    ·have hz:(i:Int)<=(J:Int):=by omega
     have bi:(i:Int)<(N:Int):=by have:=cT.o;omega
     have wi:IntKind.i64.wrap ((i:Int)+1)=((i+1:Nat):Int):=by have:=cT.o;rw[ax]<;>omega
     obtain⟨x,y,b,x0,y0,hl,hb⟩:=hs.two i a (by have:=cT.o;omega) (by have:=cT.o;omega);have HQ:Hid (b=false->i=scanUp (fun x=>aZ x D[a]!) D J (a+1)):=aa fun e=>by rw[<- HO.out,scanUp_end _ _ _ _ (.inr (by rw[e]at hb;simp[<- hb.out]))]
     have HG:Hid (b=true->scanUp (fun x=>aZ x D[a]!) D J (i+1)=scanUp (fun x=>aZ x D[a]!) D J (a+1)/\(a+1)<=(i+1)/\(i+1)<=J+1):=aa fun e=>⟨by rw[<- HO.out,scanUp_go _ _ _ _ fg (by rw[e]at hb;simp[<- hb.out])],by have:=cT.o;omega,ae⟩;have HI:=aa fg;clear hs h1 h2 hb fg HO;go_wp2_with fail;go_quiet ((go_at_call 253;exact Calls.quiet_of_same (hl.out _)))
     have b9:=aa (HS.o.drawn nq);clear HS x0 y0;cases b
     ·go_wp2;go_meet
      exact⟨i,rfl,b9.o,aa (HQ.o trivial)⟩
     ·have hg:=HG.o rfl;have UO:=HI.o;have M4:=cT.o;go_wp2;exact⟨⟨(i+1),rfl,hg.2.1,hg.2.2,b9.o,aa hg.1⟩,by simp[intOf];omega⟩
    ·have hz:¬(i:Int)<=(J:Int):=by omega
     have HQ:Hid (i=scanUp (fun x=>aZ x D[a]!) D J (a+1)):=aa (by rw[<- HO.out,scanUp_end _ _ _ _ (.inl fg)]);clear hs h1 h2 HO;go_wp2_with fail;go_quiet (fail)
     have b9:=aa (HS.o.drawn nq);go_wp2;go_meet
     exact⟨i,rfl,b9.o,HQ⟩
  case rest=>
   obtain⟨i1,rfl,hs,rX⟩:=hcut;have eR:=aa hs;have hu:=Fs rX.out (by have:=cT.o;omega);have cZ:Hid (D.size=N/\i1<=J+1/\J<N/\1<=i1/\a<N/\N<=1000000/\a<i1):=aa (by have:=cT.o;omega);clear hs hu iY;go_upto_block 2 with fail
   go_cut [11] from 46 to 62 (fun vi wx=>∃i:Nat,vi=.int .i64 (i:Int)/\bw w0 base g cap D wx/\Hid (i=scanDown (fun x=>!aZ x D[a]!) D i1 J))
   case first=>
    go_wp2_with fail;go_loopw [11] (fun vi wr=>∃i:Nat,vi=.int .i64 (i:Int)/\i1<=i+1/\i<=J/\bw w0 base g cap D wr/\Hid (scanDown (fun x=>!aZ x D[a]!) D i1 i=scanDown (fun x=>!aZ x D[a]!) D i1 J)) (fun vi _=>(intOf vi).toNat)
    case atStart=>exact⟨J,rfl,by have:=cZ.o;omega,by have:=cZ.o;omega,eR.o,rfl⟩
    case round=>
     obtain⟨i,rfl,h1,h2,hs,HO⟩:=hrel;have HS:=aa hs;by_cases fg:i1<=i
     ·have hz:(i1:Int)<=(i:Int):=by omega
      have bi:(i:Int)<(N:Int):=by have:=cZ.o;omega
      have wi:IntKind.i64.wrap ((i:Int)-1)=((i-1:Nat):Int):=by have:=cZ.o;rw[ax]<;>omega
      obtain⟨x,y,b,x0,y0,hl,hb⟩:=hs.two i a (by have:=cZ.o;omega) (by have:=cZ.o;omega);have HQ:Hid (b=true->i=scanDown (fun x=>!aZ x D[a]!) D i1 J):=aa fun e=>by rw[<- HO.out,scanDown_end _ _ _ _ (.inr (by rw[e]at hb;simp[<- hb.out]))]
      have HG:Hid (b=false->scanDown (fun x=>!aZ x D[a]!) D i1 (i-1)=scanDown (fun x=>!aZ x D[a]!) D i1 J/\i1<=(i-1)+1/\(i-1)<=J):=aa fun e=>⟨by rw[<- HO.out,scanDown_go _ _ _ _ fg (by have:=cZ.o;omega) (by rw[e]at hb;simp[<- hb.out])],by have:=cZ.o;omega,ae⟩;have HI:=aa fg;clear hs h1 h2 hb fg HO;go_wp2_with fail;go_quiet ((go_at_call 253;exact Calls.quiet_of_same (hl.out _)))
      have b9:=aa (HS.o.drawn nq);clear HS x0 y0;cases b
      ·have hg:=HG.o rfl;have UO:=HI.o;have M4:=cZ.o;go_wp2;exact⟨⟨(i-1),rfl,hg.2.1,hg.2.2,b9.o,aa hg.1⟩,by simp[intOf];omega⟩
      ·go_wp2;go_meet
       exact⟨i,rfl,b9.o,aa (HQ.o trivial)⟩
     ·have hz:¬(i1:Int)<=(i:Int):=by omega
      have HQ:Hid (i=scanDown (fun x=>!aZ x D[a]!) D i1 J):=aa (by rw[<- HO.out,scanDown_end _ _ _ _ (.inl fg)]);clear hs h1 h2 HO;go_wp2_with fail;go_quiet (fail)
      have b9:=aa (HS.o.drawn nq);go_wp2;go_meet
      exact⟨i,rfl,b9.o,HQ⟩
   case rest=>
    obtain⟨j1,rfl,hs,Kr⟩:=hcut;have fB:=aa hs;have hu:=xo (fun _=>rfl) rX.out Kr.out (by have:=cT.o;omega);have jF:Hid (D.size=N/\i1<=j1+1/\j1<N/\a<=j1/\1<=i1/\a<N/\N<=1000000/\a<i1/\(i1<=j1->i1+1<=j1)):=aa (by have:=cZ.o;omega);have bj:(j1:Int)<(N:Int):=by have:=cZ.o;omega
    have hst:=fun r=>LC (lt:=aZ) (u:=i1) (v:=j1) (r:=r) EU.o.1 (by rw[HX.o.2.2.2.2.2.1];exact rX.out) (by rw[HX.o.2.2.2.2.2.1];exact Kr.out);clear hs hu eR;by_cases xL:i1>j1
    ·have hz:(i1:Int)>(j1:Int):=by omega
     have HP:Hid (r=(j1,true,swp D j1 a)):=aa (by rw[EU.o.2,hst (0,d) (fun hn=>absurd xL hn),if_pos xL]);clear hst;go_upto_region 8 with fail
     go_cut [] from 66 to 79 (fun wx=>bw w0 base g cap (swp D j1 a) wx)
     case first=>
      obtain⟨x,y,x0,y0,dS,⟨z,z0⟩,HD⟩:=fB.o.swap j1 a (by have:=jF.o;omega) (by have:=jF.o;omega);go_big_region
      all_goals
       clear x0 y0 dS z0;go_wp2;go_meet
       exact HD.out
     case rest=>
      have gq:=aa hcut;clear hcut;go_wp2;go_ret2;rw[HP.o];exact⟨rfl,gq.o⟩
    ·have hz:¬(i1:Int)>(j1:Int):=by omega
     have oZ:Hid (D.size=N/\i1+1<=j1/\j1<N/\a<i1/\N<=1000000):=aa (by have:=jF.o;omega);have bi:(i1:Int)<(N:Int):=by have:=jF.o;omega
     have wi:IntKind.i64.wrap ((i1:Int)+1)=((i1+1:Nat):Int):=by have:=oZ.o;rw[ax]<;>omega
     have wj:IntKind.i64.wrap ((j1:Int)-1)=((j1-1:Nat):Int):=by have:=oZ.o;rw[ax]<;>omega
     have HP:Hid (r=((partLoop aZ a (i1+1) (j1-1) (swp D i1 j1)).1,false,swp (partLoop aZ a (i1+1) (j1-1) (swp D i1 j1)).2 (partLoop aZ a (i1+1) (j1-1) (swp D i1 j1)).1 a)):=aa (by rw[EU.o.2,hst _ (fun _=>rfl),if_neg xL]);clear hst;go_upto_region 10 with fail
     go_cut [] from 81 to 94 (fun wx=>bw w0 base g cap (swp D i1 j1) wx)
     case first=>
      obtain⟨x,y,x0,y0,dS,⟨z,z0⟩,HD⟩:=fB.o.swap i1 j1 (by have:=oZ.o;omega) (by have:=oZ.o;omega);go_big_region
      all_goals
       clear x0 y0 dS z0;go_wp2;go_meet
       exact HD.out
     case rest=>
      have b9:=aa hcut;clear hcut fB;generalize hq:partLoop aZ a (i1+1) (j1-1) (swp D i1 j1)=q at *;have HQ:=aa hq;clear hq;go_wp2_with fail;go_loopw [10,11] (fun vi vj wr=>∃(i3 j3:Nat)(dk:Array Nat),vi=.int .i64 (i3:Int)/\vj=.int .i64 (j3:Int)/\a<i3/\i3<=j3+1/\j3<N/\dk.size=N/\bw w0 base g cap dk wr/\Hid (partLoop aZ a i3 j3 dk=q)) (fun vi vj _=>(intOf vj).toNat+1-(intOf vi).toNat)
      case atStart=>exact⟨i1+1,j1-1,_,rfl,rfl,by have:=oZ.o;omega,by have:=oZ.o;omega,by have:=oZ.o;omega,by rw[size_swp];exact oZ.o.1,b9.o,HQ⟩
      case round=>
       obtain⟨i3,j3,dk,rfl,rfl,Xs,Rz,PQ,hsk,hs3,mG⟩:=hrel;have gA:=aa hs3;have mW:Hid (dk.size=N/\i3<=j3+1/\j3<N/\1<=i3/\a<N/\N<=1000000/\a<i3):=aa (by have:=oZ.o;omega);clear hs3 hsk Xs Rz PQ;go_upto_block 6 with fail
       go_cut [10] from 99 to 114 (fun vi wx=>∃i:Nat,vi=.int .i64 (i:Int)/\bw w0 base g cap dk wx/\Hid (i=scanUp (fun x=>aZ x dk[a]!) dk j3 i3))
       case first=>
        go_wp2_with fail;go_loopw [10] (fun vi wr=>∃i:Nat,vi=.int .i64 (i:Int)/\i3<=i/\i<=j3+1/\bw w0 base g cap dk wr/\Hid (scanUp (fun x=>aZ x dk[a]!) dk j3 i=scanUp (fun x=>aZ x dk[a]!) dk j3 i3)) (fun vi _=>j3+1-(intOf vi).toNat)
        case atStart=>exact⟨i3,rfl,by have:=mW.o;omega,by have:=mW.o;omega,gA.o,rfl⟩
        case round=>
         obtain⟨i,rfl,h1,h2,hs,HO⟩:=hrel;have HS:=aa hs;by_cases fg:i<=j3
         ·have hz:(i:Int)<=(j3:Int):=by omega
          have bi:(i:Int)<(N:Int):=by have:=mW.o;omega
          have wi:IntKind.i64.wrap ((i:Int)+1)=((i+1:Nat):Int):=by have:=mW.o;rw[ax]<;>omega
          obtain⟨x,y,b,x0,y0,hl,hb⟩:=hs.two i a (by have:=mW.o;omega) (by have:=mW.o;omega);have HQ:Hid (b=false->i=scanUp (fun x=>aZ x dk[a]!) dk j3 i3):=aa fun e=>by rw[<- HO.out,scanUp_end _ _ _ _ (.inr (by rw[e]at hb;simp[<- hb.out]))]
          have HG:Hid (b=true->scanUp (fun x=>aZ x dk[a]!) dk j3 (i+1)=scanUp (fun x=>aZ x dk[a]!) dk j3 i3/\i3<=(i+1)/\(i+1)<=j3+1):=aa fun e=>⟨by rw[<- HO.out,scanUp_go _ _ _ _ fg (by rw[e]at hb;simp[<- hb.out])],by have:=mW.o;omega,ae⟩;have HI:=aa fg;clear hs h1 h2 hb fg HO;go_wp2_with fail;go_quiet ((go_at_call 253;exact Calls.quiet_of_same (hl.out _)))
          have b9:=aa (HS.o.drawn nq);clear HS x0 y0;cases b
          ·go_wp2;go_meet
           exact⟨i,rfl,b9.o,aa (HQ.o trivial)⟩
          ·have hg:=HG.o rfl;have UO:=HI.o;have M4:=mW.o;go_wp2;exact⟨⟨(i+1),rfl,hg.2.1,hg.2.2,b9.o,aa hg.1⟩,by simp[intOf];omega⟩
         ·have hz:¬(i:Int)<=(j3:Int):=by omega
          have HQ:Hid (i=scanUp (fun x=>aZ x dk[a]!) dk j3 i3):=aa (by rw[<- HO.out,scanUp_end _ _ _ _ (.inl fg)]);clear hs h1 h2 HO;go_wp2_with fail;go_quiet (fail)
          have b9:=aa (HS.o.drawn nq);go_wp2;go_meet
          exact⟨i,rfl,b9.o,HQ⟩
       case rest=>
        obtain⟨i4,rfl,hs,xG⟩:=hcut;have jU:=aa hs;have hu:=Fs xG.out (by have:=mW.o;omega);have rQ:Hid (dk.size=N/\i4<=j3+1/\j3<N/\1<=i4/\a<N/\N<=1000000/\a<i4):=aa (by have:=mW.o;omega);clear hs hu gA;go_upto_block 8 with fail
        go_cut [11] from 115 to 131 (fun vi wx=>∃i:Nat,vi=.int .i64 (i:Int)/\bw w0 base g cap dk wx/\Hid (i=scanDown (fun x=>!aZ x dk[a]!) dk i4 j3))
        case first=>
         go_wp2_with fail;go_loopw [11] (fun vi wr=>∃i:Nat,vi=.int .i64 (i:Int)/\i4<=i+1/\i<=j3/\bw w0 base g cap dk wr/\Hid (scanDown (fun x=>!aZ x dk[a]!) dk i4 i=scanDown (fun x=>!aZ x dk[a]!) dk i4 j3)) (fun vi _=>(intOf vi).toNat)
         case atStart=>exact⟨j3,rfl,by have:=rQ.o;omega,by have:=rQ.o;omega,jU.o,rfl⟩
         case round=>
          obtain⟨i,rfl,h1,h2,hs,HO⟩:=hrel;have HS:=aa hs;by_cases fg:i4<=i
          ·have hz:(i4:Int)<=(i:Int):=by omega
           have bi:(i:Int)<(N:Int):=by have:=rQ.o;omega
           have wi:IntKind.i64.wrap ((i:Int)-1)=((i-1:Nat):Int):=by have:=rQ.o;rw[ax]<;>omega
           obtain⟨x,y,b,x0,y0,hl,hb⟩:=hs.two i a (by have:=rQ.o;omega) (by have:=rQ.o;omega);have HQ:Hid (b=true->i=scanDown (fun x=>!aZ x dk[a]!) dk i4 j3):=aa fun e=>by rw[<- HO.out,scanDown_end _ _ _ _ (.inr (by rw[e]at hb;simp[<- hb.out]))]
           have HG:Hid (b=false->scanDown (fun x=>!aZ x dk[a]!) dk i4 (i-1)=scanDown (fun x=>!aZ x dk[a]!) dk i4 j3/\i4<=(i-1)+1/\(i-1)<=j3):=aa fun e=>⟨by rw[<- HO.out,scanDown_go _ _ _ _ fg (by have:=rQ.o;omega) (by rw[e]at hb;simp[<- hb.out])],by have:=rQ.o;omega,ae⟩;have HI:=aa fg;clear hs h1 h2 hb fg HO;go_wp2_with fail;go_quiet ((go_at_call 253;exact Calls.quiet_of_same (hl.out _)))
           have b9:=aa (HS.o.drawn nq);clear HS x0 y0;cases b
           ·have hg:=HG.o rfl;have UO:=HI.o;have M4:=rQ.o;go_wp2;exact⟨⟨(i-1),rfl,hg.2.1,hg.2.2,b9.o,aa hg.1⟩,by simp[intOf];omega⟩
           ·go_wp2;go_meet
            exact⟨i,rfl,b9.o,aa (HQ.o trivial)⟩
          ·have hz:¬(i4:Int)<=(i:Int):=by omega
           have HQ:Hid (i=scanDown (fun x=>!aZ x dk[a]!) dk i4 j3):=aa (by rw[<- HO.out,scanDown_end _ _ _ _ (.inl fg)]);clear hs h1 h2 HO;go_wp2_with fail;go_quiet (fail)
           have b9:=aa (HS.o.drawn nq);go_wp2;go_meet
           exact⟨i,rfl,b9.o,HQ⟩
        case rest=>
         obtain⟨j4,rfl,hs,RD⟩:=hcut;have jG:=aa hs;have hu:=xo (fun _=>rfl) xG.out RD.out (by have:=mW.o;omega);have zh:Hid (dk.size=N/\j4<N/\a<=j4/\a<i4/\a<N/\N<=1000000/\i4<=j4+1/\(i4<=j4->i4+1<=j4)/\i3<=i4/\j4<=j3):=aa (by have:=rQ.o;omega);have bj:(j4:Int)<(N:Int):=by have:=zh.o;omega
         have hst:=O9 xG.out RD.out;rw[mG.out]at hst;clear hs hu jU;by_cases xL:i4>j4
         ·have hz:(i4:Int)>(j4:Int):=by omega
          rw[if_pos xL]at hst;have HST:=aa hst;clear hst;go_upto_region 21 with fail
          go_cut [] from 153 to 166 (fun wx=>bw w0 base g cap (swp dk j4 a) wx)
          case first=>
           obtain⟨x,y,x0,y0,dS,⟨z,z0⟩,HD⟩:=jG.o.swap j4 a (by have:=zh.o;omega) (by have:=zh.o;omega);go_big_region
           all_goals
            clear x0 y0 dS z0;go_wp2;go_meet
            exact HD.out
          case rest=>
           have qg:=aa hcut;clear hcut;go_wp2;go_ret2;rw[HP.o,HST.o];exact⟨rfl,qg.o⟩
         ·have hz:¬(i4:Int)>(j4:Int):=by omega
          rw[if_neg xL]at hst;have HST:=aa hst;have rR:Hid (dk.size=N/\i4+1<=j4/\j4<N/\a<i4/\N<=1000000/\i3<=i4/\j4<=j3):=aa (by have:=zh.o;omega);have bi:(i4:Int)<(N:Int):=by have:=rR.o;omega
          have wi:IntKind.i64.wrap ((i4:Int)+1)=((i4+1:Nat):Int):=by have:=rR.o;rw[ax]<;>omega
          have wj:IntKind.i64.wrap ((j4:Int)-1)=((j4-1:Nat):Int):=by have:=rR.o;rw[ax]<;>omega
          clear hst;go_upto_region 18 with fail
          go_cut [] from 135 to 148 (fun wx=>bw w0 base g cap (swp dk i4 j4) wx)
          case first=>
           obtain⟨x,y,x0,y0,dS,⟨z,z0⟩,HD⟩:=jG.o.swap i4 j4 (by have:=rR.o;omega) (by have:=rR.o;omega);go_big_region
           all_goals
            clear x0 y0 dS z0;go_wp2;go_meet
            exact HD.out
          case rest=>
           have qg:=aa hcut;clear hcut;go_wp2;have hb:=rR.o;exact⟨⟨i4+1,j4-1,_,rfl,rfl,ae,ae,ae,by rw[size_swp];exact hb.1,qg.o,aa HST.o.symm⟩,by simp[intOf];omega⟩
end
end
section
open Go.RowKit Go.Maps Go.Sort
section
variable {w0 W W':World} {base g cap:Nat} {d:Array Nat}
def Tm(w0:World)(base g cap:Nat)(r:Nat×Array Nat)(e:Ending)(w':World):Prop:=e=.returned (.int .i64 (r.1:Int))/\bw w0 base g cap r.2 w'
theorem Fv(h:bw w0 base g cap d W)(a b pv:Nat)(hap:a<=pv)(Nx:pv<b)(hb:b<=d.size)(hsz:d.size<=1000000) :
 Calls prog 254 #[.slice (some ⟨g,0,none⟩) d.size cap,.int .i64 (a:Int),.int .i64 (b:Int),.int .i64 (pv:Int)] W (Tm w0 base g cap (partitionEqual aZ d a b pv)):=by
 have H:=aa h;obtain⟨N,hN⟩:∃N,N=d.size:=⟨_,rfl⟩;rw[<- hN]at hb hsz ⊢;obtain⟨J,hJ⟩:∃J,J=b-1:=⟨_,rfl⟩;have wJ:IntKind.i64.wrap ((b:Int)-1)=(J:Int):=by rw[ax]<;>omega
 have wI:IntKind.i64.wrap ((a:Int)+1)=((a+1:Nat):Int):=by rw[ax]<;>omega
 have ba:(a:Int)<(N:Int):=by omega
 have bp:(pv:Int)<(N:Int):=by omega
 obtain⟨r,hr⟩:∃r,r=partitionEqual aZ d a b pv:=⟨_,rfl⟩;rw[<- hr];have HX:Hid (a<d.size/\pv<d.size/\J<N/\a<=J/\N<=1000000/\d.size=N/\partEqLoop aZ a (a+1) J (swp d a pv)=r):=aa ⟨ae,ae,ae,ae,ae,ae,by rw[hr,hJ];rfl⟩;clear h hJ hap Nx hb hsz hN hr;go_enter func254,ntmps254;go_upto_region 1 with fail
 go_cut [] from 11 to 24 (fun wx=>bw w0 base g cap (swp d a pv) wx)
 case first=>
  obtain⟨x,y,x0,y0,dS,⟨z,z0⟩,HD⟩:=H.o.swap a pv (by have:=HX.o;omega) (by have:=HX.o;omega);go_big_region
  all_goals
   clear x0 y0 dS z0;go_wp2;go_meet
   exact HD.out
 case rest=>
  have iY:=aa hcut;clear hcut H;go_wp2_with fail;go_loopw [9,10] (fun vi vj wr=>∃(i3 j3:Nat)(dk:Array Nat),vi=.int .i64 (i3:Int)/\vj=.int .i64 (j3:Int)/\a<i3/\i3<=j3+1/\j3<N/\dk.size=N/\bw w0 base g cap dk wr/\Hid (partEqLoop aZ a i3 j3 dk=r)) (fun vi vj _=>(intOf vj).toNat+1-(intOf vi).toNat)
  case atStart=>exact⟨a+1,J,_,rfl,rfl,ae,by have:=HX.o;omega,HX.o.2.2.1,by rw[size_swp];exact HX.o.2.2.2.2.2.1,iY.o,aa HX.o.2.2.2.2.2.2⟩
  case round=>
   obtain⟨i3,j3,dk,rfl,rfl,Xs,Rz,PQ,hsk,hs3,mG⟩:=hrel;have gA:=aa hs3;have mW:Hid (dk.size=N/\i3<=j3+1/\j3<N/\1<=i3/\a<N/\N<=1000000/\a<i3):=aa (by have:=HX.o;omega);clear hs3 hsk Xs Rz PQ iY;go_upto_block 2 with fail
   go_cut [9] from 29 to 45 (fun vi wx=>∃i:Nat,vi=.int .i64 (i:Int)/\bw w0 base g cap dk wx/\Hid (i=scanUp (fun x=>!aZ dk[a]! x) dk j3 i3))
   case first=>
    go_wp2_with fail;go_loopw [9] (fun vi wr=>∃i:Nat,vi=.int .i64 (i:Int)/\i3<=i/\i<=j3+1/\bw w0 base g cap dk wr/\Hid (scanUp (fun x=>!aZ dk[a]! x) dk j3 i=scanUp (fun x=>!aZ dk[a]! x) dk j3 i3)) (fun vi _=>j3+1-(intOf vi).toNat)
    case atStart=>exact⟨i3,rfl,by have:=mW.o;omega,by have:=mW.o;omega,gA.o,rfl⟩
    case round=>
     obtain⟨i,rfl,h1,h2,hs,HO⟩:=hrel;have HS:=aa hs;by_cases fg:i<=j3
     ·have hz:(i:Int)<=(j3:Int):=by omega
      have bi:(i:Int)<(N:Int):=by have:=mW.o;omega
      have wi:IntKind.i64.wrap ((i:Int)+1)=((i+1:Nat):Int):=by have:=mW.o;rw[ax]<;>omega
      obtain⟨x,y,b,x0,y0,hl,hb⟩:=hs.two a i (by have:=mW.o;omega) (by have:=mW.o;omega);have HQ:Hid (b=true->i=scanUp (fun x=>!aZ dk[a]! x) dk j3 i3):=aa fun e=>by rw[<- HO.out,scanUp_end _ _ _ _ (.inr (by rw[e]at hb;simp[<- hb.out]))]
      have HG:Hid (b=false->scanUp (fun x=>!aZ dk[a]! x) dk j3 (i+1)=scanUp (fun x=>!aZ dk[a]! x) dk j3 i3/\i3<=(i+1)/\(i+1)<=j3+1):=aa fun e=>⟨by rw[<- HO.out,scanUp_go _ _ _ _ fg (by rw[e]at hb;simp[<- hb.out])],by have:=mW.o;omega,ae⟩;have HI:=aa fg;clear hs h1 h2 hb fg HO;go_wp2_with fail;go_quiet ((go_at_call 253;exact Calls.quiet_of_same (hl.out _)))
      have b9:=aa (HS.o.drawn nq);clear HS x0 y0;cases b
      ·have hg:=HG.o rfl;have UO:=HI.o;have M4:=mW.o;go_wp2;exact⟨⟨(i+1),rfl,hg.2.1,hg.2.2,b9.o,aa hg.1⟩,by simp[intOf];omega⟩
      ·go_wp2;go_meet
       exact⟨i,rfl,b9.o,aa (HQ.o trivial)⟩
     ·have hz:¬(i:Int)<=(j3:Int):=by omega
      have HQ:Hid (i=scanUp (fun x=>!aZ dk[a]! x) dk j3 i3):=aa (by rw[<- HO.out,scanUp_end _ _ _ _ (.inl fg)]);clear hs h1 h2 HO;go_wp2_with fail;go_quiet (fail)
      have b9:=aa (HS.o.drawn nq);go_wp2;go_meet
      exact⟨i,rfl,b9.o,HQ⟩
   case rest=>
    obtain⟨i4,rfl,hs,xG⟩:=hcut;have jU:=aa hs;have hu:=Fs xG.out (by have:=mW.o;omega);have rQ:Hid (dk.size=N/\i4<=j3+1/\j3<N/\1<=i4/\a<N/\N<=1000000/\a<i4):=aa (by have:=mW.o;omega);clear hs hu gA;go_upto_block 4 with fail
    go_cut [10] from 46 to 61 (fun vi wx=>∃i:Nat,vi=.int .i64 (i:Int)/\bw w0 base g cap dk wx/\Hid (i=scanDown (fun x=>aZ dk[a]! x) dk i4 j3))
    case first=>
     go_wp2_with fail;go_loopw [10] (fun vi wr=>∃i:Nat,vi=.int .i64 (i:Int)/\i4<=i+1/\i<=j3/\bw w0 base g cap dk wr/\Hid (scanDown (fun x=>aZ dk[a]! x) dk i4 i=scanDown (fun x=>aZ dk[a]! x) dk i4 j3)) (fun vi _=>(intOf vi).toNat)
     case atStart=>exact⟨j3,rfl,by have:=rQ.o;omega,by have:=rQ.o;omega,jU.o,rfl⟩
     case round=>
      obtain⟨i,rfl,h1,h2,hs,HO⟩:=hrel;have HS:=aa hs;by_cases fg:i4<=i
      ·have hz:(i4:Int)<=(i:Int):=by omega
       have bi:(i:Int)<(N:Int):=by have:=rQ.o;omega
       have wi:IntKind.i64.wrap ((i:Int)-1)=((i-1:Nat):Int):=by have:=rQ.o;rw[ax]<;>omega
       obtain⟨x,y,b,x0,y0,hl,hb⟩:=hs.two a i (by have:=rQ.o;omega) (by have:=rQ.o;omega);have HQ:Hid (b=false->i=scanDown (fun x=>aZ dk[a]! x) dk i4 j3):=aa fun e=>by rw[<- HO.out,scanDown_end _ _ _ _ (.inr (by rw[e]at hb;simp[<- hb.out]))]
       have HG:Hid (b=true->scanDown (fun x=>aZ dk[a]! x) dk i4 (i-1)=scanDown (fun x=>aZ dk[a]! x) dk i4 j3/\i4<=(i-1)+1/\(i-1)<=j3):=aa fun e=>⟨by rw[<- HO.out,scanDown_go _ _ _ _ fg (by have:=rQ.o;omega) (by rw[e]at hb;simp[<- hb.out])],by have:=rQ.o;omega,ae⟩;have HI:=aa fg;clear hs h1 h2 hb fg HO;go_wp2_with fail;go_quiet ((go_at_call 253;exact Calls.quiet_of_same (hl.out _)))
       have b9:=aa (HS.o.drawn nq);clear HS x0 y0;cases b
       ·go_wp2;go_meet
        exact⟨i,rfl,b9.o,aa (HQ.o trivial)⟩
       ·have hg:=HG.o rfl;have UO:=HI.o;have M4:=rQ.o;go_wp2;exact⟨⟨(i-1),rfl,hg.2.1,hg.2.2,b9.o,aa hg.1⟩,by simp[intOf];omega⟩
      ·have hz:¬(i4:Int)<=(i:Int):=by omega
       have HQ:Hid (i=scanDown (fun x=>aZ dk[a]! x) dk i4 j3):=aa (by rw[<- HO.out,scanDown_end _ _ _ _ (.inl fg)]);clear hs h1 h2 HO;go_wp2_with fail;go_quiet (fail)
       have b9:=aa (HS.o.drawn nq);go_wp2;go_meet
       exact⟨i,rfl,b9.o,HQ⟩
    case rest=>
     obtain⟨j4,rfl,hs,RD⟩:=hcut;have jG:=aa hs;have hu:=xo (fun _=>by simp) xG.out RD.out (by have:=mW.o;omega);have zh:Hid (dk.size=N/\j4<N/\a<=j4/\a<i4/\a<N/\N<=1000000/\i4<=j4+1/\(i4<=j4->i4+1<=j4)/\i3<=i4/\j4<=j3):=aa (by have:=rQ.o;omega);have bj:(j4:Int)<(N:Int):=by have:=zh.o;omega
     have hst:=V9 xG.out RD.out;rw[mG.out]at hst;clear hs hu jU;by_cases xL:i4>j4
     ·have hz:(i4:Int)>(j4:Int):=by omega
      rw[if_pos xL]at hst;have HST:=aa hst;clear hst;go_wp2;go_ret;rw[HST.o];exact⟨rfl,jG.o⟩
     ·have hz:¬(i4:Int)>(j4:Int):=by omega
      rw[if_neg xL]at hst;have HST:=aa hst;have rR:Hid (dk.size=N/\i4+1<=j4/\j4<N/\a<i4/\N<=1000000/\i3<=i4/\j4<=j3):=aa (by have:=zh.o;omega);have bi:(i4:Int)<(N:Int):=by have:=rR.o;omega
      have wi:IntKind.i64.wrap ((i4:Int)+1)=((i4+1:Nat):Int):=by have:=rR.o;rw[ax]<;>omega
      have wj:IntKind.i64.wrap ((j4:Int)-1)=((j4-1:Nat):Int):=by have:=rR.o;rw[ax]<;>omega
      clear hst;go_upto_region 8 with fail
      go_cut [] from 65 to 78 (fun wx=>bw w0 base g cap (swp dk i4 j4) wx)
      case first=>
       obtain⟨x,y,x0,y0,dS,⟨z,z0⟩,HD⟩:=jG.o.swap i4 j4 (by have:=rR.o;omega) (by have:=rR.o;omega);go_big_region
       all_goals
        clear x0 y0 dS z0;go_wp2;go_meet
        exact HD.out
      case rest=>
       have qg:=aa hcut;clear hcut;go_wp2;have hb:=rR.o;exact⟨⟨i4+1,j4-1,_,rfl,rfl,ae,ae,ae,by rw[size_swp];exact hb.1,qg.o,aa HST.o.symm⟩,by simp[intOf];omega⟩
end
end
section
open Go.RowKit Go.Maps Go.Sort
section
variable {w0 W W':World} {base g cap:Nat} {d:Array Nat}
theorem CN(h:bw w0 base g cap d W)(a b:Nat)(hab:a<b)(h50:b-a<50)(hb:b<=d.size)(hsz:d.size<=1000000) :
 Calls prog 252 #[.slice (some ⟨g,0,none⟩) d.size cap,.int .i64 (a:Int),.int .i64 (b:Int)] W fun e w'=>e=.returned (.bool (partialInsertionSort aZ d a b).2)/\(partialInsertionSort aZ d a b).1=d/\bw w0 base g cap d w':=by
 have H:=aa h;obtain⟨N,hN⟩:∃N,N=d.size:=⟨_,rfl⟩;rw[<- hN]at hb hsz ⊢;have HR:Hid (∀u,u=scanSorted aZ d b (a+1)->partialInsertionSort aZ d a b=(d,decide (u=b))):=aa (fun u hu=>by
  unfold partialInsertionSort;rw[partialIns_succ,<- hu];by_cases e:u=b
  ·rw[if_pos e,decide_eq_true e]
  ·rw[if_neg e,if_pos h50,decide_eq_false e])
 obtain⟨L,hL⟩:∃L,L=b-a:=⟨_,rfl⟩;have wL:IntKind.i64.wrap ((b:Int)-(a:Int))=(L:Int):=by rw[ax]<;>omega
 have wI:IntKind.i64.wrap ((a:Int)+1)=((a+1:Nat):Int):=by rw[ax]<;>omega
 have aqE:(L:Int)<50:=by omega
 have HX:Hid (a<b/\b<=N/\N<=1000000/\d.size=N):=aa ae;generalize partialInsertionSort aZ d a b=r at HR ⊢;clear h hN hL hab hb hsz h50;go_enter func252,ntmps252;go_upto_block 0 with fail
 go_wp2_with fail;refine wp_loop_rounds 1 ?_;rw[rounds_succ];go_upto_block 2 with fail
 go_cut [7] from 17 to 34 (fun vi wx=>∃i:Nat,vi=.int .i64 (i:Int)/\i<=b/\bw w0 base g cap d wx/\Hid (i=scanSorted aZ d b (a+1)))
 case first=>
  go_wp2_with fail;go_loopw [7] (fun vi wr=>∃i:Nat,vi=.int .i64 (i:Int)/\a+1<=i/\i<=b/\bw w0 base g cap d wr/\Hid (scanSorted aZ d b i=scanSorted aZ d b (a+1))) (fun vi _=>b-(intOf vi).toNat)
  case atStart=>exact⟨a+1,by go_num,Nat.le_refl _,HX.o.1,H.o,rfl⟩
  case round=>
   obtain⟨i,rfl,h1,h2,hs,HO⟩:=hrel;have HS:=aa hs;by_cases fg:i<b
   ·obtain⟨k,hk⟩:∃k,k=i-1:=⟨_,rfl⟩;have hz:(i:Int)<(b:Int):=by omega
    have bi:(i:Int)<(N:Int):=by have:=HX.o;omega
    have bk:(k:Int)<(N:Int):=by omega
    have wi:IntKind.i64.wrap ((i:Int)+1)=((i+1:Nat):Int):=by have:=HX.o;rw[ax]<;>omega
    have wk:IntKind.i64.wrap ((i:Int)-1)=(k:Int):=by have:=HX.o;rw[ax]<;>omega
    obtain⟨x,y,c,x0,y0,hl,hc⟩:=hs.two i k (by have:=HX.o;omega) (by have:=HX.o;omega);rw[hk]at hc;have HQ:Hid (c=true->i=scanSorted aZ d b (a+1)):=aa fun e=>by rw[<- HO.out,scanSorted_stop _ _ _ _ (.inr (by rw[<- hc.out,e]))]
    have HG:Hid (c=false->scanSorted aZ d b (i+1)=scanSorted aZ d b (a+1)):=aa fun e=>by rw[<- HO.out,scanSorted_go _ _ _ _ fg (by rw[<- hc.out,e])]
    have HI:=aa (show a+1<=i+1/\i+1<=b by omega);clear hs h1 h2 hc fg HO hk;go_wp2_with fail;go_quiet ((go_at_call 253;exact Calls.quiet_of_same (hl.out _)))
    have b9:=aa (HS.o.drawn nq);clear HS x0 y0;cases c
    ·have hg:=HG.o rfl;go_wp2;exact⟨⟨i+1,rfl,HI.o.1,HI.o.2,b9.o,aa hg⟩,by simp[intOf];omega⟩
    ·go_wp2;go_meet
     exact⟨i,rfl,by have:=HI.o;omega,b9.o,aa (HQ.o trivial)⟩
   ·have hz:¬(i:Int)<(b:Int):=by omega
    have HQ:Hid (i=scanSorted aZ d b (a+1)):=aa (by rw[<- HO.out,scanSorted_stop _ _ _ _ (.inl fg)]);have HI:=aa h2;clear hs h1 h2 HO;go_wp2_with fail;go_quiet (fail)
    have b9:=aa (HS.o.drawn nq);go_wp2;go_meet
    exact⟨i,rfl,HI.o,b9.o,HQ⟩
 case rest=>
  obtain⟨u,rfl,Vh,hs,hu⟩:=hcut;have HS:=aa hs;have HE:=aa (HR.o u hu.out);clear hs hu;by_cases e:u=b
  ·have hz:((u:Int) == (b:Int))=true:=by simp[e]
   have hr:=HE.o;rw[decide_eq_true e]at hr;have HF:=aa hr;clear hr e Vh;go_wp2;go_ret;rw[HF.o];exact⟨rfl,rfl,HS.o⟩
  ·have hz:((u:Int) == (b:Int))=false:=by simp;omega
   have hr:=HE.o;rw[decide_eq_false e]at hr;have HF:=aa hr;clear hr e Vh;go_wp2;go_ret;rw[HF.o];exact⟨rfl,rfl,HS.o⟩
end
end
section
open Go Go.Sort
structure Tn{α:Type}[Inhabited α](lt:α->α->Bool)(a b lim:Nat)(wb wp:Bool)(dk:Array α)(R:Sort.Rd α):Prop where
 brk:wb=false->R.d1=breakPatterns dk a b/\R.lim=lim-1
 nob:wb=true->R.d1=dk/\R.lim=lim
 c:R.c=choosePivot lt R.d1 a b
 dec:R.c.2=.decreasing->R.d2=reverseRange R.d1 a b/\R.pivot=(b-1)-(R.c.1-a)/\R.hint=.increasing
 RI:R.c.2≠.decreasing->R.d2=R.d1/\R.pivot=R.c.1/\R.hint=R.c.2
 yes:(wb && wp && decide (R.hint=.increasing))=true->R.pi=partialInsertionSort lt R.d2 a b
 no:(wb && wp && decide (R.hint=.increasing))=false->R.pi=(R.d2,false)
 s1:R.d1.size=dk.size
 c1:a<=R.c.1
 c2:R.c.1<b
 s2:R.d2.size=dk.size
 p1:a<=R.pivot
 p2:R.pivot<b
 s3:R.pi.1.size=dk.size
 B3:Sort.Below lt a b R.pi.1
 jT:R.lim<=lim
 done:R.pi.2=true->pdq lt dk a b lim wb wp=R.pi.1
 eq:R.pi.2=false->(decide (a>0) && !lt R.pi.1[a-1]! R.pi.1[R.pivot]!)=true->∀mid d4,partitionEqual lt R.pi.1 a b R.pivot=(mid,d4)->a<mid->mid<=b->pdq lt dk a b lim wb wp=pdq lt d4 mid b R.lim wb wp
 left:R.pi.2=false->(decide (a>0) && !lt R.pi.1[a-1]! R.pi.1[R.pivot]!)=false->∀mid ap d4,partition lt R.pi.1 a b R.pivot=(mid,ap,d4)->a<=mid->mid<b->mid-a<b-mid->pdq lt dk a b lim wb wp=pdq lt (pdq lt d4 a mid R.lim true true) (mid+1) b R.lim (decide (mid-a >= (b-a)/8)) ap
 right:R.pi.2=false->(decide (a>0) && !lt R.pi.1[a-1]! R.pi.1[R.pivot]!)=false->∀mid ap d4,partition lt R.pi.1 a b R.pivot=(mid,ap,d4)->a<=mid->mid<b->¬mid-a<b-mid->pdq lt dk a b lim wb wp=pdq lt (pdq lt d4 (mid+1) b R.lim true true) a mid R.lim (decide (b-mid >= (b-a)/8)) ap
theorem Pa{α:Type}[Inhabited α]{lt:α->α->Bool}(h:SWO lt){a b lim:Nat}(wb wp:Bool){dk:Array α}(EB:¬b-a<=12)(h0:¬lim=0)(hb:b<=dk.size)(hB:Sort.Below lt a b dk):Tn lt a b lim wb wp dk (rd lt dk a b lim wb wp):=by
 obtain⟨s1,B1,hc1,s2,B2,Xu,s3,B3⟩:=rd_facts (limit:=lim) (wb:=wb) (wp:=wp) h partialInsertionSort_holds reverseRange_holds (show a<b by omega) hb hB;exact {
  brk:=by rintro rfl;exact rd_false
  nob:=by rintro rfl;exact rd_true
  c:=rd_c
  dec:=rd_dec
  RI:=rd_not
  yes:=rd_pi_yes
  no:=rd_pi_no
  s1:=s1
  c1:=hc1.1
  c2:=hc1.2
  s2:=s2
  p1:=Xu.1
  p2:=Xu.2
  s3:=s3
  B3:=B3
  jT:=rd_lim_le
  done:=pdq_done EB h0
  eq:=fun h1 h2 mid d4 hx r1 r2=>by rw[pdq_eq EB h0 h1 h2 (by rw[hx];exact⟨r1,r2⟩),hx]
  left:=fun h1 h2 mid ap d4 hx r1 r2 h4=>by rw[pdq_left EB h0 h1 h2 (by rw[hx];exact⟨r1,r2⟩) (by rw[hx];exact h4),hx]
  right:=fun h1 h2 mid ap d4 hx r1 r2 h4=>by rw[pdq_right EB h0 h1 h2 (by rw[hx];exact⟨r1,r2⟩) (by rw[hx];exact h4),hx] }
end
section
open Go.RowKit Go.Maps Go.Sort
section
variable {w0 W W':World} {base g cap:Nat} {d:Array Nat}
theorem Pb(h:bw w0 base g cap d W)(a b:Nat)(hab:a<=b)(hb:b<=d.size)(hsz:d.size<=1000000) :
 Calls prog 247 #[.slice (some ⟨g,0,none⟩) d.size cap,.int .i64 (a:Int),.int .i64 (b:Int)] W (pO w0 base g cap (insertionSort aZ d a b)):=by
 have H:=aa h;obtain⟨N,hN⟩:∃N,N=d.size:=⟨_,rfl⟩;rw[<- hN]at hb hsz ⊢;have HX:Hid (a<=b/\b<=N/\N<=1000000/\d.size=N):=aa ae;have wa:IntKind.i64.wrap ((a:Int)+1)=((a+1:Nat):Int):=by rw[ax]<;>omega
 clear h hab hb hsz hN;go_enter func247,ntmps247;go_wp2;go_loopw [6] (fun vi wr=>∃(i:Nat)(dk:Array Nat),vi=.int .i64 (i:Int)/\a<i/\i<=b+1/\dk.size=N/\bw w0 base g cap dk wr/\Hid (insOuter aZ a b i dk=insertionSort aZ d a b)) (fun vi _=>b+1-(intOf vi).toNat)
 case atStart=>exact⟨a+1,d,by go_num,ae,by have:=HX.o;omega,HX.o.2.2.2,H.o,rfl⟩
 case round=>
  obtain⟨i,dk,rfl,hai,hib,hsk,hs,HO⟩:=hrel;have HS:=aa hs;by_cases hlt:i<b
  ·have EF:(i:Int)<(b:Int):=by omega
   have HI:=aa (show a<i/\i<b/\dk.size=N from⟨hai,hlt,hsk⟩);have qd:Hid (∀dj,insInner aZ a i dk=dj->insOuter aZ a b (i+1) dj=insertionSort aZ d a b):=aa fun dj h=>by rw[<- HO.out,insOuter_go _ _ _ _ _ hlt,h]
   have wi:IntKind.i64.wrap ((i:Int)+1)=((i+1:Nat):Int):=by have:=HX.o;rw[ax]<;>omega
   clear hs hai hib hsk hlt HO;go_wp2;go_loopw [7] (fun vj wr2=>∃(j:Nat)(dj:Array Nat),vj=.int .i64 (j:Int)/\a<=j/\j<=i/\dj.size=N/\bw w0 base g cap dj wr2/\Hid (insInner aZ a i dk=insInner aZ a j dj)) (fun vj _=>(intOf vj).toNat)
   case atStart=>exact⟨i,dk,rfl,by have:=HI.o;omega,Nat.le_refl _,HI.o.2.2,HS.o,rfl⟩
   case round=>
    obtain⟨j,dj,rfl,haj,vB,hsj,hs2,HJ⟩:=hrel;have eR:=aa hs2;by_cases hja:a<j
    ·obtain⟨k,rfl⟩:∃k,j=k+1:=⟨j-1,ae⟩;have JF:(a:Int)<(k:Int)+1:=by omega
     have hx:=HX.o;have hi:=HI.o;have wk:IntKind.i64.wrap (k:Int)=(k:Int):=ax ae ae;have b1:(k:Int)+1<(N:Int):=by omega
     have b2:(k:Int)<(N:Int):=by omega
     have p0:(0:Int)<=(k:Int)+1:=by omega
     have e0:((k:Int)+1).toNat=k+1:=by omega
     obtain⟨x,y,c,x0,y0,hl,hc⟩:=hs2.two (k+1) k ae ae;have HB:=aa (show k+1<dj.size/\k<dj.size/\a<=k/\k<=i/\dj.size=N by omega);have HST:Hid (insInner aZ a i dk=cond c (insInner aZ a k (swp dj (k+1) k)) dj):=aa (by
      cases c
      ·rw[HJ.out,insInner_stop _ _ _ _ (.inr (by rw[Nat.add_sub_cancel,<- hc.out]))];rfl
      ·rw[HJ.out,insInner_go (lt:=aZ) a (k+1) dj hja (by rw[Nat.add_sub_cancel,<- hc.out]),Nat.add_sub_cancel];rfl)
     clear hs2 haj vB hsj hja hx hi hc HJ;go_wp2_with fail;go_quiet ((go_at_call 253;exact Calls.quiet_of_same (hl.out _)))
     have fB:=aa (eR.o.drawn nq);clear x0 y0 eR;generalize wr.drewN nq=W3 at *;cases c
     ·have HF:=aa (qd.o _ HST.o);go_wp2;exact⟨⟨i+1,dj,rfl,by have:=HI.o;omega,by have:=HI.o;omega,HB.o.2.2.2.2,fB.o,HF⟩,by have:=HI.o;simp[intOf];omega⟩
     ·obtain⟨u,v,u0,v0,dS,⟨z,z0⟩,HD⟩:=fB.o.swap (k+1) k HB.o.1 HB.o.2.1;have HF:=aa HST.o;clear HST;go_wp2_with fail;go_big_region
      all_goals
       clear u0 v0 dS z0;go_wp2;exact⟨⟨k,_,rfl,HB.o.2.2.1,HB.o.2.2.2.1,by rw[size_swp];exact HB.o.2.2.2.2,HD.out,aa HF.o⟩,by simp[intOf]⟩
    ·have JF:¬(a:Int)<(j:Int):=by omega
     have HF:=aa (qd.o dj (by rw[HJ.out,insInner_stop _ _ _ _ (.inl ae)]));have HB:=aa hsj;clear hs2 haj vB hsj HJ;go_wp2_with fail;go_quiet (fail)
     have fB:=aa (eR.o.drawn nq);go_wp2;exact⟨⟨i+1,dj,rfl,by have:=HI.o;omega,by have:=HI.o;omega,HB.o,fB.o,HF⟩,by have:=HI.o;simp[intOf];omega⟩
  ·have EF:¬(i:Int)<(b:Int):=by omega
   have HF:=aa (show bw w0 base g cap (insertionSort aZ d a b) wr by rw[<- HO.out,insOuter_stop _ _ _ _ _ hlt];exact hs);clear hs HO;go_wp2;go_returns;exact⟨rfl,HF.o⟩
end
end
end Go.Proofs.YthkkgdpomhhjjaaGreatDoor
