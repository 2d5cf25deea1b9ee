/-
  Joined.
-/
import Derived.Test.YthkkgdpomhhjjaaGreatDoorX15
set_option maxRecDepth 100000
set_option maxHeartbeats 16000000
namespace Go.Proofs.YthkkgdpomhhjjaaGreatDoor
open Go.Proofs.Tryz
section
open Go.RowKit Go.Maps
def Fq(w:World)(es:List aH)(vs:List ck)(e:Ending)(w':World):Prop:=∃gv hv,e=.returned (.agg #[gv,hv])/\kF w' gv es/\eB w' hv vs/\Below w.heap.size w w'/\(∀b,gv.ownBlock=some b->w.heap.size<=b)/\∀b,hv.ownBlock=some b->w.heap.size<=b
theorem LC(ev vv:Value)(es:List aH)(vs:List ck)(w:World)(he:kF w ev es)(hv:PJ w vv vs)(h1:es.length<=1000)(h2:vs.length<=1000):Calls prog 13 #[ev,vv] w (Fq w (aJ false es) vs):=by
 have kE:Hid (Below w.heap.size w (w.alloc (.cells #[.slice none 0 0,.slice none 0 0] 34))):=aa ai;have Ck:Hid ((w.alloc (.cells #[.slice none 0 0,.slice none 0 0] 34)).heap[w.heap.size]? = some (.cells #[.slice none 0 0,.slice none 0 0] 34)):=aa (heap_alloc_new w _);have Po:=aa (K6 ev es false _ (he.below kE.o) ae);have HV:=aa hv;have O8:w.heap.size<(w.alloc (.cells #[.slice none 0 0,.slice none 0 0] 34)).heap.size:=by simp
 clear he hv;go_enter func13,ntmps13;go_wp2_with fail;generalize w.alloc (.cells #[.slice none 0 0,.slice none 0 0] 34)=W0 at *;refine Po.o.mono ?_;rintro e w1⟨gv,rfl,hg1,hb1⟩;obtain⟨ga,gn,gc,rfl⟩:∃a n c,gv=.slice a n c:=by
  obtain⟨a,c,h,-⟩:=pG hg1;grind
 have HGB:Hid (∀b,(Value.slice ga gn gc).ownBlock=some b->w.heap.size<b):=aa (fun b hb=>by have:=aG hg1 b hb;omega);have Je:=aa (pG hg1);have cQ:=aa hb1;have UK:=aa ((HV.o.below kE.o).below hb1);clear hg1 hb1 Po;go_wp2_with
  (refine kS (w:=w1) (by rfl) _ _ rfl rfl _ vs rfl UK.o ae (fun v2 w2 HVs HVo cX=>?_)
   obtain⟨va,vn,vc,aky⟩:∃a n c,v2=.slice a n c:=by
    obtain⟨a,c,h,-⟩:=HVs.out;grind
   subst aky;have my:Hid (w2.heap[w.heap.size]? = some (.cells #[.slice none 0 0,.slice none 0 0] 34)):=aa (by
    rw[cX.out.block _ (Nat.lt_of_lt_of_le O8 cQ.o.size),cQ.o.block _ O8];assumption)
   have k0:w2.cell? ⟨w.heap.size,0,none⟩=some (.slice none 0 0):=by rw[aq my.o];rfl
   have k1:w2.cell? ⟨w.heap.size,1,none⟩=some (.slice none 0 0):=by rw[aq my.o];rfl
   have z0:=aO my.o 0;have z1:=aO my.o 1;have HY:Hid (((w2.setCell ⟨w.heap.size,0,none⟩ (.slice ga gn gc)).setCell ⟨w.heap.size,1,none⟩ (.slice va vn vc)).heap[w.heap.size]? = some (.cells #[.slice ga gn gc,.slice va vn vc] 34)):=aa (by
    rw[aT (aT my.o 0 (.slice ga gn gc)) 1 (.slice va vn vc)];rfl)
   have Rf:Hid (Below w.heap.size w ((w2.setCell ⟨w.heap.size,0,none⟩ (.slice ga gn gc)).setCell ⟨w.heap.size,1,none⟩ (.slice va vn vc))):=aa (((kE.o.trans ((cQ.o.trans (cX.out.mono cQ.o.size)).mono kE.o.size)).setCell (Nat.le_refl _) _).setCell (Nat.le_refl _) _);have Hp:Hid (kF ((w2.setCell ⟨w.heap.size,0,none⟩ (.slice ga gn gc)).setCell ⟨w.heap.size,1,none⟩ (.slice va vn vc)) (.slice ga gn gc) (aJ false es)):=aa ((Je.o.below cX.out).other (fun b hb=>by
    grind [Hid.out,Below.heap_setCell]))
   have HVE:Hid (eB ((w2.setCell ⟨w.heap.size,0,none⟩ (.slice ga gn gc)).setCell ⟨w.heap.size,1,none⟩ (.slice va vn vc)) (.slice va vn vc) vs):=aa (HVs.out.MR (fun b hb=>by
    have h1:=HVo.out b hb;have h2:=cQ.o.size;grind [Below.heap_setCell]))
   clear Ck)
 generalize ((w2.setCell ⟨w.heap.size,0,none⟩ (.slice ga gn gc)).setCell ⟨w.heap.size,1,none⟩ (.slice va vn vc))=w3 at *;have q0:w3.cell? ⟨w.heap.size,0,none⟩=some (.slice ga gn gc):=by rw[aq HY.o];rfl
 have q1:w3.cell? ⟨w.heap.size,1,none⟩=some (.slice va vn vc):=by rw[aq HY.o];rfl
 exact bodyPost_ret (v:=.agg #[.slice ga gn gc,.slice va vn vc]) (by simp[results,Tryz.results13,go_sem,q0,q1]) rfl ⟨_,_,rfl,Hp.o,HVE.o,Rf.o,fun b hb=>Nat.le_of_lt (HGB.o b hb),fun b hb=>Nat.le_trans (Nat.le_trans (Nat.le_of_lt O8) cQ.o.size) (HVo.out b hb)⟩
theorem uJ{w:World}{ops:Array Oper}{rest:List Oper}{op:Oper}{a:Act}{Q:Exit->Act->World->Prop}(hgd:op.guard=none)(s x:Operand)(ho:op.op=.call { callee:=.builtin .append,args:=#[s,x],argTypes:=#[23,23] })(base:Nat)(v:Value)(l:List ck)(hs:a.eval s=v)(hown:dL w base v l)(y:ck)(c:Nat)(hx:a.eval x=.slice (some ⟨w.heap.size,0,none⟩) 1 c)(hl:l.length<=100000)(hbase:base<=w.heap.size)(k:∀v' w',dL w' base v' (l++[y])->lj v (w.alloc (.cells #[.int .u32 (y.r.toNat:Int),.int .u32 (y.l.toNat:Int),.int .u32 (y.g.toNat:Int)] 55)) w' v'->wpList prog ops Q rest (a.put op.dst v') w') :
 wpList prog ops Q (op::rest) a (w.alloc (.cells #[.int .u32 (y.r.toNat:Int),.int .u32 (y.l.toNat:Int),.int .u32 (y.g.toNat:Int)] 55)):=by
 refine dN hgd s x 23 ho base 55 _ 3 12 Tryz.underlying23 vZ rfl af v l.length (cJ l) hs (World.ownsRow.alloc hown _) ⟨w.heap.size,0,none⟩ 1 c [.int .u32 (y.r.toNat:Int),.int .u32 (y.l.toNat:Int),.int .u32 (y.g.toNat:Int)] hx rfl (fun j u hj=>?_) (by simp[Value.oneCell']) (by grind [maxLen]) ae (by simp;omega) (fun v' w' h1 h2=>k v' w' ?_ h2)
 ·rw[bF,Nat.zero_add];simp_all
 ·unfold dL;rw[sy,List.length_append];exact h1
def jA:ck:=⟨4294967295,0,0⟩
theorem cV(b:Bool):aJ b []=[]:=((bT b []).unique (dI.nil b))
theorem Fs(n:Nat)(hn:n<=100)(w:World):Calls prog 61 #[.int .i64 (n:Int),.slice none 0 0] w (Fq w [] (List.replicate n jA)):=by
 have HN:=aa hn;have kE:Hid (Below w.heap.size w (w.alloc (.cells #[.slice none 0 0,.slice none 0 0] 34))):=aa ai;have Ck:Hid ((w.alloc (.cells #[.slice none 0 0,.slice none 0 0] 34)).heap[w.heap.size]? = some (.cells #[.slice none 0 0,.slice none 0 0] 34)):=aa (heap_alloc_new _ _);have O8:w.heap.size<(w.alloc (.cells #[.slice none 0 0,.slice none 0 0] 34)).heap.size:=by simp
 have Mg:=aa O8;clear hn O8;go_enter func61,ntmps61;go_wp2_with fail;generalize w.alloc (.cells #[.slice none 0 0,.slice none 0 0] 34)=W0 at *;go_loopw [5,6] (fun vl vi wr=>∃(k:Nat),vi=.int .i64 (k:Int)/\k<=n/\Hid (Below W0.heap.size W0 wr/\dL wr W0.heap.size vl (List.replicate k jA))) (fun _ vi _=>n-(intOf vi).toNat)
 case atStart=>exact⟨0,rfl,Nat.zero_le _,aa ⟨Below.refl _ _,World.ownsRow_nil _ _ _ _⟩⟩
 case round=>
  generalize u5=lv at *;obtain⟨k,rfl,hk,HS⟩:=hrel;generalize wr=W1 at *;obtain⟨la,lc,Pu⟩:=az HS.out.2;rw[List.length_replicate]at Pu;subst Pu;by_cases hlt:k<n
  ·have FE:(k:Int)<(n:Int):=by omega
   have wk:IntKind.i64.wrap ((k:Int)+1)=((k+1:Nat):Int):=by grind [Hid.out,ax]
   have x9:k<=100000:=by grind [Hid.out]
   go_wp2_with (at_builtin;go_loud (refine uJ rfl _ _ rfl W0.heap.size _ (List.replicate k jA) rfl HS.out.2 jA 1 (by rfl) (by grind) HS.out.1.size ?_);intro v2 w2 h2 ha;have eK:Hid (Below W0.heap.size W0 w2/\dL w2 W0.heap.size v2 (List.replicate (k+1) jA)):=aa ⟨(gJ (HS.out.1.alloc HS.out.1.size _) (fun b hb=>aG HS.out.2 b hb) ha).1,by grind [List.replicate_succ']⟩;clear h2 ha);grind [intOf]
  ·have FE:¬(k:Int)<(n:Int):=by omega
   obtain rfl:k=n:=by omega
   have Ug:=aa (LC (.slice none 0 0) (.slice la k lc) [] (List.replicate k jA) W1 (SD W1) (j5 HS.out.2).1.rd ah (by grind [Hid.out]));rw[cV]at Ug;go_wp2_with fail;refine Ug.o.mono ?_;rintro e w2⟨gv,hv,rfl,hg2,hv2,hb2,akz,akA⟩;obtain⟨ga,gc,rfl,-⟩:=id hg2;obtain⟨va,vc,rfl,-⟩:=id hv2;have hz1:=HS.out.1.size;have hz2:=Mg.o;have my:Hid (w2.heap[w.heap.size]? = some (.cells #[.slice none 0 0,.slice none 0 0] 34)):=aa ((hb2.block _ ae).trans ((HS.out.1.block _ hz2).trans Ck.o));have k0:w2.cell? ⟨w.heap.size,0,none⟩=some (.slice none 0 0):=by rw[aq my.o];rfl
   have k1:w2.cell? ⟨w.heap.size,1,none⟩=some (.slice none 0 0):=by rw[aq my.o];rfl
   have f0:=aO my.o 0;have f1:=aO my.o 1;have Rf:Hid (Below w.heap.size w ((w2.setCell ⟨w.heap.size,0,none⟩ (.slice ga ([]:List aH).length gc)).setCell ⟨w.heap.size,1,none⟩ (.slice va (List.replicate k jA).length vc))):=aa (((kE.o.trans ((HS.out.1.trans (hb2.mono hz1)).mono ae)).setCell (Nat.le_refl _) _).setCell (Nat.le_refl _) _);have HY:Hid (((w2.setCell ⟨w.heap.size,0,none⟩ (.slice ga ([]:List aH).length gc)).setCell ⟨w.heap.size,1,none⟩ (.slice va (List.replicate k jA).length vc)).heap[w.heap.size]? = some (.cells #[.slice ga ([]:List aH).length gc,.slice va (List.replicate k jA).length vc] 34)):=aa (by
    rw[aT (aT my.o 0 (.slice ga ([]:List aH).length gc)) 1 (.slice va (List.replicate k jA).length vc)];rfl)
   have Hp:Hid (kF ((w2.setCell ⟨w.heap.size,0,none⟩ (.slice ga ([]:List aH).length gc)).setCell ⟨w.heap.size,1,none⟩ (.slice va (List.replicate k jA).length vc)) (.slice ga ([]:List aH).length gc) []):=aa ⟨ga,gc,rfl,.inl rfl⟩;have HVE:Hid (eB ((w2.setCell ⟨w.heap.size,0,none⟩ (.slice ga ([]:List aH).length gc)).setCell ⟨w.heap.size,1,none⟩ (.slice va (List.replicate k jA).length vc)) (.slice va (List.replicate k jA).length vc) (List.replicate k jA)):=aa (hv2.MR (fun b hb=>by
    grind [Below.heap_setCell]))
   have HGO:Hid ((∀b,(Value.slice ga ([]:List aH).length gc).ownBlock=some b->w.heap.size<=b)/\∀b,(Value.slice va (List.replicate k jA).length vc).ownBlock=some b->w.heap.size<=b):=aa ⟨fun b hb=>by grind,fun b hb=>by grind⟩;rw[List.length_replicate]at Rf HY Hp HVE HGO ⊢;rw[List.length_nil]at Rf HY Hp HVE HGO ⊢;clear hg2 hv2 hb2 akz akA Ug my hz1 hz2;go_wp2_with fail;generalize (w2.setCell ⟨w.heap.size,0,none⟩ (.slice ga 0 gc)).setCell ⟨w.heap.size,1,none⟩ (.slice va k vc)=w3 at *;have q0:w3.cell? ⟨w.heap.size,0,none⟩=some (.slice ga 0 gc):=by rw[aq HY.o];rfl
   have q1:w3.cell? ⟨w.heap.size,1,none⟩=some (.slice va k vc):=by rw[aq HY.o];rfl
   exact bodyPost_ret (v:=.agg #[.slice ga 0 gc,.slice va k vc]) (by simp[results,Tryz.results61,go_sem,q0,q1]) rfl ⟨_,_,rfl,Hp.o,HVE.o,Rf.o,HGO.o.1,HGO.o.2⟩
structure Cw(L:aC)(l:List aH)(n:Nat):Prop where
 e:aA L (aI 101 0)=some (aw (aJ false l) true)
 r:aA L (aI 114 0)=some (aw (aJ true l) true)
 v:aA L (aI 118 0)=some (bY (List.replicate n jA) true)
 s8:∀y,y≠aI 101 0->y≠aI 114 0->y≠aI 118 0->aA L y=none
 need:need L<=12*l.length+4*n
theorem Wv{L:aC}{l:List aH}{n:Nat}(h:Cl l L):Cw (bZ (fP L 0 l (List.replicate n jA)) yG) l n:=by
 obtain⟨f1,f2,f3⟩:=xQ L 0 l (List.replicate n jA);refine⟨by rw[cO,if_neg (pF _ _),f1],by rw[cO,if_neg (pF _ _),f2],by rw[cO,if_neg (pF _ _),f3],fun y h1 h2 h3=>?_,?_⟩
 ·rw[cO];by_cases e:y=yG
  ·rw[if_pos e]
  ·rw[if_neg e,rE h1 h2 h3,h.2.1 y e]
 ·have g1:=Fk (fP L 0 l (List.replicate n jA)) yG;have g2:=Av L 0 l (List.replicate n jA);have g3:=h.2.2;rw[List.length_replicate]at g2;omega
def Fu(w:World)(n:Nat)(l:List aH)(N:Nat)(e:Ending)(w':World):Prop:=
 ∃db pb o d L,e=.returned (.tuple #[ptrTo db,ptrTo pb])/\Held w w' pb db n o d L/\Cw L l N
theorem sB(n:Nat)(es:List aH):(gY n es).length<=80:=by
 unfold gY;split
 ·simp
 ·rw[List.length_map,List.length_take];omega
theorem xY(HW:aP){m:Nat}(yD:dX m){w:World}{ev:Value}{es:List aH}(N F:Nat)(hN:N<256)(hF:F<256)(he:kF w ev es)(hm:(gY (N%25) es).length<=m) :
 Calls prog 30 #[.agg #[.int .u8 (N:Int),ev,.int .u8 (F:Int)]] w (Fu w (8+F%40) (gY (N%25) es) (N%25)):=by
 have VW:=aa (fun W(hW:Below w.heap.size w W)=>DC N F hN (he.below hW));have HLN:=aa (sB (N%25) es);have NU:=aa hm;obtain⟨ea,ec,rfl,-⟩:=id he;generalize hV:N%25=V at *;have HV:Hid (V<25):=aa ae;obtain⟨z,hz⟩:∃z,z=F%40:=⟨_,rfl⟩;have hF1:wrap64 (F:Int)=(F:Int):=by unfold wrap64;omega
 have hF2:(F:Int)%40=(z:Int):=by omega
 have hF3:IntKind.i64.wrap (8+(z:Int))=((8+z:Nat):Int):=by rw[ax]<;>omega
 have HZ:Hid (z<40):=aa ae;rw[<- hz];generalize gY V es=l at *;have kE:Hid (Below w.heap.size w (w.alloc (.cells #[.int .u8 (N:Int),.slice ea es.length ec,.int .u8 (F:Int)] 69))):=aa ai;have Ck:Hid ((w.alloc (.cells #[.int .u8 (N:Int),.slice ea es.length ec,.int .u8 (F:Int)] 69)).heap[w.heap.size]? = some (.cells #[.int .u8 (N:Int),.slice ea es.length ec,.int .u8 (F:Int)] 69)):=aa (heap_alloc_new _ _);obtain⟨PST,mg⟩:∃P,P=Fu w (8+z) l V:=⟨_,rfl⟩;have wS:=aa mg;rw[<- mg];clear he hm hV hz hN hF mg;generalize es.length=EL at *;go_enter func30,ntmps30;go_wp2_with fail;generalize X0:w.heap.size=wb at *;generalize w.alloc (.cells #[.int .u8 (N:Int),.slice ea EL ec,.int .u8 (F:Int)] 69)=W0 at *;have X1:Hid (w.heap.size=wb/\wb<W0.heap.size):=aa ⟨X0,(Array.getElem?_eq_some_iff.1 Ck.o).1⟩;clear X0;have hsm:=aa (VW.o W0 kE.o);unfold wW at hsm;refine hsm.o.mono ?_;rintro e w1⟨v1,rfl,hb1,kY⟩;obtain⟨a1,c1,rfl⟩:=az kY;have Mb:w1.heap[wb]? = some (.cells #[.int .u8 (N:Int),.slice ea EL ec,.int .u8 (F:Int)] 69):=(hb1.block _ X1.o.2).trans Ck.o;have b2:w1.cell? ⟨wb,2,none⟩=some (.int .u8 (F:Int)):=by rw[aq Mb];rfl
 have cQ:Hid (Below wb w w1):=aa (kE.o.trans (hb1.mono (Nat.le_of_lt X1.o.2)));have Ch:=aa (VJ HW (8+z) ae (by have:=HZ.o;omega) _ l w1 (pG kY) (by have:=HLN.o;omega));unfold My ptrTo at Ch;clear hb1 kY Mb hsm VW;go_wp2_with fail;refine Ch.o.mono ?_;rintro e w2⟨db,pb,o2,d2,L2,rfl,hh2,hr2⟩;have XE:=aa hh2;have Cc:=aa hr2;have hbg:=aa (Fs V (by have:=HV.o;omega) w2);clear hh2 hr2 Ch b2 hF1 hF2 hF3;unfold ptrTo Fq at *;go_wp2_with fail;refine hbg.o.mono ?_;rintro e w3⟨gv,hv,rfl,-,hv3,hb3,-,iL⟩;have FH:=aa (XE.o.later hb3);have vy:=aa (Oj HW yD FH.o ae Cc.o (gen:=0) (.inl af) NU.o (by have:=HLN.o;omega) hv3 (fun b hb=>XE.o.aY.fresh (iL b hb)) (by rw[List.length_replicate];have:=HV.o;omega));obtain⟨va,vc,rfl,-⟩:=hv3;rw[List.length_replicate]at vy ⊢;have XP:∀w:World,(Instr.field 34 (.agg #[gv,.slice va V vc]) 1).run prog w=.ok (.slice va V vc) w:=fun _=>by kernel_rfl
 unfold H9 yG ptrTo at vy;clear hb3 iL hbg;go_wp2_with fail;refine vy.o.mono ?_;rintro e w4⟨d4,o4,rfl,Pm⟩;have HH4:=aa Pm;have hdr:Hid (Calls prog 62 #[ptrTo pb,.string yG] w4 fun e w'=>∃gT gR,e=.returned (.int .i64 0)/\Held w1 w' pb db (8+z) gR gT (bZ (fP L2 0 l (List.replicate V jA)) yG)):=aa (by
  obtain⟨fl,LZ⟩:=Cc.o.1;refine(tV Pm.aY (name:=yG) (by rw[rE (pF _ _).symm (pF _ _).symm (pF _ _).symm];exact LZ)).mono ?_;rintro e w'⟨c,gT,gR,xD,rfl,hp,ht,hg,x7,hdr⟩;have cR:au (fun _=>False) (8+z) pb db w4 o4 d4 w' gR gT xD:=ji hp ht hg x7;have hh:=Pm.moved cR (fun _ e=>e.elim);rcases hdr with⟨rfl,rfl⟩|⟨-,h2,-⟩
  ·exact⟨gT,gR,rfl,hh⟩
  ·rw[hh.dead]at h2;cases h2)
 unfold yG ptrTo at hdr;clear Pm vy;go_wp2_with fail;refine hdr.o.mono ?_;rintro e w5⟨d5,o5,rfl,TS⟩;have HQF:Hid (PST (.returned (.tuple #[ptrTo db,ptrTo pb])) w5):=aa (by
  rw[wS.o];have h1:=Wv (n:=V) Cc.o;unfold yG at h1;exact⟨db,pb,o5,d5,_,rfl,TS.SF (by have:=cQ.o;rwa [X1.o.1]),h1⟩)
 clear TS hdr;unfold ptrTo at HQF;go_wp2;exact HQF.o
end
section
open Go.RowKit Go.Maps
def FJ:List aH:=[⟨0,1,1,4294967295⟩,⟨1,2,1,4294967295⟩]
def Ww:List ck:=[jA,jA,jA]
def yL:List ck:=[⟨0,1,0⟩,⟨4294967295,1,2⟩,⟨1,1,0⟩]
def LD:List ck:=[⟨0,1,0⟩,⟨2,2,2⟩,⟨1,1,0⟩]
theorem oL(b:Bool):aJ b FJ=FJ:=by
 refine(dI.eq ⟨?_,fun e he=>?_,fun x hx _=>⟨x,hx,rfl,rfl⟩⟩).symm
 ·cases b<;>decide
 ·refine⟨he,?_,fun x hx hs=>?_⟩
  ·revert e;decide
  ·have h1:∀x∈FJ,∀e∈FJ,x.t=e.t->x=e:=by decide
   rw[h1 x hx e he hs.1];simp
theorem TC:gY 3 [⟨0,1,1,0⟩,⟨1,2,1,0⟩]=FJ:=by decide
theorem uK:aB FJ Ww=[0,2]:=by
 unfold aB eo oH cT;unfold aX eW;simp only[oL];rfl
theorem uL:aB [] yL=[1]:=by
 unfold aB eo oH cT;unfold aX eW;simp only[cV];rfl
theorem uM:aB [] LD=[]:=by
 rfl
theorem TD:fR FJ [0,2]=[]:=by
 unfold fR gG iH;unfold aX eW;simp only[oL];rfl
theorem TE:fR [] [1]=[]:=by
 unfold fR gG iH;unfold aX eW;simp only[cV];rfl
theorem afi:yI FJ [0,2]=[⟨0,1,1,4294967295⟩]:=by
 unfold yI aX;simp only[oL];rfl
theorem TF:gH FJ [0,2]=[⟨1,2,1,4294967295⟩]:=by
 unfold gH eW;simp only[oL];rfl
theorem afj:yI [] [1]=[]:=by
 unfold yI aX;simp only[cV];rfl
theorem TG:gH [] [1]=[]:=by
 unfold gH eW;simp only[cV];rfl
theorem Wy:cU FJ Ww 0 0 [0,2]=yL:=by
 unfold cU fY cT;unfold aX eW;simp only[oL];rfl
theorem Wz:cU [] yL 2 1 [1]=LD:=by
 unfold cU fY cT;unfold aX eW;simp only[cV];rfl
section
variable {w0 w w':World} {pb db:Nat} {o:ar} {d:Dsk} {L L':aC}
theorem akB(hh:Held w0 w pb db 8 o d L)(hg:Cw L FJ 3)(m:Nat):Ty w0 w pb db 8 o d L 0 0 m FJ Ww:=by
 have hn:=hg.need;have hl:FJ.length=2:=rfl;refine⟨hh,af,af,hg.e,hg.r,hg.v,af,af,af,?_,fun c=>hg.s8 _ (aZ af) (aZ af) (aZ af),fun k=>hg.s8 _ (bo _ af _ _).symm (bo _ af _ _).symm (bo _ af _ _).symm,?_,?_,?_,?_⟩
 ·unfold eo;exact Nat.le_trans (List.length_filterMap_le _ _) af
 ·grind [uK,TD]
 ·rw[uK,TD,afi,TF,hl];have:Ww.length=3:=rfl;grind
 ·grind [uK]
 grind [eW,FJ,Hx,oL,aX]
theorem akC(hh:Held w0 w pb db 8 o d L')(hg:Cw L FJ 3)(hr:np L L' 0 [] [⟨0,1,1,4294967295⟩] [⟨1,2,1,4294967295⟩] yL)(m:Nat):Ty w0 w pb db 8 o d L' 1 2 m [] yL:=by
 have hn:=hg.need;have hl:FJ.length=2:=rfl;have hk:=hr.need;have e1:=gj (aJ false []);have e2:=gj (aJ true []);have e3:=gj [⟨0,1,1,4294967295⟩];have e4:=gj [⟨1,2,1,4294967295⟩];have e5:vN yL<=4*yL.length:=fT _ _;rw[cV]at e1 e2;rw[cV,cV]at hk;simp only[List.length_nil,List.length_singleton]at e1 e2 e3 e4;have e6:yL.length=3:=rfl;refine⟨hh,af,af,hr.e,hr.r,hr.v,af,af,af,?_,fun c=>?_,fun k=>?_,?_,?_,?_,?_⟩
 ·unfold eo;exact Nat.le_trans (List.length_filterMap_le _ _) af
 ·rw[hr.s8 _ (aZ af) (aZ af) (aZ af) (aZ af) (aZ af)];grind [Cw.s8,aZ]
 ·rw[hr.s8 _ (bo _ af _ _).symm (bo _ af _ _).symm (bo _ af _ _).symm (bo _ af _ _).symm (bo _ af _ _).symm];grind [Cw.s8,bo]
 ·grind [uL,TE]
 ·grind [uL,TE,afj,TG]
 ·grind [uL]
 grind [eW,Hx,cV]
theorem akD{L0:aC}(hh:Held w0 w pb db 8 o d L')(hg:Cw L0 FJ 3)(h0:np L0 L 0 [] [⟨0,1,1,4294967295⟩] [⟨1,2,1,4294967295⟩] yL)(hr:np L L' 1 [] [] [] LD)(m:Nat):Ty w0 w pb db 8 o d L' 2 3 m [] LD:=by
 have hn:=hg.need;have hl:FJ.length=2:=rfl;have hk:=hr.need;have Jr:=h0.need;have e1:=gj (aJ false []);have e2:=gj (aJ true []);have e3:=gj [⟨0,1,1,4294967295⟩];have e4:=gj [⟨1,2,1,4294967295⟩];have e5:vN yL<=4*yL.length:=fT _ _;have e7:vN LD<=4*LD.length:=fT _ _;rw[cV]at e1 e2;rw[cV,cV]at hk Jr;simp only[List.length_nil,List.length_singleton]at e1 e2 e3 e4;have e6:yL.length=3:=rfl;have e8:LD.length=3:=rfl;refine⟨hh,af,af,hr.e,hr.r,hr.v,af,af,af,?_,fun c=>?_,fun k=>?_,?_,?_,?_,?_⟩
 ·unfold eo;exact Nat.le_trans (List.length_filterMap_le _ _) af
 ·rw[hr.s8 _ (aZ af) (aZ af) (aZ af) (aZ af) (aZ af),h0.s8 _ (aZ af) (aZ af) (aZ af) (aZ af) (aZ af)];grind [Cw.s8,aZ]
 ·rw[hr.s8 _ (bo _ af _ _).symm (bo _ af _ _).symm (bo _ af _ _).symm (bo _ af _ _).symm (bo _ af _ _).symm,h0.s8 _ (bo _ af _ _).symm (bo _ af _ _).symm (bo _ af _ _).symm (bo _ af _ _).symm (bo _ af _ _).symm];grind [Cw.s8,bo]
 ·grind [uM,fR,gG,cV]
 ·grind [uM,fR,gG,cV,yI,gH]
 ·grind [uM]
 grind [eW,Hx,cV]
end
end
section
open Go.RowKit Go.Maps
def gN:Nat->Nat
 |0=>0
 |s+1=>gN s+(8*(s*s)+8*s+96)
theorem aaz(r k:Nat):gN r+k*(8*(r*r)+8*r+96)<=gN (r+k):=by
 induction k with
 |zero=>simp
 |succ k ih=>
   have h:=Nat.mul_le_mul (show r<=r+k by omega) (show r<=r+k by omega);rw[Nat.add_mul,Nat.one_mul,show r+(k+1)=(r+k)+1 by omega,gN];omega
section
variable {N done gen n pb db:Nat} {es:List aH} {vs:List ck} {w0 w w':World} {o o':ar} {d d':Dsk} {L L':aC} {b:Bool}
def A9(N:Nat)(vs:List ck):List Nat:=(List.range N).filter fun i=>!jw vs i
theorem kU.rest(h:kU N es vs done):(A9 N vs).length+done=N:=by
 have h1:=xW (l:=List.range N) (p:=jw vs) (q:=fun i=>!jw vs i) (r:=fun _=>true) (fun x _=>by simp) (fun x _ h1 h2=>by simp[h1]at h2);rw[h.count,List.filter_eq_self.2 (fun _ _=>rfl),List.length_range]at h1;unfold A9;omega
theorem TH{i:Nat}:i∈A9 N vs↔i<N/\jw vs i=false:=by
 unfold A9;simp
theorem s9(b:Bool)(l:List aH):((aJ b l).map fun x=>(x.t.toNat,x.h.toNat)).Nodup:=by
 refine List.pairwise_map.2 ((bT b l).gA.imp fun{x y}h e=>?_);rw[Prod.mk.injEq]at e;unfold pk at h;cases b<;>simp only[if_true,if_false,Bool.false_eq_true]at h<;>omega
theorem mh{α β:Type}{l:List α}{f:α->List β}{m:Nat}(h:∀x∈l,(f x).length<=m):(l.flatMap f).length<=l.length*m:=by
 induction l with
 |nil=>simp
 |cons a l ih=>
   have:=h a ah;have:=ih fun x hx=>h x (by simp[hx]);rw[List.flatMap_cons,List.length_append,List.length_cons,Nat.add_mul];omega
theorem MU{l:List aH}{S:List Nat}(hs:l.Sublist (aJ b es))(h:∀x∈l,x.t.toNat∈S/\x.h.toNat∈S):l.length<=S.length*S.length:=by
 have h1:(l.map fun x=>(x.t.toNat,x.h.toNat)).Nodup:=(hs.map _).nodup (s9 b es);have h2:=qQ (l₂:=S.flatMap fun a=>S.map fun c=>(a,c)) h1 (fun p hp=>by
  obtain⟨x,hx,rfl⟩:=List.mem_map.1 hp;exact List.mem_flatMap.2 ⟨_,(h x hx).1,List.mem_map.2 ⟨_,(h x hx).2,rfl⟩⟩)
 rw[List.length_map]at h2;exact Nat.le_trans h2 (mh fun a _=>by simp)
theorem TI{v:Nat}{S:List Nat}(h:∀x∈aX es v,x.h.toNat∈S):(aX es v).length<=S.length:=by
 have h1:((aX es v).map fun x=>(x.t.toNat,x.h.toNat)).Nodup:=((List.filter_sublist).map _).nodup (s9 false es);have h2:=qQ (l₂:=S.map fun c=>(v,c)) h1 (fun p hp=>by
  obtain⟨x,hx,rfl⟩:=List.mem_map.1 hp;exact List.mem_map.2 ⟨_,h x hx,by rw[(nh.1 hx).2]⟩)
 simpa using h2
theorem X2{v:Nat}{S:List Nat}(h:∀x∈eW es v,x.t.toNat∈S):(eW es v).length<=S.length:=by
 have h1:((eW es v).map fun x=>(x.t.toNat,x.h.toNat)).Nodup:=((List.filter_sublist).map _).nodup (s9 true es);have h2:=qQ (l₂:=S.map fun c=>(c,v)) h1 (fun p hp=>by
  obtain⟨x,hx,rfl⟩:=List.mem_map.1 hp;exact List.mem_map.2 ⟨_,h x hx,by rw[(qW.1 hx).2]⟩)
 simpa using h2
theorem kU.sizes(h:kU N es vs done)(hd:done+(aB es vs).length<=1000){k s:Nat}(hk:k=(aB es vs).length)(hs:s+done+k=N) :
 (aJ false (fR es (aB es vs))).length<=s*s/\(aJ true (fR es (aB es vs))).length<=s*s/\(fR es (aB es vs)).length<=s*s+k*(s*s)/\(yI es (aB es vs)).length<=k*s/\(gH es (aB es vs)).length<=k*s:=by
 have hn:=h.next (gen:=0) hd;have hr:=hn.rest;obtain⟨S,hS⟩:∃S,S=A9 N (cU es vs done 0 (aB es vs)):=⟨_,rfl⟩;have hl:S.length=s:=by rw[hS];omega
 have mA:∀i x,vs[i]? = some x->x.r=4294967295->i ∉ aB es vs->i∈S:=fun i x hx hx2 hc=>by
  rw[hS,TH];refine⟨by rw[<- h.len];exact aN hx,?_⟩;have h1:=uH (es:=es) (was:=vs) (done:=done) (gen:=0) hc;rw[hx]at h1;obtain⟨y,e1,e2⟩:=Option.map_eq_some_iff.1 h1;unfold jw;rw[e1];simp[e2,hx2]
 have oM:∀x∈aJ false es,(x.t.toNat ∉ aB es vs->x.t.toNat∈S)/\(x.h.toNat ∉ aB es vs->x.h.toNat∈S):=fun x hx=>by
  obtain⟨a,c,h1,h2,h3,h4⟩:=h.ends x (eQ.1 hx).1;exact⟨mA _ _ h1 h3,mA _ _ h2 h4⟩
 have ho:∀v∈aB es vs,(aX es v).length<=s:=fun v hv=>by
  rw[<- hl];refine TI fun x hx=>?_;have h1:=nh.1 hx;exact(oM x h1.1).2 fun hc=>jv hv hc (oJ.2 ⟨x,h1.1,.inl ⟨h1.2,rfl⟩⟩)
 have hi:∀v∈aB es vs,(eW es v).length<=s:=fun v hv=>by
  rw[<- hl];refine X2 fun x hx=>?_;have h1:=qW.1 hx;exact(oM x h1.1).1 fun hc=>jv hv hc (oJ.2 ⟨x,h1.1,.inr ⟨h1.2,rfl⟩⟩)
 have Ch:∀b,(aJ b (fR es (aB es vs))).length<=s*s:=fun b=>by
  rw[<- hl];refine MU (List.Sublist.refl _) fun x hx=>?_;obtain⟨h1,h2,⟨y,hy,ey⟩,⟨z,hz,ez⟩⟩:=uI (eQ.1 hx).1;rw[<- ey]at h1 ⊢;rw[<- ez]at h2 ⊢;exact⟨(oM y hy).1 h1,(oM z hz).2 h2⟩
 refine⟨Ch false,Ch true,?_,?_,?_⟩
 ·unfold fR;rw[List.length_append];refine Nat.add_le_add ?_ ?_
  ·rw[<- hl];refine MU (b:=false) (es:=es) List.filter_sublist fun x hx=>?_;obtain⟨h1,h2,h3⟩:=I0.1 hx;exact⟨(oM x h1).1 h2,(oM x h1).2 h3⟩
  ·rw[hk];refine mh fun v hv=>?_;unfold iH oF;refine Nat.le_trans (mh (m:=s) fun a _=>Nat.le_trans (List.length_filterMap_le _ _) ?_) (Nat.mul_le_mul_right _ (hi v hv));rw[show(UInt32.ofNat v).toNat=v by rw[UInt32.toNat_ofNat'];have:=jU hv;have:=h.len;have:=h.top;omega];exact ho v hv
 ·rw[hk];exact mh ho
 ·rw[hk];exact mh hi
structure rN(w0 w:World)(pb db n:Nat)(o:ar)(d:Dsk)(L:aC)(N gen done:Nat)(es:List aH)(vs:List ck):Prop where
 held:Held w0 w pb db n o d L
 frames:8<=n
 ok:kU N es vs done
 top:N<=24
 gd:gen<=done
 e:aA L (aI 101 gen)=some (aw (aJ false es) true)
 r:aA L (aI 114 gen)=some (aw (aJ true es) true)
 v:aA L (aI 118 gen)=some (bY vs true)
 len:es.length<=600
 free:∀c g,gen<g->aA L (aI c g)=none
 nt:∀k,aA L (dx k)=none
 need:need L+gN (N-done)<=40200
theorem rN.moved(h:rN w0 w pb db n o d L N gen done es vs)(hm:au (fun _=>False) n pb db w o d w' o' d' L):rN w0 w' pb db n o' d' L N gen done es vs:={ h with held:=h.held.moved hm fun _ e=>e.elim }
theorem MV:∀s<25,∀k<25,s+k<=24->s*s+k*(s*s)<=2400/\k*s<=144/\s*s<=576:=by decide
theorem rN.rn(h:rN w0 w pb db n o d L N gen done es vs):Ty w0 w pb db n o d L gen done 2400 es vs:=by
 have hd:done+(aB es vs).length<=N:=by
  have h1:=(h.ok.next (gen:=0) (by
   have:=h.ok.ni;have h2:(aB es vs).length<=vs.length:=by
    have:=qQ (l₂:=List.range vs.length) ((gL es vs).imp fun h=>Nat.ne_of_lt h) (fun v hv=>List.mem_range.2 (jU hv));simpa using this
   have:=h.ok.len;have:=h.top;omega)).ni
  exact h1
 have ht:=h.top;have hg:=h.gd;have hl:=h.ok.len;obtain⟨h1,h2,h3,h4,h5⟩:=h.ok.sizes ae rfl (show(N-(done+(aB es vs).length))+done+(aB es vs).length=N by omega);obtain⟨q1,q2,q3⟩:=MV (N-(done+(aB es vs).length)) ae (aB es vs).length ae ae;have oM:∀x∈es,x.t.toNat<vs.length/\x.h.toNat<vs.length:=fun x hx=>by
  obtain⟨a,c,h1,h2,-⟩:=h.ok.ends x hx;exact⟨aN h1,aN h2⟩
 have hn:=h.need;have hlen:=h.len;refine⟨h.held,h.frames,ae,h.e,h.r,h.v,ae,ae,oM,?_,fun c=>h.free c _ ae,h.nt,ae,ae,ae,fun v _=>?_⟩
 ·unfold eo;refine Nat.le_trans (List.length_filterMap_le _ _) ?_;rw[List.length_zipIdx];omega
 ·have g1:(aX es v).length<=N:=by
   have:=TI (es:=es) (v:=v) (S:=List.range N) fun x hx=>List.mem_range.2 (by have:=(oM x (eQ.1 (nh.1 hx).1).1).2;omega);simpa using this
  have g2:(eW es v).length<=N:=by
   have:=X2 (es:=es) (v:=v) (S:=List.range N) fun x hx=>List.mem_range.2 (by have:=(oM x (eQ.1 (qW.1 hx).1).1).1;omega);simpa using this
  have:=Nat.mul_le_mul (Nat.le_trans g2 ht) (Nat.le_trans g1 ht);omega
theorem rN.next(h:rN w0 w pb db n o d L N gen done es vs)(hne:aB es vs≠[])(hh:Held w0 w' pb db n o' d' L')(hr:np L L' gen (fR es (aB es vs)) (yI es (aB es vs)) (gH es (aB es vs)) (cU es vs done gen (aB es vs))) :
 rN w0 w' pb db n o' d' L' N (gen+1) (done+(aB es vs).length) (aJ false (fR es (aB es vs))) (cU es vs done gen (aB es vs)):=by
 have hd:=h.rn.dlt;have hk:0<(aB es vs).length:=List.length_pos_iff.2 hne;have h0:done+(aB es vs).length<=1000:=by
  have h2:(aB es vs).length<=vs.length:=by
   have:=qQ (l₂:=List.range vs.length) ((gL es vs).imp fun h=>Nat.ne_of_lt h) (fun v hv=>List.mem_range.2 (jU hv));simpa using this
  have:=h.ok.ni;have:=h.ok.len;have:=h.top;omega
 have fw:=h.ok.next (gen:=gen) h0;have hle:=fw.ni;have ht:=h.top;obtain⟨h1,h2,h3,h4,h5⟩:=h.ok.sizes h0 rfl (show(N-(done+(aB es vs).length))+done+(aB es vs).length=N by omega);obtain⟨q1,q2,q3⟩:=MV (N-(done+(aB es vs).length)) ae (aB es vs).length ae ae;have hgn:=aaz (N-(done+(aB es vs).length)) (aB es vs).length;rw[show N-(done+(aB es vs).length)+(aB es vs).length=N-done by omega]at hgn;have e1:=gj (aJ false (fR es (aB es vs)));have e2:=gj (aJ true (fR es (aB es vs)));have e3:=gj (yI es (aB es vs));have e4:=gj (gH es (aB es vs));have e5:vN (cU es vs done gen (aB es vs))<=4*(cU es vs done gen (aB es vs)).length:=fT _ _;rw[fw.len]at e5;have e6:=hr.need;have e7:=h.need;have pq:∀(c c':UInt8)g,gen+1<g->aI c g≠aI c' (gen+1):=fun c c' g hg=>aZ ae;have yO:∀k c,c≠116->dx k≠aI c (gen+1):=fun k c hc=>(bo c hc _ _).symm;refine⟨hh,h.frames,fw,ht,by have:=h.gd;omega,?_,?_,hr.v,ae,fun c g hg=>?_,fun k=>?_,?_⟩
 ·rw[rD];exact hr.e
 ·rw[rD];exact hr.r
 ·rw[hr.s8 _ (pq _ _ _ hg) (pq _ _ _ hg) (pq _ _ _ hg) (pq _ _ _ hg) (pq _ _ _ hg)];exact h.free c g ae
 ·rw[hr.s8 _ (yO _ _ af) (yO _ _ af) (yO _ _ af) (yO _ _ af) (yO _ _ af)];exact h.nt k
 ·generalize N-(done+(aB es vs).length)=s at *;generalize (aB es vs).length=k at *;have g1:s*s<=k*(s*s):=Nat.le_mul_of_pos_left _ hk;have g2:k*(8*(s*s)+8*s+96)=8*(k*(s*s))+8*(k*s)+96*k:=by
   rw[Nat.mul_add,Nat.mul_add];simp only[Nat.mul_left_comm k 8];omega
  omega
theorem LF(hh:Held w0 w pb db n o d L)(hn:8<=n){l:List aH}(hl:l.length<=80)(hN:N<=24)(he:∀x∈l,x.t.toNat<N/\x.h.toNat<N)(hg:Cw L l N):rN w0 w pb db n o d L N 0 0 l (List.replicate N jA):=by
 have hr:∀(i:Nat)(x:ck),(List.replicate N jA)[i]? = some x->x.r=4294967295:=fun i x hx=>by
  rw[List.getElem?_replicate]at hx;split at hx
  ·cases hx;rfl
  ·cases hx
 have hg0:=hg.need;have hgn:∀N<25,gN N<=39104:=by decide
 have:=hgn N ae;refine⟨hh,hn,⟨List.length_replicate,ae,fun x hx=>?_,fun i x hx h=>absurd (hr i x hx) h,fun i j x y hx _ h=>absurd (hr i x hx) h,?_⟩,hN,Nat.le_refl _,hg.e,hg.r,hg.v,ae,fun c g h=>hg.s8 _ (aZ ae) (aZ ae) (aZ ae),fun k=>hg.s8 _ (bo _ af _ _).symm (bo _ af _ _).symm (bo _ af _ _).symm,by simp;omega⟩
 ·exact⟨jA,jA,by rw[List.getElem?_replicate,if_pos (he x hx).1],by rw[List.getElem?_replicate,if_pos (he x hx).2],rfl,rfl⟩
 ·rw[List.length_eq_zero_iff,List.filter_eq_nil_iff];intro i _;rw[jV];rintro⟨x,hx,h⟩;exact h (hr i x hx)
def Ba(w0 w:World)(pb db n:Nat)(o:ar)(d:Dsk)(L:aC)(N gen done:Nat)(es:List aH)(vs:List ck)(e:Ending)(w':World):Prop:=
 ∃d' o' L',e=.returned (.tuple #[.int .u32 ((aB es vs).length:Int),.int .i64 0])/\au (fun _=>False) n pb db w o d w' o' d' L'/\(aB es vs=[]->L'=L)/\(aB es vs≠[]->np L L' gen (fR es (aB es vs)) (yI es (aB es vs)) (gH es (aB es vs)) (cU es vs done gen (aB es vs))/\rN w0 w' pb db n o' d' L' N (gen+1) (done+(aB es vs).length) (aJ false (fR es (aB es vs))) (cU es vs done gen (aB es vs)))
theorem LG(HW:aP)(yD:dX 2400)(h:rN w0 w pb db n o d L N gen done es vs) :
 Calls prog 33 #[ptrTo pb,.int .i64 (gen:Int),.int .u32 (done:Int)] w (Ba w0 w pb db n o d L N gen done es vs):=by
 refine(rG HW yD h.rn).mono ?_;rintro e w'⟨d',o',L',rfl,hm,h1,h2⟩;exact⟨d',o',L',rfl,hm,h1,fun hne=>⟨h2 hne,h.next hne (h.held.moved hm fun _ e=>e.elim) (h2 hne)⟩⟩
end
end
section
open Go.RowKit Go.Maps
section
variable {S:Nat->Prop} {N done gen n pb db gb ob ib vb:Nat} {es:List aH} {vs:List ck} {w0 w w':World} {o o':ar} {d d':Dsk} {L L':aC} {b:Bool}
structure yM(w0 w:World)(pb db n:Nat)(o:ar)(d:Dsk)(L:aC)(gb gen N ob ib vb:Nat)(es:List aH)(vs:List ck):Prop where
 iI:fJ w0 w pb db n o d L gb gen N ob ib vb es
 len:vs.length=N
 file:aA L (aI 118 gen)=some (bY vs true)
theorem yM.moved(h:yM w0 w pb db n o d L gb gen N ob ib vb es vs)(hm:au (fun _=>False) n pb db w o d w' o' d' L):yM w0 w' pb db n o' d' L gb gen N ob ib vb es vs:=⟨h.iI.moved hm,h.len,h.file⟩
theorem yM.later(h:yM w0 w pb db n o d L gb gen N ob ib vb es vs)(hm:au (fun _=>False) n pb db w o d w' o' d' L')(hq:need L'<=131072)(hL:∀c,aA L' (aI c gen)=aA L (aI c gen)):yM w0 w' pb db n o' d' L' gb gen N ob ib vb es vs:=
 ⟨⟨h.iI.held.moved hm fun _ e=>e.elim,hq,h.iI.gr.KV hm fun _ _ e=>e,by rw[hL];exact h.iI.file,by rw[hL];exact h.iI.Du,h.iI.len,h.iI.top,h.iI.ends⟩,h.len,by rw[hL];exact h.file⟩
theorem yM.afk(HW:aP)(h:yM w0 w pb db n o d L gb gen N ob ib vb es vs){v:Nat}{x:ck}(hv:vs[v]? = some x) :
 Calls prog 23 #[ptrTo gb,.int .u32 (v:Int)] w fun e w'=>∃d' o',e=.returned (.tuple #[qM x,.int .i64 0])/\au (fun _=>False) n pb db w o d w' o' d' L:=by
 have hi:=aN hv;have:=h.len;have:=h.iI.top;rw[List.getElem?_eq_getElem hi]at hv;rw[<- Option.some.inj hv];exact Ds HW h.iI.held h.iI.need (by rw[h.len];exact h.iI.gr) h.file hi ae
def pX(W:World)(o:ar)(v:Value)(ts:List aH):Prop:=∃base,aK W base v ts/\∀x,v.ownBlock=some x->o x=none
theorem pX.moved{v:Value}{ts:List aH}(h:pX w o v ts)(hm:au (fun _=>False) n pb db w o d w' o' d' L'):pX w' o' v ts:=by
 obtain⟨base,h1,h2⟩:=h;exact⟨base,hm.ownsRow h1 fun b hb=>⟨h2 b hb,fun e=>e⟩,fun x hx=>hm.free (aL h1 x hx).1 (h2 x hx)⟩
theorem pX.get{v:Value}{ts:List aH}(h:pX w o v ts){i:Nat}{x:aH}(hx:ts[i]? = some x):∃b off cap,v=.slice (some ⟨b,off,none⟩) ts.length cap/\w.cell? ⟨b,off+i*4,none⟩=some (.int .u32 (x.t.toNat:Int))/\w.cell? ⟨b,off+i*4+1,none⟩=some (.int .u32 (x.h.toNat:Int))/\w.cell? ⟨b,off+i*4+2,none⟩=some (.int .u64 (x.x.toNat:Int))/\w.cell? ⟨b,off+i*4+3,none⟩=some (.int .u32 (x.m.toNat:Int)):=by
 obtain⟨base,h1,-⟩:=h;obtain⟨a,cap,rfl⟩:=az h1;obtain⟨-,hc⟩:=oG (pG h1);obtain⟨b,off,rfl,hh⟩:=hc w aj i x hx;exact⟨b,off,cap,rfl,hh⟩
def TJ(w0 w:World)(pb db n:Nat)(o:ar)(d:Dsk)(L:aC)(gen N:Nat)(es:List aH)(vs:List ck)(e:Ending)(w':World):Prop:=
 ∃gb ob ib vb d' o',e=.returned (.tuple #[ptrTo gb,.int .i64 0])/\au (fun _=>False) n pb db w o d w' o' d' L/\yM w0 w' pb db n o' d' L gb gen N ob ib vb es vs
theorem DD(HW:aP)(h:rN w0 w pb db n o d L N gen done es vs):Calls prog 34 #[ptrTo pb,.int .i64 (gen:Int)] w (TJ w0 w pb db n o d L gen N es vs):=by
 have hq:need L<=131072:=by have:=h.need;omega
 have hl:=h.len;have ht:=h.top;refine(sj HW h.held.aY (gen:=gen) (.inl (by have:=h.rn.glt;omega)) h.v h.e h.r).mono ?_;rintro e w'⟨v,c,d',o',rfl,hm,he,fw,-⟩;have hc:c=0:=h.held.pT hm he hq;subst hc;obtain⟨gb,ob,ib,vb,rfl,hg⟩:=fw rfl;rw[h.ok.len]at hg;refine⟨gb,ob,ib,vb,d',o',rfl,hm,⟨h.held.moved hm fun _ e=>e.elim,hq,hg,h.e,h.r,ae,ae,fun x hx=>?_⟩,h.ok.len,h.v⟩;obtain⟨a,c,h1,h2,-⟩:=h.ok.ends x hx;rw[<- h.ok.len];exact⟨aN h1,aN h2⟩
theorem LH{V:Nat}{l:List aH}{x:aH}(h:x∈gY V l):x.t.toNat<V/\x.h.toNat<V:=by
 unfold gY at h;split at h
 ·cases h
 ·obtain⟨y,-,rfl⟩:=List.mem_map.1 h;obtain⟨h1,h2,-⟩:=DB (n:=V) y;rw[h1,h2];exact⟨Nat.mod_lt _ ae,Nat.mod_lt _ ae⟩
def aaA(w:World)(n:Nat)(l:List aH)(N:Nat)(e:Ending)(w':World):Prop:=
 ∃db pb o d L,e=.returned (.tuple #[ptrTo db,ptrTo pb])/\rN w w' pb db n o d L N 0 0 l (List.replicate N jA)
theorem LI(HW:aP)(yD:dX 2400){ev:Value}{l:List aH}(K F:Nat)(hK:K<256)(hF:F<256)(he:kF w ev l) :
 Calls prog 30 #[.agg #[.int .u8 (K:Int),ev,.int .u8 (F:Int)]] w (aaA w (8+F%40) (gY (K%25) l) (K%25)):=by
 have h80:=sB (K%25) l;refine(xY HW yD K F hK hF he ae).mono ?_;rintro e w'⟨db,pb,o,d,L,rfl,hh,hg⟩;exact⟨db,pb,o,d,L,rfl,LF hh ae h80 ae (fun x hx=>LH hx) hg⟩
theorem kU.keeps(h:kU N es vs done){v:Nat}{a:ck}(ha:vs[v]? = some a)(hr:a.r≠4294967295):(cU es vs done gen (aB es vs))[v]? = some a:=by
 rw[IZ,ha]
 ·intro hc;obtain⟨x,hx,h1,-⟩:=fK hc;rw[ha]at hx;cases hx;exact hr h1
 ·intro u hu hn;obtain⟨x,hx,h1⟩:=oJ.1 hn;obtain⟨c,e,h2,h3,h4,h5⟩:=h.ends x (eQ.1 hx).1;rcases h1 with⟨-,h1⟩|⟨-,h1⟩
  ·rw[h1,ha]at h3;cases h3;exact hr h5
  ·rw[h1,ha]at h2;cases h2;exact hr h4
theorem Bb{v:Nat}{a c:ck}(ha:vs[v]? = some a)(hr:a.r=4294967295)(hc:v ∉ aB es vs)(hb:(cU es vs done gen (aB es vs))[v]? = some c):c.r=4294967295:=by
 have h1:=uH (es:=es) (was:=vs) (done:=done) (gen:=gen) hc;rw[ha,hb,Option.map_some,Option.map_some]at h1;rw[Option.some.inj h1,hr]
theorem kU.TK(h:kU N es vs done){v:Nat}(hv:v∈aB es vs){x:aH}{c:ck}:(x∈aX es v->(cU es vs done gen (aB es vs))[x.h.toNat]? = some c->c.r=4294967295)/\(x∈eW es v->(cU es vs done gen (aB es vs))[x.t.toNat]? = some c->c.r=4294967295):=by
 constructor
 ·intro hx hc;have h1:=nh.1 hx;obtain⟨a,b,h2,h3,h4,h5⟩:=h.ends x (eQ.1 h1.1).1;exact Bb h3 h5 (fun e=>jv hv e (oJ.2 ⟨x,h1.1,.inl ⟨h1.2,rfl⟩⟩)) hc
 ·intro hx hc;have h1:=qW.1 hx;obtain⟨a,b,h2,h3,h4,h5⟩:=h.ends x (eQ.1 h1.1).1;exact Bb h2 h4 (fun e=>jv hv e (oJ.2 ⟨x,h1.1,.inr ⟨h1.2,rfl⟩⟩)) hc
theorem xZ{v:Nat}(hv:v∈aB es vs):aX (aJ false (fR es (aB es vs))) v=[]/\eW (aJ false (fR es (aB es vs))) v=[]:=by
 rw[OY,Th];refine⟨List.eq_nil_iff_forall_not_mem.2 fun x hx=>?_,List.eq_nil_iff_forall_not_mem.2 fun x hx=>?_⟩
 ·obtain⟨h1,h2⟩:=nh.1 hx;exact(uI (eQ.1 h1).1).1 (by rw[h2];exact hv)
 ·obtain⟨h1,h2⟩:=qW.1 hx;exact(uI (eQ.1 h1).1).2.1 (by rw[h2];exact hv)
def below(ch:List Nat)(v:Nat):Nat:=(ch.filter fun x=>decide (x<v)).length
theorem LJ(ch:List Nat):below ch 0=0:=by
 unfold below;rw[List.length_eq_zero_iff,List.filter_eq_nil_iff];simp
theorem LK{ch:List Nat}(hr:ch.Pairwise (· < ·))(v:Nat):below ch (v+1)=below ch v+if v∈ch then 1 else 0:=by
 induction ch with
 |nil=>rfl
 |cons a ch ih=>
   rw[List.pairwise_cons]at hr;have h:=ih hr.2;have h1:=hr.1 v;unfold below at h ⊢;grind
theorem O9{ch:List Nat}(hr:ch.Pairwise (· < ·)){v:Nat}(hv:v∈ch):ch[below ch v]? = some v:=by
 induction ch with
 |nil=>cases hv
 |cons a ch ih=>
   rw[List.pairwise_cons]at hr;rcases List.mem_cons.1 hv with rfl | h
   ·have:below (v::ch) v=0:=by
     unfold below;rw[List.length_eq_zero_iff,List.filter_eq_nil_iff];intro x hx;rcases List.mem_cons.1 hx with rfl | h
     ·simp
     ·have:=hr.1 x h;simp;omega
    rw[this];rfl
   ·have h1:=hr.1 v h;have:below (a::ch) v=below ch v+1:=by unfold below;rw[List.filter_cons,if_pos (by simpa using h1)];rfl
    rw[this,List.getElem?_cons_succ];exact ih hr.2 h
theorem Pa{ch:List Nat}{v:Nat}(h:∀x∈ch,x<v):below ch v=ch.length:=by
 unfold below;rw[List.filter_eq_self.2 fun x hx=>by simpa using h x hx]
theorem TL{v:Nat}{a:ck}(hv:v∈aB es vs)(ha:vs[v]? = some a):(cU es vs done gen (aB es vs))[v]? = some ⟨UInt32.ofNat (done+below (aB es vs) v),UInt32.ofNat (gen+1),a.g⟩:=by
 rw[wR (O9 (gL es vs) hv),ha];rfl
end
end
section
open Go.RowKit Go.Maps
theorem I9(HW:aP){m:Nat}(yD:dX m)(hm:2<=m)(w:World) :
 Calls prog 31 #[] w fun e w'=>e=.returned (.bool true)/\Below w.heap.size w w':=by
 go_enter func31,ntmps31;have kE:Hid (Below w.heap.size w (w.alloc (.cells #[.int .u32 0,.int .u32 1,.int .u64 1,.int .u32 0,.int .u32 1,.int .u32 2,.int .u64 1,.int .u32 0] 64))):=aa ai;have HR0:Hid (kF (w.alloc (.cells #[.int .u32 0,.int .u32 1,.int .u64 1,.int .u32 0,.int .u32 1,.int .u32 2,.int .u64 1,.int .u32 0] 64)) (.slice (some ⟨w.heap.size,0,none⟩) 2 2) [⟨0,1,1,0⟩,⟨1,2,1,0⟩]):=aa ⟨_,2,rfl,.inr ⟨w.heap.size,0,rfl,fun j x hx=>by
  match j,hx with
  |0,hx=>cases hx;simp
  |1,hx=>cases hx;simp
  |j+2,hx=>cases hx⟩⟩
 go_wp2_with fail;generalize w.alloc (.cells #[.int .u32 0,.int .u32 1,.int .u64 1,.int .u32 0,.int .u32 1,.int .u32 2,.int .u64 1,.int .u32 0] 64)=W0 at *;have hbg:=aa (xY HW yD 3 0 af af HR0.o (by rw[show 3%25=3 from rfl,TC];exact hm));unfold Fu at hbg;refine hbg.o.mono ?_;rintro e w1⟨db,pb,o1,d1,L1,rfl,hh1,hg1⟩;rw[show 3%25=3 from rfl,TC]at hg1;have aaB:Held W0 w1 pb db 8 o1 d1 L1:=hh1;have Je:=aa hg1;have HH1:=aa aaB;have jD:=aa (rG HW yD (akB aaB hg1 m));unfold oK at jD;rw[uK,TD,afi,TF,Wy]at jD;clear hh1 aaB hg1 hbg;unfold ptrTo at *;go_wp2_with fail;refine jD.o.mono ?_;rintro e w2⟨d2,o2,L2,rfl,cR,-,hr2⟩;have Cc:=aa (hr2 af);have XE:=aa (HH1.o.moved cR (fun _ e=>e.elim));have hr1:=aa (rG HW yD (akC XE.o Je.o Cc.o m));unfold oK at hr1;rw[uL,TE,afj,TG,Wz]at hr1;clear cR hr2 jD;unfold ptrTo at *;go_wp2_with fail;refine hr1.o.mono ?_;rintro e w3⟨d3,o3,L3,rfl,ep,-,hr3⟩;have Bf:=aa (hr3 af);have FH:=aa (XE.o.moved ep (fun _ e=>e.elim));have hr2:=aa (rG HW yD (akD FH.o Je.o Cc.o Bf.o m));unfold oK at hr2;rw[uM]at hr2;clear ep hr3 hr1;unfold ptrTo at *;go_wp2_with fail;refine hr2.o.mono ?_;rintro e w4⟨d4,o4,L4,rfl,eV,hr4,-⟩;have HL:=aa (hr4 trivial);have Rf:Hid (Below w.heap.size w w4):=aa (by
  obtain rfl:=HL.o;exact kE.o.trans ((FH.o.moved eV (fun _ e=>e.elim)).below.mono kE.o.size))
 clear eV hr4 hr2;go_wp2;go_ret;exact⟨rfl,Rf.o⟩
theorem tk(HW:aP)(yD:dX 2400){w:World}{ev:Value}{l0:List aH}(K F R:Nat)(hK:K<256)(hF:F<256)(hR:R<256)(he:kF w ev l0) :
 Calls prog 5 #[.agg #[.int .u8 (K:Int),ev,.int .u8 (F:Int)],.int .u8 (R:Int)] w fun e w'=>e=.returned (.bool true)/\Below w.heap.size w w':=by
 have VW:=aa (fun W(hW:Below w.heap.size w W)=>DC K F hK (he.below hW));have HBG:=aa (fun W(hW:Below w.heap.size w W)=>LI HW yD K F hK hF (he.below hW));have HWK:=aa (fun W=>I9 HW yD af W);obtain⟨ea,ec,rfl,-⟩:=id he;generalize l0.length=EL at *;obtain⟨V,hV⟩:∃V,V=K%25:=⟨_,rfl⟩;have HV:Hid (V<=24):=aa ae;rw[<- hV]at VW HBG;generalize 8+F%40=n at *;generalize gY V l0=l at *;obtain⟨Z,hZ⟩:∃Z,Z=R%6:=⟨_,rfl⟩;have hR1:wrap64 (R:Int)=(R:Int):=by unfold wrap64;omega
 have hR2:(R:Int)%6=(Z:Int):=by omega
 have HZ:Hid (Z<6):=aa ae;have kE:Hid (Below w.heap.size w (w.alloc (.cells #[.int .u8 (K:Int),.slice ea EL ec,.int .u8 (F:Int)] 69))/\(w.alloc (.cells #[.int .u8 (K:Int),.slice ea EL ec,.int .u8 (F:Int)] 69)).heap[w.heap.size]? = some (.cells #[.int .u8 (K:Int),.slice ea EL ec,.int .u8 (F:Int)] 69)):=aa ⟨aj.alloc (Nat.le_refl _) _,heap_alloc_new _ _⟩;obtain⟨PST,hP⟩:∃P,P=fun(e:Ending)(w':World)=>e=.returned (.bool true)/\Below w.heap.size w w':=⟨_,rfl⟩;have HP:Hid (∀w',Below w.heap.size w w'->PST (.returned (.bool true)) w'):=aa (fun w' h=>by rw[hP];exact⟨rfl,h⟩);rw[<- hP];clear he hV hZ hK hF hR hP;go_enter func5,ntmps5;go_wp2_with fail;generalize X0:w.heap.size=wb at *;have HT:Hid (∀W W',Below wb w W->Below W.heap.size W W'->Below wb w W'):=aa (fun W W' h h'=>h.trans (h'.mono (by rw[<- X0];exact h.size)));clear X0;generalize w.alloc (.cells #[.int .u8 (K:Int),.slice ea EL ec,.int .u8 (F:Int)] 69)=W0 at *;have hsm:=aa (VW.o W0 kE.o.1);refine hsm.o.mono ?_;rintro e w1⟨v1,rfl,hb1,-⟩;have hlt:wb<W0.heap.size:=(Array.getElem?_eq_some_iff.1 kE.o.2).1;have Mb:w1.heap[wb]? = some (.cells #[.int .u8 (K:Int),.slice ea EL ec,.int .u8 (F:Int)] 69):=(hb1.block _ hlt).trans kE.o.2;have cQ:Hid (Below wb w w1):=aa (kE.o.1.trans (hb1.mono (Nat.le_of_lt hlt)));have hbg:=aa (HBG.o w1 cQ.o);have b0:w1.cell? ⟨wb,0,none⟩=some (.int .u8 (K:Int)):=by rw[aq Mb];rfl
 have b1:w1.cell? ⟨wb,1,none⟩=some (.slice ea EL ec):=by rw[aq Mb];rfl
 have b2:w1.cell? ⟨wb,2,none⟩=some (.int .u8 (F:Int)):=by rw[aq Mb];rfl
 clear hb1 hlt hsm VW HBG kE Mb;go_wp2_with fail;refine hbg.o.mono ?_;rintro e w2⟨db,pb,o2,d2,L2,rfl,hg2⟩;have yl:=aa hg2;clear hg2 hbg b0 b1 b2;unfold ptrTo at *;go_wp2_with fail;go_loopw [9,10] (fun vd vg W=>∃(gen done:Nat)(es:List aH)(vs:List ck)(o:ar)(d:Dsk)(L:aC),vd=.int .u32 (done:Int)/\vg=.int .i64 (gen:Int)/\gen<=Z+1/\Hid (rN w1 W pb db n o d L V gen done es vs)) (fun _ vg _=>Z+1-(intOf vg).toNat)
 case atStart=>exact⟨0,0,l,_,o2,d2,L2,rfl,rfl,ae,yl⟩
 case round=>
  obtain⟨gen,done,es,vs,o,d,L,rfl,rfl,hgz,HG⟩:=hrel;generalize wr=W1 at *;clear yl;have UQ:Hid (Below wb w W1):=aa (HT.o _ _ cQ.o HG.out.held.below);by_cases hle:gen<=Z
  ·have VO:(gen:Int)<=(Z:Int):=by omega
   have hop:=aa (DD HW HG.out);unfold TJ ptrTo at hop;go_wp2_with fail;refine hop.o.mono ?_;rintro e w3⟨gb,ob,ib,vb,d3,o3,rfl,ep,XL⟩;have Ud:=aa (HG.out.moved ep);have HN3:=aa XL;have Bc:=aa (LG HW yD Ud.o);unfold Ba ptrTo at Bc;obtain⟨KN,Jk⟩:∃k,k=(aB es vs).length:=⟨_,rfl⟩;rw[<- Jk]at Bc;have hall:=Ud.o.ok.all;have afl:done<25:=by have:=Ud.o.ok.ni;have:=Ud.o.top;omega
   have HK:Hid (KN=(aB es vs).length/\(KN=0↔done=V)/\done<25/\gen<=6):=aa ⟨Jk,by rw[Jk,List.length_eq_zero_iff];exact hall,afl,by have:=HZ.o;omega⟩;have wd:IntKind.i64.wrap (done:Int)=(done:Int):=by rw[ax]<;>omega
   have wg:IntKind.i64.wrap ((gen:Int)+1)=((gen+1:Nat):Int):=by have:=HZ.o;rw[ax]<;>omega
   clear ep XL hop Jk hall afl HG;go_wp2_with fail;refine Bc.o.mono ?_;rintro e w4⟨d4,o4,L4,rfl,eV,hnil,hne⟩;have gl:=aa eV;clear Bc;by_cases hz:KN=0
   ·as_aux_lemma=>
    have hzb:((KN:Int) == 0)=true:=by simp[hz]
    have hdb:((done:Int) == (V:Int))=true:=by have:=HK.o.2.1.1 hz;simp[this]
    have nQ:Hid (Below wb w w4):=aa (by
     have h:=Ud.o.held.moved eV (fun _ e=>e.elim);exact HT.o _ _ cQ.o h.below)
    clear eV hnil hne hz;go_wp2_with fail;refine(HWK.o _).mono ?_;rintro e w5⟨rfl,oN⟩;have HQ:=aa (HP.o _ (HT.o _ _ nQ.o oN));clear oN;go_wp2;exact HQ.o
   ·have hzb:((KN:Int) == 0)=false:=by simp;omega
    have hdb:((done:Int) == (V:Int))=false:=by have:=HK.o.2.1;simp;omega
    obtain⟨afm,hg4⟩:=hne (fun e=>hz (by rw[HK.o.1,e];rfl));obtain⟨Uc,p7⟩:∃x,x=aJ false (fR es (aB es vs)):=⟨_,rfl⟩;obtain⟨Cx,hv2⟩:∃x,x=cU es vs done gen (aB es vs):=⟨_,rfl⟩;have fw:=Ud.o.ok;have Y5:Hid (∀(v:Nat)(a:ck),vs[v]? = some a->(a.r≠4294967295->Cx[v]? = some a)/\(a.r=4294967295->v ∉ aB es vs->∀c,Cx[v]? = some c->c.r=4294967295)/\(v∈aB es vs->a.r=4294967295/\Cx[v]? = some ⟨UInt32.ofNat (done+below (aB es vs) v),UInt32.ofNat (gen+1),a.g⟩/\aX Uc v=[]/\eW Uc v=[]/\∀x c,(x∈aX es v->Cx[x.h.toNat]? = some c->c.r=4294967295)/\(x∈eW es v->Cx[x.t.toNat]? = some c->c.r=4294967295))):=aa (fun v a ha=>by
     rw[hv2,p7];refine⟨fun h=>fw.keeps ha h,fun h hc c hc2=>Bb ha h hc hc2,fun hc=>⟨?_,TL hc ha,(xZ hc).1,(xZ hc).2,fun x c=>fw.TK hc⟩⟩;obtain⟨y,hy,h1,-⟩:=fK hc;rw[ha]at hy;cases hy;exact h1)
    rw[<- p7,<- hv2]at hg4;obtain⟨CH,Tl⟩:∃x,x=aB es vs:=⟨_,rfl⟩;have MN:Hid (CH.Pairwise (· < ·)/\(∀x∈CH,x<V)/\KN=CH.length):=aa (by rw[Tl];exact⟨gL es vs,fun x hx=>by rw[<- fw.len];exact jU hx,HK.o.1⟩);rw[<- Tl]at Y5;have PK:Hid (yM w1 w4 pb db n o4 d4 L4 gb gen V ob ib vb es vs):=aa (HN3.o.later eV (by have:=hg4.need;omega) fun c=>afm.s8 _ (aZ ae) (aZ ae) (aZ ae) (aZ ae) (aZ ae));have zH:=aa hg4;have hop:=aa (DD HW hg4);unfold TJ ptrTo at hop;clear eV hnil hne hz afm hg4 p7 hv2 fw Tl HN3 Ud;go_wp2_with fail;refine hop.o.mono ?_;rintro e w5⟨gb2,ob2,ib2,vb2,d5,o5,rfl,kC,Ow⟩;obtain⟨NN,Px⟩:∃NN:World->ar->Dsk->Prop,NN=fun W o d=>yM w1 W pb db n o d L4 gb gen V ob ib vb es vs/\yM w1 W pb db n o d L4 gb2 (gen+1) V ob2 ib2 vb2 Uc Cx/\rN w1 W pb db n o d L4 V (gen+1) (done+KN) Uc Cx:=⟨_,rfl⟩;have ye:Hid (NN w5 o5 d5):=aa (by rw[Px];exact⟨PK.o.moved kC,Ow,zH.o.moved kC⟩);have PM:Hid (∀W o d,NN W o d->(∀{v:Nat}{x:ck},vs[v]? = some x->Calls prog 23 #[ptrTo gb,.int .u32 (v:Int)] W fun e w'=>∃d' o',e=.returned (.tuple #[qM x,.int .i64 0])/\au (fun _=>False) n pb db W o d w' o' d' L4)/\(∀{v:Nat}{x:ck},Cx[v]? = some x->Calls prog 23 #[ptrTo gb2,.int .u32 (v:Int)] W fun e w'=>∃d' o',e=.returned (.tuple #[qM x,.int .i64 0])/\au (fun _=>False) n pb db W o d w' o' d' L4)/\(∀{v:Nat},v<V->Calls prog 21 #[ptrTo gb,.int .u32 (v:Int)] W (eO n pb db W o d L4 (aX es v))/\Calls prog 22 #[ptrTo gb,.int .u32 (v:Int)] W (eO n pb db W o d L4 (eW es v))/\Calls prog 21 #[ptrTo gb2,.int .u32 (v:Int)] W (eO n pb db W o d L4 (aX Uc v))/\Calls prog 22 #[ptrTo gb2,.int .u32 (v:Int)] W (eO n pb db W o d L4 (eW Uc v)))/\aQ W pb db n o d L4/\∀W' o' d',au (fun _=>False) n pb db W o d W' o' d' L4->NN W' o' d'):=aa (fun W o d h=>by
     rw[Px]at h ⊢;exact⟨h.1.afk HW,h.2.1.afk HW,fun hv=>⟨h.1.iI.out HW hv,h.1.iI.p9 HW hv,h.2.1.iI.out HW hv,h.2.1.iI.p9 HW hv⟩,h.1.iI.held.aY,fun W' o' d' hm=>⟨h.1.moved hm,h.2.1.moved hm,h.2.2.moved hm⟩⟩)
    have HNG:Hid (∀W o d,NN W o d->rN w1 W pb db n o d L4 V (gen+1) (done+KN) Uc Cx/\vs.length=V/\Cx.length=V/\∀x∈es,x.t.toNat<V/\x.h.toNat<V):=aa (fun W o d h=>by rw[Px]at h;exact⟨h.2.2,h.1.len,h.2.1.len,h.1.iI.ends⟩);clear Px kC Ow hop zH PK;go_wp2_with fail;go_loopw [15,16] (fun vn vv W=>∃(v:Nat)(o:ar)(d:Dsk),vn=.int .u32 ((done:Int)+((below CH v:Nat):Int))/\vv=.int .i64 (v:Int)/\v<=V/\Hid (NN W o d)) (fun _ vv _=>V-(intOf vv).toNat)
    case atStart=>exact⟨0,o5,d5,by rw[LJ];simp,rfl,Nat.zero_le _,ye⟩
    case round=>
     obtain⟨v,o6,d6,rfl,rfl,hv,mz⟩:=hrel;generalize wr=W6 at *;clear ye;by_cases hlt:v<V
     ·have Q9:(v:Int)<(V:Int):=by omega
      have wv:IntKind.u32.wrap (v:Int)=(v:Int):=dY _ ae (by have:=HV.o;omega);have wv1:IntKind.i64.wrap ((v:Int)+1)=((v+1:Nat):Int):=by have:=HV.o;rw[ax]<;>omega
      have B7:=aa hlt;obtain⟨a,ha⟩:∃a,vs[v]? = some a:=⟨_,List.getElem?_eq_getElem (by rw[(HNG.o _ _ _ mz.out).2.1];exact hlt)⟩;obtain⟨c,hc⟩:∃c,Cx[v]? = some c:=⟨_,List.getElem?_eq_getElem (by rw[(HNG.o _ _ _ mz.out).2.2.1];exact hlt)⟩;have HA:=aa (show _/\_ from⟨ha,hc⟩);have Ua:=aa ((PM.o _ _ _ mz.out).1 ha);unfold ptrTo qM at Ua;clear ha hc;go_wp2_with fail;refine Ua.o.mono ?_;rintro e w7⟨d7,o7,rfl,rJ⟩;have kL:=aa ((PM.o _ _ _ mz.out).2.2.2.2 _ _ _ rJ);clear rJ Ua;have Ke:Hid (NN (w7.alloc (.cells #[.int .u32 (a.r.toNat:Int),.int .u32 (a.l.toNat:Int),.int .u32 (a.g.toNat:Int)] 55)) o7 d7/\(w7.alloc (.cells #[.int .u32 (a.r.toNat:Int),.int .u32 (a.l.toNat:Int),.int .u32 (a.g.toNat:Int)] 55)).heap[w7.heap.size]? = some (.cells #[.int .u32 (a.r.toNat:Int),.int .u32 (a.l.toNat:Int),.int .u32 (a.g.toNat:Int)] 55)/\o7 w7.heap.size=none):=aa (by
       have hp:=(PM.o _ _ _ kL.o).2.2.2.1;exact⟨(PM.o _ _ _ kL.o).2.2.2.2 _ _ _ ((au.refl _ hp).alloc _),heap_alloc_new _ _,hp.fresh (Nat.le_refl _)⟩)
      go_wp2_with fail;generalize w7.alloc (.cells #[.int .u32 (a.r.toNat:Int),.int .u32 (a.l.toNat:Int),.int .u32 (a.g.toNat:Int)] 55)=W8 at *;generalize w7.heap.size=ba at *;have hcc:=aa ((PM.o _ _ _ Ke.o.1).2.1 HA.o.2);unfold ptrTo qM at hcc;clear kL mz;refine hcc.o.mono ?_;rintro e w9⟨d9,o9,rfl,WM⟩;obtain⟨cr,mJ⟩:∃x,x=c.r.toNat:=⟨_,rfl⟩;obtain⟨cl,vB⟩:∃x,x=c.l.toNat:=⟨_,rfl⟩;obtain⟨cg,hcg⟩:∃x,x=c.g.toNat:=⟨_,rfl⟩;rw[<- mJ,<- vB,<- hcg];have HC:=aa (show _/\_/\_ from⟨mJ,vB,hcg⟩);obtain⟨PN,aaD⟩:∃W,W=w9.alloc (.cells #[.int .u32 (cr:Int),.int .u32 (cl:Int),.int .u32 (cg:Int)] 55):=⟨_,rfl⟩;have aaE:Hid (NN PN o9 d9/\PN.heap[ba]? = some (.cells #[.int .u32 (a.r.toNat:Int),.int .u32 (a.l.toNat:Int),.int .u32 (a.g.toNat:Int)] 55)/\PN.heap[w9.heap.size]? = some (.cells #[.int .u32 (cr:Int),.int .u32 (cl:Int),.int .u32 (cg:Int)] 55)):=aa (by
       have h9:=(PM.o _ _ _ Ke.o.1).2.2.2.2 _ _ _ WM;have hp:=(PM.o _ _ _ h9).2.2.2.1;have hb:w9.heap[ba]? = _:=WM.heap Ke.o.2.1 Ke.o.2.2 (fun e=>e);rw[aaD];exact⟨(PM.o _ _ _ h9).2.2.2.2 _ _ _ ((au.refl _ hp).alloc _),by rw[(MapKept.heap_alloc w9 _).2 _ (Array.getElem?_eq_some_iff.1 hb).1];exact hb,heap_alloc_new _ _⟩)
      clear WM hcc Ke mJ vB hcg;go_upto_region 26 with fail
      rw[<- aaD];clear aaD;generalize w9.heap.size=bc at *;obtain⟨-,ka,kc⟩:=aaE.o;have a0:PN.cell? ⟨ba,0,none⟩=some (.int .u32 (a.r.toNat:Int)):=by rw[aq ka];rfl
      have a1:PN.cell? ⟨ba,1,none⟩=some (.int .u32 (a.l.toNat:Int)):=by rw[aq ka];rfl
      have a2:PN.cell? ⟨ba,2,none⟩=some (.int .u32 (a.g.toNat:Int)):=by rw[aq ka];rfl
      have c0:PN.cell? ⟨bc,0,none⟩=some (.int .u32 (cr:Int)):=by rw[aq kc];rfl
      have c1:PN.cell? ⟨bc,1,none⟩=some (.int .u32 (cl:Int)):=by rw[aq kc];rfl
      have c2:PN.cell? ⟨bc,2,none⟩=some (.int .u32 (cg:Int)):=by rw[aq kc];rfl
      clear ka kc;have mA:Hid (NN PN o9 d9):=aa aaE.o.1;clear aaE;have hpl:=Y5.o v a HA.o.1;have Ns:=LK MN.o.1 v;by_cases WA:a.r=4294967295
      ·have aaF:(a.r.toNat:Int)=4294967295:=by rw[WA];rfl
       by_cases Ec:v∈CH
       ·obtain⟨-,h2,h3,h4,h5⟩:=hpl.2.2 Ec;have h2:=Option.some.inj (HA.o.2.symm.trans h2);have hP:cr=done+below CH v/\cl=gen+1:=by
         obtain⟨e1,e2,-⟩:=HC.o;have:=HK.o;have hbl:below CH v<=CH.length:=List.length_filter_le _ _;have h24:=(HNG.o _ _ _ mA.o).1.ok.ni;have:=HV.o;have:=MN.o.2.2;rw[e1,e2,h2];dsimp only;rw[UInt32.toNat_ofNat',UInt32.toNat_ofNat'];exact⟨Nat.mod_eq_of_lt ae,Nat.mod_eq_of_lt ae⟩
        have HVC:Hid (v∈CH/\below CH (v+1)=below CH v+1/\done+below CH v<100):=aa ⟨Ec,by rw[Ns,if_pos Ec],by
         have hbl:below CH v<=CH.length:=List.length_filter_le _ _;have h24:=(HNG.o _ _ _ mA.o).1.ok.ni;have:=HV.o;have:=MN.o.2.2;omega⟩
        obtain⟨uN,hO⟩:∃l,l=aX es v:=⟨_,rfl⟩;obtain⟨MW,hI⟩:∃l,l=eW es v:=⟨_,rfl⟩;have HOI:Hid ((∀x∈uN,∃l g,Cx[x.h.toNat]? = some ⟨4294967295,l,g⟩)/\∀x∈MW,∃l g,Cx[x.t.toNat]? = some ⟨4294967295,l,g⟩):=aa (by
         obtain⟨-,-,hl2,oM⟩:=HNG.o _ _ _ mA.o;have key:∀k,k<V->(∀c,Cx[k]? = some c->c.r=4294967295)->∃l g,Cx[k]? = some ⟨4294967295,l,g⟩:=fun k hk h=>by
          have h1:Cx[k]? = some Cx[k]:=List.getElem?_eq_getElem (by rw[hl2];exact hk);exact⟨Cx[k].l,Cx[k].g,by rw[h1,<- h _ h1]⟩
         rw[hO,hI];exact⟨fun x hx=>key _ (oM x (eQ.1 (nh.1 hx).1).1).2 fun c=>(h5 x c).1 hx,fun x hx=>key _ (oM x (eQ.1 (qW.1 hx).1).1).1 fun c=>(h5 x c).2 hx⟩)
        rw[hP.1]at c0;rw[hP.2]at c1;have WR:Hid (∀W o d,NN W o d->Calls prog 21 #[ptrTo gb,.int .u32 (v:Int)] W (eO n pb db W o d L4 uN)/\Calls prog 22 #[ptrTo gb,.int .u32 (v:Int)] W (eO n pb db W o d L4 MW)/\Calls prog 21 #[ptrTo gb2,.int .u32 (v:Int)] W (eO n pb db W o d L4 [])/\Calls prog 22 #[ptrTo gb2,.int .u32 (v:Int)] W (eO n pb db W o d L4 [])):=aa (fun W o d h=>by
         have:=(PM.o _ _ _ h).2.2.1 B7.o;rw[h3,h4,<- hO,<- hI]at this;exact this)
        have Cb:Hid (∀{W o d W' o' d'},NN W o d->au (fun _=>False) n pb db W o d W' o' d' L4->NN W' o' d'):=aa (fun h hm=>(PM.o _ _ _ h).2.2.2.2 _ _ _ hm);have z1:(((done:Int)+(below CH v:Int)) == 4294967295)=false:=by have:=HVC.o.2.2;simp;omega
        have z2:((a.r.toNat:Int) == 4294967295)=true:=by simp[aaF]
        have wn:IntKind.u32.wrap ((done:Int)+(below CH v:Int)+1)=(done:Int)+(below CH v:Int)+1:=dY _ ae (by have:=HVC.o.2.2;omega);unfold ptrTo eO at WR;clear hpl Ns WA aaF Ec h2 h3 h4 h5 hO hI hP;go_wp2_with fail;refine(WR.o _ _ _ mA.o).1.mono ?_;rintro e w11⟨vo,d11,o11,rfl,SV,aaG,afn⟩;obtain⟨oa,oc,rfl⟩:=az aaG;have WB:Hid (NN w11 o11 d11/\pX w11 o11 (.slice oa uN.length oc) uN):=aa ⟨Cb.o mA.o SV,_,aaG,afn⟩;clear SV aaG afn mA a0 a1 a2 c0 c1 c2;go_wp2_with fail;refine(WR.o _ _ _ WB.o.1).2.1.mono ?_;rintro e PL⟨vi,d12,Jq,rfl,Fo,aaH,Wk⟩;obtain⟨ia,ic,rfl⟩:=az aaH;have TM:Hid (NN PL Jq d12/\pX PL Jq (.slice oa uN.length oc) uN/\pX PL Jq (.slice ia MW.length ic) MW):=aa ⟨Cb.o WB.o.1 Fo,WB.o.2.moved Fo,_,aaH,Wk⟩;clear Fo aaH Wk WB;go_wp2_with fail;refine(WR.o _ _ _ TM.o.1).2.2.1.mono ?_;rintro e XO⟨vl,d13,o13,rfl,K9,afo,-⟩;obtain⟨la,lc,rfl⟩:∃a c,vl=.slice a 0 c:=az afo;have TN:Hid (NN XO o13 d13/\pX XO o13 (.slice oa uN.length oc) uN/\pX XO o13 (.slice ia MW.length ic) MW):=aa ⟨Cb.o TM.o.1 K9,TM.o.2.1.moved K9,TM.o.2.2.moved K9⟩;clear K9 afo TM;go_wp2_with fail;refine(WR.o _ _ _ TN.o.1).2.2.2.mono ?_;rintro e w14⟨vk,d14,o14,rfl,LB,afp,-⟩;obtain⟨ka,kc,rfl⟩:∃a c,vk=.slice a 0 c:=az afp;have WC:Hid (NN w14 o14 d14/\pX w14 o14 (.slice oa uN.length oc) uN/\pX w14 o14 (.slice ia MW.length ic) MW):=aa ⟨Cb.o TN.o.1 LB,TN.o.2.1.moved LB,TN.o.2.2.moved LB⟩;clear LB afp TN WR;have HVT:Hid (∀W o d,NN W o d->∀(k:Nat)(l g:UInt32),Cx[k]? = some ⟨4294967295,l,g⟩->Calls prog 23 #[.pointer (some ⟨gb2,0,none⟩),.int .u32 (k:Int)] W fun e w'=>∃d' o',e=.returned (.tuple #[.agg #[.int .u32 4294967295,.int .u32 (l.toNat:Int),.int .u32 (g.toNat:Int)],.int .i64 0])/\au (fun _=>False) n pb db W o d w' o' d' L4):=aa (fun W o d h k l g hk=>(PM.o _ _ _ h).2.1 hk);have HAL:Hid (∀{W o d},NN W o d->∀ob,au (fun _=>False) n pb db W o d (W.alloc ob) o d L4):=aa (fun h ob=>(au.refl _ (PM.o _ _ _ h).2.2.2.1).alloc ob);obtain⟨M1,FB⟩:∃k,k=uN.length:=⟨_,rfl⟩;obtain⟨M2,GY⟩:∃k,k=MW.length:=⟨_,rfl⟩;rw[<- FB,<- GY]at WC;have NU:=aa (show _/\_/\M1<=9223372036854775807/\M2<=9223372036854775807 from⟨FB,GY,by
         obtain⟨⟨_,⟨_,h⟩,_⟩,⟨_,⟨_,h'⟩,_⟩⟩:=WC.o.2;unfold maxLen at *;rcases h with⟨h1,h2⟩|⟨_,_,_,h1,_,_,h2,h3,_⟩<;>rcases h' with⟨h1',h2'⟩|⟨_,_,_,h1',_,_,h2',h3',_⟩<;>omega⟩)
        rw[<- FB,<- GY];clear FB GY;go_wp2_with fail;go_loopw [27] (fun vi W=>∃(i:Nat)(o:ar)(d:Dsk),vi=.int .i64 (i:Int)/\i<=M1/\Hid (NN W o d/\pX W o (.slice oa M1 oc) uN/\pX W o (.slice ia M2 ic) MW)) (fun vi _=>M1-(intOf vi).toNat)
        case atStart=>exact⟨0,o14,d14,rfl,Nat.zero_le _,WC⟩
        case round=>
         obtain⟨i,o15,d15,rfl,hi,Ja⟩:=hrel;generalize wr=W15 at *;clear WC;by_cases lu:i<M1
         ·as_aux_lemma=>
          have aaI:(i:Int)<(M1:Int):=by omega
          have wi:IntKind.i64.wrap ((i:Int)+1)=((i+1:Nat):Int):=by have:=NU.o;rw[ax]<;>omega
          obtain⟨x,hx⟩:∃x,uN[i]? = some x:=⟨_,List.getElem?_eq_getElem (by rw[<- NU.o.1];exact lu)⟩;obtain⟨b,off,cap,he,-,q1,-⟩:=Ja.out.2.1.get hx;obtain⟨rfl,rfl⟩:oa=some ⟨b,off,none⟩/\oc=cap:=by cases he;exact⟨rfl,rfl⟩
          clear he;obtain⟨xl,xg,hxv⟩:=HOI.o.1 x (List.mem_of_getElem? hx);have hct:=aa (HVT.o _ _ _ Ja.out.1 _ _ _ hxv);have HIL:=aa lu;clear hx hxv lu hi;go_wp2_with fail;refine hct.o.mono ?_;rintro e XZ⟨d16,Uk,rfl,A8⟩;have aaJ:Hid (∀ob,NN (XZ.alloc ob) Uk d16/\pX (XZ.alloc ob) Uk (.slice (some ⟨b,off,none⟩) M1 oc) uN/\pX (XZ.alloc ob) Uk (.slice ia M2 ic) MW):=aa (fun ob=>by
           have h:=Cb.o Ja.out.1 A8;have hm:=HAL.o h ob;exact⟨Cb.o h hm,(Ja.out.2.1.moved A8).moved hm,(Ja.out.2.2.moved A8).moved hm⟩)
          clear A8 hct q1;go_wp2;exact⟨⟨i+1,Uk,d16,rfl,HIL.o,aa (aaJ.o _)⟩,by have:=HIL.o;simp[intOf];omega⟩
         ·have aaI:¬(i:Int)<(M1:Int):=by omega
          clear hi lu;go_wp2_with fail;go_loopw [30] (fun vi W=>∃(i:Nat)(o:ar)(d:Dsk),vi=.int .i64 (i:Int)/\i<=M2/\Hid (NN W o d/\pX W o (.slice ia M2 ic) MW)) (fun vi _=>M2-(intOf vi).toNat)
          case atStart=>exact⟨0,o15,d15,rfl,Nat.zero_le _,aa ⟨Ja.out.1,Ja.out.2.2⟩⟩
          case round=>
           obtain⟨i,o17,d17,rfl,hi,Pb⟩:=hrel;generalize wr=W17 at *;clear Ja;by_cases lu:i<M2
           ·as_aux_lemma=>
            have aaI:(i:Int)<(M2:Int):=by omega
            have wi:IntKind.i64.wrap ((i:Int)+1)=((i+1:Nat):Int):=by have:=NU.o;rw[ax]<;>omega
            obtain⟨x,hx⟩:∃x,MW[i]? = some x:=⟨_,List.getElem?_eq_getElem (by rw[<- NU.o.2.1];exact lu)⟩;obtain⟨b,off,cap,he,q0,-⟩:=Pb.out.2.get hx;obtain⟨rfl,rfl⟩:ia=some ⟨b,off,none⟩/\ic=cap:=by cases he;exact⟨rfl,rfl⟩
            clear he;obtain⟨xl,xg,hxv⟩:=HOI.o.2 x (List.mem_of_getElem? hx);have hct:=aa (HVT.o _ _ _ Pb.out.1 _ _ _ hxv);have HIL:=aa lu;clear hx hxv lu hi;go_wp2_with fail;refine hct.o.mono ?_;rintro e XZ⟨d16,Uk,rfl,A8⟩;have aaJ:Hid (∀ob,NN (XZ.alloc ob) Uk d16/\pX (XZ.alloc ob) Uk (.slice (some ⟨b,off,none⟩) M2 ic) MW):=aa (fun ob=>by
             have h:=Cb.o Pb.out.1 A8;have hm:=HAL.o h ob;exact⟨Cb.o h hm,(Pb.out.2.moved A8).moved hm⟩)
            clear A8 hct q0;go_wp2;exact⟨⟨i+1,Uk,d16,rfl,HIL.o,aa (aaJ.o _)⟩,by have:=HIL.o;simp[intOf];omega⟩
           ·have aaI:¬(i:Int)<(M2:Int):=by omega
            have akI:=aa Pb.out.1;clear hi lu Pb;go_wp2;exact⟨⟨v+1,o17,d17,congrArg (Value.int .u32) (by have:=HVC.o.2.1;omega),rfl,B7.o,akI⟩,by have:=B7.o;simp[intOf];omega⟩
       ·as_aux_lemma=>
        have mJ:c.r=4294967295:=hpl.2.1 WA Ec c HA.o.2;have c0':PN.cell? ⟨bc,0,none⟩=some (.int .u32 4294967295):=by rw[c0,HC.o.1,mJ];rfl
        have a0':PN.cell? ⟨ba,0,none⟩=some (.int .u32 4294967295):=by rw[a0,WA];rfl
        have Mn:Hid (below CH (v+1)=below CH v):=aa (by rw[Ns,if_neg Ec,Nat.add_zero]);clear hpl Ns WA aaF Ec mJ c0 a0 a1 a2 c1 c2;go_wp2;exact⟨⟨v+1,o9,d9,by rw[Mn.o],rfl,B7.o,mA⟩,by have:=B7.o;simp[intOf];omega⟩
      ·as_aux_lemma=>
       have hcv:c=a:=Option.some.inj (HA.o.2.symm.trans (hpl.1 WA));have Ec:v ∉ CH:=fun h=>WA (hpl.2.2 h).1;have Mn:Hid (below CH (v+1)=below CH v):=aa (by rw[Ns,if_neg Ec,Nat.add_zero]);have aqK:((a.r.toNat:Int) == 4294967295)=false:=by
        simp only[beq_eq_false_iff_ne,ne_eq];intro h;exact WA (UInt32.toNat_inj.1 (show a.r.toNat=4294967295 by omega))
       obtain⟨e1,e2,e3⟩:=HC.o;rw[e1,hcv]at c0;rw[e2,hcv]at c1;rw[e3,hcv]at c2;clear hpl Ns WA Ec hcv e1 e2 e3;go_wp2;exact⟨⟨v+1,o9,d9,by rw[Mn.o],rfl,B7.o,mA⟩,by have:=B7.o;simp[intOf];omega⟩
     ·as_aux_lemma=>
      have Q9:¬(v:Int)<(V:Int):=by omega
      obtain rfl:v=V:=by omega
      have XB:Hid (done+below CH v=done+KN):=aa (by rw[Pa MN.o.2.1,MN.o.2.2]);have HGG:=aa (HNG.o _ _ _ mz.out).1;obtain⟨D2,T5⟩:∃x,x=done+KN:=⟨_,rfl⟩;have hsm:(done:Int)+(below CH v:Int)=(D2:Int):=by have:=XB.o;omega
      have hsk:(done:Int)+(KN:Int)=(D2:Int):=by omega
      have wsm:IntKind.u32.wrap (D2:Int)=(D2:Int):=dY _ ae (by have:=HGG.o.ok.ni;have:=HV.o;omega);rw[<- T5]at HGG;rw[hsm];clear T5 hsm;go_wp2;exact⟨⟨gen+1,D2,Uc,Cx,o6,d6,L4,rfl,rfl,ae,HGG⟩,by simp[intOf];omega⟩
  ·as_aux_lemma=>
   have VO:¬(gen:Int)<=(Z:Int):=by omega
   go_wp2_with fail;refine(HWK.o _).mono ?_;rintro e w5⟨rfl,oN⟩;have HQ:=aa (HP.o _ (HT.o _ _ UQ.o oN));clear oN;go_wp2;exact HQ.o
end
end Go.Proofs.YthkkgdpomhhjjaaGreatDoor
namespace Go.Proofs.YthkkgdpomhhjjaaGreatDoor.ContractPicks
open Go.ChangeShapes Go.WideShapes Go.ChangeAt Go.RowKit Go.Joins
theorem closed:joinedFacts Tryz.pinned.checked.prog 5 Tryz.f5 (OpenSpec.ofChange Rows.contractPicksSpec).bare Rows.contractPicksRow=true:=by
 unfold joinedFacts;repeat' with_reducible apply agy
 all_goals as_aux_lemma=>kernel_rfl
end Go.Proofs.YthkkgdpomhhjjaaGreatDoor.ContractPicks
