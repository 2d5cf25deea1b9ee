/-
  Joined.
-/
import Derived.Test.YthkkgdpomhhjjaaGreatDoorD15
set_option maxRecDepth 100000
set_option maxHeartbeats 16000000
namespace Go.Proofs.YthkkgdpomhhjjaaGreatDoor
open Go.Proofs.Tryz
section
open Go.RowKit Go.Maps
def FJ(w:World)(es:List aJ)(vs:List bW)(e:Ending)(w':World):Prop:=∃gv hv,e=.returned (.agg #[gv,hv])/\kL w' gv es/\eH w' hv vs/\Below w.heap.size w w'/\(∀b,gv.ownBlock=some b->w.heap.size<=b)/\∀b,hv.ownBlock=some b->w.heap.size<=b
theorem LY(ev vv:Value)(es:List aJ)(vs:List bW)(w:World)(he:kL w ev es)(hv:P1 w vv vs)(h1:es.length<=1000)(h2:vs.length<=1000):Calls prog 13 #[ev,vv] w (FJ w (aK false es) vs):=by
 have kK:Hid (Below w.heap.size w (w.alloc (.cells #[.slice none 0 0,.slice none 0 0] 34))):=aa ai;have CE:Hid ((w.alloc (.cells #[.slice none 0 0,.slice none 0 0] 34)).heap[w.heap.size]? = some (.cells #[.slice none 0 0,.slice none 0 0] 34)):=aa (heap_alloc_new w _);have PF:=aa (Lu ev es false _ (he.below kK.o) ae);have HV:=aa hv;have Pr:w.heap.size<(w.alloc (.cells #[.slice none 0 0,.slice none 0 0] 34)).heap.size:=by simp
 clear he hv;go_enter func13,ntmps13;go_wp2_with fail;generalize w.alloc (.cells #[.slice none 0 0,.slice none 0 0] 34)=W0 at *;refine PF.o.mono ?_;rintro e w1⟨gv,rfl,hg1,hb1⟩;obtain⟨ga,gn,gc,rfl⟩:∃a n c,gv=.slice a n c:=by
  obtain⟨a,c,h,-⟩:=lx hg1;grind
 have HGB:Hid (∀b,(Value.slice ga gn gc).ownBlock=some b->w.heap.size<b):=aa (fun b hb=>by have:=aF hg1 b hb;omega);have JB:=aa (lx hg1);have cT:=aa hb1;have UX:=aa ((HV.o.below kK.o).below hb1);clear hg1 hb1 PF;go_wp2_with
  (refine kW (w:=w1) (by rfl) _ _ rfl rfl _ vs rfl UX.o ae (fun v2 w2 HVs HVo cZ=>?_)
   obtain⟨va,vn,vc,akR⟩:∃a n c,v2=.slice a n c:=by
    obtain⟨a,c,h,-⟩:=HVs.out;grind
   subst akR;have mE:Hid (w2.heap[w.heap.size]? = some (.cells #[.slice none 0 0,.slice none 0 0] 34)):=aa (by
    rw[cZ.out.block _ (Nat.lt_of_lt_of_le Pr cT.o.size),cT.o.block _ Pr];assumption)
   have k0:w2.cell? ⟨w.heap.size,0,none⟩=some (.slice none 0 0):=by rw[aq mE.o];rfl
   have k1:w2.cell? ⟨w.heap.size,1,none⟩=some (.slice none 0 0):=by rw[aq mE.o];rfl
   have z0:=aO mE.o 0;have z1:=aO mE.o 1;have HY:Hid (((w2.setCell ⟨w.heap.size,0,none⟩ (.slice ga gn gc)).setCell ⟨w.heap.size,1,none⟩ (.slice va vn vc)).heap[w.heap.size]? = some (.cells #[.slice ga gn gc,.slice va vn vc] 34)):=aa (by
    rw[aT (aT mE.o 0 (.slice ga gn gc)) 1 (.slice va vn vc)];rfl)
   have Rv:Hid (Below w.heap.size w ((w2.setCell ⟨w.heap.size,0,none⟩ (.slice ga gn gc)).setCell ⟨w.heap.size,1,none⟩ (.slice va vn vc))):=aa (((kK.o.trans ((cT.o.trans (cZ.out.mono cT.o.size)).mono kK.o.size)).setCell (Nat.le_refl _) _).setCell (Nat.le_refl _) _);have Ig:Hid (kL ((w2.setCell ⟨w.heap.size,0,none⟩ (.slice ga gn gc)).setCell ⟨w.heap.size,1,none⟩ (.slice va vn vc)) (.slice ga gn gc) (aK false es)):=aa ((JB.o.below cZ.out).other (fun b hb=>by
    grind [Hid.out,Below.heap_setCell]))
   have HVE:Hid (eH ((w2.setCell ⟨w.heap.size,0,none⟩ (.slice ga gn gc)).setCell ⟨w.heap.size,1,none⟩ (.slice va vn vc)) (.slice va vn vc) vs):=aa (HVs.out.Nd (fun b hb=>by
    have h1:=HVo.out b hb;have h2:=cT.o.size;grind [Below.heap_setCell]))
   clear CE)
 generalize ((w2.setCell ⟨w.heap.size,0,none⟩ (.slice ga gn gc)).setCell ⟨w.heap.size,1,none⟩ (.slice va vn vc))=w3 at *;have q0:w3.cell? ⟨w.heap.size,0,none⟩=some (.slice ga gn gc):=by rw[aq HY.o];rfl
 have q1:w3.cell? ⟨w.heap.size,1,none⟩=some (.slice va vn vc):=by rw[aq HY.o];rfl
 exact bodyPost_ret (v:=.agg #[.slice ga gn gc,.slice va vn vc]) (by simp[results,Tryz.results13,go_sem,q0,q1]) rfl ⟨_,_,rfl,Ig.o,HVE.o,Rv.o,fun b hb=>Nat.le_of_lt (HGB.o b hb),fun b hb=>Nat.le_trans (Nat.le_trans (Nat.le_of_lt Pr) cT.o.size) (HVo.out b hb)⟩
theorem uU{w:World}{ops:Array Oper}{rest:List Oper}{op:Oper}{a:Act}{Q:Exit->Act->World->Prop}(hgd:op.guard=none)(s x:Operand)(ho:op.op=.call { callee:=.builtin .append,args:=#[s,x],argTypes:=#[23,23] })(base:Nat)(v:Value)(l:List bW)(hs:a.eval s=v)(hown:dP w base v l)(y:bW)(c:Nat)(hx:a.eval x=.slice (some ⟨w.heap.size,0,none⟩) 1 c)(hl:l.length<=100000)(hbase:base<=w.heap.size)(k:∀v' w',dP w' base v' (l++[y])->lr v (w.alloc (.cells #[.int .u32 (y.r.toNat:Int),.int .u32 (y.l.toNat:Int),.int .u32 (y.g.toNat:Int)] 55)) w' v'->wpList prog ops Q rest (a.put op.dst v') w') :
 wpList prog ops Q (op::rest) a (w.alloc (.cells #[.int .u32 (y.r.toNat:Int),.int .u32 (y.l.toNat:Int),.int .u32 (y.g.toNat:Int)] 55)):=by
 refine dR hgd s x 23 ho base 55 _ 3 12 Tryz.underlying23 wT rfl af v l.length (cL l) hs (World.ownsRow.alloc hown _) ⟨w.heap.size,0,none⟩ 1 c [.int .u32 (y.r.toNat:Int),.int .u32 (y.l.toNat:Int),.int .u32 (y.g.toNat:Int)] hx rfl (fun j u hj=>?_) (by simp[Value.oneCell']) (by grind [maxLen]) ae (by simp;omega) (fun v' w' h1 h2=>k v' w' ?_ h2)
 ·rw[bG,Nat.zero_add];simp_all
 ·unfold dP;rw[sI,List.length_append];exact h1
def iK:bW:=⟨4294967295,0,0⟩
theorem cW(b:Bool):aK b []=[]:=((bU b []).unique (dM.nil b))
theorem FK(n:Nat)(hn:n<=100)(w:World):Calls prog 61 #[.int .i64 (n:Int),.slice none 0 0] w (FJ w [] (List.replicate n iK)):=by
 have HN:=aa hn;have kK:Hid (Below w.heap.size w (w.alloc (.cells #[.slice none 0 0,.slice none 0 0] 34))):=aa ai;have CE:Hid ((w.alloc (.cells #[.slice none 0 0,.slice none 0 0] 34)).heap[w.heap.size]? = some (.cells #[.slice none 0 0,.slice none 0 0] 34)):=aa (heap_alloc_new _ _);have Pr:w.heap.size<(w.alloc (.cells #[.slice none 0 0,.slice none 0 0] 34)).heap.size:=by simp
 have Mz:=aa Pr;clear hn Pr;go_enter func61,ntmps61;go_wp2_with fail;generalize w.alloc (.cells #[.slice none 0 0,.slice none 0 0] 34)=W0 at *;go_loopw [5,6] (fun vl vi wr=>∃(k:Nat),vi=.int .i64 (k:Int)/\k<=n/\Hid (Below W0.heap.size W0 wr/\dP wr W0.heap.size vl (List.replicate k iK))) (fun _ vi _=>n-(intOf vi).toNat)
 case atStart=>exact⟨0,rfl,Nat.zero_le _,aa ⟨Below.refl _ _,World.ownsRow_nil _ _ _ _⟩⟩
 case round=>
  generalize u5=lv at *;obtain⟨k,rfl,hk,HS⟩:=hrel;generalize wr=W1 at *;obtain⟨la,lc,FP⟩:=az HS.out.2;rw[List.length_replicate]at FP;subst FP;by_cases hlt:k<n
  ·have FV:(k:Int)<(n:Int):=by omega
   have wk:IntKind.i64.wrap ((k:Int)+1)=((k+1:Nat):Int):=by grind [Hid.out,ax]
   have yE:k<=100000:=by grind [Hid.out]
   go_wp2_with (at_builtin;go_loud (refine uU rfl _ _ rfl W0.heap.size _ (List.replicate k iK) rfl HS.out.2 iK 1 (by rfl) (by grind) HS.out.1.size ?_);intro v2 w2 h2 ha;have eR:Hid (Below W0.heap.size W0 w2/\dP w2 W0.heap.size v2 (List.replicate (k+1) iK)):=aa ⟨(gK (HS.out.1.alloc HS.out.1.size _) (fun b hb=>aF HS.out.2 b hb) ha).1,by grind [List.replicate_succ']⟩;clear h2 ha);grind [intOf]
  ·have FV:¬(k:Int)<(n:Int):=by omega
   obtain rfl:k=n:=by omega
   have Um:=aa (LY (.slice none 0 0) (.slice la k lc) [] (List.replicate k iK) W1 (SU W1) (kf HS.out.2).1.rd ah (by grind [Hid.out]));rw[cW]at Um;go_wp2_with fail;refine Um.o.mono ?_;rintro e w2⟨gv,hv,rfl,hg2,hv2,hb2,akS,akT⟩;obtain⟨ga,gc,rfl,-⟩:=id hg2;obtain⟨va,vc,rfl,-⟩:=id hv2;have hz1:=HS.out.1.size;have hz2:=Mz.o;have mE:Hid (w2.heap[w.heap.size]? = some (.cells #[.slice none 0 0,.slice none 0 0] 34)):=aa ((hb2.block _ ae).trans ((HS.out.1.block _ hz2).trans CE.o));have k0:w2.cell? ⟨w.heap.size,0,none⟩=some (.slice none 0 0):=by rw[aq mE.o];rfl
   have k1:w2.cell? ⟨w.heap.size,1,none⟩=some (.slice none 0 0):=by rw[aq mE.o];rfl
   have f0:=aO mE.o 0;have f1:=aO mE.o 1;have Rv:Hid (Below w.heap.size w ((w2.setCell ⟨w.heap.size,0,none⟩ (.slice ga ([]:List aJ).length gc)).setCell ⟨w.heap.size,1,none⟩ (.slice va (List.replicate k iK).length vc))):=aa (((kK.o.trans ((HS.out.1.trans (hb2.mono hz1)).mono ae)).setCell (Nat.le_refl _) _).setCell (Nat.le_refl _) _);have HY:Hid (((w2.setCell ⟨w.heap.size,0,none⟩ (.slice ga ([]:List aJ).length gc)).setCell ⟨w.heap.size,1,none⟩ (.slice va (List.replicate k iK).length vc)).heap[w.heap.size]? = some (.cells #[.slice ga ([]:List aJ).length gc,.slice va (List.replicate k iK).length vc] 34)):=aa (by
    rw[aT (aT mE.o 0 (.slice ga ([]:List aJ).length gc)) 1 (.slice va (List.replicate k iK).length vc)];rfl)
   have Ig:Hid (kL ((w2.setCell ⟨w.heap.size,0,none⟩ (.slice ga ([]:List aJ).length gc)).setCell ⟨w.heap.size,1,none⟩ (.slice va (List.replicate k iK).length vc)) (.slice ga ([]:List aJ).length gc) []):=aa ⟨ga,gc,rfl,.inl rfl⟩;have HVE:Hid (eH ((w2.setCell ⟨w.heap.size,0,none⟩ (.slice ga ([]:List aJ).length gc)).setCell ⟨w.heap.size,1,none⟩ (.slice va (List.replicate k iK).length vc)) (.slice va (List.replicate k iK).length vc) (List.replicate k iK)):=aa (hv2.Nd (fun b hb=>by
    grind [Below.heap_setCell]))
   have HGO:Hid ((∀b,(Value.slice ga ([]:List aJ).length gc).ownBlock=some b->w.heap.size<=b)/\∀b,(Value.slice va (List.replicate k iK).length vc).ownBlock=some b->w.heap.size<=b):=aa ⟨fun b hb=>by grind,fun b hb=>by grind⟩;rw[List.length_replicate]at Rv HY Ig HVE HGO ⊢;rw[List.length_nil]at Rv HY Ig HVE HGO ⊢;clear hg2 hv2 hb2 akS akT Um mE hz1 hz2;go_wp2_with fail;generalize (w2.setCell ⟨w.heap.size,0,none⟩ (.slice ga 0 gc)).setCell ⟨w.heap.size,1,none⟩ (.slice va k vc)=w3 at *;have q0:w3.cell? ⟨w.heap.size,0,none⟩=some (.slice ga 0 gc):=by rw[aq HY.o];rfl
   have q1:w3.cell? ⟨w.heap.size,1,none⟩=some (.slice va k vc):=by rw[aq HY.o];rfl
   exact bodyPost_ret (v:=.agg #[.slice ga 0 gc,.slice va k vc]) (by simp[results,Tryz.results61,go_sem,q0,q1]) rfl ⟨_,_,rfl,Ig.o,HVE.o,Rv.o,HGO.o.1,HGO.o.2⟩
structure CR(L:aD)(l:List aJ)(n:Nat):Prop where
 e:aB L (aG 101 0)=some (aw (aK false l) true)
 r:aB L (aG 114 0)=some (aw (aK true l) true)
 v:aB L (aG 118 0)=some (b7 (List.replicate n iK) true)
 sK:∀y,y≠aG 101 0->y≠aG 114 0->y≠aG 118 0->aB L y=none
 need:need L<=12*l.length+4*n
theorem WG{L:aD}{l:List aJ}{n:Nat}(h:CF l L):CR (b8 (fP L 0 l (List.replicate n iK)) yV) l n:=by
 obtain⟨f1,f2,f3⟩:=yl L 0 l (List.replicate n iK);refine⟨by rw[cP,if_neg (pK _ _),f1],by rw[cP,if_neg (pK _ _),f2],by rw[cP,if_neg (pK _ _),f3],fun y h1 h2 h3=>?_,?_⟩
 ·rw[cP];by_cases e:y=yV
  ·rw[if_pos e]
  ·rw[if_neg e,rK h1 h2 h3,h.2.1 y e]
 ·have g1:=FD (fP L 0 l (List.replicate n iK)) yV;have g2:=AU L 0 l (List.replicate n iK);have g3:=h.2.2;rw[List.length_replicate]at g2;omega
def FL(w:World)(n:Nat)(l:List aJ)(N:Nat)(e:Ending)(w':World):Prop:=
 ∃db pb o d L,e=.returned (.tuple #[ptrTo db,ptrTo pb])/\Held w w' pb db n o d L/\CR L l N
theorem sM(n:Nat)(es:List aJ):(gZ n es).length<=80:=by
 unfold gZ;split
 ·simp
 ·rw[List.length_map,List.length_take];omega
theorem yA(HW:aP){m:Nat}(yS:dZ m){w:World}{ev:Value}{es:List aJ}(N F:Nat)(hN:N<256)(hF:F<256)(he:kL w ev es)(hm:(gZ (N%25) es).length<=m) :
 Calls prog 30 #[.agg #[.int .u8 (N:Int),ev,.int .u8 (F:Int)]] w (FL w (8+F%40) (gZ (N%25) es) (N%25)):=by
 have V3:=aa (fun W(hW:Below w.heap.size w W)=>D3 N F hN (he.below hW));have HLN:=aa (sM (N%25) es);have Ob:=aa hm;obtain⟨ea,ec,rfl,-⟩:=id he;generalize hV:N%25=V at *;have HV:Hid (V<25):=aa ae;obtain⟨z,hz⟩:∃z,z=F%40:=⟨_,rfl⟩;have hF1:wrap64 (F:Int)=(F:Int):=by unfold wrap64;omega
 have hF2:(F:Int)%40=(z:Int):=by omega
 have hF3:IntKind.i64.wrap (8+(z:Int))=((8+z:Nat):Int):=by rw[ax]<;>omega
 have HZ:Hid (z<40):=aa ae;rw[<- hz];generalize gZ V es=l at *;have kK:Hid (Below w.heap.size w (w.alloc (.cells #[.int .u8 (N:Int),.slice ea es.length ec,.int .u8 (F:Int)] 69))):=aa ai;have CE:Hid ((w.alloc (.cells #[.int .u8 (N:Int),.slice ea es.length ec,.int .u8 (F:Int)] 69)).heap[w.heap.size]? = some (.cells #[.int .u8 (N:Int),.slice ea es.length ec,.int .u8 (F:Int)] 69)):=aa (heap_alloc_new _ _);obtain⟨PST,mq⟩:∃P,P=FL w (8+z) l V:=⟨_,rfl⟩;have xz:=aa mq;rw[<- mq];clear he hm hV hz hN hF mq;generalize es.length=EL at *;go_enter func30,ntmps30;go_wp2_with fail;generalize X9:w.heap.size=wb at *;generalize w.alloc (.cells #[.int .u8 (N:Int),.slice ea EL ec,.int .u8 (F:Int)] 69)=W0 at *;have Ya:Hid (w.heap.size=wb/\wb<W0.heap.size):=aa ⟨X9,(Array.getElem?_eq_some_iff.1 CE.o).1⟩;clear X9;have hsm:=aa (V3.o W0 kK.o);unfold xC at hsm;refine hsm.o.mono ?_;rintro e w1⟨v1,rfl,hb1,k9⟩;obtain⟨a1,c1,rfl⟩:=az k9;have FO:w1.heap[wb]? = some (.cells #[.int .u8 (N:Int),.slice ea EL ec,.int .u8 (F:Int)] 69):=(hb1.block _ Ya.o.2).trans CE.o;have b2:w1.cell? ⟨wb,2,none⟩=some (.int .u8 (F:Int)):=by rw[aq FO];rfl
 have cT:Hid (Below wb w w1):=aa (kK.o.trans (hb1.mono (Nat.le_of_lt Ya.o.2)));have CC:=aa (VS HW (8+z) ae (by have:=HZ.o;omega) _ l w1 (lx k9) (by have:=HLN.o;omega));unfold MP ptrTo at CC;clear hb1 k9 FO hsm V3;go_wp2_with fail;refine CC.o.mono ?_;rintro e w2⟨db,pb,o2,d2,L2,rfl,hh2,hr2⟩;have XO:=aa hh2;have Cy:=aa hr2;have hbg:=aa (FK V (by have:=HV.o;omega) w2);clear hh2 hr2 CC b2 hF1 hF2 hF3;unfold ptrTo FJ at *;go_wp2_with fail;refine hbg.o.mono ?_;rintro e w3⟨gv,hv,rfl,-,hv3,hb3,-,iN⟩;have FW:=aa (XO.o.later hb3);have vL:=aa (OE HW yS FW.o ae Cy.o (gen:=0) (.inl af) Ob.o (by have:=HLN.o;omega) hv3 (fun b hb=>XO.o.aX.fresh (iN b hb)) (by rw[List.length_replicate];have:=HV.o;omega));obtain⟨va,vc,rfl,-⟩:=hv3;rw[List.length_replicate]at vL ⊢;have Td:∀w:World,(Instr.field 34 (.agg #[gv,.slice va V vc]) 1).run prog w=.ok (.slice va V vc) w:=fun _=>by kernel_rfl
 unfold Iw yV ptrTo at vL;clear hb3 iN hbg;go_wp2_with fail;refine vL.o.mono ?_;rintro e w4⟨d4,o4,rfl,PD⟩;have HH4:=aa PD;have hdr:Hid (Calls prog 62 #[ptrTo pb,.string yV] w4 fun e w'=>∃gB gP,e=.returned (.int .i64 0)/\Held w1 w' pb db (8+z) gP gB (b8 (fP L2 0 l (List.replicate V iK)) yV)):=aa (by
  obtain⟨fl,Mu⟩:=Cy.o.1;refine(uj PD.aX (name:=yV) (by rw[rK (pK _ _).symm (pK _ _).symm (pK _ _).symm];exact Mu)).mono ?_;rintro e w'⟨c,gB,gP,xQ,rfl,hp,ht,hg,yD,hdr⟩;have cQ:au (fun _=>False) (8+z) pb db w4 o4 d4 w' gP gB xQ:=jn hp ht hg yD;have hh:=PD.moved cQ (fun _ e=>e.elim);rcases hdr with⟨rfl,rfl⟩|⟨-,h2,-⟩
  ·exact⟨gB,gP,rfl,hh⟩
  ·rw[hh.dead]at h2;cases h2)
 unfold yV ptrTo at hdr;clear PD vL;go_wp2_with fail;refine hdr.o.mono ?_;rintro e w5⟨d5,o5,rfl,T2⟩;have HQF:Hid (PST (.returned (.tuple #[ptrTo db,ptrTo pb])) w5):=aa (by
  rw[xz.o];have h1:=WG (n:=V) Cy.o;unfold yV at h1;exact⟨db,pb,o5,d5,_,rfl,T2.SX (by have:=cT.o;rwa [Ya.o.1]),h1⟩)
 clear T2 hdr;unfold ptrTo at HQF;go_wp2;exact HQF.o
end
section
open Go.RowKit Go.Maps
def FY:List aJ:=[⟨0,1,1,4294967295⟩,⟨1,2,1,4294967295⟩]
def WH:List bW:=[iK,iK,iK]
def y4:List bW:=[⟨0,1,0⟩,⟨4294967295,1,2⟩,⟨1,1,0⟩]
def LZ:List bW:=[⟨0,1,0⟩,⟨2,2,2⟩,⟨1,1,0⟩]
theorem oP(b:Bool):aK b FY=FY:=by
 refine(dM.eq ⟨?_,fun e he=>?_,fun x hx _=>⟨x,hx,rfl,rfl⟩⟩).symm
 ·cases b<;>decide
 ·refine⟨he,?_,fun x hx hs=>?_⟩
  ·revert e;decide
  ·have h1:∀x∈FY,∀e∈FY,x.t=e.t->x=e:=by decide
   rw[h1 x hx e he hs.1];simp
theorem TP:gZ 3 [⟨0,1,1,0⟩,⟨1,2,1,0⟩]=FY:=by decide
theorem uV:aA FY WH=[0,2]:=by
 unfold aA er oK cV;unfold aY fC;simp only[oP];rfl
theorem uW:aA [] y4=[1]:=by
 unfold aA er oK cV;unfold aY fC;simp only[cW];rfl
theorem uX:aA [] LZ=[]:=by
 rfl
theorem TQ:fM FY [0,2]=[]:=by
 unfold fM gJ iJ;unfold aY fC;simp only[oP];rfl
theorem TR:fM [] [1]=[]:=by
 unfold fM gJ iJ;unfold aY fC;simp only[cW];rfl
theorem aft:wY FY [0,2]=[⟨0,1,1,4294967295⟩]:=by
 unfold wY aY;simp only[oP];rfl
theorem TS:fR FY [0,2]=[⟨1,2,1,4294967295⟩]:=by
 unfold fR fC;simp only[oP];rfl
theorem afu:wY [] [1]=[]:=by
 unfold wY aY;simp only[cW];rfl
theorem TT:fR [] [1]=[]:=by
 unfold fR fC;simp only[cW];rfl
theorem WL:cn FY WH 0 0 [0,2]=y4:=by
 unfold cn fZ cV;unfold aY fC;simp only[oP];rfl
theorem WM:cn [] y4 2 1 [1]=LZ:=by
 unfold cn fZ cV;unfold aY fC;simp only[cW];rfl
section
variable {w0 w w':World} {pb db:Nat} {o:ar} {d:Dsk} {L L':aD}
theorem akU(hh:Held w0 w pb db 8 o d L)(hg:CR L FY 3)(m:Nat):TK w0 w pb db 8 o d L 0 0 m FY WH:=by
 have hn:=hg.need;have hl:FY.length=2:=rfl;refine⟨hh,af,af,hg.e,hg.r,hg.v,af,af,af,?_,fun c=>hg.sK _ (bm af) (bm af) (bm af),fun k=>hg.sK _ (bq _ af _ _).symm (bq _ af _ _).symm (bq _ af _ _).symm,?_,?_,?_,?_⟩
 ·unfold er;exact Nat.le_trans (List.length_filterMap_le _ _) af
 ·grind [uV,TQ]
 ·rw[uV,TQ,aft,TS,hl];have:WH.length=3:=rfl;grind
 ·grind [uV]
 grind [fC,FY,Ip,oP,aY]
theorem akV(hh:Held w0 w pb db 8 o d L')(hg:CR L FY 3)(hr:lz L L' 0 [] [⟨0,1,1,4294967295⟩] [⟨1,2,1,4294967295⟩] y4)(m:Nat):TK w0 w pb db 8 o d L' 1 2 m [] y4:=by
 have hn:=hg.need;have hl:FY.length=2:=rfl;have hk:=hr.need;have e1:=gl (aK false []);have e2:=gl (aK true []);have e3:=gl [⟨0,1,1,4294967295⟩];have e4:=gl [⟨1,2,1,4294967295⟩];have e5:vN y4<=4*y4.length:=fU _ _;rw[cW]at e1 e2;rw[cW,cW]at hk;simp only[List.length_nil,List.length_singleton]at e1 e2 e3 e4;have e6:y4.length=3:=rfl;refine⟨hh,af,af,hr.e,hr.r,hr.v,af,af,af,?_,fun c=>?_,fun k=>?_,?_,?_,?_,?_⟩
 ·unfold er;exact Nat.le_trans (List.length_filterMap_le _ _) af
 ·rw[hr.sK _ (bm af) (bm af) (bm af) (bm af) (bm af)];grind [CR.sK,bm]
 ·rw[hr.sK _ (bq _ af _ _).symm (bq _ af _ _).symm (bq _ af _ _).symm (bq _ af _ _).symm (bq _ af _ _).symm];grind [CR.sK,bq]
 ·grind [uW,TR]
 ·grind [uW,TR,afu,TT]
 ·grind [uW]
 grind [fC,Ip,cW]
theorem akW{L0:aD}(hh:Held w0 w pb db 8 o d L')(hg:CR L0 FY 3)(h0:lz L0 L 0 [] [⟨0,1,1,4294967295⟩] [⟨1,2,1,4294967295⟩] y4)(hr:lz L L' 1 [] [] [] LZ)(m:Nat):TK w0 w pb db 8 o d L' 2 3 m [] LZ:=by
 have hn:=hg.need;have hl:FY.length=2:=rfl;have hk:=hr.need;have JP:=h0.need;have e1:=gl (aK false []);have e2:=gl (aK true []);have e3:=gl [⟨0,1,1,4294967295⟩];have e4:=gl [⟨1,2,1,4294967295⟩];have e5:vN y4<=4*y4.length:=fU _ _;have e7:vN LZ<=4*LZ.length:=fU _ _;rw[cW]at e1 e2;rw[cW,cW]at hk JP;simp only[List.length_nil,List.length_singleton]at e1 e2 e3 e4;have e6:y4.length=3:=rfl;have e8:LZ.length=3:=rfl;refine⟨hh,af,af,hr.e,hr.r,hr.v,af,af,af,?_,fun c=>?_,fun k=>?_,?_,?_,?_,?_⟩
 ·unfold er;exact Nat.le_trans (List.length_filterMap_le _ _) af
 ·rw[hr.sK _ (bm af) (bm af) (bm af) (bm af) (bm af),h0.sK _ (bm af) (bm af) (bm af) (bm af) (bm af)];grind [CR.sK,bm]
 ·rw[hr.sK _ (bq _ af _ _).symm (bq _ af _ _).symm (bq _ af _ _).symm (bq _ af _ _).symm (bq _ af _ _).symm,h0.sK _ (bq _ af _ _).symm (bq _ af _ _).symm (bq _ af _ _).symm (bq _ af _ _).symm (bq _ af _ _).symm];grind [CR.sK,bq]
 ·grind [uX,fM,gJ,cW]
 ·grind [uX,fM,gJ,cW,wY,fR]
 ·grind [uX]
 grind [fC,Ip,cW]
end
end
section
open Go.RowKit Go.Maps
def gN:Nat->Nat
 |0=>0
 |s+1=>gN s+(8*(s*s)+8*s+96)
theorem aaM(r k:Nat):gN r+k*(8*(r*r)+8*r+96)<=gN (r+k):=by
 induction k with
 |zero=>simp
 |succ k ih=>
   have h:=Nat.mul_le_mul (show r<=r+k by omega) (show r<=r+k by omega);rw[Nat.add_mul,Nat.one_mul,show r+(k+1)=(r+k)+1 by omega,gN];omega
section
variable {N done gen n pb db:Nat} {es:List aJ} {vs:List bW} {w0 w w':World} {o o':ar} {d d':Dsk} {L L':aD} {b:Bool}
def Br(N:Nat)(vs:List bW):List Nat:=(List.range N).filter fun i=>!jC vs i
theorem iV.rest(h:iV N es vs done):(Br N vs).length+done=N:=by
 have h1:=yw (l:=List.range N) (p:=jC vs) (q:=fun i=>!jC vs i) (r:=fun _=>true) (fun x _=>by simp) (fun x _ h1 h2=>by simp[h1]at h2);rw[h.count,List.filter_eq_self.2 (fun _ _=>rfl),List.length_range]at h1;unfold Br;omega
theorem TU{i:Nat}:i∈Br N vs↔i<N/\jC vs i=false:=by
 unfold Br;simp
theorem tx(b:Bool)(l:List aJ):((aK b l).map fun x=>(x.t.toNat,x.h.toNat)).Nodup:=by
 refine List.pairwise_map.2 ((bU b l).gC.imp fun{x y}h e=>?_);rw[Prod.mk.injEq]at e;unfold pk at h;cases b<;>simp only[if_true,if_false,Bool.false_eq_true]at h<;>omega
theorem mr{α β:Type}{l:List α}{f:α->List β}{m:Nat}(h:∀x∈l,(f x).length<=m):(l.flatMap f).length<=l.length*m:=by
 induction l with
 |nil=>simp
 |cons a l ih=>
   have:=h a ah;have:=ih fun x hx=>h x (by simp[hx]);rw[List.flatMap_cons,List.length_append,List.length_cons,Nat.add_mul];omega
theorem Nh{l:List aJ}{S:List Nat}(hs:l.Sublist (aK b es))(h:∀x∈l,x.t.toNat∈S/\x.h.toNat∈S):l.length<=S.length*S.length:=by
 have h1:(l.map fun x=>(x.t.toNat,x.h.toNat)).Nodup:=(hs.map _).nodup (tx b es);have h2:=oL (l₂:=S.flatMap fun a=>S.map fun c=>(a,c)) h1 (fun p hp=>by
  obtain⟨x,hx,rfl⟩:=List.mem_map.1 hp;exact List.mem_flatMap.2 ⟨_,(h x hx).1,List.mem_map.2 ⟨_,(h x hx).2,rfl⟩⟩)
 rw[List.length_map]at h2;exact Nat.le_trans h2 (mr fun a _=>by simp)
theorem TV{v:Nat}{S:List Nat}(h:∀x∈aY es v,x.h.toNat∈S):(aY es v).length<=S.length:=by
 have h1:((aY es v).map fun x=>(x.t.toNat,x.h.toNat)).Nodup:=((List.filter_sublist).map _).nodup (tx false es);have h2:=oL (l₂:=S.map fun c=>(v,c)) h1 (fun p hp=>by
  obtain⟨x,hx,rfl⟩:=List.mem_map.1 hp;exact List.mem_map.2 ⟨_,h x hx,by rw[(pQ.1 hx).2]⟩)
 simpa using h2
theorem Yb{v:Nat}{S:List Nat}(h:∀x∈fC es v,x.t.toNat∈S):(fC es v).length<=S.length:=by
 have h1:((fC es v).map fun x=>(x.t.toNat,x.h.toNat)).Nodup:=((List.filter_sublist).map _).nodup (tx true es);have h2:=oL (l₂:=S.map fun c=>(c,v)) h1 (fun p hp=>by
  obtain⟨x,hx,rfl⟩:=List.mem_map.1 hp;exact List.mem_map.2 ⟨_,h x hx,by rw[(tq.1 hx).2]⟩)
 simpa using h2
theorem iV.sizes(h:iV N es vs done)(hd:done+(aA es vs).length<=1000){k s:Nat}(hk:k=(aA es vs).length)(hs:s+done+k=N) :
 (aK false (fM es (aA es vs))).length<=s*s/\(aK true (fM es (aA es vs))).length<=s*s/\(fM es (aA es vs)).length<=s*s+k*(s*s)/\(wY es (aA es vs)).length<=k*s/\(fR es (aA es vs)).length<=k*s:=by
 have hn:=h.next (gen:=0) hd;have hr:=hn.rest;obtain⟨S,hS⟩:∃S,S=Br N (cn es vs done 0 (aA es vs)):=⟨_,rfl⟩;have hl:S.length=s:=by rw[hS];omega
 have qh:∀i x,vs[i]? = some x->x.r=4294967295->i ∉ aA es vs->i∈S:=fun i x hx hx2 hc=>by
  rw[hS,TU];refine⟨by rw[<- h.len];exact aM hx,?_⟩;have h1:=uT (es:=es) (was:=vs) (done:=done) (gen:=0) hc;rw[hx]at h1;obtain⟨y,e1,e2⟩:=Option.map_eq_some_iff.1 h1;unfold jC;rw[e1];simp[e2,hx2]
 have oQ:∀x∈aK false es,(x.t.toNat ∉ aA es vs->x.t.toNat∈S)/\(x.h.toNat ∉ aA es vs->x.h.toNat∈S):=fun x hx=>by
  obtain⟨a,c,h1,h2,h3,h4⟩:=h.ends x (fS.1 hx).1;exact⟨qh _ _ h1 h3,qh _ _ h2 h4⟩
 have ho:∀v∈aA es vs,(aY es v).length<=s:=fun v hv=>by
  rw[<- hl];refine TV fun x hx=>?_;have h1:=pQ.1 hx;exact(oQ x h1.1).2 fun hc=>jB hv hc (oN.2 ⟨x,h1.1,.inl ⟨h1.2,rfl⟩⟩)
 have hi:∀v∈aA es vs,(fC es v).length<=s:=fun v hv=>by
  rw[<- hl];refine Yb fun x hx=>?_;have h1:=tq.1 hx;exact(oQ x h1.1).1 fun hc=>jB hv hc (oN.2 ⟨x,h1.1,.inr ⟨h1.2,rfl⟩⟩)
 have CC:∀b,(aK b (fM es (aA es vs))).length<=s*s:=fun b=>by
  rw[<- hl];refine Nh (List.Sublist.refl _) fun x hx=>?_;obtain⟨h1,h2,⟨y,hy,ey⟩,⟨z,hz,ez⟩⟩:=Jj (fS.1 hx).1;rw[<- ey]at h1 ⊢;rw[<- ez]at h2 ⊢;exact⟨(oQ y hy).1 h1,(oQ z hz).2 h2⟩
 refine⟨CC false,CC true,?_,?_,?_⟩
 ·unfold fM;rw[List.length_append];refine Nat.add_le_add ?_ ?_
  ·rw[<- hl];refine Nh (b:=false) (es:=es) List.filter_sublist fun x hx=>?_;obtain⟨h1,h2,h3⟩:=Ji.1 hx;exact⟨(oQ x h1).1 h2,(oQ x h1).2 h3⟩
  ·rw[hk];refine mr fun v hv=>?_;unfold iJ oJ;refine Nat.le_trans (mr (m:=s) fun a _=>Nat.le_trans (List.length_filterMap_le _ _) ?_) (Nat.mul_le_mul_right _ (hi v hv));rw[show(UInt32.ofNat v).toNat=v by rw[UInt32.toNat_ofNat'];have:=j5 hv;have:=h.len;have:=h.top;omega];exact ho v hv
 ·rw[hk];exact mr ho
 ·rw[hk];exact mr hi
structure pS(w0 w:World)(pb db n:Nat)(o:ar)(d:Dsk)(L:aD)(N gen done:Nat)(es:List aJ)(vs:List bW):Prop where
 held:Held w0 w pb db n o d L
 frames:8<=n
 ok:iV N es vs done
 top:N<=24
 gd:gen<=done
 e:aB L (aG 101 gen)=some (aw (aK false es) true)
 r:aB L (aG 114 gen)=some (aw (aK true es) true)
 v:aB L (aG 118 gen)=some (b7 vs true)
 len:es.length<=600
 free:∀c g,gen<g->aB L (aG c g)=none
 nt:∀k,aB L (dz k)=none
 need:need L+gN (N-done)<=40200
theorem pS.moved(h:pS w0 w pb db n o d L N gen done es vs)(hm:au (fun _=>False) n pb db w o d w' o' d' L):pS w0 w' pb db n o' d' L N gen done es vs:={ h with held:=h.held.moved hm fun _ e=>e.elim }
theorem Ni:∀s<25,∀k<25,s+k<=24->s*s+k*(s*s)<=2400/\k*s<=144/\s*s<=576:=by decide
theorem pS.rn(h:pS w0 w pb db n o d L N gen done es vs):TK w0 w pb db n o d L gen done 2400 es vs:=by
 have hd:done+(aA es vs).length<=N:=by
  have h1:=(h.ok.next (gen:=0) (by
   have:=h.ok.nr;have h2:(aA es vs).length<=vs.length:=by
    have:=oL (l₂:=List.range vs.length) ((gM es vs).imp fun h=>Nat.ne_of_lt h) (fun v hv=>List.mem_range.2 (j5 hv));simpa using this
   have:=h.ok.len;have:=h.top;omega)).nr
  exact h1
 have ht:=h.top;have hg:=h.gd;have hl:=h.ok.len;obtain⟨h1,h2,h3,h4,h5⟩:=h.ok.sizes ae rfl (show(N-(done+(aA es vs).length))+done+(aA es vs).length=N by omega);obtain⟨q1,q2,q3⟩:=Ni (N-(done+(aA es vs).length)) ae (aA es vs).length ae ae;have oQ:∀x∈es,x.t.toNat<vs.length/\x.h.toNat<vs.length:=fun x hx=>by
  obtain⟨a,c,h1,h2,-⟩:=h.ok.ends x hx;exact⟨aM h1,aM h2⟩
 have hn:=h.need;have hlen:=h.len;refine⟨h.held,h.frames,ae,h.e,h.r,h.v,ae,ae,oQ,?_,fun c=>h.free c _ ae,h.nt,ae,ae,ae,fun v _=>?_⟩
 ·unfold er;refine Nat.le_trans (List.length_filterMap_le _ _) ?_;rw[List.length_zipIdx];omega
 ·have g1:(aY es v).length<=N:=by
   have:=TV (es:=es) (v:=v) (S:=List.range N) fun x hx=>List.mem_range.2 (by have:=(oQ x (fS.1 (pQ.1 hx).1).1).2;omega);simpa using this
  have g2:(fC es v).length<=N:=by
   have:=Yb (es:=es) (v:=v) (S:=List.range N) fun x hx=>List.mem_range.2 (by have:=(oQ x (fS.1 (tq.1 hx).1).1).1;omega);simpa using this
  have:=Nat.mul_le_mul (Nat.le_trans g2 ht) (Nat.le_trans g1 ht);omega
theorem pS.next(h:pS w0 w pb db n o d L N gen done es vs)(hne:aA es vs≠[])(hh:Held w0 w' pb db n o' d' L')(hr:lz L L' gen (fM es (aA es vs)) (wY es (aA es vs)) (fR es (aA es vs)) (cn es vs done gen (aA es vs))) :
 pS w0 w' pb db n o' d' L' N (gen+1) (done+(aA es vs).length) (aK false (fM es (aA es vs))) (cn es vs done gen (aA es vs)):=by
 have hd:=h.rn.dlt;have hk:0<(aA es vs).length:=List.length_pos_iff.2 hne;have h0:done+(aA es vs).length<=1000:=by
  have h2:(aA es vs).length<=vs.length:=by
   have:=oL (l₂:=List.range vs.length) ((gM es vs).imp fun h=>Nat.ne_of_lt h) (fun v hv=>List.mem_range.2 (j5 hv));simpa using this
  have:=h.ok.nr;have:=h.ok.len;have:=h.top;omega
 have eD:=h.ok.next (gen:=gen) h0;have hle:=eD.nr;have ht:=h.top;obtain⟨h1,h2,h3,h4,h5⟩:=h.ok.sizes h0 rfl (show(N-(done+(aA es vs).length))+done+(aA es vs).length=N by omega);obtain⟨q1,q2,q3⟩:=Ni (N-(done+(aA es vs).length)) ae (aA es vs).length ae ae;have hgn:=aaM (N-(done+(aA es vs).length)) (aA es vs).length;rw[show N-(done+(aA es vs).length)+(aA es vs).length=N-done by omega]at hgn;have e1:=gl (aK false (fM es (aA es vs)));have e2:=gl (aK true (fM es (aA es vs)));have e3:=gl (wY es (aA es vs));have e4:=gl (fR es (aA es vs));have e5:vN (cn es vs done gen (aA es vs))<=4*(cn es vs done gen (aA es vs)).length:=fU _ _;rw[eD.len]at e5;have e6:=hr.need;have e7:=h.need;have iW:∀(c c':UInt8)g,gen+1<g->aG c g≠aG c' (gen+1):=fun c c' g hg=>bm ae;have y8:∀k c,c≠116->dz k≠aG c (gen+1):=fun k c hc=>(bq c hc _ _).symm;refine⟨hh,h.frames,eD,ht,by have:=h.gd;omega,?_,?_,hr.v,ae,fun c g hg=>?_,fun k=>?_,?_⟩
 ·rw[DU];exact hr.e
 ·rw[DU];exact hr.r
 ·rw[hr.sK _ (iW _ _ _ hg) (iW _ _ _ hg) (iW _ _ _ hg) (iW _ _ _ hg) (iW _ _ _ hg)];exact h.free c g ae
 ·rw[hr.sK _ (y8 _ _ af) (y8 _ _ af) (y8 _ _ af) (y8 _ _ af) (y8 _ _ af)];exact h.nt k
 ·generalize N-(done+(aA es vs).length)=s at *;generalize (aA es vs).length=k at *;have g1:s*s<=k*(s*s):=Nat.le_mul_of_pos_left _ hk;have g2:k*(8*(s*s)+8*s+96)=8*(k*(s*s))+8*(k*s)+96*k:=by
   rw[Nat.mul_add,Nat.mul_add];simp only[Nat.mul_left_comm k 8];omega
  omega
theorem Ma(hh:Held w0 w pb db n o d L)(hn:8<=n){l:List aJ}(hl:l.length<=80)(hN:N<=24)(he:∀x∈l,x.t.toNat<N/\x.h.toNat<N)(hg:CR L l N):pS w0 w pb db n o d L N 0 0 l (List.replicate N iK):=by
 have hr:∀(i:Nat)(x:bW),(List.replicate N iK)[i]? = some x->x.r=4294967295:=fun i x hx=>by
  rw[List.getElem?_replicate]at hx;split at hx
  ·cases hx;rfl
  ·cases hx
 have hg0:=hg.need;have hgn:∀N<25,gN N<=39104:=by decide
 have:=hgn N ae;refine⟨hh,hn,⟨List.length_replicate,ae,fun x hx=>?_,fun i x hx h=>absurd (hr i x hx) h,fun i j x y hx _ h=>absurd (hr i x hx) h,?_⟩,hN,Nat.le_refl _,hg.e,hg.r,hg.v,ae,fun c g h=>hg.sK _ (bm ae) (bm ae) (bm ae),fun k=>hg.sK _ (bq _ af _ _).symm (bq _ af _ _).symm (bq _ af _ _).symm,by simp;omega⟩
 ·exact⟨iK,iK,by rw[List.getElem?_replicate,if_pos (he x hx).1],by rw[List.getElem?_replicate,if_pos (he x hx).2],rfl,rfl⟩
 ·rw[List.length_eq_zero_iff,List.filter_eq_nil_iff];intro i _;rw[j6];rintro⟨x,hx,h⟩;exact h (hr i x hx)
def Bt(w0 w:World)(pb db n:Nat)(o:ar)(d:Dsk)(L:aD)(N gen done:Nat)(es:List aJ)(vs:List bW)(e:Ending)(w':World):Prop:=
 ∃d' o' L',e=.returned (.tuple #[.int .u32 ((aA es vs).length:Int),.int .i64 0])/\au (fun _=>False) n pb db w o d w' o' d' L'/\(aA es vs=[]->L'=L)/\(aA es vs≠[]->lz L L' gen (fM es (aA es vs)) (wY es (aA es vs)) (fR es (aA es vs)) (cn es vs done gen (aA es vs))/\pS w0 w' pb db n o' d' L' N (gen+1) (done+(aA es vs).length) (aK false (fM es (aA es vs))) (cn es vs done gen (aA es vs)))
theorem Mb(HW:aP)(yS:dZ 2400)(h:pS w0 w pb db n o d L N gen done es vs) :
 Calls prog 33 #[ptrTo pb,.int .i64 (gen:Int),.int .u32 (done:Int)] w (Bt w0 w pb db n o d L N gen done es vs):=by
 refine(rM HW yS h.rn).mono ?_;rintro e w'⟨d',o',L',rfl,hm,h1,h2⟩;exact⟨d',o',L',rfl,hm,h1,fun hne=>⟨h2 hne,h.next hne (h.held.moved hm fun _ e=>e.elim) (h2 hne)⟩⟩
end
end
section
open Go.RowKit Go.Maps
section
variable {S:Nat->Prop} {N done gen n pb db gb ob ib vb:Nat} {es:List aJ} {vs:List bW} {w0 w w':World} {o o':ar} {d d':Dsk} {L L':aD} {b:Bool}
structure CS(w0 w:World)(pb db n:Nat)(o:ar)(d:Dsk)(L:aD)(gb gen N ob ib vb:Nat)(es:List aJ)(vs:List bW):Prop where
 jI:fI w0 w pb db n o d L gb gen N ob ib vb es
 len:vs.length=N
 file:aB L (aG 118 gen)=some (b7 vs true)
theorem CS.moved(h:CS w0 w pb db n o d L gb gen N ob ib vb es vs)(hm:au (fun _=>False) n pb db w o d w' o' d' L):CS w0 w' pb db n o' d' L gb gen N ob ib vb es vs:=⟨h.jI.moved hm,h.len,h.file⟩
theorem CS.Mc(HW:aP)(h:CS w0 w pb db n o d L gb gen N ob ib vb es vs){v:Nat}{x:bW}(hv:vs[v]? = some x) :
 Calls prog 23 #[ptrTo gb,.int .u32 (v:Int)] w fun e w'=>∃d' o',e=.returned (.tuple #[wH x,.int .i64 0])/\au (fun _=>False) n pb db w o d w' o' d' L:=by
 have hi:=aM hv;have:=h.len;have:=h.jI.top;rw[List.getElem?_eq_getElem hi]at hv;rw[<- Option.some.inj hv];exact DL HW h.jI.held h.jI.need (by rw[h.len];exact h.jI.gr) h.file hi ae
def Md(W:World)(o:ar)(v:Value)(ts:List aJ):Prop:=∃base,aI W base v ts/\∀x,v.ownBlock=some x->o x=none
theorem Md.moved{v:Value}{ts:List aJ}(h:Md w o v ts)(hm:au (fun _=>False) n pb db w o d w' o' d' L'):Md w' o' v ts:=by
 obtain⟨base,h1,h2⟩:=h;exact⟨base,hm.ownsRow h1 fun b hb=>⟨h2 b hb,fun e=>e⟩,fun x hx=>hm.free (aL h1 x hx).1 (h2 x hx)⟩
def Yc(w0 w:World)(pb db n:Nat)(o:ar)(d:Dsk)(L:aD)(gen N:Nat)(es:List aJ)(vs:List bW)(e:Ending)(w':World):Prop:=
 ∃gb ob ib vb d' o',e=.returned (.tuple #[ptrTo gb,.int .i64 0])/\au (fun _=>False) n pb db w o d w' o' d' L/\CS w0 w' pb db n o' d' L gb gen N ob ib vb es vs
theorem Ps(HW:aP)(h:pS w0 w pb db n o d L N gen done es vs):Calls prog 34 #[ptrTo pb,.int .i64 (gen:Int)] w (Yc w0 w pb db n o d L gen N es vs):=by
 have hq:need L<=131072:=by have:=h.need;omega
 have hl:=h.len;have ht:=h.top;refine(sB HW h.held.aX (gen:=gen) (.inl (by have:=h.rn.glt;omega)) h.v h.e h.r).mono ?_;rintro e w'⟨v,c,d',o',rfl,hm,he,eD,-⟩;have hc:c=0:=h.held.oH hm he hq;subst hc;obtain⟨gb,ob,ib,vb,rfl,hg⟩:=eD rfl;rw[h.ok.len]at hg;refine⟨gb,ob,ib,vb,d',o',rfl,hm,⟨h.held.moved hm fun _ e=>e.elim,hq,hg,h.e,h.r,ae,ae,fun x hx=>?_⟩,h.ok.len,h.v⟩;obtain⟨a,c,h1,h2,-⟩:=h.ok.ends x hx;rw[<- h.ok.len];exact⟨aM h1,aM h2⟩
theorem Me{V:Nat}{l:List aJ}{x:aJ}(h:x∈gZ V l):x.t.toNat<V/\x.h.toNat<V:=by
 unfold gZ at h;split at h
 ·cases h
 ·obtain⟨y,-,rfl⟩:=List.mem_map.1 h;obtain⟨h1,h2,-⟩:=DZ (n:=V) y;rw[h1,h2];exact⟨Nat.mod_lt _ ae,Nat.mod_lt _ ae⟩
def aaN(w:World)(n:Nat)(l:List aJ)(N:Nat)(e:Ending)(w':World):Prop:=
 ∃db pb o d L,e=.returned (.tuple #[ptrTo db,ptrTo pb])/\pS w w' pb db n o d L N 0 0 l (List.replicate N iK)
theorem Mf(HW:aP)(yS:dZ 2400){ev:Value}{l:List aJ}(K F:Nat)(hK:K<256)(hF:F<256)(he:kL w ev l) :
 Calls prog 30 #[.agg #[.int .u8 (K:Int),ev,.int .u8 (F:Int)]] w (aaN w (8+F%40) (gZ (K%25) l) (K%25)):=by
 have h80:=sM (K%25) l;refine(yA HW yS K F hK hF he ae).mono ?_;rintro e w'⟨db,pb,o,d,L,rfl,hh,hg⟩;exact⟨db,pb,o,d,L,rfl,Ma hh ae h80 ae (fun x hx=>Me hx) hg⟩
theorem iV.keeps(h:iV N es vs done){v:Nat}{a:bW}(ha:vs[v]? = some a)(hr:a.r≠4294967295):(cn es vs done gen (aA es vs))[v]? = some a:=by
 rw[Jh,ha]
 ·intro hc;obtain⟨x,hx,h1,-⟩:=fJ hc;rw[ha]at hx;cases hx;exact hr h1
 ·intro u hu hn;obtain⟨x,hx,h1⟩:=oN.1 hn;obtain⟨c,e,h2,h3,h4,h5⟩:=h.ends x (fS.1 hx).1;rcases h1 with⟨-,h1⟩|⟨-,h1⟩
  ·rw[h1,ha]at h3;cases h3;exact hr h5
  ·rw[h1,ha]at h2;cases h2;exact hr h4
theorem Bu{v:Nat}{a c:bW}(ha:vs[v]? = some a)(hr:a.r=4294967295)(hc:v ∉ aA es vs)(hb:(cn es vs done gen (aA es vs))[v]? = some c):c.r=4294967295:=by
 have h1:=uT (es:=es) (was:=vs) (done:=done) (gen:=gen) hc;rw[ha,hb,Option.map_some,Option.map_some]at h1;rw[Option.some.inj h1,hr]
theorem iV.Jt(h:iV N es vs done){v:Nat}(hv:v∈aA es vs){x:aJ}{c:bW}:(x∈aY es v->(cn es vs done gen (aA es vs))[x.h.toNat]? = some c->c.r=4294967295)/\(x∈fC es v->(cn es vs done gen (aA es vs))[x.t.toNat]? = some c->c.r=4294967295):=by
 constructor
 ·intro hx hc;have h1:=pQ.1 hx;obtain⟨a,b,h2,h3,h4,h5⟩:=h.ends x (fS.1 h1.1).1;exact Bu h3 h5 (fun e=>jB hv e (oN.2 ⟨x,h1.1,.inl ⟨h1.2,rfl⟩⟩)) hc
 ·intro hx hc;have h1:=tq.1 hx;obtain⟨a,b,h2,h3,h4,h5⟩:=h.ends x (fS.1 h1.1).1;exact Bu h2 h4 (fun e=>jB hv e (oN.2 ⟨x,h1.1,.inr ⟨h1.2,rfl⟩⟩)) hc
def below(ch:List Nat)(v:Nat):Nat:=(ch.filter fun x=>decide (x<v)).length
theorem Pt{ch:List Nat}(hr:ch.Pairwise (· < ·)){v:Nat}(hv:v∈ch):ch[below ch v]? = some v:=by
 induction ch with
 |nil=>cases hv
 |cons a ch ih=>
   rw[List.pairwise_cons]at hr;rcases List.mem_cons.1 hv with rfl | h
   ·have:below (v::ch) v=0:=by
     unfold below;rw[List.length_eq_zero_iff,List.filter_eq_nil_iff];intro x hx;rcases List.mem_cons.1 hx with rfl | h
     ·simp
     ·have:=hr.1 x h;simp;omega
    rw[this];rfl
   ·have h1:=hr.1 v h;have:below (a::ch) v=below ch v+1:=by unfold below;rw[List.filter_cons,if_pos (by simpa using h1)];rfl
    rw[this,List.getElem?_cons_succ];exact ih hr.2 h
theorem Ju{v:Nat}{a:bW}(hv:v∈aA es vs)(ha:vs[v]? = some a):(cn es vs done gen (aA es vs))[v]? = some ⟨UInt32.ofNat (done+below (aA es vs) v),UInt32.ofNat (gen+1),a.g⟩:=by
 rw[xy (Pt (gM es vs) hv),ha];rfl
end
end
section
open Go.RowKit Go.Maps
section
variable {n pb db:Nat} {w0 w w':World} {o o':ar} {d d':Dsk} {L L':aD}
def oT(n pb db:Nat)(w:World)(o:ar)(d:Dsk)(L:aD)(es:List aJ)(e:Ending)(w':World):Prop:=
 ∃v d' o',e=.returned (.tuple #[v,.bool true])/\au (fun _=>False) n pb db w o d w' o' d' L/\Md w' o' v es
theorem yB(HW:aP)(h:Held w0 w pb db n o d L)(hq:need L<=131072){name:Name}{es:List aJ}{fl:Bool}(hL:aB L name=some (aw es fl))(hl:es.length<=100000) :
 Calls prog 35 #[ptrTo pb,.string name] w (oT n pb db w o d L es):=by
 have H:=aa (show _/\_/\_ from⟨h,hl,hq⟩);have hop:=aa (dG (sz:=20) h.aX name (b6 (h.aX.ok hL)) af af);have h0:cC d name=0:=by
  by_cases hc:cC d name=0
  ·exact hc
  ·have h1:=(pI h.aX hL rfl hc).2;rw[h.dead]at h1;cases h1
 rw[h0]at hop;have HLEN:Hid (∀W o' d' sb,au (fun _=>False) n pb db w o d W o' d' L->aC W sb pb name 20->o' sb=none->Calls prog 59 #[ptrTo sb] W (xR n pb db W o' d' L (xS es.length))):=aa (fun W o' d' sb hm hst ho=>by
  have:=iq HW hm.aX hst ho af af hL (dY es);rwa [List.length_map]at this)
 have AD:Hid (∀W o' d' sb,au (fun _=>False) n pb db w o d W o' d' L->aC W sb pb name 20->o' sb=none->∀(i:Nat)(x:aJ),es[i]? = some x->Calls prog 57 #[ptrTo sb,.int .i64 (i:Int)] W (uo n pb db W o' d' L x.bytes)):=aa (fun W o' d' sb hm hst ho i x hi=>by
  have kB:=aM hi;have:=jo HW hm.aX hst ho af af hL (dY es) (i:=i) (by rw[List.length_map];exact kB);rw[List.getElem_map]at this;rw[List.getElem?_eq_getElem kB]at hi;rw[Option.some.inj hi]at this;exact this)
 have Yd:Hid (∀{W o' d' W' gP gB c},au (fun _=>False) n pb db w o d W o' d' L->au (fun _=>False) n pb db W o' d' W' gP gB L->(c=0\/kI d' gB L c)->c=0):=aa (fun h1 h2 h3=>(H.o.1.moved h1 fun _ e=>e.elim).oH h2 h3 H.o.2.2);obtain⟨PST,hP⟩:∃P,P=oT n pb db w o d L es:=⟨_,rfl⟩;have HP:Hid (∀v d' o' w',au (fun _=>False) n pb db w o d w' o' d' L->Md w' o' v es->PST (.returned (.tuple #[v,.bool true])) w'):=aa (fun v d' o' w' h1 h2=>by rw[hP];exact⟨v,d',o',rfl,h1,h2⟩);rw[<- hP];clear h hl hq hL h0 hP;unfold ptrTo dF at *;go_enter func35,ntmps35;go_wp2_with fail;refine hop.o.mono ?_;rintro e w1⟨v1,rfl,hb1,eD,-⟩;obtain⟨sb,rfl,Ey,vr⟩:=eD trivial;have eu:Hid (au (fun _=>False) n pb db w o d w1 o d L/\aC w1 sb pb name 20/\o sb=none):=aa ⟨au.aW H.o.1.aX hb1,Ey,H.o.1.aX.fresh vr⟩;have hc:=aa (HLEN.o _ _ _ sb eu.o.1 eu.o.2.1 eu.o.2.2);unfold xR xS ptrTo at *;clear hb1 eD Ey vr hop HLEN;go_wp2_with fail;refine hc.o.mono ?_;rintro e w2⟨c2,d2,o2,⟨k,rfl,hk⟩,cQ,pV⟩;obtain rfl:=Yd.o eu.o.1 cQ pV;obtain rfl:=hk rfl;have eB:Hid (au (fun _=>False) n pb db w o d w2 o2 d2 L/\aC w2 sb pb name 20/\o2 sb=none):=aa ⟨eu.o.1.trans cQ fun _ _ e=>e,eu.o.2.1.moved cQ eu.o.2.2 (fun e=>e),cQ.free eu.o.2.1.lt eu.o.2.2⟩;clear cQ pV hk hc eu;obtain⟨M,hM⟩:∃M,M=es.length:=⟨_,rfl⟩;have HM:=aa hM;rw[<- hM];clear hM;go_wp2_with fail;go_loopw [9,10] (fun vl vi W=>∃(i:Nat)(o':ar)(d':Dsk),vi=.int .i64 (i:Int)/\i<=M/\Hid (au (fun _=>False) n pb db w o d W o' d' L/\aC W sb pb name 20/\o' sb=none/\aI W w2.heap.size vl (es.take i)/\w2.heap.size<=W.heap.size/\∀x,vl.ownBlock=some x->o' x=none)) (fun _ vi _=>M-(intOf vi).toNat)
 case atStart=>exact⟨0,o2,d2,rfl,Nat.zero_le _,aa ⟨eB.o.1,eB.o.2.1,eB.o.2.2,World.ownsRow_nil _ _ _ 4,Nat.le_refl _,fun x hx=>(by cases hx)⟩⟩
 case round=>
  generalize u9=vl at *;obtain⟨i,o3,d3,rfl,hi,HX⟩:=hrel;generalize wr=W3 at *;by_cases hlt:i<M
  ·have EF:(i:Int)<(M:Int):=by omega
   have wi:IntKind.i64.wrap ((i:Int)+1)=((i+1:Nat):Int):=by have:=HM.o;have:=H.o.2.1;rw[ax]<;>omega
   obtain⟨x,hx⟩:∃x,es[i]? = some x:=⟨_,List.getElem?_eq_getElem (by rw[<- HM.o];exact hlt)⟩;have sk:Hid (es.take i++[x]=es.take (i+1)/\(es.take i).length<=100000/\i+1<=M):=aa ⟨(wX hx).symm,by rw[List.length_take];have:=H.o.2.1;omega,hlt⟩;have hcg:=aa (AD.o _ _ _ sb HX.out.1 HX.out.2.1 HX.out.2.2.1 i x hx);unfold uo at hcg;clear hx hi hlt;go_wp2_with fail;refine hcg.o.mono ?_;rintro e w4⟨v4,c4,d4,o4,rfl,eG,vp,Cm,-⟩;obtain rfl:=Yd.o HX.out.1 eG vp;obtain⟨Bw,C9⟩:=Cm rfl;have xY:Hid (au (fun _=>False) n pb db w o d w4 o4 d4 L/\aC w4 sb pb name 20/\o4 sb=none/\aI w4 w2.heap.size vl (es.take i)/\w2.heap.size<=w4.heap.size/\∀x,vl.ownBlock=some x->o4 x=none):=aa ⟨HX.out.1.trans eG fun _ _ e=>e,HX.out.2.1.moved eG HX.out.2.2.1 (fun e=>e),eG.free HX.out.2.1.lt HX.out.2.2.1,eG.ownsRow HX.out.2.2.2.1 (fun b hb=>⟨HX.out.2.2.2.2.2 b hb,fun e=>e⟩),Nat.le_trans HX.out.2.2.2.2.1 eG.size,fun y hy=>eG.free (aL HX.out.2.2.2.1 y hy).1 (HX.out.2.2.2.2.2 y hy)⟩;have nH:=aa (qE v4 x w4 (fw Bw));unfold Ga at nH;clear eG vp Cm Bw C9 hcg HX;go_wp2_with fail;refine nH.o.mono ?_;rintro e w5⟨rfl,oh⟩;obtain⟨W6,Ye⟩:∃W,W=w5.alloc (.cells #[.int .u32 (x.t.toNat:Int),.int .u32 (x.h.toNat:Int),.int .u64 (x.x.toNat:Int),.int .u32 (x.m.toNat:Int)] 64):=⟨_,rfl⟩;have M4:Below w4.heap.size w4 W6:=by rw[Ye];exact oh.alloc oh.size _
   have nS:Hid (au (fun _=>False) n pb db w o d W6 o4 d4 L/\aC W6 sb pb name 20/\o4 sb=none/\aI W6 w2.heap.size vl (es.take i)/\w2.heap.size<=W6.heap.size/\∀x,vl.ownBlock=some x->o4 x=none):=aa ⟨xY.o.1.below M4,xY.o.2.1.below M4,xY.o.2.2.1,aV xY.o.2.2.2.1 M4,Nat.le_trans xY.o.2.2.2.2.1 M4.size,xY.o.2.2.2.2.2⟩;have hz:=nS.o.2.2.2.2.1;have k0:W6.heap[w5.heap.size]? = some (.cells #[.int .u32 (x.t.toNat:Int),.int .u32 (x.h.toNat:Int),.int .u64 (x.x.toNat:Int),.int .u32 (x.m.toNat:Int)] 64):=by rw[Ye];exact heap_alloc_new _ _
   clear oh M4 nH xY;go_upto_region 17 with fail
   rw[<- Ye];clear Ye;generalize w5.heap.size=xb at *;have a0:W6.cell? ⟨xb,0,none⟩=some (.int .u32 (x.t.toNat:Int)):=by rw[aq k0];rfl
   have a1:W6.cell? ⟨xb,1,none⟩=some (.int .u32 (x.h.toNat:Int)):=by rw[aq k0];rfl
   have a2:W6.cell? ⟨xb,2,none⟩=some (.int .u64 (x.x.toNat:Int)):=by rw[aq k0];rfl
   have a3:W6.cell? ⟨xb,3,none⟩=some (.int .u32 (x.m.toNat:Int)):=by rw[aq k0];rfl
   clear k0;go_wp2_with (at_builtin;refine cS rfl _ _ rfl w2.heap.size _ _ rfl nS.o.2.2.2.1 x 1 rfl sk.o.2.1 hz ?_);intro v7 W7 hv7 Xy;have lq:Hid (au (fun _=>False) n pb db w o d W7 o4 d4 L/\aC W7 sb pb name 20/\o4 sb=none/\aI W7 w2.heap.size v7 (es.take (i+1))/\w2.heap.size<=W7.heap.size/\∀x,v7.ownBlock=some x->o4 x=none):=aa (by
    obtain⟨h1,h2,h3,h4,h5,h6⟩:=nS.o;have hb:=fun y hy=>aF h4 y hy;obtain⟨g1,g2,g3,g4⟩:=Xy.moved h1 (fun y hy=>⟨h6 y hy,Nat.le_trans eB.o.1.size (hb y hy)⟩);rw[sk.o.1]at hv7;have hs:=eB.o.2.1.lt;exact⟨g1,h2.kept (g3 _ h2.lt (fun e=>by have:=hb _ e;omega)),h3,hv7,Nat.le_trans h5 g4,fun y hy=>(g2 y hy).1⟩)
   clear hv7 Xy a0 a1 a2 a3 hz;go_wp2;exact⟨⟨i+1,o4,d4,rfl,sk.o.2.2,lq⟩,by have:=sk.o.2.2;simp[intOf];omega⟩
  ·have EF:¬(i:Int)<(M:Int):=by omega
   have HQ:=aa (HP.o vl d3 o3 W3 HX.out.1 ⟨_,by have:=HX.out.2.2.2.1;rwa [List.take_of_length_le (by have:=HM.o;omega)]at this,HX.out.2.2.2.2.2⟩);clear hi hlt;go_wp2;exact HQ.o
end
end
section
open Go.RowKit Go.Maps
section
variable {N done gen n pb db:Nat} {es:List aJ} {vs:List bW} {w0 w:World} {o:ar} {d:Dsk} {L:aD} {b:Bool}
theorem pS.smalls(h:pS w0 w pb db n o d L N gen done es vs):(aK false es).length<=600/\(aK false (fM es (aA es vs))).length<=6000/\(wY es (aA es vs)).length<=6000/\(fR es (aA es vs)).length<=6000/\vs.length<=24:=by
 have h1:=h.rn.need;have h2:=cd false es;have h3:=cd false (fM es (aA es vs));have:=h.len;have:=h.ok.len;have:=h.top;omega
end
end
section
open Go.RowKit Go.Maps
section
variable {N done gen n pb db:Nat} {es:List aJ} {vs:List bW} {w0 w w':World} {o o':ar} {d d':Dsk} {L L':aD} {b:Bool}
theorem iV.Mc(h:iV N es vs done){i:Nat}{y:bW}(hy:(cn es vs done gen (aA es vs))[i]? = some y) :
 ∃x,vs[i]? = some x/\(x.r≠4294967295/\y=x\/x.r=4294967295/\i∈aA es vs/\y=⟨UInt32.ofNat (done+below (aA es vs) i),UInt32.ofNat (gen+1),x.g⟩\/x.r=4294967295/\i ∉ aA es vs/\y.r=4294967295):=by
 have hl:=ly (es:=es) (was:=vs) (done:=done) (gen:=gen) (aA es vs);obtain⟨x,hx⟩:∃x,vs[i]? = some x:=⟨_,List.getElem?_eq_getElem (by rw[<- hl];exact aM hy)⟩;refine⟨x,hx,?_⟩;by_cases hr:x.r=4294967295
 ·by_cases hc:i∈aA es vs
  ·exact .inr (.inl ⟨hr,hc,Option.some.inj (hy.symm.trans (Ju hc hx))⟩)
  ·exact .inr (.inr ⟨hr,hc,Bu hx hr hc hy⟩)
 ·exact .inl ⟨hr,Option.some.inj (hy.symm.trans (h.keeps hx hr))⟩
theorem Bv{r:UInt32}:r≠4294967295↔r.toNat<4294967295:=by
 have h1:=r.toNat_lt;have h2:r=4294967295↔r.toNat=4294967295:=by rw[<- UInt32.toNat_inj];rfl
 rw[ne_eq,h2];omega
def yC(vs:List bW)(k i j:Nat):Prop:=∃a c,vs[i]? = some a/\vs[j]? = some c/\a.r≠4294967295/\a.l.toNat=k/\a.r.toNat<c.r.toNat
structure D4(L:aD)(vs:List bW)(gen:Nat):Prop where
 lev:∀(i:Nat)(x:bW),vs[i]? = some x->x.r≠4294967295->1<=x.l.toNat/\x.l.toNat<=gen
 mono:∀(i j:Nat)(x y:bW),vs[i]? = some x->vs[j]? = some y->x.r≠4294967295->y.r≠4294967295->x.l.toNat<y.l.toNat->x.r.toNat<y.r.toNat
 files:∀k,1<=k->k<=gen->∃U D,aB L (aG 117 k)=some (aw U true)/\aB L (aG 100 k)=some (aw D true)/\U.length<=6000/\D.length<=6000/\(∀x∈U,yC vs k x.t.toNat x.h.toNat)/\∀x∈D,yC vs k x.h.toNat x.t.toNat
theorem Jv(N:Nat):D4 L (List.replicate N iK) 0:=by
 have hr:∀(i:Nat)(x:bW),(List.replicate N iK)[i]? = some x->x.r=4294967295:=fun i x hx=>by
  rw[List.getElem?_replicate]at hx;split at hx
  ·cases hx;rfl
  ·cases hx
 exact⟨fun i x hx h=>absurd (hr i x hx) h,fun i j x y hx _ h=>absurd (hr i x hx) h,fun k h1 h2=>by omega⟩
theorem D4.next(h:D4 L vs gen)(hg:pS w0 w pb db n o d L N gen done es vs)(_hne:aA es vs≠[])(hr:lz L L' gen (fM es (aA es vs)) (wY es (aA es vs)) (fR es (aA es vs)) (cn es vs done gen (aA es vs))) :
 D4 L' (cn es vs done gen (aA es vs)) (gen+1):=by
 have eD:=hg.ok;have hsm:=hg.smalls;have Uo:=hg.rn.dlt;have hgd:=hg.gd;have Mj:=eD.nr;have ari:=hg.top;have hch:(aA es vs).length<=vs.length:=by
  have:=oL (l₂:=List.range vs.length) ((gM es vs).imp fun h=>Nat.ne_of_lt h) (fun v hv=>List.mem_range.2 (j5 hv));simpa using this
 have UU:=eD.len;have hbl:∀i,below (aA es vs) i<=(aA es vs).length:=fun i=>List.length_filter_le _ _;have P3:∀i,(UInt32.ofNat (done+below (aA es vs) i)).toNat=done+below (aA es vs) i:=fun i=>by
  have:=hbl i;rw[UInt32.toNat_ofNat'];exact Nat.mod_eq_of_lt ae
 have hnl:(UInt32.ofNat (gen+1)).toNat=gen+1:=by rw[UInt32.toNat_ofNat'];exact Nat.mod_eq_of_lt ae
 have TW:∀k i j,yC vs k i j->yC (cn es vs done gen (aA es vs)) k i j:=by
  rintro k i j⟨a,c,ha,hc,h1,h2,h3⟩;have hl:=ly (es:=es) (was:=vs) (done:=done) (gen:=gen) (aA es vs);obtain⟨c',hc'⟩:∃c',(cn es vs done gen (aA es vs))[j]? = some c':=⟨_,List.getElem?_eq_getElem (by rw[hl];exact aM hc)⟩;refine⟨a,c',eD.keeps ha h1,hc',h1,h2,?_⟩;have ha1:=eD.low _ _ ha h1;obtain⟨z,hz,Hd⟩:=eD.Mc hc';rw[hc]at hz;cases hz;rcases Hd with⟨-,e⟩|⟨-,-,e⟩|⟨-,-,e⟩
  ·rw[e];exact h3
  ·rw[e];dsimp only;rw[P3];omega
  ·rw[e];exact Bv.1 h1
 have zN:∀v∈aA es vs,∀j c,(cn es vs done gen (aA es vs))[j]? = some c->c.r=4294967295->yC (cn es vs done gen (aA es vs)) (gen+1) v j:=fun v hv j c hc nH=>by
  obtain⟨x,hx,-⟩:=fJ hv;have:=hbl v;refine⟨_,c,Ju hv hx,hc,?_,hnl,?_⟩
  ·rw[Bv];dsimp only;rw[P3];omega
  ·dsimp only;rw[P3,nH];show _<4294967295;omega
 have gV:∀j,j<vs.length->∃c,(cn es vs done gen (aA es vs))[j]? = some c:=fun j hj=>⟨_,List.getElem?_eq_getElem (by rw[ly];exact hj)⟩;have oQ:∀x∈aK false es,x.t.toNat<vs.length/\x.h.toNat<vs.length:=fun x hx=>hg.rn.ends x (fS.1 hx).1;refine⟨fun i y hy hyr=>?_,fun i j x y hx hy BI hyr hlt=>?_,fun k h1 h2=>?_⟩
 ·obtain⟨x,hx,⟨g1,rfl⟩|⟨-,-,rfl⟩|⟨-,-,g3⟩⟩:=eD.Mc hy
  ·have:=h.lev _ _ hx g1;omega
  ·dsimp only;rw[hnl];omega
  ·exact absurd g3 hyr
 ·obtain⟨x',N3,⟨g1,rfl⟩|⟨-,-,rfl⟩|⟨-,-,g3⟩⟩:=eD.Mc hx
  ·obtain⟨y',hy',⟨k1,rfl⟩|⟨-,-,rfl⟩|⟨-,-,k3⟩⟩:=eD.Mc hy
   ·exact h.mono _ _ _ _ N3 hy' g1 k1 hlt
   ·have:=eD.low _ _ N3 g1;dsimp only;rw[P3];omega
   ·exact absurd k3 hyr
  ·obtain⟨y',hy',⟨k1,rfl⟩|⟨-,-,rfl⟩|⟨-,-,k3⟩⟩:=eD.Mc hy
   ·have:=h.lev _ _ hy' k1;dsimp only at hlt;rw[hnl]at hlt;omega
   ·dsimp only at hlt;omega
   ·exact absurd k3 hyr
  ·exact absurd g3 BI
 ·by_cases hk:k=gen+1
  ·subst hk;refine⟨_,_,hr.u,hr.d,hsm.2.2.1,hsm.2.2.2.1,fun x hx=>?_,fun x hx=>?_⟩
   ·obtain⟨v,hv,hx⟩:=List.mem_flatMap.1 hx;have h1:=pQ.1 hx;obtain⟨c,hc⟩:=gV _ (oQ x h1.1).2;rw[h1.2];exact zN v hv _ c hc ((eD.Jt hv).1 hx hc)
   ·obtain⟨v,hv,hx⟩:=List.mem_flatMap.1 hx;have h1:=tq.1 hx;obtain⟨c,hc⟩:=gV _ (oQ x h1.1).1;rw[h1.2];exact zN v hv _ c hc ((eD.Jt hv).2 hx hc)
  ·obtain⟨U,D,e1,e2,e3,e4,e5,e6⟩:=h.files k h1 ae;have iW:∀c c':UInt8,aG c k≠aG c' (gen+1):=fun c c'=>bm ae;exact⟨U,D,by rw[hr.sK _ (iW _ _) (iW _ _) (iW _ _) (iW _ _) (iW _ _)];exact e1,by rw[hr.sK _ (iW _ _) (iW _ _) (iW _ _) (iW _ _) (iW _ _)];exact e2,e3,e4,fun x hx=>TW _ _ _ (e5 x hx),fun x hx=>TW _ _ _ (e6 x hx)⟩
theorem iV.full(h:iV N es vs done)(hd:done=N){i:Nat}{x:bW}(hx:vs[i]? = some x):x.r≠4294967295/\x.r.toNat<N:=by
 have h1:x.r≠4294967295:=fun e=>DW hx e (h.all.2 hd);have:=h.low _ _ hx h1;exact⟨h1,ae⟩
def cg(W:World)(o:ar)(b N:Nat)(f:Nat->Value):Prop:=
 o b=none/\b<W.heap.size/\∃(cur:Array Value)(e:TypeId),W.heap[b]? = some (.cells cur e)/\cur.size=N/\∀i,i<N->cur[i]? = some (f i)
section
variable {W W':World} {g:Nat} {f:Nat->Value}
theorem cg.cell(h:cg W o g N f){i:Nat}(hi:i<N):W.cell? ⟨g,i,none⟩=some (f i):=by
 obtain⟨-,-,cur,e,hb,-,hc⟩:=h;rw[aq hb];exact hc i hi
theorem cg.frozen(h:cg W o g N f)(k:Nat):W.frozen? ⟨g,k,none⟩=false:=by
 obtain⟨-,-,cur,e,hb,-⟩:=h;exact frozen_of_row W g k cur e hb
theorem cg.moved(h:cg w o g N f)(hm:au (fun _=>False) n pb db w o d w' o' d' L):cg w' o' g N f:=by
 obtain⟨h1,h2,cur,e,hb,hc⟩:=h;exact⟨hm.free h2 h1,Nat.lt_of_lt_of_le h2 hm.size,cur,e,hm.heap hb h1 (fun e=>e),hc⟩
theorem cg.below(h:cg W o g N f)(hb:Below W.heap.size W W'):cg W' o g N f:=by
 obtain⟨h1,h2,cur,e,hc,hd⟩:=h;exact⟨h1,Nat.lt_of_lt_of_le h2 hb.size,cur,e,(hb.block _ h2).trans hc,hd⟩
theorem cg.congr{f':Nat->Value}(h:cg W o g N f)(hf:∀i,i<N->f i=f' i):cg W o g N f':=by
 obtain⟨h1,h2,cur,e,hc,hd,hh⟩:=h;exact⟨h1,h2,cur,e,hc,hd,fun i hi=>by rw[hh i hi,hf i hi]⟩
theorem cg.put(h:cg W o g N f)(i:Nat)(v:Value):cg (W.setCell ⟨g,i,none⟩ v) o g N fun j=>if j=i then v else f j:=by
 obtain⟨h1,h2,cur,e,hb,hn,hc⟩:=h;refine⟨h1,by simpa using h2,cur.setIfInBounds i v,e,heap_setCell_same W g i cur e v hb,by simpa using hn,fun j hj=>?_⟩;rw[Array.getElem?_setIfInBounds];dsimp only;by_cases e:i=j
 ·subst e;rw[if_pos rfl,if_pos rfl,if_pos ae]
 ·rw[if_neg e,if_neg (show ¬j=i from fun h=>e h.symm)];exact hc j hj
theorem cg.other{g':Nat}(h:cg W o g N f)(hne:g'≠g)(i:Nat)(v:Value):cg (W.setCell ⟨g',i,none⟩ v) o g N f:=by
 obtain⟨h1,h2,cur,e,hb,hc⟩:=h;exact⟨h1,by simpa using h2,cur,e,by rw[heap_setCell_other W ⟨g',i,none⟩ g v (fun e=>hne e.symm)];exact hb,hc⟩
theorem q8(ho:o W.heap.size=none)(z:Value)(e:TypeId)(N:Nat):cg (W.alloc (.cells (madeCells #[z] (N*1)) e)) o W.heap.size N fun _=>z:=by
 refine⟨ho,ah,_,e,heap_alloc_new _ _,by rw[size_madeCells,Nat.mul_one],fun i hi=>?_⟩;rw[Array.getElem?_eq_getElem (by rw[size_madeCells];omega)];simp[madeCells,Nat.mod_one]
end
end
end
section
open Go.RowKit Go.Maps
theorem Jw(HW:aP){m:Nat}(yS:dZ m)(hm:2<=m)(w:World) :
 Calls prog 31 #[] w fun e w'=>e=.returned (.bool true)/\Below w.heap.size w w':=by
 go_enter func31,ntmps31;have kK:Hid (Below w.heap.size w (w.alloc (.cells #[.int .u32 0,.int .u32 1,.int .u64 1,.int .u32 0,.int .u32 1,.int .u32 2,.int .u64 1,.int .u32 0] 64))):=aa ai;have HR0:Hid (kL (w.alloc (.cells #[.int .u32 0,.int .u32 1,.int .u64 1,.int .u32 0,.int .u32 1,.int .u32 2,.int .u64 1,.int .u32 0] 64)) (.slice (some ⟨w.heap.size,0,none⟩) 2 2) [⟨0,1,1,0⟩,⟨1,2,1,0⟩]):=aa ⟨_,2,rfl,.inr ⟨w.heap.size,0,rfl,fun j x hx=>by
  match j,hx with
  |0,hx=>cases hx;simp
  |1,hx=>cases hx;simp
  |j+2,hx=>cases hx⟩⟩
 go_wp2_with fail;generalize w.alloc (.cells #[.int .u32 0,.int .u32 1,.int .u64 1,.int .u32 0,.int .u32 1,.int .u32 2,.int .u64 1,.int .u32 0] 64)=W0 at *;have hbg:=aa (yA HW yS 3 0 af af HR0.o (by rw[show 3%25=3 from rfl,TP];exact hm));unfold FL at hbg;refine hbg.o.mono ?_;rintro e w1⟨db,pb,o1,d1,L1,rfl,hh1,hg1⟩;rw[show 3%25=3 from rfl,TP]at hg1;have aaO:Held W0 w1 pb db 8 o1 d1 L1:=hh1;have JB:=aa hg1;have HH1:=aa aaO;have jH:=aa (rM HW yS (akU aaO hg1 m));unfold oO at jH;rw[uV,TQ,aft,TS,WL]at jH;clear hh1 aaO hg1 hbg;unfold ptrTo at *;go_wp2_with fail;refine jH.o.mono ?_;rintro e w2⟨d2,o2,L2,rfl,cQ,-,hr2⟩;have Cy:=aa (hr2 af);have XO:=aa (HH1.o.moved cQ (fun _ e=>e.elim));have hr1:=aa (rM HW yS (akV XO.o JB.o Cy.o m));unfold oO at hr1;rw[uW,TR,afu,TT,WM]at hr1;clear cQ hr2 jH;unfold ptrTo at *;go_wp2_with fail;refine hr1.o.mono ?_;rintro e w3⟨d3,o3,L3,rfl,ej,-,hr3⟩;have BD:=aa (hr3 af);have FW:=aa (XO.o.moved ej (fun _ e=>e.elim));have hr2:=aa (rM HW yS (akW FW.o JB.o Cy.o BD.o m));unfold oO at hr2;rw[uX]at hr2;clear ej hr3 hr1;unfold ptrTo at *;go_wp2_with fail;refine hr2.o.mono ?_;rintro e w4⟨d4,o4,L4,rfl,eG,hr4,-⟩;have HL:=aa (hr4 trivial);have Rv:Hid (Below w.heap.size w w4):=aa (by
  obtain rfl:=HL.o;exact kK.o.trans ((FW.o.moved eG (fun _ e=>e.elim)).below.mono kK.o.size))
 clear eG hr4 hr2;go_wp2;go_ret;exact⟨rfl,Rv.o⟩
theorem Pu:(prog.info? 4).map (fun i=>(i.zero,i.size,i.bytes))=some (some (.bool false),1,1):=by kernel_rfl
theorem Jx(W:World)(V:Nat)(h:V<=1000):(Instr.makeSlice 88 (.int .i64 (V:Int)) (.int .i64 (V:Int))).run prog W=.ok (.slice (some ⟨W.heap.size,0,none⟩) V V) (W.alloc (.cells (madeCells #[.int .u32 0] (V*1)) 26)):=by
 obtain⟨i0,rV,hz0,hz1,hz2⟩:=info_parts I5;have hr:=run_make (P:=prog) W 88 26 i0 (.int .u32 0) Tryz.underlying88 rV hz0 .i64 .i64 V V ae ae (by rw[hz2];omega) ae;simp only[Int.toNat_natCast]at hr;rw[hz1]at hr;exact hr
theorem Pv(W:World)(V:Nat)(h:V<=1000):(Instr.makeSlice 87 (.int .i64 (V:Int)) (.int .i64 (V:Int))).run prog W=.ok (.slice (some ⟨W.heap.size,0,none⟩) V V) (W.alloc (.cells (madeCells #[.bool false] (V*1)) 4)):=by
 obtain⟨i0,rV,hz0,hz1,hz2⟩:=info_parts Pu;have hr:=run_make (P:=prog) W 87 4 i0 (.bool false) Tryz.underlying87 rV hz0 .i64 .i64 V V ae ae (by rw[hz2];omega) ae;simp only[Int.toNat_natCast]at hr;rw[hz1]at hr;exact hr
def tz(vs:List bW)(i:Nat):Nat:=((vs[i]?).map (·.r.toNat)).getD 0
def Jy(vs:List bW)(i:Nat):Nat:=((vs[i]?).map (·.l.toNat)).getD 0
def q9(vs:List bW)(v r:Nat):Value:=.bool ((List.range v).any fun i=>decide (tz vs i=r))
def y5(vs:List bW)(v i:Nat):Value:=.int .u32 (((if i<v then Jy vs i else 0):Nat):Int)
def y6(vs:List bW)(v i:Nat):Value:=.int .u32 (((if i<v then tz vs i else 0):Nat):Int)
theorem aaP{vs:List bW}{V i:Nat}(h:i<V):y5 vs V i=.int .u32 ((Jy vs i:Nat):Int):=by unfold y5;rw[if_pos h]
theorem aaQ{vs:List bW}{V i:Nat}(h:i<V):y6 vs V i=.int .u32 ((tz vs i:Nat):Int):=by unfold y6;rw[if_pos h]
theorem TX{vs:List bW}(v j:Nat):(if j=tz vs v then Value.bool true else q9 vs v j)=q9 vs (v+1) j:=by
 unfold q9;rw[List.range_succ,List.any_append];by_cases h:j=tz vs v
 ·rw[if_pos h];simp[h]
 ·rw[if_neg h];simp[show tz vs v≠j from fun e=>h e.symm]
theorem WN{vs:List bW}(v j:Nat):(if j=v then Value.int .u32 (Jy vs v:Int) else y5 vs v j)=y5 vs (v+1) j:=by
 unfold y5;by_cases h:j=v
 ·subst h;rw[if_pos rfl,if_pos ae]
 ·rw[if_neg h];congr 3;exact propext ⟨fun h2=>by omega,fun h2=>by omega⟩
theorem WO{vs:List bW}(v j:Nat):(if j=v then Value.int .u32 (tz vs v:Int) else y6 vs v j)=y6 vs (v+1) j:=by
 unfold y6;by_cases h:j=v
 ·subst h;rw[if_pos rfl,if_pos ae]
 ·rw[if_neg h];congr 3;exact propext ⟨fun h2=>by omega,fun h2=>by omega⟩
theorem tD(HW:aP)(yS:dZ 2400){w:World}{ev:Value}{l0:List aJ}(K F:Nat)(hK:K<256)(hF:F<256)(he:kL w ev l0) :
 Calls prog 7 #[.agg #[.int .u8 (K:Int),ev,.int .u8 (F:Int)]] w fun e w'=>e=.returned (.bool true)/\Below w.heap.size w w':=by
 have V3:=aa (fun W(hW:Below w.heap.size w W)=>D3 K F hK (he.below hW));have HBG:=aa (fun W(hW:Below w.heap.size w W)=>Mf HW yS K F hK hF (he.below hW));have HWK:=aa (fun W=>Jw HW yS af W);obtain⟨ea,ec,rfl,-⟩:=id he;generalize l0.length=EL at *;obtain⟨V,hV⟩:∃V,V=K%25:=⟨_,rfl⟩;have HV:Hid (V<=24):=aa ae;rw[<- hV]at V3 HBG;generalize 8+F%40=n at *;generalize gZ V l0=l at *;have kK:Hid (Below w.heap.size w (w.alloc (.cells #[.int .u8 (K:Int),.slice ea EL ec,.int .u8 (F:Int)] 69))/\(w.alloc (.cells #[.int .u8 (K:Int),.slice ea EL ec,.int .u8 (F:Int)] 69)).heap[w.heap.size]? = some (.cells #[.int .u8 (K:Int),.slice ea EL ec,.int .u8 (F:Int)] 69)):=aa ⟨aj.alloc (Nat.le_refl _) _,heap_alloc_new _ _⟩;obtain⟨PST,hP⟩:∃P,P=fun(e:Ending)(w':World)=>e=.returned (.bool true)/\Below w.heap.size w w':=⟨_,rfl⟩;have HP:Hid (∀w',Below w.heap.size w w'->PST (.returned (.bool true)) w'):=aa (fun w' h=>by rw[hP];exact⟨rfl,h⟩);rw[<- hP];clear he hV hK hF hP;go_enter func7,ntmps7;go_wp2_with fail;generalize X9:w.heap.size=wb at *;have HT:Hid (∀W W',Below wb w W->Below W.heap.size W W'->Below wb w W'):=aa (fun W W' h h'=>h.trans (h'.mono (by rw[<- X9];exact h.size)));clear X9;generalize w.alloc (.cells #[.int .u8 (K:Int),.slice ea EL ec,.int .u8 (F:Int)] 69)=W0 at *;have hsm:=aa (V3.o W0 kK.o.1);refine hsm.o.mono ?_;rintro e w1⟨v1,rfl,hb1,-⟩;have hlt:wb<W0.heap.size:=(Array.getElem?_eq_some_iff.1 kK.o.2).1;have FO:w1.heap[wb]? = some (.cells #[.int .u8 (K:Int),.slice ea EL ec,.int .u8 (F:Int)] 69):=(hb1.block _ hlt).trans kK.o.2;have cT:Hid (Below wb w w1):=aa (kK.o.1.trans (hb1.mono (Nat.le_of_lt hlt)));have hbg:=aa (HBG.o w1 cT.o);have b0:w1.cell? ⟨wb,0,none⟩=some (.int .u8 (K:Int)):=by rw[aq FO];rfl
 have b1:w1.cell? ⟨wb,1,none⟩=some (.slice ea EL ec):=by rw[aq FO];rfl
 have b2:w1.cell? ⟨wb,2,none⟩=some (.int .u8 (F:Int)):=by rw[aq FO];rfl
 clear hb1 hlt hsm V3 HBG kK FO;go_wp2_with fail;refine hbg.o.mono ?_;rintro e w2⟨db,pb,o2,d2,L2,rfl,hg2⟩;have yI:=aa hg2;clear hg2 hbg b0 b1 b2;unfold ptrTo at *;go_wp2_with fail;go_loopw [7,8] (fun vd vg W=>∃(gen done:Nat)(es:List aJ)(vs:List bW)(o:ar)(d:Dsk)(L:aD),vd=.int .u32 (done:Int)/\vg=.int .i64 (gen:Int)/\gen<=V/\Hid (pS w1 W pb db n o d L V gen done es vs/\D4 L vs gen)) (fun _ vg _=>V-(intOf vg).toNat)
 case atStart=>exact⟨0,0,l,_,o2,d2,L2,rfl,rfl,Nat.zero_le _,aa ⟨yI.o,Jv _⟩⟩
 case round=>
  obtain⟨gen,done,es,vs,o,d,L,rfl,rfl,hgz,HG⟩:=hrel;generalize wr=W1 at *;clear yI;have aaa:(gen:Int)<=(V:Int):=by omega
  have Bx:=aa (Mb HW yS HG.out.1);unfold Bt ptrTo at Bx;obtain⟨KN,JH⟩:∃k,k=(aA es vs).length:=⟨_,rfl⟩;rw[<- JH]at Bx;have hall:=HG.out.1.ok.all;have afv:done<25:=by have:=HG.out.1.ok.nr;have:=HG.out.1.top;omega
  have HK:Hid (KN=(aA es vs).length/\(KN=0↔done=V)/\done<25/\gen<=V):=aa ⟨JH,by rw[JH,List.length_eq_zero_iff];exact hall,afv,hgz⟩;clear JH hall afv hgz;go_wp2_with fail;refine Bx.o.mono ?_;rintro e w3⟨d3,o3,L3,rfl,ej,hnil,hne⟩;have eC:=aa ej;clear Bx;by_cases hz:KN=0
  ·as_aux_lemma=>
   have hzb:((KN:Int) == 0)=true:=by simp[hz]
   obtain rfl:done=V:=HK.o.2.1.1 hz;obtain rfl:=hnil (List.length_eq_zero_iff.1 (by rw[<- HK.o.1];exact hz));generalize done=V at *;have PX:=aa (show _/\_ from⟨HG.out.1.moved ej,HG.out.2⟩);clear ej hnil hne hz HG eC;have wd:IntKind.i64.wrap (V:Int)=(V:Int):=by have:=HV.o;rw[ax]<;>omega
   have hdb:((V:Int) == (V:Int))=true:=by simp
   have xL:¬(gen:Int)>(V:Int):=by have:=HK.o;omega
   have hop:=aa (Ps HW PX.o.1);unfold Yc ptrTo at hop;go_wp2_with fail;refine hop.o.mono ?_;rintro e w4⟨gb,ob,ib,vb,d4,o4,rfl,eG,hn4⟩;have p8:Hid (pS w1 w4 pb db n o4 d4 L3 V gen V es vs/\D4 L3 vs gen/\CS w1 w4 pb db n o4 d4 L3 gb gen V ob ib vb es vs):=aa ⟨PX.o.1.moved eG,PX.o.2,hn4⟩;have hsz:=aa (sD hn4.jI.gr);unfold ptrTo at hsz;clear eG hn4 hop PX hdb xL;have hdb:((V:Int) == (V:Int))=true:=by simp
   go_wp2_with fail;refine hsz.o.mono ?_;rintro e w4'⟨rfl,rfl⟩;have tO:=aa p8.o.1.held.aX;have XZ:=Pv w4 V (by have:=HV.o;omega);obtain⟨W5,hW5⟩:∃W,W=w4.alloc (.cells (madeCells #[.bool false] (V*1)) 4):=⟨_,rfl⟩;have yg:Hid (au (fun _=>False) n pb db w4 o4 d4 W5 o4 d4 L3/\cg W5 o4 w4.heap.size V (fun _=>.bool false)/\W5.heap.size=w4.heap.size+1):=aa (by rw[hW5];exact⟨(au.refl _ tO.o).alloc _,q8 (tO.o.fresh (Nat.le_refl _)) _ _ _,ah⟩);rw[<- hW5]at XZ;clear hW5 hsz;go_upto_region 20 with fail
   have hmu:=Jx W5 V (by have:=HV.o;omega);obtain⟨W6,Ye⟩:∃W,W=W5.alloc (.cells (madeCells #[.int .u32 0] (V*1)) 26):=⟨_,rfl⟩;have BA:Hid (au (fun _=>False) n pb db w4 o4 d4 W6 o4 d4 L3/\cg W6 o4 w4.heap.size V (fun _=>.bool false)/\cg W6 o4 W5.heap.size V (fun _=>.int .u32 0)/\W5.heap.size=w4.heap.size+1/\W6.heap.size=W5.heap.size+1):=aa (by rw[Ye];exact⟨yg.o.1.alloc _,yg.o.2.1.below ai,q8 (yg.o.1.aX.fresh (Nat.le_refl _)) _ _ _,yg.o.2.2,ah⟩);rw[<- Ye]at hmu;clear Ye yg XZ;go_upto_region 21 with fail
   have afw:=Jx W6 V (by have:=HV.o;omega);obtain⟨W7,hW7⟩:∃W,W=W6.alloc (.cells (madeCells #[.int .u32 0] (V*1)) 26):=⟨_,rfl⟩;obtain⟨sb,vr⟩:∃x,x=w4.heap.size:=⟨_,rfl⟩;obtain⟨lb,s6⟩:∃x,x=W5.heap.size:=⟨_,rfl⟩;obtain⟨rb,Us⟩:∃x,x=W6.heap.size:=⟨_,rfl⟩;have BL:Hid (au (fun _=>False) n pb db w4 o4 d4 W7 o4 d4 L3/\cg W7 o4 sb V (q9 vs 0)/\cg W7 o4 lb V (y5 vs 0)/\cg W7 o4 rb V (y6 vs 0)):=aa (by
    rw[hW7,vr,s6,Us];have hb:=(Below.refl W6.heap.size W6).alloc (Nat.le_refl _) (.cells (madeCells #[.int .u32 0] (V*1)) 26);exact⟨BA.o.1.alloc _,BA.o.2.1.below hb,BA.o.2.2.1.below hb,q8 (BA.o.1.aX.fresh (Nat.le_refl _)) _ _ _⟩)
   have HBK:Hid (w4.heap.size<=sb/\lb=sb+1/\rb=lb+1):=aa (by have:=BA.o.2.2.2;omega);rw[<- hW7,<- Us]at afw;rw[<- vr,<- s6];clear hW7 BA hmu vr s6 Us;go_wp2_with fail;clear afw;have HVT:Hid (∀W o d,au (fun _=>False) n pb db w4 o4 d4 W o d L3->∀(v:Nat)(x:bW),vs[v]? = some x->Calls prog 23 #[ptrTo gb,.int .u32 (v:Int)] W fun e w'=>∃d' o',e=.returned (.tuple #[wH x,.int .i64 0])/\au (fun _=>False) n pb db W o d w' o' d' L3):=aa (fun W o d hm v x hx=>(p8.o.2.2.moved hm).Mc HW hx);unfold ptrTo wH at HVT;have UJ:Hid (∀(v:Nat)(x:bW),vs[v]? = some x->x.r.toNat<V/\x.r.toNat=tz vs v/\x.l.toNat=Jy vs v/\1<=Jy vs v/\Jy vs v<=gen/\q9 vs v (tz vs v)=.bool false):=aa (fun v x hx=>by
    obtain⟨h1,h2⟩:=p8.o.1.ok.full rfl hx;obtain⟨h3,h4⟩:=p8.o.2.1.lev _ _ hx h1;have e1:tz vs v=x.r.toNat:=by unfold tz;rw[hx];rfl
    have e2:Jy vs v=x.l.toNat:=by unfold Jy;rw[hx];rfl
    refine⟨h2,e1.symm,e2.symm,ae,ae,?_⟩;unfold q9;rw[List.any_eq_false.2];intro i hi;have hiv:=List.mem_range.1 hi;have UU:=aM hx;have hy:vs[i]? = some vs[i]:=List.getElem?_eq_getElem ae;have e3:tz vs i=vs[i].r.toNat:=by unfold tz;rw[hy];rfl
    simp only[decide_eq_true_eq];intro e4;have:=p8.o.1.ok.one _ _ _ _ hy hx (p8.o.1.ok.full rfl hy).1 (UInt32.toNat_inj.1 ae);omega)
   go_loopw [16] (fun vi W=>∃(v:Nat)(o:ar)(d:Dsk),vi=.int .i64 (v:Int)/\v<=V/\Hid (au (fun _=>False) n pb db w4 o4 d4 W o d L3/\cg W o sb V (q9 vs v)/\cg W o lb V (y5 vs v)/\cg W o rb V (y6 vs v))) (fun vi _=>V-(intOf vi).toNat)
   case atStart=>exact⟨0,o4,d4,rfl,Nat.zero_le _,BL⟩
   case round=>
    obtain⟨v,o8,d8,rfl,hv,Hj⟩:=hrel;generalize wr=W8 at *;clear BL;by_cases hlt:v<V
    ·as_aux_lemma=>
     have EF:(v:Int)<(V:Int):=by omega
     have wv:IntKind.u32.wrap (v:Int)=(v:Int):=eL _ ae (by have:=HV.o;omega);have wv1:IntKind.i64.wrap ((v:Int)+1)=((v+1:Nat):Int):=by have:=HV.o;rw[ax]<;>omega
     have FU:=aa hlt;obtain⟨x,hx⟩:∃x,vs[v]? = some x:=⟨_,List.getElem?_eq_getElem (by rw[p8.o.1.ok.len];exact hlt)⟩;have Uj:=aa (HVT.o _ _ _ Hj.out.1 v x hx);obtain⟨q1,q2,q3,q4,q5,q6⟩:=UJ.o v x hx;obtain⟨xr,BI⟩:∃z,z=tz vs v:=⟨_,rfl⟩;obtain⟨xl,CX⟩:∃z,z=Jy vs v:=⟨_,rfl⟩;rw[q2,q3,<- BI,<- CX]at Uj;rw[q2,<- BI]at q1;rw[<- BI]at q6;rw[<- CX]at q4 q5;have HXR:=aa (show _/\_/\_/\_ from⟨BI,CX,q1,q6⟩);have wr1:IntKind.i64.wrap (xr:Int)=(xr:Int):=by have:=HV.o;rw[ax]<;>omega
     have vG:¬(xr:Int) >= (V:Int):=by omega
     have Gp:(xr:Int)<(V:Int):=by omega
     have Kg:¬(xl:Int)<1:=by omega
     have wl1:IntKind.i64.wrap (xl:Int)=(xl:Int):=by have:=HV.o;have:=HK.o;rw[ax]<;>omega
     have hlg:¬(xl:Int)>(gen:Int):=by omega
     clear hlt hx q1 q2 q3 q4 q5 q6 BI CX;go_wp2_with fail;refine Uj.o.mono ?_;rintro e w9⟨d9,o9,rfl,QC⟩;obtain⟨WQ,aaR⟩:∃W,W=w9.alloc (.cells #[.int .u32 (xr:Int),.int .u32 (xl:Int),.int .u32 (x.g.toNat:Int)] 55):=⟨_,rfl⟩;obtain⟨bx,FO⟩:∃z,z=w9.heap.size:=⟨_,rfl⟩;have aaS:Hid (au (fun _=>False) n pb db w4 o4 d4 WQ o9 d9 L3/\cg WQ o9 sb V (q9 vs v)/\cg WQ o9 lb V (y5 vs v)/\cg WQ o9 rb V (y6 vs v)/\WQ.heap[bx]? = some (.cells #[.int .u32 (xr:Int),.int .u32 (xl:Int),.int .u32 (x.g.toNat:Int)] 55)/\rb<bx):=aa (by
      obtain⟨h1,h2,h3,h4⟩:=Hj.out;have k1:=h1.trans QC (fun _ _ e=>e);have hb:=(Below.refl w9.heap.size w9).alloc (Nat.le_refl _) (.cells #[.int .u32 (xr:Int),.int .u32 (xl:Int),.int .u32 (x.g.toNat:Int)] 55);rw[aaR,FO];exact⟨k1.alloc _,(h2.moved QC).below hb,(h3.moved QC).below hb,(h4.moved QC).below hb,heap_alloc_new _ _,(h4.moved QC).2.1⟩)
     clear QC Uj Hj;go_upto_region 26 with fail
     rw[<- aaR,<- FO];clear aaR FO;obtain⟨-,k2,k3,k4,k5,-⟩:=aaS.o;have a0:WQ.cell? ⟨bx,0,none⟩=some (.int .u32 (xr:Int)):=by rw[aq k5];rfl
     have a1:WQ.cell? ⟨bx,1,none⟩=some (.int .u32 (xl:Int)):=by rw[aq k5];rfl
     have c0:WQ.cell? ⟨sb,xr,none⟩=some (.bool false):=by rw[k2.cell HXR.o.2.2.1,HXR.o.2.2.2]
     have f0:=k2.frozen;clear k2 k3 k4 k5;go_upto_region 29 with fail
     obtain⟨Yf,aaT⟩:∃W,W=WQ.setCell ⟨sb,xr,none⟩ (.bool true):=⟨_,rfl⟩;have Mg:Hid (au (fun _=>False) n pb db w4 o4 d4 Yf o9 d9 L3/\cg Yf o9 sb V (q9 vs (v+1))/\cg Yf o9 lb V (y5 vs v)/\cg Yf o9 rb V (y6 vs v)/\Yf.heap[bx]? = some (.cells #[.int .u32 (xr:Int),.int .u32 (xl:Int),.int .u32 (x.g.toNat:Int)] 55)/\rb<bx):=aa (by
      obtain⟨h1,h2,h3,h4,h5,h6⟩:=aaS.o;have hb:=HBK.o;rw[aaT];exact⟨h1.setCell _ _ h2.1 (.inr hb.1),(h2.put xr (.bool true)).congr fun i _=>by rw[HXR.o.1];exact TX v i,h3.other ae _ _,h4.other ae _ _,by rw[heap_setCell_other _ _ _ _ (by show bx≠sb;omega)];exact h5,h6⟩)
     rw[<- aaT];clear aaT aaS a0 a1 c0 f0;obtain⟨-,-,k3,-,k5,-⟩:=Mg.o;have a1:Yf.cell? ⟨bx,1,none⟩=some (.int .u32 (xl:Int)):=by rw[aq k5];rfl
     have c0:Yf.cell? ⟨lb,v,none⟩=some (.int .u32 (((if v<v then Jy vs v else 0):Nat):Int)):=k3.cell FU.o;have f0:=k3.frozen;generalize ((if v<v then Jy vs v else 0):Nat)=zz at c0;clear k3 k5;go_upto_region 30 with fail
     obtain⟨Yg,aaU⟩:∃W,W=Yf.setCell ⟨lb,v,none⟩ (.int .u32 (xl:Int)):=⟨_,rfl⟩;have Mh:Hid (au (fun _=>False) n pb db w4 o4 d4 Yg o9 d9 L3/\cg Yg o9 sb V (q9 vs (v+1))/\cg Yg o9 lb V (y5 vs (v+1))/\cg Yg o9 rb V (y6 vs v)/\Yg.heap[bx]? = some (.cells #[.int .u32 (xr:Int),.int .u32 (xl:Int),.int .u32 (x.g.toNat:Int)] 55)/\rb<bx):=aa (by
      obtain⟨h1,h2,h3,h4,h5,h6⟩:=Mg.o;have hb:=HBK.o;rw[aaU];exact⟨h1.setCell _ _ h3.1 (.inr (by show _<=lb;omega)),h2.other ae _ _,(h3.put v (.int .u32 (xl:Int))).congr fun i _=>by rw[HXR.o.2.1];exact WN v i,h4.other ae _ _,by rw[heap_setCell_other _ _ _ _ (by show bx≠lb;omega)];exact h5,h6⟩)
     rw[<- aaU];clear aaU Mg a1 c0 f0;obtain⟨-,-,-,k4,k5,-⟩:=Mh.o;have a0:Yg.cell? ⟨bx,0,none⟩=some (.int .u32 (xr:Int)):=by rw[aq k5];rfl
     have c0:Yg.cell? ⟨rb,v,none⟩=some (.int .u32 (((if v<v then tz vs v else 0):Nat):Int)):=k4.cell FU.o;have f0:=k4.frozen;generalize ((if v<v then tz vs v else 0):Nat)=zz at c0;clear k4 k5;obtain⟨W13,afy⟩:∃W,W=Yg.setCell ⟨rb,v,none⟩ (.int .u32 (xr:Int)):=⟨_,rfl⟩;have Pw:Hid (au (fun _=>False) n pb db w4 o4 d4 W13 o9 d9 L3/\cg W13 o9 sb V (q9 vs (v+1))/\cg W13 o9 lb V (y5 vs (v+1))/\cg W13 o9 rb V (y6 vs (v+1))):=aa (by
      obtain⟨h1,h2,h3,h4,h5,h6⟩:=Mh.o;have hb:=HBK.o;rw[afy];exact⟨h1.setCell _ _ h4.1 (.inr (by show _<=rb;omega)),h2.other ae _ _,h3.other ae _ _,(h4.put v (.int .u32 (xr:Int))).congr fun i _=>by rw[HXR.o.1];exact WO v i⟩)
     go_wp2;rw[<- afy];exact⟨⟨v+1,o9,d9,rfl,FU.o,Pw⟩,by have:=FU.o;simp[intOf];omega⟩
    ·as_aux_lemma=>
     have EF:¬(v:Int)<(V:Int):=by omega
     obtain rfl:v=V:=by omega
     generalize v=V at *;clear hv hlt;obtain⟨INV,Px⟩:∃I:World->ar->Dsk->Prop,I=fun W o d=>au (fun _=>False) n pb db w4 o4 d4 W o d L3/\cg W o lb V (y5 vs V)/\cg W o rb V (y6 vs V):=⟨_,rfl⟩;have HX:=aa (show INV W8 o8 d8 from by rw[Px];exact⟨Hj.out.1,Hj.out.2.2.1,Hj.out.2.2.2⟩);have HIC:Hid (∀W o d,INV W o d->∀i,i<V->W.cell? ⟨lb,i,none⟩=some (.int .u32 ((Jy vs i:Nat):Int))/\W.cell? ⟨rb,i,none⟩=some (.int .u32 ((tz vs i:Nat):Int))):=aa (fun W o d h i hi=>by
      rw[Px]at h;rw[h.2.1.cell hi,h.2.2.cell hi,aaP hi,aaQ hi];exact⟨rfl,rfl⟩)
     have HIM:Hid (∀{W o d W' o' d'},INV W o d->au (fun _=>False) n pb db W o d W' o' d' L3->INV W' o' d'):=aa (fun h hm=>by
      rw[Px]at h ⊢;exact⟨h.1.trans hm fun _ _ e=>e,h.2.1.moved hm,h.2.2.moved hm⟩)
     have JO:Hid (∀{W o d W'},INV W o d->Below W.heap.size W W'->INV W' o d):=aa (fun h hb=>HIM.o h (au.aW (by rw[Px]at h;exact h.1.aX) hb));have FT:Hid (∀{W o d},INV W o d->pS w1 W pb db n o d L3 V gen V es vs):=aa (fun h=>p8.o.1.moved (by rw[Px]at h;exact h.1));have XR:Hid (∀i j,i<V->j<V->Jy vs i<Jy vs j->tz vs i<tz vs j):=aa (fun i j hi hj hl=>by
      have kB:i<vs.length:=by rw[p8.o.1.ok.len];exact hi
      have kY:j<vs.length:=by rw[p8.o.1.ok.len];exact hj
      have hx:vs[i]? = some vs[i]:=List.getElem?_eq_getElem kB;have hy:vs[j]? = some vs[j]:=List.getElem?_eq_getElem kY;obtain⟨-,e1,e2,-⟩:=UJ.o i _ hx;obtain⟨-,e3,e4,-⟩:=UJ.o j _ hy;have:=p8.o.2.1.mono _ _ _ _ hx hy (p8.o.1.ok.full rfl hx).1 (p8.o.1.ok.full rfl hy).1;omega)
     have Uf:Hid (∀k i j,yC vs k i j->i<V/\j<V/\Jy vs i=k/\tz vs i<tz vs j):=aa (fun k i j ⟨a,c,ha,hc,h1,h2,h3⟩=>by
      have hl:=p8.o.1.ok.len;have:=aM ha;have:=aM hc;obtain⟨-,e1,e2,-⟩:=UJ.o i _ ha;obtain⟨-,e3,e4,-⟩:=UJ.o j _ hc;omega)
     have HFL:=aa p8.o.2.1.files;clear Px Hj UJ HVT p8;go_wp2_with fail;go_loopw [19] (fun vi W=>∃a:Nat,vi=.int .i64 (a:Int)/\a<=V/\Hid (INV W o8 d8)) (fun vi _=>V-(intOf vi).toNat)
     case atStart=>exact⟨0,rfl,Nat.zero_le _,HX⟩
     case round=>
      obtain⟨a,rfl,ha,K0⟩:=hrel;generalize wr=WA at *;clear HX;by_cases hlt:a<V
      ·as_aux_lemma=>
       have EF:(a:Int)<(V:Int):=by omega
       have wa:IntKind.i64.wrap ((a:Int)+1)=((a+1:Nat):Int):=by have:=HV.o;rw[ax]<;>omega
       have HAL:=aa hlt;clear hlt ha;go_wp2_with fail;go_loopw [20] (fun vi W=>∃b:Nat,vi=.int .i64 (b:Int)/\b<=V/\Hid (INV W o8 d8)) (fun vi _=>V-(intOf vi).toNat)
       case atStart=>exact⟨0,rfl,Nat.zero_le _,K0⟩
       case round=>
        obtain⟨b,rfl,hb,JL⟩:=hrel;generalize wr=WB at *;clear K0;by_cases s6:b<V
        ·have ak8:(b:Int)<(V:Int):=by omega
         have wb1:IntKind.i64.wrap ((b:Int)+1)=((b+1:Nat):Int):=by have:=HV.o;rw[ax]<;>omega
         obtain⟨c0,c1⟩:=HIC.o _ _ _ JL.out a HAL.o;obtain⟨c2,c3⟩:=HIC.o _ _ _ JL.out b s6;have hmn:=XR.o a b HAL.o s6;have z7:=aa s6;have Ad:Hid (∀W,Below WB.heap.size WB W->INV W o8 d8):=aa (fun W h=>JO.o JL.out h);generalize Jy vs a=la at *;generalize Jy vs b=lc at *;generalize tz vs a=ra at *;generalize tz vs b=rc at *;by_cases FP:la<lc
         ·as_aux_lemma=>
          have ala:decide (la<lc)=true:=decide_eq_true FP;have vG:decide (rc<=ra)=false:=by have:=hmn FP;simp;omega
          clear s6 hb hmn FP JL;go_upto_region 37 with fail
          go_quiet (fail)
          go_wp2;exact⟨⟨b+1,rfl,z7.o,aa (Ad.o _ (by first | exact Below.refl _ _ | exact aj.drew | exact below_drewN aj _))⟩,by have:=z7.o;simp[intOf];omega⟩
         ·as_aux_lemma=>
          have ala:decide (la<lc)=false:=decide_eq_false FP;clear s6 hb hmn FP JL;go_upto_region 37 with fail
          go_quiet (fail)
          go_wp2;exact⟨⟨b+1,rfl,z7.o,aa (Ad.o _ (by first | exact Below.refl _ _ | exact aj.drew | exact below_drewN aj _))⟩,by have:=z7.o;simp[intOf];omega⟩
        ·as_aux_lemma=>
         have ak8:¬(b:Int)<(V:Int):=by omega
         clear hb s6;go_wp2;exact⟨⟨a+1,rfl,HAL.o,JL⟩,by have:=HAL.o;simp[intOf];omega⟩
      ·as_aux_lemma=>
       have EF:¬(a:Int)<(V:Int):=by omega
       clear hlt ha XR;go_wp2_with fail;go_loopw [21] (fun vk W=>∃(k:Nat)(o:ar)(d:Dsk),vk=.int .i64 (k:Int)/\1<=k/\k<=gen+1/\Hid (INV W o d)) (fun vk _=>gen+1-(intOf vk).toNat)
       case atStart=>exact⟨1,o8,d8,rfl,Nat.le_refl _,ae,K0⟩
       case round=>
        obtain⟨k,ZX,d10,rfl,Nv,hk,rD⟩:=hrel;generalize wr=WK at *;clear K0;by_cases hlk:k<=gen
        ·as_aux_lemma=>
         have alb:(k:Int)<=(gen:Int):=by omega
         have wk1:IntKind.i64.wrap ((k:Int)+1)=((k+1:Nat):Int):=by have:=HV.o;have:=HK.o;rw[ax]<;>omega
         have wk:IntKind.i64.wrap (k:Int)=(k:Int):=by have:=HV.o;have:=HK.o;rw[ax]<;>omega
         obtain⟨U,D,QE,Td,hul,Mj,hU,hD⟩:=HFL.o k Nv hlk;have HU:Hid (U.length<=6000/\D.length<=6000/\(∀x∈U,yC vs k x.t.toNat x.h.toNat)/\∀x∈D,yC vs k x.h.toNat x.t.toNat):=aa ⟨hul,Mj,hU,hD⟩;have HKL:=aa (show 1<=k/\k<=gen from⟨Nv,hlk⟩);have HNU:=aa (fun W=>cX 117 k (w:=W) (o:=fun _=>Option.none) (.inl (by have:=HV.o;have:=HK.o;omega)));have NZ:=aa (fun W=>cX 100 k (w:=W) (o:=fun _=>Option.none) (.inl (by have:=HV.o;have:=HK.o;omega)));have HEU:Hid (∀W o d,INV W o d->Calls prog 35 #[ptrTo pb,.string (aG 117 k)] W (oT n pb db W o d L3 U)):=aa (fun W o d h=>yB HW (FT.o h).held (by have:=(FT.o h).need;omega) QE ae);have HED:Hid (∀W o d,INV W o d->Calls prog 35 #[ptrTo pb,.string (aG 100 k)] W (oT n pb db W o d L3 D)):=aa (fun W o d h=>yB HW (FT.o h).held (by have:=(FT.o h).need;omega) Td ae);unfold oT ptrTo at HEU HED;clear Nv hk hlk QE Td hul Mj hU hD;go_wp2_with fail;refine(HNU.o _).mono ?_;rintro e w11⟨rfl,afz⟩;have Mg:=aa (JO.o rD.out afz);clear afz rD HNU;go_wp2_with fail;refine(HEU.o _ _ _ Mg.o).mono ?_;rintro e Wt⟨vu,d12,Pp,rfl,Jr,afA⟩;have Mh:=aa (show _/\_ from⟨HIM.o Mg.o Jr,afA⟩);clear Jr afA Mg HEU;go_wp2_with fail;refine(NZ.o _).mono ?_;rintro e w13⟨rfl,aaV⟩;have Pw:=aa (show _/\_ from⟨JO.o Mh.o.1 aaV,Mh.o.2.moved (au.aW (FT.o Mh.o.1).held.aX aaV)⟩);clear aaV Mh NZ;go_wp2_with fail;refine(HED.o _ _ _ Pw.o.1).mono ?_;rintro e P2⟨vd,d14,o14,rfl,Pq,ale⟩;have TY:=aa (HIM.o Pw.o.1 Pq);obtain⟨bs1,g1,-⟩:=Pw.o.2.moved Pq;obtain⟨bs2,g2,-⟩:=ale;obtain⟨ua,uc,rfl⟩:=az g1;obtain⟨da,dc,rfl⟩:=az g2;have HUC:=aa (jX (lx g1)).2;have HDC:=aa (jX (lx g2)).2;obtain⟨M1,Hf⟩:∃M,M=U.length:=⟨_,rfl⟩;obtain⟨M2,JE⟩:∃M,M=D.length:=⟨_,rfl⟩;have Ob:=aa (show _/\_ from⟨Hf,JE⟩);rw[<- Hf,<- JE];clear Pq Pw HED g1 g2 Hf JE;go_wp2_with fail;go_loopw [26] (fun vi W=>∃i:Nat,vi=.int .i64 (i:Int)/\i<=M1/\Hid (Below P2.heap.size P2 W)) (fun vi _=>M1-(intOf vi).toNat)
         case atStart=>exact⟨0,rfl,Nat.zero_le _,aa aj⟩
         case round=>
          obtain⟨i,rfl,hi,HXI⟩:=hrel;generalize wr=WI at *;by_cases kB:i<M1
          ·as_aux_lemma=>
           have aaX:(i:Int)<(M1:Int):=by omega
           have wi:IntKind.i64.wrap ((i:Int)+1)=((i+1:Nat):Int):=by have:=Ob.o;have:=HU.o;rw[ax]<;>omega
           obtain⟨x,hx⟩:∃x,U[i]? = some x:=⟨_,List.getElem?_eq_getElem (by rw[<- Ob.o.1];exact kB)⟩;obtain⟨b,off,rfl,q0,q1,-⟩:=HUC.o _ HXI.out i x hx;obtain⟨h1,h2,h3,h4⟩:=Uf.o _ _ _ (HU.o.2.2.1 x (List.mem_of_getElem? hx));obtain⟨c0,c1⟩:=HIC.o _ _ _ (JO.o TY.o HXI.out) _ h1;obtain⟨-,c3⟩:=HIC.o _ _ _ (JO.o TY.o HXI.out) _ h2;rw[h3]at c0;have bt:(x.t.toNat:Int)<(V:Int):=by omega
           have bh:(x.h.toNat:Int)<(V:Int):=by omega
           have vG:decide (tz vs x.h.toNat<=tz vs x.t.toNat)=false:=by simp;omega
           have HIL:=aa kB;have Ad:Hid (∀W,Below WI.heap.size WI W->Below P2.heap.size P2 W):=aa (fun W h=>HXI.out.trans (h.mono HXI.out.size));have hkk:((k:Int) == (k:Int))=true:=by simp
           generalize tz vs x.t.toNat=ra at *;generalize tz vs x.h.toNat=rc at *;clear hx kB hi h1 h2 h3 h4;go_upto_region 49 with fail
           go_quiet (fail)
           go_wp2;exact⟨⟨i+1,rfl,HIL.o,aa (Ad.o _ (by first | exact Below.refl _ _ | exact aj.drew | exact below_drewN aj _))⟩,by have:=HIL.o;simp[intOf];omega⟩
          ·have aaX:¬(i:Int)<(M1:Int):=by omega
           clear hi kB;go_wp2_with fail;go_loopw [27] (fun vi W=>∃i:Nat,vi=.int .i64 (i:Int)/\i<=M2/\Hid (Below P2.heap.size P2 W)) (fun vi _=>M2-(intOf vi).toNat)
           case atStart=>exact⟨0,rfl,Nat.zero_le _,HXI⟩
           case round=>
            obtain⟨i,rfl,hi,HXJ⟩:=hrel;generalize wr=WJ at *;clear HXI;by_cases kB:i<M2
            ·as_aux_lemma=>
             have aaX:(i:Int)<(M2:Int):=by omega
             have wi:IntKind.i64.wrap ((i:Int)+1)=((i+1:Nat):Int):=by have:=Ob.o;have:=HU.o;rw[ax]<;>omega
             obtain⟨x,hx⟩:∃x,D[i]? = some x:=⟨_,List.getElem?_eq_getElem (by rw[<- Ob.o.2];exact kB)⟩;obtain⟨b,off,rfl,q0,q1,-⟩:=HDC.o _ HXJ.out i x hx;obtain⟨h1,h2,h3,h4⟩:=Uf.o _ _ _ (HU.o.2.2.2 x (List.mem_of_getElem? hx));obtain⟨c0,c1⟩:=HIC.o _ _ _ (JO.o TY.o HXJ.out) _ h1;obtain⟨-,c3⟩:=HIC.o _ _ _ (JO.o TY.o HXJ.out) _ h2;rw[h3]at c0;have bt:(x.t.toNat:Int)<(V:Int):=by omega
             have bh:(x.h.toNat:Int)<(V:Int):=by omega
             have vG:decide (tz vs x.t.toNat<=tz vs x.h.toNat)=false:=by simp;omega
             have HIL:=aa kB;have Ad:Hid (∀W,Below WJ.heap.size WJ W->Below P2.heap.size P2 W):=aa (fun W h=>HXJ.out.trans (h.mono HXJ.out.size));have hkk:((k:Int) == (k:Int))=true:=by simp
             generalize tz vs x.h.toNat=ra at *;generalize tz vs x.t.toNat=rc at *;clear hx kB hi h1 h2 h3 h4;go_upto_region 54 with fail
             go_quiet (fail)
             go_wp2;exact⟨⟨i+1,rfl,HIL.o,aa (Ad.o _ (by first | exact Below.refl _ _ | exact aj.drew | exact below_drewN aj _))⟩,by have:=HIL.o;simp[intOf];omega⟩
            ·as_aux_lemma=>
             have aaX:¬(i:Int)<(M2:Int):=by omega
             have HXE:=aa (JO.o TY.o HXJ.out);clear hi kB;go_wp2;exact⟨⟨k+1,o14,d14,rfl,ae,by have:=HKL.o;omega,HXE⟩,by have:=HKL.o;simp[intOf];omega⟩
        ·as_aux_lemma=>
         have alb:¬(k:Int)<=(gen:Int):=by omega
         have alf:=aa (HT.o _ _ cT.o (FT.o rD.out).held.below);clear Nv hk hlk;go_wp2_with fail;refine(HWK.o _).mono ?_;rintro e w5⟨rfl,oh⟩;have HQ:=aa (HP.o _ (HT.o _ _ alf.o oh));clear oh;go_wp2;exact HQ.o
  ·as_aux_lemma=>
   have hzb:((KN:Int) == 0)=false:=by simp;omega
   have hcn:aA es vs≠[]:=fun e=>hz (by rw[HK.o.1,e];rfl);obtain⟨afC,hg3⟩:=hne hcn;have XW:=aa (HG.out.2.next HG.out.1 hcn afC);obtain⟨es2,pV⟩:∃x,x=aK false (fM es (aA es vs)):=⟨_,rfl⟩;obtain⟨vs2,hv2⟩:∃x,x=cn es vs done gen (aA es vs):=⟨_,rfl⟩;obtain⟨D2,Ue⟩:∃x,x=done+KN:=⟨_,rfl⟩;rw[<- pV,<- hv2,<- Ue]at hg3;rw[<- hv2]at XW;have PX:=aa hg3;have hsk:(done:Int)+(KN:Int)=(D2:Int):=by omega
   have wsm:IntKind.u32.wrap (D2:Int)=(D2:Int):=eL _ ae (by have:=PX.o.ok.nr;have:=HV.o;omega);have wg:IntKind.i64.wrap ((gen:Int)+1)=((gen+1:Nat):Int):=by have:=HV.o;have:=HK.o;rw[ax]<;>omega
   have HGV:Hid (gen+1<=V):=aa (by have:=PX.o.gd;have:=PX.o.ok.nr;omega);clear ej hnil hne hz hcn afC hg3 pV hv2 Ue;go_wp2;exact⟨⟨gen+1,D2,es2,vs2,o3,d3,L3,rfl,rfl,HGV.o,aa ⟨PX.o,XW.o⟩⟩,by have:=HGV.o;simp[intOf];omega⟩
end
end Go.Proofs.YthkkgdpomhhjjaaGreatDoor
namespace Go.Proofs.YthkkgdpomhhjjaaGreatDoor.ContractRanks
open Go.ChangeShapes Go.WideShapes Go.ChangeAt Go.RowKit Go.Joins
theorem closed:joinedFacts Tryz.pinned.checked.prog 7 Tryz.f7 (OpenSpec.ofChange Rows.contractRanksSpec).bare Rows.contractRanksRow=true:=by
 unfold joinedFacts;repeat' with_reducible apply agP
 all_goals as_aux_lemma=>kernel_rfl
end Go.Proofs.YthkkgdpomhhjjaaGreatDoor.ContractRanks
