/-
  Joined.
-/
import Derived.Test.YthkkgdpomhhjjaaGreatDoorC15
set_option maxRecDepth 100000
set_option maxHeartbeats 16000000
namespace Go.Proofs.YthkkgdpomhhjjaaGreatDoor
open Go.Proofs.Tryz
section
open Go.RowKit Go.Maps
def Fy(w:World)(es:List aF)(vs:List cr)(e:Ending)(w':World):Prop:=∃gv hv,e=.returned (.agg #[gv,hv])/\kL w' gv es/\eD w' hv vs/\Below w.heap.size w w'/\(∀b,gv.ownBlock=some b->w.heap.size<=b)/\∀b,hv.ownBlock=some b->w.heap.size<=b
theorem LJ(ev vv:Value)(es:List aF)(vs:List cr)(w:World)(he:kL w ev es)(hv:PO w vv vs)(h1:es.length<=1000)(h2:vs.length<=1000):Calls prog 13 #[ev,vv] w (Fy w (aK false es) vs):=by
 have jQ:Hid (Below w.heap.size w (w.alloc (.cells #[.slice none 0 0,.slice none 0 0] 34))):=aa ai;have Cw:Hid ((w.alloc (.cells #[.slice none 0 0,.slice none 0 0] 34)).heap[w.heap.size]? = some (.cells #[.slice none 0 0,.slice none 0 0] 34)):=aa (heap_alloc_new w _);have Ps:=aa (Le ev es false _ (he.below jQ.o) ae);have HV:=aa hv;have Pf:w.heap.size<(w.alloc (.cells #[.slice none 0 0,.slice none 0 0] 34)).heap.size:=by simp
 clear he hv;go_enter func13,ntmps13;go_wp2_with fail;generalize w.alloc (.cells #[.slice none 0 0,.slice none 0 0] 34)=W0 at *;refine Ps.o.mono ?_;rintro e w1⟨gv,rfl,hg1,hb1⟩;obtain⟨ga,gn,gc,rfl⟩:∃a n c,gv=.slice a n c:=by
  obtain⟨a,c,h,-⟩:=jt hg1;grind
 have HGB:Hid (∀b,(Value.slice ga gn gc).ownBlock=some b->w.heap.size<b):=aa (fun b hb=>by have:=aG hg1 b hb;omega);have Jm:=aa (jt hg1);have cS:=aa hb1;have UI:=aa ((HV.o.below jQ.o).below hb1);clear hg1 hb1 Ps;go_wp2_with
  (refine kW (w:=w1) (by rfl) _ _ rfl rfl _ vs rfl UI.o ae (fun v2 w2 HVs HVo cX=>?_)
   obtain⟨va,vn,vc,akj⟩:∃a n c,v2=.slice a n c:=by
    obtain⟨a,c,h,-⟩:=HVs.out;grind
   subst akj;have mz:Hid (w2.heap[w.heap.size]? = some (.cells #[.slice none 0 0,.slice none 0 0] 34)):=aa (by
    rw[cX.out.block _ (Nat.lt_of_lt_of_le Pf cS.o.size),cS.o.block _ Pf];assumption)
   have k0:w2.cell? ⟨w.heap.size,0,none⟩=some (.slice none 0 0):=by rw[aq mz.o];rfl
   have k1:w2.cell? ⟨w.heap.size,1,none⟩=some (.slice none 0 0):=by rw[aq mz.o];rfl
   have z0:=aO mz.o 0;have z1:=aO mz.o 1;have HY:Hid (((w2.setCell ⟨w.heap.size,0,none⟩ (.slice ga gn gc)).setCell ⟨w.heap.size,1,none⟩ (.slice va vn vc)).heap[w.heap.size]? = some (.cells #[.slice ga gn gc,.slice va vn vc] 34)):=aa (by
    rw[aT (aT mz.o 0 (.slice ga gn gc)) 1 (.slice va vn vc)];rfl)
   have Rg:Hid (Below w.heap.size w ((w2.setCell ⟨w.heap.size,0,none⟩ (.slice ga gn gc)).setCell ⟨w.heap.size,1,none⟩ (.slice va vn vc))):=aa (((jQ.o.trans ((cS.o.trans (cX.out.mono cS.o.size)).mono jQ.o.size)).setCell (Nat.le_refl _) _).setCell (Nat.le_refl _) _);have Hr:Hid (kL ((w2.setCell ⟨w.heap.size,0,none⟩ (.slice ga gn gc)).setCell ⟨w.heap.size,1,none⟩ (.slice va vn vc)) (.slice ga gn gc) (aK false es)):=aa ((Jm.o.below cX.out).other (fun b hb=>by
    grind [Hid.out,Below.heap_setCell]))
   have HVE:Hid (eD ((w2.setCell ⟨w.heap.size,0,none⟩ (.slice ga gn gc)).setCell ⟨w.heap.size,1,none⟩ (.slice va vn vc)) (.slice va vn vc) vs):=aa (HVs.out.MV (fun b hb=>by
    have h1:=HVo.out b hb;have h2:=cS.o.size;grind [Below.heap_setCell]))
   clear Cw)
 generalize ((w2.setCell ⟨w.heap.size,0,none⟩ (.slice ga gn gc)).setCell ⟨w.heap.size,1,none⟩ (.slice va vn vc))=w3 at *;have q0:w3.cell? ⟨w.heap.size,0,none⟩=some (.slice ga gn gc):=by rw[aq HY.o];rfl
 have q1:w3.cell? ⟨w.heap.size,1,none⟩=some (.slice va vn vc):=by rw[aq HY.o];rfl
 exact bodyPost_ret (v:=.agg #[.slice ga gn gc,.slice va vn vc]) (by simp[results,Tryz.results13,go_sem,q0,q1]) rfl ⟨_,_,rfl,Hr.o,HVE.o,Rg.o,fun b hb=>Nat.le_of_lt (HGB.o b hb),fun b hb=>Nat.le_trans (Nat.le_trans (Nat.le_of_lt Pf) cS.o.size) (HVo.out b hb)⟩
theorem uP{w:World}{ops:Array Oper}{rest:List Oper}{op:Oper}{a:Act}{Q:Exit->Act->World->Prop}(hgd:op.guard=none)(s x:Operand)(ho:op.op=.call { callee:=.builtin .append,args:=#[s,x],argTypes:=#[23,23] })(base:Nat)(v:Value)(l:List cr)(hs:a.eval s=v)(hown:dM w base v l)(y:cr)(c:Nat)(hx:a.eval x=.slice (some ⟨w.heap.size,0,none⟩) 1 c)(hl:l.length<=100000)(hbase:base<=w.heap.size)(k:∀v' w',dM w' base v' (l++[y])->lq v (w.alloc (.cells #[.int .u32 (y.r.toNat:Int),.int .u32 (y.l.toNat:Int),.int .u32 (y.g.toNat:Int)] 55)) w' v'->wpList prog ops Q rest (a.put op.dst v') w') :
 wpList prog ops Q (op::rest) a (w.alloc (.cells #[.int .u32 (y.r.toNat:Int),.int .u32 (y.l.toNat:Int),.int .u32 (y.g.toNat:Int)] 55)):=by
 refine dO hgd s x 23 ho base 55 _ 3 12 Tryz.underlying23 wF rfl af v l.length (cK l) hs (World.ownsRow.alloc hown _) ⟨w.heap.size,0,none⟩ 1 c [.int .u32 (y.r.toNat:Int),.int .u32 (y.l.toNat:Int),.int .u32 (y.g.toNat:Int)] hx rfl (fun j u hj=>?_) (by simp[Value.oneCell']) (by grind [maxLen]) ae (by simp;omega) (fun v' w' h1 h2=>k v' w' ?_ h2)
 ·rw[bG,Nat.zero_add];simp_all
 ·unfold dM;rw[sF,List.length_append];exact h1
def jB:cr:=⟨4294967295,0,0⟩
theorem cU(b:Bool):aK b []=[]:=((bU b []).unique (dJ.nil b))
theorem Fz(n:Nat)(hn:n<=100)(w:World):Calls prog 61 #[.int .i64 (n:Int),.slice none 0 0] w (Fy w [] (List.replicate n jB)):=by
 have HN:=aa hn;have jQ:Hid (Below w.heap.size w (w.alloc (.cells #[.slice none 0 0,.slice none 0 0] 34))):=aa ai;have Cw:Hid ((w.alloc (.cells #[.slice none 0 0,.slice none 0 0] 34)).heap[w.heap.size]? = some (.cells #[.slice none 0 0,.slice none 0 0] 34)):=aa (heap_alloc_new _ _);have Pf:w.heap.size<(w.alloc (.cells #[.slice none 0 0,.slice none 0 0] 34)).heap.size:=by simp
 have Bt:=aa Pf;clear hn Pf;go_enter func61,ntmps61;go_wp2_with fail;generalize w.alloc (.cells #[.slice none 0 0,.slice none 0 0] 34)=W0 at *;go_loopw [5,6] (fun vl vi wr=>∃(k:Nat),vi=.int .i64 (k:Int)/\k<=n/\Hid (Below W0.heap.size W0 wr/\dM wr W0.heap.size vl (List.replicate k jB))) (fun _ vi _=>n-(intOf vi).toNat)
 case atStart=>exact⟨0,rfl,Nat.zero_le _,aa ⟨Below.refl _ _,World.ownsRow_nil _ _ _ _⟩⟩
 case round=>
  generalize u5=lv at *;obtain⟨k,rfl,hk,HS⟩:=hrel;generalize wr=W1 at *;obtain⟨la,lc,Px⟩:=az HS.out.2;rw[List.length_replicate]at Px;subst Px;by_cases hlt:k<n
  ·have FI:(k:Int)<(n:Int):=by omega
   have wk:IntKind.i64.wrap ((k:Int)+1)=((k+1:Nat):Int):=by grind [Hid.out,ax]
   have yo:k<=100000:=by grind [Hid.out]
   go_wp2_with (at_builtin;go_loud (refine uP rfl _ _ rfl W0.heap.size _ (List.replicate k jB) rfl HS.out.2 jB 1 (by rfl) (by grind) HS.out.1.size ?_);intro v2 w2 h2 ha;have eM:Hid (Below W0.heap.size W0 w2/\dM w2 W0.heap.size v2 (List.replicate (k+1) jB)):=aa ⟨(gG (HS.out.1.alloc HS.out.1.size _) (fun b hb=>aG HS.out.2 b hb) ha).1,by grind [List.replicate_succ']⟩;clear h2 ha);grind [intOf]
  ·have FI:¬(k:Int)<(n:Int):=by omega
   obtain rfl:k=n:=by omega
   have Ud:=aa (LJ (.slice none 0 0) (.slice la k lc) [] (List.replicate k jB) W1 (SE W1) (j9 HS.out.2).1.rd ah (by grind [Hid.out]));rw[cU]at Ud;go_wp2_with fail;refine Ud.o.mono ?_;rintro e w2⟨gv,hv,rfl,hg2,hv2,hb2,akk,akl⟩;obtain⟨ga,gc,rfl,-⟩:=id hg2;obtain⟨va,vc,rfl,-⟩:=id hv2;have hz1:=HS.out.1.size;have hz2:=Bt.o;have mz:Hid (w2.heap[w.heap.size]? = some (.cells #[.slice none 0 0,.slice none 0 0] 34)):=aa ((hb2.block _ ae).trans ((HS.out.1.block _ hz2).trans Cw.o));have k0:w2.cell? ⟨w.heap.size,0,none⟩=some (.slice none 0 0):=by rw[aq mz.o];rfl
   have k1:w2.cell? ⟨w.heap.size,1,none⟩=some (.slice none 0 0):=by rw[aq mz.o];rfl
   have f0:=aO mz.o 0;have f1:=aO mz.o 1;have Rg:Hid (Below w.heap.size w ((w2.setCell ⟨w.heap.size,0,none⟩ (.slice ga ([]:List aF).length gc)).setCell ⟨w.heap.size,1,none⟩ (.slice va (List.replicate k jB).length vc))):=aa (((jQ.o.trans ((HS.out.1.trans (hb2.mono hz1)).mono ae)).setCell (Nat.le_refl _) _).setCell (Nat.le_refl _) _);have HY:Hid (((w2.setCell ⟨w.heap.size,0,none⟩ (.slice ga ([]:List aF).length gc)).setCell ⟨w.heap.size,1,none⟩ (.slice va (List.replicate k jB).length vc)).heap[w.heap.size]? = some (.cells #[.slice ga ([]:List aF).length gc,.slice va (List.replicate k jB).length vc] 34)):=aa (by
    rw[aT (aT mz.o 0 (.slice ga ([]:List aF).length gc)) 1 (.slice va (List.replicate k jB).length vc)];rfl)
   have Hr:Hid (kL ((w2.setCell ⟨w.heap.size,0,none⟩ (.slice ga ([]:List aF).length gc)).setCell ⟨w.heap.size,1,none⟩ (.slice va (List.replicate k jB).length vc)) (.slice ga ([]:List aF).length gc) []):=aa ⟨ga,gc,rfl,.inl rfl⟩;have HVE:Hid (eD ((w2.setCell ⟨w.heap.size,0,none⟩ (.slice ga ([]:List aF).length gc)).setCell ⟨w.heap.size,1,none⟩ (.slice va (List.replicate k jB).length vc)) (.slice va (List.replicate k jB).length vc) (List.replicate k jB)):=aa (hv2.MV (fun b hb=>by
    grind [Below.heap_setCell]))
   have HGO:Hid ((∀b,(Value.slice ga ([]:List aF).length gc).ownBlock=some b->w.heap.size<=b)/\∀b,(Value.slice va (List.replicate k jB).length vc).ownBlock=some b->w.heap.size<=b):=aa ⟨fun b hb=>by grind,fun b hb=>by grind⟩;rw[List.length_replicate]at Rg HY Hr HVE HGO ⊢;rw[List.length_nil]at Rg HY Hr HVE HGO ⊢;clear hg2 hv2 hb2 akk akl Ud mz hz1 hz2;go_wp2_with fail;generalize (w2.setCell ⟨w.heap.size,0,none⟩ (.slice ga 0 gc)).setCell ⟨w.heap.size,1,none⟩ (.slice va k vc)=w3 at *;have q0:w3.cell? ⟨w.heap.size,0,none⟩=some (.slice ga 0 gc):=by rw[aq HY.o];rfl
   have q1:w3.cell? ⟨w.heap.size,1,none⟩=some (.slice va k vc):=by rw[aq HY.o];rfl
   exact bodyPost_ret (v:=.agg #[.slice ga 0 gc,.slice va k vc]) (by simp[results,Tryz.results61,go_sem,q0,q1]) rfl ⟨_,_,rfl,Hr.o,HVE.o,Rg.o,HGO.o.1,HGO.o.2⟩
structure CJ(L:aC)(l:List aF)(n:Nat):Prop where
 e:aA L (aJ 101 0)=some (au (aK false l) true)
 r:aA L (aJ 114 0)=some (au (aK true l) true)
 v:aA L (aJ 118 0)=some (b6 (List.replicate n jB) true)
 tz:∀y,y≠aJ 101 0->y≠aJ 114 0->y≠aJ 118 0->aA L y=none
 need:need L<=12*l.length+4*n
theorem Wo{L:aC}{l:List aF}{n:Nat}(h:Cx l L):CJ (b7 (fN L 0 l (List.replicate n jB)) yL) l n:=by
 obtain⟨f1,f2,f3⟩:=xY L 0 l (List.replicate n jB);refine⟨by rw[cO,if_neg (pG _ _),f1],by rw[cO,if_neg (pG _ _),f2],by rw[cO,if_neg (pG _ _),f3],fun y h1 h2 h3=>?_,?_⟩
 ·rw[cO];by_cases e:y=yL
  ·rw[if_pos e]
  ·rw[if_neg e,rK h1 h2 h3,h.2.1 y e]
 ·have g1:=Fu (fN L 0 l (List.replicate n jB)) yL;have g2:=AA L 0 l (List.replicate n jB);have g3:=h.2.2;rw[List.length_replicate]at g2;omega
def FA(w:World)(n:Nat)(l:List aF)(N:Nat)(e:Ending)(w':World):Prop:=
 ∃db pb o d L,e=.returned (.tuple #[ptrTo db,ptrTo pb])/\Held w w' pb db n o d L/\CJ L l N
theorem sH(n:Nat)(es:List aF):(gW n es).length<=80:=by
 unfold gW;split
 ·simp
 ·rw[List.length_map,List.length_take];omega
theorem yj(HW:aQ){m:Nat}(yI:dX m){w:World}{ev:Value}{es:List aF}(N F:Nat)(hN:N<256)(hF:F<256)(he:kL w ev es)(hm:(gW (N%25) es).length<=m) :
 Calls prog 30 #[.agg #[.int .u8 (N:Int),ev,.int .u8 (F:Int)]] w (FA w (8+F%40) (gW (N%25) es) (N%25)):=by
 have MI:=aa (fun W(hW:Below w.heap.size w W)=>DN N F hN (he.below hW));have HLN:=aa (sH (N%25) es);have Xi:=aa hm;obtain⟨ea,ec,rfl,-⟩:=id he;generalize hV:N%25=V at *;have HV:Hid (V<25):=aa ae;obtain⟨z,hz⟩:∃z,z=F%40:=⟨_,rfl⟩;have hF1:wrap64 (F:Int)=(F:Int):=by unfold wrap64;omega
 have hF2:(F:Int)%40=(z:Int):=by omega
 have hF3:IntKind.i64.wrap (8+(z:Int))=((8+z:Nat):Int):=by rw[ax]<;>omega
 have HZ:Hid (z<40):=aa ae;rw[<- hz];generalize gW V es=l at *;have jQ:Hid (Below w.heap.size w (w.alloc (.cells #[.int .u8 (N:Int),.slice ea es.length ec,.int .u8 (F:Int)] 69))):=aa ai;have Cw:Hid ((w.alloc (.cells #[.int .u8 (N:Int),.slice ea es.length ec,.int .u8 (F:Int)] 69)).heap[w.heap.size]? = some (.cells #[.int .u8 (N:Int),.slice ea es.length ec,.int .u8 (F:Int)] 69)):=aa (heap_alloc_new _ _);obtain⟨PST,mh⟩:∃P,P=FA w (8+z) l V:=⟨_,rfl⟩;have wZ:=aa mh;rw[<- mh];clear he hm hV hz hN hF mh;generalize es.length=EL at *;go_enter func30,ntmps30;go_wp2_with fail;generalize XU:w.heap.size=wb at *;generalize w.alloc (.cells #[.int .u8 (N:Int),.slice ea EL ec,.int .u8 (F:Int)] 69)=W0 at *;have XV:Hid (w.heap.size=wb/\wb<W0.heap.size):=aa ⟨XU,(Array.getElem?_eq_some_iff.1 Cw.o).1⟩;clear XU;have hsm:=aa (MI.o W0 jQ.o);unfold xg at hsm;refine hsm.o.mono ?_;rintro e w1⟨v1,rfl,hb1,k8⟩;obtain⟨a1,c1,rfl⟩:=az k8;have Me:w1.heap[wb]? = some (.cells #[.int .u8 (N:Int),.slice ea EL ec,.int .u8 (F:Int)] 69):=(hb1.block _ XV.o.2).trans Cw.o;have b2:w1.cell? ⟨wb,2,none⟩=some (.int .u8 (F:Int)):=by rw[aq Me];rfl
 have cS:Hid (Below wb w w1):=aa (jQ.o.trans (hb1.mono (Nat.le_of_lt XV.o.2)));have Cs:=aa (VI HW (8+z) ae (by have:=HZ.o;omega) _ l w1 (jt k8) (by have:=HLN.o;omega));unfold Mz ptrTo at Cs;clear hb1 k8 Me hsm MI;go_wp2_with fail;refine Cs.o.mono ?_;rintro e w2⟨db,pb,o2,d2,L2,rfl,hh2,hr2⟩;have XC:=aa hh2;have Co:=aa hr2;have hbg:=aa (Fz V (by have:=HV.o;omega) w2);clear hh2 hr2 Cs b2 hF1 hF2 hF3;unfold ptrTo Fy at *;go_wp2_with fail;refine hbg.o.mono ?_;rintro e w3⟨gv,hv,rfl,-,hv3,hb3,-,iJ⟩;have FJ:=aa (XC.o.later hb3);have vG:=aa (Ot HW yI FJ.o ae Co.o (gen:=0) (.inl af) Xi.o (by have:=HLN.o;omega) hv3 (fun b hb=>XC.o.aX.fresh (iJ b hb)) (by rw[List.length_replicate];have:=HV.o;omega));obtain⟨va,vc,rfl,-⟩:=hv3;rw[List.length_replicate]at vG ⊢;have SZ:∀w:World,(Instr.field 34 (.agg #[gv,.slice va V vc]) 1).run prog w=.ok (.slice va V vc) w:=fun _=>by kernel_rfl
 unfold Ig yL ptrTo at vG;clear hb3 iJ hbg;go_wp2_with fail;refine vG.o.mono ?_;rintro e w4⟨d4,o4,rfl,Pp⟩;have HH4:=aa Pp;have hdr:Hid (Calls prog 62 #[ptrTo pb,.string yL] w4 fun e w'=>∃gw gL,e=.returned (.int .i64 0)/\Held w1 w' pb db (8+z) gL gw (b7 (fN L2 0 l (List.replicate V jB)) yL)):=aa (by
  obtain⟨fl,Mc⟩:=Co.o.1;refine(ua Pp.aX (name:=yL) (by rw[rK (pG _ _).symm (pG _ _).symm (pG _ _).symm];exact Mc)).mono ?_;rintro e w'⟨c,gw,gL,xJ,rfl,hp,ht,hg,yl,hdr⟩;have cP:aw (fun _=>False) (8+z) pb db w4 o4 d4 w' gL gw xJ:=jh hp ht hg yl;have hh:=Pp.moved cP (fun _ e=>e.elim);rcases hdr with⟨rfl,rfl⟩|⟨-,h2,-⟩
  ·exact⟨gw,gL,rfl,hh⟩
  ·rw[hh.dead]at h2;cases h2)
 unfold yL ptrTo at hdr;clear Pp vG;go_wp2_with fail;refine hdr.o.mono ?_;rintro e w5⟨d5,o5,rfl,TP⟩;have HQF:Hid (PST (.returned (.tuple #[ptrTo db,ptrTo pb])) w5):=aa (by
  rw[wZ.o];have h1:=Wo (n:=V) Co.o;unfold yL at h1;exact⟨db,pb,o5,d5,_,rfl,TP.SG (by have:=cS.o;rwa [XV.o.1]),h1⟩)
 clear TP hdr;unfold ptrTo at HQF;go_wp2;exact HQF.o
end
section
open Go.RowKit Go.Maps
def FL:List aF:=[⟨0,1,1,4294967295⟩,⟨1,2,1,4294967295⟩]
def Wp:List cr:=[jB,jB,jB]
def yP:List cr:=[⟨0,1,0⟩,⟨4294967295,1,2⟩,⟨1,1,0⟩]
def LK:List cr:=[⟨0,1,0⟩,⟨2,2,2⟩,⟨1,1,0⟩]
theorem oL(b:Bool):aK b FL=FL:=by
 refine(dJ.eq ⟨?_,fun e he=>?_,fun x hx _=>⟨x,hx,rfl,rfl⟩⟩).symm
 ·cases b<;>decide
 ·refine⟨he,?_,fun x hx hs=>?_⟩
  ·revert e;decide
  ·have h1:∀x∈FL,∀e∈FL,x.t=e.t->x=e:=by decide
   rw[h1 x hx e he hs.1];simp
theorem TD:gW 3 [⟨0,1,1,0⟩,⟨1,2,1,0⟩]=FL:=by decide
theorem uQ:aD FL Wp=[0,2]:=by
 unfold aD en oI cV;unfold aY fB;simp only[oL];rfl
theorem uR:aD [] yP=[1]:=by
 unfold aD en oI cV;unfold aY fB;simp only[cU];rfl
theorem uS:aD [] LK=[]:=by
 rfl
theorem TE:fK FL [0,2]=[]:=by
 unfold fK gF iH;unfold aY fB;simp only[oL];rfl
theorem TF:fK [] [1]=[]:=by
 unfold fK gF iH;unfold aY fB;simp only[cU];rfl
theorem ae8:uI FL [0,2]=[⟨0,1,1,4294967295⟩]:=by
 unfold uI aY;simp only[oL];rfl
theorem TG:fC FL [0,2]=[⟨1,2,1,4294967295⟩]:=by
 unfold fC fB;simp only[oL];rfl
theorem ae9:uI [] [1]=[]:=by
 unfold uI aY;simp only[cU];rfl
theorem TH:fC [] [1]=[]:=by
 unfold fC fB;simp only[cU];rfl
theorem Ws:dP FL Wp 0 0 [0,2]=yP:=by
 unfold dP fW cV;unfold aY fB;simp only[oL];rfl
theorem Wt:dP [] yP 2 1 [1]=LK:=by
 unfold dP fW cV;unfold aY fB;simp only[cU];rfl
section
variable {w0 w w':World} {pb db:Nat} {o:ar} {d:Dsk} {L L':aC}
theorem akm(hh:Held w0 w pb db 8 o d L)(hg:CJ L FL 3)(m:Nat):Tz w0 w pb db 8 o d L 0 0 m FL Wp:=by
 have hn:=hg.need;have hl:FL.length=2:=rfl;refine⟨hh,af,af,hg.e,hg.r,hg.v,af,af,af,?_,fun c=>hg.tz _ (bq af) (bq af) (bq af),fun k=>hg.tz _ (bm _ af _ _).symm (bm _ af _ _).symm (bm _ af _ _).symm,?_,?_,?_,?_⟩
 ·unfold en;exact Nat.le_trans (List.length_filterMap_le _ _) af
 ·grind [uQ,TE]
 ·rw[uQ,TE,ae8,TG,hl];have:Wp.length=3:=rfl;grind
 ·grind [uQ]
 grind [fB,FL,H9,oL,aY]
theorem akn(hh:Held w0 w pb db 8 o d L')(hg:CJ L FL 3)(hr:nh L L' 0 [] [⟨0,1,1,4294967295⟩] [⟨1,2,1,4294967295⟩] yP)(m:Nat):Tz w0 w pb db 8 o d L' 1 2 m [] yP:=by
 have hn:=hg.need;have hl:FL.length=2:=rfl;have hk:=hr.need;have e1:=fY (aK false []);have e2:=fY (aK true []);have e3:=fY [⟨0,1,1,4294967295⟩];have e4:=fY [⟨1,2,1,4294967295⟩];have e5:vN yP<=4*yP.length:=fR _ _;rw[cU]at e1 e2;rw[cU,cU]at hk;simp only[List.length_nil,List.length_singleton]at e1 e2 e3 e4;have e6:yP.length=3:=rfl;refine⟨hh,af,af,hr.e,hr.r,hr.v,af,af,af,?_,fun c=>?_,fun k=>?_,?_,?_,?_,?_⟩
 ·unfold en;exact Nat.le_trans (List.length_filterMap_le _ _) af
 ·rw[hr.tz _ (bq af) (bq af) (bq af) (bq af) (bq af)];grind [CJ.tz,bq]
 ·rw[hr.tz _ (bm _ af _ _).symm (bm _ af _ _).symm (bm _ af _ _).symm (bm _ af _ _).symm (bm _ af _ _).symm];grind [CJ.tz,bm]
 ·grind [uR,TF]
 ·grind [uR,TF,ae9,TH]
 ·grind [uR]
 grind [fB,H9,cU]
theorem ako{L0:aC}(hh:Held w0 w pb db 8 o d L')(hg:CJ L0 FL 3)(h0:nh L0 L 0 [] [⟨0,1,1,4294967295⟩] [⟨1,2,1,4294967295⟩] yP)(hr:nh L L' 1 [] [] [] LK)(m:Nat):Tz w0 w pb db 8 o d L' 2 3 m [] LK:=by
 have hn:=hg.need;have hl:FL.length=2:=rfl;have hk:=hr.need;have JI:=h0.need;have e1:=fY (aK false []);have e2:=fY (aK true []);have e3:=fY [⟨0,1,1,4294967295⟩];have e4:=fY [⟨1,2,1,4294967295⟩];have e5:vN yP<=4*yP.length:=fR _ _;have e7:vN LK<=4*LK.length:=fR _ _;rw[cU]at e1 e2;rw[cU,cU]at hk JI;simp only[List.length_nil,List.length_singleton]at e1 e2 e3 e4;have e6:yP.length=3:=rfl;have e8:LK.length=3:=rfl;refine⟨hh,af,af,hr.e,hr.r,hr.v,af,af,af,?_,fun c=>?_,fun k=>?_,?_,?_,?_,?_⟩
 ·unfold en;exact Nat.le_trans (List.length_filterMap_le _ _) af
 ·rw[hr.tz _ (bq af) (bq af) (bq af) (bq af) (bq af),h0.tz _ (bq af) (bq af) (bq af) (bq af) (bq af)];grind [CJ.tz,bq]
 ·rw[hr.tz _ (bm _ af _ _).symm (bm _ af _ _).symm (bm _ af _ _).symm (bm _ af _ _).symm (bm _ af _ _).symm,h0.tz _ (bm _ af _ _).symm (bm _ af _ _).symm (bm _ af _ _).symm (bm _ af _ _).symm (bm _ af _ _).symm];grind [CJ.tz,bm]
 ·grind [uS,fK,gF,cU]
 ·grind [uS,fK,gF,cU,uI,fC]
 ·grind [uS]
 grind [fB,H9,cU]
end
end
section
open Go.RowKit Go.Maps
def gN:Nat->Nat
 |0=>0
 |s+1=>gN s+(8*(s*s)+8*s+96)
theorem aay(r k:Nat):gN r+k*(8*(r*r)+8*r+96)<=gN (r+k):=by
 induction k with
 |zero=>simp
 |succ k ih=>
   have h:=Nat.mul_le_mul (show r<=r+k by omega) (show r<=r+k by omega);rw[Nat.add_mul,Nat.one_mul,show r+(k+1)=(r+k)+1 by omega,gN];omega
section
variable {N done gen n pb db:Nat} {es:List aF} {vs:List cr} {w0 w w':World} {o o':ar} {d d':Dsk} {L L':aC} {b:Bool}
def Bg(N:Nat)(vs:List cr):List Nat:=(List.range N).filter fun i=>!jx vs i
theorem pV.rest(h:pV N es vs done):(Bg N vs).length+done=N:=by
 have h1:=yf (l:=List.range N) (p:=jx vs) (q:=fun i=>!jx vs i) (r:=fun _=>true) (fun x _=>by simp) (fun x _ h1 h2=>by simp[h1]at h2);rw[h.count,List.filter_eq_self.2 (fun _ _=>rfl),List.length_range]at h1;unfold Bg;omega
theorem TI{i:Nat}:i∈Bg N vs↔i<N/\jx vs i=false:=by
 unfold Bg;simp
theorem tj(b:Bool)(l:List aF):((aK b l).map fun x=>(x.t.toNat,x.h.toNat)).Nodup:=by
 refine List.pairwise_map.2 ((bU b l).gy.imp fun{x y}h e=>?_);rw[Prod.mk.injEq]at e;unfold pk at h;cases b<;>simp only[if_true,if_false,Bool.false_eq_true]at h<;>omega
theorem mj{α β:Type}{l:List α}{f:α->List β}{m:Nat}(h:∀x∈l,(f x).length<=m):(l.flatMap f).length<=l.length*m:=by
 induction l with
 |nil=>simp
 |cons a l ih=>
   have:=h a ah;have:=ih fun x hx=>h x (by simp[hx]);rw[List.flatMap_cons,List.length_append,List.length_cons,Nat.add_mul];omega
theorem M0{l:List aF}{S:List Nat}(hs:l.Sublist (aK b es))(h:∀x∈l,x.t.toNat∈S/\x.h.toNat∈S):l.length<=S.length*S.length:=by
 have h1:(l.map fun x=>(x.t.toNat,x.h.toNat)).Nodup:=(hs.map _).nodup (tj b es);have h2:=qT (l₂:=S.flatMap fun a=>S.map fun c=>(a,c)) h1 (fun p hp=>by
  obtain⟨x,hx,rfl⟩:=List.mem_map.1 hp;exact List.mem_flatMap.2 ⟨_,(h x hx).1,List.mem_map.2 ⟨_,(h x hx).2,rfl⟩⟩)
 rw[List.length_map]at h2;exact Nat.le_trans h2 (mj fun a _=>by simp)
theorem TJ{v:Nat}{S:List Nat}(h:∀x∈aY es v,x.h.toNat∈S):(aY es v).length<=S.length:=by
 have h1:((aY es v).map fun x=>(x.t.toNat,x.h.toNat)).Nodup:=((List.filter_sublist).map _).nodup (tj false es);have h2:=qT (l₂:=S.map fun c=>(v,c)) h1 (fun p hp=>by
  obtain⟨x,hx,rfl⟩:=List.mem_map.1 hp;exact List.mem_map.2 ⟨_,h x hx,by rw[(nd.1 hx).2]⟩)
 simpa using h2
theorem XW{v:Nat}{S:List Nat}(h:∀x∈fB es v,x.t.toNat∈S):(fB es v).length<=S.length:=by
 have h1:((fB es v).map fun x=>(x.t.toNat,x.h.toNat)).Nodup:=((List.filter_sublist).map _).nodup (tj true es);have h2:=qT (l₂:=S.map fun c=>(c,v)) h1 (fun p hp=>by
  obtain⟨x,hx,rfl⟩:=List.mem_map.1 hp;exact List.mem_map.2 ⟨_,h x hx,by rw[(s9.1 hx).2]⟩)
 simpa using h2
theorem pV.sizes(h:pV N es vs done)(hd:done+(aD es vs).length<=1000){k s:Nat}(hk:k=(aD es vs).length)(hs:s+done+k=N) :
 (aK false (fK es (aD es vs))).length<=s*s/\(aK true (fK es (aD es vs))).length<=s*s/\(fK es (aD es vs)).length<=s*s+k*(s*s)/\(uI es (aD es vs)).length<=k*s/\(fC es (aD es vs)).length<=k*s:=by
 have hn:=h.next (gen:=0) hd;have hr:=hn.rest;obtain⟨S,hS⟩:∃S,S=Bg N (dP es vs done 0 (aD es vs)):=⟨_,rfl⟩;have hl:S.length=s:=by rw[hS];omega
 have p9:∀i x,vs[i]? = some x->x.r=4294967295->i ∉ aD es vs->i∈S:=fun i x hx hx2 hc=>by
  rw[hS,TI];refine⟨by rw[<- h.len];exact aN hx,?_⟩;have h1:=y5 (es:=es) (was:=vs) (done:=done) (gen:=0) hc;rw[hx]at h1;obtain⟨y,e1,e2⟩:=Option.map_eq_some_iff.1 h1;unfold jx;rw[e1];simp[e2,hx2]
 have sI:∀x∈aK false es,(x.t.toNat ∉ aD es vs->x.t.toNat∈S)/\(x.h.toNat ∉ aD es vs->x.h.toNat∈S):=fun x hx=>by
  obtain⟨a,c,h1,h2,h3,h4⟩:=h.ends x (gJ.1 hx).1;exact⟨p9 _ _ h1 h3,p9 _ _ h2 h4⟩
 have ho:∀v∈aD es vs,(aY es v).length<=s:=fun v hv=>by
  rw[<- hl];refine TJ fun x hx=>?_;have h1:=nd.1 hx;exact(sI x h1.1).2 fun hc=>pM hv hc (A8.2 ⟨x,h1.1,.inl ⟨h1.2,rfl⟩⟩)
 have hi:∀v∈aD es vs,(fB es v).length<=s:=fun v hv=>by
  rw[<- hl];refine XW fun x hx=>?_;have h1:=s9.1 hx;exact(sI x h1.1).1 fun hc=>pM hv hc (A8.2 ⟨x,h1.1,.inr ⟨h1.2,rfl⟩⟩)
 have Cs:∀b,(aK b (fK es (aD es vs))).length<=s*s:=fun b=>by
  rw[<- hl];refine M0 (List.Sublist.refl _) fun x hx=>?_;obtain⟨h1,h2,⟨y,hy,ey⟩,⟨z,hz,ez⟩⟩:=I6 (gJ.1 hx).1;rw[<- ey]at h1 ⊢;rw[<- ez]at h2 ⊢;exact⟨(sI y hy).1 h1,(sI z hz).2 h2⟩
 refine⟨Cs false,Cs true,?_,?_,?_⟩
 ·unfold fK;rw[List.length_append];refine Nat.add_le_add ?_ ?_
  ·rw[<- hl];refine M0 (b:=false) (es:=es) List.filter_sublist fun x hx=>?_;obtain⟨h1,h2,h3⟩:=Bb.1 hx;exact⟨(sI x h1).1 h2,(sI x h1).2 h3⟩
  ·rw[hk];refine mj fun v hv=>?_;unfold iH oH;refine Nat.le_trans (mj (m:=s) fun a _=>Nat.le_trans (List.length_filterMap_le _ _) ?_) (Nat.mul_le_mul_right _ (hi v hv));rw[show(UInt32.ofNat v).toNat=v by rw[UInt32.toNat_ofNat'];have:=jX hv;have:=h.len;have:=h.top;omega];exact ho v hv
 ·rw[hk];exact mj ho
 ·rw[hk];exact mj hi
structure rS(w0 w:World)(pb db n:Nat)(o:ar)(d:Dsk)(L:aC)(N gen done:Nat)(es:List aF)(vs:List cr):Prop where
 held:Held w0 w pb db n o d L
 frames:8<=n
 ok:pV N es vs done
 top:N<=24
 gd:gen<=done
 e:aA L (aJ 101 gen)=some (au (aK false es) true)
 r:aA L (aJ 114 gen)=some (au (aK true es) true)
 v:aA L (aJ 118 gen)=some (b6 vs true)
 len:es.length<=600
 free:∀c g,gen<g->aA L (aJ c g)=none
 nt:∀k,aA L (dw k)=none
 need:need L+gN (N-done)<=40200
theorem rS.moved(h:rS w0 w pb db n o d L N gen done es vs)(hm:aw (fun _=>False) n pb db w o d w' o' d' L):rS w0 w' pb db n o' d' L N gen done es vs:={ h with held:=h.held.moved hm fun _ e=>e.elim }
theorem M4:∀s<25,∀k<25,s+k<=24->s*s+k*(s*s)<=2400/\k*s<=144/\s*s<=576:=by decide
theorem rS.rn(h:rS w0 w pb db n o d L N gen done es vs):Tz w0 w pb db n o d L gen done 2400 es vs:=by
 have hd:done+(aD es vs).length<=N:=by
  have h1:=(h.ok.next (gen:=0) (by
   have:=h.ok.rJ;have h2:(aD es vs).length<=vs.length:=by
    have:=qT (l₂:=List.range vs.length) ((kG es vs).imp fun h=>Nat.ne_of_lt h) (fun v hv=>List.mem_range.2 (jX hv));simpa using this
   have:=h.ok.len;have:=h.top;omega)).rJ
  exact h1
 have ht:=h.top;have hg:=h.gd;have hl:=h.ok.len;obtain⟨h1,h2,h3,h4,h5⟩:=h.ok.sizes ae rfl (show(N-(done+(aD es vs).length))+done+(aD es vs).length=N by omega);obtain⟨q1,q2,q3⟩:=M4 (N-(done+(aD es vs).length)) ae (aD es vs).length ae ae;have sI:∀x∈es,x.t.toNat<vs.length/\x.h.toNat<vs.length:=fun x hx=>by
  obtain⟨a,c,h1,h2,-⟩:=h.ok.ends x hx;exact⟨aN h1,aN h2⟩
 have hn:=h.need;have hlen:=h.len;refine⟨h.held,h.frames,ae,h.e,h.r,h.v,ae,ae,sI,?_,fun c=>h.free c _ ae,h.nt,ae,ae,ae,fun v _=>?_⟩
 ·unfold en;refine Nat.le_trans (List.length_filterMap_le _ _) ?_;rw[List.length_zipIdx];omega
 ·have g1:(aY es v).length<=N:=by
   have:=TJ (es:=es) (v:=v) (S:=List.range N) fun x hx=>List.mem_range.2 (by have:=(sI x (gJ.1 (nd.1 hx).1).1).2;omega);simpa using this
  have g2:(fB es v).length<=N:=by
   have:=XW (es:=es) (v:=v) (S:=List.range N) fun x hx=>List.mem_range.2 (by have:=(sI x (gJ.1 (s9.1 hx).1).1).1;omega);simpa using this
  have:=Nat.mul_le_mul (Nat.le_trans g2 ht) (Nat.le_trans g1 ht);omega
theorem rS.next(h:rS w0 w pb db n o d L N gen done es vs)(hne:aD es vs≠[])(hh:Held w0 w' pb db n o' d' L')(hr:nh L L' gen (fK es (aD es vs)) (uI es (aD es vs)) (fC es (aD es vs)) (dP es vs done gen (aD es vs))) :
 rS w0 w' pb db n o' d' L' N (gen+1) (done+(aD es vs).length) (aK false (fK es (aD es vs))) (dP es vs done gen (aD es vs)):=by
 have hd:=h.rn.dlt;have hk:0<(aD es vs).length:=List.length_pos_iff.2 hne;have h0:done+(aD es vs).length<=1000:=by
  have h2:(aD es vs).length<=vs.length:=by
   have:=qT (l₂:=List.range vs.length) ((kG es vs).imp fun h=>Nat.ne_of_lt h) (fun v hv=>List.mem_range.2 (jX hv));simpa using this
  have:=h.ok.rJ;have:=h.ok.len;have:=h.top;omega
 have fw:=h.ok.next (gen:=gen) h0;have hle:=fw.rJ;have ht:=h.top;obtain⟨h1,h2,h3,h4,h5⟩:=h.ok.sizes h0 rfl (show(N-(done+(aD es vs).length))+done+(aD es vs).length=N by omega);obtain⟨q1,q2,q3⟩:=M4 (N-(done+(aD es vs).length)) ae (aD es vs).length ae ae;have hgn:=aay (N-(done+(aD es vs).length)) (aD es vs).length;rw[show N-(done+(aD es vs).length)+(aD es vs).length=N-done by omega]at hgn;have e1:=fY (aK false (fK es (aD es vs)));have e2:=fY (aK true (fK es (aD es vs)));have e3:=fY (uI es (aD es vs));have e4:=fY (fC es (aD es vs));have e5:vN (dP es vs done gen (aD es vs))<=4*(dP es vs done gen (aD es vs)).length:=fR _ _;rw[fw.len]at e5;have e6:=hr.need;have e7:=h.need;have pq:∀(c c':UInt8)g,gen+1<g->aJ c g≠aJ c' (gen+1):=fun c c' g hg=>bq ae;have yR:∀k c,c≠116->dw k≠aJ c (gen+1):=fun k c hc=>(bm c hc _ _).symm;refine⟨hh,h.frames,fw,ht,by have:=h.gd;omega,?_,?_,hr.v,ae,fun c g hg=>?_,fun k=>?_,?_⟩
 ·rw[DG];exact hr.e
 ·rw[DG];exact hr.r
 ·rw[hr.tz _ (pq _ _ _ hg) (pq _ _ _ hg) (pq _ _ _ hg) (pq _ _ _ hg) (pq _ _ _ hg)];exact h.free c g ae
 ·rw[hr.tz _ (yR _ _ af) (yR _ _ af) (yR _ _ af) (yR _ _ af) (yR _ _ af)];exact h.nt k
 ·generalize N-(done+(aD es vs).length)=s at *;generalize (aD es vs).length=k at *;have g1:s*s<=k*(s*s):=Nat.le_mul_of_pos_left _ hk;have g2:k*(8*(s*s)+8*s+96)=8*(k*(s*s))+8*(k*s)+96*k:=by
   rw[Nat.mul_add,Nat.mul_add];simp only[Nat.mul_left_comm k 8];omega
  omega
theorem LL(hh:Held w0 w pb db n o d L)(hn:8<=n){l:List aF}(hl:l.length<=80)(hN:N<=24)(he:∀x∈l,x.t.toNat<N/\x.h.toNat<N)(hg:CJ L l N):rS w0 w pb db n o d L N 0 0 l (List.replicate N jB):=by
 have hr:∀(i:Nat)(x:cr),(List.replicate N jB)[i]? = some x->x.r=4294967295:=fun i x hx=>by
  rw[List.getElem?_replicate]at hx;split at hx
  ·cases hx;rfl
  ·cases hx
 have hg0:=hg.need;have hgn:∀N<25,gN N<=39104:=by decide
 have:=hgn N ae;refine⟨hh,hn,⟨List.length_replicate,ae,fun x hx=>?_,fun i x hx h=>absurd (hr i x hx) h,fun i j x y hx _ h=>absurd (hr i x hx) h,?_⟩,hN,Nat.le_refl _,hg.e,hg.r,hg.v,ae,fun c g h=>hg.tz _ (bq ae) (bq ae) (bq ae),fun k=>hg.tz _ (bm _ af _ _).symm (bm _ af _ _).symm (bm _ af _ _).symm,by simp;omega⟩
 ·exact⟨jB,jB,by rw[List.getElem?_replicate,if_pos (he x hx).1],by rw[List.getElem?_replicate,if_pos (he x hx).2],rfl,rfl⟩
 ·rw[List.length_eq_zero_iff,List.filter_eq_nil_iff];intro i _;rw[jY];rintro⟨x,hx,h⟩;exact h (hr i x hx)
def Bh(w0 w:World)(pb db n:Nat)(o:ar)(d:Dsk)(L:aC)(N gen done:Nat)(es:List aF)(vs:List cr)(e:Ending)(w':World):Prop:=
 ∃d' o' L',e=.returned (.tuple #[.int .u32 ((aD es vs).length:Int),.int .i64 0])/\aw (fun _=>False) n pb db w o d w' o' d' L'/\(aD es vs=[]->L'=L)/\(aD es vs≠[]->nh L L' gen (fK es (aD es vs)) (uI es (aD es vs)) (fC es (aD es vs)) (dP es vs done gen (aD es vs))/\rS w0 w' pb db n o' d' L' N (gen+1) (done+(aD es vs).length) (aK false (fK es (aD es vs))) (dP es vs done gen (aD es vs)))
theorem LM(HW:aQ)(yI:dX 2400)(h:rS w0 w pb db n o d L N gen done es vs) :
 Calls prog 33 #[ptrTo pb,.int .i64 (gen:Int),.int .u32 (done:Int)] w (Bh w0 w pb db n o d L N gen done es vs):=by
 refine(rM HW yI h.rn).mono ?_;rintro e w'⟨d',o',L',rfl,hm,h1,h2⟩;exact⟨d',o',L',rfl,hm,h1,fun hne=>⟨h2 hne,h.next hne (h.held.moved hm fun _ e=>e.elim) (h2 hne)⟩⟩
end
end
section
open Go.RowKit Go.Maps
section
variable {S:Nat->Prop} {N done gen n pb db gb ob ib vb:Nat} {es:List aF} {vs:List cr} {w0 w w':World} {o o':ar} {d d':Dsk} {L L':aC} {b:Bool}
def Jf(W:World)(o:ar)(v:Value)(ts:List aF):Prop:=∃base,aI W base v ts/\∀x,v.ownBlock=some x->o x=none
theorem Jf.moved{v:Value}{ts:List aF}(h:Jf w o v ts)(hm:aw (fun _=>False) n pb db w o d w' o' d' L'):Jf w' o' v ts:=by
 obtain⟨base,h1,h2⟩:=h;exact⟨base,hm.ownsRow h1 fun b hb=>⟨h2 b hb,fun e=>e⟩,fun x hx=>hm.free (aL h1 x hx).1 (h2 x hx)⟩
theorem LN{V:Nat}{l:List aF}{x:aF}(h:x∈gW V l):x.t.toNat<V/\x.h.toNat<V:=by
 unfold gW at h;split at h
 ·cases h
 ·obtain⟨y,-,rfl⟩:=List.mem_map.1 h;obtain⟨h1,h2,-⟩:=DM (n:=V) y;rw[h1,h2];exact⟨Nat.mod_lt _ ae,Nat.mod_lt _ ae⟩
def aaz(w:World)(n:Nat)(l:List aF)(N:Nat)(e:Ending)(w':World):Prop:=
 ∃db pb o d L,e=.returned (.tuple #[ptrTo db,ptrTo pb])/\rS w w' pb db n o d L N 0 0 l (List.replicate N jB)
theorem LO(HW:aQ)(yI:dX 2400){ev:Value}{l:List aF}(K F:Nat)(hK:K<256)(hF:F<256)(he:kL w ev l) :
 Calls prog 30 #[.agg #[.int .u8 (K:Int),ev,.int .u8 (F:Int)]] w (aaz w (8+F%40) (gW (K%25) l) (K%25)):=by
 have h80:=sH (K%25) l;refine(yj HW yI K F hK hF he ae).mono ?_;rintro e w'⟨db,pb,o,d,L,rfl,hh,hg⟩;exact⟨db,pb,o,d,L,rfl,LL hh ae h80 ae (fun x hx=>LN hx) hg⟩
end
end
section
open Go.RowKit Go.Maps
section
variable {n pb db:Nat} {w0 w w':World} {o o':ar} {d d':Dsk} {L L':aC}
def jZ(n pb db:Nat)(w:World)(o:ar)(d:Dsk)(L:aC)(es:List aF)(e:Ending)(w':World):Prop:=
 ∃v d' o',e=.returned (.tuple #[v,.bool true])/\aw (fun _=>False) n pb db w o d w' o' d' L/\Jf w' o' v es
theorem Jg(HW:aQ)(h:Held w0 w pb db n o d L)(hq:need L<=131072){name:Name}{es:List aF}{fl:Bool}(hL:aA L name=some (au es fl))(hl:es.length<=100000) :
 Calls prog 35 #[ptrTo pb,.string name] w (jZ n pb db w o d L es):=by
 have H:=aa (show _/\_/\_ from⟨h,hl,hq⟩);have hop:=aa (dD (sz:=20) h.aX name (bZ (h.aX.ok hL)) af af);have h0:cA d name=0:=by
  by_cases hc:cA d name=0
  ·exact hc
  ·have h1:=(pE h.aX hL rfl hc).2;rw[h.dead]at h1;cases h1
 rw[h0]at hop;have HLEN:Hid (∀W o' d' sb,aw (fun _=>False) n pb db w o d W o' d' L->aB W sb pb name 20->o' sb=none->Calls prog 59 #[ptrTo sb] W (xK n pb db W o' d' L (xL es.length))):=aa (fun W o' d' sb hm hst ho=>by
  have:=ik HW hm.aX hst ho af af hL (dW es);rwa [List.length_map]at this)
 have Am:Hid (∀W o' d' sb,aw (fun _=>False) n pb db w o d W o' d' L->aB W sb pb name 20->o' sb=none->∀(i:Nat)(x:aF),es[i]? = some x->Calls prog 57 #[ptrTo sb,.int .i64 (i:Int)] W (ug n pb db W o' d' L x.bytes)):=aa (fun W o' d' sb hm hst ho i x hi=>by
  have nZ:=aN hi;have:=ji HW hm.aX hst ho af af hL (dW es) (i:=i) (by rw[List.length_map];exact nZ);rw[List.getElem_map]at this;rw[List.getElem?_eq_getElem nZ]at hi;rw[Option.some.inj hi]at this;exact this)
 have XX:Hid (∀{W o' d' W' gL gw c},aw (fun _=>False) n pb db w o d W o' d' L->aw (fun _=>False) n pb db W o' d' W' gL gw L->(c=0\/kJ d' gw L c)->c=0):=aa (fun h1 h2 h3=>(H.o.1.moved h1 fun _ e=>e.elim).pU h2 h3 H.o.2.2);obtain⟨PST,hP⟩:∃P,P=jZ n pb db w o d L es:=⟨_,rfl⟩;have HP:Hid (∀v d' o' w',aw (fun _=>False) n pb db w o d w' o' d' L->Jf w' o' v es->PST (.returned (.tuple #[v,.bool true])) w'):=aa (fun v d' o' w' h1 h2=>by rw[hP];exact⟨v,d',o',rfl,h1,h2⟩);rw[<- hP];clear h hl hq hL h0 hP;unfold ptrTo dC at *;go_enter func35,ntmps35;go_wp2_with fail;refine hop.o.mono ?_;rintro e w1⟨v1,rfl,hb1,fw,-⟩;obtain⟨sb,rfl,El,yU⟩:=fw trivial;have eo:Hid (aw (fun _=>False) n pb db w o d w1 o d L/\aB w1 sb pb name 20/\o sb=none):=aa ⟨aw.aU H.o.1.aX hb1,El,H.o.1.aX.fresh yU⟩;have hc:=aa (HLEN.o _ _ _ sb eo.o.1 eo.o.2.1 eo.o.2.2);unfold xK xL ptrTo at *;clear hb1 fw El yU hop HLEN;go_wp2_with fail;refine hc.o.mono ?_;rintro e w2⟨c2,d2,o2,⟨k,rfl,hk⟩,cP,om⟩;obtain rfl:=XX.o eo.o.1 cP om;obtain rfl:=hk rfl;have eu:Hid (aw (fun _=>False) n pb db w o d w2 o2 d2 L/\aB w2 sb pb name 20/\o2 sb=none):=aa ⟨eo.o.1.trans cP fun _ _ e=>e,eo.o.2.1.moved cP eo.o.2.2 (fun e=>e),cP.free eo.o.2.1.lt eo.o.2.2⟩;clear cP om hk hc eo;obtain⟨M,hM⟩:∃M,M=es.length:=⟨_,rfl⟩;have HM:=aa hM;rw[<- hM];clear hM;go_wp2_with fail;go_loopw [9,10] (fun vl vi W=>∃(i:Nat)(o':ar)(d':Dsk),vi=.int .i64 (i:Int)/\i<=M/\Hid (aw (fun _=>False) n pb db w o d W o' d' L/\aB W sb pb name 20/\o' sb=none/\aI W w2.heap.size vl (es.take i)/\w2.heap.size<=W.heap.size/\∀x,vl.ownBlock=some x->o' x=none)) (fun _ vi _=>M-(intOf vi).toNat)
 case atStart=>exact⟨0,o2,d2,rfl,Nat.zero_le _,aa ⟨eu.o.1,eu.o.2.1,eu.o.2.2,World.ownsRow_nil _ _ _ 4,Nat.le_refl _,fun x hx=>(by cases hx)⟩⟩
 case round=>
  generalize u9=vl at *;obtain⟨i,o3,d3,rfl,hi,HX⟩:=hrel;generalize wr=W3 at *;by_cases hlt:i<M
  ·have Et:(i:Int)<(M:Int):=by omega
   have wi:IntKind.i64.wrap ((i:Int)+1)=((i+1:Nat):Int):=by have:=HM.o;have:=H.o.2.1;rw[ax]<;>omega
   obtain⟨x,hx⟩:∃x,es[i]? = some x:=⟨_,List.getElem?_eq_getElem (by rw[<- HM.o];exact hlt)⟩;have oT:Hid (es.take i++[x]=es.take (i+1)/\(es.take i).length<=100000/\i+1<=M):=aa ⟨(rG hx).symm,by rw[List.length_take];have:=H.o.2.1;omega,hlt⟩;have hcg:=aa (Am.o _ _ _ sb HX.out.1 HX.out.2.1 HX.out.2.2.1 i x hx);unfold ug at hcg;clear hx hi hlt;go_wp2_with fail;refine hcg.o.mono ?_;rintro e w4⟨v4,c4,d4,o4,rfl,eC,u6,Ca,-⟩;obtain rfl:=XX.o HX.out.1 eC u6;obtain⟨Bl,CU⟩:=Ca rfl;have xR:Hid (aw (fun _=>False) n pb db w o d w4 o4 d4 L/\aB w4 sb pb name 20/\o4 sb=none/\aI w4 w2.heap.size vl (es.take i)/\w2.heap.size<=w4.heap.size/\∀x,vl.ownBlock=some x->o4 x=none):=aa ⟨HX.out.1.trans eC fun _ _ e=>e,HX.out.2.1.moved eC HX.out.2.2.1 (fun e=>e),eC.free HX.out.2.1.lt HX.out.2.2.1,eC.ownsRow HX.out.2.2.2.1 (fun b hb=>⟨HX.out.2.2.2.2.2 b hb,fun e=>e⟩),Nat.le_trans HX.out.2.2.2.2.1 eC.size,fun y hy=>eC.free (aL HX.out.2.2.2.1 y hy).1 (HX.out.2.2.2.2.2 y hy)⟩;have oz:=aa (qy v4 x w4 (fp Bl));unfold FT at oz;clear eC u6 Ca Bl CU hcg HX;go_wp2_with fail;refine oz.o.mono ?_;rintro e w5⟨rfl,nT⟩;obtain⟨W6,hW6⟩:∃W,W=w5.alloc (.cells #[.int .u32 (x.t.toNat:Int),.int .u32 (x.h.toNat:Int),.int .u64 (x.x.toNat:Int),.int .u32 (x.m.toNat:Int)] 64):=⟨_,rfl⟩;have MM:Below w4.heap.size w4 W6:=by rw[hW6];exact nT.alloc nT.size _
   have nN:Hid (aw (fun _=>False) n pb db w o d W6 o4 d4 L/\aB W6 sb pb name 20/\o4 sb=none/\aI W6 w2.heap.size vl (es.take i)/\w2.heap.size<=W6.heap.size/\∀x,vl.ownBlock=some x->o4 x=none):=aa ⟨xR.o.1.below MM,xR.o.2.1.below MM,xR.o.2.2.1,aW xR.o.2.2.2.1 MM,Nat.le_trans xR.o.2.2.2.2.1 MM.size,xR.o.2.2.2.2.2⟩;have hz:=nN.o.2.2.2.2.1;have k0:W6.heap[w5.heap.size]? = some (.cells #[.int .u32 (x.t.toNat:Int),.int .u32 (x.h.toNat:Int),.int .u64 (x.x.toNat:Int),.int .u32 (x.m.toNat:Int)] 64):=by rw[hW6];exact heap_alloc_new _ _
   clear nT MM oz xR;go_upto_region 17 with fail
   rw[<- hW6];clear hW6;generalize w5.heap.size=xb at *;have a0:W6.cell? ⟨xb,0,none⟩=some (.int .u32 (x.t.toNat:Int)):=by rw[aq k0];rfl
   have a1:W6.cell? ⟨xb,1,none⟩=some (.int .u32 (x.h.toNat:Int)):=by rw[aq k0];rfl
   have a2:W6.cell? ⟨xb,2,none⟩=some (.int .u64 (x.x.toNat:Int)):=by rw[aq k0];rfl
   have a3:W6.cell? ⟨xb,3,none⟩=some (.int .u32 (x.m.toNat:Int)):=by rw[aq k0];rfl
   clear k0;go_wp2_with (at_builtin;refine cR rfl _ _ rfl w2.heap.size _ _ rfl nN.o.2.2.2.1 x 1 rfl oT.o.2.1 hz ?_);intro v7 W7 hv7 Xj;have lp:Hid (aw (fun _=>False) n pb db w o d W7 o4 d4 L/\aB W7 sb pb name 20/\o4 sb=none/\aI W7 w2.heap.size v7 (es.take (i+1))/\w2.heap.size<=W7.heap.size/\∀x,v7.ownBlock=some x->o4 x=none):=aa (by
    obtain⟨h1,h2,h3,h4,h5,h6⟩:=nN.o;have hb:=fun y hy=>aG h4 y hy;obtain⟨g1,g2,g3,g4⟩:=Xj.moved h1 (fun y hy=>⟨h6 y hy,Nat.le_trans eu.o.1.size (hb y hy)⟩);rw[oT.o.1]at hv7;have hs:=eu.o.2.1.lt;exact⟨g1,h2.kept (g3 _ h2.lt (fun e=>by have:=hb _ e;omega)),h3,hv7,Nat.le_trans h5 g4,fun y hy=>(g2 y hy).1⟩)
   clear hv7 Xj a0 a1 a2 a3 hz;go_wp2;exact⟨⟨i+1,o4,d4,rfl,oT.o.2.2,lp⟩,by have:=oT.o.2.2;simp[intOf];omega⟩
  ·have Et:¬(i:Int)<(M:Int):=by omega
   have HQ:=aa (HP.o vl d3 o3 W3 HX.out.1 ⟨_,by have:=HX.out.2.2.2.1;rwa [List.take_of_length_le (by have:=HM.o;omega)]at this,HX.out.2.2.2.2.2⟩);clear hi hlt;go_wp2;exact HQ.o
end
def fP(l:List aF)(a b:Nat):Option aF:=l.find? fun x=>decide (x.t.toNat=a/\x.h.toNat=b)
def q7(r:Option aF):Value:=.tuple #[wN (r.getD ⟨0,0,0,0⟩),.bool r.isSome]
theorem tk{w:World}{v:Value}{l:List aF}(h:kL w v l)(a b:Nat)(hl:l.length<=1000000) :
 Calls prog 36 #[v,.int .u32 (a:Int),.int .u32 (b:Int)] w fun e w'=>e=.returned (q7 (fP l a b))/\Below w.heap.size w w':=by
 obtain⟨va,vc,rfl,-⟩:=id h;obtain⟨-,hc⟩:=jU h;obtain⟨M,hM⟩:∃M,M=l.length:=⟨_,rfl⟩;rw[<- hM]at hl ⊢;have H:=aa (show _/\_/\_ from⟨hM,hl,hc⟩);obtain⟨PST,hP⟩:∃P,P=fun(e:Ending)(w':World)=>e=.returned (q7 (fP l a b))/\Below w.heap.size w w':=⟨_,rfl⟩;rw[<- hP];have HP:Hid (∀e w',e=.returned (q7 (fP l a b))->Below w.heap.size w w'->PST e w'):=aa fun e w' h1 h2=>by rw[hP];exact⟨h1,h2⟩
 clear h hc hM hl hP;go_enter func36,ntmps36;go_wp2_with fail;have hb0:=(Below.refl w.heap.size w).alloc (Nat.le_refl _) (.cells #[.int .u32 0,.int .u32 0,.int .u64 0,.int .u32 0] 64);have jQ:=aa hb0;clear hb0;go_loopw [8] (fun vi W=>∃i:Nat,vi=.int .i64 (i:Int)/\i<=M/\w.alloc (.cells #[.int .u32 0,.int .u32 0,.int .u64 0,.int .u32 0] 64)=W/\Hid (∀y∈l.take i,¬(y.t.toNat=a/\y.h.toNat=b))) (fun vi _=>M-(intOf vi).toNat)
 case atStart=>exact⟨0,rfl,Nat.zero_le _,rfl,aa fun y hy=>(by cases hy)⟩
 case round=>
  obtain⟨i,rfl,hi,rfl,HI⟩:=hrel;by_cases hlt:i<M
  ·have Et:(i:Int)<(M:Int):=by omega
   have wi:IntKind.i64.wrap ((i:Int)+1)=((i+1:Nat):Int):=by have:=H.o.2.1;rw[ax]<;>omega
   obtain⟨x,hx⟩:∃x,l[i]? = some x:=⟨_,List.getElem?_eq_getElem (by rw[<- H.o.1];exact hlt)⟩;obtain⟨xb,off,rfl,q0,q1,q2,q3⟩:=H.o.2.2 _ jQ.o i x hx;have oT:=aa (show _/\i+1<=M/\l[i]? = some x from⟨rG hx,hlt,hx⟩);clear hx hi hlt;by_cases ht:x.t.toNat=a
   ·have htb:((x.t.toNat:Int) == (a:Int))=true:=by simp[ht]
    by_cases hh:x.h.toNat=b
    ·have hhb:((x.h.toNat:Int) == (b:Int))=true:=by simp[hh]
     have HF:Hid (fP l a b=some x):=aa (by
      unfold fP;rw[List.find?_eq_some_iff_append];refine⟨by simp[ht,hh],l.take i,l.drop (i+1),?_,fun y hy=>by have:=HI.out y hy;grind⟩;conv=>lhs;rw[<- List.take_append_drop (i+1) l,oT.o.1]
      simp)
     clear ht hh;go_wp2;refine bodyPost_ret (by simp[results,Tryz.results36,go_sem];try rfl) rfl ?_;exact HP.o _ _ (by rw[HF.o];rfl) (by exact aj.alloc (Nat.le_refl _) _)
    ·have hhb:((x.h.toNat:Int) == (b:Int))=false:=by simp;omega
     have HJ:Hid (∀y∈l.take (i+1),¬(y.t.toNat=a/\y.h.toNat=b)):=aa (by rw[oT.o.1];intro y hy;rcases List.mem_append.1 hy with h | h;exact HI.out y h;rw[List.mem_singleton.1 h];exact fun h=>hh h.2);clear ht hh;go_wp2;exact⟨⟨i+1,rfl,oT.o.2.1,trivial,HJ⟩,by have:=oT.o.2.1;simp[intOf];omega⟩
   ·have htb:((x.t.toNat:Int) == (a:Int))=false:=by simp;omega
    have HJ:Hid (∀y∈l.take (i+1),¬(y.t.toNat=a/\y.h.toNat=b)):=aa (by rw[oT.o.1];intro y hy;rcases List.mem_append.1 hy with h | h;exact HI.out y h;rw[List.mem_singleton.1 h];exact fun h=>ht h.1);clear ht;go_wp2;exact⟨⟨i+1,rfl,oT.o.2.1,trivial,HJ⟩,by have:=oT.o.2.1;simp[intOf];omega⟩
  ·have Et:¬(i:Int)<(M:Int):=by omega
   have HF:Hid (fP l a b=none):=aa (by
    unfold fP;refine List.find?_eq_none.2 fun y hy=>?_;have:=HI.out y (by rw[List.take_of_length_le (by rw[<- H.o.1];omega)];exact hy);simpa using this)
   clear hi hlt;go_wp2;refine bodyPost_ret (by simp[results,Tryz.results36,go_sem];try rfl) rfl ?_;exact HP.o _ _ (by rw[HF.o];rfl) jQ.o
end
section
open Go.RowKit Go.Maps
section
variable {N done gen n pb db:Nat} {es:List aF} {vs:List cr} {w0 w:World} {o:ar} {d:Dsk} {L:aC} {b:Bool}
theorem Pj{x y:aF}(hx:x∈aK b es)(hy:y∈aK b es)(h1:x.t.toNat=y.t.toNat)(h2:x.h.toNat=y.h.toNat):x=y:=by
 have e1:=UInt32.toNat_inj.1 h1;have e2:=UInt32.toNat_inj.1 h2;have g1:=gJ.1 hx;have g2:=gJ.1 hy;have h6:=JW (Nat.le_antisymm (g1.2.2 y g2.1 ⟨e1.symm,e2.symm⟩) (g2.2.2 x g1.1 ⟨e1,e2⟩));exact aF.ext' e1 e2 h6.1 h6.2
theorem Bi{l:List aF}{i j:Nat}{y:aF}(h:fP l i j=some y):y∈l/\y.t.toNat=i/\y.h.toNat=j:=
 ⟨List.mem_of_find?_eq_some h,by simpa using List.find?_some h⟩
theorem Bj{l:List aF}(hl:∀y∈l,y∈aK b es){x:aF}(hx:x∈l):fP l x.t.toNat x.h.toNat=some x:=by
 cases h:fP l x.t.toNat x.h.toNat with
 |none=>exact absurd (List.find?_eq_none.1 h x hx) ah
 |some y=>
   obtain⟨h1,h2,h3⟩:=Bi h;rw[Pj (hl y h1) (hl x hx) h2 h3]
structure Cut(es:List aF)(vs:List cr)(x a c:aF):Prop where
 mid:(x.m.toNat:Int)≠4294967295
 qH:fP (fC es (aD es vs)) x.t.toNat x.m.toNat=some a
 out:fP (uI es (aD es vs)) x.m.toNat x.h.toNat=some c
 sum:a.x.toNat+c.x.toNat=x.x.toNat
 less:∀y,fP (aK false es) x.t.toNat x.h.toNat=some y->x.x.toNat<y.x.toNat
theorem Wu(hv:vs.length<=1000){x:aF}(hx:x∈aK false (fK es (aD es vs))) :
 fP (aK false es) x.t.toNat x.h.toNat=some x\/∃a c,Cut es vs x a c:=by
 have h1:=(gJ.1 hx).1;rcases List.mem_append.1 h1 with h1 | h1
 ·exact .inl (Bj (fun _ h=>h) (Bb.1 h1).1)
 ·obtain⟨v,Py,h2⟩:=List.mem_flatMap.1 h1;have WS:=jX Py;have hvn:(UInt32.ofNat v).toNat=v:=by rw[UInt32.toNat_ofNat'];omega
  obtain⟨a,ha,c,hc,rfl,-,-,-,hs,M6⟩:=MQ h2;rw[hvn]at hc;have ia:=s9.1 ha;have ic:=nd.1 hc;refine .inr ⟨a,c,?_,?_,?_,?_,fun y hy=>?_⟩<;>dsimp only at *
  ·omega
  ·have:=Bj (b:=false) (es:=es) (l:=fC es (aD es vs)) (fun y hy=>by
    obtain⟨u,-,hu⟩:=List.mem_flatMap.1 hy;exact(s9.1 hu).1) (List.mem_flatMap.2 ⟨v,Py,ha⟩)
   rwa [ia.2,<- hvn]at this
  ·have:=Bj (b:=false) (es:=es) (l:=uI es (aD es vs)) (fun y hy=>by
    obtain⟨u,-,hu⟩:=List.mem_flatMap.1 hy;exact(nd.1 hu).1) (List.mem_flatMap.2 ⟨v,Py,hc⟩)
   rwa [ic.2,<- hvn]at this
  ·rw[UInt64.toNat_ofNat'];omega
  ·obtain⟨g1,g2,g3⟩:=Bi hy;have:=M6 y (nd.2 ⟨g1,g2⟩) g3;rw[UInt64.toNat_ofNat'];omega
theorem rS.smalls(h:rS w0 w pb db n o d L N gen done es vs):(aK false es).length<=600/\(aK false (fK es (aD es vs))).length<=6000/\(uI es (aD es vs)).length<=6000/\(fC es (aD es vs)).length<=6000/\vs.length<=24:=by
 have h1:=h.rn.need;have h2:=b9 false es;have h3:=b9 false (fK es (aD es vs));have:=h.len;have:=h.ok.len;have:=h.top;omega
end
end
section
open Go.RowKit Go.Maps
theorem Jh(HW:aQ){m:Nat}(yI:dX m)(hm:2<=m)(w:World) :
 Calls prog 31 #[] w fun e w'=>e=.returned (.bool true)/\Below w.heap.size w w':=by
 go_enter func31,ntmps31;have jQ:Hid (Below w.heap.size w (w.alloc (.cells #[.int .u32 0,.int .u32 1,.int .u64 1,.int .u32 0,.int .u32 1,.int .u32 2,.int .u64 1,.int .u32 0] 64))):=aa ai;have HR0:Hid (kL (w.alloc (.cells #[.int .u32 0,.int .u32 1,.int .u64 1,.int .u32 0,.int .u32 1,.int .u32 2,.int .u64 1,.int .u32 0] 64)) (.slice (some ⟨w.heap.size,0,none⟩) 2 2) [⟨0,1,1,0⟩,⟨1,2,1,0⟩]):=aa ⟨_,2,rfl,.inr ⟨w.heap.size,0,rfl,fun j x hx=>by
  match j,hx with
  |0,hx=>cases hx;simp
  |1,hx=>cases hx;simp
  |j+2,hx=>cases hx⟩⟩
 go_wp2_with fail;generalize w.alloc (.cells #[.int .u32 0,.int .u32 1,.int .u64 1,.int .u32 0,.int .u32 1,.int .u32 2,.int .u64 1,.int .u32 0] 64)=W0 at *;have hbg:=aa (yj HW yI 3 0 af af HR0.o (by rw[show 3%25=3 from rfl,TD];exact hm));unfold FA at hbg;refine hbg.o.mono ?_;rintro e w1⟨db,pb,o1,d1,L1,rfl,hh1,hg1⟩;rw[show 3%25=3 from rfl,TD]at hg1;have aaA:Held W0 w1 pb db 8 o1 d1 L1:=hh1;have Jm:=aa hg1;have HH1:=aa aaA;have jE:=aa (rM HW yI (akm aaA hg1 m));unfold oK at jE;rw[uQ,TE,ae8,TG,Ws]at jE;clear hh1 aaA hg1 hbg;unfold ptrTo at *;go_wp2_with fail;refine jE.o.mono ?_;rintro e w2⟨d2,o2,L2,rfl,cP,-,hr2⟩;have Co:=aa (hr2 af);have XC:=aa (HH1.o.moved cP (fun _ e=>e.elim));have hr1:=aa (rM HW yI (akn XC.o Jm.o Co.o m));unfold oK at hr1;rw[uR,TF,ae9,TH,Wt]at hr1;clear cP hr2 jE;unfold ptrTo at *;go_wp2_with fail;refine hr1.o.mono ?_;rintro e w3⟨d3,o3,L3,rfl,eA,-,hr3⟩;have Br:=aa (hr3 af);have FJ:=aa (XC.o.moved eA (fun _ e=>e.elim));have hr2:=aa (rM HW yI (ako FJ.o Jm.o Co.o Br.o m));unfold oK at hr2;rw[uS]at hr2;clear eA hr3 hr1;unfold ptrTo at *;go_wp2_with fail;refine hr2.o.mono ?_;rintro e w4⟨d4,o4,L4,rfl,eC,hr4,-⟩;have HL:=aa (hr4 trivial);have Rg:Hid (Below w.heap.size w w4):=aa (by
  obtain rfl:=HL.o;exact jQ.o.trans ((FJ.o.moved eC (fun _ e=>e.elim)).below.mono jQ.o.size))
 clear eC hr4 hr2;go_wp2;go_ret;exact⟨rfl,Rg.o⟩
def ix(W:World)(g:Nat)(y:aF):Prop:=W.cell? ⟨g,0,none⟩=some (.int .u32 (y.t.toNat:Int))/\W.cell? ⟨g,1,none⟩=some (.int .u32 (y.h.toNat:Int))/\W.cell? ⟨g,2,none⟩=some (.int .u64 (y.x.toNat:Int))/\W.cell? ⟨g,3,none⟩=some (.int .u32 (y.m.toNat:Int))
theorem ix.below{W W':World}{g:Nat}{y:aF}(h:ix W g y)(hb:Below W.heap.size W W'):ix W' g y:=by
 obtain⟨h0,h1,h2,h3⟩:=h;exact⟨(hb.cell (World.block_lt_of_cell? _ _ h0)).trans h0,(hb.cell (World.block_lt_of_cell? _ _ h1)).trans h1,(hb.cell (World.block_lt_of_cell? _ _ h2)).trans h2,(hb.cell (World.block_lt_of_cell? _ _ h3)).trans h3⟩
theorem xl(W:World)(y:aF):ix (W.alloc (.cells #[.int .u32 (y.t.toNat:Int),.int .u32 (y.h.toNat:Int),.int .u64 (y.x.toNat:Int),.int .u32 (y.m.toNat:Int)] 64)) W.heap.size y:=by
 refine⟨?_,?_,?_,?_⟩<;>rw[aq (heap_alloc_new _ _)]<;>rfl
theorem Bk{w:World}{g:Nat}(h:w.heap[g]? = some (.cells #[.int .u32 0,.int .u32 0,.int .u64 0,.int .u32 0] 64)):w.cell? ⟨g,0,none⟩=some (.int .u32 0)/\w.cell? ⟨g,1,none⟩=some (.int .u32 0)/\w.cell? ⟨g,2,none⟩=some (.int .u64 0)/\w.cell? ⟨g,3,none⟩=some (.int .u32 0)/\∀k,w.frozen? ⟨g,k,none⟩=false:=by
 refine⟨?_,?_,?_,?_,fun k=>frozen_of_row _ _ k _ _ h⟩<;>rw[aq h]<;>rfl
theorem xo(HW:aQ)(yI:dX 2400){w:World}{ev:Value}{l0:List aF}(K F R:Nat)(hK:K<256)(hF:F<256)(hR:R<256)(he:kL w ev l0) :
 Calls prog 6 #[.agg #[.int .u8 (K:Int),ev,.int .u8 (F:Int)],.int .u8 (R:Int)] w fun e w'=>e=.returned (.bool true)/\Below w.heap.size w w':=by
 have MI:=aa (fun W(hW:Below w.heap.size w W)=>DN K F hK (he.below hW));have HBG:=aa (fun W(hW:Below w.heap.size w W)=>LO HW yI K F hK hF (he.below hW));have HWK:=aa (fun W=>Jh HW yI af W);obtain⟨ea,ec,rfl,-⟩:=id he;generalize l0.length=EL at *;obtain⟨V,hV⟩:∃V,V=K%25:=⟨_,rfl⟩;have HV:Hid (V<=24):=aa ae;rw[<- hV]at MI HBG;generalize 8+F%40=n at *;generalize gW V l0=l at *;obtain⟨Z,hZ⟩:∃Z,Z=R%6:=⟨_,rfl⟩;have hR1:wrap64 (R:Int)=(R:Int):=by unfold wrap64;omega
 have hR2:(R:Int)%6=(Z:Int):=by omega
 have HZ:Hid (Z<6):=aa ae;have jQ:Hid (Below w.heap.size w (w.alloc (.cells #[.int .u8 (K:Int),.slice ea EL ec,.int .u8 (F:Int)] 69))/\(w.alloc (.cells #[.int .u8 (K:Int),.slice ea EL ec,.int .u8 (F:Int)] 69)).heap[w.heap.size]? = some (.cells #[.int .u8 (K:Int),.slice ea EL ec,.int .u8 (F:Int)] 69)):=aa ⟨aj.alloc (Nat.le_refl _) _,heap_alloc_new _ _⟩;obtain⟨PST,hP⟩:∃P,P=fun(e:Ending)(w':World)=>e=.returned (.bool true)/\Below w.heap.size w w':=⟨_,rfl⟩;have HP:Hid (∀w',Below w.heap.size w w'->PST (.returned (.bool true)) w'):=aa (fun w' h=>by rw[hP];exact⟨rfl,h⟩);rw[<- hP];clear he hV hZ hK hF hR hP;go_enter func6,ntmps6;go_wp2_with fail;generalize XU:w.heap.size=wb at *;have HT:Hid (∀W W',Below wb w W->Below W.heap.size W W'->Below wb w W'):=aa (fun W W' h h'=>h.trans (h'.mono (by rw[<- XU];exact h.size)));clear XU;generalize w.alloc (.cells #[.int .u8 (K:Int),.slice ea EL ec,.int .u8 (F:Int)] 69)=W0 at *;have hsm:=aa (MI.o W0 jQ.o.1);refine hsm.o.mono ?_;rintro e w1⟨v1,rfl,hb1,-⟩;have hlt:wb<W0.heap.size:=(Array.getElem?_eq_some_iff.1 jQ.o.2).1;have Me:w1.heap[wb]? = some (.cells #[.int .u8 (K:Int),.slice ea EL ec,.int .u8 (F:Int)] 69):=(hb1.block _ hlt).trans jQ.o.2;have cS:Hid (Below wb w w1):=aa (jQ.o.1.trans (hb1.mono (Nat.le_of_lt hlt)));have hbg:=aa (HBG.o w1 cS.o);have b0:w1.cell? ⟨wb,0,none⟩=some (.int .u8 (K:Int)):=by rw[aq Me];rfl
 have b1:w1.cell? ⟨wb,1,none⟩=some (.slice ea EL ec):=by rw[aq Me];rfl
 have b2:w1.cell? ⟨wb,2,none⟩=some (.int .u8 (F:Int)):=by rw[aq Me];rfl
 clear hb1 hlt hsm MI HBG jQ Me;go_wp2_with fail;refine hbg.o.mono ?_;rintro e w2⟨db,pb,o2,d2,L2,rfl,hg2⟩;have yv:=aa hg2;clear hg2 hbg b0 b1 b2;unfold ptrTo at *;go_wp2_with fail;go_loopw [9,10] (fun vd vg W=>∃(gen done:Nat)(es:List aF)(vs:List cr)(o:ar)(d:Dsk)(L:aC),vd=.int .u32 (done:Int)/\vg=.int .i64 (gen:Int)/\gen<=Z+1/\Hid (rS w1 W pb db n o d L V gen done es vs)) (fun _ vg _=>Z+1-(intOf vg).toNat)
 case atStart=>exact⟨0,0,l,_,o2,d2,L2,rfl,rfl,ae,yv⟩
 case round=>
  obtain⟨gen,done,es,vs,o,d,L,rfl,rfl,hgz,HG⟩:=hrel;generalize wr=W1 at *;clear yv;have UN:Hid (Below wb w W1):=aa (HT.o _ _ cS.o HG.out.held.below);by_cases hle:gen<=Z
  ·have VN:(gen:Int)<=(Z:Int):=by omega
   have wg:IntKind.i64.wrap ((gen:Int)+1)=((gen+1:Nat):Int):=by have:=HZ.o;rw[ax]<;>omega
   have kC:=aa (fun W=>cG 101 gen (w:=W) (o:=fun _=>Option.none) (.inl (by have:=HZ.o;omega)));have rz:=aa (fun W=>cG 101 (gen+1) (w:=W) (o:=fun _=>Option.none) (.inl (by have:=HZ.o;omega)));have HNU:=aa (fun W=>cG 117 (gen+1) (w:=W) (o:=fun _=>Option.none) (.inl (by have:=HZ.o;omega)));have NL:=aa (fun W=>cG 100 (gen+1) (w:=W) (o:=fun _=>Option.none) (.inl (by have:=HZ.o;omega)));have HED:Hid (∀{W o d L N gen done es vs},rS w1 W pb db n o d L N gen done es vs->∀{name:Name}{l:List aF}{fl:Bool},aA L name=some (au l fl)->l.length<=100000->Calls prog 35 #[ptrTo pb,.string name] W (jZ n pb db W o d L l)):=aa (fun h _ _ _ hL hl=>Jg HW h.held (by have:=h.need;omega) hL hl);unfold ptrTo at HED;go_wp2_with fail;refine(kC.o _).mono ?_;rintro e w3⟨rfl,hb3⟩;have Xt:=aa (HG.out.moved (aw.aU HG.out.held.aX hb3));have T8:=aa (HED.o Xt.o Xt.o.e (by have:=Xt.o.smalls;omega));unfold jZ at T8;clear hb3 HG kC;go_wp2_with fail;refine T8.o.mono ?_;rintro e w4⟨va,d4,o4,rfl,eC,hr4⟩;have tq:=aa (show _/\_ from⟨Xt.o.moved eC,hr4⟩);have Bn:=aa (LM HW yI tq.o.1);unfold Bh ptrTo at Bn;obtain⟨KN,Jt⟩:∃k,k=(aD es vs).length:=⟨_,rfl⟩;rw[<- Jt]at Bn;have hall:=tq.o.1.ok.all;have afa:done<25:=by have:=tq.o.1.ok.rJ;have:=tq.o.1.top;omega
   have HK:Hid (KN=(aD es vs).length/\(KN=0↔done=V)/\done<25/\gen<=6):=aa ⟨Jt,by rw[Jt,List.length_eq_zero_iff];exact hall,afa,by have:=HZ.o;omega⟩;have wd:IntKind.i64.wrap (done:Int)=(done:Int):=by rw[ax]<;>omega
   clear eC hr4 T8 Jt hall afa Xt;go_wp2_with fail;refine Bn.o.mono ?_;rintro e w5⟨d5,o5,L5,rfl,j7,hnil,hne⟩;have kV:=aa j7;clear Bn;by_cases hz:KN=0
   ·as_aux_lemma=>
    have hzb:((KN:Int) == 0)=true:=by simp[hz]
    have hdb:((done:Int) == (V:Int))=true:=by have:=HK.o.2.1.1 hz;simp[this]
    have Ck:Hid (Below wb w w5):=aa (by
     have h:=tq.o.1.held.moved j7 (fun _ e=>e.elim);exact HT.o _ _ cS.o h.below)
    clear j7 hnil hne hz;go_wp2_with fail;refine(HWK.o _).mono ?_;rintro e w6⟨rfl,yw⟩;have HQ:=aa (HP.o _ (HT.o _ _ Ck.o yw));clear yw;go_wp2;exact HQ.o
   ·have hzb:((KN:Int) == 0)=false:=by simp;omega
    obtain⟨Wv,Jl⟩:=hne (fun e=>hz (by rw[HK.o.1,e];rfl));obtain⟨Xs,om⟩:∃x,x=aK false (fK es (aD es vs)):=⟨_,rfl⟩;obtain⟨vs2,hv2⟩:∃x,x=dP es vs done gen (aD es vs):=⟨_,rfl⟩;obtain⟨up,ZP⟩:∃x,x=uI es (aD es vs):=⟨_,rfl⟩;obtain⟨dn,MJ⟩:∃x,x=fC es (aD es vs):=⟨_,rfl⟩;obtain⟨was,Ww⟩:∃x,x=aK false es:=⟨_,rfl⟩;have HCL:Hid (∀x∈Xs,fP was x.t.toNat x.h.toNat=some x\/∃a c:aF,(x.m.toNat:Int)≠4294967295/\fP dn x.t.toNat x.m.toNat=some a/\fP up x.m.toNat x.h.toNat=some c/\a.x.toNat+c.x.toNat=x.x.toNat/\∀y,fP was x.t.toNat x.h.toNat=some y->x.x.toNat<y.x.toNat):=aa (fun x hx=>by
     rw[om]at hx;rw[Ww,MJ,ZP];exact(Wu (by have:=tq.o.1.smalls;omega) hx).imp id fun⟨a,c,h⟩=>⟨a,c,h.1,h.2,h.3,h.4,h.5⟩)
    have Bt:Hid (was.length<=600/\Xs.length<=6000/\up.length<=6000/\dn.length<=6000):=aa (by rw[Ww,om,ZP,MJ];have:=tq.o.1.smalls;omega);have Ay:Hid (Jf w5 o5 va was):=aa (by rw[Ww];exact tq.o.2.moved j7);have HF5:Hid (aA L5 (aJ 101 (gen+1))=some (au Xs true)/\aA L5 (aJ 117 (gen+1))=some (au up true)/\aA L5 (aJ 100 (gen+1))=some (au dn true)):=aa (by rw[om,ZP,MJ];exact⟨Wv.e,Wv.u,Wv.d⟩);rw[<- om,<- hv2]at Jl;have Ny:=aa Jl;obtain⟨D2,T3⟩:∃x,x=done+KN:=⟨_,rfl⟩;have hsk:(done:Int)+(KN:Int)=(D2:Int):=by omega
    have wsm:IntKind.u32.wrap (D2:Int)=(D2:Int):=eW _ ae (by have:=Ny.o.ok.rJ;have:=HV.o;omega);rw[<- T3]at Ny;clear j7 hnil hne hz Wv Jl om hv2 ZP MJ Ww tq kV T3;go_wp2_with fail;refine(rz.o _).mono ?_;rintro e w6⟨rfl,yw⟩;have TS:=aa (show _/\_ from⟨Ny.o.moved (aw.aU Ny.o.held.aX yw),Ay.o.moved (aw.aU Ny.o.held.aX yw)⟩);have hcn:=aa (HED.o TS.o.1 HF5.o.1 (by have:=Bt.o;omega));unfold jZ at hcn;clear yw Ny Ay rz;go_wp2_with fail;refine hcn.o.mono ?_;rintro e w7⟨vn,d7,o7,rfl,rD,SK⟩;have Xv:=aa (show _/\_/\_ from⟨TS.o.1.moved rD,TS.o.2.moved rD,SK⟩);clear rD SK TS hcn;go_wp2_with fail;refine(HNU.o _).mono ?_;rintro e w8⟨rfl,JH⟩;have EH:=aw.aU (S:=fun _=>False) Xv.o.1.held.aX JH;have ZG:=aa (show _/\_/\_ from⟨Xv.o.1.moved EH,Xv.o.2.1.moved EH,Xv.o.2.2.moved EH⟩);have hcu:=aa (HED.o ZG.o.1 HF5.o.2.1 (by have:=Bt.o;omega));unfold jZ at hcu;clear JH EH Xv HNU;go_wp2_with fail;refine hcu.o.mono ?_;rintro e w9⟨vu,d9,o9,rfl,Ut,hr9⟩;have Vx:=aa (show _/\_/\_/\_ from⟨ZG.o.1.moved Ut,ZG.o.2.1.moved Ut,ZG.o.2.2.moved Ut,hr9⟩);clear Ut hr9 ZG hcu;go_wp2_with fail;refine(NL.o _).mono ?_;rintro e T9⟨rfl,Hx⟩;have qN:=aw.aU (S:=fun _=>False) Vx.o.1.held.aX Hx;have ES:=aa (show _/\_/\_/\_ from⟨Vx.o.1.moved qN,Vx.o.2.1.moved qN,Vx.o.2.2.1.moved qN,Vx.o.2.2.2.moved qN⟩);have Zk:=aa (HED.o ES.o.1 HF5.o.2.2 (by have:=Bt.o;omega));unfold jZ at Zk;clear Hx qN Vx NL HF5 HED;go_wp2_with fail;refine Zk.o.mono ?_;rintro e qW⟨vd,d11,o11,rfl,IP,aku⟩;have afb:=aa (ES.o.1.moved IP);obtain⟨M,hM⟩:∃M,M=Xs.length:=⟨_,rfl⟩;obtain⟨⟨bs1,g1,-⟩,⟨bs2,g2,-⟩,⟨bs3,g3,-⟩⟩:=show _/\_/\_ from⟨ES.o.2.1.moved IP,ES.o.2.2.1.moved IP,ES.o.2.2.2.moved IP⟩
    obtain⟨bs4,g4,-⟩:=aku;obtain⟨na,nc,rfl⟩:=az g2;have k1:=jt g1;have k2:=jt g2;have k3:=jt g3;have k4:=jt g4;have Mr:=aa (jU k2).2;have HFW:Hid (∀W,Below qW.heap.size qW W->∀a b:Nat,Calls prog 36 #[va,.int .u32 (a:Int),.int .u32 (b:Int)] W fun e w'=>e=.returned (q7 (fP was a b))/\Below W.heap.size W w'):=aa (fun W h a b=>tk (k1.below h) a b (by have:=Bt.o;omega));have HFU:Hid (∀W,Below qW.heap.size qW W->∀a b:Nat,Calls prog 36 #[vu,.int .u32 (a:Int),.int .u32 (b:Int)] W fun e w'=>e=.returned (q7 (fP up a b))/\Below W.heap.size W w'):=aa (fun W h a b=>tk (k3.below h) a b (by have:=Bt.o;omega));have HFD:Hid (∀W,Below qW.heap.size qW W->∀a b:Nat,Calls prog 36 #[vd,.int .u32 (a:Int),.int .u32 (b:Int)] W fun e w'=>e=.returned (q7 (fP dn a b))/\Below W.heap.size W w'):=aa (fun W h a b=>tk (k4.below h) a b (by have:=Bt.o;omega));rw[<- hM];have HM:=aa hM;clear IP Zk ES hM g1 g2 g3 g4 k1 k2 k3 k4;go_wp2_with fail;go_loopw [21] (fun vi W=>∃i:Nat,vi=.int .i64 (i:Int)/\i<=M/\Hid (Below qW.heap.size qW W)) (fun vi _=>M-(intOf vi).toNat)
    case atStart=>exact⟨0,rfl,Nat.zero_le _,aa aj⟩
    case round=>
     obtain⟨i,rfl,hi,HX⟩:=hrel;generalize wr=Wy at *;by_cases hlt:i<M
     ·as_aux_lemma=>
      have Et:(i:Int)<(M:Int):=by omega
      have wi:IntKind.i64.wrap ((i:Int)+1)=((i+1:Nat):Int):=by have:=HM.o;have:=Bt.o;rw[ax]<;>omega
      obtain⟨x,hx⟩:∃x,Xs[i]? = some x:=⟨_,List.getElem?_eq_getElem (by rw[<- HM.o];exact hlt)⟩;obtain⟨b,off,rfl,q0,q1,-⟩:=Mr.o _ HX.out i x hx;have HQ:Hid (∀W',Below qW.heap.size qW W'->W'.cell? ⟨b,off+i*4,none⟩=some (.int .u32 (x.t.toNat:Int))/\W'.cell? ⟨b,off+i*4+1,none⟩=some (.int .u32 (x.h.toNat:Int))/\W'.cell? ⟨b,off+i*4+2,none⟩=some (.int .u64 (x.x.toNat:Int))/\W'.cell? ⟨b,off+i*4+3,none⟩=some (.int .u32 (x.m.toNat:Int))):=aa (fun W' h=>by
       obtain⟨b',off',e,h'⟩:=Mr.o W' h i x hx;cases e;exact h')
      have FM:Hid (∀{W W'},Below qW.heap.size qW W->Below W.heap.size W W'->Below qW.heap.size qW W'):=aa (fun h h'=>h.trans (h'.mono h.size));have HIL:=aa hlt;have uY:=HCL.o x (List.mem_of_getElem? hx);have Ie:=aa (fun W h=>HFW.o W h x.t.toNat x.h.toNat);clear hx hi hlt;obtain⟨y,hy⟩:∃y,y=(fP was x.t.toNat x.h.toNat).getD ⟨0,0,0,0⟩:=⟨_,rfl⟩;obtain⟨bo,WD⟩:∃z,z=(fP was x.t.toNat x.h.toNat).isSome:=⟨_,rfl⟩;have Q6:Hid (y=x/\bo=true\/∃a c:aF,(x.m.toNat:Int)≠4294967295/\fP dn x.t.toNat x.m.toNat=some a/\fP up x.m.toNat x.h.toNat=some c/\a.x.toNat+c.x.toNat=x.x.toNat/\(bo=true->x.x.toNat<y.x.toNat)):=aa (by
       rcases uY with uY |⟨a,c,h1,h2,h3,h4,h5⟩
       ·rw[uY]at hy WD;exact .inl ⟨hy,WD⟩
       ·refine .inr ⟨a,c,h1,h2,h3,h4,fun h=>?_⟩;rw[WD]at h;obtain⟨z,hz⟩:=Option.isSome_iff_exists.1 h;have:=h5 z hz;rw[hz]at hy;rwa [hy])
      unfold q7 wN at Ie;rw[<- hy,<- WD]at Ie;clear uY hy WD q0 q1;go_wp2_with fail;have Ji:Hid (∀W,Below Wy.heap.size Wy W->Below Wy.heap.size Wy W/\W.cell? ⟨b,off+i*4,none⟩=some (.int .u32 (x.t.toNat:Int))/\W.cell? ⟨b,off+i*4+1,none⟩=some (.int .u32 (x.h.toNat:Int))/\W.cell? ⟨b,off+i*4+3,none⟩=some (.int .u32 (x.m.toNat:Int))):=aa (fun W h=>⟨h,(HQ.o _ (FM.o HX.out h)).1,(HQ.o _ (FM.o HX.out h)).2.1,(HQ.o _ (FM.o HX.out h)).2.2.2⟩);have TK:Hid (∀{wx nb},Below Wy.heap.size Wy wx->ix wx nb y->Below qW.heap.size qW wx/\ix wx nb y):=aa (fun h e=>⟨FM.o HX.out h,e⟩);go_cut [22,23] from 117 to 131 (fun ub uo wx=>∃nb,ub=.pointer (some ⟨nb,0,none⟩)/\uo=.bool bo/\Hid (Below qW.heap.size qW wx/\ix wx nb y))
      case first=>
       as_aux_lemma=>
       go_region_held3 (fun w'=>Below Wy.heap.size Wy w'/\w'.cell? ⟨b,off+i*4,none⟩=some (.int .u32 (x.t.toNat:Int))/\w'.cell? ⟨b,off+i*4+1,none⟩=some (.int .u32 (x.h.toNat:Int))/\w'.cell? ⟨b,off+i*4+3,none⟩=some (.int .u32 (x.m.toNat:Int)))
        (first | with_reducible exact k1 | exact Ji.o _ (by first | with_reducible exact aj.drew | with_reducible exact ai.drew | with_reducible exact aj.drew.alloc ah _) | exact Ji.o _ (k1.1.alloc k1.1.size _) | exact Ji.o _ ((((k1.1.setCell (Nat.le_refl _) _).setCell (Nat.le_refl _) _).setCell (Nat.le_refl _) _).setCell (Nat.le_refl _) _))
        (first
          | (go_at_call 36;refine(Ie.o _ (FM.o HX.out (by first | with_reducible exact aj.drew | with_reducible exact ai.drew | with_reducible exact aj.drew.alloc ah _))).mono ?_;rintro e w'⟨rfl,hb⟩;have k1:=Ji.o w' (Below.trans (by first | with_reducible exact aj.drew | with_reducible exact ai.drew | with_reducible exact aj.drew.alloc ah _) (hb.mono ah));try (obtain⟨z0,z1,z2,z3,zf⟩:=Bk ((hb.block Wy.heap.size ah).trans (heap_alloc_new _ _)))))
       all_goals
        go_wp2;go_meet
        first
         |exact⟨_,rfl,rfl,aa (TK.o (k1.1.alloc k1.1.size _) (xl _ _))⟩
         |exact⟨_,rfl,rfl,aa (TK.o ((((k1.1.setCell (Nat.le_refl _) _).setCell (Nat.le_refl _) _).setCell (Nat.le_refl _) _).setCell (Nat.le_refl _) _) (by refine⟨?_,?_,?_,?_⟩<;>go_simp))⟩
      case rest=>
       obtain⟨ob,rfl,rfl,XY⟩:=hcut;clear Ji TK;generalize wc=W14 at *;clear Ie HX;go_upto_region 27 with fail
       rcases Q6.o with⟨hyx,hbt⟩|⟨a,c,afc,SZ,Qq,Qe,M6⟩
       ·as_aux_lemma=>
        obtain rfl:=hyx;obtain rfl:=hbt;obtain⟨a0,a1,a2,a3⟩:=XY.out.2;obtain⟨q0,q1,q2,q3⟩:=HQ.o _ XY.out.1;go_quiet (fail)
        go_wp2;exact⟨⟨i+1,rfl,HIL.o,aa (FM.o XY.out.1 (by first | exact Below.refl _ _ | exact below_drewN aj _))⟩,by have:=HIL.o;simp[intOf];omega⟩
       ·as_aux_lemma=>
        have hci:=aa (fun W h=>HFD.o W h x.t.toNat x.m.toNat);have PK:=aa (fun W h=>HFU.o W h x.m.toNat x.h.toNat);rw[SZ]at hci;rw[Qq]at PK;unfold q7 wN at hci PK;simp only[Option.getD_some,Option.isSome_some]at hci PK;have MI:=aa (show _/\_/\_ from⟨afc,Qe,M6⟩);clear SZ Qq afc Qe M6 Q6;have HK7:Hid (∀{wx},Below W14.heap.size W14 wx->Below qW.heap.size qW wx/\ix wx ob y):=aa (fun h=>⟨FM.o XY.out.1 h,XY.out.2.below h⟩);go_cut [140] from 132 to 140 (fun v wx=>v=.bool false/\Hid (Below qW.heap.size qW wx/\ix wx ob y))
        case first=>
         as_aux_lemma=>
         cases bo
         ·go_quiet (fail)
          go_wp2;go_meet
          exact⟨rfl,aa (HK7.o (by first | exact Below.refl _ _ | exact below_drewN aj _))⟩
         ·have hne:((y.x.toNat:Int) == (x.x.toNat:Int))=false:=by have:=MI.o.2.2 rfl;simp;omega
          obtain⟨a0,a1,a2,a3⟩:=XY.out.2;obtain⟨q0,q1,q2,q3⟩:=HQ.o _ XY.out.1;go_quiet (fail)
          go_wp2;go_meet
          exact⟨rfl,aa (HK7.o (by first | exact Below.refl _ _ | exact below_drewN aj _))⟩
        case rest=>
         obtain⟨rfl,H15⟩:=hcut;generalize wc=Pc at *;clear HK7 XY;go_wp2_with fail;have Ji:Hid (∀W,Below Pc.heap.size Pc W->Below Pc.heap.size Pc W/\W.cell? ⟨b,off+i*4,none⟩=some (.int .u32 (x.t.toNat:Int))/\W.cell? ⟨b,off+i*4+1,none⟩=some (.int .u32 (x.h.toNat:Int))/\W.cell? ⟨b,off+i*4+3,none⟩=some (.int .u32 (x.m.toNat:Int))):=aa (fun W h=>⟨h,(HQ.o _ (FM.o H15.out.1 h)).1,(HQ.o _ (FM.o H15.out.1 h)).2.1,(HQ.o _ (FM.o H15.out.1 h)).2.2.2⟩);have TK:Hid (∀{wx nb},Below Pc.heap.size Pc wx->ix wx nb a->Below qW.heap.size qW wx/\ix wx ob y/\ix wx nb a):=aa (fun h e=>⟨FM.o H15.out.1 h,H15.out.2.below h,e⟩);go_cut [24,25] from 141 to 155 (fun ub uo wx=>∃nb,ub=.pointer (some ⟨nb,0,none⟩)/\uo=.bool true/\Hid (Below qW.heap.size qW wx/\ix wx ob y/\ix wx nb a))
         case first=>
          as_aux_lemma=>
          go_region_held3 (fun w'=>Below Pc.heap.size Pc w'/\w'.cell? ⟨b,off+i*4,none⟩=some (.int .u32 (x.t.toNat:Int))/\w'.cell? ⟨b,off+i*4+1,none⟩=some (.int .u32 (x.h.toNat:Int))/\w'.cell? ⟨b,off+i*4+3,none⟩=some (.int .u32 (x.m.toNat:Int)))
           (first | with_reducible exact k1 | exact Ji.o _ (by first | with_reducible exact aj.drew | with_reducible exact ai.drew | with_reducible exact aj.drew.alloc ah _) | exact Ji.o _ (k1.1.alloc k1.1.size _) | exact Ji.o _ ((((k1.1.setCell (Nat.le_refl _) _).setCell (Nat.le_refl _) _).setCell (Nat.le_refl _) _).setCell (Nat.le_refl _) _))
           (first
             | (go_at_call 36;refine(hci.o _ (FM.o H15.out.1 (by first | with_reducible exact aj.drew | with_reducible exact ai.drew | with_reducible exact aj.drew.alloc ah _))).mono ?_;rintro e w'⟨rfl,hb⟩;have k1:=Ji.o w' (Below.trans (by first | with_reducible exact aj.drew | with_reducible exact ai.drew | with_reducible exact aj.drew.alloc ah _) (hb.mono ah));try (obtain⟨z0,z1,z2,z3,zf⟩:=Bk ((hb.block Pc.heap.size ah).trans (heap_alloc_new _ _)))))
          all_goals
           go_wp2;go_meet
           first
            |exact⟨_,rfl,rfl,aa (TK.o (k1.1.alloc k1.1.size _) (xl _ _))⟩
            |exact⟨_,rfl,rfl,aa (TK.o ((((k1.1.setCell (Nat.le_refl _) _).setCell (Nat.le_refl _) _).setCell (Nat.le_refl _) _).setCell (Nat.le_refl _) _) (by refine⟨?_,?_,?_,?_⟩<;>go_simp))⟩
         case rest=>
          obtain⟨ib,rfl,rfl,XZ⟩:=hcut;clear Ji TK;generalize wc=MW at *;clear hci H15;go_wp2_with fail;have Ji:Hid (∀W,Below MW.heap.size MW W->Below MW.heap.size MW W/\W.cell? ⟨b,off+i*4,none⟩=some (.int .u32 (x.t.toNat:Int))/\W.cell? ⟨b,off+i*4+1,none⟩=some (.int .u32 (x.h.toNat:Int))/\W.cell? ⟨b,off+i*4+3,none⟩=some (.int .u32 (x.m.toNat:Int))):=aa (fun W h=>⟨h,(HQ.o _ (FM.o XZ.out.1 h)).1,(HQ.o _ (FM.o XZ.out.1 h)).2.1,(HQ.o _ (FM.o XZ.out.1 h)).2.2.2⟩);have TK:Hid (∀{wx nb},Below MW.heap.size MW wx->ix wx nb c->Below qW.heap.size qW wx/\ix wx ob y/\ix wx ib a/\ix wx nb c):=aa (fun h e=>⟨FM.o XZ.out.1 h,XZ.out.2.1.below h,XZ.out.2.2.below h,e⟩);go_cut [26,27] from 156 to 170 (fun ub uo wx=>∃nb,ub=.pointer (some ⟨nb,0,none⟩)/\uo=.bool true/\Hid (Below qW.heap.size qW wx/\ix wx ob y/\ix wx ib a/\ix wx nb c))
          case first=>
           as_aux_lemma=>
           go_region_held3 (fun w'=>Below MW.heap.size MW w'/\w'.cell? ⟨b,off+i*4,none⟩=some (.int .u32 (x.t.toNat:Int))/\w'.cell? ⟨b,off+i*4+1,none⟩=some (.int .u32 (x.h.toNat:Int))/\w'.cell? ⟨b,off+i*4+3,none⟩=some (.int .u32 (x.m.toNat:Int)))
            (first | with_reducible exact k1 | exact Ji.o _ (by first | with_reducible exact aj.drew | with_reducible exact ai.drew | with_reducible exact aj.drew.alloc ah _) | exact Ji.o _ (k1.1.alloc k1.1.size _) | exact Ji.o _ ((((k1.1.setCell (Nat.le_refl _) _).setCell (Nat.le_refl _) _).setCell (Nat.le_refl _) _).setCell (Nat.le_refl _) _))
            (first
              | (go_at_call 36;refine(PK.o _ (FM.o XZ.out.1 (by first | with_reducible exact aj.drew | with_reducible exact ai.drew | with_reducible exact aj.drew.alloc ah _))).mono ?_;rintro e w'⟨rfl,hb⟩;have k1:=Ji.o w' (Below.trans (by first | with_reducible exact aj.drew | with_reducible exact ai.drew | with_reducible exact aj.drew.alloc ah _) (hb.mono ah));try (obtain⟨z0,z1,z2,z3,zf⟩:=Bk ((hb.block MW.heap.size ah).trans (heap_alloc_new _ _)))))
           all_goals
            go_wp2;go_meet
            first
             |exact⟨_,rfl,rfl,aa (TK.o (k1.1.alloc k1.1.size _) (xl _ _))⟩
             |exact⟨_,rfl,rfl,aa (TK.o ((((k1.1.setCell (Nat.le_refl _) _).setCell (Nat.le_refl _) _).setCell (Nat.le_refl _) _).setCell (Nat.le_refl _) _) (by refine⟨?_,?_,?_,?_⟩<;>go_simp))⟩
          case rest=>
           obtain⟨cb,rfl,rfl,Hcb⟩:=hcut;clear Ji TK;generalize wc=W18 at *;clear PK XZ;go_upto_region 30 with fail
           obtain⟨hB,⟨-,-,y2,-⟩,⟨-,-,a2,-⟩,-,-,c2,-⟩:=Hcb.out;obtain⟨-,-,q2,q3⟩:=HQ.o _ hB;have hmb:((x.m.toNat:Int) == 4294967295)=false:=by simpa using MI.o.1
           have wsz:IntKind.u64.wrap ((a.x.toNat:Int)+(c.x.toNat:Int))=(x.x.toNat:Int):=(congrArg _ (by have:=MI.o.2.1;omega:(a.x.toNat:Int)+(c.x.toNat:Int)=(x.x.toNat:Int))).trans (gM _ ae (by have:=x.x.toNat_lt;omega));clear hB;have afd:Hid (∀W,Below W18.heap.size W18 W->Below qW.heap.size qW W):=aa (fun W h=>FM.o Hcb.out.1 h);cases bo
           ·as_aux_lemma=>
            go_quiet (fail)
            go_wp2;exact⟨⟨i+1,rfl,HIL.o,aa (afd.o _ (by first | exact Below.refl _ _ | exact below_drewN aj _))⟩,by have:=HIL.o;simp[intOf];omega⟩
           ·as_aux_lemma=>
            have hle:decide (y.x.toNat<=x.x.toNat)=false:=by have:=MI.o.2.2 rfl;simp;omega
            go_quiet (fail)
            go_wp2;exact⟨⟨i+1,rfl,HIL.o,aa (afd.o _ (by first | exact Below.refl _ _ | exact below_drewN aj _))⟩,by have:=HIL.o;simp[intOf];omega⟩
     ·as_aux_lemma=>
      have Et:¬(i:Int)<(M:Int):=by omega
      have Pe:=aa (afb.o.moved (aw.aU afb.o.held.aX HX.out));clear hi hlt;go_wp2;exact⟨⟨gen+1,D2,Xs,vs2,o11,d11,L5,rfl,rfl,ae,Pe⟩,by simp[intOf];omega⟩
  ·as_aux_lemma=>
   have VN:¬(gen:Int)<=(Z:Int):=by omega
   go_wp2_with fail;refine(HWK.o _).mono ?_;rintro e w5⟨rfl,nT⟩;have HQ:=aa (HP.o _ (HT.o _ _ UN.o nT));clear nT;go_wp2;exact HQ.o
end
end Go.Proofs.YthkkgdpomhhjjaaGreatDoor
namespace Go.Proofs.YthkkgdpomhhjjaaGreatDoor.ContractCuts
open Go.ChangeShapes Go.WideShapes Go.ChangeAt Go.RowKit Go.Joins
theorem closed:joinedFacts Tryz.pinned.checked.prog 6 Tryz.f6 (OpenSpec.ofChange Rows.contractCutsSpec).bare Rows.contractCutsRow=true:=by
 unfold joinedFacts;repeat' with_reducible apply agm
 all_goals as_aux_lemma=>kernel_rfl
end Go.Proofs.YthkkgdpomhhjjaaGreatDoor.ContractCuts
