/-
  Joined.
-/
import Derived.Test.YthkkgdpomhhjjaaGreatDoorK15
set_option maxRecDepth 100000
set_option maxHeartbeats 16000000
namespace Go.Proofs.YthkkgdpomhhjjaaGreatDoor
open Go.Proofs.Tryz
section
open Go.RowKit Go.Maps
def F6(w:World)(es:List aD)(vs:List cj)(e:Ending)(w':World):Prop:=∃gv hv,e=.returned (.agg #[gv,hv])/\kC w' gv es/\fG w' hv vs/\Below w.heap.size w w'/\(∀b,gv.ownBlock=some b->w.heap.size<=b)/\∀b,hv.ownBlock=some b->w.heap.size<=b
theorem My(ev vv:Value)(es:List aD)(vs:List cj)(w:World)(he:kC w ev es)(hv:WI w vv vs)(h1:es.length<=1000)(h2:vs.length<=1000):Calls prog 13 #[ev,vv] w (F6 w (aC false es) vs):=by
 have kR:Hid (Below w.heap.size w (w.alloc (.cells #[.slice none 0 0,.slice none 0 0] 34))):=ae aj;have CT:Hid ((w.alloc (.cells #[.slice none 0 0,.slice none 0 0] 34)).heap[w.heap.size]? = some (.cells #[.slice none 0 0,.slice none 0 0] 34)):=ae (heap_alloc_new w _);have P8:=ae (LX ev es false _ (he.below kR.out) af);have HV:=ae hv;have PU:w.heap.size<(w.alloc (.cells #[.slice none 0 0,.slice none 0 0] 34)).heap.size:=by simp
 clear he hv;go_enter func13,ntmps13;go_wp2_with fail;generalize w.alloc (.cells #[.slice none 0 0,.slice none 0 0] 34)=W0 at *;refine P8.out.mono ?_;rintro e w1⟨gv,rfl,hg1,hb1⟩;obtain⟨ga,gn,gc,rfl⟩:∃a n c,gv=.slice a n c:=by
  obtain⟨a,c,h,-⟩:=nC hg1;grind
 have HGB:Hid (∀b,(Value.slice ga gn gc).ownBlock=some b->w.heap.size<b):=ae (fun b hb=>by have:=aI hg1 b hb;omega);have JT:=ae (nC hg1);have cO:=ae hb1;have RF:=ae ((HV.out.below kR.out).below hb1);clear hg1 hb1 P8;go_wp2_with
  (refine k8 (w:=w1) (by rfl) _ _ rfl rfl _ vs rfl RF.out af (fun v2 w2 HVs HVo cY=>?_)
   obtain⟨va,vn,vc,alE⟩:∃a n c,v2=.slice a n c:=by
    obtain⟨a,c,h,-⟩:=HVs.out;grind
   subst alE;have kZ:Hid (w2.heap[w.heap.size]? = some (.cells #[.slice none 0 0,.slice none 0 0] 34)):=ae (by
    rw[cY.out.block _ (Nat.lt_of_lt_of_le PU cO.out.size),cO.out.block _ PU];assumption)
   have k0:w2.cell? ⟨w.heap.size,0,none⟩=some (.slice none 0 0):=by rw[ar kZ.out];rfl
   have k1:w2.cell? ⟨w.heap.size,1,none⟩=some (.slice none 0 0):=by rw[ar kZ.out];rfl
   have z0:=aO kZ.out 0;have z1:=aO kZ.out 1;have HY:Hid (((w2.setCell ⟨w.heap.size,0,none⟩ (.slice ga gn gc)).setCell ⟨w.heap.size,1,none⟩ (.slice va vn vc)).heap[w.heap.size]? = some (.cells #[.slice ga gn gc,.slice va vn vc] 34)):=ae (by
    rw[aT (aT kZ.out 0 (.slice ga gn gc)) 1 (.slice va vn vc)];rfl)
   have R1:Hid (Below w.heap.size w ((w2.setCell ⟨w.heap.size,0,none⟩ (.slice ga gn gc)).setCell ⟨w.heap.size,1,none⟩ (.slice va vn vc))):=ae (((kR.out.trans ((cO.out.trans (cY.out.mono cO.out.size)).mono kR.out.size)).setCell (Nat.le_refl _) _).setCell (Nat.le_refl _) _);have Iz:Hid (kC ((w2.setCell ⟨w.heap.size,0,none⟩ (.slice ga gn gc)).setCell ⟨w.heap.size,1,none⟩ (.slice va vn vc)) (.slice ga gn gc) (aC false es)):=ae ((JT.out.below cY.out).other (fun b hb=>by
    grind [Hid.out,Below.heap_setCell]))
   have HVE:Hid (fG ((w2.setCell ⟨w.heap.size,0,none⟩ (.slice ga gn gc)).setCell ⟨w.heap.size,1,none⟩ (.slice va vn vc)) (.slice va vn vc) vs):=ae (HVs.out.NL (fun b hb=>by
    have h1:=HVo.out b hb;have h2:=cO.out.size;grind [Below.heap_setCell]))
   clear CT)
 generalize ((w2.setCell ⟨w.heap.size,0,none⟩ (.slice ga gn gc)).setCell ⟨w.heap.size,1,none⟩ (.slice va vn vc))=w3 at *;have q0:w3.cell? ⟨w.heap.size,0,none⟩=some (.slice ga gn gc):=by rw[ar HY.out];rfl
 have q1:w3.cell? ⟨w.heap.size,1,none⟩=some (.slice va vn vc):=by rw[ar HY.out];rfl
 exact bodyPost_ret (v:=.agg #[.slice ga gn gc,.slice va vn vc]) (by simp[results,Tryz.results13,go_sem,q0,q1]) rfl ⟨_,_,rfl,Iz.out,HVE.out,R1.out,fun b hb=>Nat.le_of_lt (HGB.out b hb),fun b hb=>Nat.le_trans (Nat.le_trans (Nat.le_of_lt PU) cO.out.size) (HVo.out b hb)⟩
theorem vA{w:World}{ops:Array Oper}{rest:List Oper}{op:Oper}{a:Act}{Q:Exit->Act->World->Prop}(hgd:op.guard=none)(s x:Operand)(ho:op.op=.call { callee:=.builtin .append,args:=#[s,x],argTypes:=#[23,23] })(base:Nat)(v:Value)(l:List cj)(hs:a.eval s=v)(hown:dM w base v l)(y:cj)(c:Nat)(hx:a.eval x=.slice (some ⟨w.heap.size,0,none⟩) 1 c)(hl:l.length<=100000)(hbase:base<=w.heap.size)(k:∀v' w',dM w' base v' (l++[y])->mr v (w.alloc (.cells #[.int .u32 (y.r.toNat:Int),.int .u32 (y.l.toNat:Int),.int .u32 (y.g.toNat:Int)] 55)) w' v'->wpList prog ops Q rest (a.put op.dst v') w') :
 wpList prog ops Q (op::rest) a (w.alloc (.cells #[.int .u32 (y.r.toNat:Int),.int .u32 (y.l.toNat:Int),.int .u32 (y.g.toNat:Int)] 55)):=by
 refine dO hgd s x 23 ho base 55 _ 3 12 Tryz.underlying23 xD rfl ag v l.length (cJ l) hs (World.ownsRow.alloc hown _) ⟨w.heap.size,0,none⟩ 1 c [.int .u32 (y.r.toNat:Int),.int .u32 (y.l.toNat:Int),.int .u32 (y.g.toNat:Int)] hx rfl (fun j u hj=>?_) (by simp[Value.oneCell']) (by grind [maxLen]) af (by simp;omega) (fun v' w' h1 h2=>k v' w' ?_ h2)
 ·rw[bI,Nat.zero_add];simp_all
 ·unfold dM;rw[sO,List.length_append];exact h1
def jf:cj:=⟨4294967295,0,0⟩
theorem cX(b:Bool):aC b []=[]:=((bL b []).unique (dJ.nil b))
theorem F7(n:Nat)(hn:n<=100)(w:World):Calls prog 61 #[.int .i64 (n:Int),.slice none 0 0] w (F6 w [] (List.replicate n jf)):=by
 have HN:=ae hn;have kR:Hid (Below w.heap.size w (w.alloc (.cells #[.slice none 0 0,.slice none 0 0] 34))):=ae aj;have CT:Hid ((w.alloc (.cells #[.slice none 0 0,.slice none 0 0] 34)).heap[w.heap.size]? = some (.cells #[.slice none 0 0,.slice none 0 0] 34)):=ae (heap_alloc_new _ _);have PU:w.heap.size<(w.alloc (.cells #[.slice none 0 0,.slice none 0 0] 34)).heap.size:=by simp
 have MZ:=ae PU;clear hn PU;go_enter func61,ntmps61;go_wp2_with fail;generalize w.alloc (.cells #[.slice none 0 0,.slice none 0 0] 34)=W0 at *;go_loopw [5,6] (fun vl vi wr=>∃(k:Nat),vi=.int .i64 (k:Int)/\k<=n/\Hid (Below W0.heap.size W0 wr/\dM wr W0.heap.size vl (List.replicate k jf))) (fun _ vi _=>n-(intOf vi).toNat)
 case atStart=>exact⟨0,rfl,Nat.zero_le _,ae ⟨Below.refl _ _,World.ownsRow_nil _ _ _ _⟩⟩
 case round=>
  generalize u5=lv at *;obtain⟨k,rfl,hk,HS⟩:=hrel;generalize wr=W1 at *;obtain⟨la,lc,Qe⟩:=aA HS.out.2;rw[List.length_replicate]at Qe;subst Qe;by_cases hlt:k<n
  ·have Gj:(k:Int)<(n:Int):=by omega
   have wk:IntKind.i64.wrap ((k:Int)+1)=((k+1:Nat):Int):=by grind [Hid.out,aw]
   have yS:k<=100000:=by grind [Hid.out]
   go_wp2_with (at_builtin;go_loud (refine vA rfl _ _ rfl W0.heap.size _ (List.replicate k jf) rfl HS.out.2 jf 1 (by rfl) (by grind) HS.out.1.size ?_);intro v2 w2 h2 ha;have eP:Hid (Below W0.heap.size W0 w2/\dM w2 W0.heap.size v2 (List.replicate (k+1) jf)):=ae ⟨(gP (HS.out.1.alloc HS.out.1.size _) (fun b hb=>aI HS.out.2 b hb) ha).1,by grind [List.replicate_succ']⟩;clear h2 ha);grind [intOf]
  ·have Gj:¬(k:Int)<(n:Int):=by omega
   obtain rfl:k=n:=by omega
   have Va:=ae (My (.slice none 0 0) (.slice la k lc) [] (List.replicate k jf) W1 (Ts W1) (ky HS.out.2).1.rd ai (by grind [Hid.out]));rw[cX]at Va;go_wp2_with fail;refine Va.out.mono ?_;rintro e w2⟨gv,hv,rfl,hg2,hv2,hb2,alF,alG⟩;obtain⟨ga,gc,rfl,-⟩:=id hg2;obtain⟨va,vc,rfl,-⟩:=id hv2;have hz1:=HS.out.1.size;have hz2:=MZ.out;have kZ:Hid (w2.heap[w.heap.size]? = some (.cells #[.slice none 0 0,.slice none 0 0] 34)):=ae ((hb2.block _ af).trans ((HS.out.1.block _ hz2).trans CT.out));have k0:w2.cell? ⟨w.heap.size,0,none⟩=some (.slice none 0 0):=by rw[ar kZ.out];rfl
   have k1:w2.cell? ⟨w.heap.size,1,none⟩=some (.slice none 0 0):=by rw[ar kZ.out];rfl
   have f0:=aO kZ.out 0;have f1:=aO kZ.out 1;have R1:Hid (Below w.heap.size w ((w2.setCell ⟨w.heap.size,0,none⟩ (.slice ga ([]:List aD).length gc)).setCell ⟨w.heap.size,1,none⟩ (.slice va (List.replicate k jf).length vc))):=ae (((kR.out.trans ((HS.out.1.trans (hb2.mono hz1)).mono af)).setCell (Nat.le_refl _) _).setCell (Nat.le_refl _) _);have HY:Hid (((w2.setCell ⟨w.heap.size,0,none⟩ (.slice ga ([]:List aD).length gc)).setCell ⟨w.heap.size,1,none⟩ (.slice va (List.replicate k jf).length vc)).heap[w.heap.size]? = some (.cells #[.slice ga ([]:List aD).length gc,.slice va (List.replicate k jf).length vc] 34)):=ae (by
    rw[aT (aT kZ.out 0 (.slice ga ([]:List aD).length gc)) 1 (.slice va (List.replicate k jf).length vc)];rfl)
   have Iz:Hid (kC ((w2.setCell ⟨w.heap.size,0,none⟩ (.slice ga ([]:List aD).length gc)).setCell ⟨w.heap.size,1,none⟩ (.slice va (List.replicate k jf).length vc)) (.slice ga ([]:List aD).length gc) []):=ae ⟨ga,gc,rfl,.inl rfl⟩;have HVE:Hid (fG ((w2.setCell ⟨w.heap.size,0,none⟩ (.slice ga ([]:List aD).length gc)).setCell ⟨w.heap.size,1,none⟩ (.slice va (List.replicate k jf).length vc)) (.slice va (List.replicate k jf).length vc) (List.replicate k jf)):=ae (hv2.NL (fun b hb=>by
    grind [Below.heap_setCell]))
   have HGO:Hid ((∀b,(Value.slice ga ([]:List aD).length gc).ownBlock=some b->w.heap.size<=b)/\∀b,(Value.slice va (List.replicate k jf).length vc).ownBlock=some b->w.heap.size<=b):=ae ⟨fun b hb=>by grind,fun b hb=>by grind⟩;rw[List.length_replicate]at R1 HY Iz HVE HGO ⊢;rw[List.length_nil]at R1 HY Iz HVE HGO ⊢;clear hg2 hv2 hb2 alF alG Va kZ hz1 hz2;go_wp2_with fail;generalize (w2.setCell ⟨w.heap.size,0,none⟩ (.slice ga 0 gc)).setCell ⟨w.heap.size,1,none⟩ (.slice va k vc)=w3 at *;have q0:w3.cell? ⟨w.heap.size,0,none⟩=some (.slice ga 0 gc):=by rw[ar HY.out];rfl
   have q1:w3.cell? ⟨w.heap.size,1,none⟩=some (.slice va k vc):=by rw[ar HY.out];rfl
   exact bodyPost_ret (v:=.agg #[.slice ga 0 gc,.slice va k vc]) (by simp[results,Tryz.results61,go_sem,q0,q1]) rfl ⟨_,_,rfl,Iz.out,HVE.out,R1.out,HGO.out.1,HGO.out.2⟩
structure C9(L:aH)(l:List aD)(n:Nat):Prop where
 e:aB L (aK 101 0)=some (ax (aC false l) true)
 r:aB L (aK 114 0)=some (ax (aC true l) true)
 v:aB L (aK 118 0)=some (b6 (List.replicate n jf) true)
 tP:∀y,y≠aK 101 0->y≠aK 114 0->y≠aK 118 0->aB L y=none
 need:need L<=12*l.length+4*n
theorem XA{L:aH}{l:List aD}{n:Nat}(h:CU l L):C9 (bX (fT L 0 l (List.replicate n jf)) zh) l n:=by
 obtain⟨f1,f2,f3⟩:=yH L 0 l (List.replicate n jf);refine⟨by rw[cD,if_neg (pT _ _),f1],by rw[cD,if_neg (pT _ _),f2],by rw[cD,if_neg (pT _ _),f3],fun y h1 h2 h3=>?_,?_⟩
 ·rw[cD];by_cases e:y=zh
  ·rw[if_pos e]
  ·rw[if_neg e,rQ h1 h2 h3,h.2.1 y e]
 ·have g1:=FX (fT L 0 l (List.replicate n jf)) zh;have g2:=Ba L 0 l (List.replicate n jf);have g3:=h.2.2;rw[List.length_replicate]at g2;omega
def F8(w:World)(n:Nat)(l:List aD)(N:Nat)(e:Ending)(w':World):Prop:=
 ∃db pb o d L,e=.returned (.tuple #[ptrTo db,ptrTo pb])/\Held w w' pb db n o d L/\C9 L l N
theorem oz(n:Nat)(es:List aD):(iw n es).length<=80:=by
 unfold iw;split
 ·simp
 ·rw[List.length_map,List.length_take];omega
theorem yP(HW:aP){m:Nat}(zb:dZ m){w:World}{ev:Value}{es:List aD}(N F:Nat)(hN:N<256)(hF:F<256)(he:kC w ev es)(hm:(iw (N%25) es).length<=m) :
 Calls prog 30 #[.agg #[.int .u8 (N:Int),ev,.int .u8 (F:Int)]] w (F8 w (8+F%40) (iw (N%25) es) (N%25)):=by
 have Ny:=ae (fun W(hW:Below w.heap.size w W)=>Ei N F hN (he.below hW));have HLN:=ae (oz (N%25) es);have Yj:=ae hm;obtain⟨ea,ec,rfl,-⟩:=id he;generalize hV:N%25=V at *;have HV:Hid (V<25):=ae af;obtain⟨z,hz⟩:∃z,z=F%40:=⟨_,rfl⟩;have hF1:wrap64 (F:Int)=(F:Int):=by unfold wrap64;omega
 have hF2:(F:Int)%40=(z:Int):=by omega
 have hF3:IntKind.i64.wrap (8+(z:Int))=((8+z:Nat):Int):=by rw[aw]<;>omega
 have HZ:Hid (z<40):=ae af;rw[<- hz];generalize iw V es=l at *;have kR:Hid (Below w.heap.size w (w.alloc (.cells #[.int .u8 (N:Int),.slice ea es.length ec,.int .u8 (F:Int)] 69))):=ae aj;have CT:Hid ((w.alloc (.cells #[.int .u8 (N:Int),.slice ea es.length ec,.int .u8 (F:Int)] 69)).heap[w.heap.size]? = some (.cells #[.int .u8 (N:Int),.slice ea es.length ec,.int .u8 (F:Int)] 69)):=ae (heap_alloc_new _ _);obtain⟨PST,mE⟩:∃P,P=F8 w (8+z) l V:=⟨_,rfl⟩;have xP:=ae mE;rw[<- mE];clear he hm hV hz hN hF mE;generalize es.length=EL at *;go_enter func30,ntmps30;go_wp2_with fail;generalize Y0:w.heap.size=wb at *;generalize w.alloc (.cells #[.int .u8 (N:Int),.slice ea EL ec,.int .u8 (F:Int)] 69)=W0 at *;have Y1:Hid (w.heap.size=wb/\wb<W0.heap.size):=ae ⟨Y0,(Array.getElem?_eq_some_iff.1 CT.out).1⟩;clear Y0;have hsm:=ae (Ny.out W0 kR.out);unfold xS at hsm;refine hsm.out.mono ?_;rintro e w1⟨v1,rfl,hb1,lp⟩;obtain⟨a1,c1,rfl⟩:=aA lp;have Gc:w1.heap[wb]? = some (.cells #[.int .u8 (N:Int),.slice ea EL ec,.int .u8 (F:Int)] 69):=(hb1.block _ Y1.out.2).trans CT.out;have b2:w1.cell? ⟨wb,2,none⟩=some (.int .u8 (F:Int)):=by rw[ar Gc];rfl
 have cO:Hid (Below wb w w1):=ae (kR.out.trans (hb1.mono (Nat.le_of_lt Y1.out.2)));have CQ:=ae (WG HW (8+z) af (by have:=HZ.out;omega) _ l w1 (nC lp) (by have:=HLN.out;omega));unfold Nn ptrTo at CQ;clear hb1 lp Gc hsm Ny;go_wp2_with fail;refine CQ.out.mono ?_;rintro e w2⟨db,pb,o2,d2,L2,rfl,hh2,hr2⟩;have YA:=ae hh2;have CM:=ae hr2;have hbg:=ae (F7 V (by have:=HV.out;omega) w2);clear hh2 hr2 CQ b2 hF1 hF2 hF3;unfold ptrTo F6 at *;go_wp2_with fail;refine hbg.out.mono ?_;rintro e w3⟨gv,hv,rfl,-,hv3,hb3,-,iW⟩;have Gk:=ae (YA.out.later hb3);have tL:=ae (Pe HW zb Gk.out af CM.out (gen:=0) (.inl ag) Yj.out (by have:=HLN.out;omega) hv3 (fun b hb=>YA.out.aY.fresh (iW b hb)) (by rw[List.length_replicate];have:=HV.out;omega));obtain⟨va,vc,rfl,-⟩:=hv3;rw[List.length_replicate]at tL ⊢;have YN:∀w:World,(Instr.field 34 (.agg #[gv,.slice va V vc]) 1).run prog w=.ok (.slice va V vc) w:=fun _=>by kernel_rfl
 unfold IP zh ptrTo at tL;clear hb3 iW hbg;go_wp2_with fail;refine tL.out.mono ?_;rintro e w4⟨d4,o4,rfl,P6⟩;have HH4:=ae P6;have hdr:Hid (Calls prog 62 #[ptrTo pb,.string zh] w4 fun e w'=>∃ig gY,e=.returned (.int .i64 0)/\Held w1 w' pb db (8+z) gY ig (bX (fT L2 0 l (List.replicate V jf)) zh)):=ae (by
  obtain⟨fl,MU⟩:=CM.out.1;refine(uB P6.aY (name:=zh) (by rw[rQ (pT _ _).symm (pT _ _).symm (pT _ _).symm];exact MU)).mono ?_;rintro e w'⟨c,ig,gY,Ao,rfl,hp,ht,hg,zu,hdr⟩;have cT:Moved (fun _=>False) (8+z) pb db w4 o4 d4 w' gY ig Ao:=ju hp ht hg zu;have hh:=P6.moved cT (fun _ e=>e.elim);rcases hdr with⟨rfl,rfl⟩|⟨-,h2,-⟩
  ·exact⟨ig,gY,rfl,hh⟩
  ·rw[hh.dead]at h2;cases h2)
 unfold zh ptrTo at hdr;clear P6 tL;go_wp2_with fail;refine hdr.out.mono ?_;rintro e w5⟨d5,o5,rfl,UK⟩;have HQF:Hid (PST (.returned (.tuple #[ptrTo db,ptrTo pb])) w5):=ae (by
  rw[xP.out];have h1:=XA (n:=V) CM.out;unfold zh at h1;exact⟨db,pb,o5,d5,_,rfl,UK.abd (by have:=cO.out;rwa [Y1.out.1]),h1⟩)
 clear UK hdr;unfold ptrTo at HQF;go_wp2;exact HQF.out
end
section
open Go.RowKit Go.Maps
def Gm:List aD:=[⟨0,1,1,4294967295⟩,⟨1,2,1,4294967295⟩]
def XB:List cj:=[jf,jf,jf]
def zn:List cj:=[⟨0,1,0⟩,⟨4294967295,1,2⟩,⟨1,1,0⟩]
def Mz:List cj:=[⟨0,1,0⟩,⟨2,2,2⟩,⟨1,1,0⟩]
theorem pd(b:Bool):aC b Gm=Gm:=by
 refine(dJ.eq ⟨?_,fun e he=>?_,fun x hx _=>⟨x,hx,rfl,rfl⟩⟩).symm
 ·cases b<;>decide
 ·refine⟨he,?_,fun x hx hs=>?_⟩
  ·revert e;decide
  ·have h1:∀x∈Gm,∀e∈Gm,x.t=e.t->x=e:=by decide
   rw[h1 x hx e he hs.1];simp
theorem Uo:iw 3 [⟨0,1,1,0⟩,⟨1,2,1,0⟩]=Gm:=by decide
theorem vB:az Gm XB=[0,2]:=by
 unfold az eu oW cV;unfold aX fJ;simp only[pd];rfl
theorem vC:az [] zn=[1]:=by
 unfold az eu oW cV;unfold aX fJ;simp only[cX];rfl
theorem vD:az [] Mz=[]:=by
 rfl
theorem Up:ew Gm [0,2]=[]:=by
 unfold ew gO iu;unfold aX fJ;simp only[pd];rfl
theorem Uq:ew [] [1]=[]:=by
 unfold ew gO iu;unfold aX fJ;simp only[cX];rfl
theorem agy:yK Gm [0,2]=[⟨0,1,1,4294967295⟩]:=by
 unfold yK aX;simp only[pd];rfl
theorem Ur:gu Gm [0,2]=[⟨1,2,1,4294967295⟩]:=by
 unfold gu fJ;simp only[pd];rfl
theorem agz:yK [] [1]=[]:=by
 unfold yK aX;simp only[cX];rfl
theorem Us:gu [] [1]=[]:=by
 unfold gu fJ;simp only[cX];rfl
theorem XC:cS Gm XB 0 0 [0,2]=zn:=by
 unfold cS gw cV;unfold aX fJ;simp only[pd];rfl
theorem XD:cS [] zn 2 1 [1]=Mz:=by
 unfold cS gw cV;unfold aX fJ;simp only[cX];rfl
section
variable {w0 w w':World} {pb db:Nat} {o:au} {d:Dsk} {L L':aH}
theorem alH(hh:Held w0 w pb db 8 o d L)(hg:C9 L Gm 3)(m:Nat):Uk w0 w pb db 8 o d L 0 0 m Gm XB:=by
 have hn:=hg.need;have hl:Gm.length=2:=rfl;refine⟨hh,ag,ag,hg.e,hg.r,hg.v,ag,ag,ag,?_,fun c=>hg.tP _ (bq ag) (bq ag) (bq ag),fun k=>hg.tP _ (bm _ ag _ _).symm (bm _ ag _ _).symm (bm _ ag _ _).symm,?_,?_,?_,?_⟩
 ·unfold eu;exact Nat.le_trans (List.length_filterMap_le _ _) ag
 ·grind [vB,Up]
 ·rw[vB,Up,agy,Ur,hl];have:XB.length=3:=rfl;grind
 ·grind [vB]
 grind [fJ,Gm,II,pd,aX]
theorem alI(hh:Held w0 w pb db 8 o d L')(hg:C9 L Gm 3)(hr:nK L L' 0 [] [⟨0,1,1,4294967295⟩] [⟨1,2,1,4294967295⟩] zn)(m:Nat):Uk w0 w pb db 8 o d L' 1 2 m [] zn:=by
 have hn:=hg.need;have hl:Gm.length=2:=rfl;have hk:=hr.need;have e1:=gA (aC false []);have e2:=gA (aC true []);have e3:=gA [⟨0,1,1,4294967295⟩];have e4:=gA [⟨1,2,1,4294967295⟩];have e5:vN zn<=4*zn.length:=fY _ _;rw[cX]at e1 e2;rw[cX,cX]at hk;simp only[List.length_nil,List.length_singleton]at e1 e2 e3 e4;have e6:zn.length=3:=rfl;refine⟨hh,ag,ag,hr.e,hr.r,hr.v,ag,ag,ag,?_,fun c=>?_,fun k=>?_,?_,?_,?_,?_⟩
 ·unfold eu;exact Nat.le_trans (List.length_filterMap_le _ _) ag
 ·rw[hr.tP _ (bq ag) (bq ag) (bq ag) (bq ag) (bq ag)];grind [C9.tP,bq]
 ·rw[hr.tP _ (bm _ ag _ _).symm (bm _ ag _ _).symm (bm _ ag _ _).symm (bm _ ag _ _).symm (bm _ ag _ _).symm];grind [C9.tP,bm]
 ·grind [vC,Uq]
 ·grind [vC,Uq,agz,Us]
 ·grind [vC]
 grind [fJ,II,cX]
theorem alJ{L0:aH}(hh:Held w0 w pb db 8 o d L')(hg:C9 L0 Gm 3)(h0:nK L0 L 0 [] [⟨0,1,1,4294967295⟩] [⟨1,2,1,4294967295⟩] zn)(hr:nK L L' 1 [] [] [] Mz)(m:Nat):Uk w0 w pb db 8 o d L' 2 3 m [] Mz:=by
 have hn:=hg.need;have hl:Gm.length=2:=rfl;have hk:=hr.need;have Ka:=h0.need;have e1:=gA (aC false []);have e2:=gA (aC true []);have e3:=gA [⟨0,1,1,4294967295⟩];have e4:=gA [⟨1,2,1,4294967295⟩];have e5:vN zn<=4*zn.length:=fY _ _;have e7:vN Mz<=4*Mz.length:=fY _ _;rw[cX]at e1 e2;rw[cX,cX]at hk Ka;simp only[List.length_nil,List.length_singleton]at e1 e2 e3 e4;have e6:zn.length=3:=rfl;have e8:Mz.length=3:=rfl;refine⟨hh,ag,ag,hr.e,hr.r,hr.v,ag,ag,ag,?_,fun c=>?_,fun k=>?_,?_,?_,?_,?_⟩
 ·unfold eu;exact Nat.le_trans (List.length_filterMap_le _ _) ag
 ·rw[hr.tP _ (bq ag) (bq ag) (bq ag) (bq ag) (bq ag),h0.tP _ (bq ag) (bq ag) (bq ag) (bq ag) (bq ag)];grind [C9.tP,bq]
 ·rw[hr.tP _ (bm _ ag _ _).symm (bm _ ag _ _).symm (bm _ ag _ _).symm (bm _ ag _ _).symm (bm _ ag _ _).symm,h0.tP _ (bm _ ag _ _).symm (bm _ ag _ _).symm (bm _ ag _ _).symm (bm _ ag _ _).symm (bm _ ag _ _).symm];grind [C9.tP,bm]
 ·grind [vD,ew,gO,cX]
 ·grind [vD,ew,gO,cX,yK,gu]
 ·grind [vD]
 grind [fJ,II,cX]
end
end
section
open Go.RowKit Go.Maps
def gN:Nat->Nat
 |0=>0
 |s+1=>gN s+(8*(s*s)+8*s+96)
theorem abK(r k:Nat):gN r+k*(8*(r*r)+8*r+96)<=gN (r+k):=by
 induction k with
 |zero=>simp
 |succ k ih=>
   have h:=Nat.mul_le_mul (show r<=r+k by omega) (show r<=r+k by omega);rw[Nat.add_mul,Nat.one_mul,show r+(k+1)=(r+k)+1 by omega,gN];omega
section
variable {N done gen n pb db:Nat} {es:List aD} {vs:List cj} {w0 w w':World} {o o':au} {d d':Dsk} {L L':aH} {b:Bool}
def BJ(N:Nat)(vs:List cj):List Nat:=(List.range N).filter fun i=>!jG vs i
theorem kN.rest(h:kN N es vs done):(BJ N vs).length+done=N:=by
 have h1:=yN (l:=List.range N) (p:=jG vs) (q:=fun i=>!jG vs i) (r:=fun _=>true) (fun x _=>by simp) (fun x _ h1 h2=>by simp[h1]at h2);rw[h.count,List.filter_eq_self.2 (fun _ _=>rfl),List.length_range]at h1;unfold BJ;omega
theorem Ut{i:Nat}:i∈BJ N vs↔i<N/\jG vs i=false:=by
 unfold BJ;simp
theorem tJ(b:Bool)(l:List aD):((aC b l).map fun x=>(x.t.toNat,x.h.toNat)).Nodup:=by
 refine List.pairwise_map.2 ((bL b l).gU.imp fun{x y}h e=>?_);rw[Prod.mk.injEq]at e;unfold pk at h;cases b<;>simp only[if_true,if_false,Bool.false_eq_true]at h<;>omega
theorem mF{α β:Type}{l:List α}{f:α->List β}{m:Nat}(h:∀x∈l,(f x).length<=m):(l.flatMap f).length<=l.length*m:=by
 induction l with
 |nil=>simp
 |cons a l ih=>
   have:=h a ai;have:=ih fun x hx=>h x (by simp[hx]);rw[List.flatMap_cons,List.length_append,List.length_cons,Nat.add_mul];omega
theorem NQ{l:List aD}{S:List Nat}(hs:l.Sublist (aC b es))(h:∀x∈l,x.t.toNat∈S/\x.h.toNat∈S):l.length<=S.length*S.length:=by
 have h1:(l.map fun x=>(x.t.toNat,x.h.toNat)).Nodup:=(hs.map _).nodup (tJ b es);have h2:=oX (l₂:=S.flatMap fun a=>S.map fun c=>(a,c)) h1 (fun p hp=>by
  obtain⟨x,hx,rfl⟩:=List.mem_map.1 hp;exact List.mem_flatMap.2 ⟨_,(h x hx).1,List.mem_map.2 ⟨_,(h x hx).2,rfl⟩⟩)
 rw[List.length_map]at h2;exact Nat.le_trans h2 (mF fun a _=>by simp)
theorem Uu{v:Nat}{S:List Nat}(h:∀x∈aX es v,x.h.toNat∈S):(aX es v).length<=S.length:=by
 have h1:((aX es v).map fun x=>(x.t.toNat,x.h.toNat)).Nodup:=((List.filter_sublist).map _).nodup (tJ false es);have h2:=oX (l₂:=S.map fun c=>(v,c)) h1 (fun p hp=>by
  obtain⟨x,hx,rfl⟩:=List.mem_map.1 hp;exact List.mem_map.2 ⟨_,h x hx,by rw[(lD.1 hx).2]⟩)
 simpa using h2
theorem Y2{v:Nat}{S:List Nat}(h:∀x∈fJ es v,x.t.toNat∈S):(fJ es v).length<=S.length:=by
 have h1:((fJ es v).map fun x=>(x.t.toNat,x.h.toNat)).Nodup:=((List.filter_sublist).map _).nodup (tJ true es);have h2:=oX (l₂:=S.map fun c=>(c,v)) h1 (fun p hp=>by
  obtain⟨x,hx,rfl⟩:=List.mem_map.1 hp;exact List.mem_map.2 ⟨_,h x hx,by rw[(tG.1 hx).2]⟩)
 simpa using h2
theorem kN.sizes(h:kN N es vs done)(hd:done+(az es vs).length<=1000){k s:Nat}(hk:k=(az es vs).length)(hs:s+done+k=N) :
 (aC false (ew es (az es vs))).length<=s*s/\(aC true (ew es (az es vs))).length<=s*s/\(ew es (az es vs)).length<=s*s+k*(s*s)/\(yK es (az es vs)).length<=k*s/\(gu es (az es vs)).length<=k*s:=by
 have hn:=h.next (gen:=0) hd;have hr:=hn.rest;obtain⟨S,hS⟩:∃S,S=BJ N (cS es vs done 0 (az es vs)):=⟨_,rfl⟩;have hl:S.length=s:=by rw[hS];omega
 have oC:∀i x,vs[i]? = some x->x.r=4294967295->i ∉ az es vs->i∈S:=fun i x hx hx2 hc=>by
  rw[hS,Ut];refine⟨by rw[<- h.len];exact aN hx,?_⟩;have h1:=vy (es:=es) (was:=vs) (done:=done) (gen:=0) hc;rw[hx]at h1;obtain⟨y,e1,e2⟩:=Option.map_eq_some_iff.1 h1;unfold jG;rw[e1];simp[e2,hx2]
 have sQ:∀x∈aC false es,(x.t.toNat ∉ az es vs->x.t.toNat∈S)/\(x.h.toNat ∉ az es vs->x.h.toNat∈S):=fun x hx=>by
  obtain⟨a,c,h1,h2,h3,h4⟩:=h.ends x (eB.1 hx).1;exact⟨oC _ _ h1 h3,oC _ _ h2 h4⟩
 have ho:∀v∈az es vs,(aX es v).length<=s:=fun v hv=>by
  rw[<- hl];refine Uu fun x hx=>?_;have h1:=lD.1 hx;exact(sQ x h1.1).2 fun hc=>lF hv hc (rp.2 ⟨x,h1.1,.inl ⟨h1.2,rfl⟩⟩)
 have hi:∀v∈az es vs,(fJ es v).length<=s:=fun v hv=>by
  rw[<- hl];refine Y2 fun x hx=>?_;have h1:=tG.1 hx;exact(sQ x h1.1).1 fun hc=>lF hv hc (rp.2 ⟨x,h1.1,.inr ⟨h1.2,rfl⟩⟩)
 have CQ:∀b,(aC b (ew es (az es vs))).length<=s*s:=fun b=>by
  rw[<- hl];refine NQ (List.Sublist.refl _) fun x hx=>?_;obtain⟨h1,h2,⟨y,hy,ey⟩,⟨z,hz,ez⟩⟩:=Jy (eB.1 hx).1;rw[<- ey]at h1 ⊢;rw[<- ez]at h2 ⊢;exact⟨(sQ y hy).1 h1,(sQ z hz).2 h2⟩
 refine⟨CQ false,CQ true,?_,?_,?_⟩
 ·unfold ew;rw[List.length_append];refine Nat.add_le_add ?_ ?_
  ·rw[<- hl];refine NQ (b:=false) (es:=es) List.filter_sublist fun x hx=>?_;obtain⟨h1,h2,h3⟩:=vz.1 hx;exact⟨(sQ x h1).1 h2,(sQ x h1).2 h3⟩
  ·rw[hk];refine mF fun v hv=>?_;unfold iu nA;refine Nat.le_trans (mF (m:=s) fun a _=>Nat.le_trans (List.length_filterMap_le _ _) ?_) (Nat.mul_le_mul_right _ (hi v hv));rw[show(UInt32.ofNat v).toNat=v by rw[UInt32.toNat_ofNat'];have:=lM hv;have:=h.len;have:=h.top;omega];exact ho v hv
 ·rw[hk];exact mF ho
 ·rw[hk];exact mF hi
structure pg(w0 w:World)(pb db n:Nat)(o:au)(d:Dsk)(L:aH)(N gen done:Nat)(es:List aD)(vs:List cj):Prop where
 held:Held w0 w pb db n o d L
 frames:8<=n
 ok:kN N es vs done
 top:N<=24
 gd:gen<=done
 e:aB L (aK 101 gen)=some (ax (aC false es) true)
 r:aB L (aK 114 gen)=some (ax (aC true es) true)
 v:aB L (aK 118 gen)=some (b6 vs true)
 len:es.length<=600
 free:∀c g,gen<g->aB L (aK c g)=none
 nt:∀k,aB L (dC k)=none
 need:need L+gN (N-done)<=40200
theorem pg.moved(h:pg w0 w pb db n o d L N gen done es vs)(hm:Moved (fun _=>False) n pb db w o d w' o' d' L):pg w0 w' pb db n o' d' L N gen done es vs:={ h with held:=h.held.moved hm fun _ e=>e.elim }
theorem NR:∀s<25,∀k<25,s+k<=24->s*s+k*(s*s)<=2400/\k*s<=144/\s*s<=576:=by decide
theorem pg.rn(h:pg w0 w pb db n o d L N gen done es vs):Uk w0 w pb db n o d L gen done 2400 es vs:=by
 have hd:done+(az es vs).length<=N:=by
  have h1:=(h.ok.next (gen:=0) (by
   have:=h.ok.pX;have h2:(az es vs).length<=vs.length:=by
    have:=oX (l₂:=List.range vs.length) ((jd es vs).imp fun h=>Nat.ne_of_lt h) (fun v hv=>List.mem_range.2 (lM hv));simpa using this
   have:=h.ok.len;have:=h.top;omega)).pX
  exact h1
 have ht:=h.top;have hg:=h.gd;have hl:=h.ok.len;obtain⟨h1,h2,h3,h4,h5⟩:=h.ok.sizes af rfl (show(N-(done+(az es vs).length))+done+(az es vs).length=N by omega);obtain⟨q1,q2,q3⟩:=NR (N-(done+(az es vs).length)) af (az es vs).length af af;have sQ:∀x∈es,x.t.toNat<vs.length/\x.h.toNat<vs.length:=fun x hx=>by
  obtain⟨a,c,h1,h2,-⟩:=h.ok.ends x hx;exact⟨aN h1,aN h2⟩
 have hn:=h.need;have hlen:=h.len;refine⟨h.held,h.frames,af,h.e,h.r,h.v,af,af,sQ,?_,fun c=>h.free c _ af,h.nt,af,af,af,fun v _=>?_⟩
 ·unfold eu;refine Nat.le_trans (List.length_filterMap_le _ _) ?_;rw[List.length_zipIdx];omega
 ·have g1:(aX es v).length<=N:=by
   have:=Uu (es:=es) (v:=v) (S:=List.range N) fun x hx=>List.mem_range.2 (by have:=(sQ x (eB.1 (lD.1 hx).1).1).2;omega);simpa using this
  have g2:(fJ es v).length<=N:=by
   have:=Y2 (es:=es) (v:=v) (S:=List.range N) fun x hx=>List.mem_range.2 (by have:=(sQ x (eB.1 (tG.1 hx).1).1).1;omega);simpa using this
  have:=Nat.mul_le_mul (Nat.le_trans g2 ht) (Nat.le_trans g1 ht);omega
theorem pg.next(h:pg w0 w pb db n o d L N gen done es vs)(hne:az es vs≠[])(hh:Held w0 w' pb db n o' d' L')(hr:nK L L' gen (ew es (az es vs)) (yK es (az es vs)) (gu es (az es vs)) (cS es vs done gen (az es vs))) :
 pg w0 w' pb db n o' d' L' N (gen+1) (done+(az es vs).length) (aC false (ew es (az es vs))) (cS es vs done gen (az es vs)):=by
 have hd:=h.rn.dlt;have hk:0<(az es vs).length:=List.length_pos_iff.2 hne;have h0:done+(az es vs).length<=1000:=by
  have h2:(az es vs).length<=vs.length:=by
   have:=oX (l₂:=List.range vs.length) ((jd es vs).imp fun h=>Nat.ne_of_lt h) (fun v hv=>List.mem_range.2 (lM hv));simpa using this
  have:=h.ok.pX;have:=h.ok.len;have:=h.top;omega
 have fe:=h.ok.next (gen:=gen) h0;have hle:=fe.pX;have ht:=h.top;obtain⟨h1,h2,h3,h4,h5⟩:=h.ok.sizes h0 rfl (show(N-(done+(az es vs).length))+done+(az es vs).length=N by omega);obtain⟨q1,q2,q3⟩:=NR (N-(done+(az es vs).length)) af (az es vs).length af af;have hgn:=abK (N-(done+(az es vs).length)) (az es vs).length;rw[show N-(done+(az es vs).length)+(az es vs).length=N-done by omega]at hgn;have e1:=gA (aC false (ew es (az es vs)));have e2:=gA (aC true (ew es (az es vs)));have e3:=gA (yK es (az es vs));have e4:=gA (gu es (az es vs));have e5:vN (cS es vs done gen (az es vs))<=4*(cS es vs done gen (az es vs)).length:=fY _ _;rw[fe.len]at e5;have e6:=hr.need;have e7:=h.need;have pJ:∀(c c':UInt8)g,gen+1<g->aK c g≠aK c' (gen+1):=fun c c' g hg=>bq af;have zr:∀k c,c≠116->dC k≠aK c (gen+1):=fun k c hc=>(bm c hc _ _).symm;refine⟨hh,h.frames,fe,ht,by have:=h.gd;omega,?_,?_,hr.v,af,fun c g hg=>?_,fun k=>?_,?_⟩
 ·rw[rP];exact hr.e
 ·rw[rP];exact hr.r
 ·rw[hr.tP _ (pJ _ _ _ hg) (pJ _ _ _ hg) (pJ _ _ _ hg) (pJ _ _ _ hg) (pJ _ _ _ hg)];exact h.free c g af
 ·rw[hr.tP _ (zr _ _ ag) (zr _ _ ag) (zr _ _ ag) (zr _ _ ag) (zr _ _ ag)];exact h.nt k
 ·generalize N-(done+(az es vs).length)=s at *;generalize (az es vs).length=k at *;have g1:s*s<=k*(s*s):=Nat.le_mul_of_pos_left _ hk;have g2:k*(8*(s*s)+8*s+96)=8*(k*(s*s))+8*(k*s)+96*k:=by
   rw[Nat.mul_add,Nat.mul_add];simp only[Nat.mul_left_comm k 8];omega
  omega
theorem MA(hh:Held w0 w pb db n o d L)(hn:8<=n){l:List aD}(hl:l.length<=80)(hN:N<=24)(he:∀x∈l,x.t.toNat<N/\x.h.toNat<N)(hg:C9 L l N):pg w0 w pb db n o d L N 0 0 l (List.replicate N jf):=by
 have hr:∀(i:Nat)(x:cj),(List.replicate N jf)[i]? = some x->x.r=4294967295:=fun i x hx=>by
  rw[List.getElem?_replicate]at hx;split at hx
  ·cases hx;rfl
  ·cases hx
 have hg0:=hg.need;have hgn:∀N<25,gN N<=39104:=by decide
 have:=hgn N af;refine⟨hh,hn,⟨List.length_replicate,af,fun x hx=>?_,fun i x hx h=>absurd (hr i x hx) h,fun i j x y hx _ h=>absurd (hr i x hx) h,?_⟩,hN,Nat.le_refl _,hg.e,hg.r,hg.v,af,fun c g h=>hg.tP _ (bq af) (bq af) (bq af),fun k=>hg.tP _ (bm _ ag _ _).symm (bm _ ag _ _).symm (bm _ ag _ _).symm,by simp;omega⟩
 ·exact⟨jf,jf,by rw[List.getElem?_replicate,if_pos (he x hx).1],by rw[List.getElem?_replicate,if_pos (he x hx).2],rfl,rfl⟩
 ·rw[List.length_eq_zero_iff,List.filter_eq_nil_iff];intro i _;rw[kg];rintro⟨x,hx,h⟩;exact h (hr i x hx)
def BK(w0 w:World)(pb db n:Nat)(o:au)(d:Dsk)(L:aH)(N gen done:Nat)(es:List aD)(vs:List cj)(e:Ending)(w':World):Prop:=
 ∃d' o' L',e=.returned (.tuple #[.int .u32 ((az es vs).length:Int),.int .i64 0])/\Moved (fun _=>False) n pb db w o d w' o' d' L'/\(az es vs=[]->L'=L)/\(az es vs≠[]->nK L L' gen (ew es (az es vs)) (yK es (az es vs)) (gu es (az es vs)) (cS es vs done gen (az es vs))/\pg w0 w' pb db n o' d' L' N (gen+1) (done+(az es vs).length) (aC false (ew es (az es vs))) (cS es vs done gen (az es vs)))
theorem MB(HW:aP)(zb:dZ 2400)(h:pg w0 w pb db n o d L N gen done es vs) :
 Calls prog 33 #[ptrTo pb,.int .i64 (gen:Int),.int .u32 (done:Int)] w (BK w0 w pb db n o d L N gen done es vs):=by
 refine(rS HW zb h.rn).mono ?_;rintro e w'⟨d',o',L',rfl,hm,h1,h2⟩;exact⟨d',o',L',rfl,hm,h1,fun hne=>⟨h2 hne,h.next hne (h.held.moved hm fun _ e=>e.elim) (h2 hne)⟩⟩
end
end
section
open Go.RowKit Go.Maps
section
variable {S:Nat->Prop} {N done gen n pb db gb ob ib vb:Nat} {es:List aD} {vs:List cj} {w0 w w':World} {o o':au} {d d':Dsk} {L L':aH} {b:Bool}
structure MC(w0 w:World)(pb db n:Nat)(o:au)(d:Dsk)(L:aH)(gb gen N ob ib vb:Nat)(es:List aD)(vs:List cj):Prop where
 kh:fN w0 w pb db n o d L gb gen N ob ib vb es
 len:vs.length=N
 file:aB L (aK 118 gen)=some (b6 vs true)
theorem MC.moved(h:MC w0 w pb db n o d L gb gen N ob ib vb es vs)(hm:Moved (fun _=>False) n pb db w o d w' o' d' L):MC w0 w' pb db n o' d' L gb gen N ob ib vb es vs:=⟨h.kh.moved hm,h.len,h.file⟩
theorem MC.abL(HW:aP)(h:MC w0 w pb db n o d L gb gen N ob ib vb es vs){v:Nat}{x:cj}(hv:vs[v]? = some x) :
 Calls prog 23 #[ptrTo gb,.int .u32 (v:Int)] w fun e w'=>∃d' o',e=.returned (.tuple #[xw x,.int .i64 0])/\Moved (fun _=>False) n pb db w o d w' o' d' L:=by
 have hi:=aN hv;have:=h.len;have:=h.kh.top;rw[List.getElem?_eq_getElem hi]at hv;rw[<- Option.some.inj hv];exact D7 HW h.kh.held h.kh.need (by rw[h.len];exact h.kh.gr) h.file hi af
def Y3(w0 w:World)(pb db n:Nat)(o:au)(d:Dsk)(L:aH)(gen N:Nat)(es:List aD)(vs:List cj)(e:Ending)(w':World):Prop:=
 ∃gb ob ib vb d' o',e=.returned (.tuple #[ptrTo gb,.int .i64 0])/\Moved (fun _=>False) n pb db w o d w' o' d' L/\MC w0 w' pb db n o' d' L gb gen N ob ib vb es vs
theorem PV(HW:aP)(h:pg w0 w pb db n o d L N gen done es vs):Calls prog 34 #[ptrTo pb,.int .i64 (gen:Int)] w (Y3 w0 w pb db n o d L gen N es vs):=by
 have hq:need L<=131072:=by have:=h.need;omega
 have hl:=h.len;have ht:=h.top;refine(sJ HW h.held.aY (gen:=gen) (.inl (by have:=h.rn.glt;omega)) h.v h.e h.r).mono ?_;rintro e w'⟨v,c,d',o',rfl,hm,he,fe,-⟩;have hc:c=0:=h.held.qY hm he hq;subst hc;obtain⟨gb,ob,ib,vb,rfl,hg⟩:=fe rfl;rw[h.ok.len]at hg;refine⟨gb,ob,ib,vb,d',o',rfl,hm,⟨h.held.moved hm fun _ e=>e.elim,hq,hg,h.e,h.r,af,af,fun x hx=>?_⟩,h.ok.len,h.v⟩;obtain⟨a,c,h1,h2,-⟩:=h.ok.ends x hx;rw[<- h.ok.len];exact⟨aN h1,aN h2⟩
theorem BL{V:Nat}{l:List aD}{x:aD}(h:x∈iw V l):x.t.toNat<V/\x.h.toNat<V:=by
 unfold iw at h;split at h
 ·cases h
 ·obtain⟨y,-,rfl⟩:=List.mem_map.1 h;obtain⟨h1,h2,-⟩:=Eh (n:=V) y;rw[h1,h2];exact⟨Nat.mod_lt _ af,Nat.mod_lt _ af⟩
def abM(w:World)(n:Nat)(l:List aD)(N:Nat)(e:Ending)(w':World):Prop:=
 ∃db pb o d L,e=.returned (.tuple #[ptrTo db,ptrTo pb])/\pg w w' pb db n o d L N 0 0 l (List.replicate N jf)
theorem MD(HW:aP)(zb:dZ 2400){ev:Value}{l:List aD}(K F:Nat)(hK:K<256)(hF:F<256)(he:kC w ev l) :
 Calls prog 30 #[.agg #[.int .u8 (K:Int),ev,.int .u8 (F:Int)]] w (abM w (8+F%40) (iw (K%25) l) (K%25)):=by
 have h80:=oz (K%25) l;refine(yP HW zb K F hK hF he af).mono ?_;rintro e w'⟨db,pb,o,d,L,rfl,hh,hg⟩;exact⟨db,pb,o,d,L,rfl,MA hh af h80 af (fun x hx=>BL hx) hg⟩
theorem kN.keeps(h:kN N es vs done){v:Nat}{a:cj}(ha:vs[v]? = some a)(hr:a.r≠4294967295):(cS es vs done gen (az es vs))[v]? = some a:=by
 rw[Jx,ha]
 ·intro hc;obtain⟨x,hx,h1,-⟩:=gR hc;rw[ha]at hx;cases hx;exact hr h1
 ·intro u hu hn;obtain⟨x,hx,h1⟩:=rp.1 hn;obtain⟨c,e,h2,h3,h4,h5⟩:=h.ends x (eB.1 hx).1;rcases h1 with⟨-,h1⟩|⟨-,h1⟩
  ·rw[h1,ha]at h3;cases h3;exact hr h5
  ·rw[h1,ha]at h2;cases h2;exact hr h4
theorem Uv{v:Nat}{a c:cj}(ha:vs[v]? = some a)(hr:a.r=4294967295)(hc:v ∉ az es vs)(hb:(cS es vs done gen (az es vs))[v]? = some c):c.r=4294967295:=by
 have h1:=vy (es:=es) (was:=vs) (done:=done) (gen:=gen) hc;rw[ha,hb,Option.map_some,Option.map_some]at h1;rw[Option.some.inj h1,hr]
def below(ch:List Nat)(v:Nat):Nat:=(ch.filter fun x=>decide (x<v)).length
theorem PW{ch:List Nat}(hr:ch.Pairwise (· < ·)){v:Nat}(hv:v∈ch):ch[below ch v]? = some v:=by
 induction ch with
 |nil=>cases hv
 |cons a ch ih=>
   rw[List.pairwise_cons]at hr;rcases List.mem_cons.1 hv with rfl | h
   ·have:below (v::ch) v=0:=by
     unfold below;rw[List.length_eq_zero_iff,List.filter_eq_nil_iff];intro x hx;rcases List.mem_cons.1 hx with rfl | h
     ·simp
     ·have:=hr.1 x h;simp;omega
    rw[this];rfl
   ·have h1:=hr.1 v h;have:below (a::ch) v=below ch v+1:=by unfold below;rw[List.filter_cons,if_pos (by simpa using h1)];rfl
    rw[this,List.getElem?_cons_succ];exact ih hr.2 h
theorem Uw{v:Nat}{a:cj}(hv:v∈az es vs)(ha:vs[v]? = some a):(cS es vs done gen (az es vs))[v]? = some ⟨UInt32.ofNat (done+below (az es vs) v),UInt32.ofNat (gen+1),a.g⟩:=by
 rw[xO (PW (jd es vs) hv),ha];rfl
end
end
section
open Go.RowKit Go.Maps
section
variable {N done gen n pb db:Nat} {es:List aD} {vs:List cj} {w0 w:World} {o:au} {d:Dsk} {L:aH} {b:Bool}
theorem pg.smalls(h:pg w0 w pb db n o d L N gen done es vs):(aC false es).length<=600/\(aC false (ew es (az es vs))).length<=6000/\(yK es (az es vs)).length<=6000/\(gu es (az es vs)).length<=6000/\vs.length<=24:=by
 have h1:=h.rn.need;have h2:=b8 false es;have h3:=b8 false (ew es (az es vs));have:=h.len;have:=h.ok.len;have:=h.top;omega
end
end
section
open Go.RowKit Go.Maps
section
variable {N done gen n pb db:Nat} {es:List aD} {vs:List cj} {w0 w w':World} {o o':au} {d d':Dsk} {L L':aH} {b:Bool}
theorem kN.abL(h:kN N es vs done){i:Nat}{y:cj}(hy:(cS es vs done gen (az es vs))[i]? = some y) :
 ∃x,vs[i]? = some x/\(x.r≠4294967295/\y=x\/x.r=4294967295/\i∈az es vs/\y=⟨UInt32.ofNat (done+below (az es vs) i),UInt32.ofNat (gen+1),x.g⟩\/x.r=4294967295/\i ∉ az es vs/\y.r=4294967295):=by
 have hl:=vw (es:=es) (was:=vs) (done:=done) (gen:=gen) (az es vs);obtain⟨x,hx⟩:∃x,vs[i]? = some x:=⟨_,List.getElem?_eq_getElem (by rw[<- hl];exact aN hy)⟩;refine⟨x,hx,?_⟩;by_cases hr:x.r=4294967295
 ·by_cases hc:i∈az es vs
  ·exact .inr (.inl ⟨hr,hc,Option.some.inj (hy.symm.trans (Uw hc hx))⟩)
  ·exact .inr (.inr ⟨hr,hc,Uv hx hr hc hy⟩)
 ·exact .inl ⟨hr,Option.some.inj (hy.symm.trans (h.keeps hx hr))⟩
def cq(W:World)(o:au)(b N:Nat)(f:Nat->Value):Prop:=
 o b=none/\b<W.heap.size/\∃(cur:Array Value)(e:TypeId),W.heap[b]? = some (.cells cur e)/\cur.size=N/\∀i,i<N->cur[i]? = some (f i)
section
variable {W W':World} {g:Nat} {f:Nat->Value}
theorem cq.cell(h:cq W o g N f){i:Nat}(hi:i<N):W.cell? ⟨g,i,none⟩=some (f i):=by
 obtain⟨-,-,cur,e,hb,-,hc⟩:=h;rw[ar hb];exact hc i hi
theorem cq.frozen(h:cq W o g N f)(k:Nat):W.frozen? ⟨g,k,none⟩=false:=by
 obtain⟨-,-,cur,e,hb,-⟩:=h;exact frozen_of_row W g k cur e hb
theorem cq.moved(h:cq w o g N f)(hm:Moved (fun _=>False) n pb db w o d w' o' d' L):cq w' o' g N f:=by
 obtain⟨h1,h2,cur,e,hb,hc⟩:=h;exact⟨hm.free h2 h1,Nat.lt_of_lt_of_le h2 hm.size,cur,e,hm.heap hb h1 (fun e=>e),hc⟩
theorem cq.below(h:cq W o g N f)(hb:Below W.heap.size W W'):cq W' o g N f:=by
 obtain⟨h1,h2,cur,e,hc,hd⟩:=h;exact⟨h1,Nat.lt_of_lt_of_le h2 hb.size,cur,e,(hb.block _ h2).trans hc,hd⟩
theorem cq.congr{f':Nat->Value}(h:cq W o g N f)(hf:∀i,i<N->f i=f' i):cq W o g N f':=by
 obtain⟨h1,h2,cur,e,hc,hd,hh⟩:=h;exact⟨h1,h2,cur,e,hc,hd,fun i hi=>by rw[hh i hi,hf i hi]⟩
theorem cq.put(h:cq W o g N f)(i:Nat)(v:Value):cq (W.setCell ⟨g,i,none⟩ v) o g N fun j=>if j=i then v else f j:=by
 obtain⟨h1,h2,cur,e,hb,hn,hc⟩:=h;refine⟨h1,by simpa using h2,cur.setIfInBounds i v,e,heap_setCell_same W g i cur e v hb,by simpa using hn,fun j hj=>?_⟩;rw[Array.getElem?_setIfInBounds];dsimp only;by_cases e:i=j
 ·subst e;rw[if_pos rfl,if_pos rfl,if_pos af]
 ·rw[if_neg e,if_neg (show ¬j=i from fun h=>e h.symm)];exact hc j hj
theorem JG(ho:o W.heap.size=none)(z:Value)(e:TypeId)(N:Nat):cq (W.alloc (.cells (madeCells #[z] (N*1)) e)) o W.heap.size N fun _=>z:=by
 refine⟨ho,ai,_,e,heap_alloc_new _ _,by rw[size_madeCells,Nat.mul_one],fun i hi=>?_⟩;rw[Array.getElem?_eq_getElem (by rw[size_madeCells];omega)];simp[madeCells,Nat.mod_one]
end
end
end
section
open Go.RowKit Go.Maps
inductive Way (P:aD->Prop):Nat->Nat->Nat->Nat->Prop
 |nil (a:Nat):Way P a a 0 0
 |cons {x:aD} {a b s k:Nat}:P x->x.t.toNat=a->Way P x.h.toNat b s k->Way P a b (x.x.toNat+s) (k+1)
section
variable {P Q:aD->Prop} {a b c s t k m:Nat}
theorem Way.trans(h:Way P a b s k)(g:Way P b c t m):Way P a c (s+t) (k+m):=by
 induction h with
 |nil=>grind
 |cons hx ht _ ih=>rw[Nat.add_assoc,Nat.add_right_comm];exact .cons hx ht (ih g)
theorem Way.one{x:aD}(h:P x):Way P x.t.toNat x.h.toNat x.x.toNat 1:=.cons h rfl (.nil _)
theorem Way.map(h:Way P a b s k)(hp:∀x,P x->∃m,Way Q x.t.toNat x.h.toNat x.x.toNat m):∃m,Way Q a b s m:=by
 induction h with
 |nil=>exact⟨0,.nil _⟩
 |cons hx ht _ ih=>
   subst ht;obtain⟨m,hm⟩:=ih;obtain⟨m',YF⟩:=hp _ hx;exact⟨_,YF.trans hm⟩
theorem Ux{E:Nat->List aD}{A:Nat->Bool}{u tgt most:Nat}(hE:∀v,∀x∈E v,P x/\x.t.toNat=v)(hP:∀x,P x->A x.h.toNat=false->Q x) :
 ∀(k:Nat)(m:vL)(S:List Nat),(m.map (·.1)).Nodup->(∀v d,aB m v=some d->∃j,Way Q u v d j)->k9 E A tgt most k m S=true->∃d j,d<=most/\Way Q u tgt d j:=by
 intro k;induction k with
 |zero=>intro m S _ _ h;cases h
 |succ k ih=>
   intro m S hn hm h;rw[k9]at h;split at h
   ·cases h
   ·rename_i v d e
    obtain⟨h1,-⟩:=tv e;have hv:=hm v d (iV hn h1);split at h
    ·cases h
    ·split at h
     ·grind
     ·obtain⟨j,hj⟩:=hv;have hn':((bX m v).map (·.1)).Nodup:=(List.filter_sublist.map _).nodup hn;refine ih _ _ (IY A _ _ _ hn') ?_ h;have key:∀(l:List aD)(m':vL),(∀x∈l,P x/\x.t.toNat=v)->(∀v' d',aB m' v'=some d'->∃j,Way Q u v' d' j)->∀v' d',aB (ir A (v::S) d m' l) v'=some d'->∃j,Way Q u v' d' j:=by
       intro l;induction l with
       |nil=>intro m' _ YF v' d' h;exact YF v' d' h
       |cons x l ihl=>
         intro m' hl YF v' d' h;unfold ir at h;rw[List.foldl_cons]at h;refine ihl _ (fun y hy=>hl y (by grind)) ?_ v' d' h;intro v2 d2 h2;split at h2
         ·rename_i hc
          have hw:∃j,Way Q u x.h.toNat (d+x.x.toNat) j:=by
           obtain⟨g1,g2⟩:=hl x ai;rw[<- g2]at hj;exact⟨_,hj.trans (.one (hP x g1 hc.2.2))⟩
          unfold nz at h2;have hput:∀v2 d2,aB (aS m' x.h.toNat (d+x.x.toNat)) v2=some d2->∃j,Way Q u v2 d2 j:=fun v2 d2 h2=>by
           grind [ay]
          grind
         grind
      refine key (E v) (bX m v) (hE v) fun v' d' h'=>?_;grind [cD]
end
section
variable {es:List aD} {vs:List cj} {a b s k:Nat}
theorem Uy(h:Way (·∈aC false (ew es (az es vs))) a b s k):∃m,Way (·∈aC false es) a b s m:=by
 refine h.map fun x hx=>?_;have hx:=(eB.1 hx).1;unfold ew at hx;rcases List.mem_append.1 hx with h | h
 ·exact⟨1,.one (vz.1 h).1⟩
 ·obtain⟨v,hv,h⟩:=List.mem_flatMap.1 h;unfold iu at h;obtain⟨p,hp,q,hq,rfl,-,-,-,hs,-⟩:=NG h;obtain⟨h1,h2⟩:=tG.1 hp;obtain⟨h3,h4⟩:=lD.1 hq;have e:(UInt64.ofNat (p.x.toNat+q.x.toNat)).toNat=p.x.toNat+(q.x.toNat+0):=by grind [UInt64.toNat_ofNat']
  have hvv:(UInt32.ofNat v).toNat=v:=by rw[UInt32.toNat_ofNat',<- h2];simp
  have g:Way (·∈aC false es) p.h.toNat q.h.toNat (q.x.toNat+0) 1:=.cons h3 (h4.trans (hvv.trans h2.symm)) (.nil _);refine⟨2,?_⟩;show Way _ p.t.toNat q.h.toNat (UInt64.ofNat (p.x.toNat+q.x.toNat)).toNat 2;rw[e];exact .cons h1 rfl g
theorem JH{ch:List Nat}{x:aD}(h:x∈ew es ch)(hl:x.t≠x.h):∃y∈aC false (ew es ch),y.t=x.t/\y.h=x.h/\y.x.toNat<=x.x.toNat:=by
 obtain⟨y,hy,hs⟩:=(bL false (ew es ch)).all x h hl;refine⟨y,hy,hs.1,hs.2,?_⟩;grind [eB,same.symm,rk]
theorem Uz:∀(k a b s:Nat),Way (·∈aC false es) a b s k->a ∉ az es vs->b ∉ az es vs->s<9223372036854775808->∃t m,t<=s/\Way (·∈aC false (ew es (az es vs))) a b t m:=by
 intro k;induction k using Nat.strongRecOn with
 |_ k ih=>
   intro a b s h ha hb hs;cases h with
   |nil=>exact⟨0,0,Nat.le_refl _,.nil _⟩
   | @cons x _ _ s1 k1 hx hxa h=>
     subst hxa;have Y4:∀x∈aC false es,x.t.toNat ∉ az es vs->x.h.toNat ∉ az es vs->∃t m,t<=x.x.toNat/\Way (·∈aC false (ew es (az es vs))) x.t.toNat x.h.toNat t m:=fun x hx h1 h2=>by
      obtain⟨y,hy,e1,e2,e3⟩:=JH (es:=es) (ch:=az es vs) (x:=x) (by grind [ew,vz]) (eB.1 hx).2.1;refine⟨_,1,e3,?_⟩;rw[<- e1,<- e2];exact .one hy
     by_cases hc:x.h.toNat∈az es vs
     ·cases h with
      |nil=>grind
      | @cons y _ _ s2 k2 hy hyt h=>
        have hw:y.h.toNat ∉ az es vs:=fun hcy=>lF hc hcy (rp.2 ⟨y,hy,.inl ⟨hyt,rfl⟩⟩);obtain⟨t2,m2,oJ,hw2⟩:=ih k2 af _ _ _ h hw hb af;by_cases huw:x.t.toNat=y.h.toNat
        ·grind
        ·have hpq:∃t m,t<=x.x.toNat+y.x.toNat/\Way (·∈aC false (ew es (az es vs))) x.t.toNat y.h.toNat t m:=by
          have hv:(UInt32.ofNat x.h.toNat).toNat=x.h.toNat:=by simp
          cases hcut:iT (aX es) (fun w=>decide (w∈az es vs)) (UInt32.ofNat x.h.toNat) x y with
          |some z=>
            have hz:z∈ew es (az es vs):=by
             grind [ew,iu,nA,tG,lD]
            unfold iT at hcut;simp only at hcut;split at hcut
            ·grind
            ·have hcut:=Option.some.inj hcut;subst hcut;obtain⟨w,rz,e1,e2,e3⟩:=JH hz (fun e=>huw (by grind));refine⟨w.x.toNat,1,?_,?_⟩
             ·grind [UInt64.toNat_ofNat']
             grind [Way.one]
          |none=>
            unfold iT at hcut;simp only at hcut;split at hcut
            ·rename_i hd
             rw[hv]at hd;rcases hd with hd | hd | hd | hd |⟨z,hz,hz1,hz2⟩| hd
             ·omega
             ·grind
             ·grind
             ·omega
             ·grind [lD]
             ·have hst:∃d j,d<=x.x.toNat+y.x.toNat/\Way (fun z=>z∈aC false es/\z.h.toNat ∉ az es vs) x.t.toNat y.h.toNat d j:=by
               refine Ux (P:=(·∈aC false es)) (fun v z hz=>lD.1 hz) (fun z h1 h2=>⟨h1,?_⟩) 16 _ [] ai (fun v' d' h'=>?_) hd
               ·grind
               ·simp only[aB,List.find?_cons,List.find?_nil]at h';split at h'
                ·rename_i e
                 have e:x.t.toNat=v':=by grind
                 cases h';rw[<- e];exact⟨0,.nil _⟩
                grind
              obtain⟨d,j,mO,Kw⟩:=hst;have gen:∀a b s k,Way (fun z=>z∈aC false es/\z.h.toNat ∉ az es vs) a b s k->a ∉ az es vs->∃t m,t<=s/\Way (·∈aC false (ew es (az es vs))) a b t m:=by
               intro a b s k hw;induction hw with
               |nil=>intro _;exact⟨0,0,Nat.le_refl _,.nil _⟩
               | @cons z _ _ _ _ hz ht _ ihz=>
                 intro hza;subst ht;obtain⟨t1,m1,h1,h2⟩:=Y4 z hz.1 hza hz.2;obtain⟨t2,m2,h3,h4⟩:=ihz hz.2;exact⟨_,_,af,h2.trans h4⟩
              grind
            grind
         obtain⟨t1,m1,h1,h2⟩:=hpq;exact⟨_,_,af,h2.trans hw2⟩
     ·obtain⟨t1,m1,h1,h2⟩:=Y4 x hx ha hc;obtain⟨t2,m2,h3,h4⟩:=ih k1 af _ _ _ h hc hb af;exact⟨_,_,af,h2.trans h4⟩
end
end
section
open Go.RowKit Go.Maps
abbrev yQ:Nat:=9223372036854775808
def gT(f:Nat->Nat)(x:aD):Nat->Nat:=
 if f x.t.toNat=yQ\/yQ-f x.t.toNat<=x.x.toNat then f
 else if f x.t.toNat+x.x.toNat<f x.h.toNat then fun v=>if v=x.h.toNat then f x.t.toNat+x.x.toNat else f v
 else f
def iI(l:List aD)(f:Nat->Nat):Nat->Nat:=l.foldl gT f
def gl(l:List aD):Nat->(Nat->Nat)->Nat->Nat
 |0,f=>f
 |k+1,f=>gl l k (iI l f)
def fV(n:Nat)(l:List aD)(a:Nat):Nat->Nat:=gl l n fun v=>if v=a then 0 else yQ
theorem JI{l:List aD}{f:Nat->Nat}(h:iI l f=f)(k:Nat):gl l k f=f:=by
 induction k with
 |zero=>rfl
 |succ k ih=>rw[gl,h,ih]
theorem xT{l:List aD}(j k:Nat)(f:Nat->Nat):gl l (j+k) f=gl l k (gl l j f):=by
 induction j generalizing f with
 |zero=>rw[Nat.zero_add];rfl
 |succ j ih=>rw[show j+1+k=(j+k)+1 by omega,gl,ih];rfl
theorem UA(f:Nat->Nat)(x:aD)(v:Nat):gT f x v<=f v:=by
 unfold gT;split
 ·exact Nat.le_refl _
 ·split
  ·dsimp only;split
   ·subst_vars;omega
   ·exact Nat.le_refl _
  ·exact Nat.le_refl _
theorem zE(l:List aD)(f:Nat->Nat)(v:Nat):iI l f v<=f v:=by
 unfold iI;induction l generalizing f with
 |nil=>exact Nat.le_refl _
 |cons x l ih=>exact Nat.le_trans (ih _) (UA f x v)
theorem JJ(l:List aD)(k:Nat)(f:Nat->Nat)(v:Nat):gl l k f v<=f v:=by
 induction k generalizing f with
 |zero=>exact Nat.le_refl _
 |succ k ih=>exact Nat.le_trans (ih _) (zE l f v)
theorem ME{f g:Nat->Nat}(h:∀v,g v<=f v)(x:aD){q:Nat}(hq:f x.t.toNat<=q)(hs:q+x.x.toNat<yQ):gT g x x.h.toNat<=q+x.x.toNat:=by
 have:=h x.t.toNat;unfold gT;rw[if_neg af];split
 ·dsimp only;rw[if_pos rfl];omega
 ·omega
theorem PX{l:List aD}{x:aD}(hx:x∈l){f:Nat->Nat}{q:Nat}(hq:f x.t.toNat<=q)(hs:q+x.x.toNat<yQ):iI l f x.h.toNat<=q+x.x.toNat:=by
 obtain⟨l1,l2,rfl⟩:=List.append_of_mem hx;unfold iI;rw[List.foldl_append,List.foldl_cons];exact Nat.le_trans (zE l2 _ _) (ME (f:=f) (zE l1 f) x hq hs)
inductive Path (P:aD->Prop) (b:Nat):List Nat->Nat->Prop
 |nil:Path P b [b] 0
 |cons {x:aD} {c s:Nat} {vs:List Nat}:P x->x.h.toNat=c->Path P b (c::vs) s->Path P b (x.t.toNat::c::vs) (x.x.toNat+s)
theorem MF{l:List aD}{b s:Nat}{vs:List Nat}(h:Path (·∈l) b vs s):∀(f:Nat->Nat)(q:Nat),(∀v,vs.head? = some v->f v<=q)->q+s<yQ->gl l (vs.length-1) f b<=q+s:=by
 induction h with
 |nil=>intro f q h1 _;exact h1 b rfl
 | @cons x c s vs hx hc h ih=>
   intro f q h1 h2;have h3:=PX hx (h1 _ rfl) af;rw[hc]at h3;have:=ih (iI l f) (q+x.x.toNat) (fun v hv=>by cases hv;exact h3) af;rw[<- Nat.add_assoc];exact this
theorem Path.cut{P:aD->Prop}{b s a:Nat}{vs:List Nat}(h:Path P b vs s)(ha:a∈vs):∃ws t,t<=s/\Path P b (a::ws) t/\(a::ws) <:+ vs:=by
 induction h with
 |nil=>
   rw[List.mem_singleton.1 ha];exact⟨[],0,Nat.le_refl _,.nil,List.suffix_refl _⟩
 | @cons x c s vs hx hc h ih=>
   rcases List.mem_cons.1 ha with rfl | ha
   ·exact⟨_,_,Nat.le_refl _,.cons hx hc h,List.suffix_refl _⟩
   ·obtain⟨ws,t,h1,h2,h3⟩:=ih ha;exact⟨ws,t,af,h2,h3.trans (List.suffix_cons _ _)⟩
theorem Way.path{P:aD->Prop}{a b s k:Nat}(h:Way P a b s k):∃vs t,t<=s/\Path P b (a::vs) t/\(a::vs).Nodup/\∀v∈vs,∃x,P x/\x.h.toNat=v:=by
 induction h with
 |nil a=>exact⟨[],0,Nat.le_refl _,.nil,ai,ai⟩
 | @cons x a b s k hx ht _ ih=>
   subst ht;obtain⟨vs,t,h1,h2,h3,h4⟩:=ih;have h5:∀v∈x.h.toNat::vs,∃x,P x/\x.h.toNat=v:=fun v hv=>by
    rcases List.mem_cons.1 hv with rfl | hv
    ·exact⟨x,hx,rfl⟩
    ·exact h4 v hv
   by_cases hm:x.t.toNat∈x.h.toNat::vs
   ·obtain⟨ws,u,g1,g2,g3⟩:=h2.cut hm;exact⟨ws,u,af,g2,g3.sublist.nodup h3,fun v hv=>h5 v (g3.subset (List.mem_cons_of_mem _ hv))⟩
   ·exact⟨_,_,af,.cons hx rfl h2,List.nodup_cons.2 ⟨hm,h3⟩,h5⟩
theorem XE{n:Nat}{l:List aD}(hl:∀x∈l,x.h.toNat<n){a b s k:Nat}(ha:a<n)(h:Way (·∈l) a b s k)(hs:s<yQ):fV n l a b<=s:=by
 obtain⟨vs,t,h1,h2,h3,h4⟩:=h.path;have hlen:(a::vs).length<=n:=by
  have:=oX (l₂:=List.range n) h3 (fun v hv=>by
   rw[List.mem_range];rcases List.mem_cons.1 hv with rfl | hv
   ·exact ha
   ·obtain⟨x,hx,rfl⟩:=h4 v hv;exact hl x hx)
  rwa [List.length_range]at this
 have h5:=MF h2 (fun v=>if v=a then 0 else yQ) 0 (fun v hv=>by cases hv;simp) af;unfold fV;rw[show n=((a::vs).length-1)+(n-((a::vs).length-1)) by omega,xT];exact Nat.le_trans (JJ _ _ _ _) af
def JK(l:List aD)(a:Nat)(f:Nat->Nat):Prop:=∀v,f v<=yQ/\(f v<yQ->∃k,Way (·∈l) a v (f v) k)
theorem Way.snoc{P:aD->Prop}{a b s k:Nat}(h:Way P a b s k){x:aD}(hx:P x)(hb:x.t.toNat=b):Way P a x.h.toNat (s+x.x.toNat) (k+1):=by
 have:=h.trans (hb▸Way.one hx);exact this
theorem PY{l:List aD}{a:Nat}{f:Nat->Nat}(h:JK l a f){x:aD}(hx:x∈l):JK l a (gT f x):=by
 unfold gT;split
 ·exact h
 ·split
  ·intro v;dsimp only;split
   ·subst_vars
    have h1:=h x.t.toNat;have h2:f x.t.toNat<yQ:=by omega
    obtain⟨k,hk⟩:=h1.2 h2;exact⟨af,fun _=>⟨_,hk.snoc hx rfl⟩⟩
   ·exact h v
  ·exact h
theorem UB{l m:List aD}{a:Nat}{f:Nat->Nat}(h:JK l a f)(hm:∀x∈m,x∈l):JK l a (iI m f):=by
 unfold iI;induction m generalizing f with
 |nil=>exact h
 |cons x m ih=>exact ih (PY h (hm x ai)) fun y hy=>hm y (by simp[hy])
theorem PZ{l:List aD}{a:Nat}(k:Nat){f:Nat->Nat}(h:JK l a f):JK l a (gl l k f):=by
 induction k generalizing f with
 |zero=>exact h
 |succ k ih=>exact ih (UB h fun _ h=>h)
theorem ru(n:Nat)(l:List aD)(a:Nat):JK l a (fV n l a):=
 PZ n fun v=>by
  split
  ·subst_vars;exact⟨af,fun _=>⟨0,.nil _⟩⟩
  ·exact⟨Nat.le_refl _,fun h=>absurd h (Nat.lt_irrefl _)⟩
theorem XF{n:Nat}{l m:List aD}(hl:∀x∈l,x.h.toNat<n)(hm:∀x∈m,x.h.toNat<n){a b:Nat}(ha:a<n)(h1:∀s k,Way (·∈l) a b s k->s<yQ->∃t j,t<=s/\Way (·∈m) a b t j)(h2:∀s k,Way (·∈m) a b s k->s<yQ->∃t j,t<=s/\Way (·∈l) a b t j):fV n m a b=fV n l a b:=by
 obtain⟨e1,e2⟩:=ru n l a b;obtain⟨e3,e4⟩:=ru n m a b;have key:∀{l m:List aD},(∀x∈m,x.h.toNat<n)->JK l a (fV n l a)->(∀s k,Way (·∈l) a b s k->s<yQ->∃t j,t<=s/\Way (·∈m) a b t j)->fV n l a b<yQ->fV n m a b<=fV n l a b:=fun hm hs h hlt=>by
  obtain⟨k,hk⟩:=(hs b).2 hlt;obtain⟨t,j,ht,hw⟩:=h _ _ hk hlt;exact Nat.le_trans (XE hm ha hw af) ht
 by_cases JS:fV n l a b<yQ
 ·have:=key hm (ru n l a) h1 JS;have:=key hl (ru n m a) h2 af;omega
 ·by_cases ej:fV n m a b<yQ
  ·have:=key hl (ru n m a) h2 ej;omega
  ·omega
theorem UC:(prog.info? 62).map (fun i=>(i.zero,i.size,i.bytes))=some (some (.int .u64 0),1,8):=by kernel_rfl
theorem UD(W:World)(V:Nat)(h:V<=1000):(Instr.makeSlice 75 (.int .i64 (V:Int)) (.int .i64 (V:Int))).run prog W=.ok (.slice (some ⟨W.heap.size,0,none⟩) V V) (W.alloc (.cells (madeCells #[.int .u64 0] (V*1)) 62)):=by
 obtain⟨i0,tK,hz0,hz1,hz2⟩:=info_parts UC;have hr:=run_make (P:=prog) W 75 62 i0 (.int .u64 0) Tryz.underlying75 tK hz0 .i64 .i64 V V af af (by rw[hz2];omega) af;simp only[Int.toNat_natCast]at hr;rw[hz1]at hr;exact hr
def lG(f:Nat->Nat)(v:Nat):Value:=.int .u64 (f v:Int)
abbrev lg:au:=fun _=>none
def ry(w:World)(N:Nat)(l:List aD)(a:Nat)(e:Ending)(w':World):Prop:=
 ∃g,e=.returned (.slice (some ⟨g,0,none⟩) N N)/\Below w.heap.size w w'/\w.heap.size<=g/\cq w' lg g N (lG (fV N l a))
theorem Ej{w:World}{ev:Value}{l:List aD}(he:kC w ev l)(N a:Nat)(hN:N<=1000)(ha:a<N)(hl:∀x∈l,x.t.toNat<N/\x.h.toNat<N)(hlen:l.length<=1000000) :
 Calls prog 32 #[.int .i64 (N:Int),ev,.int .i64 (a:Int)] w (ry w N l a):=by
 obtain⟨ea,ec,rfl,-⟩:=id he;have HC:=ae (oV he).2;obtain⟨M,hM⟩:∃M,M=l.length:=⟨_,rfl⟩;rw[<- hM]at hlen ⊢;have H:=ae (show _/\_/\_/\_/\_ from⟨hN,ha,hl,hlen,hM⟩);obtain⟨PST,hP⟩:∃P,P=ry w N l a:=⟨_,rfl⟩;have HP:Hid (∀g w',Below w.heap.size w w'->w.heap.size<=g->cq w' lg g N (lG (fV N l a))->PST (.returned (.slice (some ⟨g,0,none⟩) N N)) w'):=ae (fun g w' h1 h2 h3=>by rw[hP];exact⟨g,rfl,h1,h2,h3⟩);rw[<- hP];have tL:=UD w N hN;obtain⟨W0,hW0⟩:∃W,W=w.alloc (.cells (madeCells #[.int .u64 0] (N*1)) 62):=⟨_,rfl⟩;obtain⟨g,hg⟩:∃x,x=w.heap.size:=⟨_,rfl⟩;have Yf:Hid (Below g w W0/\cq W0 lg g N (lG fun v=>if v<0 then yQ else 0)):=ae (by
  rw[hW0,hg];exact⟨ak.alloc (Nat.le_refl _) _,(JG rfl _ _ _).congr fun i _=>by unfold lG;dsimp only;rw[if_neg af];rfl⟩)
 have HW0:Hid (g=w.heap.size):=ae hg;rw[<- hW0,<- hg]at tL;clear hN ha hl hlen hM hP he hW0 hg;go_enter func32,ntmps32;go_wp2_with fail;clear tL;go_loopw [8] (fun vi W=>∃i:Nat,vi=.int .i64 (i:Int)/\i<=N/\Hid (Below g w W/\cq W lg g N (lG fun v=>if v<i then yQ else 0))) (fun vi _=>N-(intOf vi).toNat)
 case atStart=>exact⟨0,rfl,Nat.zero_le _,Yf⟩
 case round=>
  obtain⟨i,rfl,hi,HX⟩:=hrel;generalize wr=W1 at *;clear Yf;by_cases hlt:i<N
  ·as_aux_lemma=>
   have KP:(i:Int)<(N:Int):=by omega
   have wi:IntKind.i64.wrap ((i:Int)+1)=((i+1:Nat):Int):=by have:=H.out.1;rw[aw]<;>omega
   have UE:=ae hlt;obtain⟨zz,c0⟩:∃z:Nat,W1.cell? ⟨g,i,none⟩=some (.int .u64 (z:Int)):=⟨_,HX.out.2.cell hlt⟩;have f0:=HX.out.2.frozen;obtain⟨W2,hW2⟩:∃W,W=W1.setCell ⟨g,i,none⟩ (.int .u64 9223372036854775808):=⟨_,rfl⟩;have kZ:Hid (Below g w W2/\cq W2 lg g N (lG fun v=>if v<i+1 then yQ else 0)):=ae (by
    rw[hW2];refine⟨HX.out.1.setCell (Nat.le_refl _) _,(HX.out.2.put i _).congr fun j _=>?_⟩;unfold lG;dsimp only;by_cases e:j=i
    ·rw[if_pos e,if_pos af];rfl
    ·rw[if_neg e];by_cases e2:j<i
     ·rw[if_pos e2,if_pos af]
     ·rw[if_neg e2,if_neg af])
   clear hlt hi HX;go_wp2;rw[<- hW2];exact⟨⟨i+1,rfl,UE.out,kZ⟩,by have:=UE.out;simp[intOf];omega⟩
  ·have KP:¬(i:Int)<(N:Int):=by omega
   have ha0:¬(a:Int)<0:=by omega
   have haN:¬(a:Int) >= (N:Int):=by have:=H.out.2.1;omega
   have haL:(a:Int)<(N:Int):=by have:=H.out.2.1;omega
   obtain⟨zz,c0⟩:∃z:Nat,W1.cell? ⟨g,a,none⟩=some (.int .u64 (z:Int)):=⟨_,HX.out.2.cell H.out.2.1⟩;have f0:=HX.out.2.frozen;obtain⟨W2,hW2⟩:∃W,W=W1.setCell ⟨g,a,none⟩ (.int .u64 0):=⟨_,rfl⟩;obtain⟨f0D,XG⟩:∃f:Nat->Nat,f=fun v=>if v=a then 0 else yQ:=⟨_,rfl⟩;have kZ:Hid (Below g w W2/\cq W2 lg g N (lG (gl l 0 f0D))):=ae (by
    rw[hW2,XG];refine⟨HX.out.1.setCell (Nat.le_refl _) _,(HX.out.2.put a _).congr fun j hj=>?_⟩;unfold lG gl;dsimp only;by_cases e:j=a
    ·rw[if_pos e,if_pos e];rfl
    ·rw[if_neg e,if_neg e,if_pos af])
   have HF0:Hid (∀v,f0D v<=yQ):=ae fun v=>by rw[XG];dsimp only;split<;>omega
   have HD:Hid (∀f,gl l N f0D=f->fV N l a=f):=ae fun f h=>by rw[<- h,XG];rfl
   clear hlt hi HX XG;go_upto_region 9 with fail
   rw[<- hW2];clear hW2 c0 f0;go_wp2_with fail;go_loopw [9] (fun vt W=>∃t:Nat,vt=.int .i64 (t:Int)/\t<=N/\Hid (Below g w W/\cq W lg g N (lG (gl l t f0D)))) (fun vt _=>N-(intOf vt).toNat)
   case atStart=>exact⟨0,rfl,Nat.zero_le _,kZ⟩
   case round=>
    obtain⟨t,rfl,ht,HXT⟩:=hrel;generalize wr=W3 at *;clear kZ;by_cases zo:t<N
    ·have alL:(t:Int)<(N:Int):=by omega
     have wt:IntKind.i64.wrap ((t:Int)+1)=((t+1:Nat):Int):=by have:=H.out.1;rw[aw]<;>omega
     obtain⟨f,hf⟩:∃f,f=gl l t f0D:=⟨_,rfl⟩;have HF:Hid (f=gl l t f0D/\t+1<=N):=ae ⟨hf,zo⟩;rw[<- hf]at HXT;clear hf zo ht;go_wp2_with fail;go_loopw [10,11] (fun vb vi W=>∃(b:Bool)(i:Nat),vb=.bool b/\vi=.int .i64 (i:Int)/\i<=M/\Hid (Below g w W/\cq W lg g N (lG (iI (l.take i) f))/\(b=true->iI (l.take i) f=f))) (fun _ vi _=>M-(intOf vi).toNat)
     case atStart=>exact⟨true,0,rfl,rfl,Nat.zero_le _,ae ⟨HXT.out.1,HXT.out.2,fun _=>rfl⟩⟩
     case round=>
      obtain⟨b,i,rfl,rfl,hi,HX⟩:=hrel;generalize wr=W4 at *;clear HXT;by_cases mU:i<M
      ·have alM:(i:Int)<(M:Int):=by omega
       have wi:IntKind.i64.wrap ((i:Int)+1)=((i+1:Nat):Int):=by have:=H.out;rw[aw]<;>omega
       obtain⟨x,hx⟩:∃x,l[i]? = some x:=⟨_,List.getElem?_eq_getElem (by rw[<- H.out.2.2.2.2];exact mU)⟩;obtain⟨eb,off,rfl,q0,q1,q2,q3⟩:=HC.out _ (HX.out.1.mono (by rw[HW0.out];exact Nat.le_refl _)) i x hx;have UE:=ae mU;obtain⟨F,hF⟩:∃F,F=iI (l.take i) f:=⟨_,rfl⟩;have qT:Hid (iI (l.take (i+1)) f=gT F x):=ae (by rw[hF,rM hx];unfold iI;rw[List.foldl_append];rfl);rw[<- hF]at HX;have HFF:Hid (∀v,F v<=yQ):=ae (fun v=>by rw[hF];exact Nat.le_trans (zE _ _ _) (by rw[HF.out.1];exact Nat.le_trans (JJ _ _ _ _) (HF0.out v)));have El:=H.out.2.2.1 x (List.mem_of_getElem? hx);obtain⟨W5,hW5⟩:∃W,W=W4.alloc (.cells #[.int .u32 (x.t.toNat:Int),.int .u32 (x.h.toNat:Int),.int .u64 (x.x.toNat:Int),.int .u32 (x.m.toNat:Int)] 64):=⟨_,rfl⟩;obtain⟨bx,Gc⟩:∃z,z=W4.heap.size:=⟨_,rfl⟩;have qE:Hid (Below g w W5/\cq W5 lg g N (lG F)/\(b=true->F=f)/\g≠bx/\W5.heap[bx]? = some (.cells #[.int .u32 (x.t.toNat:Int),.int .u32 (x.h.toNat:Int),.int .u64 (x.x.toNat:Int),.int .u32 (x.m.toNat:Int)] 64)):=ae (by
        have:=HX.out.2.1.2.1;rw[hW5,Gc];exact⟨HX.out.1.alloc af _,HX.out.2.1.below aj,HX.out.2.2,af,heap_alloc_new _ _⟩)
       clear hx mU hi HX hF;go_upto_region 17 with fail
       rw[<- hW5,<- Gc];clear hW5 Gc q0 q1 q2 q3;have k5:=qE.out.2.2.2.2;have a0:W5.cell? ⟨bx,0,none⟩=some (.int .u32 (x.t.toNat:Int)):=by rw[ar k5];rfl
       have a1:W5.cell? ⟨bx,1,none⟩=some (.int .u32 (x.h.toNat:Int)):=by rw[ar k5];rfl
       have a2:W5.cell? ⟨bx,2,none⟩=some (.int .u64 (x.x.toNat:Int)):=by rw[ar k5];rfl
       have c1:W5.cell? ⟨g,x.t.toNat,none⟩=some (.int .u64 (F x.t.toNat:Int)):=qE.out.2.1.cell El.1;have c2:W5.cell? ⟨g,x.h.toNat,none⟩=some (.int .u64 (F x.h.toNat:Int)):=qE.out.2.1.cell El.2;have f0:=qE.out.2.1.frozen;have bt:(x.t.toNat:Int)<(N:Int):=by omega
       have bh:(x.h.toNat:Int)<(N:Int):=by omega
       obtain⟨ft,Vz⟩:∃z,z=F x.t.toNat:=⟨_,rfl⟩;obtain⟨fh,hfh⟩:∃z,z=F x.h.toNat:=⟨_,rfl⟩;rw[<- Vz]at c1;rw[<- hfh]at c2;have HXE:Hid (∀F',iI (l.take (i+1)) f=F'->∀(b':Bool),(b'=true->F'=f)->∀W',Below g w W'->cq W' lg g N (lG F')->Below g w W'/\cq W' lg g N (lG (iI (l.take (i+1)) f))/\(b'=true->iI (l.take (i+1)) f=f)):=ae (fun F' h b' hb W' h1 h2=>by rw[h];exact⟨h1,h2,hb⟩);have Gd:Hid (ft=F x.t.toNat/\fh=F x.h.toNat/\ft<=9223372036854775808):=ae ⟨Vz,hfh,by rw[Vz];exact HFF.out _⟩;have Ny:Hid (∀W',Below W5.heap.size W5 W'->gT F x=F->Below g w W'/\cq W' lg g N (lG (iI (l.take (i+1)) f))/\(b=true->iI (l.take (i+1)) f=f)):=ae (fun W' h hr=>HXE.out F (by rw[qT.out,hr]) b qE.out.2.2.1 W' (qE.out.1.trans (h.mono (by have:=qE.out.2.1.2.1;omega))) (qE.out.2.1.below h));clear Vz hfh k5 El;by_cases e1:ft=9223372036854775808
       ·as_aux_lemma=>
        have hz:((ft:Int) == 9223372036854775808)=true:=by simp[e1]
        have HR:Hid (gT F x=F):=ae (by unfold gT;rw[if_pos (.inl (by rw[<- Gd.out.1];exact e1))]);clear e1;go_quiet (fail)
        go_wp2;exact⟨⟨b,i+1,rfl,rfl,UE.out,ae (Ny.out _ (by first | exact Below.refl _ _ | exact below_drewN ak _) HR.out)⟩,by have:=UE.out;simp[intOf];omega⟩
       ·have hz:((ft:Int) == 9223372036854775808)=false:=by have:=Gd.out;simp;omega
        obtain⟨S,hS⟩:∃S,S=9223372036854775808-ft:=⟨_,rfl⟩;have ar7:=Gd.out.2.2;have wS:IntKind.u64.wrap (9223372036854775808-(ft:Int))=(S:Int):=(congrArg _ (by omega:9223372036854775808-(ft:Int)=(S:Int))).trans (fW _ af af);by_cases e2:S<=x.x.toNat
        ·as_aux_lemma=>
         have yR:decide ((x.x.toNat:Int) >= (S:Int))=true:=by simp;omega
         have alP:decide (S<=x.x.toNat)=true:=by simp;omega
         have HR:Hid (gT F x=F):=ae (by unfold gT;rw[if_pos (.inr (by have:=Gd.out.1;show 9223372036854775808-F x.t.toNat<=x.x.toNat;omega))]);clear e1 e2 hS;go_quiet (fail)
         go_wp2;exact⟨⟨b,i+1,rfl,rfl,UE.out,ae (Ny.out _ (by first | exact Below.refl _ _ | exact below_drewN ak _) HR.out)⟩,by have:=UE.out;simp[intOf];omega⟩
        ·have yR:decide ((x.x.toNat:Int) >= (S:Int))=false:=by simp;omega
         have alP:decide (S<=x.x.toNat)=false:=by simp;omega
         obtain⟨q,hq⟩:∃q,q=ft+x.x.toNat:=⟨_,rfl⟩;have wq:IntKind.u64.wrap ((ft:Int)+(x.x.toNat:Int))=(q:Int):=(congrArg _ (by omega:(ft:Int)+(x.x.toNat:Int)=(q:Int))).trans (fW _ af (by have:=Gd.out;omega));by_cases e3:q<fh
         ·as_aux_lemma=>
          have alQ:decide (q<fh)=true:=by simp;omega
          have HR:Hid (∀W',W'.heap=(W5.setCell ⟨g,x.h.toNat,none⟩ (.int .u64 (q:Int))).heap->W'.os=W5.os->W'.tape=W5.tape->W'.output=W5.output->Below g w W'/\cq W' lg g N (lG (iI (l.take (i+1)) f))/\(false=true->iI (l.take (i+1)) f=f)):=ae (fun W' h1 h2 h3 h4=>by
           obtain⟨k1,k2,-⟩:=qE.out;have hb:Below (W5.setCell ⟨g,x.h.toNat,none⟩ (.int .u64 (q:Int))).heap.size (W5.setCell ⟨g,x.h.toNat,none⟩ (.int .u64 (q:Int))) W':=⟨h2,h3,h4,by rw[h1];exact Nat.le_refl _,fun k _=>by rw[h1]⟩;have hs:=k1.setCell (p:=⟨g,x.h.toNat,none⟩) (Nat.le_refl _) (.int .u64 (q:Int));refine HXE.out _ qT.out false (fun h=>by cases h) W' (hs.trans (hb.mono (by have:=k2.2.1;simp;try omega))) (((k2.put x.h.toNat _).below hb).congr fun j _=>?_);have g1:=Gd.out;have hrel:gT F x=fun v=>if v=x.h.toNat then ft+x.x.toNat else F v:=by unfold gT yQ;rw[<- g1.1,<- g1.2.1,if_neg af,if_pos af]
           rw[hrel];unfold lG;dsimp only;by_cases e:j=x.h.toNat
           ·rw[if_pos e,if_pos e,hq]
           ·rw[if_neg e,if_neg e])
          clear e1 e2 e3 hS hq;go_quiet (fail)
          go_wp2_with fail;go_quiet (fail)
          go_wp2_with fail;go_region
          go_wp2;exact⟨⟨false,i+1,rfl,rfl,UE.out,ae (HR.out _ rfl rfl rfl rfl)⟩,by have:=UE.out;simp[intOf];omega⟩
         ·as_aux_lemma=>
          have alQ:decide (q<fh)=false:=by simp;omega
          have HR:Hid (gT F x=F):=ae (by unfold gT yQ;rw[<- Gd.out.1,<- Gd.out.2.1,if_neg af,if_neg af]);clear e1 e2 e3 hS hq;go_quiet (fail)
          go_wp2_with fail;go_quiet (fail)
          go_wp2;exact⟨⟨b,i+1,rfl,rfl,UE.out,ae (Ny.out _ (by first | exact Below.refl _ _ | exact ak.drew | exact below_drewN (below_drewN ak _) _ | exact below_drewN ak _) HR.out)⟩,by have:=UE.out;simp[intOf];omega⟩
      ·have alM:¬(i:Int)<(M:Int):=by omega
       have HT:Hid (l.take i=l):=ae (List.take_of_length_le (by have:=H.out.2.2.2.2;omega));cases b
       ·as_aux_lemma=>
        have HE:Hid (Below g w W4/\cq W4 lg g N (lG (gl l (t+1) f0D))):=ae ⟨HX.out.1,by
         have:=HX.out.2.1;rw[HT.out,HF.out.1]at this;rw[xT];exact this⟩
        clear hi mU HX;go_wp2;exact⟨⟨t+1,rfl,HF.out.2,HE⟩,by have:=HF.out.2;simp[intOf];omega⟩
       ·as_aux_lemma=>
        have HQ:=ae (HP.out g W4 (HW0.out▸HX.out.1) (by rw[HW0.out];exact Nat.le_refl _) (by
         have h1:=HX.out.2.2 rfl;have h2:=HX.out.2.1;rw[h1]at h2;rw[HT.out]at h1;rw[HD.out f (by rw[show N=t+(N-t) by have:=HF.out.2;omega,xT,<- HF.out.1,JI h1])];exact h2))
        clear hi mU HX;go_wp2;exact HQ.out
    ·as_aux_lemma=>
     have alL:¬(t:Int)<(N:Int):=by omega
     obtain rfl:t=N:=by omega
     have HQ:=ae (HP.out g W3 (HW0.out▸HXT.out.1) (by rw[HW0.out];exact Nat.le_refl _) (by rw[HD.out _ rfl];exact HXT.out.2));clear ht zo;go_wp2;exact HQ.out
def Y5(vs:List cj)(v:Nat):Prop:=∃x,vs[v]? = some x/\x.r=4294967295
structure vE(l es:List aD)(vs:List cj):Prop where
 old:∀a b s k,Way (·∈aC false es) a b s k->∃m,Way (·∈l) a b s m
 new:∀a b s k,Y5 vs a->Y5 vs b->Way (·∈l) a b s k->s<yQ->∃t m,t<=s/\Way (·∈aC false es) a b t m
theorem UF{l:List aD}{a b s k:Nat}(h:Way (·∈l) a b s k):∃t m,t<=s/\Way (·∈aC false l) a b t m:=by
 induction h with
 |nil a=>exact⟨0,0,Nat.le_refl _,.nil _⟩
 | @cons x a b s k hx ht _ ih=>
   obtain⟨t,m,h1,h2⟩:=ih;by_cases he:x.t=x.h
   ·rw[<- he,ht]at h2;exact⟨t,m,af,h2⟩
   ·obtain⟨y,hy,hs⟩:=(bL false l).all x hx he;have h3:=(eB.1 hy).2.2 x hx hs.symm;refine⟨_,_,?_,.cons hy (by rw[hs.1];exact ht) (by rw[hs.2];exact h2)⟩;unfold rk at h3;have:=y.m.toNat_lt;omega
theorem JL(l:List aD)(vs:List cj):vE l l vs:=
 ⟨fun _ _ _ _ h=>h.map fun _ hx=>⟨1,.one (eB.1 hx).1⟩,fun _ _ _ _ _ _ h _=>UF h⟩
theorem vE.next{l es:List aD}{vs:List cj}{N done gen:Nat}(h:vE l es vs)(fe:kN N es vs done)(hd:done+(az es vs).length<=1000) :
 vE l (aC false (ew es (az es vs))) (cS es vs done gen (az es vs)):=by
 have oG:∀v,Y5 (cS es vs done gen (az es vs)) v->Y5 vs v/\v ∉ az es vs:=by
  rintro v⟨y,hy,hr⟩;obtain⟨x,hx,⟨g1,rfl⟩|⟨-,-,rfl⟩|⟨g1,g2,-⟩⟩:=fe.abL hy
  ·exact absurd hr g1
  ·have hbl:below (az es vs) v<=(az es vs).length:=List.length_filter_le _ _;have e:=congrArg UInt32.toNat hr;dsimp only at e;rw[UInt32.toNat_ofNat',Nat.mod_eq_of_lt af]at e;have e2:(4294967295:UInt32).toNat=4294967295:=rfl;omega
  ·exact⟨⟨x,hx,g1⟩,g2⟩
 refine⟨fun a b s k hw=>?_,fun a b s k ha hb hw hs=>?_⟩
 ·rw[rP]at hw;obtain⟨m,hm⟩:=Uy hw;exact h.old _ _ _ _ hm
 ·obtain⟨ha1,ha2⟩:=oG a ha;obtain⟨hb1,hb2⟩:=oG b hb;obtain⟨t,m,h1,h2⟩:=h.new a b s k ha1 hb1 hw hs;obtain⟨u,j,h3,h4⟩:=Uz _ _ _ _ h2 ha2 hb2 (Nat.lt_of_le_of_lt h1 hs);rw[rP];exact⟨u,j,af,h4⟩
theorem vE.zj{l es:List aD}{vs:List cj}{n a b:Nat}(h:vE l es vs)(hl:∀x∈l,x.h.toNat<n)(he:∀x∈es,x.h.toNat<n)(ha:Y5 vs a)(hb:Y5 vs b)(han:a<n):fV n (aC false es) a b=fV n l a b:=
 XF hl (fun x hx=>he x (eB.1 hx).1) han (fun s k hw hs=>h.new a b s k ha hb hw hs) fun s k hw _=>by
  obtain⟨m,hm⟩:=h.old a b s k hw;exact⟨s,m,Nat.le_refl _,hm⟩
theorem JM(HW:aP){m:Nat}(zb:dZ m)(hm:2<=m)(w:World) :
 Calls prog 31 #[] w fun e w'=>e=.returned (.bool true)/\Below w.heap.size w w':=by
 go_enter func31,ntmps31;have kR:Hid (Below w.heap.size w (w.alloc (.cells #[.int .u32 0,.int .u32 1,.int .u64 1,.int .u32 0,.int .u32 1,.int .u32 2,.int .u64 1,.int .u32 0] 64))):=ae aj;have Yf:Hid (kC (w.alloc (.cells #[.int .u32 0,.int .u32 1,.int .u64 1,.int .u32 0,.int .u32 1,.int .u32 2,.int .u64 1,.int .u32 0] 64)) (.slice (some ⟨w.heap.size,0,none⟩) 2 2) [⟨0,1,1,0⟩,⟨1,2,1,0⟩]):=ae ⟨_,2,rfl,.inr ⟨w.heap.size,0,rfl,fun j x hx=>by
  match j,hx with
  |0,hx=>cases hx;simp
  |1,hx=>cases hx;simp
  |j+2,hx=>cases hx⟩⟩
 go_wp2_with fail;generalize w.alloc (.cells #[.int .u32 0,.int .u32 1,.int .u64 1,.int .u32 0,.int .u32 1,.int .u32 2,.int .u64 1,.int .u32 0] 64)=W0 at *;have hbg:=ae (yP HW zb 3 0 ag ag Yf.out (by rw[show 3%25=3 from rfl,Uo];exact hm));unfold F8 at hbg;refine hbg.out.mono ?_;rintro e w1⟨db,pb,o1,d1,L1,rfl,hh1,hg1⟩;rw[show 3%25=3 from rfl,Uo]at hg1;have abO:Held W0 w1 pb db 8 o1 d1 L1:=hh1;have JT:=ae hg1;have HH1:=ae abO;have jO:=ae (rS HW zb (alH abO hg1 m));unfold oZ at jO;rw[vB,Up,agy,Ur,XC]at jO;clear hh1 abO hg1 hbg;unfold ptrTo at *;go_wp2_with fail;refine jO.out.mono ?_;rintro e w2⟨d2,o2,L2,rfl,cT,-,hr2⟩;have CM:=ae (hr2 ag);have YA:=ae (HH1.out.moved cT (fun _ e=>e.elim));have hr1:=ae (rS HW zb (alI YA.out JT.out CM.out m));unfold oZ at hr1;rw[vC,Uq,agz,Us,XD]at hr1;clear cT hr2 jO;unfold ptrTo at *;go_wp2_with fail;refine hr1.out.mono ?_;rintro e w3⟨d3,o3,L3,rfl,eE,-,hr3⟩;have BS:=ae (hr3 ag);have Gk:=ae (YA.out.moved eE (fun _ e=>e.elim));have hr2:=ae (rS HW zb (alJ Gk.out JT.out CM.out BS.out m));unfold oZ at hr2;rw[vD]at hr2;clear eE hr3 hr1;unfold ptrTo at *;go_wp2_with fail;refine hr2.out.mono ?_;rintro e w4⟨d4,o4,L4,rfl,eX,hr4,-⟩;have HL:=ae (hr4 trivial);have R1:Hid (Below w.heap.size w w4):=ae (by
  obtain rfl:=HL.out;exact kR.out.trans ((Gk.out.moved eX (fun _ e=>e.elim)).below.mono kR.out.size))
 clear eX hr4 hr2;go_wp2;go_ret;exact⟨rfl,R1.out⟩
theorem cq.own{W:World}{o:au}{g N:Nat}{f:Nat->Value}(h:cq W lg g N f)(ho:o g=none):cq W o g N f:=⟨ho,h.2⟩
def BM(V A B a b dd dg:Nat)(vl:Value):Nat->Value->World->Prop
 |0,v,_=>v=.int .i64 (V:Int)
 |1,v,_=>v=vl
 |2,v,_=>v=.int .u8 (A:Int)
 |3,v,_=>v=.int .i64 (A:Int)
 |4,v,_=>v=.int .i64 (V:Int)
 |5,v,_=>v=.int .i64 (a:Int)
 |6,v,W=>∃g,v=.slice (some ⟨g,0,none⟩) V V/\W.cell? ⟨g,b,none⟩=some (.int .u64 (dd:Int))
 |7,v,_=>v=.int .u8 (B:Int)
 |8,v,_=>v=.int .i64 (B:Int)
 |9,v,_=>v=.int .i64 (V:Int)
 |10,v,_=>v=.int .i64 (b:Int)
 |11,v,W=>∃g,v=.pointer (some ⟨g,b,none⟩)/\W.cell? ⟨g,b,none⟩=some (.int .u64 (dd:Int))
 |12,v,_=>v=.int .u64 (dd:Int)
 |13,v,_=>v=.slice (some ⟨dg,0,none⟩) V V
 |14,v,_=>v=.int .u8 (B:Int)
 |15,v,_=>v=.int .i64 (B:Int)
 |16,v,_=>v=.int .i64 (V:Int)
 |17,v,_=>v=.int .i64 (b:Int)
 |18,v,_=>v=.pointer (some ⟨dg,b,none⟩)
 |19,v,_=>v=.int .u64 (dd:Int)
 |_+20,v,_=>v=.bool false
theorem JN{V A B a b dd dg:Nat}{vl:Value}(i:Nat)(v:Value)(w w':World)(hb:Below w.heap.size w w')(h:BM V A B a b dd dg vl i v w):BM V A B a b dd dg vl i v w':=by
 match i,h with
 |0,h=>exact h
 |1,h=>exact h
 |2,h=>exact h
 |3,h=>exact h
 |4,h=>exact h
 |5,h=>exact h
 |6,⟨g,e,h⟩=>exact⟨g,e,(hb.cell (World.block_lt_of_cell? _ _ h)).trans h⟩
 |7,h=>exact h
 |8,h=>exact h
 |9,h=>exact h
 |10,h=>exact h
 |11,⟨g,e,h⟩=>exact⟨g,e,(hb.cell (World.block_lt_of_cell? _ _ h)).trans h⟩
 |12,h=>exact h
 |13,h=>exact h
 |14,h=>exact h
 |15,h=>exact h
 |16,h=>exact h
 |17,h=>exact h
 |18,h=>exact h
 |19,h=>exact h
 |_+20,h=>exact h
theorem tQ(HW:aP)(zb:dZ 2400){w:World}{ev:Value}{l0:List aD}(K F R A B:Nat)(hK:K<256)(hF:F<256)(hR:R<256)(hA:A<256)(hB:B<256)(he:kC w ev l0) :
 Calls prog 4 #[.agg #[.int .u8 (K:Int),ev,.int .u8 (F:Int)],.int .u8 (R:Int),.int .u8 (A:Int),.int .u8 (B:Int)] w fun e w'=>e=.returned (.bool true)/\Below w.heap.size w w':=by
 have Ny:=ae (fun W(hW:Below w.heap.size w W)=>Ei K F hK (he.below hW));have HBG:=ae (fun W(hW:Below w.heap.size w W)=>MD HW zb K F hK hF (he.below hW));have HWK:=ae (fun W=>JM HW zb ag W);obtain⟨ea,ec,rfl,-⟩:=id he;generalize l0.length=EL at *;obtain⟨V,hV⟩:∃V,V=K%25:=⟨_,rfl⟩;have HV:Hid (V<=24):=ae af;rw[<- hV]at Ny HBG;generalize 8+F%40=n at *;obtain⟨l,hl⟩:∃l,l=iw V l0:=⟨_,rfl⟩;have HLL:Hid (l.length<=80/\∀x∈l,x.t.toNat<V/\x.h.toNat<V):=ae (by rw[hl];exact⟨oz _ _,fun x hx=>BL hx⟩);rw[<- hl]at Ny HBG;obtain⟨Z,hZ⟩:∃Z,Z=R%8:=⟨_,rfl⟩;have hR1:wrap64 (R:Int)=(R:Int):=by unfold wrap64;omega
 have hR2:(R:Int)%8=(Z:Int):=by omega
 have HZ:Hid (Z<8):=ae af;have hA1:wrap64 (A:Int)=(A:Int):=by unfold wrap64;omega
 have rT:wrap64 (B:Int)=(B:Int):=by unfold wrap64;omega
 obtain⟨a,ha⟩:∃a,a=A%V:=⟨_,rfl⟩;obtain⟨b,hb⟩:∃b,b=B%V:=⟨_,rfl⟩;have hA2:(A:Int)%(V:Int)=(a:Int):=by rw[ha];rfl
 have zt:(B:Int)%(V:Int)=(b:Int):=by rw[hb];rfl
 have hA3:(A:Int).tmod (V:Int)=(a:Int):=by rw[ha];rfl
 have Gw:(B:Int).tmod (V:Int)=(b:Int):=by rw[hb];rfl
 have HAB:Hid (V≠0->a<V/\b<V):=ae (fun h=>by rw[ha,hb];exact⟨Nat.mod_lt _ af,Nat.mod_lt _ af⟩);have kR:Hid (Below w.heap.size w (w.alloc (.cells #[.int .u8 (K:Int),.slice ea EL ec,.int .u8 (F:Int)] 69))/\(w.alloc (.cells #[.int .u8 (K:Int),.slice ea EL ec,.int .u8 (F:Int)] 69)).heap[w.heap.size]? = some (.cells #[.int .u8 (K:Int),.slice ea EL ec,.int .u8 (F:Int)] 69)):=ae ⟨ak.alloc (Nat.le_refl _) _,heap_alloc_new _ _⟩;obtain⟨PST,hP⟩:∃P,P=fun(e:Ending)(w':World)=>e=.returned (.bool true)/\Below w.heap.size w w':=⟨_,rfl⟩;have HP:Hid (∀w',Below w.heap.size w w'->PST (.returned (.bool true)) w'):=ae (fun w' h=>by rw[hP];exact⟨rfl,h⟩);rw[<- hP];have YQ:Hid (A<256/\B<256):=ae ⟨hA,hB⟩;clear he hV hZ hK hF hR hA hB hP hl ha hb;go_enter func4,ntmps4;go_wp2_with fail;generalize Y0:w.heap.size=wb at *;have HT:Hid (∀W W',Below wb w W->Below W.heap.size W W'->Below wb w W'):=ae (fun W W' h h'=>h.trans (h'.mono (by rw[<- Y0];exact h.size)));clear Y0;generalize w.alloc (.cells #[.int .u8 (K:Int),.slice ea EL ec,.int .u8 (F:Int)] 69)=W0 at *;have hsm:=ae (Ny.out W0 kR.out.1);refine hsm.out.mono ?_;rintro e w1⟨v1,rfl,hb1,JP⟩;have hlt:wb<W0.heap.size:=(Array.getElem?_eq_some_iff.1 kR.out.2).1;have Gc:w1.heap[wb]? = some (.cells #[.int .u8 (K:Int),.slice ea EL ec,.int .u8 (F:Int)] 69):=(hb1.block _ hlt).trans kR.out.2;have cO:Hid (Below wb w w1):=ae (kR.out.1.trans (hb1.mono (Nat.le_of_lt hlt)));have RF:Hid (kC w1 v1 l):=ae (nC JP);have hbg:=ae (HBG.out w1 cO.out);have b0:w1.cell? ⟨wb,0,none⟩=some (.int .u8 (K:Int)):=by rw[ar Gc];rfl
 have b1:w1.cell? ⟨wb,1,none⟩=some (.slice ea EL ec):=by rw[ar Gc];rfl
 have b2:w1.cell? ⟨wb,2,none⟩=some (.int .u8 (F:Int)):=by rw[ar Gc];rfl
 clear hb1 JP hlt hsm Ny HBG kR Gc;go_wp2_with fail;refine hbg.out.mono ?_;rintro e w2⟨db,pb,o2,d2,L2,rfl,hg2⟩;have uu:=ae hg2;clear hg2 hbg b0 b1 b2;unfold ptrTo at *;by_cases hv0:V=0
 ·as_aux_lemma=>
  have hvz:((V:Int) == 0)=true:=by simp[hv0]
  have Na:Hid (Below wb w w2):=ae (HT.out _ _ cO.out uu.out.held.below);clear hv0;go_wp2_with fail;refine(HWK.out _).mono ?_;rintro e w3⟨rfl,hb3⟩;have HQ:=ae (HP.out _ (HT.out _ _ Na.out hb3));clear hb3;go_wp2;exact HQ.out
 have hvz:((V:Int) == 0)=false:=by simp;omega
 have asa:¬(V:Int)=0:=by omega
 obtain⟨LS,hbv⟩:=HAB.out hv0;have wa:IntKind.i64.wrap (a:Int)=(a:Int):=by have:=HV.out;rw[aw]<;>omega
 have wb':IntKind.i64.wrap (b:Int)=(b:Int):=by have:=HV.out;rw[aw]<;>omega
 have ua:IntKind.u32.wrap (a:Int)=(a:Int):=eo _ af (by have:=HV.out;omega);have ub:IntKind.u32.wrap (b:Int)=(b:Int):=eo _ af (by have:=HV.out;omega);have bbv:(b:Int)<(V:Int):=by omega
 have HAV:=ae (show _/\_ from⟨LS,hbv⟩);have hdi:=ae (Ej (RF.out.below uu.out.held.below) V a (by have:=HV.out;omega) LS HLL.out.2 (by have:=HLL.out.1;omega));unfold ry at hdi;clear hv0 LS hbv HAB;go_wp2_with fail;refine hdi.out.mono ?_;rintro e w3⟨dg,rfl,hb3,hdg,hdr⟩;have HG3:Hid (pg w1 w3 pb db n o2 d2 L2 V 0 0 l (List.replicate V jf)/\cq w3 o2 dg V (lG (fV V l a))):=ae ⟨uu.out.moved (Moved.aV uu.out.held.aY hb3),hdr.own (uu.out.held.aY.fresh hdg)⟩;clear hb3 hdg hdr hdi uu;go_wp2_with fail;go_loopw [14,15] (fun vd vg W=>∃(gen done:Nat)(es:List aD)(vs:List cj)(o:au)(d:Dsk)(L:aH),vd=.int .u32 (done:Int)/\vg=.int .i64 (gen:Int)/\gen<=Z/\Hid (pg w1 W pb db n o d L V gen done es vs/\cq W o dg V (lG (fV V l a))/\vE l es vs)) (fun _ vg _=>Z-(intOf vg).toNat)
 case atStart=>exact⟨0,0,l,_,o2,d2,L2,rfl,rfl,Nat.zero_le _,ae ⟨HG3.out.1,HG3.out.2,JL _ _⟩⟩
 case round=>
  obtain⟨gen,done,es,vs,o,d,L,rfl,rfl,hgz,HG⟩:=hrel;generalize wr=W1 at *;clear HG3;by_cases hle:gen<Z
  ·have WM:(gen:Int)<(Z:Int):=by omega
   have wg:IntKind.i64.wrap ((gen:Int)+1)=((gen+1:Nat):Int):=by have:=HZ.out;rw[aw]<;>omega
   have HGL:=ae hle;have BP:=ae (MB HW zb HG.out.1);unfold BK ptrTo at BP;obtain⟨KN,JZ⟩:∃k,k=(az es vs).length:=⟨_,rfl⟩;rw[<- JZ]at BP;have hall:=HG.out.1.ok.all;have agC:done<25:=by have:=HG.out.1.ok.pX;have:=HG.out.1.top;omega
   have HK:Hid (KN=(az es vs).length/\(KN=0↔done=V)/\done<25):=ae ⟨JZ,by rw[JZ,List.length_eq_zero_iff];exact hall,agC⟩;have wd:IntKind.i64.wrap (done:Int)=(done:Int):=by rw[aw]<;>omega
   clear JZ hall agC hle hgz;go_wp2_with fail;refine BP.out.mono ?_;rintro e w4⟨d4,o4,L4,rfl,eX,hnil,hne⟩;clear BP;by_cases hz:KN=0
   ·as_aux_lemma=>
    have hzb:((KN:Int) == 0)=true:=by simp[hz]
    have hdb:((done:Int) == (V:Int))=true:=by have:=HK.out.2.1.1 hz;simp[this]
    have oB:Hid (Below wb w w4):=ae (by
     have h:=HG.out.1.held.moved eX (fun _ e=>e.elim);exact HT.out _ _ cO.out h.below)
    clear eX hnil hne hz;go_wp2_with fail;refine(HWK.out _).mono ?_;rintro e w5⟨rfl,pj⟩;have HQ:=ae (HP.out _ (HT.out _ _ oB.out pj));clear pj;go_wp2;exact HQ.out
   ·as_aux_lemma=>
    have hzb:((KN:Int) == 0)=false:=by simp;omega
    have hcn:az es vs≠[]:=fun e=>hz (by rw[HK.out.1,e];rfl);obtain⟨-,hg4⟩:=hne hcn;have Q6:=HG.out.2.2.next (gen:=gen) HG.out.1.ok (by have:=hg4.ok.pX;have:=HV.out;have:=HK.out.1;omega);obtain⟨Qq,qp⟩:∃x,x=aC false (ew es (az es vs)):=⟨_,rfl⟩;obtain⟨NS,hv2⟩:∃x,x=cS es vs done gen (az es vs):=⟨_,rfl⟩;obtain⟨D2,U0⟩:∃x,x=done+KN:=⟨_,rfl⟩;rw[<- qp,<- hv2,<- U0]at hg4;rw[<- qp,<- hv2]at Q6;have yo:Hid (pg w1 w4 pb db n o4 d4 L4 V (gen+1) D2 Qq NS/\cq w4 o4 dg V (lG (fV V l a))/\vE l Qq NS):=ae ⟨hg4,(by
     obtain⟨h1,h2,cur,e,hb,hc⟩:=HG.out.2.1;exact⟨eX.free h2 h1,Nat.lt_of_lt_of_le h2 eX.size,cur,e,eX.heap hb h1 (fun e=>e),hc⟩),Q6⟩
    have hsk:(done:Int)+(KN:Int)=(D2:Int):=by omega
    have wsm:IntKind.u32.wrap (D2:Int)=(D2:Int):=eo _ af (by have:=yo.out.1.ok.pX;have:=HV.out;omega);have hop:=ae (PV HW hg4);unfold Y3 ptrTo at hop;clear eX hnil hne hz hcn hg4 Q6 qp hv2 U0 HG;go_wp2_with fail;refine hop.out.mono ?_;rintro e w5⟨gb,ob,ib,vb,d5,o5,rfl,kP,J4⟩;obtain⟨INV,UG⟩:∃I:World->au->Dsk->Prop,I=fun W o d=>Moved (fun _=>False) n pb db w5 o5 d5 W o d L4:=⟨_,rfl⟩;have HF:Hid (∀{W o d},INV W o d->pg w1 W pb db n o d L4 V (gen+1) D2 Qq NS/\cq W o dg V (lG (fV V l a))/\MC w1 W pb db n o d L4 gb (gen+1) V ob ib vb Qq NS):=ae (fun h=>by
     rw[UG]at h;exact⟨(yo.out.1.moved kP).moved h,(yo.out.2.1.moved kP).moved h,J4.moved h⟩)
    have Eg:=ae yo.out.2.2;have HIM:Hid (∀{W o d W' o' d'},INV W o d->Moved (fun _=>False) n pb db W o d W' o' d' L4->INV W' o' d'):=ae (fun h hm=>by rw[UG]at h ⊢;exact h.trans hm fun _ _ e=>e);have NB:Hid (∀{W o d W'},INV W o d->Below W.heap.size W W'->INV W' o d):=ae (fun h hb=>HIM.out h (Moved.aV (HF.out h).1.held.aY hb));have qE:Hid (INV w5 o5 d5):=ae (by rw[UG];exact Moved.refl _ J4.kh.held.aY);have HIN:Hid (∀{W o d},INV W o d↔Moved (fun _=>False) n pb db w5 o5 d5 W o d L4):=ae (by rw[UG]);have HVT:Hid (∀{W o d},INV W o d->∀{v:Nat}{x:cj},NS[v]? = some x->Calls prog 23 #[ptrTo gb,.int .u32 (v:Int)] W fun e w'=>∃d' o',e=.returned (.tuple #[xw x,.int .i64 0])/\Moved (fun _=>False) n pb db W o d w' o' d' L4):=ae (fun h _ _ hx=>(HF.out h).2.2.abL HW hx);have HED:Hid (∀{W o d},INV W o d->Calls prog 27 #[ptrTo gb] W fun e w'=>∃d' o',e=.returned (.tuple #[.int .i64 ((aC false Qq).length:Int),.int .i64 0])/\Moved (fun _=>False) n pb db W o d w' o' d' L4):=ae (fun h=>Bn HW (HF.out h).1.held (by have:=(HF.out h).1.need;omega) (HF.out h).2.2.kh.gr (HF.out h).1.e);have HEG:Hid (∀{W o d},INV W o d->∀{i:Nat}{x:aD},(aC false Qq)[i]? = some x->Calls prog 28 #[ptrTo gb,.int .i64 (i:Int)] W fun e w'=>∃d' o',e=.returned (.tuple #[Bl x,.int .i64 0])/\Moved (fun _=>False) n pb db W o d w' o' d' L4):=ae (fun h _ _ hx=>D6 HW (HF.out h).1.held (by have:=(HF.out h).1.need;omega) (HF.out h).2.2.kh.gr (HF.out h).1.e hx);obtain⟨x,hx⟩:∃x,NS[a]? = some x:=⟨_,List.getElem?_eq_getElem (by rw[J4.len];exact HAV.out.1)⟩;obtain⟨y,hy⟩:∃y,NS[b]? = some y:=⟨_,List.getElem?_eq_getElem (by rw[J4.len];exact HAV.out.2)⟩;have HXY:=ae (show _/\_ from⟨hx,hy⟩);unfold ptrTo xw at HVT;unfold ptrTo Bl at HEG;unfold ptrTo at HED;have U6:=ae (HVT.out qE.out hx);obtain⟨xr,Gh⟩:∃z,z=x.r.toNat:=⟨_,rfl⟩;obtain⟨yr,hyr⟩:∃z,z=y.r.toNat:=⟨_,rfl⟩;have HXR:=ae (show _/\_ from⟨Gh,hyr⟩);rw[<- Gh]at U6;clear kP J4 hop UG hx hy yo Gh hyr;go_wp2_with fail;refine U6.out.mono ?_;rintro e w7⟨d7,o7,rfl,rW⟩;obtain⟨W8,hW8⟩:∃W,W=w7.alloc (.cells #[.int .u32 (xr:Int),.int .u32 (x.l.toNat:Int),.int .u32 (x.g.toNat:Int)] 55):=⟨_,rfl⟩;obtain⟨ba,hba⟩:∃z,z=w7.heap.size:=⟨_,rfl⟩;have KW:Hid (INV W8 o7 d7/\W8.heap[ba]? = some (.cells #[.int .u32 (xr:Int),.int .u32 (x.l.toNat:Int),.int .u32 (x.g.toNat:Int)] 55)/\o7 ba=none):=ae (by
     have h:=HIM.out qE.out rW;rw[hW8,hba];exact⟨NB.out h aj,heap_alloc_new _ _,(HF.out h).1.held.aY.fresh (Nat.le_refl _)⟩)
    clear rW U6;go_upto_region 22 with fail
    rw[<- hW8,<- hba];clear hW8 hba;have hcc:=ae (HVT.out KW.out.1 HXY.out.2);rw[<- HXR.out.2]at hcc;go_wp2_with fail;refine hcc.out.mono ?_;rintro e w9⟨d9,o9,rfl,XR⟩;obtain⟨W10,abQ⟩:∃W,W=w9.alloc (.cells #[.int .u32 (yr:Int),.int .u32 (y.l.toNat:Int),.int .u32 (y.g.toNat:Int)] 55):=⟨_,rfl⟩;obtain⟨bc,hbc⟩:∃z,z=w9.heap.size:=⟨_,rfl⟩;have abR:Hid (INV W10 o9 d9/\W10.heap[ba]? = some (.cells #[.int .u32 (xr:Int),.int .u32 (x.l.toNat:Int),.int .u32 (x.g.toNat:Int)] 55)/\W10.heap[bc]? = some (.cells #[.int .u32 (yr:Int),.int .u32 (y.l.toNat:Int),.int .u32 (y.g.toNat:Int)] 55)):=ae (by
     have h:=HIM.out KW.out.1 XR;have hb:w9.heap[ba]? = _:=XR.heap KW.out.2.1 KW.out.2.2 (fun e=>e);rw[abQ,hbc];exact⟨NB.out h aj,by rw[(MapKept.heap_alloc w9 _).2 _ (Array.getElem?_eq_some_iff.1 hb).1];exact hb,heap_alloc_new _ _⟩)
    clear XR hcc KW;go_upto_region 23 with fail
    rw[<- abQ,<- hbc];clear abQ hbc;obtain⟨-,ka,kc⟩:=abR.out;have a0:W10.cell? ⟨ba,0,none⟩=some (.int .u32 (xr:Int)):=by rw[ar ka];rfl
    have c0:W10.cell? ⟨bc,0,none⟩=some (.int .u32 (yr:Int)):=by rw[ar kc];rfl
    have HX:=ae abR.out.1;clear ka kc abR;by_cases oG:xr=4294967295/\yr=4294967295
    ·have z1:((xr:Int) != 4294967295)=false:=by simp;omega
     have z2:((yr:Int) != 4294967295)=false:=by simp;omega
     have HUN:Hid (Y5 NS a/\Y5 NS b):=ae ⟨⟨x,HXY.out.1,UInt32.toNat_inj.1 (HXR.out.1.symm.trans oG.1)⟩,⟨y,HXY.out.2,UInt32.toNat_inj.1 (HXR.out.2.symm.trans oG.2)⟩⟩;have hce:=ae (HED.out HX.out);obtain⟨now,Vr⟩:∃x,x=aC false Qq:=⟨_,rfl⟩;rw[<- Vr]at hce HEG;have HNW:Hid (now.length<=600/\(∀x∈now,x.t.toNat<V/\x.h.toNat<V)/\fV V now a b=fV V l a b):=ae (by
      have h:=HF.out HX.out;rw[Vr];refine⟨by have:=h.1.smalls;omega,fun x hx=>h.2.2.kh.ends x (eB.1 hx).1,Eg.out.zj (fun x hx=>(HLL.out.2 x hx).2) (fun x hx=>(h.2.2.kh.ends x hx).2) HUN.out.1 HUN.out.2 HAV.out.1⟩)
     clear Vr oG;go_wp2_with fail;refine hce.out.mono ?_;rintro e w11⟨d11,o11,rfl,TI⟩;have abS:=ae (HIM.out HX.out TI);obtain⟨M,hM⟩:∃M,M=now.length:=⟨_,rfl⟩;have HM:=ae hM;rw[<- hM];clear TI hce HX hM a0 c0 z1 z2;go_wp2_with fail;go_loopw [24,25] (fun vl vi W=>∃(i:Nat)(o:au)(d:Dsk),vi=.int .i64 (i:Int)/\i<=M/\Hid (INV W o d/\aJ W w5.heap.size vl (now.take i)/\w5.heap.size<=W.heap.size/\∀x,vl.ownBlock=some x->o x=none)) (fun _ vi _=>M-(intOf vi).toNat)
     case atStart=>exact⟨0,o11,d11,rfl,Nat.zero_le _,ae ⟨abS.out,World.ownsRow_nil _ _ _ 4,(HIN.out.1 abS.out).size,fun x hx=>(by cases hx)⟩⟩
     case round=>
      generalize u24=vl at *;obtain⟨i,J9,d12,rfl,hi,BO⟩:=hrel;generalize wr=Ve at *;clear abS;by_cases hlt:i<M
      ·as_aux_lemma=>
       have KP:(i:Int)<(M:Int):=by omega
       have wi:IntKind.i64.wrap ((i:Int)+1)=((i+1:Nat):Int):=by have:=HM.out;have:=HNW.out.1;rw[aw]<;>omega
       obtain⟨z,YG⟩:∃z,now[i]? = some z:=⟨_,List.getElem?_eq_getElem (by rw[<- HM.out];exact hlt)⟩;have qT:Hid (now.take i++[z]=now.take (i+1)/\(now.take i).length<=100000/\i+1<=M):=ae ⟨(rM YG).symm,by rw[List.length_take];have:=HNW.out.1;omega,hlt⟩;have hce:=ae (HEG.out BO.out.1 YG);have hzl:=HNW.out.2.1 z (List.mem_of_getElem? YG);have wt:IntKind.i64.wrap (z.t.toNat:Int)=(z.t.toNat:Int):=by have:=HV.out;rw[aw]<;>omega
       have wh:IntKind.i64.wrap (z.h.toNat:Int)=(z.h.toNat:Int):=by have:=HV.out;rw[aw]<;>omega
       have bt:¬(z.t.toNat:Int) >= (V:Int):=by omega
       have bh:¬(z.h.toNat:Int) >= (V:Int):=by omega
       clear YG hzl hi hlt;go_wp2_with fail;refine hce.out.mono ?_;rintro e J8⟨d13,YM,rfl,Ma⟩;obtain⟨PT,XH⟩:∃W,W=J8.alloc (.cells #[.int .u32 (z.t.toNat:Int),.int .u32 (z.h.toNat:Int),.int .u64 (z.x.toNat:Int),.int .u32 (z.m.toNat:Int)] 64):=⟨_,rfl⟩;have abT:Hid (INV PT YM d13/\aJ PT w5.heap.size vl (now.take i)/\∀x,vl.ownBlock=some x->YM x=none):=ae (by
        have h:=HIM.out BO.out.1 Ma;have hb:=(Below.refl J8.heap.size J8).alloc (Nat.le_refl _) (.cells #[.int .u32 (z.t.toNat:Int),.int .u32 (z.h.toNat:Int),.int .u64 (z.x.toNat:Int),.int .u32 (z.m.toNat:Int)] 64);rw[XH];exact⟨NB.out h hb,aW (Ma.ownsRow BO.out.2.1 (fun b hb=>⟨BO.out.2.2.2 b hb,fun e=>e⟩)) hb,fun y hy=>Ma.free (aL BO.out.2.1 y hy).1 (BO.out.2.2.2 y hy)⟩)
       have hz:w5.heap.size<=PT.heap.size:=(HIN.out.1 abT.out.1).size;have k0:PT.heap[J8.heap.size]? = some (.cells #[.int .u32 (z.t.toNat:Int),.int .u32 (z.h.toNat:Int),.int .u64 (z.x.toNat:Int),.int .u32 (z.m.toNat:Int)] 64):=by rw[XH];exact heap_alloc_new _ _
       clear Ma hce BO;go_upto_region 35 with fail
       rw[<- XH];clear XH;generalize J8.heap.size=xb at *;have a0:PT.cell? ⟨xb,0,none⟩=some (.int .u32 (z.t.toNat:Int)):=by rw[ar k0];rfl
       have a1:PT.cell? ⟨xb,1,none⟩=some (.int .u32 (z.h.toNat:Int)):=by rw[ar k0];rfl
       have a2:PT.cell? ⟨xb,2,none⟩=some (.int .u64 (z.x.toNat:Int)):=by rw[ar k0];rfl
       have a3:PT.cell? ⟨xb,3,none⟩=some (.int .u32 (z.m.toNat:Int)):=by rw[ar k0];rfl
       clear k0;go_wp2_with (at_builtin;refine cQ rfl _ _ rfl w5.heap.size _ _ rfl abT.out.2.1 z 1 rfl qT.out.2.1 hz ?_);intro v15 W15 abU agE;have alY:Hid (INV W15 YM d13/\aJ W15 w5.heap.size v15 (now.take (i+1))/\w5.heap.size<=W15.heap.size/\∀x,v15.ownBlock=some x->YM x=none):=ae (by
        obtain⟨h1,h2,h3⟩:=abT.out;obtain⟨g1,g2,g3,g4⟩:=agE.moved (HIN.out.1 h1) (fun y hy=>⟨h3 y hy,aI h2 y hy⟩);rw[qT.out.1]at abU;exact⟨HIN.out.2 g1,abU,g1.size,fun y hy=>(g2 y hy).1⟩)
       clear abU agE a0 a1 a2 a3 hz;go_wp2;exact⟨⟨i+1,YM,d13,rfl,qT.out.2.2,alY⟩,by have:=qT.out.2.2;simp[intOf];omega⟩
      ·as_aux_lemma=>
       have KP:¬(i:Int)<(M:Int):=by omega
       have mP:Hid (now.take i=now):=ae (List.take_of_length_le (by have:=HM.out;omega));have hdi:Hid (∀W,Below Ve.heap.size Ve W->Calls prog 32 #[.int .i64 (V:Int),vl,.int .i64 (a:Int)] W (ry W V now a)):=ae (fun W hW=>Ej ((nC (by have:=BO.out.2.1;rwa [mP.out]at this)).below hW) V a (by have:=HV.out;omega) HAV.out.1 HNW.out.2.1 (by have:=HNW.out.1;omega));unfold ry at hdi;obtain⟨dd,hdd⟩:∃x,x=fV V l a b:=⟨_,rfl⟩;have HQS:Hid (∀W,Below Ve.heap.size Ve W->W.cell? ⟨dg,b,none⟩=some (.int .u64 (dd:Int))):=ae (fun W h=>by rw[(HF.out (NB.out BO.out.1 h)).2.1.cell HAV.out.2,hdd];rfl);have HAF:Hid (∀J8 g2,Below Ve.heap.size Ve J8->cq J8 lg g2 V (lG (fV V now a))->J8.cell? ⟨g2,b,none⟩=some (.int .u64 (dd:Int))):=ae (fun J8 g2 h1 h3=>by rw[h3.cell HAV.out.2,hdd,<- HNW.out.2.2];rfl);have HGF:Hid (∀{W},Below Ve.heap.size Ve W->pg w1 W pb db n J9 d12 L4 V (gen+1) D2 Qq NS/\cq W J9 dg V (lG (fV V l a))/\vE l Qq NS):=ae (fun h=>⟨(HF.out (NB.out BO.out.1 h)).1,(HF.out (NB.out BO.out.1 h)).2.1,Eg.out⟩);have hvn:¬V=0:=by omega
       have Lh:b<V:=HAV.out.2;clear hi hlt hdd;go_upto_region 38 with fail
       have tA:(IntKind.i64.wrap (A:Int)).tmod (V:Int)=(a:Int):=by rw[aw af (by have:=YQ.out;omega)];exact hA3
       have tB:(IntKind.i64.wrap (B:Int)).tmod (V:Int)=(b:Int):=by rw[aw af (by have:=YQ.out;omega)];exact Gw
       refine uY (Below Ve.heap.size Ve) (BM V A B a b dd dg vl) 20 ah ah ak.drew (fun w1 w2 h1 h2=>h1.trans (h2.mono h1.size)) JN ?_ ?_
       ·intro i o ho ac W hC gB;match i,ho with
        |0,ho=>
          cases ho;have h0:=gB.old 9 rfl rfl;refine⟨rfl,cA (v:=.int .i64 (V:Int)) (w':=W) ?_ ak rfl⟩;go_simp
        |1,ho=>
          cases ho;have h0:=gB.old 24 rfl rfl;refine⟨rfl,cA (v:=vl) (w':=W) ?_ ak rfl⟩;go_simp
        |2,ho=>
          cases ho;have h0:=gB.old 2 rfl rfl;refine⟨rfl,cA (v:=.int .u8 (A:Int)) (w':=W) ?_ ak rfl⟩;go_simp
        |3,ho=>
          cases ho;obtain⟨v2,h2,rfl⟩:=gB.get 2 rfl rfl rfl;refine⟨rfl,cA (v:=.int .i64 (A:Int)) (w':=W) ?_ ak rfl⟩;go_simp;exact aw af (by have:=YQ.out;omega)
        |4,ho=>
          cases ho;have h0:=gB.old 9 rfl rfl;refine⟨rfl,cA (v:=.int .i64 (V:Int)) (w':=W) ?_ ak rfl⟩;go_simp
        |5,ho=>
          cases ho;obtain⟨v3,h3,rfl⟩:=gB.get 3 rfl rfl rfl;obtain⟨v4,h4,rfl⟩:=gB.get 4 rfl rfl rfl;refine⟨rfl,cA (v:=.int .i64 (a:Int)) (w':=W) ?_ ak rfl⟩;go_simp
        |6,ho=>
          cases ho;obtain⟨v0,h0,rfl⟩:=gB.get 0 rfl rfl rfl;obtain⟨v1,h1,(q1:v1=vl)⟩:=gB.get 1 rfl rfl rfl;rw[q1]at h1;obtain⟨v5,h5,rfl⟩:=gB.get 5 rfl rfl rfl;refine⟨rfl,DT (f:=32) (args:=#[.int .i64 (V:Int),vl,.int .i64 (a:Int)]) ?_ ((hdi.out W hC).mono ?_)⟩
          ·go_simp
          ·rintro e w'⟨g2,rfl,e2,-,e4⟩;exact⟨_,rfl,e2,g2,rfl,HAF.out w' g2 (hC.trans (e2.mono hC.size)) e4⟩
        |7,ho=>
          cases ho;have h0:=gB.old 3 rfl rfl;refine⟨rfl,cA (v:=.int .u8 (B:Int)) (w':=W) ?_ ak rfl⟩;go_simp
        |8,ho=>
          cases ho;obtain⟨v7,h7,rfl⟩:=gB.get 7 rfl rfl rfl;refine⟨rfl,cA (v:=.int .i64 (B:Int)) (w':=W) ?_ ak rfl⟩;go_simp;exact aw af (by have:=YQ.out;omega)
        |9,ho=>
          cases ho;have h0:=gB.old 9 rfl rfl;refine⟨rfl,cA (v:=.int .i64 (V:Int)) (w':=W) ?_ ak rfl⟩;go_simp
        |10,ho=>
          cases ho;obtain⟨v8,h8,rfl⟩:=gB.get 8 rfl rfl rfl;obtain⟨v9,h9,rfl⟩:=gB.get 9 rfl rfl rfl;refine⟨rfl,cA (v:=.int .i64 (b:Int)) (w':=W) ?_ ak rfl⟩;go_simp
        |11,ho=>
          cases ho;obtain⟨v6,h6,g,rfl,c6⟩:=gB.get 6 rfl rfl rfl;obtain⟨v10,h10,rfl⟩:=gB.get 10 rfl rfl rfl;refine⟨rfl,cA (v:=.pointer (some ⟨g,b,none⟩)) (w':=W) ?_ ak ⟨g,rfl,c6⟩⟩;go_simp
        |12,ho=>
          cases ho;obtain⟨v11,h11,g,rfl,c11⟩:=gB.get 11 rfl rfl rfl;refine⟨rfl,cA (v:=.int .u64 (dd:Int)) (w':=W) ?_ ak rfl⟩;go_simp
        |13,ho=>
          cases ho;have h0:=gB.old 13 rfl rfl;refine⟨rfl,cA (v:=.slice (some ⟨dg,0,none⟩) V V) (w':=W) ?_ ak rfl⟩;go_simp
        |14,ho=>
          cases ho;have h0:=gB.old 3 rfl rfl;refine⟨rfl,cA (v:=.int .u8 (B:Int)) (w':=W) ?_ ak rfl⟩;go_simp
        |15,ho=>
          cases ho;obtain⟨v14,h14,rfl⟩:=gB.get 14 rfl rfl rfl;refine⟨rfl,cA (v:=.int .i64 (B:Int)) (w':=W) ?_ ak rfl⟩;go_simp;exact aw af (by have:=YQ.out;omega)
        |16,ho=>
          cases ho;have h0:=gB.old 9 rfl rfl;refine⟨rfl,cA (v:=.int .i64 (V:Int)) (w':=W) ?_ ak rfl⟩;go_simp
        |17,ho=>
          cases ho;obtain⟨v15,h15,rfl⟩:=gB.get 15 rfl rfl rfl;obtain⟨v16,YJ,rfl⟩:=gB.get 16 rfl rfl rfl;refine⟨rfl,cA (v:=.int .i64 (b:Int)) (w':=W) ?_ ak rfl⟩;go_simp
        |18,ho=>
          cases ho;obtain⟨v13,h13,rfl⟩:=gB.get 13 rfl rfl rfl;obtain⟨v17,h17,rfl⟩:=gB.get 17 rfl rfl rfl;refine⟨rfl,cA (v:=.pointer (some ⟨dg,b,none⟩)) (w':=W) ?_ ak rfl⟩;go_simp
        |19,ho=>
          cases ho;obtain⟨v18,h18,rfl⟩:=gB.get 18 rfl rfl rfl;have c:=HQS.out W hC;refine⟨rfl,cA (v:=.int .u64 (dd:Int)) (w':=W) ?_ ak rfl⟩;go_simp
        |_+20,ho=>cases ho
       ·intro us J8 x9 hl hu;match us,hl with
        | [u0,u1,u2,u3,u4,u5,u6,u7,u8,u9,u10,u11,u12,u13,u14,u15,u16,u17,u18,u19],_=>
          obtain rfl:=hu 12 u12 rfl;obtain rfl:=hu 19 u19 rfl;have alZ:=ae x9;clear hu hl x9;simp only[jC,List.take_succ_cons,List.take_zero,List.drop_succ_cons,List.drop_zero];go_simp;go_wp2;exact⟨⟨gen+1,D2,Qq,NS,J9,d12,L4,rfl,rfl,HGL.out,ae (HGF.out alZ.out)⟩,by have:=HGL.out;simp[intOf];omega⟩
    ·as_aux_lemma=>
     have Na:Hid (Below wb w W10):=ae (HT.out _ _ cO.out (HF.out HX.out).1.held.below);by_cases hx1:xr=4294967295
     ·have z1:((xr:Int) != 4294967295)=false:=by simp;omega
      have z2:((yr:Int) != 4294967295)=true:=by simp;omega
      clear oG hx1;go_wp2_with fail;refine(HWK.out _).mono ?_;rintro e w11⟨rfl,UH⟩;have HQ:=ae (HP.out _ (HT.out _ _ Na.out UH));clear UH;go_wp2;exact HQ.out
     ·have z1:((xr:Int) != 4294967295)=true:=by simp;omega
      clear oG hx1;go_wp2_with fail;refine(HWK.out _).mono ?_;rintro e w11⟨rfl,UH⟩;have HQ:=ae (HP.out _ (HT.out _ _ Na.out UH));clear UH;go_wp2;exact HQ.out
  ·as_aux_lemma=>
   have WM:¬(gen:Int)<(Z:Int):=by omega
   have Na:Hid (Below wb w W1):=ae (HT.out _ _ cO.out HG.out.1.held.below);go_wp2_with fail;refine(HWK.out _).mono ?_;rintro e w5⟨rfl,pj⟩;have HQ:=ae (HP.out _ (HT.out _ _ Na.out pj));clear pj;go_wp2;exact HQ.out
end
end Go.Proofs.YthkkgdpomhhjjaaGreatDoor
namespace Go.Proofs.YthkkgdpomhhjjaaGreatDoor.ContractKeeps
open Go.Proofs.Tryz
open Go.ChangeShapes Go.WideShapes Go.ChangeAt Go.RowKit Go.Joins
theorem closed:joinedFacts Tryz.pinned.checked.prog 4 Tryz.f4 (OpenSpec.ofChange Rows.contractKeepsSpec).bare Rows.contractKeepsRow=true:=by
 unfold joinedFacts;repeat' with_reducible apply ahG
 all_goals as_aux_lemma=>kernel_rfl
end Go.Proofs.YthkkgdpomhhjjaaGreatDoor.ContractKeeps
