/-
  Joined.
-/
import Derived.Test.YthkkgdpomhhjjaaGreatDoorK09
import Derived.Shelf.Sort.Plain
import Derived.Shelf.Slices.In.SortNone
set_option maxRecDepth 100000
set_option maxHeartbeats 8000000
namespace Go.Proofs.YthkkgdpomhhjjaaGreatDoor
open Go.Proofs.Tryz
section
open Go.RowKit Go.Maps Go.MapKept
section
variable {w w':World} {pb db n sb gb gen N ob ib vb' v:Nat} {b:Bool} {name:Name} {o o':au} {d d':Dsk} {L L':aH}
def II(b:Bool)(v:Nat)(es:List aD):List aD:=es.filter fun x=>gj b x=v
theorem O7{es:List aD}{k j:Nat}(hr:Fq b es)(hs:Split b v es k k)(hm:∀x∈(es.drop k).take j,gj b x=v)(hl:∀x,es[k+j]? = some x->gj b x≠v):(es.drop k).take j=II b v es:=by
 unfold II;have e:es=es.take k++((es.drop k).take j++(es.drop k).drop j):=by rw[List.take_append_drop,List.take_append_drop]
 conv=>rhs;rw[e]
 rw[List.filter_append,List.filter_append];have h1:(es.take k).filter (fun x=>decide (gj b x=v))=[]:=by
  rw[List.filter_eq_nil_iff];intro x hx;obtain⟨i,hi⟩:=List.mem_iff_getElem?.1 hx;have hik:i<k:=by have:=aN hi;rw[List.length_take]at this;omega
  rw[List.getElem?_take,if_pos hik]at hi;have:=hs.1 i x hi hik;simp;omega
 have h2:((es.drop k).take j).filter (fun x=>decide (gj b x=v))=(es.drop k).take j:=by
  rw[List.filter_eq_self];intro x hx;simpa using hm x hx
 have h3:((es.drop k).drop j).filter (fun x=>decide (gj b x=v))=[]:=by
  rw[List.filter_eq_nil_iff];intro x hx;obtain⟨i,hi⟩:=List.mem_iff_getElem?.1 hx;rw[List.drop_drop,List.getElem?_drop]at hi;have hlt:=aN hi;have hy:es[k+j]? = some es[k+j]:=List.getElem?_eq_getElem af;have h4:=hl _ hy;have h5:=hs.2 _ _ hy af;have h6:=hr _ _ _ _ hy hi af;simp;omega
 rw[h1,h2,h3];simp
def Lt(n pb db:Nat)(w:World)(o:au)(d:Dsk)(L:aH)(ts:List aD)(e:Ending)(w':World):Prop:=
 ∃v c d' o',e=.returned (.tuple #[v,.int .i64 ((c:Nat):Int)])/\Moved (fun _=>False) n pb db w o d w' o' d' L/\(c=0\/lK d d' L c)/\(c=0->aJ w' w.heap.size v ts/\∀x,v.ownBlock=some x->o' x=none)/\(c≠0->v=.slice none 0 0)
theorem IJ(w:World)(x y z:Value)(t1 t2 t3:TypeId) :
 Below w.heap.size w (((w.alloc (.cells #[x] t1)).alloc (.cells #[y] t2)).alloc (.cells #[z] t3))/\(((w.alloc (.cells #[x] t1)).alloc (.cells #[y] t2)).alloc (.cells #[z] t3)).heap[w.heap.size]? = some (.cells #[x] t1)/\(((w.alloc (.cells #[x] t1)).alloc (.cells #[y] t2)).alloc (.cells #[z] t3)).heap[w.heap.size+1]? = some (.cells #[y] t2)/\(((w.alloc (.cells #[x] t1)).alloc (.cells #[y] t2)).alloc (.cells #[z] t3)).heap[w.heap.size+2]? = some (.cells #[z] t3):=by
 have a1:=heap_alloc_new w (.cells #[x] t1);have a2:=heap_alloc_new (w.alloc (.cells #[x] t1)) (.cells #[y] t2);have a3:=heap_alloc_new ((w.alloc (.cells #[x] t1)).alloc (.cells #[y] t2)) (.cells #[z] t3);simp only[World.size_alloc,Nat.add_assoc]at a2 a3;refine⟨(aj.alloc ai _).alloc (by simp;omega) _,?_,?_,a3⟩
 ·rw[(MapKept.heap_alloc _ _).2 _ (by simp;omega),(MapKept.heap_alloc _ _).2 _ ai];exact a1
 ·rw[(MapKept.heap_alloc _ _).2 _ ai];exact a2
theorem fy.kept{xb kb fb vb bc:Nat}(h:fy w o xb kb fb vb sb b v bc)(e:∀x,x=xb\/x=kb\/x=fb\/x=vb->w'.heap[x]? = w.heap[x]?):fy w' o xb kb fb vb sb b v bc:=by
 obtain⟨t1,h1⟩:=h.xs;obtain⟨t2,h2⟩:=h.bad;obtain⟨t3,h3⟩:=h.fn;obtain⟨t4,h4⟩:=h.vtx;exact⟨⟨t1,(e xb (.inl rfl)).trans h1⟩,⟨t2,(e kb (.inr (.inl rfl))).trans h2⟩,⟨t3,(e fb (.inr (.inr (.inl rfl)))).trans h3⟩,⟨t4,(e vb (.inr (.inr (.inr rfl)))).trans h4⟩,h.oxb,h.okb,h.sj,h.Ll,h.xk,h.fk,h.vk⟩
theorem S7(HW:aP)(h:aR w pb db n o d L)(hst:aF w sb pb name 20)(ho:o sb=none){x1 x2 x3:Value}(hg:bW w gb x1 x2 x3 (.int .i64 (N:Int))){es:List aD}{fl:Bool}(hL:aB L name=some (ax es fl))(hr:Fq b es)(hN:es.length<65536)(hv:v<N)(hv':v<4294967296) :
 Calls prog 54 #[ptrTo gb,ptrTo sb,.int .u32 (v:Int),.func (.func (qg b)) #[] #[]] w (Lt n pb db w o d L (II b v es)):=by
 have hlen:Hid (∀W,Below w.heap.size w W->Calls prog 59 #[ptrTo sb] W (Dz n pb db W o d L (DA es.length))):=ae (fun W hW=>by
  have:=kr HW (h.below hW) (hst.below hW) ho ag ag hL (fw es);rw[List.length_map]at this;exact this)
 have Wz:Hid (∀W o' d' xb kb fb vb,aR W pb db n o' d' L->aF W sb pb name 20->o' sb=none->sb≠kb->fy W o' xb kb fb vb sb b v 0->Calls prog 88 #[.int .i64 (es.length:Int),.func (.func 89) #[] #[.pointer (some ⟨xb,0,none⟩),.pointer (some ⟨kb,0,none⟩),.pointer (some ⟨fb,0,none⟩),.pointer (some ⟨vb,0,none⟩)]] W (A7 n pb db W o' d' L xb kb fb vb sb b v es)):=ae (fun W o' d' xb kb fb vb a1 a2 a3 a4 a5=>Ls HW a1 a2 a3 hL a4 a5 hr af);have mX:Hid (∀W o' d'(i:Nat)x,aR W pb db n o' d' L->aF W sb pb name 20->o' sb=none->es[i]? = some x->Calls prog 60 #[ptrTo sb,.int .i64 (i:Int)] W (DV n pb db W o' d' L x)):=ae (fun W o' d' i x a1 a2 a3 a4=>uX HW a1 a2 a3 hL a4);have HE:Hid (∀(y:aD)(W:World),Calls prog (qg b) #[.agg #[.int .u32 (y.t.toNat:Int),.int .u32 (y.h.toNat:Int),.int .u64 (y.x.toNat:Int),.int .u32 (y.m.toNat:Int)]] W fun e w'=>e=.returned (.int .u32 (gj b y:Int))/\Below W.heap.size W w'):=ae (fun y W=>Nl b y W);have S8:=ae (fun k j hs hm hl=>O7 (b:=b) (v:=v) (es:=es) (k:=k) (j:=j) hr hs hm hl);obtain⟨-,-,-,g3,-⟩:=hg.cells;have hgl:=hg.lt;have UM:=hst.lt;have H:=ae h;have HST:=ae hst;have Wy:=ae ho;have yR:¬((v:Int) >= (N:Int)):=by omega
 have aqO:¬((N:Int)<=(v:Int)):=by omega
 generalize II b v es=ts at *;have HT:=ae (IJ w (ptrTo sb) (.int .u32 (v:Int)) (.func (.func (qg b)) #[] #[]) 119 26 123);clear h hst ho hg hL hr;unfold ptrTo at *;go_enter func54,ntmps54;go_wp2_with fail;obtain⟨b1,b2,b3,b4⟩:=HT.out;have cO:=ae b1;have kQ:=ae b2;have kZ:=ae b3;have iD:=ae b4;clear b1 b2 b3 b4 HT;unfold ptrTo at *;generalize ((w.alloc (.cells #[.pointer (some ⟨sb,0,none⟩)] 119)).alloc (.cells #[.int .u32 (v:Int)] 26)).alloc (.cells #[.func (.func (qg b)) #[] #[]] 123)=W1 at *;have HVB:Hid (w.heap.size+1<W1.heap.size/\w.heap.size+2<W1.heap.size/\w.heap.size<W1.heap.size):=ae ⟨eG kZ.out,eG iD.out,eG kQ.out⟩;have Iz:Hid (w.heap.size<=w.heap.size+1/\w.heap.size<=w.heap.size+2):=ae ⟨af,af⟩;rw[show w.heap.size+1+1=w.heap.size+2 from rfl];generalize w.heap.size+2=fb at *;generalize w.heap.size+1=vb at *;have K2:Hid (W1.cell? ⟨vb,0,none⟩=some (.int .u32 (v:Int))):=ae (by rw[ar kZ.out];rfl);have K4:Hid (W1.cell? ⟨gb,3,none⟩=some (.int .i64 (N:Int))):=ae (by rw[cO.out.cell hgl];exact g3);have hwv:IntKind.i64.wrap (v:Int)=(v:Int):=by rw[aw]<;>omega
 clear g3;refine wq W1 ?_;refine qz ?_ (fun w' hw'=>by have z:=br hw' K2.out;go_simp<;>rfl);iterate 4 (refine qz ?_)
 refine qz ?_ (fun w' hw'=>by have z:=br hw' K4.out;go_simp<;>rfl);refine qz ?_;refine wpQuiet_nil ?_;intro W2 hw2;have cY:=ae (cO.out.trans (hw2.mono cO.out.size));have Yw:Hid (W2.heap[w.heap.size]? = _):=ae ((hw2.block _ HVB.out.2.2).trans kQ.out);have HY2:Hid (W2.heap[vb]? = _):=ae ((hw2.block _ HVB.out.1).trans kZ.out);have HY3:Hid (W2.heap[fb]? = _):=ae ((hw2.block _ HVB.out.2.1).trans iD.out);have k1:W2.cell? ⟨w.heap.size,0,none⟩=some (.pointer (some ⟨sb,0,none⟩)):=by rw[ar Yw.out];rfl
 clear hw2 kQ kZ iD cO HVB K2 K4 W1;go_wp2_with fail;refine(hlen.out W2 cY.out).mono ?_;rintro e w3⟨c3,d3,o3,⟨x3',rfl,hx3⟩,eE,DB⟩;have eH:Hid (Moved (fun _=>False) n pb db w o d w3 o3 d3 L):=ae ((Moved.aV H.out cY.out).trans eE (fun _ _ h=>h));have Yi:Hid (∀x,w.heap.size<=x->o x=none):=ae (fun x hx=>H.out.fresh hx);have CK:Hid (aF w3 sb pb name 20):=ae (HST.out.moved eH.out Wy.out (fun h=>h));have wZ:Hid (o3 sb=none):=ae (eH.out.free UM Wy.out);have afg:Hid (∀kb(w4:World),w3.heap.size<=kb->Below w3.heap.size w3 w4->(∃t,w4.heap[kb]? = some (.cells #[.int .i64 0] t))->fy w4 o3 w.heap.size kb fb vb sb b v 0):=ae (fun kb w4 hkb hb4 hc=>by
  have q1:=eE.heap Yw.out (Yi.out _ (Nat.le_refl _)) (fun h=>h);have q2:=eE.heap HY2.out (Yi.out _ Iz.out.1) (fun h=>h);have q3:=eE.heap HY3.out (Yi.out _ Iz.out.2) (fun h=>h);exact⟨⟨_,(hb4.block _ (eG q1)).trans q1⟩,hc,⟨_,(hb4.block _ (eG q3)).trans q3⟩,⟨_,(hb4.block _ (eG q2)).trans q2⟩,eE.free (eG Yw.out) (Yi.out _ (Nat.le_refl _)),eE.aY.fresh hkb,eE.free (eG HY3.out) (Yi.out _ Iz.out.2),eE.free (eG HY2.out) (Yi.out _ Iz.out.1),fun e=>by have:=eG q1;omega,fun e=>by have:=eG q3;omega,fun e=>by have:=eG q2;omega⟩)
 have Cw:=ae DB;have iD:=ae hx3;clear eE DB hx3 Yw HY2 HY3 k1 cY W2;by_cases hc3:c3=0
 ·subst hc3;obtain rfl:=iD.out rfl;clear iD Cw;have oB:Hid (Below w3.heap.size w3 (w3.alloc (.cells #[.int .i64 0] 51))):=ae aj;have UT:=ae (afg.out w3.heap.size _ (Nat.le_refl _) oB.out ⟨_,heap_alloc_new w3 _⟩);have gC:=ae (eH.out.below oB.out);have uF:=ae (CK.out.below oB.out);have akA:=CK.out.lt;clear afg;have hcs:=ae (Wz.out _ o3 d3 w.heap.size w3.heap.size fb vb gC.out.aY uF.out wZ.out af UT.out);clear akA;go_wp2_with fail;refine hcs.out.mono ?_;rintro e w5⟨k5,c5,d5,o5,rfl,Sq,kP,aaS,hs5⟩;have aqP:w.heap.size<=w3.heap.size:=eH.out.size;have lL:Hid (Moved (fun _=>False) n pb db w o d w5 o5 d5 L):=ae (gC.out.trans kP (fun x hx e=>by omega));have Ix:Hid (aF w5 sb pb name 20):=ae (HST.out.moved lL.out Wy.out (fun h=>h));have Iy:Hid (o5 sb=none):=ae (lL.out.free UM Wy.out);have Vp:=ae aaS;have hk3:=aaS.cells.2.1;have b7:Hid (c5=0/\Split b v es k5 k5\/lK d d5 L c5):=ae (hs5.imp id (fun h=>h.later gC.out.on.bO));clear kP aaS hs5 hcs UT gC uF oB eH CK wZ;generalize w3.heap.size=kb at *;by_cases BR:c5=0
  ·subst BR;have HSP:Hid (Split b v es k5 k5):=ae (b7.out.elim (fun h=>h.2) (fun h=>absurd rfl h.ne));clear b7;obtain⟨M,hM⟩:∃M,M=es.length:=⟨_,rfl⟩;have HES:Hid (∀m,m<M->∃x,es[m]? = some x):=ae (fun m hm=>⟨_,List.getElem?_eq_getElem af⟩);rw[<- hM]at Sq hN ⊢;have Qr:=ae hM;clear hM;have aqQ:w5.cell? ⟨kb,0,none⟩=some (.int .i64 0):=hk3;clear hk3;go_wp2;go_loopw [13,14] (fun i l wr=>∃(j:Nat)(d':Dsk)(o':au),k5+j<=M/\i=.int .i64 ((k5+j:Nat):Int)/\Moved (fun _=>False) n pb db w o d wr o' d' L/\w5.heap.size<=wr.heap.size/\fy wr o' w.heap.size kb fb vb sb b v 0/\aJ wr w5.heap.size l ((es.drop k5).take j)/\(∀x,l.ownBlock=some x->o' x=none)/\(∀x∈(es.drop k5).take j,gj b x=v)) (fun i _ _=>M-(intOf i).toNat)
   case atStart=>exact⟨0,d5,o5,Sq,rfl,lL.out,Nat.le_refl _,Vp.out,World.ownsRow_nil _ _ _ 4,(fun x hx=>by cases hx),ai⟩
   case round=>
    obtain⟨j,d6,o6,hj,rfl,oA,XL,aaT,hl6,afh,afi⟩:=hrel;have yF:=ae oA;have ZR:=ae aaT;have HL6:=ae hl6;have WA:=ae afh;have aaU:=ae afi;have HZ6:=ae XL;obtain⟨la,lc,rfl⟩:=aA hl6;have lQ:((es.drop k5).take j).length=j:=by rw[List.length_take,List.length_drop,<- Qr.out];omega
    rw[lQ]at HL6 WA;simp only[lQ];have HJL:=ae lQ;have k1:=aaT.cells.1;unfold ptrTo at k1;clear oA aaT hl6 afh afi lQ XL;by_cases hlt:k5+j<M
    ·obtain⟨x,hx⟩:=HES.out _ hlt;have BP:=ae (mX.out wr o6 d6 (k5+j) x yF.out.aY (HST.out.moved yF.out Wy.out (fun h=>h)) (yF.out.free UM Wy.out) hx);have HX:=ae hx;clear hx;go_wp2_with fail;refine BP.out.mono ?_;rintro e w7⟨c7,d7,o7,y,rfl,rW,he7,hy7⟩;have BZ:Hid (Moved (fun _=>False) n pb db w o d w7 o7 d7 L):=ae (yF.out.trans rW (fun _ _ h=>h));have HZ7:Hid (w5.heap.size<=w7.heap.size):=ae (Nat.le_trans HZ6.out rW.size);have HO7:=ae (ZR.out.moved rW);have HL7:Hid (aJ w7 w5.heap.size (.slice la j lc) ((es.drop k5).take j)):=ae (rW.ownsRow HL6.out (fun b hb=>⟨WA.out b hb,fun h=>h⟩));have aaV:Hid (∀x,(Value.slice la j lc).ownBlock=some x->o7 x=none):=ae (fun x hx=>rW.free (aL HL6.out x hx).1 (WA.out x hx));have HE7:=ae he7;have HY7:=ae hy7;clear rW he7 hy7 BP k1;have HBA:Hid (Below w7.heap.size w7 (w7.alloc (.cells #[.int .u32 (y.t.toNat:Int),.int .u32 (y.h.toNat:Int),.int .u64 (y.x.toNat:Int),.int .u32 (y.m.toNat:Int)] 64))):=ae aj;by_cases N8:c7=0
     ·subst N8;obtain rfl:=HY7.out rfl;clear HY7 HE7;have U9:Hid ((w7.alloc (.cells #[.int .u32 (y.t.toNat:Int),.int .u32 (y.h.toNat:Int),.int .u64 (y.x.toNat:Int),.int .u32 (y.m.toNat:Int)] 64)).heap[w7.heap.size]? = some (.cells #[.int .u32 (y.t.toNat:Int),.int .u32 (y.h.toNat:Int),.int .u64 (y.x.toNat:Int),.int .u32 (y.m.toNat:Int)] 64)):=ae (heap_alloc_new w7 _);have Yx:=ae (BZ.out.below HBA.out);have U7:=ae (HO7.out.below HBA.out);have HLA:Hid (aJ (w7.alloc (.cells #[.int .u32 (y.t.toNat:Int),.int .u32 (y.h.toNat:Int),.int .u64 (y.x.toNat:Int),.int .u32 (y.m.toNat:Int)] 64)) w5.heap.size (.slice la j lc) ((es.drop k5).take j)):=ae (World.ownsRow.alloc HL7.out _);have HZA:Hid (w5.heap.size<=(w7.alloc (.cells #[.int .u32 (y.t.toNat:Int),.int .u32 (y.h.toNat:Int),.int .u64 (y.x.toNat:Int),.int .u32 (y.m.toNat:Int)] 64)).heap.size):=ae (Nat.le_trans HZ7.out HBA.out.size);go_wp2;generalize w7.alloc (.cells #[.int .u32 (y.t.toNat:Int),.int .u32 (y.h.toNat:Int),.int .u64 (y.x.toNat:Int),.int .u32 (y.m.toNat:Int)] 64)=W at *;generalize w7.heap.size=ab at *;have Q0:Hid (W.cell? ⟨ab,0,none⟩=some (.int .u32 (y.t.toNat:Int))):=ae (by rw[ar U9.out];rfl);have Q1:Hid (W.cell? ⟨ab,1,none⟩=some (.int .u32 (y.h.toNat:Int))):=ae (by rw[ar U9.out];rfl);have Q2:Hid (W.cell? ⟨ab,2,none⟩=some (.int .u64 (y.x.toNat:Int))):=ae (by rw[ar U9.out];rfl);have Q3:Hid (W.cell? ⟨ab,3,none⟩=some (.int .u32 (y.m.toNat:Int))):=ae (by rw[ar U9.out];rfl);have K3:=ae U7.out.cells.2.2.1;have K4:=ae U7.out.cells.2.2.2.1;refine wq W ?_;refine qz ?_ (fun w' hw'=>by have z3:=br hw' K3.out;go_simp<;>rfl);refine qz ?_ (fun w' hw'=>by have z0:=br hw' Q0.out;have z1:=br hw' Q1.out;have z2:=br hw' Q2.out;have z3:=br hw' Q3.out;go_simp<;>rfl);refine sS rfl (fun w' hw'=>(by go_simp;exact xy b _ _)) (fun w' hw'=>((HE.out y w').mono (fun e w'' h=>⟨h.1,hw'.trans (h.2.mono hw'.size)⟩))) (fun K hK=>?_);go_simp;refine hK _ ?_;clear hK K;refine qz ?_ (fun w' hw'=>by have z4:=br hw' K4.out;go_simp<;>rfl);refine qz ?_;refine wpQuiet_nil ?_;intro W8 WB;have sf:=ae (Yx.out.below WB);have HO8:=ae (U7.out.below WB);have HL8:Hid (aJ W8 w5.heap.size (.slice la j lc) ((es.drop k5).take j)):=ae ((Moved.aV Yx.out.aY WB (S:=fun _=>False)).ownsRow HLA.out (fun b hb=>⟨aaV.out b hb,fun h=>h⟩));have Yy:Hid (w5.heap.size<=W8.heap.size):=ae (Nat.le_trans HZA.out WB.size);have z0:=br WB Q0.out;have z1:=br WB Q1.out;have z2:=br WB Q2.out;have z3:=br WB Q3.out;clear WB Yx U7 HLA HZA U9 HBA K3 K4 Q0 Q1 Q2 Q3 BZ HO7 HL7 HZ7 W;by_cases hev:gj b y=v
      ·have yS:((es.drop k5).take j).length<=100000:=by rw[HJL.out];omega
       have qT:Hid ((es.drop k5).take (j+1)=(es.drop k5).take j++[y]):=ae (by
        rw[List.take_add_one,List.getElem?_drop,HX.out];rfl)
       have hz8:=Yy.out;have akD:(gj b y:Int)=(v:Int):=by omega
       have HEV:=ae hev;clear hev;go_wp2_with (at_builtin;refine cQ rfl _ _ rfl w5.heap.size _ _ rfl HL8.out y 1 rfl yS hz8 ?_);intro l4 w4 hl4 La;obtain⟨eX,OM,P6,vF⟩:=La.moved sf.out (fun x hx=>⟨aaV.out x hx,Nat.le_trans lL.out.size (aI HL8.out x hx)⟩);have Nk:=ae eX;have HO9:Hid (fy w4 o7 w.heap.size kb fb vb sb b v 0):=ae (HO8.out.kept (fun x hx=>by
        have hx5:x<w5.heap.size:=by
         obtain⟨g1,g2,g3,g4⟩:=Vp.out.lts;rcases hx with h | h | h | h<;>omega
        exact P6 x af (fun e=>by have:=aI HL8.out x e;omega)))
       have HZ9:Hid (w5.heap.size<=w4.heap.size):=ae (Nat.le_trans hz8 vF);rw[<- qT.out]at hl4;have HL9:=ae hl4;have akE:=ae OM;clear eX OM P6 vF La hl4 z0 z1 z2 z3 hz8;go_wp2;go_roundw
       case rel=>exact⟨j+1,d7,o7,af,by go_num,Nk.out,HZ9.out,HO9.out,HL9.out,fun x hx=>(akE.out x hx).1,by rw[qT.out];intro x hx;rcases List.mem_append.1 hx with h | h;exact aaU.out x h;rw[List.mem_singleton.1 h];exact HEV.out⟩
       case measure=>simp[intOf];omega
      ·have akD:¬(gj b y:Int)=(v:Int):=by omega
       have WC:(es.drop k5).take j=ts:=S8.out k5 j HSP.out aaU.out (fun x hx=>by rw[HX.out]at hx;cases hx;exact hev);have HF:=ae WC;clear WC hev;go_wp2;go_ret2;exact⟨_,0,d7,o7,rfl,sf.out,.inl rfl,fun _=>⟨HF.out▸aU HL8.out lL.out.size,aaV.out⟩,fun h=>absurd rfl h⟩
     ·have aqW:¬(c7:Int)=0:=by omega
      have HC7:=ae N8;have akF:=ae ((HE7.out.resolve_left N8).later yF.out.on.bO);have Yx:=ae (BZ.out.below HBA.out);clear N8;go_wp2;go_ret2;exact⟨_,c7,d7,o7,rfl,Yx.out,.inr akF.out,fun h=>absurd h HC7.out,fun _=>rfl⟩
    ·go_wp2;go_ret2;have hjM:k5+j=M:=by omega
     have WC:(es.drop k5).take j=ts:=S8.out k5 j HSP.out aaU.out (fun x hx=>by have:=aN hx;rw[<- Qr.out]at this;omega);exact⟨_,0,d6,o6,rfl,yF.out,.inl rfl,fun _=>⟨WC▸aU HL6.out lL.out.size,WA.out⟩,fun h=>absurd rfl h⟩
  ·have adH:¬(c5:Int)=0:=by omega
   have Rx:Hid (lK d d5 L c5):=ae (b7.out.elim (fun h=>absurd h.1 BR) id);have Oi:=ae BR;clear BR b7;go_wp2;go_quiet (fail)
   go_wp2;go_ret2;exact⟨_,c5,d5,o5,rfl,lL.out.below (below_drewN ak _),.inr Rx.out,fun h=>absurd h Oi.out,fun _=>rfl⟩
 ·have KG:¬(c3:Int)=0:=by omega
  have JW:=ae hc3;clear hc3;go_wp2;go_ret2;exact⟨_,c3,d3,o3,rfl,eH.out,Cw.out,fun h=>absurd h JW.out,fun _=>rfl⟩
end
end
section
open Go.RowKit Go.Maps Go.MapKept
section
variable {w w':World} {pb db n sb gb gen N ob ib vb v:Nat} {b:Bool} {name:Name} {o o':au} {d d':Dsk} {L L':aH}
theorem IK(HW:aP)(h:aR w pb db n o d L)(hg:dH w o gb pb gen N ob ib vb){es:List aD}{fl:Bool}(hL:aB L (aK 101 gen)=some (ax es fl))(hr:Fq false es)(hN:es.length<65536)(hv:v<N)(hv':v<4294967296) :
 Calls prog 21 #[ptrTo gb,.int .u32 (v:Int)] w (Lt n pb db w o d L (II false v es)):=by
 have Va:=ae (S7 HW h hg.out hg.S0 hg.raw hL hr hN hv hv');obtain⟨g0,-,-,-,-⟩:=hg.raw.cells;clear h hg hL hr hN hv hv';unfold ptrTo qg at *;go_enter func21,ntmps21;go_wp2_with fail;refine Va.out.mono ?_;rintro e w1⟨v1,c1,d1,o1,rfl,ej,tM,hx1,S6⟩;have hh:=ae (And.intro ej (And.intro tM (And.intro hx1 S6)));clear ej tM hx1 S6 Va;go_wp2;go_ret2;exact⟨v1,c1,d1,o1,rfl,hh.out.1,hh.out.2.1,hh.out.2.2.1,hh.out.2.2.2⟩
theorem Lu(HW:aP)(h:aR w pb db n o d L)(hg:dH w o gb pb gen N ob ib vb){es:List aD}{fl:Bool}(hL:aB L (aK 114 gen)=some (ax es fl))(hr:Fq true es)(hN:es.length<65536)(hv:v<N)(hv':v<4294967296) :
 Calls prog 22 #[ptrTo gb,.int .u32 (v:Int)] w (Lt n pb db w o d L (II true v es)):=by
 have Va:=ae (S7 HW h hg.rV hg.Wp hg.raw hL hr hN hv hv');obtain⟨-,g1,-,-,-⟩:=hg.raw.cells;clear h hg hL hr hN hv hv';unfold ptrTo qg at *;go_enter func22,ntmps22;go_wp2_with fail;refine Va.out.mono ?_;rintro e w1⟨v1,c1,d1,o1,rfl,ej,tM,hx1,S6⟩;have hh:=ae (And.intro ej (And.intro tM (And.intro hx1 S6)));clear ej tM hx1 S6 Va;go_wp2;go_ret2;exact⟨v1,c1,d1,o1,rfl,hh.out.1,hh.out.2.1,hh.out.2.2.1,hh.out.2.2.2⟩
theorem A8(HW:aP)(h:aR w pb db n o d L)(hg:dH w o gb pb gen N ob ib vb){es:List aD}{fl:Bool}(hL:aB L (aK 101 gen)=some (ax es fl)) :
 Calls prog 27 #[ptrTo gb] w (Dz n pb db w o d L (DA es.length)):=by
 have hlen:Hid (Calls prog 59 #[ptrTo ob] w (Dz n pb db w o d L (DA es.length))):=ae (by
  have:=kr HW h hg.out hg.S0 ag ag hL (fw es);rw[List.length_map]at this;exact this)
 obtain⟨g0,-,-,-,-⟩:=hg.raw.cells;clear h hg hL;unfold ptrTo at *;go_enter func27,ntmps27;go_wp2_with fail;refine hlen.out.mono ?_;rintro e w1⟨c1,d1,o1,⟨x,rfl,hx⟩,ej,tM⟩;have hh:=ae (And.intro ej (And.intro tM hx));clear ej tM hx hlen;go_wp2;go_ret2;exact⟨c1,d1,o1,⟨x,rfl,hh.out.2.2⟩,hh.out.1,hh.out.2.1⟩
end
end
section
open Go.RowKit
def cW(w:World)(base:Nat)(v:Value)(bs:List UInt8):Prop:=
 (v=.slice none 0 0/\bs=[]) \/
 ∃g cap cur fz,v=.slice (some ⟨g,0,none⟩) bs.length cap/\base<=g/\w.heap[g]? = some (.cells cur 5 fz)/\(fz.2=0\/cur.size<=fz.1)/\bs.length<=cap/\cap<=maxLen/\cur.size=cap/\cur.toList.take bs.length=bs.map bv
theorem cW.nil(w:World)(base:Nat):cW w base (.slice none 0 0) []:=.inl ⟨rfl,rfl⟩
theorem cW.of{w:World}{base:Nat}{v:Value}{bs:List UInt8}(h:w.ownsRow base 5 1 v bs.length (bs.map bv)):cW w base v bs:=by
 obtain⟨h0,⟨rfl,h1⟩|⟨g,cap,cur,rfl,h1,h2,h3,h4,h5,h6⟩⟩:=h
 ·exact .inl ⟨rfl,List.length_eq_zero_iff.1 h1⟩
 ·exact .inr ⟨g,cap,cur,(0,0),rfl,h1,h2,.inl rfl,h3,h4,af,by grind⟩
theorem cW.base{w:World}{base base':Nat}{v:Value}{bs:List UInt8}(h:cW w base v bs)(hb:base'<=base):cW w base' v bs:=by
 rcases h with h |⟨g,cap,cur,fz,h1,h2,h3⟩
 ·exact .inl h
 ·exact .inr ⟨g,cap,cur,fz,h1,Nat.le_trans hb h2,h3⟩
theorem cW.lt{w:World}{base:Nat}{v:Value}{bs:List UInt8}(h:cW w base v bs):∀k,v.ownBlock=some k->base<=k/\k<w.heap.size:=by
 intro k hk;rcases h with⟨rfl,_⟩|⟨g,cap,cur,fz,rfl,h1,h2,_⟩
 ·cases hk
 ·cases hk;grind
theorem cW.kept{w w':World}{base:Nat}{v:Value}{bs:List UInt8}(h:cW w base v bs)(hk:∀k,v.ownBlock=some k->w'.heap[k]? = w.heap[k]?):cW w' base v bs:=by
 rcases h with h |⟨g,cap,cur,fz,rfl,h1,h2,h3⟩
 ·exact .inl h
 ·exact .inr ⟨g,cap,cur,fz,rfl,h1,(hk g rfl).trans h2,h3⟩
theorem cW.cells{w:World}{base g cap n:Nat}{bs:List UInt8}(h:cW w base (.slice (some ⟨g,0,none⟩) n cap) bs){j:Nat}(hj:j<bs.length):w.cell? ⟨g,j,none⟩=some (bv bs[j]):=by
 rcases h with⟨h,_⟩|⟨g',cap',cur,fz,h,h1,h2,h3,h4,h5,h6,h7⟩
 ·cases h
 ·cases h;rw[cell_of_row w g j cur _ fz h2];have:(cur.toList.take bs.length)[j]? = (bs.map bv)[j]? := by rw[h7]
  grind
theorem cW.rd{w:World}{base:Nat}{v:Value}{bs:List UInt8}(h:cW w base v bs):Rd w v bs:=by
 rcases h with⟨rfl,rfl⟩|⟨g,cap,cur,fz,rfl,h1,h2,h3,h4,h5,h6,h7⟩
 ·exact⟨none,0,rfl,Nat.le_refl _,Nat.zero_le _,.inl rfl⟩
 ·refine⟨some ⟨g,0,none⟩,cap,rfl,h4,h5,.inr ⟨g,0,rfl,fun j hj=>?_⟩⟩;rw[Nat.zero_add];exact cW.cells (.inr ⟨g,cap,cur,fz,rfl,h1,h2,h3,h4,h5,h6,h7⟩) hj
theorem xA{w:World}(base ty:Nat)(v:Value)(bs:List UInt8)(h:cW w base v bs)(b c:Nat)(y:UInt8)(hb:w.cell? ⟨b,0,none⟩=some (bv y))(hl:bs.length<=100000)(hbase:base<=w.heap.size) :
 ∃v' w',(Builtin.append_ #[39,39] ty #[v,.slice (some ⟨b,0,none⟩) 1 c]).run prog w=.ok v' w'/\cW w' base v' (bs++[y])/\w.grownBy w' v.ownBlock/\(v'.ownBlock=v.ownBlock\/v'.ownBlock=some w.heap.size):=by
 obtain⟨i0,hi,hz0,hz1,hz2⟩:=info_parts ll;have hnews:∀(j:Nat)(u:Value),[bv y][j]? = some u->w.cell? ((⟨b,0,none⟩:Addr).add j)=some u:=by
  grind [bI]
 have hold:∀g n cap,v=.slice (some ⟨g,0,none⟩) n cap->∀(j:Nat)(u:Value),(bs.map bv)[j]? = some u->w.cell? ((⟨g,0,none⟩:Addr).add j)=some u:=by
  grind [bI,cW.cells]
 rcases h with⟨rfl,rfl⟩|⟨g,cap,cur,fz,rfl,h1,h2,h3,h4,h5,h6,h7⟩
 ·obtain⟨v',w',r1,r2,r3,-,r5⟩:=run_append_own_at (P:=prog) w base 39 ty 5 i0 (.int .u8 0) 1 1 Tryz.underlying39 hi hz0 hz1 hz2 rfl ag (.slice none 0 0) 0 [] (World.ownsRow_nil _ _ _ _) ⟨b,0,none⟩ 1 c [bv y] rfl hnews (by simp[iO]) (by grind [maxLen]) af hbase;grind [cW.of]
 ·by_cases hroom:bs.length+1<=cap
  ·have hf:=run_firstCells_some (P:=prog) w 1 1 ⟨b,0,none⟩ 1 c [bv y] rfl hnews;have hcell:w.cell? ⟨g,bs.length,none⟩=some cur[bs.length]:=by
    rw[cell_of_row w g bs.length cur _ fz h2];simp
   have aqY:w.frozen? ⟨g,bs.length,none⟩=false:=by
    grind [World.frozen?]
   have hst:(storeCells ⟨g,bs.length,none⟩ [bv y] 0).run prog w=.ok () (w.setRow g (cur.setIfInBounds bs.length (bv y))):=by
    grind [run_store,iO,setCell_eq_setRow,bI,storeCells,Sem.run_bind,Result.andThen_ok,Sem.run_pure]
   have hlen:(bs++[y]).length=bs.length+1:=by simp
   have hbl:bs.length<cur.toList.length:=by grind
   refine⟨.slice (some ⟨g,0,none⟩) (bs.length+1) cap,w.setRow g (cur.setIfInBounds bs.length (bv y)),?_,.inr ⟨g,cap,cur.setIfInBounds bs.length (bv y),fz,ai,h1,setRow_heap w g cur _ _ fz h2,by grind,af,h5,by grind,?_⟩,⟨rfl,rfl,rfl,ai,fun k _ hk=>setRow_other w g k _ (fun e=>hk (by simp[Value.ownBlock,e]))⟩,.inl rfl⟩
   ·simp[Builtin.append_,run_underlying Tryz.underlying39,sizeOf,typeInfo,hi,hz1,Builtin.lenOf,hroom,hf,bI,hst]
   grind [List.take_add_one,List.take_set_of_le]
  ·have hr:=run_append_grow (P:=prog) w 39 ty 5 i0 (.int .u8 0) Tryz.underlying39 hi hz0 ⟨g,0,none⟩ bs.length cap (bs.map bv) (by grind) (hold g _ _ rfl) ⟨b,0,none⟩ 1 c [bv y] (by grind) hnews af af (growslice_fits af (by grind));have yR:=grownCap_ge w (bs.length+1) cap 5;have hcm:grownCap w (bs.length+1) cap 5<=maxLen:=grownCap_le_maxLen w (bs.length+1) cap 5 (by grind [maxLen]);refine⟨_,_,hr,.inr ⟨w.heap.size,_,_,(0,0),?_,hbase,heap_alloc_new w.drew _,.inl rfl,?_,hcm,?_,?_⟩,⟨rfl,rfl,rfl,ai,fun k hk _=>(MapKept.heap_alloc w.drew _).2 k hk⟩,.inr rfl⟩
   ·simp
   ·grind
   ·simp only[Array.size_append,List.size_toArray,size_zeroCells,List.length_map,List.length_cons,List.length_nil];have hz:(Value.int IntKind.u8 0).cells.size=1:=rfl;grind
   grind
end
section
open Go.RowKit
section
variable {w:World} {ops:Array Oper} {rest:List Oper} {op:Oper} {a:Act} {Q:Exit->Act->World->Prop}
theorem rX(hgd:op.guard=none)(s x:Operand)(ho:op.op=.call { callee:=.builtin .append,args:=#[s,x],argTypes:=#[39,39] })(base:Nat)(v:Value)(bs:List UInt8)(hs:a.eval s=v)(h:cW w base v bs)(y:UInt8)(b c:Nat)(hx:a.eval x=.slice (some ⟨b,0,none⟩) 1 c)(hb:w.cell? ⟨b,0,none⟩=some (bv y))(hl:bs.length<=100000)(hbase:base<=w.heap.size)(k:∀v' w',cW w' base v' (bs++[y])->w.grownBy w' v.ownBlock->wpList prog ops Q rest (a.put op.dst v') w') :
 wpList prog ops Q (op::rest) a w:=by
 refine wpList_plain hgd fun K hK=>?_;obtain⟨v',w',g1,g2,g3,g4⟩:=xA base op.type v bs h b c y hb hl hbase;unfold Oper.wp execOp;simp only[ho,resolve,invoke,builtin,Sem.run_bind,Sem.run_pure,Result.andThen_ok,List.map_toArray,List.map_cons,List.map_nil,hs,hx,g1];exact hK _ _ (k v' w' g2 g3)
theorem cW.alloc{base:Nat}{v:Value}{bs:List UInt8}(h:cW w base v bs)(ob:Obj):cW (w.alloc ob) base v bs:=h.kept (fun k hk=>(MapKept.heap_alloc w _).2 k (h.lt k hk).2)
end
def xB(w:World)(bs:List UInt8)(e:Ending)(w':World):Prop:=
 ∃v',e=.returned v'/\cW w' w.heap.size v' bs/\Below w.heap.size w w'
theorem Fs(w:World)(s:ByteArray)(hs:s.size<=100000):cW (Lib.bytesWorld w 5 s) w.heap.size (.slice (some ⟨w.heap.size,0,none⟩) s.size (grownCap w s.size 0 5)) s.data.toList:=by
 have hlen:s.data.toList.length=s.size:=by rw[Array.length_toList];rfl
 have yR:=grownCap_ge w s.size 0 5;have hcm:=grownCap_le_maxLen w s.size 0 5 (by unfold maxLen;omega);have hsz:(Lib.bytesCells w 5 s).size=grownCap w s.size 0 5:=by
  unfold Lib.bytesCells;rw[Array.size_append,Array.size_map,Array.size_replicate];have:s.data.size=s.size:=rfl;omega
 have hh:(Lib.bytesWorld w 5 s).heap[w.heap.size]? = some (.cells (Lib.bytesCells w 5 s) 5 ((Lib.bytesCells w 5 s).size,(Lib.bytesCells w 5 s).size+1)):=by
  unfold Lib.bytesWorld World.freeze;rw[if_neg ag];have h1:=heap_alloc_new w.drew (.cells (Lib.bytesCells w 5 s) 5);rw[World.size_drew]at h1;dsimp only;rw[Array.getElem?_modify,if_pos rfl,h1];simp
 refine .inr ⟨w.heap.size,_,_,_,by rw[hlen],Nat.le_refl _,hh,.inr (Nat.le_refl _),af,hcm,hsz,?_⟩;unfold Lib.bytesCells;rw[Array.toList_append,List.take_append_of_le_length ai,Array.toList_map,List.take_of_length_le ai];rfl
theorem CS(v:Value)(bs:List UInt8)(w:World)(hv:Rd w v bs)(hl:bs.length<=1000) :
 Calls prog 156 #[v] w (xB w bs):=by
 obtain⟨a,cap,rfl,hlc,hcm,hc⟩:=hv;by_cases h0:bs.length=0
 ·have hb:bs=[]:=List.length_eq_zero_iff.1 h0;subst hb;clear hc hlc hcm;go_enter func156,ntmps156;go_wp2;go_ret;exact⟨_,rfl,cW.nil _ _,Below.refl _ _⟩
 ·obtain⟨b,off,rfl,hcell⟩:=hc.resolve_left h0;have hcv:Sem.run prog (convert 39 9 (.slice (some ⟨b,off,none⟩) bs.length cap)) w=.ok (.string ⟨bs.toArray⟩) w:=
   run_convert_bytes_back (P:=prog) w 39 9 5 ⟨b,off,none⟩ cap bs Tryz.underlying39 Tryz.underlying5 Tryz.underlying9 (fun j hj=>by
    rw[bI];exact hcell j hj)
  have aqZ:=Lib.run_convert_string_bytes (P:=prog) w 9 39 5 ⟨bs.toArray⟩ Tryz.underlying9 Tryz.underlying39 Tryz.underlying5;have h1:=ae (Fs w ⟨bs.toArray⟩ (by show bs.toArray.size<=_;simp;omega));have hb:=ae (Joins.below_bytesWorld w.heap.size w 5 ⟨bs.toArray⟩ (Nat.le_refl _));have h0':¬(bs.length:Int)=0:=by omega
  clear hcell hc hlc hcm;go_enter func156,ntmps156;go_wp2;go_ret;exact⟨_,rfl,h1.out,hb.out⟩
theorem WD(w:World):Calls prog 157 #[.int .i64 4] w fun e w'=>e=.returned (.bool true)/\w=w':=by
 go_enter func157,ntmps157;go_wp2;go_ret;exact⟨rfl,rfl⟩
theorem WE(w:World):Calls prog 157 #[.int .i64 8] w fun e w'=>e=.returned (.bool true)/\w=w':=by
 go_enter func157,ntmps157;go_wp2;go_ret;exact⟨rfl,rfl⟩
theorem O8(size:Nat)(hs:size=4\/size=8)(w:World):Calls prog 157 #[.int .i64 (size:Int)] w fun e w'=>e=.returned (.bool true)/\w=w':=by
 rcases hs with rfl | rfl
 ·exact WD w
 ·exact WE w
theorem Lv(v:Value)(bs:List UInt8)(x size:Nat)(w:World)(hs:size=4\/size=8)(hx:x<18446744073709551616)(hv:Rd w v bs)(hl:bs.length<=900) :
 Calls prog 108 #[v,.int .u64 (x:Int),.int .i64 (size:Int)] w (xB w (bs++le x size)):=by
 have Yz:=ae (CS v bs w hv af);have hsz:=ae (O8 size hs);have K6:size<=8:=by omega
 clear hv hs;go_enter func108,ntmps108;go_wp2_with fail;refine Yz.out.mono ?_;rintro e w1⟨v1,rfl,hb1,rT⟩;have cO:=ae hb1;have HBe:=ae rT;clear hb1 rT Yz;go_wp2;go_loopw [1,7,8] (fun y out i wr=>∃k:Nat,k<=size/\y=.int .u64 ((x/256^k:Nat):Int)/\i=.int .i64 (k:Int)/\cW wr w.heap.size out (bs++le x k)/\Below w.heap.size w wr) (fun _ _ i _=>size-(intOf i).toNat)
 case atStart=>exact⟨0,Nat.zero_le _,ai,rfl,by simpa[le]using cO.out,HBe.out⟩
 case round=>
  obtain⟨k,hk,rfl,rfl,hb2,zt⟩:=hrel;have cY:=ae hb2;have aaW:=ae zt;clear hb2 zt;by_cases hlt:k<size
  ·have hz:x/256^k<18446744073709551616:=Nat.lt_of_le_of_lt (Nat.div_le_self _ _) hx;have hzn:x/256^(k+1)=x/256^k/256:=by rw[Nat.pow_succ,Nat.div_div_eq_div_mul]
   have HZ:Hid (le x (k+1)=le x k++[UInt8.ofNat (x/256^k)]):=ae rfl;have HZN:=ae hzn;have hlen:(bs++le x k).length<=100000:=by rw[List.length_append,b9];omega
   have hsize:w.heap.size<=wr.heap.size:=aaW.out.size;clear hzn;generalize x/256^k=z at *;go_wp2_with fail;refine(hsz.out wr).mono ?_;rintro e w'⟨rfl,rfl⟩;have hby:Hid (bv (UInt8.ofNat z)=.int .u8 ((z%256:Nat):Int)):=ae (by unfold bv;simp);go_wp2_with (at_builtin;refine rX rfl _ _ rfl w.heap.size _ _ rfl (cY.out.alloc _) (UInt8.ofNat z) wr.heap.size 1 rfl ?c1 hlen ?c2 ?_);case c1=>rw[hby.out];simp
   case c2=>simp;omega
   intro v4 w4 hb4 hg4;have oB:Hid (cW w4 w.heap.size v4 (bs++le x (k+1))):=ae (by rw[HZ.out,<- List.append_assoc];simpa using hb4);have akH:Hid (Below w.heap.size w w4):=ae ((aaW.out.alloc hsize _).grown hg4 (by simp;omega) (fun k hk=>(cY.out.lt k hk).1));clear hb4 hg4;go_wp2;go_roundw
   case rel=>exact⟨k+1,af,by rw[HZN.out];rfl,by go_num,oB.out,akH.out⟩
   case measure=>simp[intOf];omega
  ·go_wp2;obtain rfl:k=size:=by omega
   go_ret;exact⟨_,rfl,cY.out,aaW.out⟩
theorem IL(e:aD)(w:World):Calls prog 73 #[.agg #[.int .u32 (e.t.toNat:Int),.int .u32 (e.h.toNat:Int),.int .u64 (e.x.toNat:Int),.int .u32 (e.m.toNat:Int)]] w (xB w e.bytes):=by
 have hput:=ae Lv;have h1:=e.t.toNat_lt;have h2:=e.h.toNat_lt;have h3:=e.x.toNat_lt;have h4:=e.m.toNat_lt;have HBY:Hid (e.bytes=le e.t.toNat 4++le e.h.toNat 4++le e.x.toNat 8++le e.m.toNat 4):=ae rfl;generalize e.bytes=bs at *;generalize e.t.toNat=et at *;generalize e.h.toNat=eh at *;generalize e.x.toNat=ex at *;generalize e.m.toNat=em at *;go_enter func73,ntmps73;have kR:Hid (Below w.heap.size w (w.alloc (.cells #[.int .u32 (et:Int),.int .u32 (eh:Int),.int .u64 (ex:Int),.int .u32 (em:Int)] 64))):=ae aj;have CT:Hid ((w.alloc (.cells #[.int .u32 (et:Int),.int .u32 (eh:Int),.int .u64 (ex:Int),.int .u32 (em:Int)] 64)).heap[w.heap.size]? = some (.cells #[.int .u32 (et:Int),.int .u32 (eh:Int),.int .u64 (ex:Int),.int .u32 (em:Int)] 64)):=ae (heap_alloc_new w _);have jO:=ae (cW.nil (w.alloc (.cells #[.int .u32 (et:Int),.int .u32 (eh:Int),.int .u64 (ex:Int),.int .u32 (em:Int)] 64)) w.heap.size).rd;go_wp2_with fail;generalize w.alloc (.cells #[.int .u32 (et:Int),.int .u32 (eh:Int),.int .u64 (ex:Int),.int .u32 (em:Int)] 64)=w0 at *;have cellsOf:Hid (∀W,Below w0.heap.size w0 W->W.cell? ⟨w.heap.size,0,none⟩=some (.int .u32 (et:Int))/\W.cell? ⟨w.heap.size,1,none⟩=some (.int .u32 (eh:Int))/\W.cell? ⟨w.heap.size,2,none⟩=some (.int .u64 (ex:Int))/\W.cell? ⟨w.heap.size,3,none⟩=some (.int .u32 (em:Int))):=ae (fun W hW=>by
  have hx:=(hW.block _ (eG CT.out)).trans CT.out;refine⟨?_,?_,?_,?_⟩<;>rw[ar hx]<;>rfl)
 refine(hput.out (.slice none 0 0) [] et 4 w0 (.inl rfl) af jO.out ag).mono ?_;rintro e1 w1⟨v1,rfl,hb1,rT⟩;have Dx:=ae rT;have nN:=ae hb1;obtain⟨-,k1,-,-⟩:=cellsOf.out w1 Dx.out;clear hb1 rT;go_wp2_with fail;refine(hput.out v1 (le et 4) eh 4 w1 (.inl rfl) af nN.out.rd (by rw[b9];omega)).mono ?_;rintro e2 w2⟨v2,rfl,hb2,zt⟩;have Hs:=ae (Dx.out.trans (zt.mono Dx.out.size));have CM:=ae hb2;obtain⟨-,-,k2,-⟩:=cellsOf.out w2 Hs.out;clear hb2 zt k1;go_wp2_with fail;refine(hput.out v2 (le et 4++le eh 4) ex 8 w2 (.inr rfl) af CM.out.rd (by rw[List.length_append,b9,b9];omega)).mono ?_;rintro e3 w3⟨v3,rfl,hb3,Gw⟩;have Cw:=ae (Hs.out.trans (Gw.mono Hs.out.size));have BS:=ae hb3;obtain⟨-,-,-,k3⟩:=cellsOf.out w3 Cw.out;clear hb3 Gw k2;go_wp2_with fail;refine(hput.out v3 (le et 4++le eh 4++le ex 8) em 4 w3 (.inl rfl) af BS.out.rd (by simp only[List.length_append,b9];omega)).mono ?_;rintro e4 w4⟨v4,rfl,hb4,P5⟩;have Cs:=ae (Cw.out.trans (P5.mono Cw.out.size));have MR:Hid (cW w4 w.heap.size v4 bs):=ae (by rw[HBY.out];exact hb4.base (Nat.le_trans kR.out.size Cw.out.size));clear hb4 P5 k3;go_wp2;go_ret;exact⟨_,rfl,MR.out,kR.out.trans (Cs.out.mono kR.out.size)⟩
end
section
open Go.RowKit Go.Maps
structure Held(w0 w:World)(pb db n:Nat)(o:au)(d:Dsk)(L:aH):Prop where
 aY:aR w pb db n o d L
 new:∀x t,o x=some t->w0.heap.size<=x
 below:Below w0.heap.size w0 w
 dP:d.dP=0
 dead:d.dead=false
 bO:d.bO=131072
section
variable {S:Nat->Prop} {w0 w w':World} {pb db n:Nat} {o o':au} {d d':Dsk} {L L' Ao:aH}
theorem Held.moved(h:Held w0 w pb db n o d L)(hm:Moved S n pb db w o d w' o' d' L')(hs:∀x,S x->w0.heap.size<=x):Held w0 w' pb db n o' d' L':=by
 have hz:=h.below.size;refine⟨hm.aY,fun x t hx=>?_,?_,(hm.on.calm h.dP).1,(hm.on.calm h.dP).2 h.dead,hm.on.bO.trans h.bO⟩
 ·rcases Nat.lt_or_ge x w.heap.size with hl | hg
  ·rw[hm.grow x hl]at hx;exact h.new x t hx
  ·omega
 ·refine h.below.trans ⟨hm.turn.os,hm.turn.tape,hm.turn.output,hm.size,fun k hk=>hm.turn.block k af ?_⟩;rintro(⟨t,h1,h2⟩| h1)
  ·have:=h.new k t h1;omega
  grind
theorem Held.later(h:Held w0 w pb db n o d L)(hb:Below w.heap.size w w'):Held w0 w' pb db n o d L:=⟨h.aY.below hb,h.new,h.below.trans (hb.mono h.below.size),h.dP,h.dead,h.bO⟩
theorem Held.fine(h:Held w0 w pb db n o d L)(hm:Moved S n pb db w o d w' o' d' L'){B c:Nat}(he:c=0\/jL d d' B c)(hn:B<=131072):c=0:=by
 refine he.elim id fun he=>?_;rcases he with⟨_,h1⟩|⟨_,h1⟩
 ·grind [bO]
 ·rw[(hm.on.calm h.dP).2 h.dead]at h1;cases h1
theorem Held.qY(h:Held w0 w pb db n o d L)(hm:Moved S n pb db w o d w' o' d' L'){c:Nat}(he:c=0\/lK d d' Ao c)(hn:need Ao<=131072):c=0:=
 h.fine hm (he.imp id fun e=>e.num hn) (Nat.le_refl _)
theorem Held.tick(h:Held w0 w pb db n o d L):d.tick.dead=false:=by
 grind [Dsk.tick,dP,dead]
theorem O9(q n:Nat):Sound (Dsk.new q) (List.replicate n bZ.none) []:=by
 have hb:∀fr∈List.replicate n bZ.none,fr=bZ.none:=fun fr h=>(List.mem_replicate.1 h).2;refine⟨ai,by simp[Dsk.new],fun x=>rfl,fun x h=>by simp[aB]at h,fun x ps fl h=>by simp[aB]at h,fun x f ls h=>by simp[aB]at h,fun fr h hf=>?_,fun fr h _=>hb fr h,fun i j fi fj h1 h2 hf=>?_,fun x s h=>by grind [Dsk.new]⟩
 ·rw[hb fr h]at hf;cases hf
 ·rw[hb fi (List.mem_of_getElem? h1)]at hf;cases hf
def kC(w:World)(v:Value)(es:List aD):Prop:=
 ∃a cap,v=.slice a es.length cap/\(es.length=0\/∃b off,a=some ⟨b,off,none⟩/\∀(j:Nat)(x:aD),es[j]? = some x->w.cell? ⟨b,off+j*4,none⟩=some (.int .u32 (x.t.toNat:Int))/\w.cell? ⟨b,off+j*4+1,none⟩=some (.int .u32 (x.h.toNat:Int))/\w.cell? ⟨b,off+j*4+2,none⟩=some (.int .u64 (x.x.toNat:Int))/\w.cell? ⟨b,off+j*4+3,none⟩=some (.int .u32 (x.m.toNat:Int)))
theorem kC.below{w w':World}{v:Value}{es:List aD}(h:kC w v es)(hb:Below w.heap.size w w'):kC w' v es:=by
 obtain⟨a,cap,rfl,h |⟨b,off,rfl,hc⟩⟩:=h
 ·exact⟨a,cap,rfl,.inl h⟩
 ·refine⟨_,cap,rfl,.inr ⟨b,off,rfl,fun j x hx=>?_⟩⟩;grind [br]
end
end
section
open Go.RowKit Go.Maps
def zh:Name:=⟨#[120]⟩
def CU(es:List aD)(L:aH):Prop:=(∃fl,aB L zh=some (ax es fl))/\(∀y,y≠zh->aB L y=none)/\need L<=4*es.length
theorem xC{L:aH}{nm:Name}{f:iB}(h:∀y,y≠nm->aB L y=none):aS L nm f=[(nm,f)]:=by
 unfold aS;have:bX L nm=[]:=by
  rw[List.eq_nil_iff_forall_not_mem];rintro⟨y,g⟩hy;have h1:y∈(bX L nm).map (·.1):=List.mem_map.2 ⟨_,hy,rfl⟩;rw[mem_keys,cD]at h1;split at h1
  ·cases h1
  ·rename_i hne
   rw[h y (by first | exact hne | exact fun e=>hne e.symm)]at h1;cases h1
 rw[this]
theorem CU.add{es:List aD}{x:aD}{L:aH}(h:CU es L):CU (es++[x]) (aS L zh (ax (es++[x]) false)):=by
 refine⟨⟨false,by rw[ay,if_pos rfl]⟩,fun y hy=>by rw[xC h.2.1];rw[<- xC (L:=[]) (fun _ _=>rfl),ay,if_neg hy];rfl,?_⟩;rw[xC h.2.1,j6];have:=cR (es++[x]) false;show _+0<=_;omega
def Nn(w:World)(n:Nat)(es:List aD)(e:Ending)(w':World):Prop:=
 ∃db pb o d L,e=.returned (.tuple #[ptrTo db,ptrTo pb])/\Held w w' pb db n o d L/\CU es L
theorem WG(HW:aP)(n:Nat)(h1:1<=n)(h2:n<=4096)(v:Value)(es:List aD)(w:World)(hv:kC w v es)(hl:es.length<=10000) :
 Calls prog 37 #[.int .i64 (n:Int),v] w (Nn w n es):=by
 have Kb:Hid (Calls prog 69 #[.int .i64 131072] w fun e w'=>∃db o,e=.returned (.tuple #[ptrTo db,.int .i64 0])/\cI w' db o (Dsk.new 131072)/\Below w.heap.size w w'/\∀x t,o x=some t->w.heap.size<=x):=ae (GJ 131072 ag w);have hnp:Hid (∀W db o,cI W db o (Dsk.new 131072)->Calls prog 70 #[ptrTo db,.int .i64 (n:Int)] W (yq W db n o (Dsk.new 131072) [])):=ae (fun W db o h=>Hq h n h1 h2 (O9 _ n));have HV:=ae hv;obtain⟨a,cap,rfl,-⟩:=hv;unfold ptrTo at *;go_enter func37,ntmps37;go_wp2_with fail;refine Kb.out.mono ?_;rintro e w1⟨db,o1,rfl,mO,hb1,BU⟩;have hcp:=ae (hnp.out w1 db o1 mO);have cO:=ae hb1;have GK:=ae BU;clear mO hb1 BU Kb hnp;unfold ptrTo at *;go_wp2_with fail;refine hcp.out.mono ?_;rintro e w2⟨pb,o2,rfl,ko,hb2,hg2,N4⟩;have YA:Hid (Held w w2 pb db n o2 (Dsk.new 131072) []):=ae ⟨ko,fun x t hx=>by
  rcases Nat.lt_or_ge x w1.heap.size with hl | hg
  ·rw[hg2 x hl]at hx;exact GK.out x t hx
  ·exact Nat.le_trans cO.out.size hg,cO.out.trans (hb2.mono cO.out.size),rfl,rfl,rfl⟩
 clear ko hb2 hg2 N4 hcp;have hc0:cZ (Dsk.new 131072) [] zh=0:=by decide
 have qj:=ae (kJ YA.out.aY zh ag);unfold fO at qj;rw[hc0]at qj;simp only[if_true]at qj;clear hc0;have HOP:Hid (∀W o' d' L',aR W pb db n o' d' L'->d'.dead=false->CU [] L'->Calls prog 67 #[ptrTo pb,.string zh,.int .i64 20] W (dW W pb zh 20 0)):=ae (fun W o' d' L' hp hd hr=>by
  have h3:=dX (sz:=20) hp zh ag ag ag;obtain⟨fl,MU⟩:=hr.1;rw[gX hp MU,hd]at h3;exact h3)
 have KJ:Hid (∀W o' d' L' sb rv(x:aD)(k:Nat),aR W pb db n o' d' L'->aF W sb pb zh 20->o' sb=none->CU (es.take k) L'->Rd W rv x.bytes->(∀y,rv.ownBlock=some y->o' y=none)->Calls prog 72 #[ptrTo sb,rv] W (jv (fun _=>False) n pb db W o' d' L' (aS L' zh (ax (es.take k++[x]) false)))):=ae (fun W o' d' L' sb rv x k hp hst ho hr BP hro=>by
  obtain⟨fl,MU⟩:=hr.1;have h3:=ku HW hp hst ho ag ag MU (fw _) (by rw[List.length_map,List.length_take];omega) BP x.eF hro;unfold ax;rw[List.map_append];exact h3)
 have YB:Hid (CU [] (aS [] zh (.inl (([]:List Pg),true)))):=ae ⟨⟨true,by rw[ay,if_pos rfl];rfl⟩,fun y hy=>by rw[ay,if_neg hy];rfl,Nat.le_refl _⟩;unfold ptrTo zh at *;go_wp2_with fail;refine qj.out.mono ?_;rintro e w3⟨d3,o3,rfl,eE,hx3,-⟩;have MO:=ae (hx3 trivial);have Gk:=ae (YA.out.moved eE (fun _ h=>h.elim));clear eE hx3 qj;have hop:=ae (HOP.out w3 o3 d3 _ Gk.out.aY MO.out YB.out);go_wp2_with fail;refine hop.out.mono ?_;rintro e w4⟨v4,rfl,hb4,pq,-⟩;obtain⟨sb,rfl,EO,CB⟩:=pq rfl;have uF:=ae EO;have V7:Hid (o3 sb=none):=ae (Gk.out.aY.fresh CB);have HH4:=ae (Gk.out.later hb4);clear pq EO CB hb4 hop;unfold ptrTo at *;obtain⟨M,hM⟩:∃M,M=es.length:=⟨_,rfl⟩;rw[<- hM]at hl;have HV':=HV;rw[<- hM]at HV' ⊢;have Qr:=ae hM;clear hM HV;go_wp2;go_loopw [10] (fun i wr=>∃(k:Nat)(d':Dsk)(o':au)(L':aH),k<=M/\i=.int .i64 (k:Int)/\Held w wr pb db n o' d' L'/\CU (es.take k) L'/\aF wr sb pb ⟨#[120]⟩ 20/\o' sb=none) (fun i _=>M-(intOf i).toNat)
 case atStart=>exact⟨0,d3,o3,_,Nat.zero_le _,rfl,HH4.out,YB.out,uF.out,V7.out⟩
 case round=>
  obtain⟨k,d5,o5,L5,hk,rfl,UK,Lx,afk,afl⟩:=hrel;have Qs:=ae UK;have DW:=ae Lx;have Ix:=ae afk;have Iy:=ae afl;clear UK Lx afk afl;by_cases hlt:k<M
  ·have yS:k<es.length:=by rw[<- Qr.out];exact hlt
   have hx:es[k]? = some es[k]:=List.getElem?_eq_getElem yS;have qT:Hid (es.take (k+1)=es.take k++[es[k]]):=ae (List.take_succ_eq_append_getElem yS);obtain⟨a',cap',Cz,hce⟩:=HV'.out;obtain⟨rfl,-,rfl⟩:a=a'/\M=es.length/\cap=cap':=by simpa using Cz
   obtain⟨b,off,rfl,Qt⟩:=hce.resolve_left af;obtain⟨q0,q1,q2,q3⟩:=Qt k _ hx;generalize es[k]=x at *;clear hce Qt Cz hx yS;have z0:=br Qs.out.below q0;have z1:=br Qs.out.below q1;have z2:=br Qs.out.below q2;have z3:=br Qs.out.below q3;clear q0 q1 q2 q3;have Qm:=ae (IL x wr);go_wp2_with fail;refine Qm.out.mono ?_;rintro e w6⟨v6,rfl,Gg,Ze⟩;have lq:=ae (KJ.out w6 o5 d5 L5 sb v6 x k (Qs.out.aY.below Ze) (Ix.out.below Ze) Iy.out DW.out Gg.rd (fun y hy=>Qs.out.aY.fresh (Gg.lt y hy).1));have HH6:=ae (Qs.out.later Ze);have SF:=ae (Ix.out.below Ze);clear Gg Ze Qm z0 z1 z2 z3;go_wp2_with fail;refine lq.out.mono ?_;rintro e w7⟨c7,d7,o7,rfl,rW,he7⟩;have hra:=DW.out.add (x:=x);have N8:c7=0:=HH6.out.qY rW he7 (by
    have:=DW.out.2.2;rw[List.length_take]at this;omega)
   subst N8;rw[if_pos rfl]at rW;rw[<- qT.out]at hra rW;have HH7:=ae (HH6.out.moved rW (fun _ h=>h.elim));have Fj:=ae hra;have SG:=ae (SF.out.moved rW Iy.out (fun h=>h));have aaN:=ae (rW.free SF.out.lt Iy.out);clear rW he7 hra lq HH6 SF;go_wp2;go_roundw
   case rel=>exact⟨k+1,d7,o7,_,af,by go_num,HH7.out,Fj.out,SG.out,aaN.out⟩
   case measure=>simp[intOf];omega
  ·go_wp2;go_returns;have hkM:k=es.length:=by rw[<- Qr.out];omega
   exact⟨db,pb,o5,d5,L5,rfl,Qs.out,by have:=DW.out;rwa [List.take_of_length_le af]at this⟩
end
section
open Go.ChangeShapes Go.WideShapes Go.ChangeAt Go.RowKit Go.Joins
theorem Qv:laidOutB prog=true:=by kernel_rfl
theorem A9{w:World}{a:Addr}{v:Value}(h:w.cell? a=some v):a.spot=none:=by
 obtain⟨b,o,s⟩:=a;cases s with
 |none=>rfl
 |some s=>
   unfold World.cell? at h;simp at h;split at h<;>cases h
theorem Fu{z:Int}(h:(Lit.int .u32 z).wf=true):z=((UInt32.ofNat z.toNat).toNat:Int):=by
 simp[Lit.wf]at h;have h0:IntKind.u32.min=0:=rfl;have h1:IntKind.u32.max=4294967295:=rfl;rw[h0,h1]at h;rw[UInt32.toNat_ofNat'];omega
theorem WH{z:Int}(h:(Lit.int .u64 z).wf=true):z=((UInt64.ofNat z.toNat).toNat:Int):=by
 simp[Lit.wf]at h;have h0:IntKind.u64.min=0:=rfl;have h1:IntKind.u64.max=18446744073709551615:=rfl;rw[h0,h1]at h;rw[UInt64.toNat_ofNat'];omega
theorem zG{z:Int}(h:(Lit.int .u8 z).wf=true):∃k:Nat,k<256/\z=(k:Int):=by
 simp[Lit.wf]at h;have h0:IntKind.u8.min=0:=rfl;have h1:IntKind.u8.max=255:=rfl;rw[h0,h1]at h;exact⟨z.toNat,af,af⟩
theorem Pa:prog.cellsOf 64=4:=by kernel_rfl
theorem Pb:prog.cellsOf 26=1:=by kernel_rfl
theorem Pc:prog.cellsOf 62=1:=by kernel_rfl
theorem Fv{H:Type}{enc:TypeId×Value->H}{W:World}{sp:Nat->Bool}{a:Option Addr}{len cap:Nat}{d:DataW H}{p:List MemPlace}(h:DataW.Trod enc prog W 0 sp true 22 (.slice a len cap) d p) :
 ∃vs,kC W (.slice a len cap) vs:=by
 obtain⟨fuel,hf⟩:=h;rcases Deep.open_slice Tryz.underlying22 hf with⟨hcs,-⟩|⟨a',len',cap',m,n,D,Pl,hcs,-,hl,-,hm,-,hx⟩
 ·simp[Value.cells]at hcs;obtain⟨rfl,rfl,rfl⟩:=hcs;exact⟨[],none,0,rfl,.inl rfl⟩
 ·simp[Value.cells]at hcs;obtain⟨rfl,rfl,rfl⟩:=hcs;have hlm:len<=m:=by rw[hm];split<;>omega
  rw[Pa]at hx;have each:∀i,i<len->∃x:aD,W.cell? (a'.add (i*4))=some (.int .u32 (x.t.toNat:Int))/\W.cell? (a'.add (i*4+1))=some (.int .u32 (x.h.toNat:Int))/\W.cell? (a'.add (i*4+2))=some (.int .u64 (x.x.toNat:Int))/\W.cell? (a'.add (i*4+3))=some (.int .u32 (x.m.toNat:Int)):=by
   intro i hi;obtain⟨cs',h1,h2⟩:=hx i af;obtain⟨_,hlen,hcell⟩:=World.cells?_some h1;obtain⟨xs,k,hk,hxy,_,El,hf⟩:=DataW.trod_struct Tryz.underlying64 h2;match xs,El,cs',hlen with
   | [y0,y1,y2,y3],_,[v0,v1,v2,v3],_=>
     have g0:=hf 0 _ rfl;have g1:=hf 1 _ rfl;have g2:=hf 2 _ rfl;have g3:=hf 3 _ rfl;simp[Pb,Pc]at g0 g1 g2 g3;obtain⟨n0,q0,-,w0⟩:=DataW.trod_int Tryz.underlying26 g0;obtain⟨n1,q1,-,w1⟩:=DataW.trod_int Tryz.underlying26 g1;obtain⟨n2,q2,-,w2⟩:=DataW.trod_int Tryz.underlying62 g2;obtain⟨n3,q3,-,w3⟩:=DataW.trod_int Tryz.underlying26 g3;obtain⟨rfl⟩:=q0;obtain⟨rfl⟩:=q1;obtain⟨rfl⟩:=q2;obtain⟨rfl⟩:=q3;have e0:=hcell 0 af;have e1:=hcell 1 af;have e2:=hcell 2 af;have e3:=hcell 3 af;rw[Deep.add_add]at e0 e1 e2 e3;exact⟨⟨UInt32.ofNat n0.toNat,UInt32.ofNat n1.toNat,UInt64.ofNat n2.toNat,UInt32.ofNat n3.toNat⟩,by rw[<- Fu w0];simpa using e0,by rw[<- Fu w1];simpa using e1,by rw[<- WH w2];simpa using e2,by rw[<- Fu w3];simpa using e3⟩
  have hv:∃vs:List aD,vs.length=len/\∀(j:Nat)(x:aD),vs[j]? = some x->W.cell? (a'.add (j*4))=some (.int .u32 (x.t.toNat:Int))/\W.cell? (a'.add (j*4+1))=some (.int .u32 (x.h.toNat:Int))/\W.cell? (a'.add (j*4+2))=some (.int .u64 (x.x.toNat:Int))/\W.cell? (a'.add (j*4+3))=some (.int .u32 (x.m.toNat:Int)):=by
   clear hx hf;generalize len=N at *;clear hl hm hlm;induction N with
   |zero=>exact⟨[],rfl,fun j x hj=>by cases hj⟩
   |succ N ih=>
     obtain⟨vs,h1,h2⟩:=ih (fun i hi=>each i af);obtain⟨x,hx⟩:=each N af;refine⟨vs++[x],by simp[h1],fun j y hj=>?_⟩;rcases Nat.lt_or_ge j vs.length with hlt | yR
     ·rw[List.getElem?_append_left hlt]at hj;exact h2 j y hj
     ·rw[List.getElem?_append_right yR]at hj;have:j-vs.length=0:=by
       rcases Nat.eq_zero_or_pos (j-vs.length) with h | h
       ·exact h
       ·rw[List.getElem?_eq_none (by simp;omega)]at hj;cases hj
      rw[this]at hj;cases hj;rw[show j=N by omega];exact hx
  obtain⟨vs,h1,h2⟩:=hv;subst h1;refine⟨vs,some a',cap,rfl,?_⟩;rcases Nat.eq_zero_or_pos vs.length with h0 | h0
  ·exact .inl h0
  ·refine .inr ⟨a'.block,a'.off,?_,?_⟩
   ·have h3:=(h2 0 vs[0] (List.getElem?_eq_getElem h0)).1;have h4:=A9 (a:=a') (by simpa[Addr.add]using h3);obtain⟨b,o,s⟩:=a';cases h4;rfl
   ·have h3:=(h2 0 vs[0] (List.getElem?_eq_getElem h0)).1;have h4:=A9 (a:=a') (by simpa[Addr.add]using h3);intro j x hj;have h5:=h2 j x hj;obtain⟨b,o,s⟩:=a';cases h4;simp only[bI]at h5;exact⟨h5.1,by rw[Nat.add_assoc];exact h5.2.1,by rw[Nat.add_assoc];exact h5.2.2.1,by rw[Nat.add_assoc];exact h5.2.2.2⟩
end
section
open Go.RowKit Go.Maps
section
variable {w0 w w':World} {pb db n:Nat} {o o':au} {d d':Dsk} {L L':aH}
theorem pT(c:UInt8)(k:Nat):aK c k≠zh:=by
 grind [aK,zh]
theorem afm(k:Nat):dC k≠zh:=by
 intro e;have:=xl k;rw[e]at this;revert this
 decide
def IP(w0:World)(pb db n:Nat)(gen:Nat)(es:List aD)(vs:List cj)(L:aH)(e:Ending)(w':World):Prop:=
 ∃d' o',e=.returned (.int .i64 0)/\Held w0 w' pb db n o' d' (fT L gen es vs)
theorem Pe(HW:aP){m:Nat}(zb:dZ m)(h:Held w0 w pb db n o d L)(hn:8<=n){es:List aD}(hr:CU es L){gen:Nat}(hg:jP w o gen)(hm:es.length<=m)(hes:es.length<=1000){v:Value}{vs:List cj}(hvs:fG w v vs)(mG:∀x,v.ownBlock=some x->o x=none)(ZO:vs.length<=1000) :
 Calls prog 45 #[ptrTo pb,.string zh,.int .i64 (gen:Int),v] w (IP w0 pb db n gen es vs L):=by
 obtain⟨fl,MU⟩:=hr.1;refine(sG HW zb h.aY hn hg MU ag hm (hr.2.1 _ (pT _ _)) (hr.2.1 _ (pT _ _)) (hr.2.1 _ (pT _ _)) (fun k=>hr.2.1 _ (afm k)) hvs mG af).mono ?_;rintro e w'⟨c,d',o',L',rfl,ql,-,hc⟩;have Np:=hr.2.2;have h0:c=0:=h.fine ql (hc.imp (fun h=>h.1) id) af;subst h0;rcases hc with⟨_,rfl⟩| hc
 ·exact⟨d',o',rfl,h.moved ql (fun _ h=>h.elim)⟩
 grind [jL.ne]
theorem Pf{b:Bool}{l out:List aD}(h:dJ b l out):Fq b out:=by
 intro i j x y hi hj eY;rcases Nat.lt_or_ge i j with hlt | yR
 ·have mU:=aN hi;have lQ:=aN hj;rw[List.getElem?_eq_getElem mU]at hi;rw[List.getElem?_eq_getElem lQ]at hj;have h1:=List.pairwise_iff_getElem.1 h.gU i j mU lQ hlt;grind [ES]
 grind
theorem yG(b:Bool)(l:List aD):Fq b (aC b l):=Pf (bL b l)
theorem yH(L:aH)(gen:Nat)(es:List aD)(vs:List cj) :
 aB (fT L gen es vs) (aK 101 gen)=some (ax (aC false es) true)/\aB (fT L gen es vs) (aK 114 gen)=some (ax (aC true es) true)/\aB (fT L gen es vs) (aK 118 gen)=some (b6 vs true):=by
 grind [iE,fT,ay]
theorem Ba(L:aH)(gen:Nat)(es:List aD)(vs:List cj):need (fT L gen es vs)<=need L+8*es.length+4*vs.length:=by
 grind [fT,cL,fY,cR,b8]
end
end
section
open Go.RowKit Go.Maps
def WI(w:World)(v:Value)(vs:List cj):Prop:=
 ∃a cap,v=.slice a vs.length cap/\(vs.length=0\/∃b off,a=some ⟨b,off,none⟩/\∀(j:Nat)(x:cj),vs[j]? = some x->w.cell? ⟨b,off+j*3,none⟩=some (.int .u32 (x.r.toNat:Int))/\w.cell? ⟨b,off+j*3+1,none⟩=some (.int .u32 (x.l.toNat:Int))/\w.cell? ⟨b,off+j*3+2,none⟩=some (.int .u32 (x.g.toNat:Int)))
theorem WI.below{w w':World}{v:Value}{vs:List cj}(h:WI w v vs)(hb:Below w.heap.size w w'):WI w' v vs:=by
 obtain⟨a,cap,rfl,h |⟨b,off,rfl,hc⟩⟩:=h
 ·exact⟨a,cap,rfl,.inl h⟩
 ·refine⟨_,cap,rfl,.inr ⟨b,off,rfl,fun j x hx=>?_⟩⟩;grind [br]
def cJ:List cj->List Value
 | []=>[]
 |x::l=>[.int .u32 (x.r.toNat:Int),.int .u32 (x.l.toNat:Int),.int .u32 (x.g.toNat:Int)]++cJ l
theorem om(l:List cj):(cJ l).length=l.length*3:=by
 induction l with
 |nil=>rfl
 |cons e l ih=>grind [cJ]
theorem iR{l:List cj}{i:Nat}{x:cj}(h:l[i]? = some x){j:Nat}(hj:j<3):(cJ l)[i*3+j]? = [Value.int .u32 (x.r.toNat:Int),.int .u32 (x.l.toNat:Int),.int .u32 (x.g.toNat:Int)][j]? := by
 induction l generalizing i with
 |nil=>cases h
 |cons q l ih=>
   rw[cJ];cases i with
   |zero=>
     grind
   |succ i=>
     grind
theorem Lz(l:List cj):∀u∈cJ l,u.oneCell'=true:=by
 induction l with
 |nil=>intro u hu;cases hu
 |cons x l ih=>
   intro u hu;rw[cJ,List.mem_append]at hu;rcases hu with hu | hu
   ·simp at hu;rcases hu with rfl | rfl | rfl<;>rfl
   grind
theorem WI.cells{w:World}{v:Value}{vs:List cj}{b off n cap:Nat}(h:WI w v vs)(hv:v=.slice (some ⟨b,off,none⟩) n cap):∀j u,(cJ vs)[j]? = some u->w.cell? ((⟨b,off,none⟩:Addr).add j)=some u:=by
 intro j u hj;obtain⟨a,cap',Cz,hc⟩:=h;have lQ:=aN hj;rw[om]at lQ;rcases hc with h0 |⟨b',off',rfl,hc⟩
 ·omega
 ·rw[hv]at Cz;obtain⟨⟨rfl,rfl⟩,-,-⟩:(b=b'/\off=off')/\n=vs.length/\cap=cap':=by grind
  have hi:j/3<vs.length:=by omega
  obtain⟨h1,h2,h3⟩:=hc (j/3) vs[j/3] (List.getElem?_eq_getElem hi);have hg:=iR (List.getElem?_eq_getElem hi) (j:=j%3) af;grind [bI]
theorem xD:(prog.info? 55).map (fun i=>(i.zero,i.size,i.bytes))=some (some (.agg #[.int .u32 0,.int .u32 0,.int .u32 0]),3,12):=by kernel_rfl
theorem wpList_want{P:Program}{ops:Array Oper}{Q:Exit->Act->World->Prop}{a:Act}{w:World}{rest:List Oper}{o:Oper}(hw:Region.wanted o (yielded ops a.tmps)=true)(h:∀K:Act->World->Prop,(∀a w,wpList P ops Q rest a w->K a w)->o.wp P a w K Q):wpList P ops Q (o::rest) a w:=
 wpList_step fun K hK=>by grind
theorem zi(w:World)(T:TypeId)(size:Nat):(w.alloc (.cells #[] T)).ownsRow w.heap.size T size (.slice (some ⟨w.heap.size,0,none⟩) 0 0) 0 []:=
 ⟨ai,.inr ⟨w.heap.size,0,#[],rfl,Nat.le_refl _,heap_alloc_new w _,Nat.le_refl _,Nat.zero_le _,ai,ai⟩⟩
theorem ky{w:World}{base:Nat}{v:Value}{vs:List cj}(h:w.ownsRow base 55 3 v vs.length (cJ vs)):fG w v vs/\∀x,v.ownBlock=some x->base<=x:=by
 refine⟨?_,aI h⟩;obtain⟨hl,⟨rfl,h0⟩|⟨g,cap,cur,rfl,hbg,hg,Zc,hcm,hcs,QC⟩⟩:=h
 ·have:=List.eq_nil_of_length_eq_zero h0;subst this;exact⟨none,0,rfl,Nat.le_refl _,Nat.zero_le _,.inl rfl⟩
 ·refine⟨_,cap,rfl,Zc,hcm,.inr ⟨g,0,rfl,fun i hi=>?_⟩⟩;have hc:∀(j:Nat)(u:Value),(cJ vs)[j]? = some u->w.cell? ⟨g,j,none⟩=some u:=fun j u hj=>by
   have:=World.ownsRow.cells (w:=w) (base:=base) (e:=55) (size:=3) (v:=.slice (some ⟨g,0,none⟩) vs.length cap) (n:=vs.length) (xs:=cJ vs) ⟨hl,.inr ⟨g,cap,cur,rfl,hbg,hg,Zc,hcm,hcs,QC⟩⟩ (g:=g) rfl j u hj;grind [bI]
  have ik:=List.getElem?_eq_getElem hi;refine⟨hc _ _ ?_,hc _ _ ?_,hc _ _ ?_⟩
  ·have:=iR ik (j:=0) ag;grind
  ·rw[Nat.zero_add,iR ik ag];rfl
  ·rw[Nat.zero_add,iR ik ag];rfl
theorem k8{w:World}{ops:Array Oper}{rest:List Oper}{o:Oper}{a:Act}{Q:Exit->Act->World->Prop}(hwd:Region.wanted o (yielded ops a.tmps)=true)(s x:Operand)(ho:o.op=.call { callee:=.builtin .append,args:=#[s,x],argTypes:=#[23,23] })(hs:a.eval s=.slice (some ⟨w.heap.size,0,none⟩) 0 0)(v:Value)(vs:List cj)(hx:a.eval x=v)(hr:WI w v vs)(hl:vs.length<=100000)(k:∀v' w',Hid (fG w' v' vs)->Hid (∀x,v'.ownBlock=some x->w.heap.size<=x)->Hid (Below w.heap.size w w')->wpList prog ops Q rest (a.put o.dst v') w') :
 wpList prog ops Q (o::rest) a (w.alloc (.cells #[] 55)):=by
 obtain⟨i0,tK,hz0,hz1,hz2⟩:=info_parts xD;have hown:=zi w 55 3;refine wpList_want hwd fun K hK=>?_;have hrun:∃v' w',(Builtin.append_ #[23,23] o.type #[.slice (some ⟨w.heap.size,0,none⟩) 0 0,v]).run prog (w.alloc (.cells #[] 55))=.ok v' w'/\w'.ownsRow w.heap.size 55 3 v' vs.length (cJ vs)/\Below w.heap.size w w':=by
  have hrw:=hr;obtain⟨ad,cap,rfl,hc⟩:=hrw;cases ad with
  |none=>
    have h0:vs=[]:=by
     grind
    subst h0;have Kj:∀ad,(storeCells ad []).run prog (w.alloc (.cells #[] 55))=.ok () (w.alloc (.cells #[] 55)):=fun _=>rfl;exact⟨_,_,by simp[Builtin.append_,run_underlying Tryz.underlying23,sizeOf,typeInfo,tK,Builtin.lenOf,Builtin.firstCells,Kj],hown,ak.alloc (Nat.le_refl _) _⟩
  |some ad=>
    have lW:∀j u,(cJ vs)[j]? = some u->(w.alloc (.cells #[] 55)).cell? (ad.add j)=some u:=fun j u hj=>by
     have lQ:=aN hj;rw[om]at lQ;rcases hc with h0 |⟨b,off,ha,_⟩
     ·omega
     ·cases ha;have h1:=hr.cells rfl j u hj;rw[bI]at *;exact br aj h1
    obtain⟨v',w',g1,g2,g3,g4,g5⟩:=run_append_own_at (P:=prog) (w.alloc (.cells #[] 55)) w.heap.size 23 o.type 55 i0 _ 3 12 Tryz.underlying23 tK hz0 hz1 hz2 rfl ag _ 0 [] hown ad vs.length cap (cJ vs) (om vs) lW (Lz vs) (by grind [maxLen]) af ai;refine⟨v',w',g1,by grind,?_⟩;obtain⟨q1,q2,q3,q4,q5⟩:=g3;refine⟨q1,q2,q3,by simp at q4;omega,fun k hk=>?_⟩;grind [Value.ownBlock,MapKept.heap_alloc]
 obtain⟨v',w',h1,h2,h3⟩:=hrun;obtain⟨h4,h5⟩:=ky h2;unfold Oper.wp execOp;simp only[ho,resolve,invoke,builtin,Sem.run_bind,Sem.run_pure,Result.andThen_ok,List.map_toArray,List.map_cons,List.map_nil,hs,hx,h1];exact hK _ _ (k v' w' (ae h4) (ae h5) (ae h3))
end
section
open Go.ChangeShapes Go.WideShapes Go.ChangeAt Go.RowKit Go.Joins
theorem LA:prog.cellsOf 22=1:=by kernel_rfl
theorem WJ:prog.cellsOf 5=1:=by kernel_rfl
theorem LB{H:Type}{enc:TypeId×Value->H}{W:World}{sp:Nat->Bool}{n:Nat}{t e:TypeId}{v:Value}{y:DataW H×List MemPlace}(ht:prog.underlying t=some (.slice e))(h:DataW.trod enc prog W 0 sp true n t [v]=some y) :
 ∃a len cap,v=.slice a len cap:=by
 rcases Deep.open_slice ht h with⟨hcs,-⟩|⟨a',len',cap',m,n,D,Pl,hcs,-⟩
 ·simp at hcs;exact⟨_,_,_,hcs⟩
 ·simp at hcs;exact⟨_,_,_,hcs⟩
theorem Fw:prog.cellsOf 69=3:=by kernel_rfl
theorem zF{H:Type}{enc:TypeId×Value->H}{W:World}{sp:Nat->Bool}{r:Reach}{b0:Nat}{v:Value}{d:DataW H}{p:List MemPlace}(hval:Value.okWide prog W r b0 69 v)(h:DataW.Trod enc prog W 0 sp true 69 v d p) :
 ∃(k:Nat)(ev:Value)(es:List aD)(fr:Nat),v=.agg #[.int .u8 (k:Int),ev,.int .u8 (fr:Int)]/\kC W ev es/\k<256/\fr<256:=by
 obtain⟨cs,rfl,hsz⟩:=okWide_struct Tryz.underlying69 hval;obtain⟨fuel,hf⟩:=h;obtain⟨xs,k,hk,hxy,hl,El,Ha⟩:=DataW.trod_struct Tryz.underlying69 hf;rw[Fw]at hsz;obtain⟨cs⟩:=cs;match xs,El,cs,hsz with
 | [y0,y1,y2],_,[v0,v1,v2],_=>
   have g0:=Ha 0 _ rfl;have g1:=Ha 1 _ rfl;have g2:=Ha 2 _ rfl;simp[LA,WJ,Value.cells]at g0 g1 g2;obtain⟨n0,q0,-,w0⟩:=DataW.trod_int Tryz.underlying5 g0;obtain⟨a1,l1,c1,rfl⟩:=LB Tryz.underlying22 g1;obtain⟨n2,q2,-,w2⟩:=DataW.trod_int Tryz.underlying5 g2;obtain⟨rfl⟩:=q0;obtain⟨rfl⟩:=q2;obtain⟨es,hes⟩:=Fv (d:=y1.1) (p:=y1.2) ⟨_,g1⟩;obtain⟨k,hk,rfl⟩:=zG w0;obtain⟨fr,dQ,rfl⟩:=zG w2;exact⟨k,_,es,fr,rfl,hes,hk,dQ⟩
end
section
open Go.RowKit Go.Maps
abbrev fC:=Nat×Nat
def iF(a b:fC):Prop:=a.1<b.1\/a.1=b.1/\a.2<b.2
instance(a b:fC):Decidable (iF a b):=by unfold iF;infer_instance
theorem iF.asym{a b:fC}(h:iF a b):¬iF b a:=by grind [iF]
theorem iF.oU{a b c:fC}(h:¬iF b a)(k:¬iF c b):¬iF c a:=by grind [iF]
theorem iF.mA(a:fC):¬iF a a:=by grind [iF]
theorem iF.eq{a b:fC}(h:¬iF a b)(k:¬iF b a):a=b:=by
 grind [iF]
def gI(l:List fC)(i:Nat):fC:=l.getD i (0,0)
def sw(l:List fC)(i j:Nat):List fC:=(l.set i (gI l j)).set j (gI l i)
theorem IQ{l:List fC}{i:Nat}{x:fC}(h:l[i]? = some x):gI l i=x:=by grind [gI]
theorem Nq{l:List fC}{i:Nat}(h:i<l.length):l[i]? = some (gI l i):=by
 grind [gI]
theorem jc(l:List fC)(i j:Nat):(sw l i j).length=l.length:=by unfold sw;simp
theorem YC{l:List fC}{i j:Nat}(hi:i<l.length)(hj:j<l.length)(k:Nat):gI (sw l i j) k=if k=j then gI l i else if k=i then gI l j else gI l k:=by
 grind [sw,gI]
theorem Nr{l:List fC}{i j:Nat}(hi:i<l.length)(hj:j<l.length):(sw l i j).Perm l:=by
 have h:=Array.swap_perm (xs:=l.toArray) (i:=i) (j:=j) af af;have h2:=h.toList;have e:(l.toArray.swap i j af af).toList=sw l i j:=by
  unfold sw;rw[Array.swap_def];rw[IQ (List.getElem?_eq_getElem hi),IQ (List.getElem?_eq_getElem hj)];simp
 grind
def DX(l:List fC)(i:Nat):Prop:=(∀j,0<j->j<l.length->j≠i->¬iF (gI l j) (gI l ((j-1)/2)))/\(0<i->∀j,0<j->j<l.length->(j-1)/2=i->¬iF (gI l j) (gI l ((i-1)/2)))
def DY(l:List fC)(i:Nat):Prop:=(∀j,0<j->j<l.length->(j-1)/2≠i->¬iF (gI l j) (gI l ((j-1)/2)))/\(0<i->∀j,0<j->j<l.length->(j-1)/2=i->¬iF (gI l j) (gI l ((i-1)/2)))
def iq(l:List fC):Prop:=∀j,0<j->j<l.length->¬iF (gI l j) (gI l ((j-1)/2))
theorem Ns{l:List fC}{i:Nat}(h:DX l i)(hi:i=0\/¬iF (gI l i) (gI l ((i-1)/2))):iq l:=by
 intro j h1 h2;by_cases e:j=i
 ·grind
 ·exact h.1 j h1 h2 e
theorem WK{l:List fC}{i:Nat}(h:DX l i)(h0:0<i)(hi:i<l.length)(hl:iF (gI l i) (gI l ((i-1)/2))):DX (sw l i ((i-1)/2)) ((i-1)/2):=by
 obtain⟨ha,hb⟩:=h;generalize hp:(i-1)/2=p at *;have hpi:p<i:=by omega
 have hg:=YC hi (show p<l.length by omega);refine⟨fun j h1 h2 h3=>?_,fun QN j h1 h2 h3=>?_⟩
 ·rw[jc]at h2;rw[hg,hg,if_neg h3];by_cases e1:j=i
  ·grind [iF.asym]
  ·rw[if_neg e1];have:=ha j h1 h2 e1;by_cases e2:(j-1)/2=p
   ·grind [iF.oU,iF.asym]
   grind
 ·rw[jc]at h2;rw[hg,hg,if_neg (show ¬(p-1)/2=p by omega),if_neg (show ¬(p-1)/2=i by omega),if_neg (show ¬j=p by omega)];have mH:=ha p QN af af;by_cases e1:j=i
  ·grind
  grind [iF.oU]
theorem DZ{l:List fC}{i:Nat}(h:DY l i)(hi:∀j,0<j->j<l.length->(j-1)/2=i->¬iF (gI l j) (gI l i)):iq l:=by
 intro j h1 h2;by_cases e:(j-1)/2=i
 ·grind
 ·exact h.1 j h1 h2 e
theorem Ph{l:List fC}{i c:Nat}(h:DY l i)(h0:0<c)(hc:c<l.length)(hci:(c-1)/2=i)(hl:iF (gI l c) (gI l i))(ho:∀j,0<j->j<l.length->(j-1)/2=i->¬iF (gI l j) (gI l c)):DY (sw l i c) c:=by
 obtain⟨ha,hb⟩:=h;have hic:i<c:=by omega
 have hg:=YC (show i<l.length by omega) hc;refine⟨fun j h1 h2 h3=>?_,fun _ j h1 h2 h3=>?_⟩
 ·rw[jc]at h2;rw[hg,hg,if_neg h3];by_cases e1:j=c
  ·grind [iF.asym]
  ·rw[if_neg e1];by_cases e2:(j-1)/2=i
   ·grind
   ·rw[if_neg e2];by_cases e3:j=i
    ·grind
    grind
 grind [jc]
theorem Ta{l:List fC}(h:iq l):∀j,j<l.length->¬iF (gI l j) (gI l 0):=by
 intro j;induction j using Nat.strongRecOn with
 |_ j ih=>
   intro hj;by_cases e:j=0
   ·grind [iF.mA]
   ·exact iF.oU (by grind) (h j af hj)
theorem Pj{l:List fC}(h:iq l)(x:fC):DX (l++[x]) l.length:=by
 have e:∀j,j<l.length->gI (l++[x]) j=gI l j:=fun j hj=>IQ (by grind [Nq]);refine⟨fun j h1 h2 h3=>?_,fun _ j h1 h2 h3=>?_⟩
 ·simp only[List.length_append,List.length_cons,List.length_nil]at h2;rw[e j af,e _ af];exact h j h1 af
 grind
def Bb(l:List fC):List fC:=(l.set 0 (gI l (l.length-1))).take (l.length-1)
theorem yI(l:List fC):(Bb l).length=l.length-1:=by grind [Bb]
theorem IU{l:List fC}{j:Nat}(h0:0<j)(hj:j<l.length-1):gI (Bb l) j=gI l j:=by
 apply IQ;grind [Bb,Nq]
theorem Pk{l:List fC}(h:iq l):DY (Bb l) 0:=by
 refine⟨fun j h1 h2 h3=>?_,(by omega)⟩;rw[yI]at h2;rw[IU h1 h2,IU af af];exact h j h1 af
theorem Pm{l:List fC}(h:0<l.length):(gI l 0::Bb l).Perm l:=by
 match l,h with
 |x::l,_=>
   rcases List.eq_nil_or_concat l with rfl |⟨m,y,rfl⟩
   ·rfl
   ·have e:Bb (x::m.concat y)=y::m:=by
     unfold Bb;grind [gI]
    rw[e];show(x::y::m).Perm _;grind
end
section
open Go.RowKit Go.Maps
theorem D3(x y:Int)(b:Nat)(w:World)(hx:w.cell? ⟨b,0,none⟩=some (.int .i64 x))(hy:w.cell? ⟨b,1,none⟩=some (.int .i64 y)) :
 Calls prog 204 #[.slice (some ⟨b,0,none⟩) 2 2] w fun e w'=>e=.returned (.int .i64 (nT x y))/\w=w':=by
 by_cases h1:x=0
 ·subst h1;by_cases h2:y=0
  ·subst h2;go_enter func204,ntmps204;go_wp2;refine wp_loop_rounds 3 ?_;iterate 3 (rw[rounds_succ];go_wp2)
   go_ret;exact⟨rfl,rfl⟩
  ·go_enter func204,ntmps204;go_wp2;refine wp_loop_rounds 2 ?_;iterate 2 (rw[rounds_succ];go_wp2)
   go_ret;exact⟨rfl,rfl⟩
 ·have H:=ae h1;go_enter func204,ntmps204;go_wp2;refine wp_loop_rounds 1 ?_;iterate 1 (rw[rounds_succ];go_wp2)
  go_ret;exact⟨by unfold nT;rw[if_neg H.out];rfl,rfl⟩
theorem Bc{w w':World}(hb:Below w.heap.size w w'){a:Addr}{v:Value}(hc:w.cell? a=some v):w'.cell? a=some v:=(hb.cell (World.block_lt_of_cell? w a hc)).trans hc
theorem Pn(a b:fC):decide (nT (qi a.1 b.1) (qi a.2 b.2)<0)=decide (iF a b):=by
 rw[decide_eq_decide];unfold iF nT;rcases gL a.1 b.1 with⟨g1,g2⟩|⟨g1,g2⟩|⟨g1,g2⟩
 ·rw[g2,if_neg ag];omega
 ·rw[g2,if_neg ag];omega
 ·rw[g2,if_pos rfl];rcases gL a.2 b.2 with⟨k1,k2⟩|⟨k1,k2⟩|⟨k1,k2⟩<;>rw[k2]<;>omega
abbrev j8(x:fC):Value:=.agg #[.int .u64 (x.1:Int),.int .u32 (x.2:Int)]
theorem Tb(x y:fC)(w:World):Calls prog 282 #[j8 x,j8 y] w fun e w'=>e=.returned (.bool (decide (iF x y)))/\dY w w':=by
 have hf:=ae (Pn x y);unfold j8;generalize x.1=xk at *;generalize x.2=xi at *;generalize y.1=yk at *;generalize y.2=yi at *;go_enter func282,ntmps282;have HG:Hid (dY w ((w.alloc (.cells #[.int .u64 (xk:Int),.int .u32 (xi:Int)] 357)).alloc (.cells #[.int .u64 (yk:Int),.int .u32 (yi:Int)] 357))):=ae (((dY.refl w).alloc _).alloc _);go_wp2;have K:Hid (((w.alloc (.cells #[.int .u64 (xk:Int),.int .u32 (xi:Int)] 357)).alloc (.cells #[.int .u64 (yk:Int),.int .u32 (yi:Int)] 357)).cell? ⟨w.heap.size,0,none⟩=some (.int .u64 (xk:Int))/\((w.alloc (.cells #[.int .u64 (xk:Int),.int .u32 (xi:Int)] 357)).alloc (.cells #[.int .u64 (yk:Int),.int .u32 (yi:Int)] 357)).cell? ⟨w.heap.size,1,none⟩=some (.int .u32 (xi:Int))/\((w.alloc (.cells #[.int .u64 (xk:Int),.int .u32 (xi:Int)] 357)).alloc (.cells #[.int .u64 (yk:Int),.int .u32 (yi:Int)] 357)).cell? ⟨w.heap.size+1,0,none⟩=some (.int .u64 (yk:Int))/\((w.alloc (.cells #[.int .u64 (xk:Int),.int .u32 (xi:Int)] 357)).alloc (.cells #[.int .u64 (yk:Int),.int .u32 (yi:Int)] 357)).cell? ⟨w.heap.size+1,1,none⟩=some (.int .u32 (yi:Int))):=ae ai;generalize ((w.alloc (.cells #[.int .u64 (xk:Int),.int .u32 (xi:Int)] 357)).alloc (.cells #[.int .u64 (yk:Int),.int .u32 (yi:Int)] 357))=W at *;refine cr (dY W) 10 ah ah (dY.refl W).drew ?_;simp only[List.take_succ_cons,List.take_zero,List.drop_succ_cons,List.drop_zero];refine qz ?_;refine qz ?_ (fun w' hw'=>by have hc:=hw'.cell K.out.1;go_simp<;>rfl);refine qz ?_;refine qz ?_ (fun w' hw'=>by have hc:=hw'.cell K.out.2.2.1;go_simp<;>rfl);refine qw (fun w' hw'=>(wT xk yk w').mono (fun e w'' h=>⟨h.1,h.2▸hw'⟩)) ?_;refine qz ?_;refine qz ?_ (fun w' hw'=>by have hc:=hw'.cell K.out.2.1;go_simp<;>rfl);refine qz ?_;refine qz ?_ (fun w' hw'=>by have hc:=hw'.cell K.out.2.2.2;go_simp<;>rfl);refine qw (fun w' hw'=>(wU xi yi w').mono (fun e w'' h=>⟨h.1,h.2▸hw'⟩)) ?_;refine wpQuiet_nil ?_;intro w3 hw3;have zx:=ae hw3;clear hw3;go_wp2_with fail;refine(D3 (qi xk yk) (qi xi yi) _ _ ai ai).mono ?_;rintro e w4⟨rfl,rfl⟩;go_wp2;go_ret;exact⟨by rw[<- hf.out];rfl,(HG.out.trans zx.out).alloc _⟩
abbrev fC.cells(x:fC):List Value:=[.int .u64 (x.1:Int),.int .u32 (x.2:Int)]
def eR:List fC->List Value
 | []=>[]
 |x::l=>fC.cells x++eR l
theorem CV(l:List fC):(eR l).length=l.length*2:=by
 induction l with
 |nil=>rfl
 |cons e l ih=>rw[eR,List.length_append,ih,List.length_cons];simp;omega
theorem CW(a b:List fC):eR (a++b)=eR a++eR b:=by
 induction a with
 |nil=>rfl
 |cons e a ih=>rw[List.cons_append,eR,eR,ih,List.append_assoc]
theorem IV(l:List fC)(k:Nat):eR (l.take k)=(eR l).take (k*2):=by
 induction l generalizing k with
 |nil=>simp[eR]
 |cons e l ih=>
   cases k with
   |zero=>simp[eR]
   |succ k=>
     rw[List.take_succ_cons,eR,eR,ih,show(k+1)*2=k*2+2 by omega];simp[fC.cells]
theorem LC(l:List fC)(i:Nat)(x:fC)(hi:i<l.length):((eR l).set (i*2) (.int .u64 (x.1:Int))).set (i*2+1) (.int .u32 (x.2:Int))=eR (l.set i x):=by
 induction l generalizing i with
 |nil=>simp at hi
 |cons e l ih=>
   cases i with
   |zero=>simp[eR,fC.cells]
   |succ i=>
     have:=ih i (by simpa using hi);have e0:(i+1)*2=i*2+2:=by omega
     simp only[List.set_cons_succ,eR];rw[<- this];simp only[fC.cells,List.cons_append,List.nil_append,e0,List.set_cons_succ]
theorem LD{l:List fC}{i:Nat}(h:i<l.length):(eR l)[i*2]? = some (.int .u64 ((gI l i).1:Int))/\(eR l)[i*2+1]? = some (.int .u32 ((gI l i).2:Int)):=by
 induction l generalizing i with
 |nil=>simp at h
 |cons q l ih=>
   cases i with
   |zero=>exact⟨rfl,rfl⟩
   |succ i=>
     have:=ih (i:=i) (by simpa using h);rw[show(i+1)*2=i*2+2 by omega];exact this
theorem Po:(prog.info? 357).map (fun i=>(i.zero,i.size,i.bytes))=some (some (.agg #[.int .u64 0,.int .u32 0]),2,16):=by kernel_rfl
abbrev Nt:Value:=.func (.func 282) #[] #[]
abbrev mB(w:World)(v:Value)(l:List fC):Prop:=w.ownsRow 0 357 2 v l.length (eR l)
structure dU(w:World)(hb:Nat)(v:Value)(l:List fC):Prop where
 hd:∃t,w.heap[hb]? = some (.cells #[v,Nt] t)
 row:mB w v l
 ne:v.ownBlock≠some hb
section
variable {w w' W:World} {hb g cap:Nat} {v:Value} {l:List fC}
theorem dU.lt(h:dU w hb v l):hb<w.heap.size:=by
 obtain⟨t,h⟩:=h.hd;exact(Array.getElem?_eq_some_iff.1 h).1
theorem dU.kept(h:dU w hb v l)(hk:∀b,b=hb\/v.ownBlock=some b->w'.heap[b]? = w.heap[b]?):dU w' hb v l:=by
 obtain⟨⟨t,h1⟩,h2,h3⟩:=h;exact⟨⟨t,(hk hb (.inl rfl)).trans h1⟩,bH h2 (fun x hx=>hk x (.inr hx)),h3⟩
theorem dU.below(h:dU w hb v l)(hbl:Below w.heap.size w w'):dU w' hb v l:=
 h.kept (fun b hb'=>hbl.block _ (hb'.elim (fun e=>e▸h.lt) (fun e=>(aL h.row b e).1)))
theorem dU.cells(h:dU w hb v l):w.cell? ⟨hb,0,none⟩=some v/\w.cell? ⟨hb,1,none⟩=some Nt/\∀k,w.frozen? ⟨hb,k,none⟩=false:=by
 obtain⟨t,h1⟩:=h.hd;exact⟨by rw[ar h1];rfl,by rw[ar h1];rfl,fun _=>aO h1 _⟩
theorem dU.item(h:dU w hb (.slice (some ⟨g,0,none⟩) l.length cap) l){i:Nat}(hi:i<l.length) :
 w.cell? ⟨g,i*2,none⟩=some (.int .u64 ((gI l i).1:Int))/\w.cell? ⟨g,i*2+1,none⟩=some (.int .u32 ((gI l i).2:Int)):=by
 obtain⟨h1,h2⟩:=LD hi;have hc:∀(j:Nat)(u:Value),(eR l)[j]? = some u->w.cell? ⟨g,j,none⟩=some u:=fun j u hj=>by
  have:=World.ownsRow.cells h.row (g:=g) rfl j u hj;rwa [bI,Nat.zero_add]at this
 exact⟨hc _ _ h1,hc _ _ h2⟩
theorem dU.put(h:dU w hb (.slice (some ⟨g,0,none⟩) l.length cap) l){i:Nat}(hi:i<l.length)(x:fC) :
 dU ((w.setCell ⟨g,i*2,none⟩ (.int .u64 (x.1:Int))).setCell ⟨g,i*2+1,none⟩ (.int .u32 (x.2:Int))) hb (.slice (some ⟨g,0,none⟩) (l.set i x).length cap) (l.set i x):=by
 obtain⟨⟨t,h0⟩,h2,h3⟩:=h;have hne:hb≠g:=fun e=>h3 (by rw[e];rfl);refine⟨⟨t,?_⟩,?_,by rw[List.length_set];exact h3⟩
 ·rw[List.length_set,Below.heap_setCell _ _ _ _ hne,Below.heap_setCell _ _ _ _ hne];exact h0
 ·have h1:=World.ownsRow.stored h2 (i*2) (.int .u64 (x.1:Int));have h4:=World.ownsRow.stored h1.1 (i*2+1) (.int .u32 (x.2:Int));unfold mB;rw[List.length_set,<- LC l i x hi];exact h4.1
def aaX(W:World)(hb g p q cap:Nat)(n:Nat)(x y:fC):Prop:=∀w',Below W.heap.size W w' ->
 (w'.cell? ⟨hb,0,none⟩=some (.slice (some ⟨g,0,none⟩) n cap)/\w'.cell? ⟨hb,1,none⟩=some Nt) /\
 (w'.cell? ⟨g,p,none⟩=some (.int .u64 (x.1:Int))/\w'.cell? ⟨g,p+1,none⟩=some (.int .u32 (x.2:Int))) /\
 (w'.cell? ⟨g,q,none⟩=some (.int .u64 (y.1:Int))/\w'.cell? ⟨g,q+1,none⟩=some (.int .u32 (y.2:Int))) /\
 Calls prog 282 #[.agg #[.int .u64 (x.1:Int),.int .u32 (x.2:Int)],.agg #[.int .u64 (y.1:Int),.int .u32 (y.2:Int)]] w' fun e w''=>e=.returned (.bool (decide (iF x y)))/\Below W.heap.size W w''
theorem dU.reads(h:dU W hb (.slice (some ⟨g,0,none⟩) l.length cap) l){i j:Nat}(hi:i<l.length)(hj:j<l.length):aaX W hb g (i*2) (j*2) cap l.length (gI l i) (gI l j):=fun w' hw'=>
 ⟨⟨(h.below hw').cells.1,(h.below hw').cells.2.1⟩,(h.below hw').item hi,(h.below hw').item hj,(Tb _ _ w').mono fun _ _ ⟨h1,h2⟩=>⟨h1,hw'.trans (h2.below.mono hw'.size)⟩⟩
structure afn(W:World)(hb g cap:Nat)(l:List fC)(i j p q:Nat)(x y:fC):Prop where
 hp:i*2=p
 hq:j*2=q
 c0:W.cell? ⟨hb,0,none⟩=some (.slice (some ⟨g,0,none⟩) l.length cap)
 p0:W.cell? ⟨g,p,none⟩=some (.int .u64 (x.1:Int))
 p1:W.cell? ⟨g,p+1,none⟩=some (.int .u32 (x.2:Int))
 q0:W.cell? ⟨g,q,none⟩=some (.int .u64 (y.1:Int))
 q1:W.cell? ⟨g,q+1,none⟩=some (.int .u32 (y.2:Int))
 fr:∀k,W.frozen? ⟨g,k,none⟩=false
 gh:g≠hb
 n0:p≠q
 n1:p≠q+1
 n2:p+1≠q
 done:dU ((((W.setCell ⟨g,p,none⟩ (.int .u64 (y.1:Int))).setCell ⟨g,p+1,none⟩ (.int .u32 (y.2:Int))).setCell ⟨g,q,none⟩ (.int .u64 (x.1:Int))).setCell ⟨g,q+1,none⟩ (.int .u32 (x.2:Int))).drew hb (.slice (some ⟨g,0,none⟩) (sw l i j).length cap) (sw l i j)
 turn:aG (·=g) W ((((W.setCell ⟨g,p,none⟩ (.int .u64 (y.1:Int))).setCell ⟨g,p+1,none⟩ (.int .u32 (y.2:Int))).setCell ⟨g,q,none⟩ (.int .u64 (x.1:Int))).setCell ⟨g,q+1,none⟩ (.int .u32 (x.2:Int))).drew
theorem dU.lA(h:dU W hb (.slice (some ⟨g,0,none⟩) l.length cap) l){i j:Nat}(hi:i<l.length)(hj:j<l.length)(eY:i≠j){x y:fC}(hx:gI l i=x)(hy:gI l j=y):∃p q,afn W hb g cap l i j p q x y:=by
 subst hx hy;have h1:=h.put hi (gI l j);have h2:=h1.put (i:=j) (by rw[List.length_set];exact hj) (gI l i);obtain⟨a1,a2⟩:=h.item hi;obtain⟨b1,b2⟩:=h.item hj;exact⟨i*2,j*2,rfl,rfl,h.cells.1,a1,a2,b1,b2,fun k=>World.ownsRow.frozenAt h.row k,fun e=>h.ne (by rw[<- e];rfl),af,af,af,h2.below ak.drew,
  (((((aG.refl (·=g) W).setCell _ _ (.inl rfl)).setCell _ _ (.inl rfl)).setCell _ _ (.inl rfl)).setCell _ _ (.inl rfl)).drew⟩
end
end
section
open Go.RowKit Go.Maps
section
variable {w w' W:World} {hb g cap:Nat} {l:List fC}
def Tc(w:World)(hb g cap:Nat)(l:List fC)(e:Ending)(w':World):Prop:=
 ∃l',e=.returned (.tuple #[])/\l'.Perm l/\iq l'/\dU w' hb (.slice (some ⟨g,0,none⟩) l.length cap) l'/\aG (·=g) w w'
theorem aaY(h:dU w hb (.slice (some ⟨g,0,none⟩) l.length cap) l)(i:Nat)(hi:i<l.length)(hu:DX l i)(hl:l.length<=1000000) :
 Calls prog 301 #[ptrTo hb,.int .i64 (i:Int)] w (Tc w hb g cap l):=by
 have H:=ae h;have HU:=ae hu;clear h hu;obtain⟨N,hN⟩:∃N,N=l.length:=⟨_,rfl⟩;rw[<- hN]at hi hl;have HN:=ae hN;clear hN;unfold ptrTo;go_enter func301,ntmps301;go_wp2;go_loopw [1] (fun vi wr=>∃(i:Nat)(lk:List fC),vi=.int .i64 (i:Int)/\i<N/\Hid (lk.length=N)/\dU wr hb (.slice (some ⟨g,0,none⟩) N cap) lk/\aG (·=g) w wr/\Hid (DX lk i/\lk.Perm l)) (fun vi _=>(intOf vi).toNat)
 case atStart=>exact⟨i,l,rfl,hi,ae HN.out.symm,by rw[HN.out];exact H.out,aG.refl _ _,ae ⟨HU.out,List.Perm.refl _⟩⟩
 case round=>
  obtain⟨i,lk,rfl,hi,HK,hh,ht,HQ⟩:=hrel;generalize wr=Wr at *;have HH:Hid (dU Wr hb (.slice (some ⟨g,0,none⟩) lk.length cap) lk):=ae (by rw[HK.out];exact hh);have HT:=ae ht;clear hh ht;by_cases h0:0<i
  ·have h0z:(i:Int)>0:=by omega
   obtain⟨p,hp⟩:∃p,p=(i-1)/2:=⟨_,rfl⟩;have w1:IntKind.i64.wrap ((i:Int)-1)=((i-1:Nat):Int):=by rw[aw]<;>omega
   have w2:((i-1:Nat):Int)/2=(p:Int):=by omega
   have bi:(i:Int)<(N:Int):=by omega
   have bp:(p:Int)<(N:Int):=by omega
   have HI:Hid (i<lk.length/\p<lk.length/\p<i/\p=(i-1)/2):=ae (by have:=HK.out;omega);clear hp;have F:=ae (HH.out.reads (i:=i) (j:=p) HI.out.1 HI.out.2.1);obtain⟨xi,Qn⟩:∃x,gI lk i=x:=⟨_,rfl⟩;obtain⟨xp,Qd⟩:∃x,gI lk p=x:=⟨_,rfl⟩;rw[Qn,Qd,HK.out]at F;by_cases hlt:iF xi xp
   ·have DK:decide (iF xi xp)=true:=decide_eq_true hlt;go_wp2_with fail;refine wq Wr ?_;iterate 3 (refine qz ?_)
    refine qz ?_ (fun w' hw'=>by obtain⟨⟨c0,c1⟩,-,-,-⟩:=F.out w' hw';go_simp<;>rfl);iterate 3 (refine qz ?_)
    refine qz ?_ (fun w' hw'=>by obtain⟨⟨c0,c1⟩,-,-,-⟩:=F.out w' hw';go_simp<;>rfl);iterate 2 (refine qz ?_)
    refine qz ?_ (fun w' hw'=>by obtain⟨-,⟨c0,c1⟩,-,-⟩:=F.out w' hw';go_simp<;>rfl);iterate 3 (refine qz ?_)
    refine qz ?_ (fun w' hw'=>by obtain⟨⟨c0,c1⟩,-,-,-⟩:=F.out w' hw';go_simp<;>rfl);iterate 2 (refine qz ?_)
    refine qz ?_ (fun w' hw'=>by obtain⟨-,-,⟨c0,c1⟩,-⟩:=F.out w' hw';go_simp<;>rfl);refine qw (fun w' hw'=>(F.out w' hw').2.2.2) ?_;refine qz ?_;refine wpQuiet_nil ?_;intro w3 hw3;have rB:=ae (HT.out.bN hw3);have Gk:=ae (HH.out.below hw3);clear hw3;go_wp2_with fail;obtain⟨pp,qq,hex⟩:=Gk.out.lA HI.out.1 HI.out.2.1 (by have:=HI.out;omega) Qn Qd;have pI:=ae hex;obtain⟨mH,EY,c0,x0,x1,y0,y1,dQ,hgh,n0,n1,n2,-,-⟩:=hex;rw[HK.out]at c0;clear F;go_big_region
    all_goals
     clear c0 x0 x1 y0 y1 n0 n1 n2 dQ hgh;have hdone:=ae pI.out.done;have hturn:=ae pI.out.turn;go_wp2;refine⟨⟨p,sw lk i p,rfl,?_,ae (by rw[jc];exact HK.out),?_,?_,ae ⟨?_,?_⟩⟩,?_⟩
     ·omega
     ·have:=hdone.out;rwa [jc,HK.out]at this
     ·exact rB.out.trans hturn.out (fun _ _ e=>e)
     ·have:=HI.out;rw[this.2.2.2]at Qd ⊢;exact WK HQ.out.1 h0 this.1 (by rw[Qn,Qd];exact hlt)
     ·exact(Nr HI.out.1 HI.out.2.1).trans HQ.out.2
     ·have:=HI.out;simp[intOf];omega
   ·have DK:decide (iF xi xp)=false:=decide_eq_false hlt;go_wp2_with fail;refine wq Wr ?_;iterate 3 (refine qz ?_)
    refine qz ?_ (fun w' hw'=>by obtain⟨⟨c0,c1⟩,-,-,-⟩:=F.out w' hw';go_simp<;>rfl);iterate 3 (refine qz ?_)
    refine qz ?_ (fun w' hw'=>by obtain⟨⟨c0,c1⟩,-,-,-⟩:=F.out w' hw';go_simp<;>rfl);iterate 2 (refine qz ?_)
    refine qz ?_ (fun w' hw'=>by obtain⟨-,⟨c0,c1⟩,-,-⟩:=F.out w' hw';go_simp<;>rfl);iterate 3 (refine qz ?_)
    refine qz ?_ (fun w' hw'=>by obtain⟨⟨c0,c1⟩,-,-,-⟩:=F.out w' hw';go_simp<;>rfl);iterate 2 (refine qz ?_)
    refine qz ?_ (fun w' hw'=>by obtain⟨-,-,⟨c0,c1⟩,-⟩:=F.out w' hw';go_simp<;>rfl);refine qw (fun w' hw'=>(F.out w' hw').2.2.2) ?_;refine qz ?_;refine wpQuiet_nil ?_;intro w3 hw3;have rB:=ae (HT.out.bN hw3);have Gk:=ae (HH.out.below hw3);clear hw3;go_wp2;go_returns;exact⟨lk,rfl,HQ.out.2,Ns HQ.out.1 (.inr (by have:=HI.out;rw[<- this.2.2.2,Qn,Qd];exact hlt)),by rw[<- HN.out,<- HK.out];exact Gk.out,rB.out⟩
  ·have h0z:¬(i:Int)>0:=by omega
   go_wp2;go_returns;exact⟨lk,rfl,HQ.out.2,Ns HQ.out.1 (.inl af),by rw[<- HN.out,<- HK.out];exact HH.out,HT.out⟩
theorem Td(h:dU w hb (.slice (some ⟨g,0,none⟩) l.length cap) l)(hu:DY l 0)(hl:l.length<=1000000) :
 Calls prog 302 #[ptrTo hb,.int .i64 0] w (Tc w hb g cap l):=by
 have H:=ae h;have HU:=ae hu;clear h hu;obtain⟨N,hN⟩:∃N,N=l.length:=⟨_,rfl⟩;rw[<- hN]at hl;have HN:=ae hN;clear hN;unfold ptrTo;go_enter func302,ntmps302;go_wp2;go_loopw [1] (fun vi wr=>∃(i:Nat)(lk:List fC),vi=.int .i64 (i:Int)/\i<=N/\Hid (lk.length=N)/\dU wr hb (.slice (some ⟨g,0,none⟩) N cap) lk/\aG (·=g) w wr/\Hid (DY lk i/\lk.Perm l)) (fun vi _=>N-(intOf vi).toNat)
 case atStart=>exact⟨0,l,rfl,Nat.zero_le _,ae HN.out.symm,by rw[HN.out];exact H.out,aG.refl _ _,ae ⟨HU.out,List.Perm.refl _⟩⟩
 case round=>
  obtain⟨i,lk,rfl,hi,HK,hh,ht,HQ⟩:=hrel;generalize wr=Wr at *;have HH:Hid (dU Wr hb (.slice (some ⟨g,0,none⟩) lk.length cap) lk):=ae (by rw[HK.out];exact hh);have HT:=ae ht;have c0:=hh.cells.1;clear hh ht;obtain⟨A,hA⟩:∃x,x=2*i:=⟨_,rfl⟩;obtain⟨B,hB⟩:∃x,x=A+1:=⟨_,rfl⟩;obtain⟨C,hC⟩:∃x,x=B+1:=⟨_,rfl⟩;have wA:IntKind.i64.wrap (2*(i:Int))=(A:Int):=by rw[aw]<;>omega
  have wB:IntKind.i64.wrap ((A:Int)+1)=(B:Int):=by rw[aw]<;>omega
  have wC:IntKind.i64.wrap ((B:Int)+1)=(C:Int):=by rw[aw]<;>omega
  have HE:Hid (B=2*i+1/\C=2*i+2):=ae af;by_cases rT:B<N
  ·have hBz:¬(B:Int) >= (N:Int):=by omega
   have bB:(B:Int)<(N:Int):=by omega
   have bi:(i:Int)<(N:Int):=by omega
   have HB:Hid (B<lk.length/\i<lk.length/\i<B/\i<C):=ae (by have:=HK.out;omega);clear hA hB hC;have IG:∃bb,Hid (bb=decide (C<N/\iF (gI lk C) (gI lk B))):=⟨_,ae rfl⟩;obtain⟨bb,IG⟩:=IG;go_upto_region 2 with fail
   go_cut [44] from 15 to 44 (fun vb wx=>vb=.bool bb/\Below Wr.heap.size Wr wx)
   case first=>
    clear H HU HT HQ;by_cases X9:C<N
    ·have hCz:(C:Int)<(N:Int):=by omega
     have hCd:decide ((C:Int)<(N:Int))=true:=decide_eq_true hCz;have F:=ae (HH.out.reads (i:=C) (j:=B) (by have:=HK.out;omega) HB.out.1);rw[HK.out]at F;have JV:Hid (bb=decide (iF (gI lk C) (gI lk B))):=ae (by rw[IG.out];simp[X9]);generalize gI lk C=xc at *;generalize gI lk B=xb at *;clear c0;refine wq Wr ?_;iterate 5 (refine qz ?_)
     refine qz ?_ (fun w' hw'=>by obtain⟨⟨c0,c1⟩,-,-,-⟩:=F.out w' hw';go_simp<;>rfl);iterate 6 (refine qz ?_)
     refine qz ?_ (fun w' hw'=>by obtain⟨⟨c0,c1⟩,-,-,-⟩:=F.out w' hw';go_simp<;>rfl);iterate 3 (refine qz ?_)
     refine qz ?_ (fun w' hw'=>by obtain⟨⟨c0,c1⟩,-,-,-⟩:=F.out w' hw';go_simp<;>rfl);iterate 3 (refine qz ?_)
     refine qz ?_ (fun w' hw'=>by obtain⟨-,⟨c0,c1⟩,-,-⟩:=F.out w' hw';go_simp<;>rfl);iterate 3 (refine qz ?_)
     refine qz ?_ (fun w' hw'=>by obtain⟨⟨c0,c1⟩,-,-,-⟩:=F.out w' hw';go_simp<;>rfl);iterate 2 (refine qz ?_)
     refine qz ?_ (fun w' hw'=>by obtain⟨-,-,⟨c0,c1⟩,-⟩:=F.out w' hw';go_simp<;>rfl);refine qw (fun w' hw'=>(F.out w' hw').2.2.2) ?_;refine qz ?_;refine wpQuiet_nil ?_;intro w3 hw3;go_wp2;go_meet
     exact⟨by rw[JV.out],hw3⟩
    ·have hCz:¬(C:Int)<(N:Int):=by omega
     have hCd:decide ((C:Int)<(N:Int))=false:=decide_eq_false hCz;have JV:Hid (bb=false):=ae (by rw[IG.out];simp[X9]);go_quiet (fail)
     go_wp2;go_meet
     exact⟨by rw[JV.out],⟨rfl,rfl,rfl,Nat.le_refl _,fun _ _=>rfl⟩⟩
   case rest=>
    obtain⟨rfl,hcut⟩:=hcut;have rB:=ae (HT.out.bN hcut);have Gk:=ae (HH.out.below hcut);clear hcut c0 HH HT;have Te:∃c,Hid (c<lk.length/\0<c/\(c-1)/2=i/\i<c/\(c:Nat)=(if bb=true then C else B)/\∀j,0<j->j<lk.length->(j-1)/2=i->¬iF (gI lk j) (gI lk c)):=by
     have e1:=HE.out;have e2:=HB.out;have e3:=IG.out;have e4:=HK.out;cases bb with
     |true=>
       have:=of_decide_eq_true e3.symm;refine⟨C,ae ⟨af,af,af,af,rfl,fun j h1 h2 h3=>?_⟩⟩;have:j=B\/j=C:=by omega
       rcases this with rfl | rfl
       ·exact iF.asym (by assumption |> And.right)
       ·exact iF.mA _
     |false=>
       have:=of_decide_eq_false e3.symm;refine⟨B,ae ⟨af,af,af,af,rfl,fun j h1 h2 h3=>?_⟩⟩;have hj:j=B\/j=C:=by omega
       rcases hj with rfl | rfl
       ·exact iF.mA _
       ·exact fun e=>this ⟨af,e⟩
    obtain⟨c,Te⟩:=Te;go_upto_if 44 with fail
    go_cut [4] from 45 to 46 (fun vc wx=>vc=.int .i64 (c:Int)/\wx=wc)
    case first=>
     have e5:=Te.out.2.2.2.2.1;cases bb with
     |true=>
       rw[if_pos rfl]at e5;subst e5;go_wp2;go_meet
       exact⟨rfl,rfl⟩
     |false=>
       rw[if_neg ag]at e5;subst e5;go_wp2;go_meet
       exact⟨rfl,rfl⟩
    case rest=>
     obtain⟨rfl,rfl⟩:=hcut;have bc:(c:Int)<(N:Int):=by have:=Te.out;have:=HK.out;omega
     have F:=ae (Gk.out.reads (i:=c) (j:=i) Te.out.1 HB.out.2.1);obtain⟨xc,BX⟩:∃x,gI lk c=x:=⟨_,rfl⟩;obtain⟨xi,Qn⟩:∃x,gI lk i=x:=⟨_,rfl⟩;rw[BX,Qn,HK.out]at F;generalize wc=w4 at *;by_cases hlt:iF xc xi
     ·have DK:decide (iF xc xi)=true:=decide_eq_true hlt;go_wp2_with fail;refine wq w4 ?_;iterate 3 (refine qz ?_)
      refine qz ?_ (fun w' hw'=>by obtain⟨⟨c0,c1⟩,-,-,-⟩:=F.out w' hw';go_simp<;>rfl);iterate 3 (refine qz ?_)
      refine qz ?_ (fun w' hw'=>by obtain⟨⟨c0,c1⟩,-,-,-⟩:=F.out w' hw';go_simp<;>rfl);iterate 2 (refine qz ?_)
      refine qz ?_ (fun w' hw'=>by obtain⟨-,⟨c0,c1⟩,-,-⟩:=F.out w' hw';go_simp<;>rfl);iterate 3 (refine qz ?_)
      refine qz ?_ (fun w' hw'=>by obtain⟨⟨c0,c1⟩,-,-,-⟩:=F.out w' hw';go_simp<;>rfl);iterate 2 (refine qz ?_)
      refine qz ?_ (fun w' hw'=>by obtain⟨-,-,⟨c0,c1⟩,-⟩:=F.out w' hw';go_simp<;>rfl);refine qw (fun w' hw'=>(F.out w' hw').2.2.2) ?_;refine qz ?_;refine wpQuiet_nil ?_;intro w5 fP;have Ey:=ae (rB.out.bN fP);have Qs:=ae (Gk.out.below fP);clear fP;go_wp2_with fail;obtain⟨pp,qq,hex⟩:=Qs.out.lA HB.out.2.1 Te.out.1 (by have:=Te.out;omega) Qn BX;have pI:=ae hex;obtain⟨mH,EY,c0,x0,x1,y0,y1,dQ,hgh,n0,n1,n2,-,-⟩:=hex;rw[HK.out]at c0;clear F;go_big_region
      all_goals
       clear c0 x0 x1 y0 y1 n0 n1 n2 dQ hgh;have hdone:=ae pI.out.done;have hturn:=ae pI.out.turn;go_wp2;refine⟨⟨c,sw lk i c,rfl,?_,ae (by rw[jc];exact HK.out),?_,?_,ae ⟨?_,?_⟩⟩,?_⟩
       ·omega
       ·have:=hdone.out;rwa [jc,HK.out]at this
       ·exact Ey.out.trans hturn.out (fun _ _ e=>e)
       ·obtain⟨k1,k2,k3,-,-,k6⟩:=Te.out;exact Ph HQ.out.1 k2 k1 k3 (by rw[Qn,BX];exact hlt) k6
       ·exact(Nr HB.out.2.1 Te.out.1).trans HQ.out.2
       ·have:=Te.out;simp[intOf];omega
     ·have DK:decide (iF xc xi)=false:=decide_eq_false hlt;go_wp2_with fail;refine wq w4 ?_;iterate 3 (refine qz ?_)
      refine qz ?_ (fun w' hw'=>by obtain⟨⟨c0,c1⟩,-,-,-⟩:=F.out w' hw';go_simp<;>rfl);iterate 3 (refine qz ?_)
      refine qz ?_ (fun w' hw'=>by obtain⟨⟨c0,c1⟩,-,-,-⟩:=F.out w' hw';go_simp<;>rfl);iterate 2 (refine qz ?_)
      refine qz ?_ (fun w' hw'=>by obtain⟨-,⟨c0,c1⟩,-,-⟩:=F.out w' hw';go_simp<;>rfl);iterate 3 (refine qz ?_)
      refine qz ?_ (fun w' hw'=>by obtain⟨⟨c0,c1⟩,-,-,-⟩:=F.out w' hw';go_simp<;>rfl);iterate 2 (refine qz ?_)
      refine qz ?_ (fun w' hw'=>by obtain⟨-,-,⟨c0,c1⟩,-⟩:=F.out w' hw';go_simp<;>rfl);refine qw (fun w' hw'=>(F.out w' hw').2.2.2) ?_;refine qz ?_;refine wpQuiet_nil ?_;intro w5 fP;have Ey:=ae (rB.out.bN fP);have Qs:=ae (Gk.out.below fP);clear fP;go_wp2;go_returns;refine⟨lk,rfl,HQ.out.2,DZ HQ.out.1 (fun j h1 h2 h3=>?_),by rw[<- HN.out,<- HK.out];exact Qs.out,Ey.out⟩;have:=Te.out.2.2.2.2.2 j h1 h2 h3;rw[BX]at this;rw[Qn];exact iF.oU hlt this
  ·have hBz:(B:Int) >= (N:Int):=by omega
   go_wp2;go_returns;exact⟨lk,rfl,HQ.out.2,DZ HQ.out.1 (fun j h1 h2 h3=>by have:=HK.out;omega),by rw[<- HN.out,<- HK.out];exact HH.out,HT.out⟩
end
end
end Go.Proofs.YthkkgdpomhhjjaaGreatDoor
