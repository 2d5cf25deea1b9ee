/-
  Joined.
-/
import Derived.Test.YthkkgdpomhhjjaaGreatDoorD09
import Derived.Shelf.Sort.Plain
import Derived.Shelf.Slices.In.SortNone
set_option maxRecDepth 100000
set_option maxHeartbeats 8000000
namespace Go.Proofs.YthkkgdpomhhjjaaGreatDoor
open Go.Proofs.Tryz
section
open Go.RowKit Go.Maps Go.MapKept
section
variable {w w':World} {pb db n sb gb gen N ob ib vb' v:Nat} {b:Bool} {name:Name} {o o':ar} {d d':Dsk} {L L':aD}
def Ip(b:Bool)(v:Nat)(es:List aJ):List aJ:=es.filter fun x=>fW b x=v
theorem Oy{es:List aJ}{k j:Nat}(hr:E6 b es)(hs:Split b v es k k)(hm:∀x∈(es.drop k).take j,fW b x=v)(hl:∀x,es[k+j]? = some x->fW b x≠v):(es.drop k).take j=Ip b v es:=by
 unfold Ip;have e:es=es.take k++((es.drop k).take j++(es.drop k).drop j):=by rw[List.take_append_drop,List.take_append_drop]
 conv=>rhs;rw[e]
 rw[List.filter_append,List.filter_append];have h1:(es.take k).filter (fun x=>decide (fW b x=v))=[]:=by
  rw[List.filter_eq_nil_iff];intro x hx;obtain⟨i,hi⟩:=List.mem_iff_getElem?.1 hx;have hik:i<k:=by have:=aM hi;rw[List.length_take]at this;omega
  rw[List.getElem?_take,if_pos hik]at hi;have:=hs.1 i x hi hik;simp;omega
 have h2:((es.drop k).take j).filter (fun x=>decide (fW b x=v))=(es.drop k).take j:=by
  rw[List.filter_eq_self];intro x hx;simpa using hm x hx
 have h3:((es.drop k).drop j).filter (fun x=>decide (fW b x=v))=[]:=by
  rw[List.filter_eq_nil_iff];intro x hx;obtain⟨i,hi⟩:=List.mem_iff_getElem?.1 hx;rw[List.drop_drop,List.getElem?_drop]at hi;have hlt:=aM hi;have hy:es[k+j]? = some es[k+j]:=List.getElem?_eq_getElem ae;have h4:=hl _ hy;have h5:=hs.2 _ _ hy ae;have h6:=hr _ _ _ _ hy hi ae;simp;omega
 rw[h1,h2,h3];simp
def KZ(n pb db:Nat)(w:World)(o:ar)(d:Dsk)(L:aD)(ts:List aJ)(e:Ending)(w':World):Prop:=
 ∃v c d' o',e=.returned (.tuple #[v,.int .i64 ((c:Nat):Int)])/\au (fun _=>False) n pb db w o d w' o' d' L/\(c=0\/kI d d' L c)/\(c=0->aI w' w.heap.size v ts/\∀x,v.ownBlock=some x->o' x=none)/\(c≠0->v=.slice none 0 0)
theorem Iq(w:World)(x y z:Value)(t1 t2 t3:TypeId) :
 Below w.heap.size w (((w.alloc (.cells #[x] t1)).alloc (.cells #[y] t2)).alloc (.cells #[z] t3))/\(((w.alloc (.cells #[x] t1)).alloc (.cells #[y] t2)).alloc (.cells #[z] t3)).heap[w.heap.size]? = some (.cells #[x] t1)/\(((w.alloc (.cells #[x] t1)).alloc (.cells #[y] t2)).alloc (.cells #[z] t3)).heap[w.heap.size+1]? = some (.cells #[y] t2)/\(((w.alloc (.cells #[x] t1)).alloc (.cells #[y] t2)).alloc (.cells #[z] t3)).heap[w.heap.size+2]? = some (.cells #[z] t3):=by
 have a1:=heap_alloc_new w (.cells #[x] t1);have a2:=heap_alloc_new (w.alloc (.cells #[x] t1)) (.cells #[y] t2);have a3:=heap_alloc_new ((w.alloc (.cells #[x] t1)).alloc (.cells #[y] t2)) (.cells #[z] t3);simp only[World.size_alloc,Nat.add_assoc]at a2 a3;refine⟨(ai.alloc ah _).alloc (by simp;omega) _,?_,?_,a3⟩
 ·rw[(MapKept.heap_alloc _ _).2 _ (by simp;omega),(MapKept.heap_alloc _ _).2 _ ah];exact a1
 ·rw[(MapKept.heap_alloc _ _).2 _ ah];exact a2
theorem fp.kept{xb kb fb vb bc:Nat}(h:fp w o xb kb fb vb sb b v bc)(e:∀x,x=xb\/x=kb\/x=fb\/x=vb->w'.heap[x]? = w.heap[x]?):fp w' o xb kb fb vb sb b v bc:=by
 obtain⟨t1,h1⟩:=h.xs;obtain⟨t2,h2⟩:=h.bad;obtain⟨t3,h3⟩:=h.fn;obtain⟨t4,h4⟩:=h.vtx;exact⟨⟨t1,(e xb (.inl rfl)).trans h1⟩,⟨t2,(e kb (.inr (.inl rfl))).trans h2⟩,⟨t3,(e fb (.inr (.inr (.inl rfl)))).trans h3⟩,⟨t4,(e vb (.inr (.inr (.inr rfl)))).trans h4⟩,h.oxb,h.okb,h.r7,h.JJ,h.xk,h.fk,h.vk⟩
theorem Sz(HW:aP)(h:aQ w pb db n o d L)(hst:aC w sb pb name 20)(ho:o sb=none){x1 x2 x3:Value}(hg:bT w gb x1 x2 x3 (.int .i64 (N:Int))){es:List aJ}{fl:Bool}(hL:aB L name=some (aw es fl))(hr:E6 b es)(hN:es.length<65536)(hv:v<N)(hv':v<4294967296) :
 Calls prog 54 #[ptrTo gb,ptrTo sb,.int .u32 (v:Int),.func (.func (pZ b)) #[] #[]] w (KZ n pb db w o d L (Ip b v es)):=by
 have hlen:Hid (∀W,Below w.heap.size w W->Calls prog 59 #[ptrTo sb] W (xR n pb db W o d L (xS es.length))):=aa (fun W hW=>by
  have:=iq HW (h.below hW) (hst.below hW) ho af af hL (dY es);rw[List.length_map]at this;exact this)
 have VM:Hid (∀W o' d' xb kb fb vb,aQ W pb db n o' d' L->aC W sb pb name 20->o' sb=none->sb≠kb->fp W o' xb kb fb vb sb b v 0->Calls prog 88 #[.int .i64 (es.length:Int),.func (.func 89) #[] #[.pointer (some ⟨xb,0,none⟩),.pointer (some ⟨kb,0,none⟩),.pointer (some ⟨fb,0,none⟩),.pointer (some ⟨vb,0,none⟩)]] W (AP n pb db W o' d' L xb kb fb vb sb b v es)):=aa (fun W o' d' xb kb fb vb a1 a2 a3 a4 a5=>KW HW a1 a2 a3 hL a4 a5 hr ae);have mL:Hid (∀W o' d'(i:Nat)x,aQ W pb db n o' d' L->aC W sb pb name 20->o' sb=none->es[i]? = some x->Calls prog 60 #[ptrTo sb,.int .i64 (i:Int)] W (DB n pb db W o' d' L x)):=aa (fun W o' d' i x a1 a2 a3 a4=>uM HW a1 a2 a3 hL a4);have HE:Hid (∀(y:aJ)(W:World),Calls prog (pZ b) #[.agg #[.int .u32 (y.t.toNat:Int),.int .u32 (y.h.toNat:Int),.int .u64 (y.x.toNat:Int),.int .u32 (y.m.toNat:Int)]] W fun e w'=>e=.returned (.int .u32 (fW b y:Int))/\Below W.heap.size W w'):=aa (fun y W=>MO b y W);have SA:=aa (fun k j hs hm hl=>Oy (b:=b) (v:=v) (es:=es) (k:=k) (j:=j) hr hs hm hl);obtain⟨-,-,-,g3,-⟩:=hg.cells;have hgl:=hg.lt;have T4:=hst.lt;have H:=aa h;have HST:=aa hst;have VL:=aa ho;have vG:¬((v:Int) >= (N:Int)):=by omega
 have aqa:¬((N:Int)<=(v:Int)):=by omega
 generalize Ip b v es=ts at *;have HT:=aa (Iq w (ptrTo sb) (.int .u32 (v:Int)) (.func (.func (pZ b)) #[] #[]) 119 26 123);clear h hst ho hg hL hr;unfold ptrTo at *;go_enter func54,ntmps54;go_wp2_with fail;obtain⟨b1,b2,b3,b4⟩:=HT.o;have cT:=aa b1;have kJ:=aa b2;have mE:=aa b3;have iu:=aa b4;clear b1 b2 b3 b4 HT;unfold ptrTo at *;generalize ((w.alloc (.cells #[.pointer (some ⟨sb,0,none⟩)] 119)).alloc (.cells #[.int .u32 (v:Int)] 26)).alloc (.cells #[.func (.func (pZ b)) #[] #[]] 123)=W1 at *;have HVB:Hid (w.heap.size+1<W1.heap.size/\w.heap.size+2<W1.heap.size/\w.heap.size<W1.heap.size):=aa ⟨eI mE.o,eI iu.o,eI kJ.o⟩;have Ig:Hid (w.heap.size<=w.heap.size+1/\w.heap.size<=w.heap.size+2):=aa ⟨ae,ae⟩;rw[show w.heap.size+1+1=w.heap.size+2 from rfl];generalize w.heap.size+2=fb at *;generalize w.heap.size+1=vb at *;have K2:Hid (W1.cell? ⟨vb,0,none⟩=some (.int .u32 (v:Int))):=aa (by rw[aq mE.o];rfl);have K4:Hid (W1.cell? ⟨gb,3,none⟩=some (.int .i64 (N:Int))):=aa (by rw[cT.o.cell hgl];exact g3);have hwv:IntKind.i64.wrap (v:Int)=(v:Int):=by rw[ax]<;>omega
 clear g3;refine wq W1 ?_;refine qz ?_ (fun w' hw'=>by have z:=bo hw' K2.o;go_simp<;>rfl);iterate 4 (refine qz ?_)
 refine qz ?_ (fun w' hw'=>by have z:=bo hw' K4.o;go_simp<;>rfl);refine qz ?_;refine wpQuiet_nil ?_;intro W2 hw2;have cZ:=aa (cT.o.trans (hw2.mono cT.o.size));have XK:Hid (W2.heap[w.heap.size]? = _):=aa ((hw2.block _ HVB.o.2.2).trans kJ.o);have HY2:Hid (W2.heap[vb]? = _):=aa ((hw2.block _ HVB.o.1).trans mE.o);have HY3:Hid (W2.heap[fb]? = _):=aa ((hw2.block _ HVB.o.2.1).trans iu.o);have k1:W2.cell? ⟨w.heap.size,0,none⟩=some (.pointer (some ⟨sb,0,none⟩)):=by rw[aq XK.o];rfl
 clear hw2 kJ mE iu cT HVB K2 K4 W1;go_wp2_with fail;refine(hlen.o W2 cZ.o).mono ?_;rintro e w3⟨c3,d3,o3,⟨x3',rfl,hx3⟩,ej,Dm⟩;have eC:Hid (au (fun _=>False) n pb db w o d w3 o3 d3 L):=aa ((au.aW H.o cZ.o).trans ej (fun _ _ h=>h));have Xx:Hid (∀x,w.heap.size<=x->o x=none):=aa (fun x hx=>H.o.fresh hx);have Cw:Hid (aC w3 sb pb name 20):=aa (HST.o.moved eC.o VL.o (fun h=>h));have wy:Hid (o3 sb=none):=aa (eC.o.free T4 VL.o);have aef:Hid (∀kb(w4:World),w3.heap.size<=kb->Below w3.heap.size w3 w4->(∃t,w4.heap[kb]? = some (.cells #[.int .i64 0] t))->fp w4 o3 w.heap.size kb fb vb sb b v 0):=aa (fun kb w4 hkb hb4 hc=>by
  have q1:=ej.heap XK.o (Xx.o _ (Nat.le_refl _)) (fun h=>h);have q2:=ej.heap HY2.o (Xx.o _ Ig.o.1) (fun h=>h);have q3:=ej.heap HY3.o (Xx.o _ Ig.o.2) (fun h=>h);exact⟨⟨_,(hb4.block _ (eI q1)).trans q1⟩,hc,⟨_,(hb4.block _ (eI q3)).trans q3⟩,⟨_,(hb4.block _ (eI q2)).trans q2⟩,ej.free (eI XK.o) (Xx.o _ (Nat.le_refl _)),ej.aX.fresh hkb,ej.free (eI HY3.o) (Xx.o _ Ig.o.2),ej.free (eI HY2.o) (Xx.o _ Ig.o.1),fun e=>by have:=eI q1;omega,fun e=>by have:=eI q3;omega,fun e=>by have:=eI q2;omega⟩)
 have Ck:=aa Dm;have iu:=aa hx3;clear ej Dm hx3 XK HY2 HY3 k1 cZ W2;by_cases hc3:c3=0
 ·subst hc3;obtain rfl:=iu.o rfl;clear iu Ck;have oZ:Hid (Below w3.heap.size w3 (w3.alloc (.cells #[.int .i64 0] 51))):=aa ai;have T9:=aa (aef.o w3.heap.size _ (Nat.le_refl _) oZ.o ⟨_,heap_alloc_new w3 _⟩);have gp:=aa (eC.o.below oZ.o);have ur:=aa (Cw.o.below oZ.o);have ajH:=Cw.o.lt;clear aef;have hcs:=aa (VM.o _ o3 d3 w.heap.size w3.heap.size fb vb gp.o.aX ur.o wy.o ae T9.o);clear ajH;go_wp2_with fail;refine hcs.o.mono ?_;rintro e w5⟨k5,c5,d5,o5,rfl,RR,lD,ZZ,hs5⟩;have aqb:w.heap.size<=w3.heap.size:=eC.o.size;have lF:Hid (au (fun _=>False) n pb db w o d w5 o5 d5 L):=aa (gp.o.trans lD (fun x hx e=>by omega));have Ic:Hid (aC w5 sb pb name 20):=aa (HST.o.moved lF.o VL.o (fun h=>h));have Ie:Hid (o5 sb=none):=aa (lF.o.free T4 VL.o);have UD:=aa ZZ;have hk3:=ZZ.cells.2.1;have b9:Hid (c5=0/\Split b v es k5 k5\/kI d d5 L c5):=aa (hs5.imp id (fun h=>h.later gp.o.on.bD));clear lD ZZ hs5 hcs T9 gp ur oZ eC Cw wy;generalize w3.heap.size=kb at *;by_cases BC:c5=0
  ·subst BC;have HSP:Hid (Split b v es k5 k5):=aa (b9.o.elim (fun h=>h.2) (fun h=>absurd rfl h.ne));clear b9;obtain⟨M,hM⟩:∃M,M=es.length:=⟨_,rfl⟩;have HES:Hid (∀m,m<M->∃x,es[m]? = some x):=aa (fun m hm=>⟨_,List.getElem?_eq_getElem ae⟩);rw[<- hM]at RR hN ⊢;have PY:=aa hM;clear hM;have aqc:w5.cell? ⟨kb,0,none⟩=some (.int .i64 0):=hk3;clear hk3;go_wp2;go_loopw [13,14] (fun i l wr=>∃(j:Nat)(d':Dsk)(o':ar),k5+j<=M/\i=.int .i64 ((k5+j:Nat):Int)/\au (fun _=>False) n pb db w o d wr o' d' L/\w5.heap.size<=wr.heap.size/\fp wr o' w.heap.size kb fb vb sb b v 0/\aI wr w5.heap.size l ((es.drop k5).take j)/\(∀x,l.ownBlock=some x->o' x=none)/\(∀x∈(es.drop k5).take j,fW b x=v)) (fun i _ _=>M-(intOf i).toNat)
   case atStart=>exact⟨0,d5,o5,RR,rfl,lF.o,Nat.le_refl _,UD.o,World.ownsRow_nil _ _ _ 4,(fun x hx=>by cases hx),ah⟩
   case round=>
    obtain⟨j,d6,o6,hj,rfl,nT,WU,Z0,hl6,aeg,aeh⟩:=hrel;have ye:=aa nT;have Y1:=aa Z0;have HL6:=aa hl6;have VN:=aa aeg;have Z1:=aa aeh;have HZ6:=aa WU;obtain⟨la,lc,rfl⟩:=az hl6;have kY:((es.drop k5).take j).length=j:=by rw[List.length_take,List.length_drop,<- PY.o];omega
    rw[kY]at HL6 VN;simp only[kY];have HJL:=aa kY;have k1:=Z0.cells.1;unfold ptrTo at k1;clear nT Z0 hl6 aeg aeh kY WU;by_cases hlt:k5+j<M
    ·obtain⟨x,hx⟩:=HES.o _ hlt;have Bx:=aa (mL.o wr o6 d6 (k5+j) x ye.o.aX (HST.o.moved ye.o VL.o (fun h=>h)) (ye.o.free T4 VL.o) hx);have HX:=aa hx;clear hx;go_wp2_with fail;refine Bx.o.mono ?_;rintro e w7⟨c7,d7,o7,y,rfl,tC,he7,hy7⟩;have BK:Hid (au (fun _=>False) n pb db w o d w7 o7 d7 L):=aa (ye.o.trans tC (fun _ _ h=>h));have HZ7:Hid (w5.heap.size<=w7.heap.size):=aa (Nat.le_trans HZ6.o tC.size);have HO7:=aa (Y1.o.moved tC);have HL7:Hid (aI w7 w5.heap.size (.slice la j lc) ((es.drop k5).take j)):=aa (tC.ownsRow HL6.o (fun b hb=>⟨VN.o b hb,fun h=>h⟩));have Z2:Hid (∀x,(Value.slice la j lc).ownBlock=some x->o7 x=none):=aa (fun x hx=>tC.free (aL HL6.o x hx).1 (VN.o x hx));have HE7:=aa he7;have HY7:=aa hy7;clear tC he7 hy7 Bx k1;have HBA:Hid (Below w7.heap.size w7 (w7.alloc (.cells #[.int .u32 (y.t.toNat:Int),.int .u32 (y.h.toNat:Int),.int .u64 (y.x.toNat:Int),.int .u32 (y.m.toNat:Int)] 64))):=aa ai;by_cases NB:c7=0
     ·subst NB;obtain rfl:=HY7.o rfl;clear HY7 HE7;have K0:Hid ((w7.alloc (.cells #[.int .u32 (y.t.toNat:Int),.int .u32 (y.h.toNat:Int),.int .u64 (y.x.toNat:Int),.int .u32 (y.m.toNat:Int)] 64)).heap[w7.heap.size]? = some (.cells #[.int .u32 (y.t.toNat:Int),.int .u32 (y.h.toNat:Int),.int .u64 (y.x.toNat:Int),.int .u32 (y.m.toNat:Int)] 64)):=aa (heap_alloc_new w7 _);have XL:=aa (BK.o.below HBA.o);have Ul:=aa (HO7.o.below HBA.o);have HLA:Hid (aI (w7.alloc (.cells #[.int .u32 (y.t.toNat:Int),.int .u32 (y.h.toNat:Int),.int .u64 (y.x.toNat:Int),.int .u32 (y.m.toNat:Int)] 64)) w5.heap.size (.slice la j lc) ((es.drop k5).take j)):=aa (World.ownsRow.alloc HL7.o _);have HZA:Hid (w5.heap.size<=(w7.alloc (.cells #[.int .u32 (y.t.toNat:Int),.int .u32 (y.h.toNat:Int),.int .u64 (y.x.toNat:Int),.int .u32 (y.m.toNat:Int)] 64)).heap.size):=aa (Nat.le_trans HZ7.o HBA.o.size);go_wp2;generalize w7.alloc (.cells #[.int .u32 (y.t.toNat:Int),.int .u32 (y.h.toNat:Int),.int .u64 (y.x.toNat:Int),.int .u32 (y.m.toNat:Int)] 64)=W at *;generalize w7.heap.size=ab at *;have Q0:Hid (W.cell? ⟨ab,0,none⟩=some (.int .u32 (y.t.toNat:Int))):=aa (by rw[aq K0.o];rfl);have Q1:Hid (W.cell? ⟨ab,1,none⟩=some (.int .u32 (y.h.toNat:Int))):=aa (by rw[aq K0.o];rfl);have Q2:Hid (W.cell? ⟨ab,2,none⟩=some (.int .u64 (y.x.toNat:Int))):=aa (by rw[aq K0.o];rfl);have Q3:Hid (W.cell? ⟨ab,3,none⟩=some (.int .u32 (y.m.toNat:Int))):=aa (by rw[aq K0.o];rfl);have K3:=aa Ul.o.cells.2.2.1;have K4:=aa Ul.o.cells.2.2.2.1;refine wq W ?_;refine qz ?_ (fun w' hw'=>by have z3:=bo hw' K3.o;go_simp<;>rfl);refine qz ?_ (fun w' hw'=>by have z0:=bo hw' Q0.o;have z1:=bo hw' Q1.o;have z2:=bo hw' Q2.o;have z3:=bo hw' Q3.o;go_simp<;>rfl);refine sO rfl (fun w' hw'=>(by go_simp;exact wN b _ _)) (fun w' hw'=>((HE.o y w').mono (fun e w'' h=>⟨h.1,hw'.trans (h.2.mono hw'.size)⟩))) (fun K hK=>?_);go_simp;refine hK _ ?_;clear hK K;refine qz ?_ (fun w' hw'=>by have z4:=bo hw' K4.o;go_simp<;>rfl);refine qz ?_;refine wpQuiet_nil ?_;intro W8 VO;have rY:=aa (XL.o.below VO);have HO8:=aa (Ul.o.below VO);have HL8:Hid (aI W8 w5.heap.size (.slice la j lc) ((es.drop k5).take j)):=aa ((au.aW XL.o.aX VO (S:=fun _=>False)).ownsRow HLA.o (fun b hb=>⟨Z2.o b hb,fun h=>h⟩));have XM:Hid (w5.heap.size<=W8.heap.size):=aa (Nat.le_trans HZA.o VO.size);have z0:=bo VO Q0.o;have z1:=bo VO Q1.o;have z2:=bo VO Q2.o;have z3:=bo VO Q3.o;clear VO XL Ul HLA HZA K0 HBA K3 K4 Q0 Q1 Q2 Q3 BK HO7 HL7 HZ7 W;by_cases hev:fW b y=v
      ·have yE:((es.drop k5).take j).length<=100000:=by rw[HJL.o];omega
       have sk:Hid ((es.drop k5).take (j+1)=(es.drop k5).take j++[y]):=aa (by
        rw[List.take_add_one,List.getElem?_drop,HX.o];rfl)
       have hz8:=XM.o;have ajK:(fW b y:Int)=(v:Int):=by omega
       have HEV:=aa hev;clear hev;go_wp2_with (at_builtin;refine cS rfl _ _ rfl w5.heap.size _ _ rfl HL8.o y 1 rfl yE hz8 ?_);intro l4 w4 hl4 KH;obtain⟨eG,Oa,PD,uY⟩:=KH.moved rY.o (fun x hx=>⟨Z2.o x hx,Nat.le_trans lF.o.size (aF HL8.o x hx)⟩);have MN:=aa eG;have HO9:Hid (fp w4 o7 w.heap.size kb fb vb sb b v 0):=aa (HO8.o.kept (fun x hx=>by
        have hx5:x<w5.heap.size:=by
         obtain⟨g1,g2,g3,g4⟩:=UD.o.lts;rcases hx with h | h | h | h<;>omega
        exact PD x ae (fun e=>by have:=aF HL8.o x e;omega)))
       have HZ9:Hid (w5.heap.size<=w4.heap.size):=aa (Nat.le_trans hz8 uY);rw[<- sk.o]at hl4;have HL9:=aa hl4;have ajL:=aa Oa;clear eG Oa PD uY KH hl4 z0 z1 z2 z3 hz8;go_wp2;go_roundw
       case rel=>exact⟨j+1,d7,o7,ae,by go_num,MN.o,HZ9.o,HO9.o,HL9.o,fun x hx=>(ajL.o x hx).1,by rw[sk.o];intro x hx;rcases List.mem_append.1 hx with h | h;exact Z1.o x h;rw[List.mem_singleton.1 h];exact HEV.o⟩
       case measure=>simp[intOf];omega
      ·have ajK:¬(fW b y:Int)=(v:Int):=by omega
       have VP:(es.drop k5).take j=ts:=SA.o k5 j HSP.o Z1.o (fun x hx=>by rw[HX.o]at hx;cases hx;exact hev);have HF:=aa VP;clear VP hev;go_wp2;go_ret2;exact⟨_,0,d7,o7,rfl,rY.o,.inl rfl,fun _=>⟨HF.o▸aU HL8.o lF.o.size,Z2.o⟩,fun h=>absurd rfl h⟩
     ·have aqi:¬(c7:Int)=0:=by omega
      have HC7:=aa NB;have ajM:=aa ((HE7.o.resolve_left NB).later ye.o.on.bD);have XL:=aa (BK.o.below HBA.o);clear NB;go_wp2;go_ret2;exact⟨_,c7,d7,o7,rfl,XL.o,.inr ajM.o,fun h=>absurd h HC7.o,fun _=>rfl⟩
    ·go_wp2;go_ret2;have hjM:k5+j=M:=by omega
     have VP:(es.drop k5).take j=ts:=SA.o k5 j HSP.o Z1.o (fun x hx=>by have:=aM hx;rw[<- PY.o]at this;omega);exact⟨_,0,d6,o6,rfl,ye.o,.inl rfl,fun _=>⟨VP▸aU HL6.o lF.o.size,VN.o⟩,fun h=>absurd rfl h⟩
  ·have acC:¬(c5:Int)=0:=by omega
   have Q7:Hid (kI d d5 L c5):=aa (b9.o.elim (fun h=>absurd h.1 BC) id);have NL:=aa BC;clear BC b9;go_wp2;go_quiet (fail)
   go_wp2;go_ret2;exact⟨_,c5,d5,o5,rfl,lF.o.below (below_drewN aj _),.inr Q7.o,fun h=>absurd h NL.o,fun _=>rfl⟩
 ·have Kn:¬(c3:Int)=0:=by omega
  have JD:=aa hc3;clear hc3;go_wp2;go_ret2;exact⟨_,c3,d3,o3,rfl,eC.o,Ck.o,fun h=>absurd h JD.o,fun _=>rfl⟩
end
end
section
open Go.RowKit Go.Maps Go.MapKept
section
variable {w w':World} {pb db n sb gb gen N ob ib vb v:Nat} {b:Bool} {name:Name} {o o':ar} {d d':Dsk} {L L':aD}
theorem Ir(HW:aP)(h:aQ w pb db n o d L)(hg:cY w o gb pb gen N ob ib vb){es:List aJ}{fl:Bool}(hL:aB L (aG 101 gen)=some (aw es fl))(hr:E6 false es)(hN:es.length<65536)(hv:v<N)(hv':v<4294967296) :
 Calls prog 21 #[ptrTo gb,.int .u32 (v:Int)] w (KZ n pb db w o d L (Ip false v es)):=by
 have Um:=aa (Sz HW h hg.out hg.PW hg.raw hL hr hN hv hv');obtain⟨g0,-,-,-,-⟩:=hg.raw.cells;clear h hg hL hr hN hv hv';unfold ptrTo pZ at *;go_enter func21,ntmps21;go_wp2_with fail;refine Um.o.mono ?_;rintro e w1⟨v1,c1,d1,o1,rfl,ee,tA,hx1,Sy⟩;have hh:=aa (And.intro ee (And.intro tA (And.intro hx1 Sy)));clear ee tA hx1 Sy Um;go_wp2;go_ret2;exact⟨v1,c1,d1,o1,rfl,hh.o.1,hh.o.2.1,hh.o.2.2.1,hh.o.2.2.2⟩
theorem K5(HW:aP)(h:aQ w pb db n o d L)(hg:cY w o gb pb gen N ob ib vb){es:List aJ}{fl:Bool}(hL:aB L (aG 114 gen)=some (aw es fl))(hr:E6 true es)(hN:es.length<65536)(hv:v<N)(hv':v<4294967296) :
 Calls prog 22 #[ptrTo gb,.int .u32 (v:Int)] w (KZ n pb db w o d L (Ip true v es)):=by
 have Um:=aa (Sz HW h hg.rE hg.Uk hg.raw hL hr hN hv hv');obtain⟨-,g1,-,-,-⟩:=hg.raw.cells;clear h hg hL hr hN hv hv';unfold ptrTo pZ at *;go_enter func22,ntmps22;go_wp2_with fail;refine Um.o.mono ?_;rintro e w1⟨v1,c1,d1,o1,rfl,ee,tA,hx1,Sy⟩;have hh:=aa (And.intro ee (And.intro tA (And.intro hx1 Sy)));clear ee tA hx1 Sy Um;go_wp2;go_ret2;exact⟨v1,c1,d1,o1,rfl,hh.o.1,hh.o.2.1,hh.o.2.2.1,hh.o.2.2.2⟩
theorem AQ(HW:aP)(h:aQ w pb db n o d L)(hg:cY w o gb pb gen N ob ib vb){es:List aJ}{fl:Bool}(hL:aB L (aG 101 gen)=some (aw es fl)) :
 Calls prog 27 #[ptrTo gb] w (xR n pb db w o d L (xS es.length)):=by
 have hlen:Hid (Calls prog 59 #[ptrTo ob] w (xR n pb db w o d L (xS es.length))):=aa (by
  have:=iq HW h hg.out hg.PW af af hL (dY es);rw[List.length_map]at this;exact this)
 obtain⟨g0,-,-,-,-⟩:=hg.raw.cells;clear h hg hL;unfold ptrTo at *;go_enter func27,ntmps27;go_wp2_with fail;refine hlen.o.mono ?_;rintro e w1⟨c1,d1,o1,⟨x,rfl,hx⟩,ee,tA⟩;have hh:=aa (And.intro ee (And.intro tA hx));clear ee tA hx hlen;go_wp2;go_ret2;exact⟨c1,d1,o1,⟨x,rfl,hh.o.2.2⟩,hh.o.1,hh.o.2.1⟩
end
end
section
open Go.RowKit
def cr(w:World)(base:Nat)(v:Value)(bs:List UInt8):Prop:=
 (v=.slice none 0 0/\bs=[]) \/
 ∃g cap cur fz,v=.slice (some ⟨g,0,none⟩) bs.length cap/\base<=g/\w.heap[g]? = some (.cells cur 5 fz)/\(fz.2=0\/cur.size<=fz.1)/\bs.length<=cap/\cap<=maxLen/\cur.size=cap/\cur.toList.take bs.length=bs.map bv
theorem cr.nil(w:World)(base:Nat):cr w base (.slice none 0 0) []:=.inl ⟨rfl,rfl⟩
theorem cr.of{w:World}{base:Nat}{v:Value}{bs:List UInt8}(h:w.ownsRow base 5 1 v bs.length (bs.map bv)):cr w base v bs:=by
 obtain⟨h0,⟨rfl,h1⟩|⟨g,cap,cur,rfl,h1,h2,h3,h4,h5,h6⟩⟩:=h
 ·exact .inl ⟨rfl,List.length_eq_zero_iff.1 h1⟩
 ·exact .inr ⟨g,cap,cur,(0,0),rfl,h1,h2,.inl rfl,h3,h4,ae,by grind⟩
theorem cr.base{w:World}{base base':Nat}{v:Value}{bs:List UInt8}(h:cr w base v bs)(hb:base'<=base):cr w base' v bs:=by
 rcases h with h |⟨g,cap,cur,fz,h1,h2,h3⟩
 ·exact .inl h
 ·exact .inr ⟨g,cap,cur,fz,h1,Nat.le_trans hb h2,h3⟩
theorem cr.lt{w:World}{base:Nat}{v:Value}{bs:List UInt8}(h:cr w base v bs):∀k,v.ownBlock=some k->base<=k/\k<w.heap.size:=by
 intro k hk;rcases h with⟨rfl,_⟩|⟨g,cap,cur,fz,rfl,h1,h2,_⟩
 ·cases hk
 ·cases hk;grind
theorem cr.kept{w w':World}{base:Nat}{v:Value}{bs:List UInt8}(h:cr w base v bs)(hk:∀k,v.ownBlock=some k->w'.heap[k]? = w.heap[k]?):cr w' base v bs:=by
 rcases h with h |⟨g,cap,cur,fz,rfl,h1,h2,h3⟩
 ·exact .inl h
 ·exact .inr ⟨g,cap,cur,fz,rfl,h1,(hk g rfl).trans h2,h3⟩
theorem cr.cells{w:World}{base g cap n:Nat}{bs:List UInt8}(h:cr w base (.slice (some ⟨g,0,none⟩) n cap) bs){j:Nat}(hj:j<bs.length):w.cell? ⟨g,j,none⟩=some (bv bs[j]):=by
 rcases h with⟨h,_⟩|⟨g',cap',cur,fz,h,h1,h2,h3,h4,h5,h6,h7⟩
 ·cases h
 ·cases h;rw[cell_of_row w g j cur _ fz h2];have:(cur.toList.take bs.length)[j]? = (bs.map bv)[j]? := by rw[h7]
  grind
theorem cr.rd{w:World}{base:Nat}{v:Value}{bs:List UInt8}(h:cr w base v bs):Rd w v bs:=by
 rcases h with⟨rfl,rfl⟩|⟨g,cap,cur,fz,rfl,h1,h2,h3,h4,h5,h6,h7⟩
 ·exact⟨none,0,rfl,Nat.le_refl _,Nat.zero_le _,.inl rfl⟩
 ·refine⟨some ⟨g,0,none⟩,cap,rfl,h4,h5,.inr ⟨g,0,rfl,fun j hj=>?_⟩⟩;rw[Nat.zero_add];exact cr.cells (.inr ⟨g,cap,cur,fz,rfl,h1,h2,h3,h4,h5,h6,h7⟩) hj
theorem wR{w:World}(base ty:Nat)(v:Value)(bs:List UInt8)(h:cr w base v bs)(b c:Nat)(y:UInt8)(hb:w.cell? ⟨b,0,none⟩=some (bv y))(hl:bs.length<=100000)(hbase:base<=w.heap.size) :
 ∃v' w',(Builtin.append_ #[39,39] ty #[v,.slice (some ⟨b,0,none⟩) 1 c]).run prog w=.ok v' w'/\cr w' base v' (bs++[y])/\w.grownBy w' v.ownBlock/\(v'.ownBlock=v.ownBlock\/v'.ownBlock=some w.heap.size):=by
 obtain⟨i0,hi,hz0,hz1,hz2⟩:=info_parts k8;have hnews:∀(j:Nat)(u:Value),[bv y][j]? = some u->w.cell? ((⟨b,0,none⟩:Addr).add j)=some u:=by
  grind [bG]
 have hold:∀g n cap,v=.slice (some ⟨g,0,none⟩) n cap->∀(j:Nat)(u:Value),(bs.map bv)[j]? = some u->w.cell? ((⟨g,0,none⟩:Addr).add j)=some u:=by
  grind [bG,cr.cells]
 rcases h with⟨rfl,rfl⟩|⟨g,cap,cur,fz,rfl,h1,h2,h3,h4,h5,h6,h7⟩
 ·obtain⟨v',w',r1,r2,r3,-,r5⟩:=run_append_own_at (P:=prog) w base 39 ty 5 i0 (.int .u8 0) 1 1 Tryz.underlying39 hi hz0 hz1 hz2 rfl af (.slice none 0 0) 0 [] (World.ownsRow_nil _ _ _ _) ⟨b,0,none⟩ 1 c [bv y] rfl hnews (by simp[iF]) (by grind [maxLen]) ae hbase;grind [cr.of]
 ·by_cases hroom:bs.length+1<=cap
  ·have hf:=run_firstCells_some (P:=prog) w 1 1 ⟨b,0,none⟩ 1 c [bv y] rfl hnews;have hcell:w.cell? ⟨g,bs.length,none⟩=some cur[bs.length]:=by
    rw[cell_of_row w g bs.length cur _ fz h2];simp
   have aqk:w.frozen? ⟨g,bs.length,none⟩=false:=by
    grind [World.frozen?]
   have hst:(storeCells ⟨g,bs.length,none⟩ [bv y] 0).run prog w=.ok () (w.setRow g (cur.setIfInBounds bs.length (bv y))):=by
    grind [run_store,iF,setCell_eq_setRow,bG,storeCells,Sem.run_bind,Result.andThen_ok,Sem.run_pure]
   have hlen:(bs++[y]).length=bs.length+1:=by simp
   have hbl:bs.length<cur.toList.length:=by grind
   refine⟨.slice (some ⟨g,0,none⟩) (bs.length+1) cap,w.setRow g (cur.setIfInBounds bs.length (bv y)),?_,.inr ⟨g,cap,cur.setIfInBounds bs.length (bv y),fz,ah,h1,setRow_heap w g cur _ _ fz h2,by grind,ae,h5,by grind,?_⟩,⟨rfl,rfl,rfl,ah,fun k _ hk=>setRow_other w g k _ (fun e=>hk (by simp[Value.ownBlock,e]))⟩,.inl rfl⟩
   ·simp[Builtin.append_,run_underlying Tryz.underlying39,sizeOf,typeInfo,hi,hz1,Builtin.lenOf,hroom,hf,bG,hst]
   grind [List.take_add_one,List.take_set_of_le]
  ·have hr:=run_append_grow (P:=prog) w 39 ty 5 i0 (.int .u8 0) Tryz.underlying39 hi hz0 ⟨g,0,none⟩ bs.length cap (bs.map bv) (by grind) (hold g _ _ rfl) ⟨b,0,none⟩ 1 c [bv y] (by grind) hnews ae ae (growslice_fits ae (by grind));have vG:=grownCap_ge w (bs.length+1) cap 5;have hcm:grownCap w (bs.length+1) cap 5<=maxLen:=grownCap_le_maxLen w (bs.length+1) cap 5 (by grind [maxLen]);refine⟨_,_,hr,.inr ⟨w.heap.size,_,_,(0,0),?_,hbase,heap_alloc_new w.drew _,.inl rfl,?_,hcm,?_,?_⟩,⟨rfl,rfl,rfl,ah,fun k hk _=>(MapKept.heap_alloc w.drew _).2 k hk⟩,.inr rfl⟩
   ·simp
   ·grind
   ·simp only[Array.size_append,List.size_toArray,size_zeroCells,List.length_map,List.length_cons,List.length_nil];have hz:(Value.int IntKind.u8 0).cells.size=1:=rfl;grind
   grind
end
section
open Go.RowKit
section
variable {w:World} {ops:Array Oper} {rest:List Oper} {op:Oper} {a:Act} {Q:Exit->Act->World->Prop}
theorem rP(hgd:op.guard=none)(s x:Operand)(ho:op.op=.call { callee:=.builtin .append,args:=#[s,x],argTypes:=#[39,39] })(base:Nat)(v:Value)(bs:List UInt8)(hs:a.eval s=v)(h:cr w base v bs)(y:UInt8)(b c:Nat)(hx:a.eval x=.slice (some ⟨b,0,none⟩) 1 c)(hb:w.cell? ⟨b,0,none⟩=some (bv y))(hl:bs.length<=100000)(hbase:base<=w.heap.size)(k:∀v' w',cr w' base v' (bs++[y])->w.grownBy w' v.ownBlock->wpList prog ops Q rest (a.put op.dst v') w') :
 wpList prog ops Q (op::rest) a w:=by
 refine wpList_plain hgd fun K hK=>?_;obtain⟨v',w',g1,g2,g3,g4⟩:=wR base op.type v bs h b c y hb hl hbase;unfold Oper.wp execOp;simp only[ho,resolve,invoke,builtin,Sem.run_bind,Sem.run_pure,Result.andThen_ok,List.map_toArray,List.map_cons,List.map_nil,hs,hx,g1];exact hK _ _ (k v' w' g2 g3)
theorem cr.alloc{base:Nat}{v:Value}{bs:List UInt8}(h:cr w base v bs)(ob:Obj):cr (w.alloc ob) base v bs:=h.kept (fun k hk=>(MapKept.heap_alloc w _).2 k (h.lt k hk).2)
end
def wS(w:World)(bs:List UInt8)(e:Ending)(w':World):Prop:=
 ∃v',e=.returned v'/\cr w' w.heap.size v' bs/\Below w.heap.size w w'
theorem E7(w:World)(s:ByteArray)(hs:s.size<=100000):cr (Lib.bytesWorld w 5 s) w.heap.size (.slice (some ⟨w.heap.size,0,none⟩) s.size (grownCap w s.size 0 5)) s.data.toList:=by
 have hlen:s.data.toList.length=s.size:=by rw[Array.length_toList];rfl
 have vG:=grownCap_ge w s.size 0 5;have hcm:=grownCap_le_maxLen w s.size 0 5 (by unfold maxLen;omega);have hsz:(Lib.bytesCells w 5 s).size=grownCap w s.size 0 5:=by
  unfold Lib.bytesCells;rw[Array.size_append,Array.size_map,Array.size_replicate];have:s.data.size=s.size:=rfl;omega
 have hh:(Lib.bytesWorld w 5 s).heap[w.heap.size]? = some (.cells (Lib.bytesCells w 5 s) 5 ((Lib.bytesCells w 5 s).size,(Lib.bytesCells w 5 s).size+1)):=by
  unfold Lib.bytesWorld World.freeze;rw[if_neg af];have h1:=heap_alloc_new w.drew (.cells (Lib.bytesCells w 5 s) 5);rw[World.size_drew]at h1;dsimp only;rw[Array.getElem?_modify,if_pos rfl,h1];simp
 refine .inr ⟨w.heap.size,_,_,_,by rw[hlen],Nat.le_refl _,hh,.inr (Nat.le_refl _),ae,hcm,hsz,?_⟩;unfold Lib.bytesCells;rw[Array.toList_append,List.take_append_of_le_length ah,Array.toList_map,List.take_of_length_le ah];rfl
theorem CD(v:Value)(bs:List UInt8)(w:World)(hv:Rd w v bs)(hl:bs.length<=1000) :
 Calls prog 156 #[v] w (wS w bs):=by
 obtain⟨a,cap,rfl,hlc,hcm,hc⟩:=hv;by_cases h0:bs.length=0
 ·have hb:bs=[]:=List.length_eq_zero_iff.1 h0;subst hb;clear hc hlc hcm;go_enter func156,ntmps156;go_wp2;go_ret;exact⟨_,rfl,cr.nil _ _,Below.refl _ _⟩
 ·obtain⟨b,off,rfl,hcell⟩:=hc.resolve_left h0;have hcv:Sem.run prog (convert 39 9 (.slice (some ⟨b,off,none⟩) bs.length cap)) w=.ok (.string ⟨bs.toArray⟩) w:=
   run_convert_bytes_back (P:=prog) w 39 9 5 ⟨b,off,none⟩ cap bs Tryz.underlying39 Tryz.underlying5 Tryz.underlying9 (fun j hj=>by
    rw[bG];exact hcell j hj)
  have aql:=Lib.run_convert_string_bytes (P:=prog) w 9 39 5 ⟨bs.toArray⟩ Tryz.underlying9 Tryz.underlying39 Tryz.underlying5;have h1:=aa (E7 w ⟨bs.toArray⟩ (by show bs.toArray.size<=_;simp;omega));have hb:=aa (Joins.below_bytesWorld w.heap.size w 5 ⟨bs.toArray⟩ (Nat.le_refl _));have h0':¬(bs.length:Int)=0:=by omega
  clear hcell hc hlc hcm;go_enter func156,ntmps156;go_wp2;go_ret;exact⟨_,rfl,h1.o,hb.o⟩
theorem VQ(w:World):Calls prog 157 #[.int .i64 4] w fun e w'=>e=.returned (.bool true)/\w=w':=by
 go_enter func157,ntmps157;go_wp2;go_ret;exact⟨rfl,rfl⟩
theorem VR(w:World):Calls prog 157 #[.int .i64 8] w fun e w'=>e=.returned (.bool true)/\w=w':=by
 go_enter func157,ntmps157;go_wp2;go_ret;exact⟨rfl,rfl⟩
theorem Oz(size:Nat)(hs:size=4\/size=8)(w:World):Calls prog 157 #[.int .i64 (size:Int)] w fun e w'=>e=.returned (.bool true)/\w=w':=by
 rcases hs with rfl | rfl
 ·exact VQ w
 ·exact VR w
theorem K6(v:Value)(bs:List UInt8)(x size:Nat)(w:World)(hs:size=4\/size=8)(hx:x<18446744073709551616)(hv:Rd w v bs)(hl:bs.length<=900) :
 Calls prog 108 #[v,.int .u64 (x:Int),.int .i64 (size:Int)] w (wS w (bs++le x size)):=by
 have XN:=aa (CD v bs w hv ae);have hsz:=aa (Oz size hs);have KD:size<=8:=by omega
 clear hv hs;go_enter func108,ntmps108;go_wp2_with fail;refine XN.o.mono ?_;rintro e w1⟨v1,rfl,hb1,rS⟩;have cT:=aa hb1;have HBe:=aa rS;clear hb1 rS XN;go_wp2;go_loopw [1,7,8] (fun y out i wr=>∃k:Nat,k<=size/\y=.int .u64 ((x/256^k:Nat):Int)/\i=.int .i64 (k:Int)/\cr wr w.heap.size out (bs++le x k)/\Below w.heap.size w wr) (fun _ _ i _=>size-(intOf i).toNat)
 case atStart=>exact⟨0,Nat.zero_le _,ah,rfl,by simpa[le]using cT.o,HBe.o⟩
 case round=>
  obtain⟨k,hk,rfl,rfl,hb2,zu⟩:=hrel;have cZ:=aa hb2;have Z3:=aa zu;clear hb2 zu;by_cases hlt:k<size
  ·have hz:x/256^k<18446744073709551616:=Nat.lt_of_le_of_lt (Nat.div_le_self _ _) hx;have hzn:x/256^(k+1)=x/256^k/256:=by rw[Nat.pow_succ,Nat.div_div_eq_div_mul]
   have HZ:Hid (le x (k+1)=le x k++[UInt8.ofNat (x/256^k)]):=aa rfl;have HZN:=aa hzn;have hlen:(bs++le x k).length<=100000:=by rw[List.length_append,cj];omega
   have hsize:w.heap.size<=wr.heap.size:=Z3.o.size;clear hzn;generalize x/256^k=z at *;go_wp2_with fail;refine(hsz.o wr).mono ?_;rintro e w'⟨rfl,rfl⟩;have hby:Hid (bv (UInt8.ofNat z)=.int .u8 ((z%256:Nat):Int)):=aa (by unfold bv;simp);go_wp2_with (at_builtin;refine rP rfl _ _ rfl w.heap.size _ _ rfl (cZ.o.alloc _) (UInt8.ofNat z) wr.heap.size 1 rfl ?c1 hlen ?c2 ?_);case c1=>rw[hby.o];simp
   case c2=>simp;omega
   intro v4 w4 hb4 hg4;have oZ:Hid (cr w4 w.heap.size v4 (bs++le x (k+1))):=aa (by rw[HZ.o,<- List.append_assoc];simpa using hb4);have ajO:Hid (Below w.heap.size w w4):=aa ((Z3.o.alloc hsize _).grown hg4 (by simp;omega) (fun k hk=>(cZ.o.lt k hk).1));clear hb4 hg4;go_wp2;go_roundw
   case rel=>exact⟨k+1,ae,by rw[HZN.o];rfl,by go_num,oZ.o,ajO.o⟩
   case measure=>simp[intOf];omega
  ·go_wp2;obtain rfl:k=size:=by omega
   go_ret;exact⟨_,rfl,cZ.o,Z3.o⟩
theorem Iu(e:aJ)(w:World):Calls prog 73 #[.agg #[.int .u32 (e.t.toNat:Int),.int .u32 (e.h.toNat:Int),.int .u64 (e.x.toNat:Int),.int .u32 (e.m.toNat:Int)]] w (wS w e.bytes):=by
 have hput:=aa K6;have h1:=e.t.toNat_lt;have h2:=e.h.toNat_lt;have h3:=e.x.toNat_lt;have h4:=e.m.toNat_lt;have HBY:Hid (e.bytes=le e.t.toNat 4++le e.h.toNat 4++le e.x.toNat 8++le e.m.toNat 4):=aa rfl;generalize e.bytes=bs at *;generalize e.t.toNat=et at *;generalize e.h.toNat=eh at *;generalize e.x.toNat=ex at *;generalize e.m.toNat=em at *;go_enter func73,ntmps73;have kK:Hid (Below w.heap.size w (w.alloc (.cells #[.int .u32 (et:Int),.int .u32 (eh:Int),.int .u64 (ex:Int),.int .u32 (em:Int)] 64))):=aa ai;have CE:Hid ((w.alloc (.cells #[.int .u32 (et:Int),.int .u32 (eh:Int),.int .u64 (ex:Int),.int .u32 (em:Int)] 64)).heap[w.heap.size]? = some (.cells #[.int .u32 (et:Int),.int .u32 (eh:Int),.int .u64 (ex:Int),.int .u32 (em:Int)] 64)):=aa (heap_alloc_new w _);have jH:=aa (cr.nil (w.alloc (.cells #[.int .u32 (et:Int),.int .u32 (eh:Int),.int .u64 (ex:Int),.int .u32 (em:Int)] 64)) w.heap.size).rd;go_wp2_with fail;generalize w.alloc (.cells #[.int .u32 (et:Int),.int .u32 (eh:Int),.int .u64 (ex:Int),.int .u32 (em:Int)] 64)=w0 at *;have cellsOf:Hid (∀W,Below w0.heap.size w0 W->W.cell? ⟨w.heap.size,0,none⟩=some (.int .u32 (et:Int))/\W.cell? ⟨w.heap.size,1,none⟩=some (.int .u32 (eh:Int))/\W.cell? ⟨w.heap.size,2,none⟩=some (.int .u64 (ex:Int))/\W.cell? ⟨w.heap.size,3,none⟩=some (.int .u32 (em:Int))):=aa (fun W hW=>by
  have hx:=(hW.block _ (eI CE.o)).trans CE.o;refine⟨?_,?_,?_,?_⟩<;>rw[aq hx]<;>rfl)
 refine(hput.o (.slice none 0 0) [] et 4 w0 (.inl rfl) ae jH.o af).mono ?_;rintro e1 w1⟨v1,rfl,hb1,rS⟩;have Dk:=aa rS;have ny:=aa hb1;obtain⟨-,k1,-,-⟩:=cellsOf.o w1 Dk.o;clear hb1 rS;go_wp2_with fail;refine(hput.o v1 (le et 4) eh 4 w1 (.inl rfl) ae ny.o.rd (by rw[cj];omega)).mono ?_;rintro e2 w2⟨v2,rfl,hb2,zu⟩;have G6:=aa (Dk.o.trans (zu.mono Dk.o.size));have Cy:=aa hb2;obtain⟨-,-,k2,-⟩:=cellsOf.o w2 G6.o;clear hb2 zu k1;go_wp2_with fail;refine(hput.o v2 (le et 4++le eh 4) ex 8 w2 (.inr rfl) ae Cy.o.rd (by rw[List.length_append,cj,cj];omega)).mono ?_;rintro e3 w3⟨v3,rfl,hb3,JZ⟩;have Ck:=aa (G6.o.trans (JZ.mono G6.o.size));have BD:=aa hb3;obtain⟨-,-,-,k3⟩:=cellsOf.o w3 Ck.o;clear hb3 JZ k2;go_wp2_with fail;refine(hput.o v3 (le et 4++le eh 4++le ex 8) em 4 w3 (.inl rfl) ae BD.o.rd (by simp only[List.length_append,cj];omega)).mono ?_;rintro e4 w4⟨v4,rfl,hb4,PC⟩;have Cg:=aa (Ck.o.trans (PC.mono Ck.o.size));have Mr:Hid (cr w4 w.heap.size v4 bs):=aa (by rw[HBY.o];exact hb4.base (Nat.le_trans kK.o.size Ck.o.size));clear hb4 PC k3;go_wp2;go_ret;exact⟨_,rfl,Mr.o,kK.o.trans (Cg.o.mono kK.o.size)⟩
end
section
open Go.RowKit Go.Maps
structure Held(w0 w:World)(pb db n:Nat)(o:ar)(d:Dsk)(L:aD):Prop where
 aX:aQ w pb db n o d L
 new:∀x t,o x=some t->w0.heap.size<=x
 below:Below w0.heap.size w0 w
 cM:d.cM=0
 dead:d.dead=false
 bD:d.bD=131072
section
variable {S:Nat->Prop} {w0 w w':World} {pb db n:Nat} {o o':ar} {d d':Dsk} {L L' xQ:aD}
theorem Held.moved(h:Held w0 w pb db n o d L)(hm:au S n pb db w o d w' o' d' L')(hs:∀x,S x->w0.heap.size<=x):Held w0 w' pb db n o' d' L':=by
 have hz:=h.below.size;refine⟨hm.aX,fun x t hx=>?_,?_,(hm.on.calm h.cM).1,(hm.on.calm h.cM).2 h.dead,hm.on.bD.trans h.bD⟩
 ·rcases Nat.lt_or_ge x w.heap.size with hl | hg
  ·rw[hm.grow x hl]at hx;exact h.new x t hx
  ·omega
 ·refine h.below.trans ⟨hm.turn.os,hm.turn.tape,hm.turn.output,hm.size,fun k hk=>hm.turn.block k ae ?_⟩;rintro(⟨t,h1,h2⟩| h1)
  ·have:=h.new k t h1;omega
  grind
theorem Held.later(h:Held w0 w pb db n o d L)(hb:Below w.heap.size w w'):Held w0 w' pb db n o d L:=⟨h.aX.below hb,h.new,h.below.trans (hb.mono h.below.size),h.cM,h.dead,h.bD⟩
theorem Held.fine(h:Held w0 w pb db n o d L)(hm:au S n pb db w o d w' o' d' L'){B c:Nat}(he:c=0\/ju d d' B c)(hn:B<=131072):c=0:=by
 refine he.elim id fun he=>?_;rcases he with⟨_,h1⟩|⟨_,h1⟩
 ·grind [bD]
 ·rw[(hm.on.calm h.cM).2 h.dead]at h1;cases h1
theorem Held.oH(h:Held w0 w pb db n o d L)(hm:au S n pb db w o d w' o' d' L'){c:Nat}(he:c=0\/kI d d' xQ c)(hn:need xQ<=131072):c=0:=
 h.fine hm (he.imp id fun e=>e.num hn) (Nat.le_refl _)
theorem Held.tick(h:Held w0 w pb db n o d L):d.tick.dead=false:=by
 grind [Dsk.tick,cM,dead]
theorem OA(q n:Nat):Sound (Dsk.new q) (List.replicate n bZ.none) []:=by
 have hb:∀fr∈List.replicate n bZ.none,fr=bZ.none:=fun fr h=>(List.mem_replicate.1 h).2;refine⟨ah,by simp[Dsk.new],fun x=>rfl,fun x h=>by simp[aB]at h,fun x ps fl h=>by simp[aB]at h,fun x f ls h=>by simp[aB]at h,fun fr h hf=>?_,fun fr h _=>hb fr h,fun i j fi fj h1 h2 hf=>?_,fun x s h=>by grind [Dsk.new]⟩
 ·rw[hb fr h]at hf;cases hf
 ·rw[hb fi (List.mem_of_getElem? h1)]at hf;cases hf
def kL(w:World)(v:Value)(es:List aJ):Prop:=
 ∃a cap,v=.slice a es.length cap/\(es.length=0\/∃b off,a=some ⟨b,off,none⟩/\∀(j:Nat)(x:aJ),es[j]? = some x->w.cell? ⟨b,off+j*4,none⟩=some (.int .u32 (x.t.toNat:Int))/\w.cell? ⟨b,off+j*4+1,none⟩=some (.int .u32 (x.h.toNat:Int))/\w.cell? ⟨b,off+j*4+2,none⟩=some (.int .u64 (x.x.toNat:Int))/\w.cell? ⟨b,off+j*4+3,none⟩=some (.int .u32 (x.m.toNat:Int)))
theorem kL.below{w w':World}{v:Value}{es:List aJ}(h:kL w v es)(hb:Below w.heap.size w w'):kL w' v es:=by
 obtain⟨a,cap,rfl,h |⟨b,off,rfl,hc⟩⟩:=h
 ·exact⟨a,cap,rfl,.inl h⟩
 ·refine⟨_,cap,rfl,.inr ⟨b,off,rfl,fun j x hx=>?_⟩⟩;grind [bo]
end
end
section
open Go.RowKit Go.Maps
structure Kept(q:Nat)(w0 w:World)(pb db n:Nat)(o:ar)(d:Dsk)(L:aD):Prop where
 aX:aQ w pb db n o d L
 new:∀x t,o x=some t->w0.heap.size<=x
 below:Below w0.heap.size w0 w
 cM:d.cM=0
 dead:d.dead=false
 bD:d.bD=q
section
variable {S:Nat->Prop} {q:Nat} {w0 w w':World} {pb db n:Nat} {o o':ar} {d d':Dsk} {L L' xQ:aD}
theorem Kept.moved(h:Kept q w0 w pb db n o d L)(hm:au S n pb db w o d w' o' d' L')(hs:∀x,S x->w0.heap.size<=x):Kept q w0 w' pb db n o' d' L':=by
 have hz:=h.below.size;refine⟨hm.aX,fun x t hx=>?_,?_,(hm.on.calm h.cM).1,(hm.on.calm h.cM).2 h.dead,hm.on.bD.trans h.bD⟩
 ·rcases Nat.lt_or_ge x w.heap.size with hl | hg
  ·rw[hm.grow x hl]at hx;exact h.new x t hx
  ·omega
 ·refine h.below.trans ⟨hm.turn.os,hm.turn.tape,hm.turn.output,hm.size,fun k hk=>hm.turn.block k ae ?_⟩;rintro(⟨t,h1,h2⟩| h1)
  ·have:=h.new k t h1;omega
  grind
theorem Kept.later(h:Kept q w0 w pb db n o d L)(hb:Below w.heap.size w w'):Kept q w0 w' pb db n o d L:=⟨h.aX.below hb,h.new,h.below.trans (hb.mono h.below.size),h.cM,h.dead,h.bD⟩
theorem Kept.fine(h:Kept q w0 w pb db n o d L)(hm:au S n pb db w o d w' o' d' L'){B c:Nat}(he:c=0\/ju d d' B c)(hn:B<=q):c=0:=by
 refine he.elim id fun he=>?_;rcases he with⟨_,h1⟩|⟨_,h1⟩
 ·grind [bD]
 ·rw[(hm.on.calm h.cM).2 h.dead]at h1;cases h1
theorem Kept.oH(h:Kept q w0 w pb db n o d L)(hm:au S n pb db w o d w' o' d' L'){c:Nat}(he:c=0\/kI d d' xQ c)(hn:need xQ<=q):c=0:=
 h.fine hm (he.imp id fun e=>e.num hn) (Nat.le_refl _)
theorem Kept.tick(h:Kept q w0 w pb db n o d L):d.tick.dead=false:=by
 grind [Dsk.tick,cM,dead]
theorem Kept.count(h:Kept q w0 w pb db n o d L):d.files.length=L.length:=by
 obtain⟨_,_,_,_,_,_,_,g⟩:=h.aX;have hp:(d.files.map (·.1)).Perm (L.map (·.1)):=by
  grind [List.perm_ext_iff_of_nodup,Sound.fH,Sound.keys,mem_keys,Sound.names]
 have:=hp.length_eq;grind
end
end
section
open Go.RowKit Go.Maps
def yV:Name:=⟨#[120]⟩
def CF(es:List aJ)(L:aD):Prop:=(∃fl,aB L yV=some (aw es fl))/\(∀y,y≠yV->aB L y=none)/\need L<=4*es.length
theorem lG{L:aD}{nm:Name}{f:gT}(h:∀y,y≠nm->aB L y=none):aS L nm f=[(nm,f)]:=by
 unfold aS;have:b8 L nm=[]:=by
  rw[List.eq_nil_iff_forall_not_mem];rintro⟨y,g⟩hy;have h1:y∈(b8 L nm).map (·.1):=List.mem_map.2 ⟨_,hy,rfl⟩;rw[mem_keys,cP]at h1;split at h1
  ·cases h1
  ·rename_i hne
   rw[h y (by first | exact hne | exact fun e=>hne e.symm)]at h1;cases h1
 rw[this]
theorem CF.add{es:List aJ}{x:aJ}{L:aD}(h:CF es L):CF (es++[x]) (aS L yV (aw (es++[x]) false)):=by
 refine⟨⟨false,by rw[ay,if_pos rfl]⟩,fun y hy=>by rw[lG h.2.1];rw[<- lG (L:=[]) (fun _ _=>rfl),ay,if_neg hy];rfl,?_⟩;rw[lG h.2.1,iT];have:=cH (es++[x]) false;show _+0<=_;omega
def MP(w:World)(n:Nat)(es:List aJ)(e:Ending)(w':World):Prop:=
 ∃db pb o d L,e=.returned (.tuple #[ptrTo db,ptrTo pb])/\Held w w' pb db n o d L/\CF es L
theorem VS(HW:aP)(n:Nat)(h1:1<=n)(h2:n<=4096)(v:Value)(es:List aJ)(w:World)(hv:kL w v es)(hl:es.length<=10000) :
 Calls prog 37 #[.int .i64 (n:Int),v] w (MP w n es):=by
 have JQ:Hid (Calls prog 69 #[.int .i64 131072] w fun e w'=>∃db o,e=.returned (.tuple #[ptrTo db,.int .i64 0])/\cK w' db o (Dsk.new 131072)/\Below w.heap.size w w'/\∀x t,o x=some t->w.heap.size<=x):=aa (Gn 131072 af w);have hnp:Hid (∀W db o,cK W db o (Dsk.new 131072)->Calls prog 70 #[ptrTo db,.int .i64 (n:Int)] W (xP W db n o (Dsk.new 131072) [])):=aa (fun W db o h=>G4 h n h1 h2 (OA _ n));have HV:=aa hv;obtain⟨a,cap,rfl,-⟩:=hv;unfold ptrTo at *;go_enter func37,ntmps37;go_wp2_with fail;refine JQ.o.mono ?_;rintro e w1⟨db,o1,rfl,nu,hb1,BF⟩;have hcp:=aa (hnp.o w1 db o1 nu);have cT:=aa hb1;have Gq:=aa BF;clear nu hb1 BF JQ hnp;unfold ptrTo at *;go_wp2_with fail;refine hcp.o.mono ?_;rintro e w2⟨pb,o2,rfl,j7,hb2,hg2,Nx⟩;have XO:Hid (Held w w2 pb db n o2 (Dsk.new 131072) []):=aa ⟨j7,fun x t hx=>by
  rcases Nat.lt_or_ge x w1.heap.size with hl | hg
  ·rw[hg2 x hl]at hx;exact Gq.o x t hx
  ·exact Nat.le_trans cT.o.size hg,cT.o.trans (hb2.mono cT.o.size),rfl,rfl,rfl⟩
 clear j7 hb2 hg2 Nx hcp;have hc0:dh (Dsk.new 131072) [] yV=0:=by decide
 have nH:=aa (kD XO.o.aX yV af);unfold fK at nH;rw[hc0]at nH;simp only[if_true]at nH;clear hc0;have HOP:Hid (∀W o' d' L',aQ W pb db n o' d' L'->d'.dead=false->CF [] L'->Calls prog 67 #[ptrTo pb,.string yV,.int .i64 20] W (dF W pb yV 20 0)):=aa (fun W o' d' L' hp hd hr=>by
  have h3:=dG (sz:=20) hp yV af af af;obtain⟨fl,Mu⟩:=hr.1;rw[gS hp Mu,hd]at h3;exact h3)
 have Kp:Hid (∀W o' d' L' sb rv(x:aJ)(k:Nat),aQ W pb db n o' d' L'->aC W sb pb yV 20->o' sb=none->CF (es.take k) L'->Rd W rv x.bytes->(∀y,rv.ownBlock=some y->o' y=none)->Calls prog 72 #[ptrTo sb,rv] W (jq (fun _=>False) n pb db W o' d' L' (aS L' yV (aw (es.take k++[x]) false)))):=aa (fun W o' d' L' sb rv x k hp hst ho hr Bx hro=>by
  obtain⟨fl,Mu⟩:=hr.1;have h3:=j8 HW hp hst ho af af Mu (dY _) (by rw[List.length_map,List.length_take];omega) Bx x.eF hro;unfold aw;rw[List.map_append];exact h3)
 have XP:Hid (CF [] (aS [] yV (.inl (([]:List Pg),true)))):=aa ⟨⟨true,by rw[ay,if_pos rfl];rfl⟩,fun y hy=>by rw[ay,if_neg hy];rfl,Nat.le_refl _⟩;unfold ptrTo yV at *;go_wp2_with fail;refine nH.o.mono ?_;rintro e w3⟨d3,o3,rfl,ej,hx3,-⟩;have Mo:=aa (hx3 trivial);have FW:=aa (XO.o.moved ej (fun _ h=>h.elim));clear ej hx3 nH;have hop:=aa (HOP.o w3 o3 d3 _ FW.o.aX Mo.o XP.o);go_wp2_with fail;refine hop.o.mono ?_;rintro e w4⟨v4,rfl,hb4,oX,-⟩;obtain⟨sb,rfl,Ex,vr⟩:=oX rfl;have ur:=aa Ex;have Vr:Hid (o3 sb=none):=aa (FW.o.aX.fresh vr);have HH4:=aa (FW.o.later hb4);clear oX Ex vr hb4 hop;unfold ptrTo at *;obtain⟨M,hM⟩:∃M,M=es.length:=⟨_,rfl⟩;rw[<- hM]at hl;have HV':=HV;rw[<- hM]at HV' ⊢;have PY:=aa hM;clear hM HV;go_wp2;go_loopw [10] (fun i wr=>∃(k:Nat)(d':Dsk)(o':ar)(L':aD),k<=M/\i=.int .i64 (k:Int)/\Held w wr pb db n o' d' L'/\CF (es.take k) L'/\aC wr sb pb ⟨#[120]⟩ 20/\o' sb=none) (fun i _=>M-(intOf i).toNat)
 case atStart=>exact⟨0,d3,o3,_,Nat.zero_le _,rfl,HH4.o,XP.o,ur.o,Vr.o⟩
 case round=>
  obtain⟨k,d5,o5,L5,hk,rfl,T2,K7,aej,aek⟩:=hrel;have PZ:=aa T2;have yg:=aa K7;have Ic:=aa aej;have Ie:=aa aek;clear T2 K7 aej aek;by_cases hlt:k<M
  ·have yE:k<es.length:=by rw[<- PY.o];exact hlt
   have hx:es[k]? = some es[k]:=List.getElem?_eq_getElem yE;have sk:Hid (es.take (k+1)=es.take k++[es[k]]):=aa (List.take_succ_eq_append_getElem yE);obtain⟨a',cap',Co,hce⟩:=HV'.out;obtain⟨rfl,-,rfl⟩:a=a'/\M=es.length/\cap=cap':=by simpa using Co
   obtain⟨b,off,rfl,P0⟩:=hce.resolve_left ae;obtain⟨q0,q1,q2,q3⟩:=P0 k _ hx;generalize es[k]=x at *;clear hce P0 Co hx yE;have z0:=bo PZ.o.below q0;have z1:=bo PZ.o.below q1;have z2:=bo PZ.o.below q2;have z3:=bo PZ.o.below q3;clear q0 q1 q2 q3;have PS:=aa (Iu x wr);go_wp2_with fail;refine PS.o.mono ?_;rintro e w6⟨v6,rfl,FR,Yp⟩;have lf:=aa (Kp.o w6 o5 d5 L5 sb v6 x k (PZ.o.aX.below Yp) (Ic.o.below Yp) Ie.o yg.o FR.rd (fun y hy=>PZ.o.aX.fresh (FR.lt y hy).1));have HH6:=aa (PZ.o.later Yp);have R7:=aa (Ic.o.below Yp);clear FR Yp PS z0 z1 z2 z3;go_wp2_with fail;refine lf.o.mono ?_;rintro e w7⟨c7,d7,o7,rfl,tC,he7⟩;have hra:=yg.o.add (x:=x);have NB:c7=0:=HH6.o.oH tC he7 (by
    have:=yg.o.2.2;rw[List.length_take]at this;omega)
   subst NB;rw[if_pos rfl]at tC;rw[<- sk.o]at hra tC;have HH7:=aa (HH6.o.moved tC (fun _ h=>h.elim));have BL:=aa hra;have R9:=aa (R7.o.moved tC Ie.o (fun h=>h));have ZT:=aa (tC.free R7.o.lt Ie.o);clear tC he7 hra lf HH6 R7;go_wp2;go_roundw
   case rel=>exact⟨k+1,d7,o7,_,ae,by go_num,HH7.o,BL.o,R9.o,ZT.o⟩
   case measure=>simp[intOf];omega
  ·go_wp2;go_returns;have hkM:k=es.length:=by rw[<- PY.o];omega
   exact⟨db,pb,o5,d5,L5,rfl,PZ.o,by have:=yg.o;rwa [List.take_of_length_le ae]at this⟩
def Z4(nm:Name)(es:List aJ)(L:aD):Prop:=(∃fl,aB L nm=some (aw es fl))/\(∀y,y≠nm->aB L y=none)/\need L<=4*es.length
theorem Z4.add{nm:Name}{es:List aJ}{x:aJ}{L:aD}(h:Z4 nm es L):Z4 nm (es++[x]) (aS L nm (aw (es++[x]) false)):=by
 refine⟨⟨false,by rw[ay,if_pos rfl]⟩,fun y hy=>by rw[lG h.2.1];rw[<- lG (L:=[]) (fun _ _=>rfl),ay,if_neg hy];rfl,?_⟩;rw[lG h.2.1,iT];have:=cH (es++[x]) false;show _+0<=_;omega
end
section
open Go.RowKit Go.Maps
section
variable {q:Nat} {w0 w w':World} {pb db n:Nat} {o o':ar} {d d':Dsk} {L L' L2:aD}
theorem Kept.same(h:Kept q w0 w pb db n o d L)(hk:(L2.map (·.1)).Nodup)(he:∀x,aB L2 x=aB L x):Kept q w0 w pb db n o d L2:=
 ⟨h.aX.congr hk he,h.new,h.below,h.cM,h.dead,h.bD⟩
end
end
section
open Go.ChangeShapes Go.WideShapes Go.ChangeAt Go.RowKit Go.Joins
theorem P5:laidOutB prog=true:=by kernel_rfl
theorem AR{w:World}{a:Addr}{v:Value}(h:w.cell? a=some v):a.spot=none:=by
 obtain⟨b,o,s⟩:=a;cases s with
 |none=>rfl
 |some s=>
   unfold World.cell? at h;simp at h;split at h<;>cases h
theorem E8{z:Int}(h:(Lit.int .u32 z).wf=true):z=((UInt32.ofNat z.toNat).toNat:Int):=by
 simp[Lit.wf]at h;have h0:IntKind.u32.min=0:=rfl;have h1:IntKind.u32.max=4294967295:=rfl;rw[h0,h1]at h;rw[UInt32.toNat_ofNat'];omega
theorem VT{z:Int}(h:(Lit.int .u64 z).wf=true):z=((UInt64.ofNat z.toNat).toNat:Int):=by
 simp[Lit.wf]at h;have h0:IntKind.u64.min=0:=rfl;have h1:IntKind.u64.max=18446744073709551615:=rfl;rw[h0,h1]at h;rw[UInt64.toNat_ofNat'];omega
theorem SB{z:Int}(h:(Lit.int .u8 z).wf=true):∃k:Nat,k<256/\z=(k:Int):=by
 simp[Lit.wf]at h;have h0:IntKind.u8.min=0:=rfl;have h1:IntKind.u8.max=255:=rfl;rw[h0,h1]at h;exact⟨z.toNat,ae,ae⟩
theorem OB:prog.cellsOf 64=4:=by kernel_rfl
theorem OC:prog.cellsOf 26=1:=by kernel_rfl
theorem OD:prog.cellsOf 62=1:=by kernel_rfl
theorem E9{H:Type}{enc:TypeId×Value->H}{W:World}{sp:Nat->Bool}{a:Option Addr}{len cap:Nat}{d:DataW H}{p:List MemPlace}(h:DataW.Trod enc prog W 0 sp true 22 (.slice a len cap) d p) :
 ∃vs,kL W (.slice a len cap) vs:=by
 obtain⟨fuel,hf⟩:=h;rcases Deep.open_slice Tryz.underlying22 hf with⟨hcs,-⟩|⟨a',len',cap',m,n,D,Pl,hcs,-,hl,-,hm,-,hx⟩
 ·simp[Value.cells]at hcs;obtain⟨rfl,rfl,rfl⟩:=hcs;exact⟨[],none,0,rfl,.inl rfl⟩
 ·simp[Value.cells]at hcs;obtain⟨rfl,rfl,rfl⟩:=hcs;have hlm:len<=m:=by rw[hm];split<;>omega
  rw[OB]at hx;have each:∀i,i<len->∃x:aJ,W.cell? (a'.add (i*4))=some (.int .u32 (x.t.toNat:Int))/\W.cell? (a'.add (i*4+1))=some (.int .u32 (x.h.toNat:Int))/\W.cell? (a'.add (i*4+2))=some (.int .u64 (x.x.toNat:Int))/\W.cell? (a'.add (i*4+3))=some (.int .u32 (x.m.toNat:Int)):=by
   intro i hi;obtain⟨cs',h1,h2⟩:=hx i ae;obtain⟨_,hlen,hcell⟩:=World.cells?_some h1;obtain⟨xs,k,hk,hxy,_,CX,hf⟩:=DataW.trod_struct Tryz.underlying64 h2;match xs,CX,cs',hlen with
   | [y0,y1,y2,y3],_,[v0,v1,v2,v3],_=>
     have g0:=hf 0 _ rfl;have g1:=hf 1 _ rfl;have g2:=hf 2 _ rfl;have g3:=hf 3 _ rfl;simp[OC,OD]at g0 g1 g2 g3;obtain⟨n0,q0,-,w0⟩:=DataW.trod_int Tryz.underlying26 g0;obtain⟨n1,q1,-,w1⟩:=DataW.trod_int Tryz.underlying26 g1;obtain⟨n2,q2,-,w2⟩:=DataW.trod_int Tryz.underlying62 g2;obtain⟨n3,q3,-,w3⟩:=DataW.trod_int Tryz.underlying26 g3;obtain⟨rfl⟩:=q0;obtain⟨rfl⟩:=q1;obtain⟨rfl⟩:=q2;obtain⟨rfl⟩:=q3;have e0:=hcell 0 ae;have e1:=hcell 1 ae;have e2:=hcell 2 ae;have e3:=hcell 3 ae;rw[Deep.add_add]at e0 e1 e2 e3;exact⟨⟨UInt32.ofNat n0.toNat,UInt32.ofNat n1.toNat,UInt64.ofNat n2.toNat,UInt32.ofNat n3.toNat⟩,by rw[<- E8 w0];simpa using e0,by rw[<- E8 w1];simpa using e1,by rw[<- VT w2];simpa using e2,by rw[<- E8 w3];simpa using e3⟩
  have hv:∃vs:List aJ,vs.length=len/\∀(j:Nat)(x:aJ),vs[j]? = some x->W.cell? (a'.add (j*4))=some (.int .u32 (x.t.toNat:Int))/\W.cell? (a'.add (j*4+1))=some (.int .u32 (x.h.toNat:Int))/\W.cell? (a'.add (j*4+2))=some (.int .u64 (x.x.toNat:Int))/\W.cell? (a'.add (j*4+3))=some (.int .u32 (x.m.toNat:Int)):=by
   clear hx hf;generalize len=N at *;clear hl hm hlm;induction N with
   |zero=>exact⟨[],rfl,fun j x hj=>by cases hj⟩
   |succ N ih=>
     obtain⟨vs,h1,h2⟩:=ih (fun i hi=>each i ae);obtain⟨x,hx⟩:=each N ae;refine⟨vs++[x],by simp[h1],fun j y hj=>?_⟩;rcases Nat.lt_or_ge j vs.length with hlt | vG
     ·rw[List.getElem?_append_left hlt]at hj;exact h2 j y hj
     ·rw[List.getElem?_append_right vG]at hj;have:j-vs.length=0:=by
       rcases Nat.eq_zero_or_pos (j-vs.length) with h | h
       ·exact h
       ·rw[List.getElem?_eq_none (by simp;omega)]at hj;cases hj
      rw[this]at hj;cases hj;rw[show j=N by omega];exact hx
  obtain⟨vs,h1,h2⟩:=hv;subst h1;refine⟨vs,some a',cap,rfl,?_⟩;rcases Nat.eq_zero_or_pos vs.length with h0 | h0
  ·exact .inl h0
  ·refine .inr ⟨a'.block,a'.off,?_,?_⟩
   ·have h3:=(h2 0 vs[0] (List.getElem?_eq_getElem h0)).1;have h4:=AR (a:=a') (by simpa[Addr.add]using h3);obtain⟨b,o,s⟩:=a';cases h4;rfl
   ·have h3:=(h2 0 vs[0] (List.getElem?_eq_getElem h0)).1;have h4:=AR (a:=a') (by simpa[Addr.add]using h3);intro j x hj;have h5:=h2 j x hj;obtain⟨b,o,s⟩:=a';cases h4;simp only[bG]at h5;exact⟨h5.1,by rw[Nat.add_assoc];exact h5.2.1,by rw[Nat.add_assoc];exact h5.2.2.1,by rw[Nat.add_assoc];exact h5.2.2.2⟩
end
section
open Go.RowKit Go.Maps
section
variable {w0 w w':World} {pb db n:Nat} {o o':ar} {d d':Dsk} {L L':aD}
theorem pK(c:UInt8)(k:Nat):aG c k≠yV:=by
 grind [aG,yV]
theorem ael(k:Nat):dz k≠yV:=by
 intro e;have:=rG k;rw[e]at this;revert this
 decide
def Iw(w0:World)(pb db n:Nat)(gen:Nat)(es:List aJ)(vs:List bW)(L:aD)(e:Ending)(w':World):Prop:=
 ∃d' o',e=.returned (.int .i64 0)/\Held w0 w' pb db n o' d' (fP L gen es vs)
theorem OE(HW:aP){m:Nat}(yS:dZ m)(h:Held w0 w pb db n o d L)(hn:8<=n){es:List aJ}(hr:CF es L){gen:Nat}(hg:jw w o gen)(hm:es.length<=m)(hes:es.length<=1000){v:Value}{vs:List bW}(hvs:eH w v vs)(my:∀x,v.ownBlock=some x->o x=none)(UU:vs.length<=1000) :
 Calls prog 45 #[ptrTo pb,.string yV,.int .i64 (gen:Int),v] w (Iw w0 pb db n gen es vs L):=by
 obtain⟨fl,Mu⟩:=hr.1;refine(sy HW yS h.aX hn hg Mu af hm (hr.2.1 _ (pK _ _)) (hr.2.1 _ (pK _ _)) (hr.2.1 _ (pK _ _)) (fun k=>hr.2.1 _ (ael k)) hvs my ae).mono ?_;rintro e w'⟨c,d',o',L',rfl,qa,-,hc⟩;have MQ:=hr.2.2;have h0:c=0:=h.fine qa (hc.imp (fun h=>h.1) id) ae;subst h0;rcases hc with⟨_,rfl⟩| hc
 ·exact⟨d',o',rfl,h.moved qa (fun _ h=>h.elim)⟩
 grind [ju.ne]
theorem OG{b:Bool}{l out:List aJ}(h:dM b l out):E6 b out:=by
 intro i j x y hi hj fg;rcases Nat.lt_or_ge i j with hlt | vG
 ·have kB:=aM hi;have kY:=aM hj;rw[List.getElem?_eq_getElem kB]at hi;rw[List.getElem?_eq_getElem kY]at hj;have h1:=List.pairwise_iff_getElem.1 h.gC i j kB kY hlt;grind [EA]
 grind
theorem yj(b:Bool)(l:List aJ):E6 b (aK b l):=OG (bU b l)
theorem yl(L:aD)(gen:Nat)(es:List aJ)(vs:List bW) :
 aB (fP L gen es vs) (aG 101 gen)=some (aw (aK false es) true)/\aB (fP L gen es vs) (aG 114 gen)=some (aw (aK true es) true)/\aB (fP L gen es vs) (aG 118 gen)=some (b7 vs true):=by
 grind [iw,fP,ay]
theorem AU(L:aD)(gen:Nat)(es:List aJ)(vs:List bW):need (fP L gen es vs)<=need L+8*es.length+4*vs.length:=by
 grind [fP,cO,fU,cH,cd]
end
end
section
open Go.RowKit Go.Maps
def P1(w:World)(v:Value)(vs:List bW):Prop:=
 ∃a cap,v=.slice a vs.length cap/\(vs.length=0\/∃b off,a=some ⟨b,off,none⟩/\∀(j:Nat)(x:bW),vs[j]? = some x->w.cell? ⟨b,off+j*3,none⟩=some (.int .u32 (x.r.toNat:Int))/\w.cell? ⟨b,off+j*3+1,none⟩=some (.int .u32 (x.l.toNat:Int))/\w.cell? ⟨b,off+j*3+2,none⟩=some (.int .u32 (x.g.toNat:Int)))
theorem P1.below{w w':World}{v:Value}{vs:List bW}(h:P1 w v vs)(hb:Below w.heap.size w w'):P1 w' v vs:=by
 obtain⟨a,cap,rfl,h |⟨b,off,rfl,hc⟩⟩:=h
 ·exact⟨a,cap,rfl,.inl h⟩
 ·refine⟨_,cap,rfl,.inr ⟨b,off,rfl,fun j x hx=>?_⟩⟩;grind [bo]
def cL:List bW->List Value
 | []=>[]
 |x::l=>[.int .u32 (x.r.toNat:Int),.int .u32 (x.l.toNat:Int),.int .u32 (x.g.toNat:Int)]++cL l
theorem nN(l:List bW):(cL l).length=l.length*3:=by
 induction l with
 |nil=>rfl
 |cons e l ih=>grind [cL]
theorem iI{l:List bW}{i:Nat}{x:bW}(h:l[i]? = some x){j:Nat}(hj:j<3):(cL l)[i*3+j]? = [Value.int .u32 (x.r.toNat:Int),.int .u32 (x.l.toNat:Int),.int .u32 (x.g.toNat:Int)][j]? := by
 induction l generalizing i with
 |nil=>cases h
 |cons q l ih=>
   rw[cL];cases i with
   |zero=>
     grind
   |succ i=>
     grind
theorem K8(l:List bW):∀u∈cL l,u.oneCell'=true:=by
 induction l with
 |nil=>intro u hu;cases hu
 |cons x l ih=>
   intro u hu;rw[cL,List.mem_append]at hu;rcases hu with hu | hu
   ·simp at hu;rcases hu with rfl | rfl | rfl<;>rfl
   grind
theorem P1.cells{w:World}{v:Value}{vs:List bW}{b off n cap:Nat}(h:P1 w v vs)(hv:v=.slice (some ⟨b,off,none⟩) n cap):∀j u,(cL vs)[j]? = some u->w.cell? ((⟨b,off,none⟩:Addr).add j)=some u:=by
 intro j u hj;obtain⟨a,cap',Co,hc⟩:=h;have kY:=aM hj;rw[nN]at kY;rcases hc with h0 |⟨b',off',rfl,hc⟩
 ·omega
 ·rw[hv]at Co;obtain⟨⟨rfl,rfl⟩,-,-⟩:(b=b'/\off=off')/\n=vs.length/\cap=cap':=by grind
  have hi:j/3<vs.length:=by omega
  obtain⟨h1,h2,h3⟩:=hc (j/3) vs[j/3] (List.getElem?_eq_getElem hi);have hg:=iI (List.getElem?_eq_getElem hi) (j:=j%3) ae;grind [bG]
theorem wT:(prog.info? 55).map (fun i=>(i.zero,i.size,i.bytes))=some (some (.agg #[.int .u32 0,.int .u32 0,.int .u32 0]),3,12):=by kernel_rfl
theorem wpList_want{P:Program}{ops:Array Oper}{Q:Exit->Act->World->Prop}{a:Act}{w:World}{rest:List Oper}{o:Oper}(hw:Region.wanted o (yielded ops a.tmps)=true)(h:∀K:Act->World->Prop,(∀a w,wpList P ops Q rest a w->K a w)->o.wp P a w K Q):wpList P ops Q (o::rest) a w:=
 wpList_step fun K hK=>by grind
theorem yX(w:World)(T:TypeId)(size:Nat):(w.alloc (.cells #[] T)).ownsRow w.heap.size T size (.slice (some ⟨w.heap.size,0,none⟩) 0 0) 0 []:=
 ⟨ah,.inr ⟨w.heap.size,0,#[],rfl,Nat.le_refl _,heap_alloc_new w _,Nat.le_refl _,Nat.zero_le _,ah,ah⟩⟩
theorem kf{w:World}{base:Nat}{v:Value}{vs:List bW}(h:w.ownsRow base 55 3 v vs.length (cL vs)):eH w v vs/\∀x,v.ownBlock=some x->base<=x:=by
 refine⟨?_,aF h⟩;obtain⟨hl,⟨rfl,h0⟩|⟨g,cap,cur,rfl,hbg,hg,Yn,hcm,hcs,Qd⟩⟩:=h
 ·have:=List.eq_nil_of_length_eq_zero h0;subst this;exact⟨none,0,rfl,Nat.le_refl _,Nat.zero_le _,.inl rfl⟩
 ·refine⟨_,cap,rfl,Yn,hcm,.inr ⟨g,0,rfl,fun i hi=>?_⟩⟩;have hc:∀(j:Nat)(u:Value),(cL vs)[j]? = some u->w.cell? ⟨g,j,none⟩=some u:=fun j u hj=>by
   have:=World.ownsRow.cells (w:=w) (base:=base) (e:=55) (size:=3) (v:=.slice (some ⟨g,0,none⟩) vs.length cap) (n:=vs.length) (xs:=cL vs) ⟨hl,.inr ⟨g,cap,cur,rfl,hbg,hg,Yn,hcm,hcs,Qd⟩⟩ (g:=g) rfl j u hj;grind [bG]
  have gV:=List.getElem?_eq_getElem hi;refine⟨hc _ _ ?_,hc _ _ ?_,hc _ _ ?_⟩
  ·have:=iI gV (j:=0) af;grind
  ·rw[Nat.zero_add,iI gV af];rfl
  ·rw[Nat.zero_add,iI gV af];rfl
theorem kW{w:World}{ops:Array Oper}{rest:List Oper}{o:Oper}{a:Act}{Q:Exit->Act->World->Prop}(hwd:Region.wanted o (yielded ops a.tmps)=true)(s x:Operand)(ho:o.op=.call { callee:=.builtin .append,args:=#[s,x],argTypes:=#[23,23] })(hs:a.eval s=.slice (some ⟨w.heap.size,0,none⟩) 0 0)(v:Value)(vs:List bW)(hx:a.eval x=v)(hr:P1 w v vs)(hl:vs.length<=100000)(k:∀v' w',Hid (eH w' v' vs)->Hid (∀x,v'.ownBlock=some x->w.heap.size<=x)->Hid (Below w.heap.size w w')->wpList prog ops Q rest (a.put o.dst v') w') :
 wpList prog ops Q (o::rest) a (w.alloc (.cells #[] 55)):=by
 obtain⟨i0,rV,hz0,hz1,hz2⟩:=info_parts wT;have hown:=yX w 55 3;refine wpList_want hwd fun K hK=>?_;have hrun:∃v' w',(Builtin.append_ #[23,23] o.type #[.slice (some ⟨w.heap.size,0,none⟩) 0 0,v]).run prog (w.alloc (.cells #[] 55))=.ok v' w'/\w'.ownsRow w.heap.size 55 3 v' vs.length (cL vs)/\Below w.heap.size w w':=by
  have hrw:=hr;obtain⟨ad,cap,rfl,hc⟩:=hrw;cases ad with
  |none=>
    have h0:vs=[]:=by
     grind
    subst h0;have JY:∀ad,(storeCells ad []).run prog (w.alloc (.cells #[] 55))=.ok () (w.alloc (.cells #[] 55)):=fun _=>rfl;exact⟨_,_,by simp[Builtin.append_,run_underlying Tryz.underlying23,sizeOf,typeInfo,rV,Builtin.lenOf,Builtin.firstCells,JY],hown,aj.alloc (Nat.le_refl _) _⟩
  |some ad=>
    have lN:∀j u,(cL vs)[j]? = some u->(w.alloc (.cells #[] 55)).cell? (ad.add j)=some u:=fun j u hj=>by
     have kY:=aM hj;rw[nN]at kY;rcases hc with h0 |⟨b,off,ha,_⟩
     ·omega
     ·cases ha;have h1:=hr.cells rfl j u hj;rw[bG]at *;exact bo ai h1
    obtain⟨v',w',g1,g2,g3,g4,g5⟩:=run_append_own_at (P:=prog) (w.alloc (.cells #[] 55)) w.heap.size 23 o.type 55 i0 _ 3 12 Tryz.underlying23 rV hz0 hz1 hz2 rfl af _ 0 [] hown ad vs.length cap (cL vs) (nN vs) lN (K8 vs) (by grind [maxLen]) ae ah;refine⟨v',w',g1,by grind,?_⟩;obtain⟨q1,q2,q3,q4,q5⟩:=g3;refine⟨q1,q2,q3,by simp at q4;omega,fun k hk=>?_⟩;grind [Value.ownBlock,MapKept.heap_alloc]
 obtain⟨v',w',h1,h2,h3⟩:=hrun;obtain⟨h4,h5⟩:=kf h2;unfold Oper.wp execOp;simp only[ho,resolve,invoke,builtin,Sem.run_bind,Sem.run_pure,Result.andThen_ok,List.map_toArray,List.map_cons,List.map_nil,hs,hx,h1];exact hK _ _ (k v' w' (aa h4) (aa h5) (aa h3))
end
section
open Go.ChangeShapes Go.WideShapes Go.ChangeAt Go.RowKit Go.Joins
theorem K9:prog.cellsOf 22=1:=by kernel_rfl
theorem VU:prog.cellsOf 5=1:=by kernel_rfl
theorem La{H:Type}{enc:TypeId×Value->H}{W:World}{sp:Nat->Bool}{n:Nat}{t e:TypeId}{v:Value}{y:DataW H×List MemPlace}(ht:prog.underlying t=some (.slice e))(h:DataW.trod enc prog W 0 sp true n t [v]=some y) :
 ∃a len cap,v=.slice a len cap:=by
 rcases Deep.open_slice ht h with⟨hcs,-⟩|⟨a',len',cap',m,n,D,Pl,hcs,-⟩
 ·simp at hcs;exact⟨_,_,_,hcs⟩
 ·simp at hcs;exact⟨_,_,_,hcs⟩
theorem Fa:prog.cellsOf 69=3:=by kernel_rfl
theorem zj{H:Type}{enc:TypeId×Value->H}{W:World}{sp:Nat->Bool}{r:Reach}{b0:Nat}{v:Value}{d:DataW H}{p:List MemPlace}(hval:Value.okWide prog W r b0 69 v)(h:DataW.Trod enc prog W 0 sp true 69 v d p) :
 ∃(k:Nat)(ev:Value)(es:List aJ)(fr:Nat),v=.agg #[.int .u8 (k:Int),ev,.int .u8 (fr:Int)]/\kL W ev es/\k<256/\fr<256:=by
 obtain⟨cs,rfl,hsz⟩:=okWide_struct Tryz.underlying69 hval;obtain⟨fuel,hf⟩:=h;obtain⟨xs,k,hk,hxy,hl,CX,GN⟩:=DataW.trod_struct Tryz.underlying69 hf;rw[Fa]at hsz;obtain⟨cs⟩:=cs;match xs,CX,cs,hsz with
 | [y0,y1,y2],_,[v0,v1,v2],_=>
   have g0:=GN 0 _ rfl;have g1:=GN 1 _ rfl;have g2:=GN 2 _ rfl;simp[K9,VU,Value.cells]at g0 g1 g2;obtain⟨n0,q0,-,w0⟩:=DataW.trod_int Tryz.underlying5 g0;obtain⟨a1,l1,c1,rfl⟩:=La Tryz.underlying22 g1;obtain⟨n2,q2,-,w2⟩:=DataW.trod_int Tryz.underlying5 g2;obtain⟨rfl⟩:=q0;obtain⟨rfl⟩:=q2;obtain⟨es,hes⟩:=E9 (d:=y1.1) (p:=y1.2) ⟨_,g1⟩;obtain⟨k,hk,rfl⟩:=SB w0;obtain⟨fr,dS,rfl⟩:=SB w2;exact⟨k,_,es,fr,rfl,hes,hk,dS⟩
end
section
open Go.RowKit Go.Maps
abbrev ft:=Nat×Nat
def ix(a b:ft):Prop:=a.1<b.1\/a.1=b.1/\a.2<b.2
instance(a b:ft):Decidable (ix a b):=by unfold ix;infer_instance
theorem ix.asym{a b:ft}(h:ix a b):¬ix b a:=by grind [ix]
theorem ix.oI{a b c:ft}(h:¬ix b a)(k:¬ix c b):¬ix c a:=by grind [ix]
theorem ix.mj(a:ft):¬ix a a:=by grind [ix]
theorem ix.eq{a b:ft}(h:¬ix a b)(k:¬ix b a):a=b:=by
 grind [ix]
def gI(l:List ft)(i:Nat):ft:=l.getD i (0,0)
def sw(l:List ft)(i j:Nat):List ft:=(l.set i (gI l j)).set j (gI l i)
theorem Ix{l:List ft}{i:Nat}{x:ft}(h:l[i]? = some x):gI l i=x:=by grind [gI]
theorem MR{l:List ft}{i:Nat}(h:i<l.length):l[i]? = some (gI l i):=by
 grind [gI]
theorem iU(l:List ft)(i j:Nat):(sw l i j).length=l.length:=by unfold sw;simp
theorem XQ{l:List ft}{i j:Nat}(hi:i<l.length)(hj:j<l.length)(k:Nat):gI (sw l i j) k=if k=j then gI l i else if k=i then gI l j else gI l k:=by
 grind [sw,gI]
theorem MS{l:List ft}{i j:Nat}(hi:i<l.length)(hj:j<l.length):(sw l i j).Perm l:=by
 have h:=Array.swap_perm (xs:=l.toArray) (i:=i) (j:=j) ae ae;have h2:=h.toList;have e:(l.toArray.swap i j ae ae).toList=sw l i j:=by
  unfold sw;rw[Array.swap_def];rw[Ix (List.getElem?_eq_getElem hi),Ix (List.getElem?_eq_getElem hj)];simp
 grind
def DC(l:List ft)(i:Nat):Prop:=(∀j,0<j->j<l.length->j≠i->¬ix (gI l j) (gI l ((j-1)/2)))/\(0<i->∀j,0<j->j<l.length->(j-1)/2=i->¬ix (gI l j) (gI l ((i-1)/2)))
def DD(l:List ft)(i:Nat):Prop:=(∀j,0<j->j<l.length->(j-1)/2≠i->¬ix (gI l j) (gI l ((j-1)/2)))/\(0<i->∀j,0<j->j<l.length->(j-1)/2=i->¬ix (gI l j) (gI l ((i-1)/2)))
def gY(l:List ft):Prop:=∀j,0<j->j<l.length->¬ix (gI l j) (gI l ((j-1)/2))
theorem MT{l:List ft}{i:Nat}(h:DC l i)(hi:i=0\/¬ix (gI l i) (gI l ((i-1)/2))):gY l:=by
 intro j h1 h2;by_cases e:j=i
 ·grind
 ·exact h.1 j h1 h2 e
theorem VV{l:List ft}{i:Nat}(h:DC l i)(h0:0<i)(hi:i<l.length)(hl:ix (gI l i) (gI l ((i-1)/2))):DC (sw l i ((i-1)/2)) ((i-1)/2):=by
 obtain⟨ha,hb⟩:=h;generalize hp:(i-1)/2=p at *;have hpi:p<i:=by omega
 have hg:=XQ hi (show p<l.length by omega);refine⟨fun j h1 h2 h3=>?_,fun Qo j h1 h2 h3=>?_⟩
 ·rw[iU]at h2;rw[hg,hg,if_neg h3];by_cases e1:j=i
  ·grind [ix.asym]
  ·rw[if_neg e1];have:=ha j h1 h2 e1;by_cases e2:(j-1)/2=p
   ·grind [ix.oI,ix.asym]
   grind
 ·rw[iU]at h2;rw[hg,hg,if_neg (show ¬(p-1)/2=p by omega),if_neg (show ¬(p-1)/2=i by omega),if_neg (show ¬j=p by omega)];have mz:=ha p Qo ae ae;by_cases e1:j=i
  ·grind
  grind [ix.oI]
theorem DF{l:List ft}{i:Nat}(h:DD l i)(hi:∀j,0<j->j<l.length->(j-1)/2=i->¬ix (gI l j) (gI l i)):gY l:=by
 intro j h1 h2;by_cases e:(j-1)/2=i
 ·grind
 ·exact h.1 j h1 h2 e
theorem OH{l:List ft}{i c:Nat}(h:DD l i)(h0:0<c)(hc:c<l.length)(hci:(c-1)/2=i)(hl:ix (gI l c) (gI l i))(ho:∀j,0<j->j<l.length->(j-1)/2=i->¬ix (gI l j) (gI l c)):DD (sw l i c) c:=by
 obtain⟨ha,hb⟩:=h;have hic:i<c:=by omega
 have hg:=XQ (show i<l.length by omega) hc;refine⟨fun j h1 h2 h3=>?_,fun _ j h1 h2 h3=>?_⟩
 ·rw[iU]at h2;rw[hg,hg,if_neg h3];by_cases e1:j=c
  ·grind [ix.asym]
  ·rw[if_neg e1];by_cases e2:(j-1)/2=i
   ·grind
   ·rw[if_neg e2];by_cases e3:j=i
    ·grind
    grind
 grind [iU]
theorem SC{l:List ft}(h:gY l):∀j,j<l.length->¬ix (gI l j) (gI l 0):=by
 intro j;induction j using Nat.strongRecOn with
 |_ j ih=>
   intro hj;by_cases e:j=0
   ·grind [ix.mj]
   ·exact ix.oI (by grind) (h j ae hj)
theorem OI{l:List ft}(h:gY l)(x:ft):DC (l++[x]) l.length:=by
 have e:∀j,j<l.length->gI (l++[x]) j=gI l j:=fun j hj=>Ix (by grind [MR]);refine⟨fun j h1 h2 h3=>?_,fun _ j h1 h2 h3=>?_⟩
 ·simp only[List.length_append,List.length_cons,List.length_nil]at h2;rw[e j ae,e _ ae];exact h j h1 ae
 grind
def AV(l:List ft):List ft:=(l.set 0 (gI l (l.length-1))).take (l.length-1)
theorem yo(l:List ft):(AV l).length=l.length-1:=by grind [AV]
theorem Iy{l:List ft}{j:Nat}(h0:0<j)(hj:j<l.length-1):gI (AV l) j=gI l j:=by
 apply Ix;grind [AV,MR]
theorem OJ{l:List ft}(h:gY l):DD (AV l) 0:=by
 refine⟨fun j h1 h2 h3=>?_,(by omega)⟩;rw[yo]at h2;rw[Iy h1 h2,Iy ae ae];exact h j h1 ae
theorem OL{l:List ft}(h:0<l.length):(gI l 0::AV l).Perm l:=by
 match l,h with
 |x::l,_=>
   rcases List.eq_nil_or_concat l with rfl |⟨m,y,rfl⟩
   ·rfl
   ·have e:AV (x::m.concat y)=y::m:=by
     unfold AV;grind [gI]
    rw[e];show(x::y::m).Perm _;grind
end
section
open Go.RowKit Go.Maps
theorem DG(x y:Int)(b:Nat)(w:World)(hx:w.cell? ⟨b,0,none⟩=some (.int .i64 x))(hy:w.cell? ⟨b,1,none⟩=some (.int .i64 y)) :
 Calls prog 204 #[.slice (some ⟨b,0,none⟩) 2 2] w fun e w'=>e=.returned (.int .i64 (nG x y))/\w=w':=by
 by_cases h1:x=0
 ·subst h1;by_cases h2:y=0
  ·subst h2;go_enter func204,ntmps204;go_wp2;refine wp_loop_rounds 3 ?_;iterate 3 (rw[rounds_succ];go_wp2)
   go_ret;exact⟨rfl,rfl⟩
  ·go_enter func204,ntmps204;go_wp2;refine wp_loop_rounds 2 ?_;iterate 2 (rw[rounds_succ];go_wp2)
   go_ret;exact⟨rfl,rfl⟩
 ·have H:=aa h1;go_enter func204,ntmps204;go_wp2;refine wp_loop_rounds 1 ?_;iterate 1 (rw[rounds_succ];go_wp2)
  go_ret;exact⟨by unfold nG;rw[if_neg H.o];rfl,rfl⟩
theorem AW{w w':World}(hb:Below w.heap.size w w'){a:Addr}{v:Value}(hc:w.cell? a=some v):w'.cell? a=some v:=(hb.cell (World.block_lt_of_cell? w a hc)).trans hc
theorem OM(a b:ft):decide (nG (p9 a.1 b.1) (p9 a.2 b.2)<0)=decide (ix a b):=by
 rw[decide_eq_decide];unfold ix nG;rcases gG a.1 b.1 with⟨g1,g2⟩|⟨g1,g2⟩|⟨g1,g2⟩
 ·rw[g2,if_neg af];omega
 ·rw[g2,if_neg af];omega
 ·rw[g2,if_pos rfl];rcases gG a.2 b.2 with⟨k1,k2⟩|⟨k1,k2⟩|⟨k1,k2⟩<;>rw[k2]<;>omega
abbrev jW(x:ft):Value:=.agg #[.int .u64 (x.1:Int),.int .u32 (x.2:Int)]
theorem SD(x y:ft)(w:World):Calls prog 282 #[jW x,jW y] w fun e w'=>e=.returned (.bool (decide (ix x y)))/\dX w w':=by
 have hf:=aa (OM x y);unfold jW;generalize x.1=xk at *;generalize x.2=xi at *;generalize y.1=yk at *;generalize y.2=yi at *;go_enter func282,ntmps282;have HG:Hid (dX w ((w.alloc (.cells #[.int .u64 (xk:Int),.int .u32 (xi:Int)] 357)).alloc (.cells #[.int .u64 (yk:Int),.int .u32 (yi:Int)] 357))):=aa (((dX.refl w).alloc _).alloc _);go_wp2;have K:Hid (((w.alloc (.cells #[.int .u64 (xk:Int),.int .u32 (xi:Int)] 357)).alloc (.cells #[.int .u64 (yk:Int),.int .u32 (yi:Int)] 357)).cell? ⟨w.heap.size,0,none⟩=some (.int .u64 (xk:Int))/\((w.alloc (.cells #[.int .u64 (xk:Int),.int .u32 (xi:Int)] 357)).alloc (.cells #[.int .u64 (yk:Int),.int .u32 (yi:Int)] 357)).cell? ⟨w.heap.size,1,none⟩=some (.int .u32 (xi:Int))/\((w.alloc (.cells #[.int .u64 (xk:Int),.int .u32 (xi:Int)] 357)).alloc (.cells #[.int .u64 (yk:Int),.int .u32 (yi:Int)] 357)).cell? ⟨w.heap.size+1,0,none⟩=some (.int .u64 (yk:Int))/\((w.alloc (.cells #[.int .u64 (xk:Int),.int .u32 (xi:Int)] 357)).alloc (.cells #[.int .u64 (yk:Int),.int .u32 (yi:Int)] 357)).cell? ⟨w.heap.size+1,1,none⟩=some (.int .u32 (yi:Int))):=aa ah;generalize ((w.alloc (.cells #[.int .u64 (xk:Int),.int .u32 (xi:Int)] 357)).alloc (.cells #[.int .u64 (yk:Int),.int .u32 (yi:Int)] 357))=W at *;refine ct (dX W) 10 ag ag (dX.refl W).drew ?_;simp only[List.take_succ_cons,List.take_zero,List.drop_succ_cons,List.drop_zero];refine qz ?_;refine qz ?_ (fun w' hw'=>by have hc:=hw'.cell K.o.1;go_simp<;>rfl);refine qz ?_;refine qz ?_ (fun w' hw'=>by have hc:=hw'.cell K.o.2.2.1;go_simp<;>rfl);refine qw (fun w' hw'=>(vX xk yk w').mono (fun e w'' h=>⟨h.1,h.2▸hw'⟩)) ?_;refine qz ?_;refine qz ?_ (fun w' hw'=>by have hc:=hw'.cell K.o.2.1;go_simp<;>rfl);refine qz ?_;refine qz ?_ (fun w' hw'=>by have hc:=hw'.cell K.o.2.2.2;go_simp<;>rfl);refine qw (fun w' hw'=>(vY xi yi w').mono (fun e w'' h=>⟨h.1,h.2▸hw'⟩)) ?_;refine wpQuiet_nil ?_;intro w3 hw3;have y9:=aa hw3;clear hw3;go_wp2_with fail;refine(DG (p9 xk yk) (p9 xi yi) _ _ ah ah).mono ?_;rintro e w4⟨rfl,rfl⟩;go_wp2;go_ret;exact⟨by rw[<- hf.o];rfl,(HG.o.trans y9.o).alloc _⟩
abbrev ft.cells(x:ft):List Value:=[.int .u64 (x.1:Int),.int .u32 (x.2:Int)]
def eU:List ft->List Value
 | []=>[]
 |x::l=>ft.cells x++eU l
theorem CG(l:List ft):(eU l).length=l.length*2:=by
 induction l with
 |nil=>rfl
 |cons e l ih=>rw[eU,List.length_append,ih,List.length_cons];simp;omega
theorem CI(a b:List ft):eU (a++b)=eU a++eU b:=by
 induction a with
 |nil=>rfl
 |cons e a ih=>rw[List.cons_append,eU,eU,ih,List.append_assoc]
theorem Iz(l:List ft)(k:Nat):eU (l.take k)=(eU l).take (k*2):=by
 induction l generalizing k with
 |nil=>simp[eU]
 |cons e l ih=>
   cases k with
   |zero=>simp[eU]
   |succ k=>
     rw[List.take_succ_cons,eU,eU,ih,show(k+1)*2=k*2+2 by omega];simp[ft.cells]
theorem Lb(l:List ft)(i:Nat)(x:ft)(hi:i<l.length):((eU l).set (i*2) (.int .u64 (x.1:Int))).set (i*2+1) (.int .u32 (x.2:Int))=eU (l.set i x):=by
 induction l generalizing i with
 |nil=>simp at hi
 |cons e l ih=>
   cases i with
   |zero=>simp[eU,ft.cells]
   |succ i=>
     have:=ih i (by simpa using hi);have e0:(i+1)*2=i*2+2:=by omega
     simp only[List.set_cons_succ,eU];rw[<- this];simp only[ft.cells,List.cons_append,List.nil_append,e0,List.set_cons_succ]
theorem Lc{l:List ft}{i:Nat}(h:i<l.length):(eU l)[i*2]? = some (.int .u64 ((gI l i).1:Int))/\(eU l)[i*2+1]? = some (.int .u32 ((gI l i).2:Int)):=by
 induction l generalizing i with
 |nil=>simp at h
 |cons q l ih=>
   cases i with
   |zero=>exact⟨rfl,rfl⟩
   |succ i=>
     have:=ih (i:=i) (by simpa using h);rw[show(i+1)*2=i*2+2 by omega];exact this
theorem OO:(prog.info? 357).map (fun i=>(i.zero,i.size,i.bytes))=some (some (.agg #[.int .u64 0,.int .u32 0]),2,16):=by kernel_rfl
abbrev MU:Value:=.func (.func 282) #[] #[]
abbrev mm(w:World)(v:Value)(l:List ft):Prop:=w.ownsRow 0 357 2 v l.length (eU l)
structure dV(w:World)(hb:Nat)(v:Value)(l:List ft):Prop where
 hd:∃t,w.heap[hb]? = some (.cells #[v,MU] t)
 row:mm w v l
 ne:v.ownBlock≠some hb
section
variable {w w' W:World} {hb g cap:Nat} {v:Value} {l:List ft}
theorem dV.lt(h:dV w hb v l):hb<w.heap.size:=by
 obtain⟨t,h⟩:=h.hd;exact(Array.getElem?_eq_some_iff.1 h).1
theorem dV.kept(h:dV w hb v l)(hk:∀b,b=hb\/v.ownBlock=some b->w'.heap[b]? = w.heap[b]?):dV w' hb v l:=by
 obtain⟨⟨t,h1⟩,h2,h3⟩:=h;exact⟨⟨t,(hk hb (.inl rfl)).trans h1⟩,bI h2 (fun x hx=>hk x (.inr hx)),h3⟩
theorem dV.below(h:dV w hb v l)(hbl:Below w.heap.size w w'):dV w' hb v l:=
 h.kept (fun b hb'=>hbl.block _ (hb'.elim (fun e=>e▸h.lt) (fun e=>(aL h.row b e).1)))
theorem dV.cells(h:dV w hb v l):w.cell? ⟨hb,0,none⟩=some v/\w.cell? ⟨hb,1,none⟩=some MU/\∀k,w.frozen? ⟨hb,k,none⟩=false:=by
 obtain⟨t,h1⟩:=h.hd;exact⟨by rw[aq h1];rfl,by rw[aq h1];rfl,fun _=>aO h1 _⟩
theorem dV.item(h:dV w hb (.slice (some ⟨g,0,none⟩) l.length cap) l){i:Nat}(hi:i<l.length) :
 w.cell? ⟨g,i*2,none⟩=some (.int .u64 ((gI l i).1:Int))/\w.cell? ⟨g,i*2+1,none⟩=some (.int .u32 ((gI l i).2:Int)):=by
 obtain⟨h1,h2⟩:=Lc hi;have hc:∀(j:Nat)(u:Value),(eU l)[j]? = some u->w.cell? ⟨g,j,none⟩=some u:=fun j u hj=>by
  have:=World.ownsRow.cells h.row (g:=g) rfl j u hj;rwa [bG,Nat.zero_add]at this
 exact⟨hc _ _ h1,hc _ _ h2⟩
theorem dV.put(h:dV w hb (.slice (some ⟨g,0,none⟩) l.length cap) l){i:Nat}(hi:i<l.length)(x:ft) :
 dV ((w.setCell ⟨g,i*2,none⟩ (.int .u64 (x.1:Int))).setCell ⟨g,i*2+1,none⟩ (.int .u32 (x.2:Int))) hb (.slice (some ⟨g,0,none⟩) (l.set i x).length cap) (l.set i x):=by
 obtain⟨⟨t,h0⟩,h2,h3⟩:=h;have hne:hb≠g:=fun e=>h3 (by rw[e];rfl);refine⟨⟨t,?_⟩,?_,by rw[List.length_set];exact h3⟩
 ·rw[List.length_set,Below.heap_setCell _ _ _ _ hne,Below.heap_setCell _ _ _ _ hne];exact h0
 ·have h1:=World.ownsRow.stored h2 (i*2) (.int .u64 (x.1:Int));have h4:=World.ownsRow.stored h1.1 (i*2+1) (.int .u32 (x.2:Int));unfold mm;rw[List.length_set,<- Lb l i x hi];exact h4.1
def Z5(W:World)(hb g p q cap:Nat)(n:Nat)(x y:ft):Prop:=∀w',Below W.heap.size W w' ->
 (w'.cell? ⟨hb,0,none⟩=some (.slice (some ⟨g,0,none⟩) n cap)/\w'.cell? ⟨hb,1,none⟩=some MU) /\
 (w'.cell? ⟨g,p,none⟩=some (.int .u64 (x.1:Int))/\w'.cell? ⟨g,p+1,none⟩=some (.int .u32 (x.2:Int))) /\
 (w'.cell? ⟨g,q,none⟩=some (.int .u64 (y.1:Int))/\w'.cell? ⟨g,q+1,none⟩=some (.int .u32 (y.2:Int))) /\
 Calls prog 282 #[.agg #[.int .u64 (x.1:Int),.int .u32 (x.2:Int)],.agg #[.int .u64 (y.1:Int),.int .u32 (y.2:Int)]] w' fun e w''=>e=.returned (.bool (decide (ix x y)))/\Below W.heap.size W w''
theorem dV.reads(h:dV W hb (.slice (some ⟨g,0,none⟩) l.length cap) l){i j:Nat}(hi:i<l.length)(hj:j<l.length):Z5 W hb g (i*2) (j*2) cap l.length (gI l i) (gI l j):=fun w' hw'=>
 ⟨⟨(h.below hw').cells.1,(h.below hw').cells.2.1⟩,(h.below hw').item hi,(h.below hw').item hj,(SD _ _ w').mono fun _ _ ⟨h1,h2⟩=>⟨h1,hw'.trans (h2.below.mono hw'.size)⟩⟩
structure aem(W:World)(hb g cap:Nat)(l:List ft)(i j p q:Nat)(x y:ft):Prop where
 hp:i*2=p
 hq:j*2=q
 c0:W.cell? ⟨hb,0,none⟩=some (.slice (some ⟨g,0,none⟩) l.length cap)
 p0:W.cell? ⟨g,p,none⟩=some (.int .u64 (x.1:Int))
 p1:W.cell? ⟨g,p+1,none⟩=some (.int .u32 (x.2:Int))
 q0:W.cell? ⟨g,q,none⟩=some (.int .u64 (y.1:Int))
 q1:W.cell? ⟨g,q+1,none⟩=some (.int .u32 (y.2:Int))
 fr:∀k,W.frozen? ⟨g,k,none⟩=false
 gh:g≠hb
 n0:p≠q
 n1:p≠q+1
 n2:p+1≠q
 done:dV ((((W.setCell ⟨g,p,none⟩ (.int .u64 (y.1:Int))).setCell ⟨g,p+1,none⟩ (.int .u32 (y.2:Int))).setCell ⟨g,q,none⟩ (.int .u64 (x.1:Int))).setCell ⟨g,q+1,none⟩ (.int .u32 (x.2:Int))).drew hb (.slice (some ⟨g,0,none⟩) (sw l i j).length cap) (sw l i j)
 turn:aH (·=g) W ((((W.setCell ⟨g,p,none⟩ (.int .u64 (y.1:Int))).setCell ⟨g,p+1,none⟩ (.int .u32 (y.2:Int))).setCell ⟨g,q,none⟩ (.int .u64 (x.1:Int))).setCell ⟨g,q+1,none⟩ (.int .u32 (x.2:Int))).drew
theorem dV.ll(h:dV W hb (.slice (some ⟨g,0,none⟩) l.length cap) l){i j:Nat}(hi:i<l.length)(hj:j<l.length)(fg:i≠j){x y:ft}(hx:gI l i=x)(hy:gI l j=y):∃p q,aem W hb g cap l i j p q x y:=by
 subst hx hy;have h1:=h.put hi (gI l j);have h2:=h1.put (i:=j) (by rw[List.length_set];exact hj) (gI l i);obtain⟨a1,a2⟩:=h.item hi;obtain⟨b1,b2⟩:=h.item hj;exact⟨i*2,j*2,rfl,rfl,h.cells.1,a1,a2,b1,b2,fun k=>World.ownsRow.frozenAt h.row k,fun e=>h.ne (by rw[<- e];rfl),ae,ae,ae,h2.below aj.drew,
  (((((aH.refl (·=g) W).setCell _ _ (.inl rfl)).setCell _ _ (.inl rfl)).setCell _ _ (.inl rfl)).setCell _ _ (.inl rfl)).drew⟩
end
end
section
open Go.RowKit Go.Maps
section
variable {w w' W:World} {hb g cap:Nat} {l:List ft}
def SE(w:World)(hb g cap:Nat)(l:List ft)(e:Ending)(w':World):Prop:=
 ∃l',e=.returned (.tuple #[])/\l'.Perm l/\gY l'/\dV w' hb (.slice (some ⟨g,0,none⟩) l.length cap) l'/\aH (·=g) w w'
theorem Z6(h:dV w hb (.slice (some ⟨g,0,none⟩) l.length cap) l)(i:Nat)(hi:i<l.length)(hu:DC l i)(hl:l.length<=1000000) :
 Calls prog 301 #[ptrTo hb,.int .i64 (i:Int)] w (SE w hb g cap l):=by
 have H:=aa h;have HU:=aa hu;clear h hu;obtain⟨N,hN⟩:∃N,N=l.length:=⟨_,rfl⟩;rw[<- hN]at hi hl;have HN:=aa hN;clear hN;unfold ptrTo;go_enter func301,ntmps301;go_wp2;go_loopw [1] (fun vi wr=>∃(i:Nat)(lk:List ft),vi=.int .i64 (i:Int)/\i<N/\Hid (lk.length=N)/\dV wr hb (.slice (some ⟨g,0,none⟩) N cap) lk/\aH (·=g) w wr/\Hid (DC lk i/\lk.Perm l)) (fun vi _=>(intOf vi).toNat)
 case atStart=>exact⟨i,l,rfl,hi,aa HN.o.symm,by rw[HN.o];exact H.o,aH.refl _ _,aa ⟨HU.o,List.Perm.refl _⟩⟩
 case round=>
  obtain⟨i,lk,rfl,hi,HK,hh,ht,HQ⟩:=hrel;generalize wr=Wr at *;have HH:Hid (dV Wr hb (.slice (some ⟨g,0,none⟩) lk.length cap) lk):=aa (by rw[HK.out];exact hh);have HT:=aa ht;clear hh ht;by_cases h0:0<i
  ·have h0z:(i:Int)>0:=by omega
   obtain⟨p,hp⟩:∃p,p=(i-1)/2:=⟨_,rfl⟩;have w1:IntKind.i64.wrap ((i:Int)-1)=((i-1:Nat):Int):=by rw[ax]<;>omega
   have w2:((i-1:Nat):Int)/2=(p:Int):=by omega
   have bi:(i:Int)<(N:Int):=by omega
   have bp:(p:Int)<(N:Int):=by omega
   have HI:Hid (i<lk.length/\p<lk.length/\p<i/\p=(i-1)/2):=aa (by have:=HK.out;omega);clear hp;have F:=aa (HH.o.reads (i:=i) (j:=p) HI.o.1 HI.o.2.1);obtain⟨xi,PT⟩:∃x,gI lk i=x:=⟨_,rfl⟩;obtain⟨xp,PK⟩:∃x,gI lk p=x:=⟨_,rfl⟩;rw[PT,PK,HK.out]at F;by_cases hlt:ix xi xp
   ·have s6:decide (ix xi xp)=true:=decide_eq_true hlt;go_wp2_with fail;refine wq Wr ?_;iterate 3 (refine qz ?_)
    refine qz ?_ (fun w' hw'=>by obtain⟨⟨c0,c1⟩,-,-,-⟩:=F.o w' hw';go_simp<;>rfl);iterate 3 (refine qz ?_)
    refine qz ?_ (fun w' hw'=>by obtain⟨⟨c0,c1⟩,-,-,-⟩:=F.o w' hw';go_simp<;>rfl);iterate 2 (refine qz ?_)
    refine qz ?_ (fun w' hw'=>by obtain⟨-,⟨c0,c1⟩,-,-⟩:=F.o w' hw';go_simp<;>rfl);iterate 3 (refine qz ?_)
    refine qz ?_ (fun w' hw'=>by obtain⟨⟨c0,c1⟩,-,-,-⟩:=F.o w' hw';go_simp<;>rfl);iterate 2 (refine qz ?_)
    refine qz ?_ (fun w' hw'=>by obtain⟨-,-,⟨c0,c1⟩,-⟩:=F.o w' hw';go_simp<;>rfl);refine qw (fun w' hw'=>(F.o w' hw').2.2.2) ?_;refine qz ?_;refine wpQuiet_nil ?_;intro w3 hw3;have rp:=aa (HT.o.bN hw3);have FW:=aa (HH.o.below hw3);clear hw3;go_wp2_with fail;obtain⟨pp,qq,hex⟩:=FW.o.ll HI.o.1 HI.o.2.1 (by have:=HI.o;omega) PT PK;have pB:=aa hex;obtain⟨mz,EG,c0,x0,x1,y0,y1,dS,hgh,n0,n1,n2,-,-⟩:=hex;rw[HK.out]at c0;clear F;go_big_region
    all_goals
     clear c0 x0 x1 y0 y1 n0 n1 n2 dS hgh;have hdone:=aa pB.o.done;have hturn:=aa pB.o.turn;go_wp2;refine⟨⟨p,sw lk i p,rfl,?_,aa (by rw[iU];exact HK.out),?_,?_,aa ⟨?_,?_⟩⟩,?_⟩
     ·omega
     ·have:=hdone.o;rwa [iU,HK.out]at this
     ·exact rp.o.trans hturn.o (fun _ _ e=>e)
     ·have:=HI.o;rw[this.2.2.2]at PK ⊢;exact VV HQ.out.1 h0 this.1 (by rw[PT,PK];exact hlt)
     ·exact(MS HI.o.1 HI.o.2.1).trans HQ.out.2
     ·have:=HI.o;simp[intOf];omega
   ·have s6:decide (ix xi xp)=false:=decide_eq_false hlt;go_wp2_with fail;refine wq Wr ?_;iterate 3 (refine qz ?_)
    refine qz ?_ (fun w' hw'=>by obtain⟨⟨c0,c1⟩,-,-,-⟩:=F.o w' hw';go_simp<;>rfl);iterate 3 (refine qz ?_)
    refine qz ?_ (fun w' hw'=>by obtain⟨⟨c0,c1⟩,-,-,-⟩:=F.o w' hw';go_simp<;>rfl);iterate 2 (refine qz ?_)
    refine qz ?_ (fun w' hw'=>by obtain⟨-,⟨c0,c1⟩,-,-⟩:=F.o w' hw';go_simp<;>rfl);iterate 3 (refine qz ?_)
    refine qz ?_ (fun w' hw'=>by obtain⟨⟨c0,c1⟩,-,-,-⟩:=F.o w' hw';go_simp<;>rfl);iterate 2 (refine qz ?_)
    refine qz ?_ (fun w' hw'=>by obtain⟨-,-,⟨c0,c1⟩,-⟩:=F.o w' hw';go_simp<;>rfl);refine qw (fun w' hw'=>(F.o w' hw').2.2.2) ?_;refine qz ?_;refine wpQuiet_nil ?_;intro w3 hw3;have rp:=aa (HT.o.bN hw3);have FW:=aa (HH.o.below hw3);clear hw3;go_wp2;go_returns;exact⟨lk,rfl,HQ.out.2,MT HQ.out.1 (.inr (by have:=HI.o;rw[<- this.2.2.2,PT,PK];exact hlt)),by rw[<- HN.o,<- HK.out];exact FW.o,rp.o⟩
  ·have h0z:¬(i:Int)>0:=by omega
   go_wp2;go_returns;exact⟨lk,rfl,HQ.out.2,MT HQ.out.1 (.inl ae),by rw[<- HN.o,<- HK.out];exact HH.o,HT.o⟩
theorem SF(h:dV w hb (.slice (some ⟨g,0,none⟩) l.length cap) l)(hu:DD l 0)(hl:l.length<=1000000) :
 Calls prog 302 #[ptrTo hb,.int .i64 0] w (SE w hb g cap l):=by
 have H:=aa h;have HU:=aa hu;clear h hu;obtain⟨N,hN⟩:∃N,N=l.length:=⟨_,rfl⟩;rw[<- hN]at hl;have HN:=aa hN;clear hN;unfold ptrTo;go_enter func302,ntmps302;go_wp2;go_loopw [1] (fun vi wr=>∃(i:Nat)(lk:List ft),vi=.int .i64 (i:Int)/\i<=N/\Hid (lk.length=N)/\dV wr hb (.slice (some ⟨g,0,none⟩) N cap) lk/\aH (·=g) w wr/\Hid (DD lk i/\lk.Perm l)) (fun vi _=>N-(intOf vi).toNat)
 case atStart=>exact⟨0,l,rfl,Nat.zero_le _,aa HN.o.symm,by rw[HN.o];exact H.o,aH.refl _ _,aa ⟨HU.o,List.Perm.refl _⟩⟩
 case round=>
  obtain⟨i,lk,rfl,hi,HK,hh,ht,HQ⟩:=hrel;generalize wr=Wr at *;have HH:Hid (dV Wr hb (.slice (some ⟨g,0,none⟩) lk.length cap) lk):=aa (by rw[HK.out];exact hh);have HT:=aa ht;have c0:=hh.cells.1;clear hh ht;obtain⟨A,hA⟩:∃x,x=2*i:=⟨_,rfl⟩;obtain⟨B,hB⟩:∃x,x=A+1:=⟨_,rfl⟩;obtain⟨C,hC⟩:∃x,x=B+1:=⟨_,rfl⟩;have wA:IntKind.i64.wrap (2*(i:Int))=(A:Int):=by rw[ax]<;>omega
  have wB:IntKind.i64.wrap ((A:Int)+1)=(B:Int):=by rw[ax]<;>omega
  have wC:IntKind.i64.wrap ((B:Int)+1)=(C:Int):=by rw[ax]<;>omega
  have HE:Hid (B=2*i+1/\C=2*i+2):=aa ae;by_cases rS:B<N
  ·have hBz:¬(B:Int) >= (N:Int):=by omega
   have bB:(B:Int)<(N:Int):=by omega
   have bi:(i:Int)<(N:Int):=by omega
   have HB:Hid (B<lk.length/\i<lk.length/\i<B/\i<C):=aa (by have:=HK.out;omega);clear hA hB hC;have Io:∃bb,Hid (bb=decide (C<N/\ix (gI lk C) (gI lk B))):=⟨_,aa rfl⟩;obtain⟨bb,Io⟩:=Io;go_upto_region 2 with fail
   go_cut [44] from 15 to 44 (fun vb wx=>vb=.bool bb/\Below Wr.heap.size Wr wx)
   case first=>
    clear H HU HT HQ;by_cases Xp:C<N
    ·have hCz:(C:Int)<(N:Int):=by omega
     have hCd:decide ((C:Int)<(N:Int))=true:=decide_eq_true hCz;have F:=aa (HH.o.reads (i:=C) (j:=B) (by have:=HK.out;omega) HB.o.1);rw[HK.out]at F;have Ad:Hid (bb=decide (ix (gI lk C) (gI lk B))):=aa (by rw[Io.out];simp[Xp]);generalize gI lk C=xc at *;generalize gI lk B=xb at *;clear c0;refine wq Wr ?_;iterate 5 (refine qz ?_)
     refine qz ?_ (fun w' hw'=>by obtain⟨⟨c0,c1⟩,-,-,-⟩:=F.o w' hw';go_simp<;>rfl);iterate 6 (refine qz ?_)
     refine qz ?_ (fun w' hw'=>by obtain⟨⟨c0,c1⟩,-,-,-⟩:=F.o w' hw';go_simp<;>rfl);iterate 3 (refine qz ?_)
     refine qz ?_ (fun w' hw'=>by obtain⟨⟨c0,c1⟩,-,-,-⟩:=F.o w' hw';go_simp<;>rfl);iterate 3 (refine qz ?_)
     refine qz ?_ (fun w' hw'=>by obtain⟨-,⟨c0,c1⟩,-,-⟩:=F.o w' hw';go_simp<;>rfl);iterate 3 (refine qz ?_)
     refine qz ?_ (fun w' hw'=>by obtain⟨⟨c0,c1⟩,-,-,-⟩:=F.o w' hw';go_simp<;>rfl);iterate 2 (refine qz ?_)
     refine qz ?_ (fun w' hw'=>by obtain⟨-,-,⟨c0,c1⟩,-⟩:=F.o w' hw';go_simp<;>rfl);refine qw (fun w' hw'=>(F.o w' hw').2.2.2) ?_;refine qz ?_;refine wpQuiet_nil ?_;intro w3 hw3;go_wp2;go_meet
     exact⟨by rw[Ad.o],hw3⟩
    ·have hCz:¬(C:Int)<(N:Int):=by omega
     have hCd:decide ((C:Int)<(N:Int))=false:=decide_eq_false hCz;have Ad:Hid (bb=false):=aa (by rw[Io.out];simp[Xp]);go_quiet (fail)
     go_wp2;go_meet
     exact⟨by rw[Ad.o],⟨rfl,rfl,rfl,Nat.le_refl _,fun _ _=>rfl⟩⟩
   case rest=>
    obtain⟨rfl,hcut⟩:=hcut;have rp:=aa (HT.o.bN hcut);have FW:=aa (HH.o.below hcut);clear hcut c0 HH HT;have SG:∃c,Hid (c<lk.length/\0<c/\(c-1)/2=i/\i<c/\(c:Nat)=(if bb=true then C else B)/\∀j,0<j->j<lk.length->(j-1)/2=i->¬ix (gI lk j) (gI lk c)):=by
     have e1:=HE.o;have e2:=HB.o;have e3:=Io.out;have e4:=HK.out;cases bb with
     |true=>
       have:=of_decide_eq_true e3.symm;refine⟨C,aa ⟨ae,ae,ae,ae,rfl,fun j h1 h2 h3=>?_⟩⟩;have:j=B\/j=C:=by omega
       rcases this with rfl | rfl
       ·exact ix.asym (by assumption |> And.right)
       ·exact ix.mj _
     |false=>
       have:=of_decide_eq_false e3.symm;refine⟨B,aa ⟨ae,ae,ae,ae,rfl,fun j h1 h2 h3=>?_⟩⟩;have hj:j=B\/j=C:=by omega
       rcases hj with rfl | rfl
       ·exact ix.mj _
       ·exact fun e=>this ⟨ae,e⟩
    obtain⟨c,SG⟩:=SG;go_upto_if 44 with fail
    go_cut [4] from 45 to 46 (fun vc wx=>vc=.int .i64 (c:Int)/\wx=wc)
    case first=>
     have e5:=SG.out.2.2.2.2.1;cases bb with
     |true=>
       rw[if_pos rfl]at e5;subst e5;go_wp2;go_meet
       exact⟨rfl,rfl⟩
     |false=>
       rw[if_neg af]at e5;subst e5;go_wp2;go_meet
       exact⟨rfl,rfl⟩
    case rest=>
     obtain⟨rfl,rfl⟩:=hcut;have bc:(c:Int)<(N:Int):=by have:=SG.out;have:=HK.out;omega
     have F:=aa (FW.o.reads (i:=c) (j:=i) SG.out.1 HB.o.2.1);obtain⟨xc,BJ⟩:∃x,gI lk c=x:=⟨_,rfl⟩;obtain⟨xi,PT⟩:∃x,gI lk i=x:=⟨_,rfl⟩;rw[BJ,PT,HK.out]at F;generalize wc=w4 at *;by_cases hlt:ix xc xi
     ·have s6:decide (ix xc xi)=true:=decide_eq_true hlt;go_wp2_with fail;refine wq w4 ?_;iterate 3 (refine qz ?_)
      refine qz ?_ (fun w' hw'=>by obtain⟨⟨c0,c1⟩,-,-,-⟩:=F.o w' hw';go_simp<;>rfl);iterate 3 (refine qz ?_)
      refine qz ?_ (fun w' hw'=>by obtain⟨⟨c0,c1⟩,-,-,-⟩:=F.o w' hw';go_simp<;>rfl);iterate 2 (refine qz ?_)
      refine qz ?_ (fun w' hw'=>by obtain⟨-,⟨c0,c1⟩,-,-⟩:=F.o w' hw';go_simp<;>rfl);iterate 3 (refine qz ?_)
      refine qz ?_ (fun w' hw'=>by obtain⟨⟨c0,c1⟩,-,-,-⟩:=F.o w' hw';go_simp<;>rfl);iterate 2 (refine qz ?_)
      refine qz ?_ (fun w' hw'=>by obtain⟨-,-,⟨c0,c1⟩,-⟩:=F.o w' hw';go_simp<;>rfl);refine qw (fun w' hw'=>(F.o w' hw').2.2.2) ?_;refine qz ?_;refine wpQuiet_nil ?_;intro w5 fL;have Eh:=aa (rp.o.bN fL);have PZ:=aa (FW.o.below fL);clear fL;go_wp2_with fail;obtain⟨pp,qq,hex⟩:=PZ.o.ll HB.o.2.1 SG.out.1 (by have:=SG.out;omega) PT BJ;have pB:=aa hex;obtain⟨mz,EG,c0,x0,x1,y0,y1,dS,hgh,n0,n1,n2,-,-⟩:=hex;rw[HK.out]at c0;clear F;go_big_region
      all_goals
       clear c0 x0 x1 y0 y1 n0 n1 n2 dS hgh;have hdone:=aa pB.o.done;have hturn:=aa pB.o.turn;go_wp2;refine⟨⟨c,sw lk i c,rfl,?_,aa (by rw[iU];exact HK.out),?_,?_,aa ⟨?_,?_⟩⟩,?_⟩
       ·omega
       ·have:=hdone.o;rwa [iU,HK.out]at this
       ·exact Eh.o.trans hturn.o (fun _ _ e=>e)
       ·obtain⟨k1,k2,k3,-,-,k6⟩:=SG.out;exact OH HQ.out.1 k2 k1 k3 (by rw[PT,BJ];exact hlt) k6
       ·exact(MS HB.o.2.1 SG.out.1).trans HQ.out.2
       ·have:=SG.out;simp[intOf];omega
     ·have s6:decide (ix xc xi)=false:=decide_eq_false hlt;go_wp2_with fail;refine wq w4 ?_;iterate 3 (refine qz ?_)
      refine qz ?_ (fun w' hw'=>by obtain⟨⟨c0,c1⟩,-,-,-⟩:=F.o w' hw';go_simp<;>rfl);iterate 3 (refine qz ?_)
      refine qz ?_ (fun w' hw'=>by obtain⟨⟨c0,c1⟩,-,-,-⟩:=F.o w' hw';go_simp<;>rfl);iterate 2 (refine qz ?_)
      refine qz ?_ (fun w' hw'=>by obtain⟨-,⟨c0,c1⟩,-,-⟩:=F.o w' hw';go_simp<;>rfl);iterate 3 (refine qz ?_)
      refine qz ?_ (fun w' hw'=>by obtain⟨⟨c0,c1⟩,-,-,-⟩:=F.o w' hw';go_simp<;>rfl);iterate 2 (refine qz ?_)
      refine qz ?_ (fun w' hw'=>by obtain⟨-,-,⟨c0,c1⟩,-⟩:=F.o w' hw';go_simp<;>rfl);refine qw (fun w' hw'=>(F.o w' hw').2.2.2) ?_;refine qz ?_;refine wpQuiet_nil ?_;intro w5 fL;have Eh:=aa (rp.o.bN fL);have PZ:=aa (FW.o.below fL);clear fL;go_wp2;go_returns;refine⟨lk,rfl,HQ.out.2,DF HQ.out.1 (fun j h1 h2 h3=>?_),by rw[<- HN.o,<- HK.out];exact PZ.o,Eh.o⟩;have:=SG.out.2.2.2.2.2 j h1 h2 h3;rw[BJ]at this;rw[PT];exact ix.oI hlt this
  ·have hBz:(B:Int) >= (N:Int):=by omega
   go_wp2;go_returns;exact⟨lk,rfl,HQ.out.2,DF HQ.out.1 (fun j h1 h2 h3=>by have:=HK.out;omega),by rw[<- HN.o,<- HK.out];exact HH.o,HT.o⟩
end
end
end Go.Proofs.YthkkgdpomhhjjaaGreatDoor
