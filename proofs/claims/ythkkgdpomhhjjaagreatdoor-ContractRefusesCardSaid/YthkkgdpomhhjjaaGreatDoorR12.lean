/-
  Joined.
-/
import Derived.Test.YthkkgdpomhhjjaaGreatDoorR11
import Derived.Sort.WalkA
import Derived.Shelf.RegionOpenPlain
namespace Go.Proofs.YthkkgdpomhhjjaaGreatDoor
section
open Go.RowKit Go.Maps
open Go.ChangeMaps (setBlock)
section
variable {w0 w w' W:World} {pb db n gb gen N ob ib vb rb:Nat} {o o':Owner} {d d':Dsk} {L:Logic} {es:List Edg}
set_option maxRecDepth 100000 in
set_option maxHeartbeats 8000000 in
theorem near_any (HW:WriteSaid) (h:NetIn w0 w pb db n o d L gb gen N ob ib vb es) (v:Nat) (hv:v < N) {cs:Array Value} {t:TypeId} (hr:w.heap[rb]? = some (.cells cs t)) (hc:cs[1]? = some (ptrTo gb)) (hro:o rb=none) :
 Calls Tryz.prog 98 #[ptrTo rb, .int .u32 (v:Int)] w (NearPost n pb db w o d L (nearM es v)):=by
 have H:=Lib.hid h;have hout:=Lib.hid (h.out HW hv);have HI:Hid (∀ W o' d',Moved (fun _=>False) n pb db w o d W o' d' L->Calls Tryz.prog 22 #[ptrTo gb, .int .u32 (v:Int)] W (HeldOf n pb db W o' d' L (inM es v))/\W.cell? ⟨rb,1,none⟩=some (ptrTo gb)):=Lib.hid (fun W o' d' hm=>⟨(h.moved hm).inn HW hv,by rw [cells_cell (hm.heap hr hro (fun e=>e))];exact hc⟩);have c0:w.cell? ⟨rb,1,none⟩=some (ptrTo gb):=by rw [cells_cell hr];exact hc
 have hmk:∀ (t:TypeId) (W:World),(Instr.makeMap t none).run Tryz.prog W=.ok (.map (some W.heap.size)) (W.alloc (.map #[] 0)):=fun _ _=>rfl;clear h hr hc hro;unfold HeldOf ptrTo at *;go_enter Tryz.func98,Tryz.ntmps98
 go_wp2_with fail
 refine hout.out.mono ?_;rintro e w1 ⟨ov,d1,o1,rfl,hm1,ho1,hf1⟩;obtain ⟨oa,oc,rfl⟩:=ownsRow_slice ho1;obtain ⟨hin,c1⟩:=HI.out _ _ _ hm1;have HIN:=Lib.hid hin;have HM1:=Lib.hid hm1;have HO1:=Lib.hid ho1;have HF1:=Lib.hid hf1;clear hm1 ho1 hf1 hout hin c0 HI;go_wp2_with fail
 refine HIN.out.mono ?_;rintro e w2 ⟨iv,d2,o2,rfl,hm2,hi2,hf2⟩;obtain ⟨ia,ic,rfl⟩:=ownsRow_slice hi2;obtain ⟨M1,hM1⟩:∃ M,M=(outM es v).length:=⟨_,rfl⟩;obtain ⟨M2,hM2⟩:∃ M,M=(inM es v).length:=⟨_,rfl⟩;have HM:Hid (M1=(outM es v).length/\M2=(inM es v).length/\M1<=1000/\M2<=1000):=Lib.hid ⟨hM1,hM2,by rw [hM1];exact Nat.le_trans (outM_length _ _) H.out.len,by rw [hM2];exact Nat.le_trans (inM_length _ _) H.out.len⟩;have HO2:Hid (ownsEdges w2 w.heap.size (.slice oa M1 oc) (outM es v)/\ownsEdges w2 w.heap.size (.slice ia M2 ic) (inM es v)):=Lib.hid ⟨by rw [hM1];exact hm2.ownsRow HO1.out (fun b hb=>⟨HF1.out b hb,fun e=>e⟩),by rw [hM2];exact ownsRow_base hi2 HM1.out.size⟩;have HMV:=Lib.hid (HM1.out.trans hm2 (fun _ _ e=>e));rw [<- hM1,<- hM2];clear hM1 hM2 hm2 hi2 hf2 HIN c1 HO1 HF1 HM1;obtain ⟨mb,hmb⟩:∃ x,x=w2.heap.size:=⟨_,rfl⟩;obtain ⟨mc,hmc⟩:∃ x,x=w2.heap.size+1:=⟨_,rfl⟩;obtain ⟨lc,hlc⟩:∃ x,x=w2.heap.size+1+1:=⟨_,rfl⟩;have HLP:Hid (NearLp n pb db w o d L (((w2.alloc (.map #[] 0)).alloc (.cells #[.map (some w2.heap.size)] 237)).alloc (.cells #[.slice none 0 0] 88)) mc lc mb (.slice oa M1 oc) (.slice ia M2 ic) [] (((w2.alloc (.map #[] 0)).alloc (.cells #[.map (some w2.heap.size)] 237)).alloc (.cells #[.slice none 0 0] 88)) o2 d2):=Lib.hid (by
  subst hmb hmc hlc;have hz:=HMV.out.size;have hb:Below w2.heap.size w2 (((w2.alloc (.map #[] 0)).alloc (.cells #[.map (some w2.heap.size)] 237)).alloc (.cells #[.slice none 0 0] 88)):=(((Below.refl _ _).alloc (Nat.le_refl _) _).alloc (by simp) _).alloc (by simp;omega) _;have hr:∀ b,(Value.slice oa M1 oc).ownBlock=some b\/(Value.slice ia M2 ic).ownBlock=some b->b < w2.heap.size:=fun b hb=>hb.elim (fun e=>(ownBlock_old HO2.out.1 b e).1) (fun e=>(ownBlock_old HO2.out.2 b e).1);refine ⟨HMV.out.below hb,⟨.slice none 0 0,⟨?_,?_,?_,World.ownsRow_nil _ _ _ _,by omega,by omega,by omega,fun b e=>by cases e⟩,fun b hb'=>?_⟩,fun b hb'=>⟨rfl,Nat.lt_of_lt_of_le (hr b hb') hb.size⟩⟩
  ·rw [(MapKept.heap_alloc _ _).2 _ (by simp)];have:=heap_alloc_new (w2.alloc (.map #[] 0)) (.cells #[.map (some w2.heap.size)] 237);simpa using this
  ·have:=heap_alloc_new ((w2.alloc (.map #[] 0)).alloc (.cells #[.map (some w2.heap.size)] 237)) (.cells #[.slice none 0 0] 88);simpa using this
  ·exact ((MapAt.made w2 Tryz.prog 26 u32V (fun _:Unit=>Value.int .i64 1)).kept ((MapKept.heap_alloc _ _).2 _ (by simp))).kept ((MapKept.heap_alloc _ _).2 _ (by simp;omega))
  ·have hge:w2.heap.size<=b:=by
    rcases hb' with e | e | e | e
    ·omega
    ·omega
    ·omega
    ·cases e
   exact ⟨by omega,HMV.out.pool.fresh hge,fun e=>by have:=hr b (.inl e);omega,fun e=>by have:=hr b (.inr e);omega⟩)
 have HR3:Hid (ownsEdges (((w2.alloc (.map #[] 0)).alloc (.cells #[.map (some w2.heap.size)] 237)).alloc (.cells #[.slice none 0 0] 88)) w.heap.size (.slice oa M1 oc) (outM es v)/\ownsEdges (((w2.alloc (.map #[] 0)).alloc (.cells #[.map (some w2.heap.size)] 237)).alloc (.cells #[.slice none 0 0] 88)) w.heap.size (.slice ia M2 ic) (inM es v)):=Lib.hid (by
  have hb:Below w2.heap.size w2 (((w2.alloc (.map #[] 0)).alloc (.cells #[.map (some w2.heap.size)] 237)).alloc (.cells #[.slice none 0 0] 88)):=(((Below.refl _ _).alloc (Nat.le_refl _) _).alloc (by simp) _).alloc (by simp;omega) _;exact ⟨ownsRow_below HO2.out.1 hb,ownsRow_below HO2.out.2 hb⟩)
 clear HO2 HMV;go_wp2_with fail
 rw [<- hlc,<- hmc];generalize ((w2.alloc (.map #[] 0)).alloc (.cells #[.map (some w2.heap.size)] 237)).alloc (.cells #[.slice none 0 0] 88)=W3 at *;clear hmb hmc hlc hmk;have HL:Hid (([]:List Nat).length<=1000):=Lib.hid (by simp);go_loopw [44] (fun vi wr=>∃ j:Nat,vi=.int .i64 (j:Int)/\j<=M1/\Hid (NearLp n pb db w o d L W3 mc lc mb (.slice oa M1 oc) (.slice ia M2 ic) ((((outM es v).map (·.h.toNat)).take j).foldl onceA []) wr o2 d2)) (fun vi _=>M1 - (intOf vi).toNat)
 case atStart=>exact ⟨0,rfl,Nat.zero_le _,HLP⟩
 case round=>
  obtain ⟨j,rfl,hj,HN⟩:=hrel;generalize wr=Wra at *;by_cases hlt:j < M1
  ·have hjz:(j:Int) < (M1:Int):=by omega
   have wj:IntKind.i64.wrap ((j:Int)+1)=((j+1:Nat):Int):=by have:=HM.out;rw [wrap_in]<;>omega
   obtain ⟨x,hx⟩:∃ x,(outM es v)[j]? = some x:=⟨_,List.getElem?_eq_getElem (by have:=HM.out;omega)⟩;have HX:Hid (((outM es v).map (·.h.toNat))[j]? = some x.h.toNat/\x.h.toNat < 4294967296):=Lib.hid ⟨by rw [List.getElem?_map,hx];rfl,x.h.toNat_lt⟩;obtain ⟨g,rfl⟩:∃ g,oa=some ⟨g,0,none⟩:=by
    obtain ⟨-,⟨h1,h2⟩ | ⟨g,_,_,h1,_⟩⟩:=HR3.out.1
    ·have:=HM.out;omega
    ·cases h1;exact ⟨g,rfl⟩
   have hrow:ownsEdges Wra w.heap.size (.slice (some ⟨g,0,none⟩) (outM es v).length oc) (outM es v):=by rw [<- HM.out.1];exact ownsRow_heap HR3.out.1 (fun b hb=>(HN.out.rw1 b (.inl hb)).1)
   obtain ⟨q0,q1,q2,q3⟩:=ownsEdges_cells hrow hx;have HN4:=Lib.hid (HN.out.below ((Below.refl _ _).alloc (Nat.le_refl _) (.cells #[.int .u32 (x.t.toNat:Int), .int .u32 (x.h.toNat:Int), .int .u64 (x.x.toNat:Int), .int .u32 (x.m.toNat:Int)] 64)));have hadd:=Lib.hid (HN4.out.add x.h.toNat HX.out.2 (by have h1:=@once_length (((outM es v).map (·.h.toNat)).take j) [];have h2:=HM.out;have h3:=HL.out;rw [List.length_take] at h1;omega));clear hrow hx HN;go_wp2_with fail
   refine hadd.out.mono ?_;rintro e w5 ⟨rfl,hn5⟩;have HN5:Hid (NearLp n pb db w o d L W3 mc lc mb (.slice (some ⟨g,0,none⟩) M1 oc) (.slice ia M2 ic) ((((outM es v).map (·.h.toNat)).take (j+1)).foldl onceA []) w5 o2 d2):=Lib.hid (by rw [once_take HX.out.1];exact hn5);clear q0 q1 q2 q3 hadd hn5 HN4;go_wp2;go_roundw
   case rel=>exact ⟨j+1,by go_num,by omega,HN5⟩
   case measure=>simp [intOf];omega
  ·have hjz:¬ (j:Int) < (M1:Int):=by omega
   obtain ⟨A1,hA1⟩:∃ A,A=((outM es v).map (·.h.toNat)).foldl onceA []:=⟨_,rfl⟩;have HA1:=Lib.hid hA1;have HN2:Hid (NearLp n pb db w o d L W3 mc lc mb (.slice oa M1 oc) (.slice ia M2 ic) A1 Wra o2 d2):=Lib.hid (by
    rw [hA1];have:=HN.out;rwa [List.take_of_length_le (by rw [List.length_map];have:=HM.out;omega)] at this)
   have HL2:Hid (A1.length<=1000):=Lib.hid (by have h1:=@once_length ((outM es v).map (·.h.toNat)) [];rw [<- hA1,List.length_map] at h1;have:=HM.out;simp at h1;omega);clear hA1 HN HL HLP;have HL:=HL2;clear HL2;go_wp2_with fail
   go_loopw [55] (fun vi wr=>∃ j:Nat,vi=.int .i64 (j:Int)/\j<=M2/\Hid (NearLp n pb db w o d L W3 mc lc mb (.slice oa M1 oc) (.slice ia M2 ic) ((((inM es v).map (·.t.toNat)).take j).foldl onceA A1) wr o2 d2)) (fun vi _=>M2 - (intOf vi).toNat)
   case atStart=>exact ⟨0,rfl,Nat.zero_le _,HN2⟩
   case round=>
    obtain ⟨j,rfl,hj,HN⟩:=hrel;generalize wr=Wrb at *;by_cases hlt:j < M2
    ·have hjz:(j:Int) < (M2:Int):=by omega
     have wj:IntKind.i64.wrap ((j:Int)+1)=((j+1:Nat):Int):=by have:=HM.out;rw [wrap_in]<;>omega
     obtain ⟨x,hx⟩:∃ x,(inM es v)[j]? = some x:=⟨_,List.getElem?_eq_getElem (by have:=HM.out;omega)⟩;have HX:Hid (((inM es v).map (·.t.toNat))[j]? = some x.t.toNat/\x.t.toNat < 4294967296):=Lib.hid ⟨by rw [List.getElem?_map,hx];rfl,x.t.toNat_lt⟩;obtain ⟨g,rfl⟩:∃ g,ia=some ⟨g,0,none⟩:=by
      obtain ⟨-,⟨h1,h2⟩ | ⟨g,_,_,h1,_⟩⟩:=HR3.out.2
      ·have:=HM.out;omega
      ·cases h1;exact ⟨g,rfl⟩
     have hrow:ownsEdges Wrb w.heap.size (.slice (some ⟨g,0,none⟩) (inM es v).length ic) (inM es v):=by rw [<- HM.out.2.1];exact ownsRow_heap HR3.out.2 (fun b hb=>(HN.out.rw1 b (.inr hb)).1)
     obtain ⟨q0,q1,q2,q3⟩:=ownsEdges_cells hrow hx;have HN4:=Lib.hid (HN.out.below ((Below.refl _ _).alloc (Nat.le_refl _) (.cells #[.int .u32 (x.t.toNat:Int), .int .u32 (x.h.toNat:Int), .int .u64 (x.x.toNat:Int), .int .u32 (x.m.toNat:Int)] 64)));have hadd:=Lib.hid (HN4.out.add x.t.toNat HX.out.2 (by have h1:=@once_length (((inM es v).map (·.t.toNat)).take j) A1;have h2:=HM.out;have h3:=HL.out;rw [List.length_take] at h1;omega));clear hrow hx HN;go_wp2_with fail
     refine hadd.out.mono ?_;rintro e w5 ⟨rfl,hn5⟩;have HN5:Hid (NearLp n pb db w o d L W3 mc lc mb (.slice oa M1 oc) (.slice (some ⟨g,0,none⟩) M2 ic) ((((inM es v).map (·.t.toNat)).take (j+1)).foldl onceA A1) w5 o2 d2):=Lib.hid (by rw [once_take HX.out.1];exact hn5);clear q0 q1 q2 q3 hadd hn5 HN4;go_wp2;go_roundw
     case rel=>exact ⟨j+1,by go_num,by omega,HN5⟩
     case measure=>simp [intOf];omega
    ·have hjy:¬ (j:Int) < (M2:Int):=by omega
     have HE:Hid ((((inM es v).map (·.t.toNat)).take j).foldl onceA A1=nearM es v):=Lib.hid (by
      rw [List.take_of_length_le (by rw [List.length_map];have:=HM.out;omega),HA1.out,nearM_eq])
     obtain ⟨lv,hs,hl⟩:=HN.out.st;have z0:Wrb.cell? ⟨lc,0,none⟩=some lv:=by rw [cells_cell hs.c2];rfl
     have HQ:Hid (NearPost n pb db w o d L (nearM es v) (.returned (.tuple #[lv, .int .i64 0])) Wrb):=Lib.hid ⟨lv,d2,o2,rfl,HN.out.mv,by rw [<- HE.out];exact hs.row,fun x hx=>(hl x (.inr (.inr (.inr hx)))).2.1⟩;obtain ⟨la,lk,rfl⟩:=ownsRow_slice hs.row;have z1:=hs.lt.2.1;clear hs hl HN HE;go_wp2;go_returns
     exact HQ.out
end
end
section
open Go.RowKit Go.Maps
section
variable {S:Nat->Prop} {w0 w w' W W':World} {pb db n gb gen N ob ib vb rb done:Nat} {o o' o'':Owner} {d d' d'':Dsk} {L L':Logic} {es:List Edg} {vs acc:List Vrt} {x4 x5 x6 vv vv':Value}
def RndAt (w:World) (rb pb gb gen done:Nat) (x4 x5 x6:Value):Prop:=w.heap[rb]? = some (.cells #[ptrTo pb,ptrTo gb, .int .i64 (gen:Int), .int .u32 (done:Int),x4,x5,x6] 133)
structure RndOf (w0 w:World) (o:Owner) (rb gb ob ib vb:Nat):Prop where
 new:w0.heap.size<=rb
 lt:rb < w.heap.size
 free:o rb=none
 graph:gb < rb/\ob < rb/\ib < rb/\vb < rb
theorem RndAt.lt (h:RndAt w rb pb gb gen done x4 x5 x6):rb < w.heap.size:=(Array.getElem?_eq_some_iff.1 h).1
theorem RndAt.below (h:RndAt w rb pb gb gen done x4 x5 x6) (hb:Below w.heap.size w w'):RndAt w' rb pb gb gen done x4 x5 x6:=(hb.block _ h.lt).trans h
theorem RndAt.moved (h:RndAt w rb pb gb gen done x4 x5 x6) (ho:o rb=none) (hm:Moved (fun _=>False) n pb db w o d w' o' d' L'):RndAt w' rb pb gb gen done x4 x5 x6:=hm.heap h ho (fun e=>e)
theorem RndAt.cells (h:RndAt w rb pb gb gen done x4 x5 x6):w.cell? ⟨rb,0,none⟩=some (ptrTo pb)/\w.cell? ⟨rb,1,none⟩=some (ptrTo gb)/\w.cell? ⟨rb,2,none⟩=some (.int .i64 (gen:Int))/\w.cell? ⟨rb,3,none⟩=some (.int .u32 (done:Int))/\w.cell? ⟨rb,4,none⟩=some x4/\w.cell? ⟨rb,5,none⟩=some x5/\w.cell? ⟨rb,6,none⟩=some x6/\∀ k,w.frozen? ⟨rb,k,none⟩=false:=
 ⟨by rw [cells_cell h];rfl,by rw [cells_cell h];rfl,by rw [cells_cell h];rfl,by rw [cells_cell h];rfl,by rw [cells_cell h];rfl,by rw [cells_cell h];rfl,by rw [cells_cell h];rfl,fun k=>cells_frozen h k⟩
theorem RndAt.set4 (h:RndAt w rb pb gb gen done x4 x5 x6) (v:Value):RndAt (w.setCell ⟨rb,4,none⟩ v) rb pb gb gen done v x5 x6:=cells_set h 4 v
theorem RndAt.set5 (h:RndAt w rb pb gb gen done x4 x5 x6) (v:Value):RndAt (w.setCell ⟨rb,5,none⟩ v) rb pb gb gen done x4 v x6:=cells_set h 5 v
theorem RndAt.set6 (h:RndAt w rb pb gb gen done x4 x5 x6) (v:Value):RndAt (w.setCell ⟨rb,6,none⟩ v) rb pb gb gen done x4 x5 v:=cells_set h 6 v
theorem RndOf.moved (h:RndOf w0 w o rb gb ob ib vb) (hm:Moved S n pb db w o d w' o' d' L'):RndOf w0 w' o' rb gb ob ib vb:=⟨h.new,Nat.lt_of_lt_of_le h.lt hm.size,hm.free h.lt h.free,h.graph⟩
theorem NetIn.movedR (h:NetIn w0 w pb db n o d L gb gen N ob ib vb es) (hr:RndOf w0 w o rb gb ob ib vb) (hm:Moved (·=rb) n pb db w o d w' o' d' L):NetIn w0 w' pb db n o' d' L gb gen N ob ib vb es:=
 ⟨h.held.moved hm (fun _ e=>e ▸ hr.new),h.need,by
  have hg:=h.gr;obtain ⟨l1,l2,l3,l4⟩:=hr.graph;exact ⟨hg.raw.moved hm hg.ogb (by omega),hg.out.moved hm hg.oob (by omega),hg.inn.moved hm hg.oib (by omega),hg.verts.moved hm hg.ovb (by omega),hm.free hg.raw.lt hg.ogb,hm.free hg.out.lt hg.oob,hm.free hg.inn.lt hg.oib,hm.free hg.verts.lt hg.ovb⟩,h.file,h.file',h.len,h.top,h.ends⟩
abbrev ownsVrts (w:World) (base:Nat) (v:Value) (l:List Vrt):Prop:=w.ownsRow base 55 3 v l.length (vrtRow l)
theorem vrtRow_append (a b:List Vrt):vrtRow (a++b)=vrtRow a++vrtRow b:=by
 induction a with
 | nil=>rfl
 | cons e a ih=>rw [List.cons_append,vrtRow,vrtRow,ih,List.append_assoc]
theorem step_append_vert {ops:Array Oper} {o:Oper} {a:Act} {w:World} {K:Act->World->Prop} {Q:Exit->Act->World->Prop} {E:Prop} (hgd:o.guard=none) (s x:Operand) (ho:o.op=.call { callee:=.builtin .append,args:=#[s,x],argTypes:=#[23,23] }) (base:Nat) (v:Value) (l:List Vrt) (hs:a.eval s=v) (hown:ownsVrts w base v l)
 (y:Vrt) (xb c:Nat) (hx:a.eval x=.slice (some ⟨xb,0,none⟩) 1 c) (hxb:w.heap[xb]? = some (.cells #[.int .u32 (y.r.toNat:Int), .int .u32 (y.l.toNat:Int), .int .u32 (y.g.toNat:Int)] 55)) (hl:l.length<=100000) (hbase:base<=w.heap.size)
 (k:∀ v' w',ownsVrts w' base v' (l++[y])->Appd v w w' v'->K (a.put o.dst v') w'):if Region.wanted o (yielded ops a.tmps)=true then Oper.wp Tryz.prog o a w K Q else E:=by
 refine step_append_at hgd s x 23 ho base 55 _ 3 12 Tryz.underlying23 info_vert rfl (by decide) v l.length (vrtRow l) hs hown ⟨xb,0,none⟩ 1 c [.int .u32 (y.r.toNat:Int), .int .u32 (y.l.toNat:Int), .int .u32 (y.g.toNat:Int)] hx rfl (fun j u hj=>?_) (by simp [Value.oneCell']) (by unfold maxLen;omega) (by omega) hbase (fun v' w' h1 h2=>k v' w' ?_ h2)
 ·rw [Addr_add,Nat.zero_add,cells_cell hxb];match j,hj with
  | 0,hj=>cases hj;rfl
  | 1,hj=>cases hj;rfl
  | 2,hj=>cases hj;rfl
  | j+3,hj=>cases hj
 ·unfold ownsVrts;rw [vrtRow_append,List.length_append];exact h1
structure ReadSt (n pb db:Nat) (w:World) (o:Owner) (d:Dsk) (L:Logic) (rb gb gen done:Nat) (x4 x5 vv:Value) (acc:List Vrt) (W:World) (o':Owner) (d':Dsk):Prop where
 mv:Moved (·=rb) n pb db w o d W o' d' L
 at':RndAt W rb pb gb gen done x4 x5 vv
 row:ownsVrts W w.heap.size vv acc
 own:∀ b,vv.ownBlock=some b->o' b=none
theorem ReadSt.below (h:ReadSt n pb db w o d L rb gb gen done x4 x5 vv acc W o' d') (hb:Below W.heap.size W W'):ReadSt n pb db w o d L rb gb gen done x4 x5 vv acc W' o' d':=
 ⟨h.mv.below hb,h.at'.below hb,ownsRow_below h.row hb,h.own⟩
theorem ReadSt.moved (h:ReadSt n pb db w o d L rb gb gen done x4 x5 vv acc W o' d') (hr:RndOf w0 w o rb gb ob ib vb) (hm:Moved (fun _=>False) n pb db W o' d' W' o'' d'' L):ReadSt n pb db w o d L rb gb gen done x4 x5 vv acc W' o'' d'':=
 ⟨h.mv.trans hm (fun _ _ e=>e.elim),h.at'.moved (h.mv.free hr.lt hr.free) hm,hm.ownsRow h.row (fun b hb=>⟨h.own b hb,fun e=>e⟩),fun b hb=>hm.free (ownBlock_old h.row b hb).1 (h.own b hb)⟩
theorem ReadSt.appd (h:ReadSt n pb db w o d L rb gb gen done x4 x5 vv acc W o' d') (hr:RndOf w0 w o rb gb ob ib vb) {y:Vrt} (hw:ownsVrts W' w.heap.size vv' (acc++[y])) (ha:Appd vv W W' vv') :
 W'.cell? ⟨rb,6,none⟩=some vv/\W'.frozen? ⟨rb,6,none⟩=false/\ReadSt n pb db w o d L rb gb gen done x4 x5 vv' (acc++[y]) (W'.setCell ⟨rb,6,none⟩ vv') o' d':=by
 obtain ⟨hg,hv⟩:=ha;have hne:∀ b,vv.ownBlock=some b->b≠rb:=fun b hb e=>by
  have:=(ownBlock_old h.row b hb).2;have:=hr.lt;omega
 have hat:RndAt W' rb pb gb gen done x4 x5 vv:=(hg.block rb h.at'.lt (fun e=>hne rb (by first | exact e | exact e.symm) rfl)).trans h.at';have hfree:o' rb=none:=h.mv.free hr.lt hr.free;have hm:Moved (·=rb) n pb db w o d W' o' d' L:=h.mv.grown hg (fun k hk=>⟨h.own k hk, .inr (ownBlock_old h.row k hk).2⟩);have hnew:∀ b,vv'.ownBlock=some b->o' b=none/\b≠rb:=fun b hb=>by
  have hge:=ownsRow_block hw b hb;refine ⟨?_,by have:=hr.lt;omega⟩;rcases hv with e | e
  ·exact h.own b (e ▸ hb)
  ·rw [e] at hb;cases hb;exact h.mv.pool.fresh (Nat.le_refl _)
 refine ⟨hat.cells.2.2.2.2.2.2.1,hat.cells.2.2.2.2.2.2.2 6,hm.setCell _ _ hfree (.inl rfl),hat.set6 vv',ownsRow_heap hw (fun b hb=>Below.heap_setCell _ _ _ _ (hnew b hb).2),fun b hb=>(hnew b hb).1⟩
def RReadPost (n pb db:Nat) (w:World) (o:Owner) (d:Dsk) (L:Logic) (rb gb gen done:Nat) (x4 x5:Value) (vs:List Vrt) (e:Ending) (w':World):Prop:=
 ∃ vv d' o',e=.returned (.int .i64 0)/\ReadSt n pb db w o d L rb gb gen done x4 x5 vv vs w' o' d'
theorem vrts_shape {y:Vrt} {v:Value} {base:Nat} (h:ownsVrts w base v (acc++[y])):∃ g k M,Hid (M=acc.length+1)/\v=.slice (some ⟨g,0,none⟩) M k:=by
 obtain ⟨-,⟨h1,h2⟩ | ⟨g,k,_,h1,_⟩⟩:=h
 ·simp at h2
 ·exact ⟨g,k,acc.length+1,Lib.hid rfl,by rw [h1];simp⟩
set_option maxRecDepth 100000 in
set_option maxHeartbeats 4000000 in
theorem roundRead_any (HW:WriteSaid) {fl:Bool} (h:NetIn w0 w pb db n o d L gb gen vs.length ob ib vb es) (hv:mget L (sName 118 gen)=some (vertFile vs fl)) (hr:RndAt w rb pb gb gen done x4 x5 (.slice none 0 0)) (hro:RndOf w0 w o rb gb ob ib vb) :
 Calls Tryz.prog 63 #[ptrTo rb] w (RReadPost n pb db w o d L rb gb gen done x4 x5 vs):=by
 have H:=Lib.hid h;have HV:=Lib.hid hv;have HRO:=Lib.hid hro;obtain ⟨R,hR⟩:∃ R,R=RReadPost n pb db w o d L rb gb gen done x4 x5 vs:=⟨_,rfl⟩;have HRP:=Lib.hid hR;rw [<- hR];obtain ⟨M,hM⟩:∃ M,M=vs.length:=⟨_,rfl⟩;have HM:Hid (M=vs.length/\M<=1000):=Lib.hid ⟨hM,by rw [hM];exact h.top⟩;have hsz:=Lib.hid (graphSize_any h.gr);rw [<- hM] at hsz;have HS0:Hid (ReadSt n pb db w o d L rb gb gen done x4 x5 (.slice none 0 0) [] w o d):=Lib.hid ⟨Moved.refl _ h.held.pool,hr,World.ownsRow_nil _ _ _ _,fun b e=>by cases e⟩;obtain ⟨-,c1,-⟩:=hr.cells;clear h hv hr hro hR hM;unfold ptrTo at *;go_enter Tryz.func63,Tryz.ntmps63
 go_wp2_with fail
 refine hsz.out.mono ?_;rintro e w1 ⟨rfl,rfl⟩;clear hsz c1;go_wp2_with fail
 go_loopw [11] (fun vi wr=>∃ (j:Nat) (acc:List Vrt) (vv:Value) (o':Owner) (d':Dsk),vi=.int .i64 (j:Int)/\j<=M/\Hid (acc=vs.take j)/\Hid (ReadSt n pb db w o d L rb gb gen done x4 x5 vv acc wr o' d')) (fun vi _=>M - (intOf vi).toNat)
 case atStart=>exact ⟨0,[],_,o,d,rfl,Nat.zero_le _,Lib.hid (by simp),HS0⟩
 case round=>
  obtain ⟨j,acc,vv,o1,d1,rfl,hj,HACC,HS⟩:=hrel;clear HS0;generalize wr=W1 at *;by_cases hlt:j < M
  ·have hjz:(j:Int) < (M:Int):=by omega
   have wj:IntKind.i64.wrap ((j:Int)+1)=((j+1:Nat):Int):=by have:=HM.out;rw [wrap_in]<;>omega
   have wu:IntKind.u32.wrap (j:Int)=(j:Int):=by have:=HM.out;exact wraps_u32 _ (by omega) (by omega)
   obtain ⟨-,c1,-⟩:=HS.out.at'.cells;have hvt:=Lib.hid (held_vert HW ((H.out.movedR HRO.out HS.out.mv).held) H.out.need (H.out.movedR HRO.out HS.out.mv).gr HV.out (v:=j) (by have:=HM.out;omega) (by have:=HM.out;omega));obtain ⟨x,hx⟩:∃ x,x=vs[j]'(by have:=HM.out;omega):=⟨_,rfl⟩;rw [<- hx] at hvt;have HX:Hid (acc++[x]=vs.take (j+1)):=Lib.hid (by rw [hx,HACC.out,List.take_succ_eq_append_getElem]);clear hx;unfold vrtVal ptrTo at *;go_wp2_with fail
   refine hvt.out.mono ?_;rintro e w2 ⟨d2,o2,rfl,hm2⟩;have HS2:=Lib.hid (HS.out.moved HRO.out hm2);clear hvt hm2 HS c1;have HS3:Hid (ReadSt n pb db w o d L rb gb gen done x4 x5 vv acc (w2.alloc (.cells #[.int .u32 (x.r.toNat:Int), .int .u32 (x.l.toNat:Int), .int .u32 (x.g.toNat:Int)] 55)) o2 d2/\(w2.alloc (.cells #[.int .u32 (x.r.toNat:Int), .int .u32 (x.l.toNat:Int), .int .u32 (x.g.toNat:Int)] 55)).heap[w2.heap.size]? = some (.cells #[.int .u32 (x.r.toNat:Int), .int .u32 (x.l.toNat:Int), .int .u32 (x.g.toNat:Int)] 55)):=Lib.hid ⟨HS2.out.below ((Below.refl _ _).alloc (Nat.le_refl _) _),heap_alloc_new _ _⟩;clear HS2;go_wp2_with fail
   generalize w2.heap.size=xb at *;generalize w2.alloc (.cells #[.int .u32 (x.r.toNat:Int), .int .u32 (x.l.toNat:Int), .int .u32 (x.g.toNat:Int)] 55)=W3 at *;obtain ⟨la,lk,rfl⟩:=ownsRow_slice HS3.out.1.row;obtain ⟨-,-,-,-,-,-,c6,f6⟩:=HS3.out.1.at'.cells;have f6:=f6 6;have x0:W3.cell? ⟨xb,0,none⟩=some (.int .u32 (x.r.toNat:Int)):=by rw [cells_cell HS3.out.2];rfl
   have x1:W3.cell? ⟨xb,1,none⟩=some (.int .u32 (x.l.toNat:Int)):=by rw [cells_cell HS3.out.2];rfl
   have x2:W3.cell? ⟨xb,2,none⟩=some (.int .u32 (x.g.toNat:Int)):=by rw [cells_cell HS3.out.2];rfl
   have hrlt:=HS3.out.1.at'.lt;have hxlt:=World.block_lt_of_cell? _ _ x0;have HL:Hid (acc.length<=100000/\w.heap.size<=W3.heap.size):=Lib.hid ⟨by rw [HACC.out,List.length_take];have:=HM.out;omega,HS3.out.1.mv.size⟩;have HB3:Hid (∀ ob,Below W3.heap.size W3 (W3.alloc ob).drew):=Lib.hid (fun ob=>((Below.refl _ _).alloc (Nat.le_refl _) ob).drew);go_region_law (refine step_append_vert rfl _ _ rfl w.heap.size _ acc rfl (World.ownsRow.alloc (World.ownsRow.drew HS3.out.1.row) _) x _ 1 rfl (heap_alloc_new _ _) HL.out.1 (Nat.le_trans HL.out.2 (HB3.out _).size) ?_;intro v5 w5 h5 ha;obtain ⟨g5,k5,M5,HM5,rfl⟩:=vrts_shape h5;obtain ⟨c5,f5,hs5⟩:=(HS3.out.1.below (HB3.out _)).appd HRO.out h5 ha;have HS5:=Lib.hid hs5;clear hs5 ha h5)
   all_goals
    have HS6:Hid (ReadSt n pb db w o d L rb gb gen done x4 x5 (.slice (some ⟨g5,0,none⟩) M5 k5) (acc++[x]) (w5.setCell ⟨rb,6,none⟩ (.slice (some ⟨g5,0,none⟩) M5 k5)) o2 d2):=HS5;clear c6 f6 x0 x1 x2 hrlt hxlt c5 f5 HS3 HS5 HB3 HL;go_wp2;go_roundw
    case rel=>exact ⟨j+1,acc++[x],_,o2,d2,by go_num,by omega,HX,HS6⟩
    case measure=>simp [intOf];omega
  ·have hjz:¬ (j:Int) < (M:Int):=by omega
   have HQ:Hid (R (.returned (.int .i64 0)) W1):=Lib.hid (by
    rw [HRP.out];have:=HS.out;rw [HACC.out,List.take_of_length_le (by have:=HM.out;omega)] at this;exact ⟨vv,d1,o1,rfl,this⟩)
   clear HS HRP;go_wp2;exact HQ.out
end
end
section
open Go.RowKit Go.Maps Go.Sort
set_option maxHeartbeats 1000000 in
theorem isNaN32_any (x:Nat) (w:World):Calls Tryz.prog 246 #[.int .u32 (x:Int)] w fun e w'=>e=.returned (.bool false)/\w'=w:=by
 go_enter Tryz.func246,Tryz.ntmps246
 go_wp2;go_ret;exact ⟨by simp,rfl⟩
set_option maxHeartbeats 1000000 in
theorem less32_any (x y:Nat) (w:World):Calls Tryz.prog 253 #[.int .u32 (x:Int), .int .u32 (y:Int)] w fun e w'=>e=.returned (.bool (decide (x < y)))/\w'=w:=by
 have hn:=Lib.hid (isNaN32_any x w);have HD:Hid (decide ((x:Int) < (y:Int))=decide (x < y)):=Lib.hid (by rw [decide_eq_decide];omega);go_enter Tryz.func253,Tryz.ntmps253
 go_wp2_with fail
 refine hn.out.mono ?_;rintro e w' ⟨rfl,rfl⟩;go_wp2;go_ret;exact ⟨by rw [<- HD.out];rfl,rfl⟩
structure Num32 (w0:World) (base g cap:Nat) (d:Array Nat) (W:World):Prop where
 row:ownsNums W base (.slice (some ⟨g,0,none⟩) d.size cap) d.toList
 turn:Turn (·=g) w0 W
abbrev lt32 (a b:Nat):Bool:=decide (a < b)
section
variable {w0 W W':World} {base g cap:Nat} {d:Array Nat}
theorem Num32.below (h:Num32 w0 base g cap d W) (hb:Below W.heap.size W W'):Num32 w0 base g cap d W':=⟨ownsRow_below h.row hb,h.turn.thenBelow hb⟩
theorem Num32.cell (h:Num32 w0 base g cap d W) {i:Nat} (hi:i < d.size):W.cell? ⟨g,i,none⟩=some (.int .u32 (d[i]! : Int)):=by
 have hg:d.toList[i]? = some d[i]! := by rw [Array.getElem?_toList,Array.getElem?_eq_getElem hi,getElem!_pos d i hi]
 exact ownsNums_cell (l:=d.toList) (by have:=h.row;simpa using this) hg
theorem Num32.put (h:Num32 w0 base g cap d W) {i:Nat} (x:Nat):Num32 w0 base g cap (d.setIfInBounds i x) (W.setCell ⟨g,i,none⟩ (.int .u32 (x:Int))):=by
 refine ⟨?_,h.turn.setCell _ _ (.inl rfl)⟩;have h1:=World.ownsRow.stored h.row i (.int .u32 (x:Int));have h2:=h1.1;unfold ownsNums;rw [Array.size_setIfInBounds];simpa [List.map_set] using h2
theorem Num32.exch (h:Num32 w0 base g cap d W) (i j:Nat):Num32 w0 base g cap (swp d i j) ((W.setCell ⟨g,i,none⟩ (.int .u32 (d[j]! : Int))).setCell ⟨g,j,none⟩ (.int .u32 (d[i]! : Int))).drew:=
 ((h.put d[j]!).put d[i]!).below (Below.refl _ _).drew
set_option maxRecDepth 100000 in
set_option maxHeartbeats 8000000 in
theorem insert32_any (h:Num32 w0 base g cap d W) (b:Nat) (hb:b<=d.size) (hsz:d.size<=1000000) :
 Calls Tryz.prog 247 #[.slice (some ⟨g,0,none⟩) d.size cap, .int .i64 0, .int .i64 (b:Int)] W fun e w'=>e=.returned (.tuple #[])/\Num32 w0 base g cap (insertionSort lt32 d 0 b) w':=by
 have H:=Lib.hid h;clear h;obtain ⟨N,hN⟩:∃ N,N=d.size:=⟨_,rfl⟩;rw [<- hN] at hb hsz ⊢;have HN:=Lib.hid hN;clear hN;go_enter Tryz.func247,Tryz.ntmps247
 go_wp2;go_loopw [6] (fun vi wr=>∃ (i:Nat) (dk:Array Nat),vi=.int .i64 (i:Int)/\0 < i/\i<=b+1/\dk.size=N/\Num32 w0 base g cap dk wr/\Hid (insOuter lt32 0 b i dk=insOuter lt32 0 b (0+1) d)) (fun vi _=>b+1 - (intOf vi).toNat)
 case atStart=>exact ⟨1,d,by go_num,by omega,by omega,HN.out.symm,H.out,rfl⟩
 case round=>
  obtain ⟨i,dk,rfl,hai,hib,hsk,hs,HO⟩:=hrel;have HS:=Lib.hid hs;have HSK:=Lib.hid hsk;clear hs hsk;by_cases hlt:i < b
  ·have hltz:(i:Int) < (b:Int):=by omega
   go_wp2;go_loopw [7] (fun vj wr2=>∃ (j:Nat) (dj:Array Nat),vj=.int .i64 (j:Int)/\j<=i/\dj.size=N/\Num32 w0 base g cap dj wr2/\Hid (insInner lt32 0 j dj=insInner lt32 0 i dk)) (fun vj _=>(intOf vj).toNat)
   case atStart=>exact ⟨i,dk,rfl,Nat.le_refl _,HSK.out,HS.out,rfl⟩
   case round=>
    obtain ⟨j,dj,rfl,hji,hsj,hs2,HI⟩:=hrel;have HS2:=Lib.hid hs2;have HSJ:=Lib.hid hsj;clear hs2 hsj;have OUT:Hid ((j<=0\/lt32 dj[j]! dj[j - 1]! = false)->insOuter lt32 0 b (i+1) dj=insOuter lt32 0 b (0+1) d):=Lib.hid (fun hq=>by
     rw [<- HO.out,insOuter_go _ _ _ _ _ hlt,<- HI.out,insInner_stop _ _ _ _ hq])
    generalize wr=Wr at *;by_cases hja:0 < j
    ·obtain ⟨jp,rfl⟩:∃ jp,j=jp+1:=⟨j - 1,by omega⟩;have hjaz:(0:Int) < (jp:Int)+1:=by omega
     have hwp:IntKind.i64.wrap (jp:Int)=(jp:Int):=wrap_in (by omega) (by omega);have jz:(jp:Int)+1 < (N:Int):=by omega
     have jz1:(jp:Int) < (N:Int):=by omega
     have p0:(0:Int)<=(jp:Int)+1:=by omega
     have e0:((jp:Int)+1).toNat=jp+1:=by omega
     have HJ:Hid (jp+1 < dj.size/\jp < dj.size):=Lib.hid ⟨by rw [HSJ.out];omega,by rw [HSJ.out];omega⟩;obtain ⟨xj,hxj⟩:∃ x,dj[jp+1]! = x:=⟨_,rfl⟩;obtain ⟨xp,hxp⟩:∃ x,dj[jp]! = x:=⟨_,rfl⟩;have F:Hid (∀ w',Below Wr.heap.size Wr w'->w'.cell? ⟨g,jp+1,none⟩=some (.int .u32 (xj:Int))/\w'.cell? ⟨g,jp,none⟩=some (.int .u32 (xp:Int))/\Calls Tryz.prog 253 #[.int .u32 (xj:Int), .int .u32 (xp:Int)] w' fun e w''=>e=.returned (.bool (decide (xj < xp)))/\Below Wr.heap.size Wr w''):=Lib.hid (fun w' hw'=>⟨by rw [<- hxj];exact (HS2.out.below hw').cell HJ.out.1,by rw [<- hxp];exact (HS2.out.below hw').cell HJ.out.2,(less32_any xj xp w').mono fun _ _ ⟨h1,h2⟩=>⟨h1,h2 ▸ hw'⟩⟩);by_cases hlv:xj < xp
     ·have hlb:decide (xj < xp)=true:=decide_eq_true hlv;go_wp2_with fail
      refine wq Wr ?_;iterate 7 (refine qo (fun K hK=>?_);go_simp;refine hK _ ?_;clear hK K)
      refine qo (fun K hK=>?_) (fun w' hw'=>by obtain ⟨c0,c1,-⟩:=F.out w' hw';go_simp<;>rfl);go_simp;refine hK _ ?_;clear hK K;iterate 4 (refine qo (fun K hK=>?_);go_simp;refine hK _ ?_;clear hK K)
      refine qo (fun K hK=>?_) (fun w' hw'=>by obtain ⟨c0,c1,-⟩:=F.out w' hw';go_simp<;>rfl);go_simp;refine hK _ ?_;clear hK K;refine qc (fun w' hw'=>(F.out w' hw').2.2) (fun K hK=>?_);go_simp;refine hK _ ?_;clear hK K;refine qo (fun K hK=>?_);go_simp;refine hK _ ?_;clear hK K;refine wpQuiet_nil ?_;intro w3 hw3;have HS3:=Lib.hid (HS2.out.below hw3);obtain ⟨x0,y0,-⟩:=F.out w3 hw3;clear hw3;go_wp2_with fail
      have hfr:=fun k=>World.ownsRow.frozenAt (HS3.out.row) k;have hne:¬ jp=jp+1:=by omega
      have HEX:=Lib.hid (HS3.out.exch (jp+1) jp);rw [hxj,hxp] at HEX;clear F;go_big_region
      all_goals
       clear x0 y0 hfr;have hdone:=Lib.hid HEX.out;go_wp2;have hst:insInner lt32 0 jp (swp dj (jp+1) jp)=insInner lt32 0 i dk:=by
        have:=insInner_go (lt:=lt32) 0 (jp+1) dj hja (by rw [Nat.add_sub_cancel,hxj,hxp];exact decide_eq_true hlv);rw [Nat.add_sub_cancel] at this;rw [<- HI.out,this]
       exact ⟨⟨jp,swp dj (jp+1) jp,rfl,by omega,by rw [size_swp];exact HSJ.out,hdone.out,hst⟩,by simp [intOf]⟩
     ·have hlb:decide (xj < xp)=false:=decide_eq_false hlv;go_wp2_with fail
      refine wq Wr ?_;iterate 7 (refine qo (fun K hK=>?_);go_simp;refine hK _ ?_;clear hK K)
      refine qo (fun K hK=>?_) (fun w' hw'=>by obtain ⟨c0,c1,-⟩:=F.out w' hw';go_simp<;>rfl);go_simp;refine hK _ ?_;clear hK K;iterate 4 (refine qo (fun K hK=>?_);go_simp;refine hK _ ?_;clear hK K)
      refine qo (fun K hK=>?_) (fun w' hw'=>by obtain ⟨c0,c1,-⟩:=F.out w' hw';go_simp<;>rfl);go_simp;refine hK _ ?_;clear hK K;refine qc (fun w' hw'=>(F.out w' hw').2.2) (fun K hK=>?_);go_simp;refine hK _ ?_;clear hK K;refine qo (fun K hK=>?_);go_simp;refine hK _ ?_;clear hK K;refine wpQuiet_nil ?_;intro w3 hw3;have HS3:=Lib.hid (HS2.out.below hw3);clear hw3;go_wp2;have HO3:=Lib.hid (OUT.out (.inr (by rw [Nat.add_sub_cancel,hxj,hxp];exact decide_eq_false hlv)));exact ⟨⟨i+1,dj,by go_num,by omega,by omega,HSJ.out,HS3.out,HO3⟩,by simp [intOf];omega⟩
    ·obtain rfl:j=0:=by omega
     go_wp2_with fail
     go_quiet (fail)
     go_wp2;have HBd:RowKit.Below Wr.heap.size Wr (Wr.drewN nq):=⟨rfl,rfl,rfl,Nat.le_refl _,fun _ _=>rfl⟩;exact ⟨⟨i+1,dj,by go_num,by omega,by omega,HSJ.out,HS2.out.below HBd,Lib.hid (OUT.out (.inl (by omega)))⟩,by simp [intOf];omega⟩
  ·have hltz:¬ (i:Int) < (b:Int):=by omega
   go_wp2;go_end0
   exact ⟨rfl,by unfold insertionSort;rw [<- HO.out,insOuter_stop _ _ _ _ _ hlt];exact HS.out⟩
theorem swo32:SWO lt32:=⟨fun x=>by simp [lt32],fun x y z h1 h2=>by simp [lt32] at *;omega,fun x y z h1 h2=>by simp [lt32] at *;omega⟩
set_option maxRecDepth 100000 in
set_option maxHeartbeats 1000000 in
theorem insertNone32_any (v:Value) (w:World):Calls Tryz.prog 247 #[v, .int .i64 0, .int .i64 0] w fun e w'=>e=.returned (.tuple #[])/\w=w':=by
 go_enter Tryz.func247,Tryz.ntmps247
 go_wp2;refine wp_loop_rounds 1 ?_;iterate 1 (rw [rounds_succ];go_wp2)
 go_returns
 exact ⟨rfl,rfl⟩
set_option maxRecDepth 100000 in
set_option maxHeartbeats 1000000 in
theorem pdq32_any {Q:Ending->World->Prop} (v:Value) (k:Nat) (hk:k<=12) (lim:Int) (w:World) (hQ:∀ w',Q (.returned (.tuple #[])) w'->Q (.returned (.tuple #[])) w') (hi:Calls Tryz.prog 247 #[v, .int .i64 0, .int .i64 (k:Int)] w fun e w'=>e=.returned (.tuple #[])/\Q (.returned (.tuple #[])) w') :
 Calls Tryz.prog 207 #[v, .int .i64 0, .int .i64 (k:Int), .int .i64 lim] w Q:=by
 have HI:=Lib.hid hi;have HQ:=Lib.hid hQ;have hw:IntKind.i64.wrap ((k:Int) - 0)=(k:Int):=by rw [Int.sub_zero,wrap_in]<;>omega
 have hw2:IntKind.i64.wrap (k:Int)=(k:Int):=by rw [wrap_in]<;>omega
 have hk2:(k:Int)<=12:=by omega
 clear hi hQ;go_enter Tryz.func207,Tryz.ntmps207
 go_wp2;refine wp_loop_rounds 1 ?_;rw [rounds_succ];go_wp2_with fail
 refine HI.out.mono ?_;rintro e w' ⟨rfl,hq⟩;have HQ2:=Lib.hid hq;clear hq HI;go_wp2;go_returns
 exact HQ.out _ HQ2.out
set_option maxRecDepth 100000 in
set_option maxHeartbeats 1000000 in
theorem sortTop32_any {Q:Ending->World->Prop} {a:Option Addr} {k cap:Nat} (hk:k<=12) (w:World) (hi:Calls Tryz.prog 247 #[.slice a k cap, .int .i64 0, .int .i64 (k:Int)] w fun e w'=>e=.returned (.tuple #[])/\Q (.returned (.tuple #[])) w') :
 Calls Tryz.prog 150 #[.slice a k cap] w Q:=by
 have hl:Calls Tryz.prog 87 #[.int .u64 (k:Int)] w fun e w'=>e=.returned (.int .i64 (Lib.bitLen k:Nat))/\w'=w:=
  Any.bits_Len (SlLaysF0.n15.bits (P:=Tryz.prog) (ρ:=Tryz.sortEdges_ren) { Tryz.sortEdges with }) k w (by omega) (by omega)
 have HL:=Lib.hid hl;have HP:Hid (∀ lim,Calls Tryz.prog 207 #[.slice a k cap, .int .i64 0, .int .i64 (k:Int), .int .i64 lim] w fun e w'=>e=.returned (.tuple #[])/\Q (.returned (.tuple #[])) w'):=Lib.hid (fun lim=>pdq32_any _ k hk lim w (fun _ h=>h) (hi.mono fun e w' h=>⟨h.1,rfl,h.2⟩));have hc:IntKind.u64.wrap (k:Int)=(k:Int):=wraps_u64 _ (by omega) (by omega);clear hi hl;go_enter Tryz.func150,Tryz.ntmps150
 go_wp2_with fail
 refine HL.out.mono ?_;rintro e w' ⟨rfl,rfl⟩;go_wp2_with fail
 refine (HP.out _).mono ?_;rintro e w2 ⟨rfl,hq⟩;have HQ2:=Lib.hid hq;clear hq HP HL;go_wp2;go_returns
 exact HQ2.out
def Sorted32 (w:World) (base:Nat) (v:Value) (l:List Nat) (e:Ending) (w':World):Prop:=
 ∃ l',e=.returned (.tuple #[])/\ownsNums w' base v l'/\l'.Perm l/\l'.Pairwise (·<=·)/\Turn (fun b=>v.ownBlock=some b) w w'
theorem sort32_any {w:World} {v:Value} {l:List Nat} (h:ownsNums w base v l) (hl:l.length<=12):Calls Tryz.prog 150 #[v] w (Sorted32 w base v l):=by
 obtain ⟨a,k,rfl⟩:=ownsRow_slice h;refine sortTop32_any hl w ?_;rcases Nat.eq_zero_or_pos l.length with h0 | h0
 ·obtain rfl:=List.eq_nil_of_length_eq_zero h0;refine (insertNone32_any _ w).mono ?_;rintro e w' ⟨rfl,rfl⟩;exact ⟨rfl,[],rfl,h,List.Perm.refl _,List.Pairwise.nil,Turn.refl _ _⟩
 ·obtain ⟨g,rfl⟩:∃ g,a=some ⟨g,0,none⟩:=by
   obtain ⟨-,⟨h1,h2⟩ | ⟨g,_,_,h1,_⟩⟩:=h
   ·omega
   ·cases h1;exact ⟨g,rfl⟩
  have hn:Num32 w base g k l.toArray w:=⟨by simpa using h,Turn.refl _ _⟩;have hi:=insert32_any hn l.length (by simp) (by simp;omega);rw [List.size_toArray] at hi;refine hi.mono ?_;rintro e w' ⟨rfl,h1⟩;obtain ⟨⟨hsz,-,hperm⟩,hsort⟩:=insertionSort_holds (lt:=lt32) swo32 l.toArray 0 l.length (Nat.zero_le _) (by simp);generalize insertionSort lt32 l.toArray 0 l.length=D at *;have hsz:D.size=l.length:=by simpa using hsz
  have hp:D.toList.Perm l:=by
   have e1:D.extract 0 l.length=D:=by rw [<- hsz];simp
   rw [e1] at hperm;simpa using hperm
  refine ⟨rfl,D.toList,rfl,?_,hp,?_,h1.turn.mono (fun b _ e=>by rw [e];rfl)⟩
  ·have:=h1.row;rw [hsz] at this;unfold ownsNums at this ⊢;simpa [hsz] using this
  ·rw [List.pairwise_iff_getElem];intro i j hi hj hij;have h2:=hsort i j (Nat.zero_le _) hij (by simpa [hsz] using hj);have e1:D[i]! = D.toList[i]:=by rw [getElem!_pos D i (by simpa using hi)];simp
   have e2:D[j]! = D.toList[j]:=by rw [getElem!_pos D j (by simpa using hj)];simp
   rw [e1,e2] at h2;have:=of_decide_eq_false h2;omega
end
end
section
open Go.RowKit Go.Maps
open Go.ChangeMaps (setBlock)
abbrev candVal (c:Cnd) (nv:Value):Value:=.agg #[.int .u32 (c.v:Int), .int .u64 (c.k:Int),nv]
theorem first2_ahead (a b:Cnd):decide (first2 (cmpN a.k b.k) (cmpN a.v b.v) < 0)=decide (AheadC a b):=by
 rw [decide_eq_decide];unfold AheadC first2;rcases cmpN_cases a.k b.k with ⟨g1,g2⟩ | ⟨g1,g2⟩ | ⟨g1,g2⟩
 ·rw [g2,if_neg (by decide)];omega
 ·rw [g2,if_neg (by decide)];omega
 ·rw [g2,if_pos rfl];rcases cmpN_cases a.v b.v with ⟨k1,k2⟩ | ⟨k1,k2⟩ | ⟨k1,k2⟩<;>rw [k2]<;>omega
set_option maxRecDepth 100000 in
set_option maxHeartbeats 2000000 in
theorem ahead_any (x y:Cnd) {xa ya:Option Addr} {xn xc yn yc:Nat} (w:World):Calls Tryz.prog 149 #[candVal x (.slice xa xn xc),candVal y (.slice ya yn yc)] w fun e w'=>e=.returned (.bool (decide (AheadC x y)))/\Grew w w':=by
 have hf:=Lib.hid (first2_ahead x y);unfold candVal;generalize x.k=xk at *;generalize x.v=xi at *;generalize y.k=yk at *;generalize y.v=yi at *;generalize hX:(Value.slice xa xn xc)=X at *;generalize hY:(Value.slice ya yn yc)=Y at *;subst hX hY;go_enter Tryz.func149,Tryz.ntmps149
 have HG:Hid (Grew w ((w.alloc (.cells #[.int .u32 (xi:Int), .int .u64 (xk:Int), .slice xa xn xc] 181)).alloc (.cells #[.int .u32 (yi:Int), .int .u64 (yk:Int), .slice ya yn yc] 181))):=Lib.hid (((Grew.refl w).alloc _).alloc _);go_wp2;have K:Hid (((w.alloc (.cells #[.int .u32 (xi:Int), .int .u64 (xk:Int), .slice xa xn xc] 181)).alloc (.cells #[.int .u32 (yi:Int), .int .u64 (yk:Int), .slice ya yn yc] 181)).cell? ⟨w.heap.size,0,none⟩=some (.int .u32 (xi:Int))/\((w.alloc (.cells #[.int .u32 (xi:Int), .int .u64 (xk:Int), .slice xa xn xc] 181)).alloc (.cells #[.int .u32 (yi:Int), .int .u64 (yk:Int), .slice ya yn yc] 181)).cell? ⟨w.heap.size,1,none⟩=some (.int .u64 (xk:Int))/\((w.alloc (.cells #[.int .u32 (xi:Int), .int .u64 (xk:Int), .slice xa xn xc] 181)).alloc (.cells #[.int .u32 (yi:Int), .int .u64 (yk:Int), .slice ya yn yc] 181)).cell? ⟨w.heap.size+1,0,none⟩=some (.int .u32 (yi:Int))/\((w.alloc (.cells #[.int .u32 (xi:Int), .int .u64 (xk:Int), .slice xa xn xc] 181)).alloc (.cells #[.int .u32 (yi:Int), .int .u64 (yk:Int), .slice ya yn yc] 181)).cell? ⟨w.heap.size+1,1,none⟩=some (.int .u64 (yk:Int))):=Lib.hid (by simp);generalize ((w.alloc (.cells #[.int .u32 (xi:Int), .int .u64 (xk:Int), .slice xa xn xc] 181)).alloc (.cells #[.int .u32 (yi:Int), .int .u64 (yk:Int), .slice ya yn yc] 181))=W at *;refine wp_region_quiet_tail (Grew W) 10 (by kernel_rfl) (by kernel_rfl) (Grew.refl W).drew ?_;simp only [List.take_succ_cons,List.take_zero,List.drop_succ_cons,List.drop_zero];refine qo (fun K hK=>?_);go_simp;refine hK _ ?_;clear hK K;refine qo (fun K hK=>?_) (fun w' hw'=>by have hc:=hw'.cell K.out.2.1;go_simp<;>rfl);go_simp;refine hK _ ?_;clear hK K;refine qo (fun K hK=>?_);go_simp;refine hK _ ?_;clear hK K;refine qo (fun K hK=>?_) (fun w' hw'=>by have hc:=hw'.cell K.out.2.2.2;go_simp<;>rfl);go_simp;refine hK _ ?_;clear hK K;refine qc (fun w' hw'=>(cmp64_any xk yk w').mono (fun e w'' h=>⟨h.1,h.2 ▸ hw'⟩)) (fun K hK=>?_);go_simp;refine hK _ ?_;clear hK K;refine qo (fun K hK=>?_);go_simp;refine hK _ ?_;clear hK K;refine qo (fun K hK=>?_) (fun w' hw'=>by have hc:=hw'.cell K.out.1;go_simp<;>rfl);go_simp;refine hK _ ?_;clear hK K;refine qo (fun K hK=>?_);go_simp;refine hK _ ?_;clear hK K;refine qo (fun K hK=>?_) (fun w' hw'=>by have hc:=hw'.cell K.out.2.2.1;go_simp<;>rfl);go_simp;refine hK _ ?_;clear hK K;refine qc (fun w' hw'=>(cmp32_any xi yi w').mono (fun e w'' h=>⟨h.1,h.2 ▸ hw'⟩)) (fun K hK=>?_);go_simp;refine hK _ ?_;clear hK K;refine wpQuiet_nil ?_;intro w3 hw3;have HW3:=Lib.hid hw3;clear hw3;go_wp2_with fail
 refine (cmpOr_any (cmpN xk yk) (cmpN xi yi) _ _ (by simp) (by simp)).mono ?_;rintro e w4 ⟨rfl,rfl⟩;go_wp2;go_ret;exact ⟨by rw [<- hf.out];rfl,(HG.out.trans HW3.out).alloc _⟩
end
section
open Go.RowKit Go.Maps
open Go.ChangeMaps (setBlock)
def insL (S:List Nat) (x:Nat):List Nat:=x::S.filter fun y=>decide (y≠x)
theorem insL_mem (S:List Nat) (x y:Nat):y∈insL S x ↔ y∈S\/y=x:=by
 unfold insL;rw [List.mem_cons,List.mem_filter];by_cases h:y=x
 ·simp [h]
 ·simp [h]
theorem insL_put (S:List Nat) (x:Nat):mput (S.map fun x=>(x,())) x ()=(insL S x).map fun x=>(x,()):=by
 unfold mput mdel insL;rw [List.map_cons,List.filter_map];rfl
def MetC (a b:Cnd) (z:Nat):Prop:=a.v≠b.v/\(AheadC a b/\b.v=z\/¬ AheadC a b/\a.v=z)
section
variable {W:World} {qc mb:Nat} {S:List Nat}
def MeetPost (W:World) (qc mb:Nat) (S:List Nat) (x y:Cnd) (e:Ending) (W':World):Prop:=
 ∃ S',e=.returned (.tuple #[])/\SetAt W' mb S'/\(∀ z,z∈S' ↔ z∈S\/MetC x y z)/\Turn (·=mb) W W'/\W'.heap[qc]? = some (.cells #[.map (some mb)] 243)
theorem meet_put {w1:World} {x:Nat} (hc:w1.heap[qc]? = some (.cells #[.map (some mb)] 243)) (hne:qc≠mb) (ht:Turn (·=mb) W w1) {es:Array MapEntry} {clock:Nat} (hm:MapAt Tryz.prog 26 u32V (fun _:Unit=>Value.agg #[]) (setBlock w1 mb (.map es clock)) mb (mput (S.map fun x=>(x,())) x ())) {a b:Cnd} (h:∀ z,z=x ↔ MetC a b z) :
 MeetPost W qc mb S a b (.returned (.tuple #[])) (setBlock w1 mb (.map es clock)):=
 ⟨insL S x,rfl,by rw [insL_put] at hm;exact hm,fun z=>by rw [insL_mem,h z],ht.setBlock _ _ (.inl rfl),by rw [heap_setBlock_none _ hne];exact hc⟩
set_option maxRecDepth 100000 in
set_option maxHeartbeats 4000000 in
theorem meet_any (hc:W.heap[qc]? = some (.cells #[.map (some mb)] 243)) (hs:SetAt W mb S) (hne:qc≠mb) (x y:Cnd) (hx:x.v < 4294967296) (hy:y.v < 4294967296) {xa ya:Option Addr} {xn xc yn yc:Nat} :
 Calls Tryz.prog 148 #[candVal x (.slice xa xn xc),candVal y (.slice ya yn yc), .pointer (some ⟨qc,0,none⟩)] W (MeetPost W qc mb S x y):=by
 have HA:=Lib.hid (fun w=>ahead_any x y (xa:=xa) (ya:=ya) (xn:=xn) (xc:=xc) (yn:=yn) (yc:=yc) w);have HB:Hid (Below W.heap.size W ((W.alloc (.cells #[.int .u32 (x.v:Int), .int .u64 (x.k:Int), .slice xa xn xc] 181)).alloc (.cells #[.int .u32 (y.v:Int), .int .u64 (y.k:Int), .slice ya yn yc] 181))):=Lib.hid (((Below.refl _ _).alloc (Nat.le_refl _) _).alloc (by simp) _);have HK:Hid (((W.alloc (.cells #[.int .u32 (x.v:Int), .int .u64 (x.k:Int), .slice xa xn xc] 181)).alloc (.cells #[.int .u32 (y.v:Int), .int .u64 (y.k:Int), .slice ya yn yc] 181)).heap[W.heap.size]? = some (.cells #[.int .u32 (x.v:Int), .int .u64 (x.k:Int), .slice xa xn xc] 181)/\((W.alloc (.cells #[.int .u32 (x.v:Int), .int .u64 (x.k:Int), .slice xa xn xc] 181)).alloc (.cells #[.int .u32 (y.v:Int), .int .u64 (y.k:Int), .slice ya yn yc] 181)).heap[W.heap.size+1]? = some (.cells #[.int .u32 (y.v:Int), .int .u64 (y.k:Int), .slice ya yn yc] 181)):=Lib.hid (by
  refine ⟨?_,?_⟩
  ·rw [(MapKept.heap_alloc _ _).2 _ (by simp)];exact heap_alloc_new _ _
  ·have:=heap_alloc_new (W.alloc (.cells #[.int .u32 (x.v:Int), .int .u64 (x.k:Int), .slice xa xn xc] 181)) (.cells #[.int .u32 (y.v:Int), .int .u64 (y.k:Int), .slice ya yn yc] 181);simpa using this)
 have HC:=Lib.hid hc;have HS:=Lib.hid hs;have HNE:=Lib.hid hne;have HGX:=Lib.hid (good_u32 hx);have HGY:=Lib.hid (good_u32 hy);clear hc hs hne;by_cases heq:x.v=y.v
 ·have hz:(x.v:Int)=(y.v:Int):=by omega
  have HQ:Hid (MeetPost W qc mb S x y (.returned (.tuple #[])) ((W.alloc (.cells #[.int .u32 (x.v:Int), .int .u64 (x.k:Int), .slice xa xn xc] 181)).alloc (.cells #[.int .u32 (y.v:Int), .int .u64 (y.k:Int), .slice ya yn yc] 181))):=Lib.hid ⟨S,rfl,HS.out.kept (HB.out.block _ HS.out.lt),fun z=>⟨.inl,fun e=>e.elim id (fun e=>absurd heq e.1)⟩,Turn.ofBelow HB.out,(HB.out.block _ (Array.getElem?_eq_some_iff.1 HC.out).1).trans HC.out⟩;have hzb:((x.v:Int) == (y.v:Int))=true:=by rw [beq_iff_eq];exact hz
  clear hz heq;unfold candVal;go_enter Tryz.func148,Tryz.ntmps148
  go_wp2;go_returns
  exact HQ.out
 ·have hz:¬ (x.v:Int)=(y.v:Int):=by omega
  have HEQ:=Lib.hid heq;clear heq;unfold candVal at *;go_enter Tryz.func148,Tryz.ntmps148
  go_wp2_with fail
  refine (HA.out _).mono ?_;rintro e w1 ⟨rfl,hg⟩;have hb1:=hg.below;have HB1:=Lib.hid (HB.out.trans (hb1.mono HB.out.size));have k1:=(hb1.block _ (Array.getElem?_eq_some_iff.1 HK.out.1).1).trans HK.out.1;have k2:=(hb1.block _ (Array.getElem?_eq_some_iff.1 HK.out.2).1).trans HK.out.2;have x0:w1.cell? ⟨W.heap.size,0,none⟩=some (.int .u32 (x.v:Int)):=by rw [cells_cell k1];rfl
  have y0:w1.cell? ⟨W.heap.size+1,0,none⟩=some (.int .u32 (y.v:Int)):=by rw [cells_cell k2];rfl
  have HC1:=Lib.hid ((HB1.out.block _ (Array.getElem?_eq_some_iff.1 HC.out).1).trans HC.out);have HS1:Hid (SetAt w1 mb S):=Lib.hid (HS.out.kept (HB1.out.block _ HS.out.lt));have q0:w1.cell? ⟨qc,0,none⟩=some (.map (some mb)):=by rw [cells_cell HC1.out];rfl
  clear hg hb1 k1 k2 HK;by_cases hah:AheadC x y
  ·rw [show decide (AheadC x y)=true from decide_eq_true hah];have HM:Hid (∀ z,z=y.v ↔ MetC x y z):=Lib.hid (fun z=>⟨fun e=>⟨HEQ.out, .inl ⟨hah,e.symm⟩⟩,fun e=>e.2.elim (fun e=>e.2.symm) (fun e=>absurd hah e.1)⟩);clear hah;go_wp2_with (at_mapUpdate;refine wpList_put _ rfl _ _ _ _ rfl 245 keyed_u32 u32_inj Tryz.underlying243 mb _ rfl HS1.out y.v () rfl rfl HGY.out ?_;intro es clock hm)
   have HQ:=Lib.hid (meet_put HC1.out HNE.out (Turn.ofBelow HB1.out) hm HM.out);clear hm;go_returns
   exact HQ.out
  ·rw [show decide (AheadC x y)=false from decide_eq_false hah];have HM:Hid (∀ z,z=x.v ↔ MetC x y z):=Lib.hid (fun z=>⟨fun e=>⟨HEQ.out, .inr ⟨hah,e.symm⟩⟩,fun e=>e.2.elim (fun e=>absurd e.1 hah) (fun e=>e.2.symm)⟩);clear hah;go_wp2_with (at_mapUpdate;refine wpList_put _ rfl _ _ _ _ rfl 245 keyed_u32 u32_inj Tryz.underlying243 mb _ rfl HS1.out x.v () rfl rfl HGX.out ?_;intro es clock hm)
   have HQ:=Lib.hid (meet_put HC1.out HNE.out (Turn.ofBelow HB1.out) hm HM.out);clear hm;go_returns
   exact HQ.out
end
end
section
open Go.RowKit Go.Maps
open Go.ChangeMaps (setBlock)
abbrev CndV:=Cnd × (Option Addr × Nat)
abbrev nvOf (p:CndV):Value:=.slice p.2.1 p.1.n.length p.2.2
abbrev candV (p:CndV):Value:=.agg #[.int .u32 (p.1.v:Int), .int .u64 (p.1.k:Int), .slice p.2.1 p.1.n.length p.2.2]
def candRow:List CndV->List Value
 | []=>[]
 | p::l=>[.int .u32 (p.1.v:Int), .int .u64 (p.1.k:Int),nvOf p]++candRow l
theorem candRow_append (a b:List CndV):candRow (a++b)=candRow a++candRow b:=by
 induction a with
 | nil=>rfl
 | cons e a ih=>rw [List.cons_append,candRow,candRow,ih,List.append_assoc]
theorem candRow_get {l:List CndV} {i:Nat} {p:CndV} (h:l[i]? = some p):(candRow l)[i*3]? = some (.int .u32 (p.1.v:Int))/\(candRow l)[i*3+1]? = some (.int .u64 (p.1.k:Int))/\(candRow l)[i*3+2]? = some (nvOf p):=by
 induction l generalizing i with
 | nil=>cases h
 | cons q l ih=>
   cases i with
   | zero=>cases h;exact ⟨rfl,rfl,rfl⟩
   | succ i=>
     have:=ih (i:=i) (by simpa using h);rw [show (i+1)*3=i*3+3 by omega];exact this
abbrev ownsCands (w:World) (base:Nat) (v:Value) (l:List CndV):Prop:=w.ownsRow base 181 3 v l.length (candRow l)
theorem cands_cells {w:World} {base g cap:Nat} {l:List CndV} (h:ownsCands w base (.slice (some ⟨g,0,none⟩) l.length cap) l) {i:Nat} {p:CndV} (hi:l[i]? = some p) :
 w.cell? ⟨g,i*3,none⟩=some (.int .u32 (p.1.v:Int))/\w.cell? ⟨g,i*3+1,none⟩=some (.int .u64 (p.1.k:Int))/\w.cell? ⟨g,i*3+2,none⟩=some (nvOf p):=by
 have hc:∀ (j:Nat) (u:Value),(candRow l)[j]? = some u->w.cell? ⟨g,j,none⟩=some u:=fun j u hj=>by
  have:=World.ownsRow.cells h (g:=g) rfl j u hj;rwa [Addr_add,Nat.zero_add] at this
 obtain ⟨h1,h2,h3⟩:=candRow_get hi;exact ⟨hc _ _ h1,hc _ _ h2,hc _ _ h3⟩
abbrev OfAt (w:World) (b:Nat) (m:List (Nat × CndV)):Prop:=MapAt Tryz.prog 26 u32V candV w b m
structure PickIn (w:World) (base:Nat) (lv:Value) (cs:List CndV):Prop where
 row:ownsCands w base lv cs
 near:∀ p∈cs,ownsNums w 0 (nvOf p) p.1.n/\∀ y∈p.1.n,y < 4294967296
 v32:∀ p∈cs,p.1.v < 4294967296
 rise:(cs.map (·.1.v)).Pairwise (· < ·)
 len:cs.length<=12
def entL (cs:List CndV):List (Nat × CndV):=cs.reverse.map fun p=>(p.1.v,p)
section
variable {w w' W:World} {base:Nat} {lv:Value} {cs:List CndV}
theorem rise_nodup {l:List Nat} (h:l.Pairwise (· < ·)):l.Nodup:=h.imp (fun h e=>by omega)
theorem entL_take {j:Nat} {p:CndV} (h:PickIn w base lv cs) (hj:cs[j]? = some p):mput (entL (cs.take j)) p.1.v p=entL (cs.take (j+1))/\mget (entL (cs.take j)) p.1.v=none:=by
 obtain ⟨hl,rfl⟩:=List.getElem?_eq_some_iff.1 hj;have hne:∀ q∈entL (cs.take j),q.1≠cs[j].1.v:=by
  intro q hq;obtain ⟨x,hx,rfl⟩:=List.mem_map.1 hq;rw [List.mem_reverse] at hx;obtain ⟨i,hi⟩:=List.mem_iff_getElem?.1 hx;have hij:i < j:=by
   have:=(List.getElem?_eq_some_iff.1 hi).1;rw [List.length_take] at this;omega
  rw [List.getElem?_take_of_lt hij] at hi;obtain ⟨hil,rfl⟩:=List.getElem?_eq_some_iff.1 hi;have:=List.pairwise_iff_getElem.1 h.rise i j (by simpa using hil) (by simpa using hl) hij;simp at this;show cs[i].1.v≠_;omega
 refine ⟨?_,mget_none.2 hne⟩;unfold mput;rw [mdel_all hne];unfold entL;rw [List.take_succ_eq_append_getElem hl,List.reverse_append];rfl
theorem entL_get (h:PickIn w base lv cs) (v:Nat):(∃ p∈cs,p.1.v=v/\mget (entL cs) v=some p)\/(mget (entL cs) v=none/\∀ p∈cs,p.1.v≠v):=by
 have hk:((entL cs).map (·.1)).Nodup:=by
  unfold entL;rw [List.map_map];exact ((List.reverse_perm cs).map (·.1.v)).nodup_iff.2 (rise_nodup h.rise)
 cases e:mget (entL cs) v with
 | none=>
   refine .inr ⟨rfl,fun p hp he=>?_⟩;exact mget_none.1 e (p.1.v,p) (List.mem_map.2 ⟨p,List.mem_reverse.2 hp,rfl⟩) he
 | some q=>
   obtain ⟨x,hx,he⟩:=List.mem_map.1 (mget_mem e);cases he;exact .inl ⟨q,List.mem_reverse.1 hx,rfl,rfl⟩
theorem take_some_ex {l:List Nat} {k y:Nat} {P:Nat->Prop} {Q:Prop} (h:l[k]? = some y):(Q\/∃ x∈l.take (k+1),P x) ↔ ((Q\/∃ x∈l.take k,P x)\/P y):=by
 obtain ⟨hl,rfl⟩:=List.getElem?_eq_some_iff.1 h;rw [List.take_succ_eq_append_getElem hl];constructor
 ·rintro (h | ⟨x,hx,h⟩)
  ·exact .inl (.inl h)
  ·rcases List.mem_append.1 hx with hx | hx
   ·exact .inl (.inr ⟨x,hx,h⟩)
   ·rw [List.mem_singleton] at hx;subst hx;exact .inr h
 ·rintro ((h | ⟨x,hx,h⟩) | h)
  ·exact .inl h
  ·exact .inr ⟨x,List.mem_append.2 (.inl hx),h⟩
  ·exact .inr ⟨_,List.mem_append.2 (.inr (by simp)),h⟩
theorem one_cand (h:PickIn w base lv cs) {a b:CndV} (ha:a∈cs) (hb:b∈cs) (e:a.1.v=b.1.v):a=b:=by
 obtain ⟨i,hi⟩:=List.mem_iff_getElem?.1 ha;obtain ⟨j,hj⟩:=List.mem_iff_getElem?.1 hb;obtain ⟨hil,rfl⟩:=List.getElem?_eq_some_iff.1 hi;obtain ⟨hjl,rfl⟩:=List.getElem?_eq_some_iff.1 hj;have hp:=List.pairwise_iff_getElem.1 h.rise;rcases Nat.lt_trichotomy i j with h1 | h1 | h1
 ·have:=hp i j (by simpa using hil) (by simpa using hjl) h1;simp at this;omega
 ·subst h1;rfl
 ·have:=hp j i (by simpa using hjl) (by simpa using hil) h1;simp at this;omega
theorem pick_law (h:PickIn w base lv cs) {S ts:List Nat} {dn:List (Nat × CndV)} (hL:∀ z,z∈S ↔ LateC (cs.map (·.1)) z) (hp:dn.Perm (entL cs)) (ht:ts.Perm ((dn.map (·.1)).filter (fun x=>decide (x ∉ S)))) (hs:ts.Pairwise (·<=·)):ts=pickM (cs.map (·.1)):=by
 have e:pickM (cs.map (·.1))=(cs.map (·.1.v)).filter (fun x=>decide (x ∉ S)):=by
  unfold pickM;rw [List.map_map];refine List.filter_congr fun x _=>?_;simp only [hL x]
 rw [e];have hq:ts.Perm ((cs.map (·.1.v)).filter (fun x=>decide (x ∉ S))):=by
  refine ht.trans (List.Perm.filter _ ((hp.map (·.1)).trans ?_));unfold entL;rw [List.map_map];exact (List.reverse_perm cs).map _
 refine hq.eq_of_pairwise (le:=fun a b=>a<=b) (fun a b _ _ h1 h2=>Nat.le_antisymm h1 h2) hs ?_;exact (h.rise.imp (fun h=>Nat.le_of_lt h)).filter _
def PickPost (w:World) (l:List Nat) (e:Ending) (w':World):Prop:=∃ v,e=.returned v/\Below w.heap.size w w'/\ownsNums w' w.heap.size v l
theorem zero_cand (w:World):(zeroValue 181).run Tryz.prog w=.ok (.agg #[.int .u32 0, .int .u64 0, .slice none 0 0]) w:=Tryz.zeroValue181 w
set_option maxRecDepth 100000 in
set_option maxHeartbeats 16000000 in
theorem pick_any (h:PickIn w base lv cs):Calls Tryz.prog 100 #[lv] w (PickPost w (pickM (cs.map (·.1)))):=by
 obtain ⟨la,lk,rfl⟩:=ownsRow_slice h.row;have H:=Lib.hid h;have HZ:=Lib.hid zero_cand;have HZU:=Lib.hid zero_unit;have hmk:∀ (t:TypeId) (W:World),(Instr.makeMap t none).run Tryz.prog W=.ok (.map (some W.heap.size)) (W.alloc (.map #[] 0)):=fun _ _=>rfl;clear h;obtain ⟨R,HR⟩:∃ R,Hid (pickM (cs.map (·.1))=R):=⟨_,Lib.hid rfl⟩;rw [HR.out];obtain ⟨M,hM⟩:∃ M,M=cs.length:=⟨_,rfl⟩;rw [<- hM];have HM:Hid (M=cs.length/\M<=12):=Lib.hid ⟨hM,by rw [hM];exact H.out.len⟩;clear hM;have HO0:Hid (OfAt (w.alloc (.map #[] 0)) w.heap.size (entL (cs.take 0))):=Lib.hid (MapAt.made w Tryz.prog 26 u32V candV);have HB0:Hid (Below w.heap.size w (w.alloc (.map #[] 0))):=Lib.hid ((Below.refl _ _).alloc (Nat.le_refl _) _);go_enter Tryz.func100,Tryz.ntmps100
 go_wp2_with fail
 go_loopw [22] (fun vi wr=>∃ j:Nat,vi=.int .i64 (j:Int)/\j<=M/\Hid (OfAt wr w.heap.size (entL (cs.take j)))/\Hid (Below w.heap.size w wr)) (fun vi _=>M - (intOf vi).toNat)
 case atStart=>exact ⟨0,rfl,Nat.zero_le _,HO0,HB0⟩
 case round=>
  obtain ⟨j,rfl,hj,HO,HB⟩:=hrel;clear HO0 HB0;generalize wr=W1 at *;by_cases hlt:j < M
  ·have hjz:(j:Int) < (M:Int):=by omega
   have wj:IntKind.i64.wrap ((j:Int)+1)=((j+1:Nat):Int):=by have:=HM.out;rw [wrap_in]<;>omega
   obtain ⟨p,hp⟩:∃ x,cs[j]? = some x:=⟨_,List.getElem?_eq_getElem (by have:=HM.out;omega)⟩;have HP:=Lib.hid hp;have HG:=Lib.hid (good_u32 (H.out.v32 p (List.mem_of_getElem? hp)));obtain ⟨g,rfl⟩:∃ g,la=some ⟨g,0,none⟩:=by
    obtain ⟨-,⟨h1,h2⟩ | ⟨g,_,_,h1,_⟩⟩:=H.out.row
    ·have:=HM.out;omega
    ·cases h1;exact ⟨g,rfl⟩
   obtain ⟨q0,q1,q2⟩:=cands_cells (ownsRow_below H.out.row HB.out) hp;obtain ⟨c,na,nk⟩:=p;have HB2:Hid (Below W1.heap.size W1 (W1.alloc (.cells #[.int .u32 (c.v:Int), .int .u64 (c.k:Int), .slice na c.n.length nk] 181))):=Lib.hid ((Below.refl _ _).alloc (Nat.le_refl _) _);have HO2:Hid (OfAt (W1.alloc (.cells #[.int .u32 (c.v:Int), .int .u64 (c.k:Int), .slice na c.n.length nk] 181)) w.heap.size (entL (cs.take j))):=Lib.hid (HO.out.kept (HB2.out.block _ HO.out.lt));have HO3:Hid (OfAt ((W1.alloc (.cells #[.int .u32 (c.v:Int), .int .u64 (c.k:Int), .slice na c.n.length nk] 181)).alloc (.cells #[.int .u32 0, .int .u64 0, .slice none 0 0] 181)) w.heap.size (entL (cs.take j))):=Lib.hid (HO2.out.kept ((MapKept.heap_alloc _ _).2 _ HO2.out.lt));obtain ⟨hput,hget⟩:=entL_take H.out hp;have HPUT:=Lib.hid hput;have HGET:=Lib.hid hget;clear hp hput hget;go_wp2_with (first | (at_lookup;refine wpList_look _ rfl _ _ _ _ rfl 181 keyed_u32 u32_inj Tryz.underlying241 (HZ.out _) w.heap.size _ rfl HO2.out c.v rfl HG.out ?_;unfold mhas;rw [HGET.out];simp only [Option.map_none,Option.getD_none,Option.isSome_none]) | (at_mapUpdate;refine wpList_put _ rfl _ _ _ _ rfl 181 keyed_u32 u32_inj Tryz.underlying241 w.heap.size _ rfl HO3.out c.v (c,na,nk) rfl rfl HG.out ?_;intro es clock hm;rw [HPUT.out] at hm;have HM4:=Lib.hid hm;clear hm))
   have HB5:Hid (Below w.heap.size w (setBlock ((W1.alloc (.cells #[.int .u32 (c.v:Int), .int .u64 (c.k:Int), .slice na c.n.length nk] 181)).alloc (.cells #[.int .u32 0, .int .u64 0, .slice none 0 0] 181)) w.heap.size (.map es clock))):=Lib.hid (by
    have ht:Turn (fun x=>w.heap.size<=x) w (setBlock ((W1.alloc (.cells #[.int .u32 (c.v:Int), .int .u64 (c.k:Int), .slice na c.n.length nk] 181)).alloc (.cells #[.int .u32 0, .int .u64 0, .slice none 0 0] 181)) w.heap.size (.map es clock)):=(((Turn.ofBelow HB.out).alloc _).alloc _).setBlock _ _ (.inl (Nat.le_refl _));exact ht.below (Nat.le_refl _) (fun _ h=>h))
   exact ⟨⟨j+1,by go_num,by omega,HM4,HB5⟩,by simp [intOf];omega⟩
  ·have hjz:¬ (j:Int) < (M:Int):=by omega
   have HOF:Hid (OfAt W1 w.heap.size (entL cs)):=Lib.hid (by have:=HO.out;rwa [List.take_of_length_le (by have:=HM.out;omega)] at this);clear HO;have HW3:Hid (Below W1.heap.size W1 ((W1.alloc (.map #[] 0)).alloc (.cells #[.map (some W1.heap.size)] 243))/\((W1.alloc (.map #[] 0)).alloc (.cells #[.map (some W1.heap.size)] 243)).heap.size=W1.heap.size+1+1):=Lib.hid ⟨((Below.refl _ _).alloc (Nat.le_refl _) _).alloc (by simp) _,by simp⟩;have HO3:Hid (OfAt ((W1.alloc (.map #[] 0)).alloc (.cells #[.map (some W1.heap.size)] 243)) w.heap.size (entL cs)):=Lib.hid (HOF.out.kept (HW3.out.1.block _ HOF.out.lt));have HS3:Hid (SetAt ((W1.alloc (.map #[] 0)).alloc (.cells #[.map (some W1.heap.size)] 243)) W1.heap.size []/\((W1.alloc (.map #[] 0)).alloc (.cells #[.map (some W1.heap.size)] 243)).heap[W1.heap.size+1]? = some (.cells #[.map (some W1.heap.size)] 243)):=Lib.hid ⟨(MapAt.made W1 Tryz.prog 26 u32V (fun _:Unit=>Value.agg #[])).kept ((MapKept.heap_alloc _ _).2 _ (by simp)),by
    have:=heap_alloc_new (W1.alloc (.map #[] 0)) (.cells #[.map (some W1.heap.size)] 243);simpa using this⟩
   have HLT:Hid (w.heap.size < W1.heap.size):=Lib.hid HOF.out.lt;clear HOF;go_wp2_with (at_range;refine wpList_rng _ rfl _ _ rfl 181 Tryz.underlying241 w.heap.size _ rfl HO3.out ?_;intro ob0 hi0)
   try go_frame
   rw [HW3.out.2] at hi0;have HI0:=Lib.hid hi0;clear hi0;obtain ⟨lb,hlb⟩:∃ x,x=W1.heap.size:=⟨_,rfl⟩;obtain ⟨qc,hqc⟩:∃ x,x=W1.heap.size+1:=⟨_,rfl⟩;obtain ⟨ib,hib⟩:∃ x,x=W1.heap.size+1+1:=⟨_,rfl⟩;have HN:Hid (w.heap.size < lb/\lb < qc/\qc < ib):=Lib.hid (by have:=HLT.out;omega);have HB4:Hid (Below w.heap.size w (((W1.alloc (.map #[] 0)).alloc (.cells #[.map (some W1.heap.size)] 243)).alloc ob0)):=Lib.hid ((HB.out.trans (HW3.out.1.mono HB.out.size)).alloc (by rw [HW3.out.2];have:=HB.out.size;omega) _);have HS4:Hid (SetAt (((W1.alloc (.map #[] 0)).alloc (.cells #[.map (some W1.heap.size)] 243)).alloc ob0) lb []/\(((W1.alloc (.map #[] 0)).alloc (.cells #[.map (some W1.heap.size)] 243)).alloc ob0).heap[qc]? = some (.cells #[.map (some lb)] 243)):=Lib.hid (by
    subst hlb hqc;exact ⟨HS3.out.1.kept ((MapKept.heap_alloc _ _).2 _ HS3.out.1.lt),by rw [(MapKept.heap_alloc _ _).2 _ (by rw [HW3.out.2];omega)];exact HS3.out.2⟩)
   rw [<- hib] at HI0;rw [<- hib,<- hqc];generalize ((W1.alloc (.map #[] 0)).alloc (.cells #[.map (some W1.heap.size)] 243)).alloc ob0=W4 at *;clear hlb hqc hib HS3 HO3 HW3 HLT HB hmk;go_loopw [] (fun wr=>∃ dn todo S,Hid (IterAt Tryz.prog 26 u32V candV wr w.heap.size ib (entL cs) todo)/\Hid (Below w.heap.size w wr)/\Hid (SetAt wr lb S/\wr.heap[qc]? = some (.cells #[.map (some lb)] 243))/\Hid ((dn++todo).Perm (entL cs))/\Hid (∀ z,z∈S ↔ ∃ q∈dn,∃ b∈cs,b.1.v∈q.2.1.n/\MetC q.2.1 b.1 z)) (fun wr=>wr.rangeLeft w.heap.size ib)
   case atStart=>exact ⟨[],_,[],HI0,HB4,HS4,Lib.hid (List.Perm.refl _),Lib.hid (by simp)⟩
   case round=>
    obtain ⟨dn,todo,S,HI,HB,HS,HP,HZS⟩:=hrel;clear HI0 HB4 HS4;generalize wr=W5 at *;go_wp2_with (at_next;refine wpList_nxt _ rfl _ rfl w.heap.size ib (entL cs) todo rfl HI.out ?_ ?_)
    ·rintro rfl;have HLATE:Hid (∀ z,z∈S ↔ LateC (cs.map (·.1)) z):=Lib.hid (fun z=>by
      have hp:dn.Perm (entL cs):=by simpa using HP.out
      rw [HZS.out z];unfold LateC;constructor
      ·rintro ⟨q,hq,b,hb,h1,h2⟩;obtain ⟨x,hx,rfl⟩:=List.mem_map.1 (hp.mem_iff.1 hq);exact ⟨x.1,List.mem_map.2 ⟨x,List.mem_reverse.1 hx,rfl⟩,b.1,List.mem_map.2 ⟨b,hb,rfl⟩,h1,h2.1,h2.2⟩
      ·rintro ⟨a,ha,b,hb,h1,h2,h3⟩;obtain ⟨x,hx,rfl⟩:=List.mem_map.1 ha;obtain ⟨y,hy,rfl⟩:=List.mem_map.1 hb;exact ⟨(x.1.v,x),hp.mem_iff.2 (List.mem_map.2 ⟨x,List.mem_reverse.2 hx,rfl⟩),y,hy,h1,h2,h3⟩)
     have HO6:Hid (OfAt W5 w.heap.size (entL cs)):=Lib.hid HI.out.map;clear HP HZS HI;go_wp2_with (at_range;refine wpList_rng _ rfl _ _ rfl 181 Tryz.underlying241 w.heap.size _ rfl HO6.out ?_;intro ob5 hi5)
     try go_frame
     obtain ⟨ie,hie⟩:∃ x,x=W5.heap.size:=⟨_,rfl⟩;have HI0:=Lib.hid hi5;have HN5:Hid (qc < ie):=Lib.hid (by rw [hie];exact (Array.getElem?_eq_some_iff.1 HS.out.2).1);have HB0:Hid (Below w.heap.size w (W5.alloc ob5)):=Lib.hid (HB.out.alloc HB.out.size _);have HS0:Hid (SetAt (W5.alloc ob5) lb S/\(W5.alloc ob5).heap[qc]? = some (.cells #[.map (some lb)] 243)):=Lib.hid ⟨HS.out.1.kept ((MapKept.heap_alloc _ _).2 _ HS.out.1.lt),by rw [(MapKept.heap_alloc _ _).2 _ (Array.getElem?_eq_some_iff.1 HS.out.2).1];exact HS.out.2⟩;rw [<- hie] at HI0;rw [<- hie];generalize W5.alloc ob5=W6 at *;clear hie hi5 HS HB HO6;go_loopw [2] (fun v wr=>∃ (todo:List (Nat × CndV)) (acc:List Nat),Hid (ownsNums wr (ie+1) v acc)/\Hid (IterAt Tryz.prog 26 u32V candV wr w.heap.size ie (entL cs) todo)/\Hid (Below w.heap.size w wr)/\Hid (SetAt wr lb S/\wr.heap[qc]? = some (.cells #[.map (some lb)] 243))/\Hid (∃ dn,(dn++todo).Perm (entL cs)/\acc=(dn.map (·.1)).filter (fun x=>decide (x ∉ S)))) (fun _ wr=>wr.rangeLeft w.heap.size ie)
     case atStart=>exact ⟨_,[],Lib.hid ⟨rfl, .inl ⟨rfl,rfl⟩⟩,HI0,HB0,HS0,Lib.hid ⟨[],List.Perm.refl _,rfl⟩⟩
     case round=>
      generalize u2=ov at *;obtain ⟨todo,acc,HR1,HI,HB,HS,HA⟩:=hrel;clear HI0 HB0 HS0;generalize wr=W7 at *;have HAL:Hid (acc.length<=12):=Lib.hid (by
       obtain ⟨dn,hp,rfl⟩:=HA.out;have h1:=hp.length_eq;have h2:=List.length_filter_le (fun x=>decide (x ∉ S)) (dn.map (·.1));have h3:=H.out.len;unfold entL at h1;simp only [List.length_append,List.length_map,List.length_reverse] at h1 h2;omega)
      go_wp2_with (at_next;refine wpList_nxt _ rfl _ rfl w.heap.size ie (entL cs) todo rfl HI.out ?_ ?_)
      ·rintro rfl;have HC:=Lib.hid (sort32_any HR1.out HAL.out);go_wp2_with fail
       refine HC.out.mono ?_;rintro e w8 ⟨ts,rfl,hr8,hp8,hs8,ht8⟩;have HQ:Hid (Below w.heap.size w w8/\ownsNums w8 w.heap.size ov R):=Lib.hid (by
        refine ⟨?_,?_⟩
        ·have h0:Turn (fun x=>w.heap.size<=x) w W7:=Turn.ofBelow HB.out;exact (h0.trans ht8 (fun x hx e=>by have:=ownsRow_block HR1.out x (by first | exact e | exact e.symm);have:=HN5.out;have:=HN.out;omega)).below (Nat.le_refl _) (fun _ h=>h)
        ·obtain ⟨dn,hp,rfl⟩:=HA.out;rw [List.append_nil] at hp;rw [<- HR.out,<- pick_law H.out HLATE.out hp hp8 hs8];exact ownsRow_base hr8 (by have:=HN5.out;have:=HN.out;omega))
       clear hr8 hp8 hs8 ht8 HC;go_wp2;go_ret;exact ⟨ov,rfl,HQ.out.1,HQ.out.2⟩
      ·intro kv c na nk rs w1 ob1 hp hal hi1 hen;have hnw:∀ x,x≠ie->(setBlock w1 ie ob1).heap[x]? = W7.heap[x]? := fun x hx=>by
        rcases hal with rfl | rfl
        ·exact heap_setBlock_none _ hx
        ·exact heap_setBlock_none _ hx
       have hb1:Below w.heap.size w (setBlock w1 ie ob1):=by
        have h0:Turn (fun x=>w.heap.size<=x) w W7:=Turn.ofBelow HB.out;have:Turn (fun x=>w.heap.size<=x) w (setBlock w1 ie ob1):=by
         have:=HN.out;have:=HN5.out;rcases hal with rfl | rfl
         ·exact h0.setBlock _ _ (.inl (by omega))
         ·exact h0.drew.setBlock _ _ (.inl (by omega))
        exact this.below (Nat.le_refl _) (fun _ h=>h)
       have HS8:Hid (SetAt (setBlock w1 ie ob1) lb S/\(setBlock w1 ie ob1).heap[qc]? = some (.cells #[.map (some lb)] 243)):=Lib.hid ⟨HS.out.1.kept (hnw _ (by have:=HN.out;have:=HN5.out;omega)),by rw [hnw _ (by have:=HN5.out;omega)];exact HS.out.2⟩;have HR8:Hid (ownsNums (setBlock w1 ie ob1) (ie+1) ov acc):=Lib.hid (ownsRow_heap HR1.out (fun x hx=>hnw x (by have:=ownsRow_block HR1.out x hx;omega)));have HB8:=Lib.hid hb1;have HKV:Hid ((kv,(c,na,nk))∈entL cs):=Lib.hid (by
        obtain ⟨dn,hq,-⟩:=HA.out;exact hq.mem_iff.1 (List.mem_append.2 (.inr (hp.mem_iff.2 (by simp)))))
       have HGV:Hid (Good Tryz.prog 26 (u32V kv)):=Lib.hid (by
        obtain ⟨x,hx,he⟩:=List.mem_map.1 HKV.out;cases he;exact good_u32 (H.out.v32 _ (List.mem_reverse.1 hx)))
       have HI8:=Lib.hid hi1;have HLF:Hid (todo.length=rs.length+1/\W7.rangeLeft w.heap.size ie=todo.length):=Lib.hid ⟨by have:=hp.length_eq;simpa using this,HI.out.left⟩;have HA8:Hid (∃ dn,(dn++[(kv,(c,na,nk))]++rs).Perm (entL cs)/\acc=(dn.map (·.1)).filter (fun x=>decide (x ∉ S))):=Lib.hid (by
        obtain ⟨dn,hq,he⟩:=HA.out;refine ⟨dn,List.Perm.trans ?_ hq,he⟩;rw [List.append_assoc];exact List.Perm.append_left dn (by simpa using hp.symm))
       clear hnw hb1 hp hal hi1 HI HB HS HR1 HA;simp only [u32V] at hen;generalize setBlock w1 ie ob1=W8 at *;have q0:W8.cell? ⟨qc,0,none⟩=some (.map (some lb)):=by rw [cells_cell HS8.out.2];rfl
       have HU9:Hid (Below W8.heap.size W8 (W8.alloc (.cells #[] 245))):=Lib.hid ((Below.refl _ _).alloc (Nat.le_refl _) _);have HS9:Hid (SetAt (W8.alloc (.cells #[] 245)) lb S/\(W8.alloc (.cells #[] 245)).heap[qc]? = some (.cells #[.map (some lb)] 243)):=Lib.hid ⟨HS8.out.1.kept (HU9.out.block _ HS8.out.1.lt),(HU9.out.block _ (Array.getElem?_eq_some_iff.1 HS8.out.2).1).trans HS8.out.2⟩;have HI9:Hid (IterAt Tryz.prog 26 u32V candV (W8.alloc (.cells #[] 245)) w.heap.size ie (entL cs) rs):=Lib.hid (HI8.out.kept (HU9.out.block _ HI8.out.map.lt) (HU9.out.block _ HI8.out.lt));have HB9:Hid (Below w.heap.size w (W8.alloc (.cells #[] 245))):=Lib.hid (HB8.out.trans (HU9.out.mono HB8.out.size));have HR9:Hid (ownsNums (W8.alloc (.cells #[] 245)) (ie+1) ov acc):=Lib.hid (ownsRow_below HR8.out HU9.out);have HLE:Hid (ie+1<=(W8.alloc (.cells #[] 245)).heap.size/\acc.length<=100000):=Lib.hid ⟨HI9.out.lt,by have:=HAL.out;omega⟩;by_cases hlt:kv∈S
       ·have HDN:Hid (decide (kv∈S)=true):=Lib.hid (decide_eq_true hlt);have HA9:Hid (∃ dn,(dn++rs).Perm (entL cs)/\acc=(dn.map (·.1)).filter (fun x=>decide (x ∉ S))):=Lib.hid (by
         obtain ⟨dn,hq,he⟩:=HA8.out;refine ⟨_,hq,?_⟩;rw [List.map_append,List.filter_append,<- he];simp [hlt])
        have HME:Hid ((W8.alloc (.cells #[] 245)).rangeLeft w.heap.size ie < W7.rangeLeft w.heap.size ie):=Lib.hid (by have:=HLF.out;rw [HI9.out.left];omega);clear hlt HA8;go_wp2_with (at_lookup;refine wpList_look _ rfl _ _ _ _ rfl 245 keyed_u32 u32_inj Tryz.underlying243 (HZU.out _) lb _ rfl HS8.out.1 kv rfl HGV.out ?_;rw [set_val,set_has];try rw [HDN.out])
        go_roundw
        case rel=>exact ⟨rs,acc,HR9,HI9,HB9,HS9,HA9⟩
        case measure=>exact HME.out
       ·have HDN:Hid (decide (kv∈S)=false):=Lib.hid (decide_eq_false hlt);have HA9:Hid (∃ dn,(dn++rs).Perm (entL cs)/\acc++[kv]=(dn.map (·.1)).filter (fun x=>decide (x ∉ S))):=Lib.hid (by
         obtain ⟨dn,hq,he⟩:=HA8.out;refine ⟨_,hq,?_⟩;rw [List.map_append,List.filter_append,<- he];simp [hlt])
        clear hlt HA8;obtain ⟨oa,ok,rfl⟩:=ownsRow_slice HR9.out;go_wp2_with (first | (at_lookup;refine wpList_look _ rfl _ _ _ _ rfl 245 keyed_u32 u32_inj Tryz.underlying243 (HZU.out _) lb _ rfl HS8.out.1 kv rfl HGV.out ?_;rw [set_val,set_has];try rw [HDN.out]) | (at_builtin;refine wpList_append_num rfl _ _ rfl (ie+1) _ acc rfl HR9.out kv 1 (by simp [go_sem]) HLE.out.2 HLE.out.1 ?_;intro v5 w5 h5 ha))
        obtain ⟨⟨q1,q2,q3,q4,q5⟩,-⟩:=ha;have hsz:((W8.alloc (.cells #[] 245)).alloc (.cells #[.int .u32 (kv:Int)] 26)).heap.size=(W8.alloc (.cells #[] 245)).heap.size+1:=by simp
        have hlt:=HLE.out.1;have hblk:∀ x,x<=ie->w5.heap[x]? = (W8.alloc (.cells #[] 245)).heap[x]? := fun x hx=>by
         rw [q5 x (by rw [hsz];omega) (fun e=>by have:=ownsRow_block HR9.out x (by first | exact e | exact e.symm);omega)];exact (MapKept.heap_alloc _ _).2 _ (by omega)
        have hN:=HN.out;have hN5:=HN5.out;have HI10:Hid (IterAt Tryz.prog 26 u32V candV w5 w.heap.size ie (entL cs) rs):=Lib.hid (HI9.out.kept (hblk _ (by omega)) (hblk _ (Nat.le_refl _)));have HB10:Hid (Below w.heap.size w w5):=Lib.hid (HB9.out.trans ⟨by rw [q1];rfl,by rw [q2];rfl,by rw [q3];rfl,by rw [hsz] at q4;omega,fun k hk=>hblk k (by omega)⟩);have HS10:Hid (SetAt w5 lb S/\w5.heap[qc]? = some (.cells #[.map (some lb)] 243)):=Lib.hid ⟨HS9.out.1.kept (hblk _ (by omega)),(hblk _ (by omega)).trans HS9.out.2⟩;have HR10:=Lib.hid h5;have HME:Hid (w5.rangeLeft w.heap.size ie < W7.rangeLeft w.heap.size ie):=Lib.hid (by have:=HLF.out;rw [HI10.out.left];omega);clear q1 q2 q3 q4 q5 hsz hlt hblk hN hN5 h5;go_roundw
        case rel=>exact ⟨rs,acc++[kv],HR10,HI10,HB10,HS10,HA9⟩
        case measure=>exact HME.out
    ·intro kv c na nk rs w1 ob1 hp hal hi1 hen;have hnw:∀ x,x≠ib->(setBlock w1 ib ob1).heap[x]? = W5.heap[x]? := fun x hx=>by
      rcases hal with rfl | rfl
      ·exact heap_setBlock_none _ hx
      ·exact heap_setBlock_none _ hx
     have hb1:Below w.heap.size w (setBlock w1 ib ob1):=by
      have h0:Turn (fun x=>w.heap.size<=x) w W5:=Turn.ofBelow HB.out;have:Turn (fun x=>w.heap.size<=x) w (setBlock w1 ib ob1):=by
       have:=HN.out;rcases hal with rfl | rfl
       ·exact h0.setBlock _ _ (.inl (by omega))
       ·exact h0.drew.setBlock _ _ (.inl (by omega))
      exact this.below (Nat.le_refl _) (fun _ h=>h)
     have HS6:Hid (SetAt (setBlock w1 ib ob1) lb S/\(setBlock w1 ib ob1).heap[qc]? = some (.cells #[.map (some lb)] 243)):=Lib.hid ⟨HS.out.1.kept (hnw _ (by have:=HN.out;omega)),by rw [hnw _ (by have:=HN.out;omega)];exact HS.out.2⟩;have HB6:=Lib.hid hb1;have HPP:=Lib.hid hp;have HKV:Hid ((kv,(c,na,nk))∈entL cs):=Lib.hid (HP.out.mem_iff.1 (List.mem_append.2 (.inr (hp.mem_iff.2 (by simp)))));have HI6:=Lib.hid hi1;have HLF:Hid (todo.length=rs.length+1/\W5.rangeLeft w.heap.size ib=todo.length):=Lib.hid ⟨by have:=hp.length_eq;simpa using this,HI.out.left⟩;clear hnw hb1 hp hal hi1 HI HB HS;generalize setBlock w1 ib ob1=W6 at *;have HPC:Hid ((c,na,nk)∈cs/\kv=c.v):=Lib.hid (by
      obtain ⟨x,hx,he⟩:=List.mem_map.1 HKV.out;cases he;exact ⟨List.mem_reverse.1 hx,rfl⟩)
     have HNR:=Lib.hid (H.out.near _ HPC.out.1);have HA7:Hid (Below W6.heap.size W6 (W6.alloc (.cells #[.int .u32 (c.v:Int), .int .u64 (c.k:Int), .slice na c.n.length nk] 181))/\(W6.alloc (.cells #[.int .u32 (c.v:Int), .int .u64 (c.k:Int), .slice na c.n.length nk] 181)).heap[W6.heap.size]? = some (.cells #[.int .u32 (c.v:Int), .int .u64 (c.k:Int), .slice na c.n.length nk] 181)):=Lib.hid ⟨(Below.refl _ _).alloc (Nat.le_refl _) _,heap_alloc_new _ _⟩;have HI7:Hid (IterAt Tryz.prog 26 u32V candV (W6.alloc (.cells #[.int .u32 (c.v:Int), .int .u64 (c.k:Int), .slice na c.n.length nk] 181)) w.heap.size ib (entL cs) rs):=Lib.hid (HI6.out.kept (HA7.out.1.block _ HI6.out.map.lt) (HA7.out.1.block _ HI6.out.lt));have HB7:Hid (Below w.heap.size w (W6.alloc (.cells #[.int .u32 (c.v:Int), .int .u64 (c.k:Int), .slice na c.n.length nk] 181))):=Lib.hid (HB6.out.trans (HA7.out.1.mono HB6.out.size));have HS7:Hid (SetAt (W6.alloc (.cells #[.int .u32 (c.v:Int), .int .u64 (c.k:Int), .slice na c.n.length nk] 181)) lb S/\(W6.alloc (.cells #[.int .u32 (c.v:Int), .int .u64 (c.k:Int), .slice na c.n.length nk] 181)).heap[qc]? = some (.cells #[.map (some lb)] 243)):=Lib.hid ⟨HS6.out.1.kept (HA7.out.1.block _ HS6.out.1.lt),(HA7.out.1.block _ (Array.getElem?_eq_some_iff.1 HS6.out.2).1).trans HS6.out.2⟩;obtain ⟨ab,hab⟩:∃ x,x=W6.heap.size:=⟨_,rfl⟩;have HAB:Hid ((W6.alloc (.cells #[.int .u32 (c.v:Int), .int .u64 (c.k:Int), .slice na c.n.length nk] 181)).heap[ab]? = some (.cells #[.int .u32 (c.v:Int), .int .u64 (c.k:Int), .slice na c.n.length nk] 181)/\ab≠lb):=Lib.hid ⟨by rw [hab];exact HA7.out.2,by have:=HS6.out.1.lt;omega⟩;clear HI6 HB6 HS6;go_wp2_with fail
     rw [<- hab];generalize W6.alloc (.cells #[.int .u32 (c.v:Int), .int .u64 (c.k:Int), .slice na c.n.length nk] 181)=W7 at *;clear hab HA7 hen;go_loopw [51] (fun vk wr=>∃ (k:Nat) (S':List Nat),vk=.int .i64 (k:Int)/\k<=c.n.length/\Hid (IterAt Tryz.prog 26 u32V candV wr w.heap.size ib (entL cs) rs)/\Hid (Below w.heap.size w wr)/\Hid (SetAt wr lb S'/\wr.heap[qc]? = some (.cells #[.map (some lb)] 243))/\Hid (wr.heap[ab]? = some (.cells #[.int .u32 (c.v:Int), .int .u64 (c.k:Int), .slice na c.n.length nk] 181)/\ab≠lb)/\Hid (∀ z,z∈S' ↔ z∈S\/∃ y∈c.n.take k,∃ b∈cs,b.1.v=y/\MetC c b.1 z)) (fun vk _=>c.n.length - (intOf vk).toNat)
     case atStart=>exact ⟨0,S,rfl,Nat.zero_le _,HI7,HB7,HS7,HAB,Lib.hid (by simp)⟩
     case round=>
      obtain ⟨k,S',rfl,hk,HI8,HB8,HS8,HA8,HZ8⟩:=hrel;clear HI7 HB7 HS7 HAB;generalize wr=W8 at *;by_cases hkt:k < c.n.length
      ·have hkz:(k:Int) < (c.n.length:Int):=by omega
       obtain ⟨g,rfl,hcl⟩:∃ g,na=some ⟨g,0,none⟩/\c.n.length<=maxLen:=by
        obtain ⟨-,⟨h1,h2⟩ | ⟨g,cap,_,h1,_,_,hnc,hcm,_⟩⟩:=HNR.out.1
        ·omega
        ·cases h1;exact ⟨g,rfl,by omega⟩
       unfold maxLen at hcl;have wk:IntKind.i64.wrap ((k:Int)+1)=((k+1:Nat):Int):=by rw [wrap_in]<;>omega
       obtain ⟨y,hy⟩:∃ x,c.n[k]? = some x:=⟨_,List.getElem?_eq_getElem hkt⟩;have HY:=Lib.hid hy;have HGY:=Lib.hid (good_u32 (HNR.out.2 y (List.mem_of_getElem? hy)));have q0:=ownsNums_cell (ownsRow_below HNR.out.1 HB8.out) hy;have a0:W8.cell? ⟨ab,0,none⟩=some (.int .u32 (c.v:Int)):=by rw [cells_cell HA8.out.1];rfl
       have a1:W8.cell? ⟨ab,1,none⟩=some (.int .u64 (c.k:Int)):=by rw [cells_cell HA8.out.1];rfl
       have a2:W8.cell? ⟨ab,2,none⟩=some (.slice (some ⟨g,0,none⟩) c.n.length nk):=by rw [cells_cell HA8.out.1];rfl
       obtain ⟨⟨b,nb,nbk⟩,hp,hpv,hget⟩ | ⟨hget,hno⟩:=entL_get H.out y
       ·have HGET:=Lib.hid hget;have HPB:=Lib.hid (show (b,nb,nbk)∈cs/\b.v=y from ⟨hp,hpv⟩);clear hp hpv hget hy;have HB9:Hid (Below W8.heap.size W8 (W8.alloc (.cells #[.int .u32 (b.v:Int), .int .u64 (b.k:Int), .slice nb b.n.length nbk] 181))):=Lib.hid ((Below.refl _ _).alloc (Nat.le_refl _) _);have HS9:Hid (SetAt (W8.alloc (.cells #[.int .u32 (b.v:Int), .int .u64 (b.k:Int), .slice nb b.n.length nbk] 181)) lb S'/\(W8.alloc (.cells #[.int .u32 (b.v:Int), .int .u64 (b.k:Int), .slice nb b.n.length nbk] 181)).heap[qc]? = some (.cells #[.map (some lb)] 243)):=Lib.hid ⟨HS8.out.1.kept (HB9.out.block _ HS8.out.1.lt),(HB9.out.block _ (Array.getElem?_eq_some_iff.1 HS8.out.2).1).trans HS8.out.2⟩;have e0:=cellB HB9.out a0;have e1:=cellB HB9.out a1;have e2:=cellB HB9.out a2;have HMT:=Lib.hid (meet_any (y:=b) HS9.out.2 HS9.out.1 (by have:=HN.out;omega) c (H.out.v32 _ HPC.out.1) (H.out.v32 _ HPB.out.1) (xa:=some ⟨g,0,none⟩) (xn:=c.n.length) (xc:=nk) (ya:=nb) (yn:=b.n.length) (yc:=nbk));go_wp2_with (at_lookup;refine wpList_look _ rfl _ _ _ _ rfl 181 keyed_u32 u32_inj Tryz.underlying241 (HZ.out _) w.heap.size _ rfl HI8.out.map y rfl HGY.out ?_;unfold mhas;rw [HGET.out];simp only [Option.map_some,Option.getD_some,Option.isSome_some])
        refine HMT.out.mono ?_;rintro e w9 ⟨S9,rfl,hs9,hz9,ht9,hc9⟩;have hkp:∀ x,x < W8.heap.size->x≠lb->w9.heap[x]? = W8.heap[x]? := fun x hx hne=>by
         exact (ht9.block x (by have:=HB9.out.size;omega) hne).trans (HB9.out.block _ hx)
        have HI10:Hid (IterAt Tryz.prog 26 u32V candV w9 w.heap.size ib (entL cs) rs):=Lib.hid (HI8.out.kept (hkp _ HI8.out.map.lt (by have:=HN.out;omega)) (hkp _ HI8.out.lt (by have:=HN.out;omega)));have HB10:Hid (Below w.heap.size w w9):=Lib.hid (by
         have h0:Turn (fun x=>w.heap.size<=x) w w9:=((Turn.ofBelow HB8.out).alloc _).trans ht9 (fun x _ e=>by have:=HN.out;omega);exact h0.below (Nat.le_refl _) (fun _ h=>h))
        have HS10:=Lib.hid (show _/\_ from ⟨hs9,hc9⟩);have HA10:Hid (w9.heap[ab]? = some (.cells #[.int .u32 (c.v:Int), .int .u64 (c.k:Int), .slice (some ⟨g,0,none⟩) c.n.length nk] 181)/\ab≠lb):=Lib.hid ⟨(hkp _ (Array.getElem?_eq_some_iff.1 HA8.out.1).1 HA8.out.2).trans HA8.out.1,HA8.out.2⟩;have HZ10:Hid (∀ z,z∈S9 ↔ z∈S\/∃ y∈c.n.take (k+1),∃ b∈cs,b.1.v=y/\MetC c b.1 z):=Lib.hid (fun z=>by
         rw [hz9 z,HZ8.out z,take_some_ex HY.out];refine or_congr Iff.rfl ⟨fun h=>⟨_,HPB.out.1,HPB.out.2,h⟩,?_⟩;rintro ⟨b',hb',hv,hm⟩;rw [one_cand H.out hb' HPB.out.1 (hv.trans HPB.out.2.symm)] at hm;exact hm)
        clear hs9 hz9 ht9 hc9 hkp HI8 HB8 HS8 HA8 HZ8 HMT HS9 HB9 a0 a1 a2 e0 e1 e2 q0;go_wp2;go_roundw
        case rel=>exact ⟨k+1,S9,by go_num,by omega,HI10,HB10,HS10,HA10,HZ10⟩
        case measure=>simp [intOf];omega
       ·have HGET:=Lib.hid hget;have HZ10:Hid (∀ z,z∈S' ↔ z∈S\/∃ y∈c.n.take (k+1),∃ b∈cs,b.1.v=y/\MetC c b.1 z):=Lib.hid (fun z=>by
         rw [HZ8.out z,take_some_ex HY.out];refine ⟨.inl,fun h=>h.elim id ?_⟩;rintro ⟨b',hb',hv,-⟩;exact absurd hv (hno _ hb'))
        clear hget hno hy;have HB9:Hid (Below W8.heap.size W8 (W8.alloc (.cells #[.int .u32 0, .int .u64 0, .slice none 0 0] 181))):=Lib.hid ((Below.refl _ _).alloc (Nat.le_refl _) _);have HS10:Hid (SetAt (W8.alloc (.cells #[.int .u32 0, .int .u64 0, .slice none 0 0] 181)) lb S'/\(W8.alloc (.cells #[.int .u32 0, .int .u64 0, .slice none 0 0] 181)).heap[qc]? = some (.cells #[.map (some lb)] 243)):=Lib.hid ⟨HS8.out.1.kept (HB9.out.block _ HS8.out.1.lt),(HB9.out.block _ (Array.getElem?_eq_some_iff.1 HS8.out.2).1).trans HS8.out.2⟩;have HI10:Hid (IterAt Tryz.prog 26 u32V candV (W8.alloc (.cells #[.int .u32 0, .int .u64 0, .slice none 0 0] 181)) w.heap.size ib (entL cs) rs):=Lib.hid (HI8.out.kept (HB9.out.block _ HI8.out.map.lt) (HB9.out.block _ HI8.out.lt));have HB10:Hid (Below w.heap.size w (W8.alloc (.cells #[.int .u32 0, .int .u64 0, .slice none 0 0] 181))):=Lib.hid (HB8.out.trans (HB9.out.mono HB8.out.size));have HA10:Hid ((W8.alloc (.cells #[.int .u32 0, .int .u64 0, .slice none 0 0] 181)).heap[ab]? = some (.cells #[.int .u32 (c.v:Int), .int .u64 (c.k:Int), .slice (some ⟨g,0,none⟩) c.n.length nk] 181)/\ab≠lb):=Lib.hid ⟨(HB9.out.block _ (Array.getElem?_eq_some_iff.1 HA8.out.1).1).trans HA8.out.1,HA8.out.2⟩;clear HZ8 HB9 a0 a1 a2;go_wp2_with (at_lookup;refine wpList_look _ rfl _ _ _ _ rfl 181 keyed_u32 u32_inj Tryz.underlying241 (HZ.out _) w.heap.size _ rfl HI8.out.map y rfl HGY.out ?_;unfold mhas;rw [HGET.out];simp only [Option.map_none,Option.getD_none,Option.isSome_none])
        go_roundw
        case rel=>exact ⟨k+1,S',by go_num,by omega,HI10,HB10,HS10,HA10,HZ10⟩
        case measure=>simp [intOf];omega
      ·have hkz:¬ (k:Int) < (c.n.length:Int):=by omega
       have HPN:Hid (((dn++[(kv,(c,na,nk))])++rs).Perm (entL cs)):=Lib.hid (by
        refine List.Perm.trans ?_ HP.out;rw [List.append_assoc];exact (List.Perm.append_left dn (by simpa using HPP.out.symm)))
       have HZN:Hid (∀ z,z∈S' ↔ ∃ q∈dn++[(kv,(c,na,nk))],∃ b∈cs,b.1.v∈q.2.1.n/\MetC q.2.1 b.1 z):=Lib.hid (fun z=>by
        rw [HZ8.out z,HZS.out z,List.take_of_length_le (by omega)];constructor
        ·rintro (⟨q,hq,r⟩ | ⟨y,hy,b,hb,rfl,hm⟩)
         ·exact ⟨q,List.mem_append.2 (.inl hq),r⟩
         ·exact ⟨(kv,(c,na,nk)),List.mem_append.2 (.inr (by simp)),b,hb,hy,hm⟩
        ·rintro ⟨q,hq,b,hb,h1,h2⟩;rcases List.mem_append.1 hq with hq | hq
         ·exact .inl ⟨q,hq,b,hb,h1,h2⟩
         ·rw [List.mem_singleton] at hq;subst hq;exact .inr ⟨_,h1,b,hb,rfl,h2⟩)
       have HME:Hid (W8.rangeLeft w.heap.size ib < W5.rangeLeft w.heap.size ib):=Lib.hid (by have:=HLF.out;rw [HI8.out.left];omega);clear HZ8 HA8;go_wp2;go_roundw
       case rel=>exact ⟨_,rs,S',HI8,HB8,HS8,HPN,HZN⟩
       case measure=>exact HME.out
end
end
section
open Go.RowKit Go.Maps
open Go.ChangeMaps (setBlock)
abbrev ChosenAt (w:World) (b:Nat) (S:List Nat):Prop:=MapAt Tryz.prog 26 u32V (fun _:Unit=>Value.bool true) w b (S.map fun x=>(x,()))
theorem info_cand:(Tryz.prog.info? 181).map (fun i=>(i.zero,i.size,i.bytes))=some (some (.agg #[.int .u32 0, .int .u64 0, .slice none 0 0]),3,40):=by kernel_rfl
section
variable {w:World} {ops:Array Oper} {rest:List Oper} {op:Oper} {a:Act} {Q:Exit->Act->World->Prop}
theorem wpList_append_cand (hgd:op.guard=none) (s x:Operand) (ho:op.op=.call { callee:=.builtin .append,args:=#[s,x],argTypes:=#[174,174] }) (base:Nat) (v:Value) (l:List CndV) (hs:a.eval s=v) (hown:ownsCands w base v l)
 (y:CndV) (c:Nat) (hx:a.eval x=.slice (some ⟨w.heap.size,0,none⟩) 1 c) (hl:l.length<=100000) (hbase:base<=w.heap.size)
 (k:∀ v' w',ownsCands w' base v' (l++[y])->Appd v (w.alloc (.cells #[.int .u32 (y.1.v:Int), .int .u64 (y.1.k:Int), .slice y.2.1 y.1.n.length y.2.2] 181)) w' v'->wpList Tryz.prog ops Q rest (a.put op.dst v') w') :
 wpList Tryz.prog ops Q (op::rest) a (w.alloc (.cells #[.int .u32 (y.1.v:Int), .int .u64 (y.1.k:Int), .slice y.2.1 y.1.n.length y.2.2] 181)):=by
 refine wpList_append_at hgd s x 174 ho base 181 _ 3 40 Tryz.underlying174 info_cand rfl (by decide) v l.length (candRow l) hs (World.ownsRow.alloc hown _) ⟨w.heap.size,0,none⟩ 1 c [.int .u32 (y.1.v:Int), .int .u64 (y.1.k:Int),nvOf y] hx rfl (fun j u hj=>?_) (by simp [Value.oneCell']) (by unfold maxLen;omega) (by omega) (by simp;omega) (fun v' w' h1 h2=>k v' w' ?_ h2)
 ·rw [Addr_add,Nat.zero_add];match j,hj with
  | 0,hj=>cases hj;simp
  | 1,hj=>cases hj;simp
  | 2,hj=>cases hj;simp
  | j+3,hj=>cases hj
 ·unfold ownsCands;rw [candRow_append,List.length_append];exact h1
end
section
variable {w0 w w' W W':World} {pb db n gb gen N ob ib vb rb:Nat} {o o' o'':Owner} {d d' d'':Dsk} {L:Logic} {es:List Edg} {vs:List Vrt} {lv lv':Value} {cs:List CndV}
structure ChSt (n pb db:Nat) (w:World) (o:Owner) (d:Dsk) (L:Logic) (lv:Value) (cs:List CndV) (W:World) (o':Owner) (d':Dsk):Prop where
 mv:Moved (fun _=>False) n pb db w o d W o' d' L
 row:ownsCands W w.heap.size lv cs
 own:∀ b,lv.ownBlock=some b->o' b=none
 near:∀ p∈cs,ownsNums W w.heap.size (nvOf p) p.1.n/\∀ b,(nvOf p).ownBlock=some b->o' b=none
theorem ChSt.below (h:ChSt n pb db w o d L lv cs W o' d') (hb:Below W.heap.size W W'):ChSt n pb db w o d L lv cs W' o' d':=
 ⟨h.mv.below hb,ownsRow_below h.row hb,h.own,fun p hp=>⟨ownsRow_below (h.near p hp).1 hb,(h.near p hp).2⟩⟩
theorem ChSt.moved (h:ChSt n pb db w o d L lv cs W o' d') (hm:Moved (fun _=>False) n pb db W o' d' W' o'' d'' L):ChSt n pb db w o d L lv cs W' o'' d'':=
 ⟨h.mv.trans hm (fun _ _ e=>e),hm.ownsRow h.row (fun b hb=>⟨h.own b hb,fun e=>e⟩),fun b hb=>hm.free (ownBlock_old h.row b hb).1 (h.own b hb),
  fun p hp=>⟨hm.ownsRow (h.near p hp).1 (fun b hb=>⟨(h.near p hp).2 b hb,fun e=>e⟩),fun b hb=>hm.free (ownBlock_old (h.near p hp).1 b hb).1 ((h.near p hp).2 b hb)⟩⟩
theorem ChSt.appd (h:ChSt n pb db w o d L lv cs W o' d') {y:CndV} {ob:Obj} (hr:ownsCands W' w.heap.size lv' (cs++[y])) (ha:Appd lv (W.alloc ob) W' lv') (hy:ownsNums W w.heap.size (nvOf y) y.1.n) (hyo:∀ b,(nvOf y).ownBlock=some b->o' b=none):ChSt n pb db w o d L lv' (cs++[y]) W' o' d':=by
 obtain ⟨hm,hf,hh,hz⟩:=ha.moved h.mv (fun x hx=>⟨h.own x hx,(ownBlock_old h.row x hx).2⟩);have hk:∀ p:CndV,ownsNums W w.heap.size (nvOf p) p.1.n->ownsNums W' w.heap.size (nvOf p) p.1.n:=fun p hp=>
  ownsRow_heap hp (fun b hb=>hh b (ownBlock_old hp b hb).1 (fun e=>ownsRow_apart hp h.row (by decide) b hb e))
 refine ⟨hm,hr,fun b hb=>(hf b hb).1,fun p hp=>?_⟩;rcases List.mem_append.1 hp with hp | hp
 ·exact ⟨hk p (h.near p hp).1,(h.near p hp).2⟩
 ·rw [List.mem_singleton] at hp;subst hp;exact ⟨hk _ hy,hyo⟩
theorem cands_v {vs:List Vrt} {k:Nat}:∀ c∈(vs.zipIdx k).filterMap (fun p=>if p.1.r=4294967295 then some (candM es p.2 p.1) else none),k<=c.v/\c.v < k+vs.length:=by
 intro c hc;obtain ⟨⟨x,i⟩,hp,he⟩:=List.mem_filterMap.1 hc;have:=List.mem_zipIdx hp;split at he
 ·cases he;unfold candM;exact ⟨this.1,this.2.1⟩
 ·cases he
theorem cands_rise (vs:List Vrt):∀ k,(((vs.zipIdx k).filterMap (fun p=>if p.1.r=4294967295 then some (candM es p.2 p.1) else none)).map (·.v)).Pairwise (· < ·):=by
 induction vs with
 | nil=>intro k;exact List.Pairwise.nil
 | cons x vs ih=>
   intro k;rw [List.zipIdx_cons,List.filterMap_cons];split
   ·exact ih (k+1)
   ·rename_i c hc
    rw [List.map_cons,List.pairwise_cons];refine ⟨fun y hy=>?_,ih (k+1)⟩;obtain ⟨z,hz,rfl⟩:=List.mem_map.1 hy;have h1:=(cands_v z hz).1;simp only at hc;split at hc
    ·cases hc;show k < z.v;omega
    ·cases hc
theorem near_lt {v:Nat} (h:∀ x∈es,x.t.toNat < N/\x.h.toNat < N):∀ y∈nearM es v,y < N:=by
 have hsub:∀ (l acc:List Nat) (y:Nat),y∈l.foldl onceA acc->y∈acc\/y∈l:=by
  intro l;induction l with
  | nil=>intro acc y hy;exact .inl hy
  | cons x l ih=>
    intro acc y hy;rcases ih _ y hy with h1 | h1
    ·rcases onceA_sub acc x y h1 with h2 | rfl
     ·exact .inl h2
     ·exact .inr (by simp)
    ·exact .inr (by simp [h1])
 intro y hy;rw [nearM_eq] at hy;rcases hsub _ _ y hy with h1 | h1
 ·rcases hsub _ _ y h1 with h2 | h2
  ·cases h2
  ·obtain ⟨x,hx,rfl⟩:=List.mem_map.1 h2;exact (h x (outM_sub hx).1).2
 ·obtain ⟨x,hx,rfl⟩:=List.mem_map.1 h1;exact (h x (inM_sub hx).1).1
noncomputable def candsTo (es:List Edg) (vs:List Vrt) (j:Nat):List Cnd:=candsM es (vs.take j)
theorem candsTo_all (es:List Edg) (vs:List Vrt) {j:Nat} (h:vs.length<=j):candsTo es vs j=candsM es vs:=by unfold candsTo;rw [List.take_of_length_le h]
theorem candsTo_succ (es:List Edg) (vs:List Vrt) {j:Nat} {x:Vrt} (h:vs[j]? = some x):candsTo es vs (j+1)=candsTo es vs j++if x.r=4294967295 then [candM es j x] else []:=by
 obtain ⟨hl,rfl⟩:=List.getElem?_eq_some_iff.1 h;unfold candsTo candsM;rw [List.take_succ_eq_append_getElem hl,List.zipIdx_append,List.filterMap_append];congr 1;simp only [List.zipIdx_cons,List.zipIdx_nil,List.filterMap_cons,List.filterMap_nil,List.length_take,Nat.zero_add,Nat.min_eq_left (Nat.le_of_lt hl)];split<;>simp_all
theorem candsTo_le (es:List Edg) (vs:List Vrt) (j:Nat):(candsTo es vs j).length<=(candsM es vs).length:=by
 unfold candsTo;have h:candsM es vs=candsM es (vs.take j++vs.drop j):=by rw [List.take_append_drop]
 rw [h];unfold candsM;rw [List.zipIdx_append,List.filterMap_append,List.length_append];omega
theorem ChSt.pick (h:ChSt n pb db w o d L lv cs W o' d') (he:cs.map (·.1)=candsM es vs) (hn:∀ x∈es,x.t.toNat < vs.length/\x.h.toNat < vs.length) (hv:vs.length<=1000) (hl:(candsM es vs).length<=12):PickIn W w.heap.size lv cs:=by
 have hmem:∀ p∈cs,p.1∈candsM es vs:=fun p hp=>by rw [<- he];exact List.mem_map.2 ⟨p,hp,rfl⟩
 refine ⟨h.row,fun p hp=>⟨ownsRow_base (h.near p hp).1 (Nat.zero_le _),fun y hy=>?_⟩,fun p hp=>?_,?_,?_⟩
 ·obtain ⟨⟨x,i⟩,-,hq⟩:=List.mem_filterMap.1 (hmem p hp);split at hq
  ·have hq:=Option.some.inj hq;rw [<- hq] at hy;have:=near_lt hn y hy;omega
  ·cases hq
 ·have:=(cands_v _ (hmem p hp)).2;omega
 ·have:=cands_rise (es:=es) vs 0;rw [show cs.map (·.1.v)=(cs.map (·.1)).map (·.v) by rw [List.map_map];rfl,he];exact this
 ·rw [<- List.length_map (f:=(·.1)),he];exact hl
end
end
section
open Go.RowKit Go.Maps
theorem pick_mem {cs:List Cnd} {v:Nat}:v∈pickM cs ↔ (∃ c∈cs,c.v=v)/\¬ LateC cs v:=by
 unfold pickM;rw [List.mem_filter,List.mem_map];simp
theorem cand_mem {es:List Edg} {vs:List Vrt} {c:Cnd}:c∈candsM es vs ↔ ∃ (i:Nat) (x:Vrt),vs[i]? = some x/\x.r=4294967295/\c=candM es i x:=by
 unfold candsM;rw [List.mem_filterMap];constructor
 ·rintro ⟨⟨x,i⟩,hp,he⟩;rw [List.mem_zipIdx_iff_getElem?] at hp;simp only at hp he;split at he
  ·rename_i hr
   exact ⟨i,x,hp,hr,(Option.some.inj he).symm⟩
  ·cases he
 ·rintro ⟨i,x,hx,hr,rfl⟩;exact ⟨(x,i),by rw [List.mem_zipIdx_iff_getElem?];exact hx,by simp [hr]⟩
theorem chosen_cand {es:List Edg} {vs:List Vrt} {v:Nat} (h:v∈chosenM es vs):∃ x,vs[v]? = some x/\x.r=4294967295/\candM es v x∈candsM es vs:=by
 obtain ⟨⟨c,hc,rfl⟩,-⟩:=pick_mem.1 h;obtain ⟨i,x,h1,h2,rfl⟩:=cand_mem.1 hc;exact ⟨x,h1,h2,hc⟩
theorem chosen_lt {es:List Edg} {vs:List Vrt} {v:Nat} (h:v∈chosenM es vs):v < vs.length:=by
 obtain ⟨x,h1,-⟩:=chosen_cand h;exact lt_of_get h1
theorem chosen_rise (es:List Edg) (vs:List Vrt):(chosenM es vs).Pairwise (· < ·):=by
 have key:∀ (vs:List Vrt) (k:Nat),(((vs.zipIdx k).filterMap fun p=>if p.1.r=4294967295 then some (candM es p.2 p.1) else none).map (·.v)).Pairwise (· < ·)/\∀ v∈((vs.zipIdx k).filterMap fun p=>if p.1.r=4294967295 then some (candM es p.2 p.1) else none).map (·.v),k<=v:=by
  intro vs;induction vs with
  | nil=>intro k;exact ⟨List.Pairwise.nil,fun v h=>by cases h⟩
  | cons x vs ih=>
    intro k;obtain ⟨h1,h2⟩:=ih (k+1);rw [List.zipIdx_cons,List.filterMap_cons];by_cases hx:x.r=4294967295
    ·simp only [hx,if_true,List.map_cons,List.pairwise_cons,List.mem_cons];refine ⟨⟨fun y hy=>?_,h1⟩,?_⟩
     ·have:=h2 y hy;show k < y;omega
     ·rintro y (rfl | hy)
      ·exact Nat.le_refl _
      ·have:=h2 y hy;omega
    ·simp only [hx,if_false];exact ⟨h1,fun v hv=>by have:=h2 v hv;omega⟩
 unfold chosenM pickM candsM;exact (key vs 0).1.filter _
end
section
open Go.RowKit Go.Maps
open Go.ChangeMaps (setBlock)
section
variable {w0 w w' W W':World} {pb db n gb gen N ob ib vb rb done base:Nat} {o o' o'':Owner} {d d' d'':Dsk} {L:Logic} {es:List Edg} {vs:List Vrt} {lv lv' vv x4 x5:Value} {cs:List CndV}
def ChoosePost (n pb db:Nat) (w:World) (o:Owner) (d:Dsk) (L:Logic) (rb gb gen done:Nat) (vv:Value) (ch:List Nat) (e:Ending) (w':World):Prop:=
 ∃ mb ov S d' o',e=.returned (.int .i64 0)/\Moved (·=rb) n pb db w o d w' o' d' L/\RndAt w' rb pb gb gen done (.map (some mb)) ov vv/\ownsNums w' w.heap.size ov ch/\(∀ b,ov.ownBlock=some b->o' b=none)/\ChosenAt w' mb S/\w.heap.size<=mb/\o' mb=none/\∀ z,z∈S ↔ z∈ch
theorem ownsVrts_cells {w:World} {base g cap i:Nat} {l:List Vrt} {x:Vrt} (h:ownsVrts w base (.slice (some ⟨g,0,none⟩) l.length cap) l) (hi:l[i]? = some x) :
 w.cell? ⟨g,i*3,none⟩=some (.int .u32 (x.r.toNat:Int))/\w.cell? ⟨g,i*3+1,none⟩=some (.int .u32 (x.l.toNat:Int))/\w.cell? ⟨g,i*3+2,none⟩=some (.int .u32 (x.g.toNat:Int)):=by
 have hc:∀ (j:Nat) (u:Value),(vrtRow l)[j]? = some u->w.cell? ⟨g,j,none⟩=some u:=fun j u hj=>by
  have:=World.ownsRow.cells h (g:=g) rfl j u hj;rwa [Addr_add,Nat.zero_add] at this
 refine ⟨hc _ _ ?_,hc _ _ ?_,hc _ _ ?_⟩
 ·have:=vrtRow_get hi (j:=0) (by decide);rw [Nat.add_zero] at this;rw [this];rfl
 ·rw [vrtRow_get hi (by decide)];rfl
 ·rw [vrtRow_get hi (by decide)];rfl
theorem keyN_eq (i o s:Nat) (x:Vrt):keyP (i:Int) (o:Int) (s:Int) (x.l.toNat:Int) (x.g.toNat:Int)=(keyN i o s x:Int):=by
 unfold keyN;have:0<=keyP (i:Int) (o:Int) (s:Int) (x.l.toNat:Int) (x.g.toNat:Int):=by unfold keyP;omega
 omega
set_option maxRecDepth 100000 in
set_option maxHeartbeats 16000000 in
theorem roundChoose_any (HW:WriteSaid) (h:NetIn w0 w pb db n o d L gb gen vs.length ob ib vb es) (hr:RndAt w rb pb gb gen done x4 x5 vv) (hro:RndOf w0 w o rb gb ob ib vb) (hvv:ownsVrts w base vv vs) (hvo:∀ b,vv.ownBlock=some b->o b=none)
 (hdeg:∀ v,v < vs.length->(inM es v).length*(outM es v).length<=100000) (hlen:(candsM es vs).length<=12) :
 Calls Tryz.prog 64 #[ptrTo rb] w (ChoosePost n pb db w o d L rb gb gen done vv (chosenM es vs)):=by
 obtain ⟨va,vk,rfl⟩:=ownsRow_slice hvv;have H:=Lib.hid h;have HR:=Lib.hid hr;have HRO:=Lib.hid hro;have HVV:=Lib.hid hvv;have HVO:=Lib.hid hvo;have HD:=Lib.hid hdeg;have HLEN:=Lib.hid hlen;have hmk:∀ (t:TypeId) (W:World),(Instr.makeMap t none).run Tryz.prog W=.ok (.map (some W.heap.size)) (W.alloc (.map #[] 0)):=fun _ _=>rfl;have hrf:∀ args W,Sem.run Tryz.prog (callFunc 21 args) W=.ok (.enter 21 args) W:=fun _ _=>rfl;obtain ⟨R,hR⟩:∃ R,R=ChoosePost n pb db w o d L rb gb gen done (.slice va vs.length vk) (chosenM es vs):=⟨_,rfl⟩;have HRP:=Lib.hid hR;rw [<- hR];obtain ⟨M,hM⟩:∃ M,M=vs.length:=⟨_,rfl⟩;have HM:Hid (M=vs.length/\M<=1000):=Lib.hid ⟨hM,by rw [hM];exact h.top⟩;have HS0:Hid (ChSt n pb db w o d L (.slice none 0 0) [] w o d):=Lib.hid ⟨Moved.refl _ h.held.pool,World.ownsRow_nil _ _ _ _,(fun b e=>by cases e),fun p hp=>by cases hp⟩;obtain ⟨c0,c1,c2,c3,c4,c5,c6,f6⟩:=hr.cells;have hrl:=hr.lt;rw [<- hM] at c6;clear h hr hro hvv hvo hdeg hlen hR hM c0 c2 c3 c4 c5;unfold ptrTo at *;go_enter Tryz.func64,Tryz.ntmps64
 go_wp2_with fail
 clear c1 c6 f6;go_loopw [3,18] (fun lv vi wr=>∃ (j:Nat) (cs:List CndV) (o':Owner) (d':Dsk),vi=.int .i64 (j:Int)/\j<=M/\Hid (cs.map (·.1)=candsTo es vs j)/\Hid (ChSt n pb db w o d L lv cs wr o' d')) (fun _ vi _=>M - (intOf vi).toNat)
 case atStart=>exact ⟨0,[],o,d,rfl,Nat.zero_le _,Lib.hid rfl,HS0⟩
 case round=>
  generalize u3=lv at *;obtain ⟨j,cs,o1,d1,rfl,hj,HCS,HS⟩:=hrel;clear HS0;generalize wr=W1 at *;by_cases hlt:j < M
  ·have hjz:(j:Int) < (M:Int):=by omega
   have wj:IntKind.i64.wrap ((j:Int)+1)=((j+1:Nat):Int):=by have:=HM.out;rw [wrap_in]<;>omega
   have wu:IntKind.u32.wrap (j:Int)=(j:Int):=by have:=HM.out;exact wraps_u32 _ (by omega) (by omega)
   obtain ⟨x,hx⟩:∃ x,vs[j]? = some x:=⟨_,List.getElem?_eq_getElem (by have:=HM.out;omega)⟩;have HX:=Lib.hid hx;obtain ⟨g,rfl⟩:∃ g,va=some ⟨g,0,none⟩:=by
    obtain ⟨-,⟨h1,h2⟩ | ⟨g,_,_,h1,_⟩⟩:=HVV.out
    ·have:=HM.out;omega
    ·cases h1;exact ⟨g,rfl⟩
   have hrow:ownsVrts W1 base (.slice (some ⟨g,0,none⟩) vs.length vk) vs:=HS.out.mv.ownsRow HVV.out (fun b hb=>⟨HVO.out b hb,fun e=>e⟩);obtain ⟨q0,q1,q2⟩:=ownsVrts_cells hrow hx;clear hrow hx;have HS2:=Lib.hid (HS.out.below ((Below.refl _ _).alloc (Nat.le_refl _) (.cells #[.int .u32 (x.r.toNat:Int), .int .u32 (x.l.toNat:Int), .int .u32 (x.g.toNat:Int)] 55)));by_cases hrk:(x.r.toNat:Int)=4294967295
   ·have hkb:((x.r.toNat:Int) == 4294967295)=true:=by rw [beq_iff_eq];exact hrk
    have HK:=Lib.hid (show x.r=4294967295 from UInt32.toNat_inj.1 (by rw [show (4294967295:UInt32).toNat=4294967295 from rfl];omega));clear hrk;obtain ⟨V,hV⟩:∃ V,V=UInt32.ofNat j:=⟨_,rfl⟩;have hVj:V.toNat=j:=by rw [hV,UInt32.toNat_ofNat'];have:=HM.out;exact Nat.mod_eq_of_lt (by omega)
    have HV:=Lib.hid (show V=UInt32.ofNat j/\V.toNat=j from ⟨hV,hVj⟩);have HR2:Hid (RndAt (W1.alloc (.cells #[.int .u32 (x.r.toNat:Int), .int .u32 (x.l.toNat:Int), .int .u32 (x.g.toNat:Int)] 55)) rb pb gb gen done x4 x5 (.slice (some ⟨g,0,none⟩) vs.length vk)):=Lib.hid (HR.out.moved HRO.out.free HS2.out.mv);have HB2:Hid ((W1.alloc (.cells #[.int .u32 (x.r.toNat:Int), .int .u32 (x.l.toNat:Int), .int .u32 (x.g.toNat:Int)] 55)).heap[W1.heap.size]? = some (.cells #[.int .u32 (x.r.toNat:Int), .int .u32 (x.l.toNat:Int), .int .u32 (x.g.toNat:Int)] 55)/\o1 W1.heap.size=none):=Lib.hid ⟨heap_alloc_new _ _,HS.out.mv.pool.fresh (Nat.le_refl _)⟩;have HF2:Hid (o1 rb=none):=Lib.hid (HS.out.mv.free HRO.out.lt HRO.out.free);clear hV HS;go_wp2_with fail
    obtain ⟨xb,hxb⟩:∃ b,b=W1.heap.size:=⟨_,rfl⟩;rw [<- hxb] at HB2;rw [<- hxb];generalize W1.alloc (.cells #[.int .u32 (x.r.toNat:Int), .int .u32 (x.l.toNat:Int), .int .u32 (x.g.toNat:Int)] 55)=W2 at *;clear hxb q0 q1 q2;have HC:Hid (∀ W',(∃ o' d',Moved (fun _=>False) n pb db W2 o1 d1 W' o' d' L)->Calls Tryz.prog 97 #[outFn gb,inFn gb, .int .u32 (j:Int)] W' fun e w''=>e=.returned (.tuple #[.int .i64 ((inM es j).length:Int), .int .i64 ((outM es j).length:Int), .int .i64 ((cutsM (outM es) (fun _=>false) (inM es j) V).length:Int), .int .i64 0])/\∃ o' d',Moved (fun _=>False) n pb db W2 o1 d1 w'' o' d' L):=Lib.hid (by
     rintro W' ⟨o',d',hm⟩;have:=count_any18 HW ((H.out.moved HS2.out.mv).moved hm) V (by rw [HV.out.2];have:=HM.out;omega) (by rw [HV.out.2];exact HD.out j (by have:=HM.out;omega));rw [HV.out.2] at this;refine this.mono ?_;rintro e w'' ⟨d'',o'',rfl,hm'⟩;exact ⟨rfl,o'',d'',hm.trans hm' (fun _ _ e=>e)⟩)
    have HCE:Hid (∀ W',(∃ o' d',Moved (fun _=>False) n pb db W2 o1 d1 W' o' d' L)->W'.cell? ⟨rb,1,none⟩=some (ptrTo gb)):=Lib.hid (by
     rintro W' ⟨o',d',hm⟩;exact (HR2.out.moved HF2.out hm).cells.2.1)
    unfold outFn inFn ptrTo at *;refine wp_region_quiet_in (fun W'=>∃ o' d',Moved (fun _=>False) n pb db W2 o1 d1 W' o' d' L) (by kernel_rfl) (by kernel_rfl) ⟨o1,d1,(Moved.refl _ HS2.out.mv.pool).drew⟩ ?_;iterate 3 (refine qo (fun K hK=>?_);go_simp;refine hK _ ?_;clear hK K)
    refine qo (fun K hK=>?_) (fun w' hw'=>by have hc:=HCE.out _ hw';go_simp<;>rfl);go_simp;refine hK _ ?_;clear hK K;iterate 4 (refine qo (fun K hK=>?_);go_simp;refine hK _ ?_;clear hK K)
    refine qo (fun K hK=>?_) (fun w' hw'=>by have hc:=HCE.out _ hw';go_simp<;>rfl);go_simp;refine hK _ ?_;clear hK K;iterate 2 (refine qo (fun K hK=>?_);go_simp;refine hK _ ?_;clear hK K)
    refine qo (fun K hK=>?_) (fun w' hw'=>by have hx:=wu;go_simp<;>rfl);go_simp;refine hK _ ?_;clear hK K;refine qc (fun w' hw'=>HC.out _ hw') (fun K hK=>?_);go_simp;refine hK _ ?_;clear hK K;iterate 9 (refine qo (fun K hK=>?_);go_simp;refine hK _ ?_;clear hK K)
    refine wpQuiet_nil ?_;rintro W3 ⟨o3,d3,hm3⟩;have HS3:=Lib.hid (HS2.out.moved hm3);have HR3:Hid (RndAt W3 rb pb gb gen done x4 x5 (.slice (some ⟨g,0,none⟩) vs.length vk)/\o3 rb=none):=Lib.hid ⟨HR2.out.moved HF2.out hm3,hm3.free HR2.out.lt HF2.out⟩;have HB3:Hid (W3.heap[xb]? = some (.cells #[.int .u32 (x.r.toNat:Int), .int .u32 (x.l.toNat:Int), .int .u32 (x.g.toNat:Int)] 55)/\o3 xb=none):=Lib.hid ⟨hm3.heap HB2.out.1 HB2.out.2 (fun e=>e),hm3.free (Array.getElem?_eq_some_iff.1 HB2.out.1).1 HB2.out.2⟩;have hnear:=Lib.hid (near_any HW ((H.out.moved HS2.out.mv).moved hm3) j (by have:=HM.out;omega) HR3.out.1 rfl HR3.out.2);clear HC HCE HS2 HR2 HB2 HF2 hm3;have HCAND:Hid (candM es j x=⟨j,keyN (inM es j).length (outM es j).length (cutsM (outM es) (fun _=>false) (inM es j) V).length x,nearM es j⟩):=Lib.hid (by unfold candM;rw [<- HV.out.1]);generalize (inM es j).length=n1 at *;generalize (outM es j).length=n2 at *;generalize (cutsM (outM es) (fun _=>false) (inM es j) V).length=n3 at *;unfold ptrTo at *;go_wp2_with fail
    refine hnear.out.mono ?_;rintro e w4 ⟨nv,d4,o4,rfl,hm4,hr4,ho4⟩;obtain ⟨na,nk,rfl⟩:=ownsRow_slice hr4;have HS4:=Lib.hid (HS3.out.moved hm4);have HN4:Hid (ownsNums w4 w.heap.size (.slice na (nearM es j).length nk) (nearM es j)/\∀ b,(Value.slice na (nearM es j).length nk).ownBlock=some b->o4 b=none):=Lib.hid ⟨ownsRow_base hr4 HS3.out.mv.size,ho4⟩;have hb4:=hm4.heap HB3.out.1 HB3.out.2 (fun e=>e);have k0:w4.cell? ⟨xb,0,none⟩=some (.int .u32 (x.r.toNat:Int)):=by rw [cells_cell hb4];rfl
    have k1:w4.cell? ⟨xb,1,none⟩=some (.int .u32 (x.l.toNat:Int)):=by rw [cells_cell hb4];rfl
    have k2:w4.cell? ⟨xb,2,none⟩=some (.int .u32 (x.g.toNat:Int)):=by rw [cells_cell hb4];rfl
    have hkey:=Lib.hid (fun W=>prioKey_any (n1:Int) (n2:Int) (n3:Int) (x.r.toNat:Int) (x.l.toNat:Int) (x.g.toNat:Int) W (by omega) (by have:=x.l.toNat_lt;omega) (by omega) (by have:=x.g.toNat_lt;omega));rw [keyN_eq] at hkey;clear hnear hm4 hr4 ho4 hb4 HS3 HR3 HB3;generalize keyN n1 n2 n3 x=K at *;have HCS6:Hid ((cs++[((⟨j,K,nearM es j⟩:Cnd),(na,nk))]).map (·.1)=candsTo es vs (j+1)):=Lib.hid (by
     rw [candsTo_succ es vs HX.out,if_pos HK.out,HCAND.out,List.map_append,HCS.out];rfl)
    have HL4:Hid (cs.length<=100000):=Lib.hid (by
     have h1:=candsTo_le es vs j;rw [<- HCS.out,List.length_map] at h1;have:=HLEN.out;omega)
    go_wp2_with fail
    refine (hkey.out _).mono ?_;rintro e w5 ⟨rfl,hb5⟩;have HS5:=Lib.hid (HS4.out.below hb5);have HN5:Hid (ownsNums w5 w.heap.size (.slice na (nearM es j).length nk) (nearM es j)/\∀ b,(Value.slice na (nearM es j).length nk).ownBlock=some b->o4 b=none):=Lib.hid ⟨ownsRow_below HN4.out.1 hb5,HN4.out.2⟩;obtain ⟨la,lk,rfl⟩:=ownsRow_slice HS5.out.row;clear hb5 HS4 HN4 HCAND HCS k0 k1 k2 hkey;go_wp2_with (at_builtin;go_loud (refine wpList_append_cand rfl _ _ rfl w.heap.size _ cs rfl HS5.out.row ((⟨j,K,nearM es j⟩:Cnd),(na,nk)) 1 (by simp [go_sem]) HL4.out HS5.out.mv.size ?_);intro v6 w6 h6 ha;have HS6:=Lib.hid (HS5.out.appd h6 ha HN5.out.1 HN5.out.2);clear h6 ha)
    clear HS5 HN5;go_roundw
    case rel=>exact ⟨j+1,_,o4,d4,by go_num,by omega,HCS6,HS6⟩
    case measure=>simp [intOf];omega
   ·have HCS2:Hid (cs.map (·.1)=candsTo es vs (j+1)):=Lib.hid (by
     rw [candsTo_succ es vs HX.out,if_neg (fun e=>hrk (by rw [e];rfl)),List.append_nil];exact HCS.out)
    clear HS HCS HX;go_wp2_with fail
    go_roundw
    case rel=>exact ⟨j+1,cs,o1,d1,by go_num,by omega,HCS2,HS2⟩
    case measure=>simp [intOf];omega
  ·have hjz:¬ (j:Int) < (M:Int):=by omega
   have HCF:Hid (cs.map (·.1)=candsM es vs):=Lib.hid (by rw [HCS.out,candsTo_all es vs (by have:=HM.out;omega)]);have hpick:=Lib.hid (pick_any (HS.out.pick HCF.out H.out.ends (by have:=HM.out;omega) HLEN.out));rw [HCF.out] at hpick;obtain ⟨CH,hCH⟩:∃ l,l=chosenM es vs:=⟨_,rfl⟩;rw [show pickM (candsM es vs)=CH from hCH.symm] at hpick;obtain ⟨KN,hKN⟩:∃ k,k=CH.length:=⟨_,rfl⟩;have HKN:Hid (KN=CH.length/\KN<=12/\∀ y∈CH,y < 4294967296):=Lib.hid (by
    refine ⟨hKN,?_,fun y hy=>?_⟩
    ·rw [hKN,hCH];unfold chosenM pickM;exact Nat.le_trans (List.length_filter_le _ _) (by rw [List.length_map];exact HLEN.out)
    ·rw [hCH] at hy;unfold chosenM pickM at hy;obtain ⟨c,hc,rfl⟩:=List.mem_map.1 (List.mem_filter.1 hy).1;have:=(cands_v _ hc).2;have:=HM.out;omega)
   have HCH:=Lib.hid hCH;have HF1:Hid (o1 rb=none):=Lib.hid (HS.out.mv.free HRO.out.lt HRO.out.free);have HR1:Hid (RndAt W1 rb pb gb gen done x4 x5 (.slice va vs.length vk)/\o1 rb=none):=Lib.hid ⟨HR.out.moved HRO.out.free HS.out.mv,HS.out.mv.free HRO.out.lt HRO.out.free⟩;have HMV:=Lib.hid HS.out.mv;obtain ⟨la,lk,rfl⟩:=ownsRow_slice HS.out.row;clear HCS HCF HS hCH;go_wp2_with fail
   refine hpick.out.mono ?_;rintro e w2 ⟨ov,rfl,hb2,hr2⟩;have HR2:=Lib.hid (HR1.out.1.below hb2);have HMV2:=Lib.hid (HMV.out.below hb2);obtain ⟨oa,ok,rfl⟩:=ownsRow_slice hr2;rw [<- hKN];have HO2:Hid (ownsNums w2 w.heap.size (.slice oa KN ok) CH/\∀ b,(Value.slice oa KN ok).ownBlock=some b->o1 b=none/\b < w2.heap.size/\w.heap.size<=b):=Lib.hid (by
    rw [hKN];exact ⟨ownsRow_base hr2 HMV.out.size,fun b hb=>⟨HMV.out.pool.fresh (ownBlock_old hr2 b hb).2,(ownBlock_old hr2 b hb).1,Nat.le_trans HMV.out.size (ownBlock_old hr2 b hb).2⟩⟩)
   obtain ⟨c0,c1,c2,c3,c4,c5,c6,f6⟩:=HR2.out.cells;have f5:=f6 5;have f4:=f6 4;have hrl2:=HR2.out.lt;clear hKN hb2 hr2 HR1 HMV hpick c0 c1 c2 c3 c6 f6;have hfree:o1 rb=none:=HF1.out;have HMB:Hid (RndAt (((w2.setCell ⟨rb,5,none⟩ (.slice oa KN ok)).setCell ⟨rb,4,none⟩ (.map (some w2.heap.size))).alloc (.map #[] 0)) rb pb gb gen done (.map (some w2.heap.size)) (.slice oa KN ok) (.slice va vs.length vk)/\Moved (·=rb) n pb db w o d (((w2.setCell ⟨rb,5,none⟩ (.slice oa KN ok)).setCell ⟨rb,4,none⟩ (.map (some w2.heap.size))).alloc (.map #[] 0)) o1 d1 L/\ownsNums (((w2.setCell ⟨rb,5,none⟩ (.slice oa KN ok)).setCell ⟨rb,4,none⟩ (.map (some w2.heap.size))).alloc (.map #[] 0)) w.heap.size (.slice oa KN ok) CH/\ChosenAt (((w2.setCell ⟨rb,5,none⟩ (.slice oa KN ok)).setCell ⟨rb,4,none⟩ (.map (some w2.heap.size))).alloc (.map #[] 0)) w2.heap.size []/\rb≠w2.heap.size/\o1 w2.heap.size=none/\w.heap.size<=w2.heap.size/\∀ b,(Value.slice oa KN ok).ownBlock=some b->b≠w2.heap.size/\o1 b=none):=Lib.hid (by
    have h4:=(HR2.out.set5 (.slice oa KN ok)).set4 (.map (some w2.heap.size));have hne:rb≠w2.heap.size:=by omega
    have hbn:∀ b,(Value.slice oa KN ok).ownBlock=some b->b≠rb:=fun b hb e=>by have:=(HO2.out.2 b hb).2.2;have:=HRO.out.lt;omega
    have hsz:((w2.setCell ⟨rb,5,none⟩ (.slice oa KN ok)).setCell ⟨rb,4,none⟩ (.map (some w2.heap.size))).heap.size=w2.heap.size:=by simp
    have hal:=MapKept.heap_alloc ((w2.setCell ⟨rb,5,none⟩ (.slice oa KN ok)).setCell ⟨rb,4,none⟩ (.map (some w2.heap.size))) (.map #[] 0);have hm1:Moved (·=rb) n pb db w o d (w2.setCell ⟨rb,5,none⟩ (.slice oa KN ok)) o1 d1 L:=(HMV2.out.mono (fun _ _ e=>e.elim)).setCell ⟨rb,5,none⟩ (.slice oa KN ok) hfree (.inl rfl);have hm2:=(hm1.setCell ⟨rb,4,none⟩ (.map (some w2.heap.size)) hfree (.inl rfl)).alloc (.map #[] 0);refine ⟨(hal.2 rb (by rw [hsz];omega)).trans h4,hm2,?_,?_,hne,HMV2.out.pool.fresh (Nat.le_refl _),HMV2.out.size,fun b hb=>⟨by have:=(HO2.out.2 b hb).2.1;omega,(HO2.out.2 b hb).1⟩⟩
    ·refine ownsRow_heap HO2.out.1 (fun b hb=>?_);rw [hal.2 b (by rw [hsz];exact (HO2.out.2 b hb).2.1),Below.heap_setCell _ _ _ _ (hbn b hb),Below.heap_setCell _ _ _ _ (hbn b hb)]
    ·have:=MapAt.made ((w2.setCell ⟨rb,5,none⟩ (.slice oa KN ok)).setCell ⟨rb,4,none⟩ (.map (some w2.heap.size))) Tryz.prog 26 u32V (fun _:Unit=>Value.bool true);rw [hsz] at this;exact this)
   have HND:Hid (CH.Pairwise (· < ·)):=Lib.hid (by rw [HCH.out];exact chosen_rise es vs);clear HR2 HMV2 HO2 HF1 hfree;go_wp2_with fail
   generalize hmb:w2.heap.size=mb at *;generalize ((w2.setCell ⟨rb,5,none⟩ (.slice oa KN ok)).setCell ⟨rb,4,none⟩ (.map (some mb))).alloc (.map #[] 0)=W3 at *;clear hmb c4 c5 f4 f5 hrl2;go_loopw [84] (fun vi wr=>∃ k:Nat,vi=.int .i64 (k:Int)/\k<=KN/\Hid (RndAt wr rb pb gb gen done (.map (some mb)) (.slice oa KN ok) (.slice va vs.length vk)/\Moved (·=rb) n pb db w o d wr o1 d1 L/\ownsNums wr w.heap.size (.slice oa KN ok) CH/\ChosenAt wr mb (CH.take k).reverse)) (fun vi _=>KN - (intOf vi).toNat)
   case atStart=>exact ⟨0,rfl,Nat.zero_le _,Lib.hid ⟨HMB.out.1,HMB.out.2.1,HMB.out.2.2.1,HMB.out.2.2.2.1⟩⟩
   case round=>
    obtain ⟨k,rfl,hk,HST⟩:=hrel;generalize wr=W4 at *;by_cases hkt:k < KN
    ·have hkz:(k:Int) < (KN:Int):=by omega
     have wk:IntKind.i64.wrap ((k:Int)+1)=((k+1:Nat):Int):=by have:=HKN.out.2.1;rw [wrap_in]<;>omega
     obtain ⟨y,hy⟩:∃ y,CH[k]? = some y:=⟨_,List.getElem?_eq_getElem (by have:=HKN.out.1;omega)⟩;obtain ⟨g,rfl⟩:∃ g,oa=some ⟨g,0,none⟩:=by
      obtain ⟨-,⟨h1,h2⟩ | ⟨g,_,_,h1,_⟩⟩:=HST.out.2.2.1
      ·have:=HKN.out.1;omega
      ·cases h1;exact ⟨g,rfl⟩
     have q0:=ownsNums_cell (l:=CH) (by have:=HST.out.2.2.1;rwa [HKN.out.1] at this) hy;obtain ⟨-,-,-,-,c4,-⟩:=HST.out.1.cells;have HG:=Lib.hid (good_u32 (HKN.out.2.2 y (List.mem_of_getElem? hy)));have HPUT:Hid (mput ((CH.take k).reverse.map fun x=>(x,())) y ()=((CH.take (k+1)).reverse.map fun x=>(x,()))):=Lib.hid (by
      obtain ⟨hl,he⟩:=List.getElem?_eq_some_iff.1 hy;have hni:y ∉ CH.take k:=fun hm=>by
       obtain ⟨j,hj,hje⟩:=List.getElem_of_mem hm;rw [List.length_take] at hj;rw [List.getElem_take] at hje;have:=List.pairwise_iff_getElem.1 HND.out j k (by omega) hl (by omega);omega
      rw [set_put (by simpa using hni),List.take_succ_eq_append_getElem hl,he];simp)
     clear hy;go_wp2_with (at_mapUpdate;refine wpList_put _ rfl _ _ _ _ rfl 4 keyed_u32 u32_inj Tryz.underlying131 mb _ rfl HST.out.2.2.2 y () rfl rfl HG.out ?_;intro es' clock hm2;rw [HPUT.out] at hm2;have HM2:=Lib.hid hm2;clear hm2)
     have HST2:Hid (RndAt (setBlock W4 mb (.map es' clock)) rb pb gb gen done (.map (some mb)) (.slice (some ⟨g,0,none⟩) KN ok) (.slice va vs.length vk)/\Moved (·=rb) n pb db w o d (setBlock W4 mb (.map es' clock)) o1 d1 L/\ownsNums (setBlock W4 mb (.map es' clock)) w.heap.size (.slice (some ⟨g,0,none⟩) KN ok) CH/\ChosenAt (setBlock W4 mb (.map es' clock)) mb (CH.take (k+1)).reverse):=Lib.hid ⟨(heap_setBlock_none (w:=W4) (b:=mb) (.map es' clock) HMB.out.2.2.2.2.1).trans HST.out.1,HST.out.2.1.turned HMB.out.2.2.2.2.2.1 (.inr HMB.out.2.2.2.2.2.2.1) ((Turn.refl _ W4).setBlock _ _ (.inl rfl)),ownsRow_heap HST.out.2.2.1 (fun b hb=>heap_setBlock_none _ (HMB.out.2.2.2.2.2.2.2 b hb).1),HM2.out⟩;clear HM2 HST q0 c4;go_roundw
     case rel=>exact ⟨k+1,by go_num,by omega,HST2⟩
     case measure=>simp [intOf];omega
    ·have hkz:¬ (k:Int) < (KN:Int):=by omega
     have HQ:Hid (R (.returned (.int .i64 0)) W4):=Lib.hid (by
      rw [HRP.out,<- HCH.out];obtain ⟨h1,h2,h3,h4⟩:=HST.out;rw [List.take_of_length_le (by have:=HKN.out.1;omega)] at h4;exact ⟨mb, .slice oa KN ok,CH.reverse,d1,o1,rfl,h2,h1,h3,fun b hb=>(HMB.out.2.2.2.2.2.2.2 b hb).2,h4,HMB.out.2.2.2.2.2.2.1,HMB.out.2.2.2.2.2.1,fun z=>by simp⟩)
     clear HST HRP;go_wp2;exact HQ.out
end
end
end Go.Proofs.YthkkgdpomhhjjaaGreatDoor
