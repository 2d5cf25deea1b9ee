/-
  Joined.
-/
import Derived.Test.YthkkgdpomhhjjaaGreatDoorD10
import Derived.Deep.RegionLaw
import Derived.BigRegion
import Derived.Maps.Keyed
import Derived.Laws.Externs
import Derived.Laws.BytesArg
import Derived.Laws.OwnMore
set_option maxRecDepth 100000
set_option maxHeartbeats 8000000
namespace Go.Proofs.YthkkgdpomhhjjaaGreatDoor
open Go.Proofs.Tryz
section
open Go.RowKit Go.Maps
section
variable {w w' W:World} {hb g cap:Nat} {v v':Value} {l:List ft}
theorem mn{P:Program}{w:World}{ops:Array Oper}{o:Oper}{a:Act}{K:Act->World->Prop}{Q:Exit->Act->World->Prop}{E:Prop}(hg:o.guard=none)(s x:Operand)(t:TypeId)(ho:o.op=.call { callee:=.builtin .append,args:=#[s,x],argTypes:=#[t,t] })(base:Nat)(e:TypeId)(z:Value)(size bytes:Nat)(ht:P.underlying t=some (.slice e))(hi:(P.info? e).map (fun i=>(i.zero,i.size,i.bytes))=some (some z,size,bytes))(hzs:z.cells.size=size)(hsz:0<size)(v:Value)(n:Nat)(xs:List Value)(hs:a.eval s=v)(hown:w.ownsRow base e size v n xs)(ad:Addr)(m c:Nat)(news:List Value)(hx:a.eval x=.slice (some ad) m c)(hl:news.length=m*size)(hnews:∀j u,news[j]? = some u->w.cell? (ad.add j)=some u)(h1:∀u∈news,u.oneCell'=true)(h63:n+m<=maxLen)(hbytes:(n+m)*bytes<=140737488355328)(hbase:base<=w.heap.size)(k:∀v' w',w'.ownsRow base e size v' (n+m) (xs++news)->lr v w w' v'->K (a.put o.dst v') w'):if Region.wanted o (yielded ops a.tmps)=true then Oper.wp P o a w K Q else E:=by
 have hw:Region.wanted o (yielded ops a.tmps)=true:=by grind [Region.wanted]
 rw[if_pos hw];obtain⟨i0,rV,hz0,hz1,hz2⟩:=info_parts hi;obtain⟨v',w',g1,g2,g3,g4,g5⟩:=run_append_own_at (P:=P) w base t o.type e i0 z size bytes ht rV hz0 hz1 hz2 hzs hsz v n xs hown ad m c news hl hnews h1 h63 hbytes hbase;unfold Oper.wp execOp;simp only[ho,resolve,invoke,builtin,Sem.run_bind,Sem.run_pure,Result.andThen_ok,List.map_toArray,List.map_cons,List.map_nil,hs,hx,g1];exact k v' w' g2 ⟨g3,g5⟩
theorem wU{ops:Array Oper}{o:Oper}{a:Act}{w:World}{K:Act->World->Prop}{Q:Exit->Act->World->Prop}{E:Prop}(hgd:o.guard=none)(s x:Operand)(ho:o.op=.call { callee:=.builtin .append,args:=#[s,x],argTypes:=#[359,359] })(v:Value)(l:List ft)(hs:a.eval s=v)(hown:mm w v l)(y:ft)(xb c:Nat)(hx:a.eval x=.slice (some ⟨xb,0,none⟩) 1 c)(FX:w.heap[xb]? = some (.cells #[.int .u64 (y.1:Int),.int .u32 (y.2:Int)] 357))(hl:l.length<=100000)(k:∀v' w',mm w' v' (l++[y])->lr v w w' v'->K (a.put o.dst v') w'):if Region.wanted o (yielded ops a.tmps)=true then Oper.wp prog o a w K Q else E:=by
 refine mn hgd s x 359 ho 0 357 _ 2 16 Tryz.underlying359 OO rfl af v l.length (eU l) hs hown ⟨xb,0,none⟩ 1 c (ft.cells y) hx rfl (fun j u hj=>?_) (by simp[Value.oneCell']) (by grind [maxLen]) ae (Nat.zero_le _) (fun v' w' h1 h2=>k v' w' ?_ h2)
 ·rw[bG,Nat.zero_add,aq FX];grind
 ·unfold mm;rw[CI,List.length_append];exact h1
theorem dV.IA{x:ft}(h:dV W hb v l)(ha:lr v W w' v')(hr:mm w' v' (l++[x])) :
 w'.cell? ⟨hb,0,none⟩=some v/\w'.frozen? ⟨hb,0,none⟩=false/\dV (w'.setCell ⟨hb,0,none⟩ v') hb v' (l++[x])/\aH (fun b=>b=hb\/v.ownBlock=some b) W (w'.setCell ⟨hb,0,none⟩ v')/\∀b,v'.ownBlock=some b->v.ownBlock=some b\/W.heap.size<=b:=by
 obtain⟨hg,hv⟩:=ha;have hlt:=h.lt;obtain⟨⟨t,h1⟩,h2,h3⟩:=h;have e1:w'.heap[hb]? = some (.cells #[v,MU] t):=by
  grind [World.grownBy.block]
 have Yj:∀b,v'.ownBlock=some b->v.ownBlock=some b\/W.heap.size<=b:=fun b hb'=>by
  grind
 have hne:v'.ownBlock≠some hb:=fun e=>by
  grind
 refine⟨by rw[aq e1];rfl,aO e1 _,⟨⟨t,aT e1 0 v'⟩,?_,hne⟩,?_,Yj⟩
 ·grind [bI,Below.heap_setCell]
 ·have ht:aH (fun b=>b=hb\/v.ownBlock=some b) W w':=⟨hg.os,hg.tape,hg.output,hg.size,fun k hk hn=>hg.block k hk (fun e=>hn (.inr e.symm))⟩;grind [aH.setCell]
theorem mY(h:dV w hb v l):Calls prog 300 #[ptrTo hb] w fun e w'=>e=.returned (.int .i64 (l.length:Int))/\w'=w:=by
 obtain⟨a,c,rfl⟩:=az h.row;have c0:=h.cells.1;clear h;unfold ptrTo;go_enter func300,ntmps300;go_wp2;go_ret;simp
theorem IB(w:World):Calls prog 242 #[] w fun e w'=>e=.returned (ptrTo w.heap.size)/\dV w' w.heap.size (.slice none 0 0) []/\Below w.heap.size w w'/\w.heap.size<w'.heap.size:=by
 unfold ptrTo;go_enter func242,ntmps242;go_wp2;go_ret;refine⟨rfl,⟨⟨_,heap_alloc_new _ _⟩,World.ownsRow_nil _ _ _ _,by simp[Value.ownBlock]⟩,aj.alloc (Nat.le_refl _) _,ah⟩
theorem Ld{x:ft}(h:mm w v (l++[x])):∃g k M,Hid (M=l.length+1)/\v=.slice (some ⟨g,0,none⟩) M k:=by
 obtain⟨-,⟨h1,h2⟩|⟨g,k,_,h1,_⟩⟩:=h
 ·grind
 grind [aa]
def AX(w:World)(hb:Nat)(v:Value)(l:List ft)(x:ft)(e:Ending)(w':World):Prop:=
 ∃v' l',e=.returned (.int .i64 0)/\dV w' hb v' l'/\gY l'/\l'.Perm (l++[x])/\aH (fun b=>b=hb\/v.ownBlock=some b) w w'/\∀b,v'.ownBlock=some b->v.ownBlock=some b\/w.heap.size<=b
theorem SH(h:dV w hb v l)(hh:gY l)(x:ft)(hl:l.length<65536):Calls prog 283 #[ptrTo hb,jW x] w (AX w hb v l x):=by
 obtain⟨a,c,rfl⟩:=az h.row;have H1:Hid (dV (w.alloc (.cells #[.int .u64 (x.1:Int),.int .u32 (x.2:Int)] 357)) hb (.slice a l.length c) l):=aa (h.below ai);have HX:Hid ((w.alloc (.cells #[.int .u64 (x.1:Int),.int .u32 (x.2:Int)] 357)).cell? ⟨w.heap.size,0,none⟩=some (.int .u64 (x.1:Int))/\(w.alloc (.cells #[.int .u64 (x.1:Int),.int .u32 (x.2:Int)] 357)).cell? ⟨w.heap.size,1,none⟩=some (.int .u32 (x.2:Int))):=aa ah;have HT:Hid (aH (fun b=>b=hb\/(Value.slice a l.length c).ownBlock=some b) w (w.alloc (.cells #[.int .u64 (x.1:Int),.int .u32 (x.2:Int)] 357))):=aa ((aH.refl _ w).alloc _);have HH:=aa hh;have hlen:=aa (mY H1.o);have hl':decide ((l.length:Int) >= 65536)=false:=decide_eq_false ae;clear h hh hl;unfold jW ptrTo AX at *;go_enter func283,ntmps283;go_wp2_with fail;refine hlen.o.mono ?_;rintro e w2⟨rfl,rfl⟩;clear hlen;generalize w.alloc (.cells #[.int .u64 (x.1:Int),.int .u32 (x.2:Int)] 357)=W1 at *;go_wp2_with fail;have c0:=H1.o.cells.1;obtain⟨x0,x1⟩:=HX.o;have hlt:=H1.o.lt;have SI:=World.block_lt_of_cell? _ _ x0;have f0:=H1.o.cells.2.2;have cT:Hid (∀ob,Below W1.heap.size W1 (W1.alloc ob).drew):=aa (fun ob=>(aj.alloc (Nat.le_refl _) ob).drew);go_region_law (refine wU rfl _ _ rfl _ l rfl (World.ownsRow.alloc (World.ownsRow.drew H1.o.row) _) x _ 1 rfl (heap_alloc_new _ _) (by grind) ?_;intro v5 w5 h5 ha;obtain⟨g5,k5,M,HM,rfl⟩:=Ld h5;obtain⟨c5,f5,FN,rO,Un⟩:=(H1.o.below (cT.o _)).IA ha h5;have HA5:=aa (show _/\_/\_ from⟨FN,rO,Un⟩);clear FN rO Un ha h5)
 all_goals
  clear c0 x0 x1 hlt SI f0 c5 f5;have H5:Hid (dV (w5.setCell ⟨hb,0,none⟩ (.slice (some ⟨g5,0,none⟩) M k5)) hb (.slice (some ⟨g5,0,none⟩) (l++[x]).length k5) (l++[x])):=aa (by grind [Hid.out]);have Eh:=aa ((HT.o.bN (cT.o (.cells #[.int .u64 (x.1:Int),.int .u32 (x.2:Int)] 357))).trans HA5.o.2.1 (fun _ _ e=>e));have OP:Hid (∀b,g5=b->(Value.slice a l.length c).ownBlock=some b\/w.heap.size<=b):=aa (fun b hb=>(HA5.o.2.2 b (by rw[hb];rfl)).imp id (fun e=>Nat.le_trans (HT.o.bN (cT.o (.cells #[.int .u64 (x.1:Int),.int .u32 (x.2:Int)] 357))).size e));clear HA5 cT H1 HT HX;generalize w5.setCell ⟨hb,0,none⟩ (.slice (some ⟨g5,0,none⟩) M k5)=W5 at *;have hlen:=aa (fun W hW=>mY (w:=W) (H5.o.below (w':=W) hW));have hup:=aa (fun W hW=>Z6 (w:=W) (i:=l.length) (H5.o.below (w':=W) hW) ah (OI HH.o x) (by grind));rw[show(l++[x]).length=M by rw[HM.out];simp]at hlen;have wl:IntKind.i64.wrap ((M:Int)-1)=(l.length:Int):=by grind [Hid.out,ax]
  unfold ptrTo at *;go_wp2_with fail;refine ct (Below W5.heap.size W5) 6 (by rfl) ag (aj.drew) ?_;simp only[List.take_succ_cons,List.take_zero,List.drop_succ_cons,List.drop_zero];iterate 4 (refine qz ?_)
  refine qw (fun w' hw'=>(hlen.o w' hw').mono (fun e w'' h=>⟨h.1,h.2▸hw'⟩)) ?_;refine qz ?_;refine wpQuiet_nil ?_;intro w6 Vm;go_wp2_with fail;refine(hup.o w6 Vm).mono ?_;rintro e w7⟨l7,rfl,hp7,hh7,Xy,PH⟩;have T5:=aa ((Eh.o.bN Vm).trans PH (S:=fun b=>b=hb\/(Value.slice a l.length c).ownBlock=some b) (fun y hy e=>by
   grind [Hid.out]))
  clear hlen hup Vm PH wl;have SJ:=aa Xy;clear Xy;go_wp2;go_ret;exact⟨_,l7,rfl,SJ.o,hh7,hp7,T5.o,fun b hb=>OP.o b (by cases hb;rfl)⟩
theorem dV.shrink(h:dV W hb (.slice (some ⟨g,0,none⟩) l.length cap) l)(k:Nat)(hk:k<=l.length):dV (W.setCell ⟨hb,0,none⟩ (.slice (some ⟨g,0,none⟩) k cap)) hb (.slice (some ⟨g,0,none⟩) (l.take k).length cap) (l.take k):=by
 obtain⟨⟨t,h1⟩,h2,h3⟩:=h;have e:(l.take k).length=k:=by grind
 have hne:g≠hb:=fun e=>h3 (by rw[e];rfl);refine⟨⟨t,?_⟩,?_,by assumption⟩
 ·rw[e];exact aT h1 0 _
 ·obtain⟨hl,⟨h4,h5⟩|⟨g',cap',cur,h4,h5,h6,h7,h8,h9,h10⟩⟩:=h2
  ·cases h4
  ·cases h4;refine⟨by rw[CG],.inr ⟨g,cap,cur,rfl,Nat.zero_le _,?_,ae,h8,h9,?_⟩⟩
   ·grind [Below.heap_setCell]
   grind [Iz]
theorem dV.Z7(h:dV W hb (.slice (some ⟨g,0,none⟩) l.length cap) l)(hl:0<l.length){y:ft}(hy:gI l (l.length-1)=y) :
 dV (((W.setCell ⟨g,0,none⟩ (.int .u64 (y.1:Int))).setCell ⟨g,1,none⟩ (.int .u32 (y.2:Int))).setCell ⟨hb,0,none⟩ (.slice (some ⟨g,0,none⟩) (l.length-1) cap)) hb (.slice (some ⟨g,0,none⟩) (AV l).length cap) (AV l) /\
 aH (fun b=>b=hb\/g=b) W (((W.setCell ⟨g,0,none⟩ (.int .u64 (y.1:Int))).setCell ⟨g,1,none⟩ (.int .u32 (y.2:Int))).setCell ⟨hb,0,none⟩ (.slice (some ⟨g,0,none⟩) (l.length-1) cap)):=by
 subst hy;refine⟨(h.put hl (gI l (l.length-1))).shrink (l.length-1) ah,?_⟩;exact(((aH.refl _ W).setCell _ _ (.inl (.inr rfl))).setCell _ _ (.inl (.inr rfl))).setCell _ _ (.inl (.inl rfl))
theorem IC(h:dV w hb v []):Calls prog 285 #[ptrTo hb] w fun e w'=>e=.returned (.tuple #[jW (0,0),.bool false])/\Below w.heap.size w w':=by
 have hlen:=aa (fun W hW=>mY (w:=W) (h.below (w':=W) hW));have HB:Hid (Below w.heap.size w (w.alloc (.cells #[.int .u64 0,.int .u32 0] 357))):=aa ai;clear h;unfold jW ptrTo at *;go_enter func285,ntmps285;go_wp2_with fail;refine(hlen.o _ HB.o).mono ?_;rintro e w2⟨rfl,rfl⟩;go_wp2;go_returns;grind [Hid.out]
def MV(w:World)(hb:Nat)(v:Value)(l:List ft)(e:Ending)(w':World):Prop:=
 ∃v' l',e=.returned (.tuple #[jW (gI l 0),.bool true])/\dV w' hb v' l'/\gY l'/\(gI l 0::l').Perm l/\aH (fun b=>b=hb\/v.ownBlock=some b) w w'/\v'.ownBlock=v.ownBlock
theorem VW(h:dV w hb v l)(hh:gY l)(h0:0<l.length)(hl:l.length<=100000):Calls prog 285 #[ptrTo hb] w (MV w hb v l):=by
 obtain⟨g,cap,rfl⟩:∃g cap,v=.slice (some ⟨g,0,none⟩) l.length cap:=by
  obtain⟨-,⟨h1,h2⟩|⟨g,cap,_,h1,_⟩⟩:=h.row
  ·omega
  grind
 have HB:Hid (Below w.heap.size w (w.alloc (.cells #[.int .u64 0,.int .u32 0] 357))):=aa ai;have H1:=aa (h.below HB.o);have HR:Hid ((w.alloc (.cells #[.int .u64 0,.int .u32 0] 357)).heap[w.heap.size]? = some (.cells #[.int .u64 0,.int .u32 0] 357)):=aa (heap_alloc_new _ _);have hlen:=aa (mY H1.o);have HH:=aa hh;have HN:Hid (hb≠w.heap.size/\g≠w.heap.size/\hb<w.heap.size/\g<w.heap.size):=aa (by
  have h1:=h.lt;have h2:=(aL h.row g rfl).1;omega)
 clear h hh;obtain⟨M,hM⟩:∃M,M=l.length-1:=⟨_,rfl⟩;obtain⟨N,hN⟩:∃N,N=l.length:=⟨_,rfl⟩;have XR:Hid (M=l.length-1/\N=l.length/\M<l.length):=aa ae;have wM:IntKind.i64.wrap ((N:Int)-1)=(M:Int):=by grind [ax]
 have b0:¬(N:Int)=0:=by omega
 have b1:(0:Int)<(N:Int):=by omega
 have b2:(M:Int)<(N:Int):=by omega
 rw[<- hN]at h0 hl hlen;unfold jW MV ptrTo at *;rw[<- hN];clear hM hN;go_enter func285,ntmps285;go_wp2_with fail;refine hlen.o.mono ?_;rintro e w2⟨rfl,rfl⟩;clear hlen;generalize w.alloc (.cells #[.int .u64 0,.int .u32 0] 357)=W1 at *;obtain⟨c0,-,fh⟩:=H1.o.cells;obtain⟨x0,x1⟩:=H1.o.item (i:=0) (by grind [Hid.out]);obtain⟨y0,y1⟩:=H1.o.item (i:=M) XR.o.2.2;obtain⟨xx,XS⟩:∃x,gI l 0=x:=⟨_,rfl⟩;obtain⟨yy,Z8⟩:∃x,gI l M=x:=⟨_,rfl⟩;have dS:=fun k=>World.ownsRow.frozenAt H1.o.row k;rw[XS]at x0 x1;rw[Z8]at y0 y1;rw[<- XR.o.2.1]at c0;rw[Nat.zero_mul]at x0 x1;obtain⟨n1,n2,n3,n4⟩:=HN.o;have n6:=H1.o.lt;have b4:M<=cap:=by
  obtain⟨-,⟨h,-⟩|⟨_,_,_,h,-,-,h7,-⟩⟩:=H1.o.row
  ·cases h
  grind [Hid.out]
 have n7:=(aL H1.o.row g rfl).1;have n8:=(Array.getElem?_eq_some_iff.1 HR.o).1;have n5:hb≠g:=fun e=>H1.o.ne (by grind);go_wp2_with fail;have mz:=H1.o.Z7 (by grind [Hid.out]) (y:=yy) (by grind [Hid.out]);rw[<- XR.o.1]at mz;obtain⟨j7,oU⟩:=mz;have pU:=aa (j7.below (aj.alloc (Nat.le_refl _) (.cells #[.int .u64 (xx.1:Int),.int .u32 (xx.2:Int)] 357)));have nQ:=aa (oU.alloc (.cells #[.int .u64 (xx.1:Int),.int .u32 (xx.2:Int)] 357));have mE:Hid (((((W1.setCell ⟨g,0,none⟩ (.int .u64 (yy.1:Int))).setCell ⟨g,1,none⟩ (.int .u32 (yy.2:Int))).setCell ⟨hb,0,none⟩ (.slice (some ⟨g,0,none⟩) M cap)).alloc (.cells #[.int .u64 (xx.1:Int),.int .u32 (xx.2:Int)] 357)).heap[W1.heap.size]? = some (.cells #[.int .u64 (xx.1:Int),.int .u32 (xx.2:Int)] 357)):=aa (by
  grind [heap_alloc_new,World.setCell])
 have Mz:Hid (W1.heap.size<((((W1.setCell ⟨g,0,none⟩ (.int .u64 (yy.1:Int))).setCell ⟨g,1,none⟩ (.int .u32 (yy.2:Int))).setCell ⟨hb,0,none⟩ (.slice (some ⟨g,0,none⟩) M cap)).alloc (.cells #[.int .u64 (xx.1:Int),.int .u32 (xx.2:Int)] 357)).heap.size):=aa ah;clear j7 oU x0 x1 y0 y1 dS c0 fh;generalize ((((W1.setCell ⟨g,0,none⟩ (.int .u64 (yy.1:Int))).setCell ⟨g,1,none⟩ (.int .u32 (yy.2:Int))).setCell ⟨hb,0,none⟩ (.slice (some ⟨g,0,none⟩) M cap)).alloc (.cells #[.int .u64 (xx.1:Int),.int .u32 (xx.2:Int)] 357))=W2 at *;refine(SF pU.o (OJ HH.o) (by grind [yo,Hid.out])).mono ?_;rintro e w3⟨l3,rfl,PJ,hh3,Xs,yJ⟩;have HA3:=aa Xs;have r0:w3.heap[W1.heap.size]? = some (.cells #[.int .u64 (xx.1:Int),.int .u32 (xx.2:Int)] 357):=(yJ.block _ Mz.o ae).trans mE.o;have s0:w3.heap[w.heap.size]? = some (.cells #[.int .u64 0,.int .u32 0] 357):=(yJ.block _ (Nat.lt_trans n8 Mz.o) ae).trans ((nQ.o.block _ n8 ae).trans HR.o);have HQ:Hid (dV ((w3.setCell ⟨w.heap.size,0,none⟩ (.int .u64 (xx.1:Int))).setCell ⟨w.heap.size,1,none⟩ (.int .u32 (xx.2:Int))) hb (.slice (some ⟨g,0,none⟩) (AV l).length cap) l3/\aH (fun b=>b=hb\/(Value.slice (some ⟨g,0,none⟩) N cap).ownBlock=some b) w ((w3.setCell ⟨w.heap.size,0,none⟩ (.int .u64 (xx.1:Int))).setCell ⟨w.heap.size,1,none⟩ (.int .u32 (xx.2:Int)))/\(xx::l3).Perm l):=aa (by
  refine⟨HA3.o.kept (fun b hb'=>?_),?_,(PJ.cons xx).trans (XS▸OL (by grind [Hid.out]))⟩
  ·have hne:b≠w.heap.size:=by
    rcases hb' with rfl | e
    ·exact n1
    ·cases e;exact n2
   grind [Below.heap_setCell]
  ·refine((((aH.aW HB.o).trans nQ.o (fun b _ e=>?_)).trans yJ (fun b _ e=>?_)).setCell _ _ (.inr (Nat.le_refl _))).setCell _ _ (.inr (Nat.le_refl _))
   ·exact e.imp id (fun e=>by rw[e];rfl)
   ·exact .inr (by rw[e];rfl))
 have q0:w3.cell? ⟨W1.heap.size,0,none⟩=some (.int .u64 (xx.1:Int)):=by rw[aq r0];rfl
 have q1:w3.cell? ⟨W1.heap.size,1,none⟩=some (.int .u32 (xx.2:Int)):=by rw[aq r0];rfl
 have q2:w3.cell? ⟨w.heap.size,0,none⟩=some (.int .u64 0):=by rw[aq s0];rfl
 have q3:w3.cell? ⟨w.heap.size,1,none⟩=some (.int .u32 0):=by rw[aq s0];rfl
 have q4:∀k,w3.frozen? ⟨w.heap.size,k,none⟩=false:=fun k=>aO s0 k;have s1:=aT s0 0 (.int .u64 (xx.1:Int));have s2:=aT s1 1 (.int .u32 (xx.2:Int));have e0:(w3.setCell ⟨w.heap.size,0,none⟩ (.int .u64 (xx.1:Int))).cell? ⟨w.heap.size,0,none⟩=some (.int .u64 (xx.1:Int)):=by rw[aq s1];rfl
 have e1:((w3.setCell ⟨w.heap.size,0,none⟩ (.int .u64 (xx.1:Int))).setCell ⟨w.heap.size,1,none⟩ (.int .u32 (xx.2:Int))).cell? ⟨w.heap.size,1,none⟩=some (.int .u32 (xx.2:Int)):=by rw[aq s2];rfl
 clear s1 s2;have FW:=aa hh3;have HXX:=aa XS;clear Xs PJ yJ r0 s0 HA3 pU nQ mE H1 HR hh3 XS HB Mz;go_wp2;refine bodyPost_ret (by simp[results,Tryz.results285,go_sem,e0,e1];try rfl) rfl ?_;exact⟨_,l3,by rw[HXX.o],HQ.o.1,FW.o,by grind [Hid.out],HQ.o.2.1,rfl⟩
def Z9(w:World)(hb:Nat)(v:Value)(l:List ft)(e:Ending)(w':World):Prop:=
 ∃(ok:Bool)(x:ft)(v':Value)(l':List ft),e=.returned (.tuple #[jW x,.bool ok])/\dV w' hb v' l'/\gY l'/\aH (fun b=>b=hb\/v.ownBlock=some b) w w'/\v'.ownBlock=v.ownBlock/\l'.length<=l.length/\if ok=true then (x::l').Perm l/\∀y∈l',¬ix y x else l=[]/\l'=[]
theorem SK(h:dV w hb v l)(hh:gY l)(hl:l.length<=100000):Calls prog 285 #[ptrTo hb] w (Z9 w hb v l):=by
 rcases Nat.eq_zero_or_pos l.length with h0 | h0
 ·obtain rfl:=List.eq_nil_of_length_eq_zero h0;refine(IC h).mono ?_;rintro e w'⟨rfl,hb⟩;exact⟨false,_,v,[],rfl,h.below hb,hh,aH.aW hb,rfl,Nat.le_refl _,ah⟩
 ·refine(VW h hh h0 hl).mono ?_;rintro e w'⟨v',l',rfl,h1,h2,h3,h4,h5⟩;refine⟨true,_,v',l',rfl,h1,h2,h4,h5,by have:=h3.length_eq;grind,?_⟩;rw[if_pos rfl];refine⟨h3,fun y hy=>?_⟩;obtain⟨j,hj⟩:=List.mem_iff_getElem?.1 (h3.mem_iff.1 (List.mem_cons_of_mem _ hy));have hlt:=(List.getElem?_eq_some_iff.1 hj).1;rw[<- Ix hj];grind [SC]
end
end
section
open Go.RowKit Go.Maps
abbrev za:=List (Nat×Nat)
def sG(h:List ft)(m:za):Prop:=(∀v d,aB m v=some d->(d,v)∈h)/\∀y∈h,y.2<4294967296
def qU:za->Option (Nat×Nat)
 | []=>none
 |p::m=>match qU m with
   |none=>some p
   |some q=>if ix (p.2,p.1) (q.2,q.1) then some p else some q
theorem AY{m:za}(h:qU m=none):m=[]:=by
 cases m with
 |nil=>rfl
 |cons p m=>
   grind [qU]
theorem AZ{m:za}{q:Nat×Nat}(h:qU m=some q):q∈m/\∀p∈m,¬ix (p.2,p.1) (q.2,q.1):=by
 induction m generalizing q with
 |nil=>cases h
 |cons p m ih=>
   rw[qU]at h;split at h
   ·grind [AY,ix.mj]
   ·rename_i q' e
    split at h
    ·rename_i hl
     grind [ix.oI,ix.asym]
    grind
theorem SL{m:za}(hn:(m.map (·.1)).Nodup){v d:Nat}(hm:aB m v=some d)(hl:∀v' d',aB m v'=some d'->¬ix (d',v') (d,v)):qU m=some (v,d):=by
 cases e:qU m with
 |none=>rw[AY e]at hm;cases hm
 |some q=>
   grind [AZ,ko,eM,ix.eq]
def qV(m:za)(v d:Nat):za:=match aB m v with
 |some old=>if old<=d then m else aS m v d
 |none=>aS m v d
theorem OQ{h h':List ft}{m:za}(hw:sG h m){v d:Nat}(hv:v<4294967296)(hp:h'.Perm (h++[(d,v)])):sG h' (aS m v d):=by
 refine⟨fun v' d' hm=>?_,fun y hy=>?_⟩;rotate_left
 ·rcases List.mem_append.1 (hp.mem_iff.1 hy) with h | h
  ·exact hw.2 y h
  grind
 rw[ay]at hm;refine hp.mem_iff.2 (List.mem_append.2 ?_);split at hm
 ·grind
 ·exact .inl (hw.1 _ _ hm)
theorem DI{h h':List ft}{m:za}(hw:sG h m){x:ft}(hp:(x::h').Perm h):sG h' (match aB m x.2 with | some d=>if d=x.1 then b8 m x.2 else m | none=>m):=by
 have key:∀v d,aB m v=some d->¬(v=x.2/\d=x.1)->(d,v)∈h':=by
  intro v d hm hne;rcases List.mem_cons.1 (hp.mem_iff.2 (hw.1 v d hm)) with e | e
  ·grind
  omega
 refine⟨fun v d hm=>?_,fun y hy=>hw.2 y (by grind)⟩;grind [cP]
def kQ(A:Nat->Bool)(S:List Nat)(ID:Nat)(m:za)(es:List aJ):za:=
 es.foldl (fun m x=>if ID+x.x.toNat<9223372036854775808/\x.h.toNat ∉ S/\A x.h.toNat=false then qV m x.h.toNat (ID+x.x.toNat) else m) m
def mZ(E:Nat->List aJ)(A:Nat->Bool)(tgt most:Nat):Nat->za->List Nat->Bool
 |0,_,_=>false
 |k+1,m,S=>match qU m with
   |none=>false
   |some (v,d)=>if most<d then false else if v=tgt then true else mZ E A tgt most k (kQ A (v::S) d (b8 m v) (E v)) (v::S)
def jJ(E:Nat->List aJ)(A:Nat->Bool)(v:UInt32)(a b:aJ):Option aJ:=
 let s:=a.x.toNat+b.x.toNat
 let A':Nat->Bool:=fun w=>w == v.toNat || A w
 if a.t.toNat=b.h.toNat\/A' a.t.toNat=true\/A' b.h.toNat=true\/¬s<9223372036854775808\/(∃x∈E a.t.toNat,x.h.toNat=b.h.toNat/\x.x.toNat<=s)\/mZ E A' b.h.toNat s 16 [(a.t.toNat,0)] []=true then none
 else some ⟨a.t,b.h,UInt64.ofNat s,v⟩
def oJ(E:Nat->List aJ)(A:Nat->Bool)(ins:List aJ)(v:UInt32):List aJ:=ins.flatMap fun a=>(E v.toNat).filterMap (jJ E A v a)
end
section
open Go.RowKit Go.Maps
open Go.ChangeMaps (setBlock)
theorem ck:Keyed prog 26:=int_keyed Tryz.underlying26
abbrev iX(k:Nat):Value:=.int .u32 (k:Int)
abbrev aeo(k:Nat):Value:=.int .u64 (k:Int)
theorem dv:∀a b:Nat,iX a=iX b->a=b:=fun a b h=>by
 grind
theorem fQ{k:Nat}(h:k<4294967296):Good prog 26 (iX k):=by
 refine⟨.int .u32 (k:Int),?_⟩;unfold keyOf mapKey;rw[Tryz.underlying26];have:(Lit.int .u32 (k:Int)).wf=true:=by
  have h0:IntKind.u32.min=0:=rfl;have h1:IntKind.u32.max=4294967295:=rfl;grind [Lit.wf]
 grind
abbrev XT(w:World)(b:Nat)(m:za):Prop:=bO prog 26 iX aeo w b m
structure dw(w:World)(fb hb mb:Nat)(v:Value)(h:List ft)(m:za):Prop where
 hd:w.heap[fb]? = some (.cells #[ptrTo hb,.map (some mb)] 325)
 hp:dV w hb v h
 hh:gY h
 far:XT w mb m
 n1:fb≠hb
 n2:fb≠mb
 n3:hb≠mb
 n4:v.ownBlock≠some fb
 n5:v.ownBlock≠some mb
def eo(w:World)(fb:Nat)(B:Nat->Prop)(m:za)(c:Nat):Prop:=
 ∃hb mb v h,dw w fb hb mb v h m/\sG h m/\h.length<=c/\B fb/\B hb/\B mb/\∀b,v.ownBlock=some b->B b
section
variable {w w' W:World} {fb hb mb c:Nat} {B:Nat->Prop} {v v':Value} {h h':List ft} {m m':za}
theorem dw.lt(f:dw w fb hb mb v h m):fb<w.heap.size/\hb<w.heap.size/\mb<w.heap.size/\∀b,v.ownBlock=some b->b<w.heap.size:=
 ⟨(Array.getElem?_eq_some_iff.1 f.hd).1,f.hp.lt,f.far.lt,fun b hb=>(aL f.hp.row b hb).1⟩
theorem dw.kept(f:dw w fb hb mb v h m)(hk:∀b,b=fb\/b=hb\/b=mb\/v.ownBlock=some b->w'.heap[b]? = w.heap[b]?):dw w' fb hb mb v h m:=
 ⟨(hk fb (.inl rfl)).trans f.hd,f.hp.kept (fun b hb=>hk b (hb.elim (fun e=>.inr (.inl e)) (fun e=>.inr (.inr (.inr e))))),f.hh,f.far.kept (hk mb (.inr (.inr (.inl rfl)))),f.n1,f.n2,f.n3,f.n4,f.n5⟩
theorem dw.below(f:dw w fb hb mb v h m)(hbl:Below w.heap.size w w'):dw w' fb hb mb v h m:=by
 obtain⟨l1,l2,l3,l4⟩:=f.lt;grind [kept,Below.block]
theorem eo.kept(f:eo w fb B m c)(hk:∀b,B b->w'.heap[b]? = w.heap[b]?):eo w' fb B m c:=by
 obtain⟨hb,mb,v,h,f,hw,hc,b1,b2,b3,b4⟩:=f;refine⟨hb,mb,v,h,f.kept fun b hb=>hk b ?_,hw,hc,b1,b2,b3,b4⟩;rcases hb with rfl | rfl | rfl | e
 ·exact b1
 ·exact b2
 ·exact b3
 ·exact b4 b e
theorem dw.cells(f:dw w fb hb mb v h m):w.cell? ⟨fb,0,none⟩=some (ptrTo hb)/\w.cell? ⟨fb,1,none⟩=some (.map (some mb)):=
 ⟨by rw[aq f.hd];rfl,by rw[aq f.hd];rfl⟩
theorem dw.mapped(f:dw w fb hb mb v h m)(ob:Obj)(hm:XT (setBlock w mb ob) mb m'):dw (setBlock w mb ob) fb hb mb v h m'/\aH (·=mb) w (setBlock w mb ob):=by
 have ht:∀b,b≠mb->(setBlock w mb ob).heap[b]? = w.heap[b]? := fun b hb=>bg ob hb;refine⟨⟨(ht _ f.n2).trans f.hd,f.hp.kept (fun b hb=>ht b ?_),f.hh,hm,f.n1,f.n2,f.n3,f.n4,f.n5⟩,?_⟩
 ·grind [n3,n5]
 ·exact(aH.refl _ w).setBlock _ _ (.inl rfl)
theorem dw.turned(f:dw w fb hb mb v h m)(hp:dV w' hb v' h')(hh:gY h')(ht:aH (fun b=>b=hb\/v.ownBlock=some b) w w')(hn:∀b,v'.ownBlock=some b->v.ownBlock=some b\/w.heap.size<=b):dw w' fb hb mb v' h' m:=by
 obtain⟨l1,l2,l3,l4⟩:=f.lt;have hk:∀b,b<w.heap.size->b≠hb->v.ownBlock≠some b->w'.heap[b]? = w.heap[b]? := fun b h1 h2 h3=>ht.block b h1 (fun e=>e.elim h2 h3);refine⟨(hk fb l1 f.n1 f.n4).trans f.hd,hp,hh,f.far.kept (hk mb l3 f.n3.symm f.n5),f.n1,f.n2,f.n3,fun e=>?_,fun e=>?_⟩
 ·grind [n4]
 grind [n5]
def A3(w:World)(fb:Nat)(B:Nat->Prop)(m:za)(c:Nat)(e:Ending)(w':World):Prop:=
 e=.returned (.tuple #[])/\eo w' fb (fun b=>B b\/w.heap.size<=b/\b<w'.heap.size) m (c+1)/\aH B w w'
theorem IE(w:World):(zeroValue 62).run prog w=.ok (.int .u64 0) w:=Tryz.zeroValue62 w
theorem IG(hF:eo w fb B m c)(hc:c<65536)(x d:Nat)(hx:x<4294967296):Calls prog 243 #[ptrTo fb,.int .u32 (x:Int),.int .u64 (d:Int)] w (A3 w fb B (qV m x d) c):=by
 have HF0:=aa hF;obtain⟨hb,mb,v,h,f,hw,hlc,b1,b2,b3,b4⟩:=hF;have F:=aa f;have HW:=aa hw;have HB:Hid (B fb/\B hb/\B mb/\∀b,v.ownBlock=some b->B b):=aa ⟨b1,b2,b3,b4⟩;obtain⟨c0,c1⟩:=f.cells;have HG:=aa (fQ hx);have HZ:=aa IE;clear f hw b1 b2 b3 b4;unfold ptrTo A3 at *;by_cases hold:∃old,aB m x=some old/\old<=d
 ·obtain⟨old,hm,hle⟩:=hold;have HM:=aa hm;have aaa:(old:Int)<=(d:Int):=by omega
  have HC:Hid (qV m x d=m):=aa (by grind [qV]);clear hm hle;go_enter func243,ntmps243;go_wp2_with (at_lookup;refine bY _ rfl _ _ _ _ rfl 62 ck dv Tryz.underlying323 (HZ.o _) mb m rfl F.o.far x rfl HG.o ?_;unfold p7;rw[HM.o];simp only[Option.map_some,Option.getD_some,Option.isSome_some]);go_returns;exact⟨rfl,by rw[HC.o];obtain⟨hb,mb,v,h,f,hw,hlc,b1,b2,b3,b4⟩:=HF0.o;exact⟨hb,mb,v,h,f,hw,ae,.inl b1,.inl b2,.inl b3,fun b e=>.inl (b4 b e)⟩,aH.refl _ _⟩
 ·have HC:Hid (qV m x d=aS m x d):=aa (by
   grind [qV])
  clear HF0;have HPU:Hid (∀W,dw W fb hb mb v h (aS m x d)->Calls prog 283 #[ptrTo hb,jW (d,x)] W (AX W hb v h (d,x))):=aa (fun W f=>SH f.hp f.hh (d,x) ae);unfold jW ptrTo at *;dsimp only at HPU;cases hm:aB m x;case' none=>
   have HM:=aa hm;clear hm hold;go_enter func243,ntmps243;go_wp2_with (first | (at_lookup;refine bY _ rfl _ _ _ _ rfl 62 ck dv Tryz.underlying323 (HZ.o _) mb m rfl F.o.far x rfl HG.o ?_;unfold p7;rw[HM.o];simp only[Option.map_none,Option.getD_none,Option.isSome_none]) | (at_mapUpdate;refine eO _ rfl _ _ _ _ rfl 62 ck dv Tryz.underlying323 mb m rfl F.o.far x d rfl rfl HG.o ?_;intro es clock cQ));clear HM
  case' some old=>
   have HM:=aa hm;have aaa:¬(old:Int)<=(d:Int):=fun hle=>hold ⟨old,hm,ae⟩;clear hm hold;go_enter func243,ntmps243;go_wp2_with (first | (at_lookup;refine bY _ rfl _ _ _ _ rfl 62 ck dv Tryz.underlying323 (HZ.o _) mb m rfl F.o.far x rfl HG.o ?_;unfold p7;rw[HM.o];simp only[Option.map_some,Option.getD_some,Option.isSome_some]) | (at_mapUpdate;refine eO _ rfl _ _ _ _ rfl 62 ck dv Tryz.underlying323 mb m rfl F.o.far x d rfl rfl HG.o ?_;intro es clock cQ));clear HM aaa
  all_goals
   obtain⟨f2,oU⟩:=F.o.mapped _ cQ;have F2:=aa f2;have nQ:Hid (aH B w (setBlock w mb (.map es clock))):=aa (oU.mono (fun b _ e=>e▸HB.o.2.2.1));have hs2:(setBlock w mb (.map es clock)).heap.size=w.heap.size:=by grind [setBlock]
   clear cQ f2 oU c0 c1 F hs2;generalize setBlock w mb (.map es clock)=W2 at *;have F3:Hid (dw (W2.alloc (.cells #[.int .u64 (d:Int),.int .u32 (x:Int)] 357)) fb hb mb v h (aS m x d)):=aa (F2.o.below ai);have iu:Hid ((W2.alloc (.cells #[.int .u64 (d:Int),.int .u32 (x:Int)] 357)).cell? ⟨W2.heap.size,0,none⟩=some (.int .u64 (d:Int))/\(W2.alloc (.cells #[.int .u64 (d:Int),.int .u32 (x:Int)] 357)).cell? ⟨W2.heap.size,1,none⟩=some (.int .u32 (x:Int))):=aa ah;have rp:Hid (aH B w (W2.alloc (.cells #[.int .u64 (d:Int),.int .u32 (x:Int)] 357))):=aa (nQ.o.alloc _);clear nQ F2;go_wp2_with fail;generalize W2.alloc (.cells #[.int .u64 (d:Int),.int .u32 (x:Int)] 357)=W3 at *;refine ct (Below W3.heap.size W3) 5 (by rfl) ag (aj.drew) ?_;simp only[List.take_succ_cons,List.take_zero,List.drop_succ_cons,List.drop_zero];iterate 3 (refine qz ?_)
   refine qz ?_ (fun w' hw'=>by have c0:=(F3.o.below hw').cells.1;unfold ptrTo at c0;go_simp<;>rfl);refine qz ?_ (fun w' hw'=>by have c0:=AW hw' iu.o.1;have c1:=AW hw' iu.o.2;go_simp<;>rfl);refine wpQuiet_nil ?_;intro w4 hw4;have F4:=aa (F3.o.below hw4);have ve:=aa (rp.o.bN hw4);have hpu:=aa (HPU.o _ F4.o);clear hw4 F3 rp iu;go_wp2_with fail;refine hpu.o.mono ?_;rintro e w5⟨v5,h5,rfl,FN,T2,aep,rO,Un⟩;have HQ:Hid (eo w5 fb (fun b=>B b\/w.heap.size<=b/\b<w5.heap.size) (aS m x d) (c+1)/\aH B w w5):=aa (by
    obtain⟨b1,b2,b3,b4⟩:=HB.o;refine⟨⟨hb,mb,v5,h5,F4.o.turned FN T2 rO Un,OQ HW.o hx aep,?_,.inl b1,.inl b2,.inl b3,fun b e=>?_⟩,ve.o.trans rO (fun b _ e=>?_)⟩
    ·grind [List.Perm.length_eq,List.length_append]
    ·exact(Un b e).imp (b4 b) (fun e'=>⟨Nat.le_trans ve.o.size e',(aL FN.row b e).1⟩)
    grind)
   clear FN T2 aep rO Un hpu F4 ve;go_wp2;go_returns;grind [Hid.out]
def wW(w:World)(fb:Nat)(B:Nat->Prop)(m:za)(c:Nat)(e:Ending)(w':World):Prop:=
 (qU m=none/\e=.returned (.tuple #[.int .u32 0,.int .u64 0,.bool false])/\aH B w w') \/
 ∃x d,qU m=some (x,d)/\e=.returned (.tuple #[.int .u32 (x:Int),.int .u64 (d:Int),.bool true])/\eo w' fb B (b8 m x) c/\aH B w w'
def Le:Option Value->Nat
 |some (.slice _ n _)=>n
 |_=>0
def SM:Value->Nat
 | .bool true=>1
 |_=>0
theorem dV.Le(hp:dV w hb v h):Le (w.cell? ⟨hb,0,none⟩)=h.length:=by
 obtain⟨a,k,rfl⟩:=az hp.row;rw[hp.cells.1];rfl
theorem SN(hk:(m.map (·.1)).Nodup)(hw:sG [] m):m=[]:=by
 cases m with
 |nil=>rfl
 |cons p m=>exact absurd (hw.1 p.1 p.2 (ko hk ah)) ah
structure td(w:World)(fb hb mb:Nat)(v0:Value)(B:Nat->Prop)(m:za)(c xb:Nat)(ok:Bool)(x:ft)(v:Value)(h:List ft)(W:World):Prop where
 cs:W.heap[xb]? = some (.cells #[.int .u64 (x.1:Int),.int .u32 (x.2:Int)] 357)
 ge:w.heap.size<=xb
 fr:dw W fb hb mb v h m
 ow:v.ownBlock=v0.ownBlock
 tn:aH B w W
 ln:h.length<=c
 yes:ok=true->sG (x::h) m/\∀y∈h,¬ix y x
 no:ok=false->h=[]/\m=[]
section
variable {v0:Value} {xb:Nat} {ok:Bool} {x:ft}
theorem td.of(hk:(m.map (·.1)).Nodup)(f:dw W fb hb mb v h m)(hw:sG h m)(ho:v.ownBlock=v0.ownBlock)(ht:aH B w W)(hl:h.length<=c)(hB:B hb/\∀b,v0.ownBlock=some b->B b){ok:Bool}{x:ft}{v':Value}{l':List ft}{w1 w2:World}(p1:dV w1 hb v' l')(p2:gY l')(p3:aH (fun b=>b=hb\/v.ownBlock=some b) W w1)(p4:v'.ownBlock=v.ownBlock)(p5:l'.length<=h.length)(p6:if ok=true then (x::l').Perm h/\∀y∈l',¬ix y x else h=[]/\l'=[])(hc:w2.heap[xb]? = some (.cells #[.int .u64 (x.1:Int),.int .u32 (x.2:Int)] 357))(vG:w.heap.size<=xb)(hx:∀b,b=fb\/b=hb\/b=mb\/v0.ownBlock=some b->b≠xb)(oU:aH (·=xb) w1 w2):td w fb hb mb v0 B m c xb ok x v' l' w2:=by
 have f1:=f.turned p1 p2 p3 (fun b e=>.inl (p4▸e));obtain⟨l1,l2,l3,l4⟩:=f1.lt;refine⟨hc,vG,f1.kept (fun b hb'=>oU.block b ?_ (hx b ?_)),p4.trans ho,(ht.trans p3 (fun b _ e=>?_)).trans oU (fun b hb e=>?_),Nat.le_trans p5 hl,fun e=>?_,fun e=>?_⟩
 ·grind
 ·grind
 ·grind
 ·omega
 ·rw[if_pos e]at p6;exact⟨⟨fun v d hm=>p6.1.mem_iff.2 (hw.1 v d hm),fun y hy=>hw.2 y (p6.1.mem_iff.1 hy)⟩,p6.2⟩
 grind [SN]
theorem OS(hF:eo w fb B m c)(hc:c<=65536):Calls prog 244 #[ptrTo fb] w (wW w fb B m c):=by
 obtain⟨hb,mb,v0,h0,f,hw,hlc,b1,b2,b3,b4⟩:=hF;have HK:Hid ((m.map (·.1)).Nodup):=aa f.far.keys;have HB:Hid (B fb/\B hb/\B mb/\∀b,v0.ownBlock=some b->B b):=aa ⟨b1,b2,b3,b4⟩;have Uf:=aa f.lt;have aeq:Hid (∀W v h,dw W fb hb mb v h m->h.length<=c->Calls prog 285 #[ptrTo hb] W (Z9 W hb v h)):=aa (fun W v h f hl=>SK f.hp f.hh ae);have F:=aa f;have SP:=aa (aeq.o _ _ _ f hlc);obtain⟨c0,c1⟩:=f.cells;have HZ:=aa IE;have HAP:Hid (∀xb,w.heap.size<=xb->∀b,b=fb\/b=hb\/b=mb\/v0.ownBlock=some b->b≠xb):=aa (fun xb FX b hb'=>by
  grind [Hid.out])
 have HOF:Hid (∀{W:World}{v:Value}{h:List ft}{xb:Nat}{ok:Bool}{x:ft}{v':Value}{l':List ft}{w1 w2:World},dw W fb hb mb v h m->sG h m->v.ownBlock=v0.ownBlock->aH B w W->h.length<=c->dV w1 hb v' l'->gY l'->aH (fun b=>b=hb\/v.ownBlock=some b) W w1->v'.ownBlock=v.ownBlock->l'.length<=h.length->(if ok=true then (x::l').Perm h/\∀y∈l',¬ix y x else h=[]/\l'=[])->w2.heap[xb]? = some (.cells #[.int .u64 (x.1:Int),.int .u32 (x.2:Int)] 357)->w.heap.size<=xb->aH (·=xb) w1 w2->td w fb hb mb v0 B m c xb ok x v' l' w2):=
  aa (fun f hw ho ht hl p1 p2 p3 p4 p5 p6 hc vG oU=>td.of HK.o f hw ho ht hl ⟨HB.o.2.1,HB.o.2.2.2⟩ p1 p2 p3 p4 p5 p6 hc vG (HAP.o _ vG) oU)
 have HW:=aa hw;clear f hw b1 b2 b3 b4;unfold jW ptrTo wW Z9 at *;go_enter func244,ntmps244;go_wp2_with fail;refine SP.o.mono ?_;rintro e w1⟨ok,x,v1,h1,rfl,p1,p2,p3,p4,p5,p6⟩;have Kc:Hid (td w fb hb mb v0 B m c w1.heap.size ok x v1 h1 (w1.alloc (.cells #[.int .u64 (x.1:Int),.int .u32 (x.2:Int)] 357))):=aa (HOF.o F.o HW.o rfl (aH.refl _ _) hlc p1 p2 p3 p4 p5 p6 (heap_alloc_new _ _) p3.size ((aH.refl _ _).alloc _));clear p1 p2 p3 p4 p5 p6 SP F HW c0 c1 hlc;go_wp2_with fail;generalize FX:w1.heap.size=xb1 at *;clear FX;generalize w1.alloc (.cells #[.int .u64 (x.1:Int),.int .u32 (x.2:Int)] 357)=W1 at *;go_loopw [5,6] (fun v5 v6 wr=>∃xb ok x v h,v5=.pointer (some ⟨xb,0,none⟩)/\v6=.bool ok/\Hid (td w fb hb mb v0 B m c xb ok x v h wr)) (fun _ v6 wr=>Le (wr.cell? ⟨hb,0,none⟩)+SM v6)
 case atStart=>grind
 case round=>
  obtain⟨xb,ok,x,v,h,rfl,rfl,HP⟩:=hrel;clear Kc;generalize wr=Wr at *;cases ok with
  |false=>
    obtain⟨rfl,hm0⟩:=HP.out.no rfl;go_wp2;go_returns;exact .inl ⟨by rw[hm0];rfl,rfl,HP.out.tn⟩
  |true=>
    obtain⟨hw,uF⟩:=HP.out.yes rfl;have HW:=aa hw;have Oi:=aa uF;have HG:=aa (fQ (hw.2 x ah));have HLH:=aa HP.out.fr.hp.Le;clear hw uF;obtain⟨D,b,HD,HL⟩:∃(D:Nat)(b:Bool),Hid (aB m x.2=if b=true then some D else none)/\Hid (∀w',Below Wr.heap.size Wr w'->Sem.run prog (Instr.lookup 323 (.map (some mb)) (.int .u32 (x.2:Int)) true) w'=.ok (.tuple #[.int .u64 (D:Int),.bool b]) w'):=by
     have hl:=fun w' hw'=>(HP.out.fr.below (w':=w') hw').far.lookup ck dv Tryz.underlying323 (HZ.o w') x.2 HG.o true;cases e:aB m x.2 with
     |none=>exact⟨0,false,aa ah,aa (fun w' hw'=>by grind [p7])⟩
     |some D=>exact⟨D,true,aa ah,aa (fun w' hw'=>by grind [p7])⟩
    have HR:Hid (∀w',Below Wr.heap.size Wr w'->w'.cell? ⟨fb,0,none⟩=some (.pointer (some ⟨hb,0,none⟩))/\w'.cell? ⟨fb,1,none⟩=some (.map (some mb))/\w'.cell? ⟨xb,0,none⟩=some (.int .u64 (x.1:Int))/\w'.cell? ⟨xb,1,none⟩=some (.int .u32 (x.2:Int))):=aa (fun w' hw'=>by
     have f:=HP.out.fr.below hw';have hcs:w'.heap[xb]? = some (.cells #[.int .u64 (x.1:Int),.int .u32 (x.2:Int)] 357):=(hw'.block _ (Array.getElem?_eq_some_iff.1 HP.out.cs).1).trans HP.out.cs;exact⟨f.cells.1,f.cells.2,by rw[aq hcs];rfl,by rw[aq hcs];rfl⟩)
    have JL:Hid (xb≠mb):=aa (by have:=HP.out.ge;grind [Hid.out]);by_cases aac:b=true/\D=x.1
    ·obtain⟨rfl,rfl⟩:=aac;go_wp2_with fail;refine wq Wr ?_;iterate 3 (refine qz ?_)
     refine qz ?_ (fun w' hw'=>by obtain⟨c0,c1,c2,c3⟩:=HR.o w' hw';go_simp<;>rfl);refine qz ?_;refine qz ?_ (fun w' hw'=>by obtain⟨c0,c1,c2,c3⟩:=HR.o w' hw';go_simp<;>rfl);refine qz ?_ (fun w' hw'=>by have c4:=HL.out w' hw';go_simp<;>rfl);iterate 5 (refine qz ?_)
     refine wpQuiet_nil ?_;intro w3 hw3;have jF:=aa hw3;obtain⟨c0,c1,c2,c3⟩:=HR.o w3 hw3;clear hw3;go_wp2_with fail;clear c0 c1 c2 c3;refine ct (Below w3.heap.size w3) 6 (by rfl) ag (aj.drew) ?_;simp only[List.take_succ_cons,List.take_zero,List.drop_succ_cons,List.drop_zero];iterate 3 (refine qz ?_)
     refine qz ?_ (fun w' hw'=>by obtain⟨c0,c1,c2,c3⟩:=HR.o w' (jF.o.trans (hw'.mono jF.o.size));go_simp<;>rfl);refine qz ?_;refine qz ?_ (fun w' hw'=>by obtain⟨c0,c1,c2,c3⟩:=HR.o w' (jF.o.trans (hw'.mono jF.o.size));go_simp<;>rfl);refine wpQuiet_nil ?_;intro w4 hw4;have oZ:=aa (jF.o.trans (hw4.mono jF.o.size));clear hw4;have F4:=aa (HP.out.fr.below oZ.o);go_wp2_with (at_delete;refine sN _ rfl _ _ _ rfl 62 ck dv Tryz.underlying323 mb m rfl F4.o.far x.2 rfl HG.o ?_;intro es clock lD;obtain⟨f5,rO⟩:=F4.o.mapped _ lD;have F5:=aa f5;have Eh:=aa ((HP.out.tn.bN oZ.o).trans rO (fun b _ e=>e▸HB.o.2.2.1));have c3:(setBlock w4 mb (.map es clock)).cell? ⟨xb,1,none⟩=some (.int .u32 (x.2:Int)):=(by rw[World.cell?_of_block (a:=⟨xb,1,none⟩) (bg (w:=w4) (b:=mb) (.map es clock) JL.o)];exact(HR.o w4 oZ.o).2.2.2);clear f5 rO lD);generalize setBlock w4 mb (.map es clock)=W5 at *;have HQ:Hid (qU m=some (x.2,x.1)/\eo W5 fb B (b8 m x.2) c/\aH B w W5):=aa (by
      have hm:aB m x.2=some x.1:=by assumption
      refine⟨SL HK.o hm (fun v' d' hm'=>?_),⟨hb,mb,v,h,F5.o,?_,HP.out.ln,HB.o.1,HB.o.2.1,HB.o.2.2.1,fun b e=>HB.o.2.2.2 b (HP.out.ow▸e)⟩,Eh.o⟩
      ·rcases List.mem_cons.1 (HW.o.1 _ _ hm') with e | e
       ·rw[e];exact ix.mj _
       ·exact Oi.o _ e
      ·have:=DI HW.o (List.Perm.refl (x::h));rw[hm]at this;simpa using this)
     clear F5 Eh F4 oZ jF;go_returns;exact .inr ⟨_,_,HQ.o.1,rfl,HQ.o.2.1,HQ.o.2.2⟩
    ·have HWM:Hid (sG h m):=aa (by
      have:=DI HW.o (List.Perm.refl (x::h));grind [Hid.out])
     cases b;case' false=>skip
     case' true=>
      have hDz:¬(D:Int)=(x.1:Int):=fun e=>aac ⟨rfl,ae⟩
     all_goals
      clear aac;go_wp2_with fail;refine wq Wr ?_;iterate 3 (refine qz ?_)
      refine qz ?_ (fun w' hw'=>by obtain⟨c0,c1,c2,c3⟩:=HR.o w' hw';go_simp<;>rfl);refine qz ?_;refine qz ?_ (fun w' hw'=>by obtain⟨c0,c1,c2,c3⟩:=HR.o w' hw';go_simp<;>rfl);refine qz ?_ (fun w' hw'=>by have c4:=HL.out w' hw';go_simp<;>rfl);iterate 5 (refine qz ?_)
      refine wpQuiet_nil ?_;intro w3 hw3;have F3:Hid (dw (w3.alloc (.cells #[.int .u64 (x.1:Int),.int .u32 (x.2:Int)] 357)) fb hb mb v h m):=aa (HP.out.fr.below (hw3.alloc hw3.size _));have rp:Hid (aH B w (w3.alloc (.cells #[.int .u64 (x.1:Int),.int .u32 (x.2:Int)] 357))):=aa ((HP.out.tn.bN hw3).alloc _);have JD:Hid ((w3.alloc (.cells #[.int .u64 (x.1:Int),.int .u32 (x.2:Int)] 357)).heap[w3.heap.size]? = some (.cells #[.int .u64 (x.1:Int),.int .u32 (x.2:Int)] 357)):=aa (heap_alloc_new _ _);have Ig:Hid (w.heap.size<=w3.heap.size):=aa (Nat.le_trans HP.out.tn.size hw3.size);obtain⟨c0,c1,c2,c3⟩:=HR.o w3 hw3;have SP:=aa (aeq.o _ _ _ F3.o HP.out.ln);have ajW:=(Array.getElem?_eq_some_iff.1 (HP.out.fr.below hw3).hd).1;clear hw3;go_wp2_with fail;clear c0 c1 c2 c3 ajW;generalize hxs:w3.heap.size=JM at *;generalize w3.alloc (.cells #[.int .u64 (x.1:Int),.int .u32 (x.2:Int)] 357)=W4 at *;clear hxs;refine SP.o.mono ?_;rintro e w5⟨ok,y,v5,h5,rfl,p1,p2,p3,p4,p5,p6⟩;have hx5:w5.heap[JM]? = some (.cells #[.int .u64 (x.1:Int),.int .u32 (x.2:Int)] 357):=(p3.block JM (Array.getElem?_eq_some_iff.1 JD.o).1 (fun e=>by
       rcases e with e | e
       ·exact HAP.o JM Ig.o hb (.inr (.inl rfl)) e.symm
       ·exact HAP.o JM Ig.o JM (.inr (.inr (.inr (HP.out.ow▸e)))) rfl)).trans JD.o
      have s1:=aT hx5 0 (.int .u64 (y.1:Int));have s2:=aT s1 1 (.int .u32 (y.2:Int));have HP7:Hid (td w fb hb mb v0 B m c JM ok y v5 h5 ((w5.setCell ⟨JM,0,none⟩ (.int .u64 (y.1:Int))).setCell ⟨JM,1,none⟩ (.int .u32 (y.2:Int)))):=aa (HOF.o F3.o HWM.o HP.out.ow rp.o HP.out.ln p1 p2 p3 p4 p5 p6 s2 Ig.o (((aH.refl (·=JM) w5).setCell ⟨JM,0,none⟩ _ (.inl rfl)).setCell ⟨JM,1,none⟩ _ (.inl rfl)));have XB:Hid (Le (((w5.setCell ⟨JM,0,none⟩ (.int .u64 (y.1:Int))).setCell ⟨JM,1,none⟩ (.int .u32 (y.2:Int))).cell? ⟨hb,0,none⟩)+SM (.bool ok)<Le (Wr.cell? ⟨hb,0,none⟩)+SM (.bool true)):=aa (by
       rw[HP7.o.fr.hp.Le,HLH.o];cases ok with
       |true=>
         have:=(p6.1).length_eq;simp at this;omega
       |false=>
         have:=p6.2;subst this;show 0+0<h.length+1;omega)
      have q0:w5.cell? ⟨JM,0,none⟩=some (.int .u64 (x.1:Int)):=by rw[aq hx5];rfl
      have q1:w5.cell? ⟨JM,1,none⟩=some (.int .u32 (x.2:Int)):=by rw[aq hx5];rfl
      have q2:∀k,w5.frozen? ⟨JM,k,none⟩=false:=fun k=>aO hx5 k;clear p1 p2 p3 p4 p5 p6 hx5 s1 s2 SP F3 rp JD HLH;go_wp2;grind [Hid.out]
end
end
end
section
open Go.RowKit
theorem OT(x y:Nat)(w:World):(callFunc 241 #[.int .u64 (x:Int),.int .u64 (y:Int),.int .u64 0]).run prog w=.ok (.value (.tuple #[.int .u64 (((x+y)%18446744073709551616:Nat):Int),.int .u64 (((x+y)/18446744073709551616:Nat):Int)])) w:=by
 rw[run_callFunc_extern func241 ag ag ag (e:=add64Entry) ag,run_add64 x y 0 ae ae ae ae];simp only[Result.andThen];congr 5<;>omega
def Lf(x y:Nat):Value:=if x+y<9223372036854775808 then .tuple #[.int .u64 ((x+y:Nat):Int),.bool true] else .tuple #[.int .u64 0,.bool false]
theorem II(x y:Nat)(hx:x<18446744073709551616)(hy:y<18446744073709551616)(w:World):Calls prog 201 #[.int .u64 (x:Int),.int .u64 (y:Int)] w fun e w'=>e=.returned (Lf x y)/\w'=w:=by
 have hr:=OT x y;by_cases h:x+y<9223372036854775808
 ·rw[Nat.mod_eq_of_lt ae,Nat.div_eq_of_lt ae]at hr;have HV:Hid (Lf x y=.tuple #[.int .u64 ((x+y:Nat):Int),.bool true]):=aa (if_pos h);obtain⟨s,hs⟩:∃s,s=x+y:=⟨_,rfl⟩;rw[<- hs]at h hr HV;have h1:¬(s:Int) >= 9223372036854775808:=by omega
  have h2:decide ((s:Int) >= 9223372036854775808)=false:=decide_eq_false h1;clear hs hx hy;go_enter func201,ntmps201;go_wp2_with (simp only[hr]);go_returns;exact⟨by rw[HV.o];rfl,rfl⟩
 ·have HV:Hid (Lf x y=.tuple #[.int .u64 0,.bool false]):=aa (if_neg h);by_cases h3:x+y<18446744073709551616
  ·rw[Nat.mod_eq_of_lt h3,Nat.div_eq_of_lt h3]at hr;obtain⟨s,hs⟩:∃s,s=x+y:=⟨_,rfl⟩;rw[<- hs]at h hr;have h1:(s:Int) >= 9223372036854775808:=by omega
   have h2:decide ((s:Int) >= 9223372036854775808)=true:=decide_eq_true h1;clear hs hx hy h3;go_enter func201,ntmps201;go_wp2_with (simp only[hr]);go_returns;exact⟨by rw[HV.o];rfl,rfl⟩
  ·rw[show(x+y)/18446744073709551616=1 by omega]at hr;generalize (x+y)%18446744073709551616=s at *;clear h3 h hx hy;go_enter func201,ntmps201;go_wp2_with (simp only[hr]);go_returns;exact⟨by rw[HV.o];rfl,rfl⟩
def nc(lo x hi:Int):Int:=min (max lo x) hi
theorem SQ(lo x hi:Int)(h:lo<=hi):lo<=nc lo x hi:=by unfold nc;omega
theorem SR(lo x hi:Int):nc lo x hi<=hi:=by unfold nc;omega
theorem IJ(lo x hi:Int)(w:World) :
 Calls prog 147 #[.int .i64 lo,.int .i64 x,.int .i64 hi] w fun e w'=>e=.returned (.int .i64 (nc lo x hi))/\w'=w:=by
 unfold nc;go_enter func147,ntmps147;go_wp2;all_goals
  go_ret;exact⟨Mk ae,rfl⟩
def SS(i o s l g:Int):Int:=max 0 (1048576+2*nc 0 s 1073741824+g+l-nc 0 i 1073741824-nc 0 o 1073741824)
theorem IK(b:Nat)(x0 x1 x2 x3 x4 x5:Int)(w:World)(h0:w.cell? ⟨b,0,none⟩=some (.int .i64 x0))(h1:w.cell? ⟨b,1,none⟩=some (.int .i64 x1))(h2:w.cell? ⟨b,2,none⟩=some (.int .i64 x2))(h3:w.cell? ⟨b,3,none⟩=some (.int .i64 x3))(h4:w.cell? ⟨b,4,none⟩=some (.int .i64 x4))(h5:w.cell? ⟨b,5,none⟩=some (.int .i64 x5))(b0:0<=x0/\x0<=4294967296)(b1:0<=x1/\x1<=4294967296)(b2:0<=x2/\x2<=4294967296)(b3:0<=x3/\x3<=4294967296)(b4:-4294967296<=x4/\x4<=4294967296)(b5:-4294967296<=x5/\x5<=4294967296) :
  Calls prog 146 #[.slice (some ⟨b,0,none⟩) 6 6] w fun e w'=>e=.returned (.int .i64 (x0+x1+x2+x3+x4+x5))/\w'=w:=by
 obtain⟨b0,b0'⟩:=b0;obtain⟨b1,b1'⟩:=b1;obtain⟨b2,b2'⟩:=b2;obtain⟨b3,b3'⟩:=b3;obtain⟨b4,b4'⟩:=b4;obtain⟨b5,b5'⟩:=b5;go_enter func146,ntmps146;go_wp2;refine wp_loop_rounds 7 ?_;iterate 7 (rw[rounds_succ];go_wp2)
 go_ret;exact⟨rfl,rfl⟩
theorem A4(x:Int):0<=nc 0 x 1073741824/\nc 0 x 1073741824<=1073741824:=⟨SQ _ _ _ af,SR _ _ _⟩
theorem IL(i o s r l g:Int)(w:World)(hl:0<=l)(hl':l<=4294967295)(hg:0<=g)(Mt:g<=4294967295) :
 Calls prog 99 #[.int .i64 i,.int .i64 o,.int .i64 s,.agg #[.int .u32 r,.int .u32 l,.int .u32 g]] w
  fun e w'=>e=.returned (.int .u64 (SS i o s l g))/\Below w.heap.size w w':=by
 obtain⟨i0,i1⟩:=A4 i;obtain⟨o0,o1⟩:=A4 o;obtain⟨s0,s1⟩:=A4 s;go_enter func99,ntmps99;go_wp2;refine ct (fun w'=>∃n,w'=(w.alloc (.cells #[.int .u32 r,.int .u32 l,.int .u32 g] 55)).drewN n) 15 ag ag ⟨1,rfl⟩ ?_;simp only[List.take_succ_cons,List.take_zero,List.drop_succ_cons,List.drop_zero];repeat go_big_quiet_step ((go_at_call 147;exact Calls.quiet_of_same (IJ _ _ _ _)))
 refine wpQuiet_nil ?_;rintro _⟨nq,rfl⟩;go_wp2_with fail;refine(IK _ 1048576 (2*nc 0 s 1073741824) g l (-nc 0 i 1073741824) (-nc 0 o 1073741824) _ (by go_simp) (by go_simp) (by go_simp) (by go_simp) (by go_simp) (by go_simp) ⟨ae,ae⟩ ⟨ae,ae⟩ ⟨ae,ae⟩ ⟨ae,ae⟩ ⟨ae,ae⟩ ⟨ae,ae⟩).mono ?_;rintro e w'⟨rfl,rfl⟩;go_wp2;all_goals
  go_ret;refine⟨?_,?_⟩
  ·exact Mk (by unfold SS;omega)
  ·exact(below_drewN ai _).alloc (by simp[World.drewN]) _
end
section
open Go.RowKit Go.Maps
theorem SU(w:World):kL w (.slice none 0 0) []:=⟨none,0,rfl,.inl rfl⟩
end
section
open Go.RowKit Go.Maps Go.MapKept
section
variable {w w':World} {pb db n sb gb gen N ob ib vb v:Nat} {name:Name} {o o':ar} {d d':Dsk} {L L':aD}
theorem CJ(E:Nat->Dsk->Prop)(h:aQ w pb db n o d L)(hg:cY w o gb pb gen N ob ib vb){i:Int}{x:aJ}(Im:∀W,Below w.heap.size w W->Calls prog 57 #[ptrTo ob,.int .i64 i] W (Il E n pb db W o d L x.bytes)) :
 Calls prog 28 #[ptrTo gb,.int .i64 i] w (pJ E n pb db w o d L x):=by
 have Bx:Hid (∀W,Below w.heap.size w W->Calls prog 60 #[ptrTo ob,.int .i64 i] W (pJ E n pb db W o d L x)):=aa (fun W hW=>sF E (h.below hW) (fun W' hW'=>Im W' (hW.trans (hW'.mono hW.size))));obtain⟨g0,-,-,-,-⟩:=hg.raw.cells;have hgl:=hg.raw.lt;have H:=aa h;clear h hg Im;unfold ptrTo at *;have kK:Hid (Below w.heap.size w (w.alloc (.cells #[.int .u32 0,.int .u32 0,.int .u64 0,.int .u32 0] 64))):=aa ai;have mD:Hid ((w.alloc (.cells #[.int .u32 0,.int .u32 0,.int .u64 0,.int .u32 0] 64)).heap[w.heap.size]? = some (.cells #[.int .u32 0,.int .u32 0,.int .u64 0,.int .u32 0] 64)):=aa (heap_alloc_new w _);have JK:Hid (o w.heap.size=none):=aa (H.o.fresh (Nat.le_refl _));go_enter func28,ntmps28;go_wp2_with fail;generalize w.alloc (.cells #[.int .u32 0,.int .u32 0,.int .u64 0,.int .u32 0] 64)=W0 at *;refine(Bx.o W0 kK.o).mono ?_;rintro e w1⟨c1,d1,o1,y,rfl,ee,tA,Sy,hz1⟩;have hbl:w.heap.size<W0.heap.size:=(Array.getElem?_eq_some_iff.1 mD.o).1;have eu:=aa ((au.aW H.o kK.o).trans ee (fun _ _ h=>h));have kJ:=aa (ee.heap mD.o JK.o (fun h=>h));have Dk:=aa tA;have XK:=aa Sy;have Xv:=aa hz1;have oG:Hid (o1 w.heap.size=none):=aa (ee.free hbl JK.o);clear ee tA Sy hz1;have zk:Hid (∀(w2:World)(a b c e:Value),w2.heap[w.heap.size]? = some (.cells #[.int .u32 0,.int .u32 0,.int .u64 0,.int .u32 0] 64)->((((w2.setCell ⟨w.heap.size,0,none⟩ a).setCell ⟨w.heap.size,1,none⟩ b).setCell ⟨w.heap.size,2,none⟩ c).setCell ⟨w.heap.size,3,none⟩ e).heap[w.heap.size]? = some (.cells #[a,b,c,e] 64)):=aa (fun w2 a b c e h0=>by
  rw[aT (aT (aT (aT h0 0 a) 1 b) 2 c) 3 e];rfl)
 have k0:w1.cell? ⟨w.heap.size,0,none⟩=some (.int .u32 0):=by rw[aq kJ.o];rfl
 have VJ:w1.cell? ⟨w.heap.size,1,none⟩=some (.int .u32 0):=by rw[aq kJ.o];rfl
 have VK:w1.cell? ⟨w.heap.size,2,none⟩=some (.int .u64 0):=by rw[aq kJ.o];rfl
 have k3':w1.cell? ⟨w.heap.size,3,none⟩=some (.int .u32 0):=by rw[aq kJ.o];rfl
 have z0:=aO kJ.o 0;have z1:=aO kJ.o 1;have z2:=aO kJ.o 2;have z3:=aO kJ.o 3;have ajC:w.heap.size<w1.heap.size:=(Array.getElem?_eq_some_iff.1 kJ.o).1;have iu:=aa (zk.o w1 (.int .u32 (y.t.toNat:Int)) (.int .u32 (y.h.toNat:Int)) (.int .u64 (y.x.toNat:Int)) (.int .u32 (y.m.toNat:Int)) kJ.o);have eC:Hid (au (fun _=>False) n pb db w o d ((((w1.setCell ⟨w.heap.size,0,none⟩ (.int .u32 (y.t.toNat:Int))).setCell ⟨w.heap.size,1,none⟩ (.int .u32 (y.h.toNat:Int))).setCell ⟨w.heap.size,2,none⟩ (.int .u64 (y.x.toNat:Int))).setCell ⟨w.heap.size,3,none⟩ (.int .u32 (y.m.toNat:Int))) o1 d1 L):=aa ((((eu.o.setCell _ _ oG.o (.inr (Nat.le_refl _))).setCell _ _ oG.o (.inr (Nat.le_refl _))).setCell _ _ oG.o (.inr (Nat.le_refl _))).setCell _ _ oG.o (.inr (Nat.le_refl _)));go_wp2;generalize ((((w1.setCell ⟨w.heap.size,0,none⟩ (.int .u32 (y.t.toNat:Int))).setCell ⟨w.heap.size,1,none⟩ (.int .u32 (y.h.toNat:Int))).setCell ⟨w.heap.size,2,none⟩ (.int .u64 (y.x.toNat:Int))).setCell ⟨w.heap.size,3,none⟩ (.int .u32 (y.m.toNat:Int)))=w3 at *;have q0:w3.cell? ⟨w.heap.size,0,none⟩=some (.int .u32 (y.t.toNat:Int)):=by rw[aq iu.o];rfl
 have q1:w3.cell? ⟨w.heap.size,1,none⟩=some (.int .u32 (y.h.toNat:Int)):=by rw[aq iu.o];rfl
 have q2:w3.cell? ⟨w.heap.size,2,none⟩=some (.int .u64 (y.x.toNat:Int)):=by rw[aq iu.o];rfl
 have q3:w3.cell? ⟨w.heap.size,3,none⟩=some (.int .u32 (y.m.toNat:Int)):=by rw[aq iu.o];rfl
 clear k0 VJ VK k3' z0 z1 z2 z3;exact bodyPost_ret (v:=.tuple #[.agg #[.int .u32 (y.t.toNat:Int),.int .u32 (y.h.toNat:Int),.int .u64 (y.x.toNat:Int),.int .u32 (y.m.toNat:Int)],.int .i64 (c1:Int)]) (by simp[results,Tryz.results28,go_sem,q0,q1,q2,q3]) rfl ⟨c1,d1,o1,y,rfl,eC.o,Dk.o,XK.o,Xv.o⟩
theorem Fb(HW:aP)(h:aQ w pb db n o d L)(hg:cY w o gb pb gen N ob ib vb){es:List aJ}{fl:Bool}(hL:aB L (aG 101 gen)=some (aw es fl)){i:Nat}{x:aJ}(hi:es[i]? = some x) :
 Calls prog 28 #[ptrTo gb,.int .i64 (i:Int)] w (pJ (fun c d'=>c=0\/kI d d' L c) n pb db w o d L x):=by
 have kB:=aM hi;refine CJ _ h hg (fun W hW=>?_);have:=jo HW (h.below hW) (hg.out.below hW) hg.PW af af hL (dY es) (i:=i) (by rw[List.length_map];exact kB);rw[List.getElem_map]at this;rw[List.getElem?_eq_getElem kB]at hi;rw[Option.some.inj hi]at this;exact this
end
end
section
open Go.RowKit Go.Maps
theorem dM.turn{b b':Bool}{l:List aJ}{out:List aJ}(h:dM b (aK b' l) out):dM b l out:=by
 have k:=bU b' l;refine⟨h.gC,fun e he=>?_,fun x hx hn=>?_⟩
 ·grind [mem]
 ·obtain⟨y,hy,hs⟩:=k.all x hx hn;obtain⟨e,he,hs'⟩:=h.all y hy (hs.symm.loop hn);grind [same.trans]
theorem IM(b b':Bool)(l:List aJ):aK b (aK b' l)=aK b l:=(bU b (aK b' l)).turn.eq
end
section
open Go.RowKit
theorem IP(xt xh xx xm yt yh yx ym:Nat)(w:World) :
 Calls prog 123 #[.agg #[.int .u32 (xt:Int),.int .u32 (xh:Int),.int .u64 (xx:Int),.int .u32 (xm:Int)],.agg #[.int .u32 (yt:Int),.int .u32 (yh:Int),.int .u64 (yx:Int),.int .u32 (ym:Int)]] w fun e w'=>e=.returned (.bool (decide (xt<yt\/xt=yt/\xh<yh)))/\Below w.heap.size w w':=by
 obtain⟨r,jH⟩:∃r:Bool,r=decide (xt<yt\/xt=yt/\xh<yh):=⟨_,rfl⟩;rw[<- jH];rcases Nat.lt_trichotomy xt yt with g | g | g
 ·have hr:Hid (r=true):=aa (by rw[jH];exact decide_eq_true (.inl g));clear jH;have g1:((xt:Nat):Int)<(yt:Int):=by omega
  go_enter func123,ntmps123;go_wp2;go_ret;exact⟨by rw[hr.o];rfl,ai.alloc ah _⟩
 ·subst g;by_cases g:xh<yh
  ·have hr:Hid (r=true):=aa (by rw[jH];exact decide_eq_true (.inr ⟨rfl,g⟩));clear jH;have g1:((xh:Nat):Int)<(yh:Int):=by omega
   go_enter func123,ntmps123;go_wp2;go_ret;exact⟨by rw[hr.o];rfl,ai.alloc ah _⟩
  ·have hr:Hid (r=false):=aa (by rw[jH];exact decide_eq_false ae);clear jH;have g1:¬((xh:Nat):Int)<(yh:Int):=by omega
   go_enter func123,ntmps123;go_wp2;go_ret;exact⟨by rw[hr.o];rfl,ai.alloc ah _⟩
 ·have hr:Hid (r=false):=aa (by rw[jH];exact decide_eq_false ae);clear jH;have g1:¬((xt:Nat):Int)<(yt:Int):=by omega
  have g2:((xt:Int) == (yt:Int))=false:=by rw[beq_eq_false_iff_ne];omega
  have g3:¬((xt:Int)=(yt:Int)):=by omega
  go_enter func123,ntmps123;go_wp2;go_ret;exact⟨by rw[hr.o];rfl,ai.alloc ah _⟩
theorem Fc(xt xh xx xm yt yh yx ym:Nat)(w:World) :
 Calls prog 81 #[.agg #[.int .u32 (xt:Int),.int .u32 (xh:Int),.int .u64 (xx:Int),.int .u32 (xm:Int)],.agg #[.int .u32 (yt:Int),.int .u32 (yh:Int),.int .u64 (yx:Int),.int .u32 (ym:Int)],.int .i64 0] w fun e w'=>e=.returned (.bool (decide (xt<yt\/xt=yt/\xh<yh)))/\Below w.heap.size w w':=by
 obtain⟨r,jH⟩:∃r:Bool,r=decide (xt<yt\/xt=yt/\xh<yh):=⟨_,rfl⟩;rw[<- jH];rcases Nat.lt_trichotomy xt yt with g | g | g
 ·have hr:Hid (r=true):=aa (by rw[jH];exact decide_eq_true (.inl g));clear jH;have g1:((xt:Nat):Int)<(yt:Int):=by omega
  go_enter func81,ntmps81;go_wp2;go_ret;exact⟨by rw[hr.o];rfl,ai.alloc ah _⟩
 ·subst g;by_cases g:xh<yh
  ·have hr:Hid (r=true):=aa (by rw[jH];exact decide_eq_true (.inr ⟨rfl,g⟩));clear jH;have g1:((xh:Nat):Int)<(yh:Int):=by omega
   go_enter func81,ntmps81;go_wp2;go_ret;exact⟨by rw[hr.o];rfl,ai.alloc ah _⟩
  ·have hr:Hid (r=false):=aa (by rw[jH];exact decide_eq_false ae);clear jH;have g1:¬((xh:Nat):Int)<(yh:Int):=by omega
   go_enter func81,ntmps81;go_wp2;go_ret;exact⟨by rw[hr.o];rfl,ai.alloc ah _⟩
 ·have hr:Hid (r=false):=aa (by rw[jH];exact decide_eq_false ae);clear jH;have g1:¬((xt:Nat):Int)<(yt:Int):=by omega
  have g2:((xt:Int) == (yt:Int))=false:=by rw[beq_eq_false_iff_ne];omega
  have g3:¬((xt:Int)=(yt:Int)):=by omega
  go_enter func81,ntmps81;go_wp2;go_ret;exact⟨by rw[hr.o];rfl,ai.alloc ah _⟩
theorem Fe(xt xh xx xm yt yh yx ym:Nat)(w:World) :
 Calls prog 81 #[.agg #[.int .u32 (xt:Int),.int .u32 (xh:Int),.int .u64 (xx:Int),.int .u32 (xm:Int)],.agg #[.int .u32 (yt:Int),.int .u32 (yh:Int),.int .u64 (yx:Int),.int .u32 (ym:Int)],.int .i64 1] w fun e w'=>e=.returned (.bool (decide (xh<yh\/xh=yh/\xt<yt)))/\Below w.heap.size w w':=by
 obtain⟨r,jH⟩:∃r:Bool,r=decide (xh<yh\/xh=yh/\xt<yt):=⟨_,rfl⟩;rw[<- jH];rcases Nat.lt_trichotomy xh yh with g | g | g
 ·have hr:Hid (r=true):=aa (by rw[jH];exact decide_eq_true (.inl g));clear jH;have g1:((xh:Nat):Int)<(yh:Int):=by omega
  go_enter func81,ntmps81;go_wp2;go_ret;exact⟨by rw[hr.o];rfl,ai.alloc ah _⟩
 ·subst g;by_cases g:xt<yt
  ·have hr:Hid (r=true):=aa (by rw[jH];exact decide_eq_true (.inr ⟨rfl,g⟩));clear jH;have g1:((xt:Nat):Int)<(yt:Int):=by omega
   go_enter func81,ntmps81;go_wp2;go_ret;exact⟨by rw[hr.o];rfl,ai.alloc ah _⟩
  ·have hr:Hid (r=false):=aa (by rw[jH];exact decide_eq_false ae);clear jH;have g1:¬((xt:Nat):Int)<(yt:Int):=by omega
   go_enter func81,ntmps81;go_wp2;go_ret;exact⟨by rw[hr.o];rfl,ai.alloc ah _⟩
 ·have hr:Hid (r=false):=aa (by rw[jH];exact decide_eq_false ae);clear jH;have g1:¬((xh:Nat):Int)<(yh:Int):=by omega
  have g2:((xh:Int) == (yh:Int))=false:=by rw[beq_eq_false_iff_ne];omega
  have g3:¬((xh:Int)=(yh:Int)):=by omega
  go_enter func81,ntmps81;go_wp2;go_ret;exact⟨by rw[hr.o];rfl,ai.alloc ah _⟩
theorem Ff(xt xh xx xm yt yh yx ym:Nat)(w:World) :
 Calls prog 124 #[.agg #[.int .u32 (xt:Int),.int .u32 (xh:Int),.int .u64 (xx:Int),.int .u32 (xm:Int)],.agg #[.int .u32 (yt:Int),.int .u32 (yh:Int),.int .u64 (yx:Int),.int .u32 (ym:Int)]] w fun e w'=>e=.returned (.bool (decide (xx<yx\/xx=yx/\(xm+1)%4294967296<(ym+1)%4294967296)))/\Below w.heap.size w w':=by
 have rN:IntKind.u32.wrap ((xm:Int)+1)=(((xm+1)%4294967296:Nat):Int):=by rw[IntKind.wrap_u32];omega
 have hw2:IntKind.u32.wrap ((ym:Int)+1)=(((ym+1)%4294967296:Nat):Int):=by rw[IntKind.wrap_u32];omega
 generalize (xm+1)%4294967296=Ze at *;generalize (ym+1)%4294967296=Zf at *;obtain⟨r,jH⟩:∃r:Bool,r=decide (xx<yx\/xx=yx/\Ze<Zf):=⟨_,rfl⟩;rw[<- jH];rcases Nat.lt_trichotomy xx yx with g | g | g
 ·have hr:Hid (r=true):=aa (by rw[jH];exact decide_eq_true (.inl g));clear jH;have g1:((xx:Nat):Int)<(yx:Int):=by omega
  go_enter func124,ntmps124;go_wp2;go_ret;exact⟨by rw[hr.o];rfl,ai.alloc ah _⟩
 ·subst g;by_cases g:Ze<Zf
  ·have hr:Hid (r=true):=aa (by rw[jH];exact decide_eq_true (.inr ⟨rfl,g⟩));clear jH;have g1:((Ze:Nat):Int)<(Zf:Int):=by omega
   go_enter func124,ntmps124;go_wp2;go_ret;exact⟨by rw[hr.o];rfl,ai.alloc ah _⟩
  ·have hr:Hid (r=false):=aa (by rw[jH];exact decide_eq_false ae);clear jH;have g1:¬((Ze:Nat):Int)<(Zf:Int):=by omega
   go_enter func124,ntmps124;go_wp2;go_ret;exact⟨by rw[hr.o];rfl,ai.alloc ah _⟩
 ·have hr:Hid (r=false):=aa (by rw[jH];exact decide_eq_false ae);clear jH;have g1:¬((xx:Nat):Int)<(yx:Int):=by omega
  have g2:((xx:Int) == (yx:Int))=false:=by rw[beq_eq_false_iff_ne];omega
  have g3:¬((xx:Int)=(yx:Int)):=by omega
  go_enter func124,ntmps124;go_wp2;go_ret;exact⟨by rw[hr.o];rfl,ai.alloc ah _⟩
theorem yr(x y:aJ)(w:World):Calls prog 123 #[.agg #[.int .u32 (x.t.toNat:Int),.int .u32 (x.h.toNat:Int),.int .u64 (x.x.toNat:Int),.int .u32 (x.m.toNat:Int)],.agg #[.int .u32 (y.t.toNat:Int),.int .u32 (y.h.toNat:Int),.int .u64 (y.x.toNat:Int),.int .u32 (y.m.toNat:Int)]] w
 fun e w'=>e=.returned (.bool (decide (pk false x<pk false y)))/\Below w.heap.size w w':=by
 refine(IP _ _ _ _ _ _ _ _ w).mono fun e w' ⟨he,hb⟩=>⟨he.trans ?_,hb⟩;have h1:=x.h.toNat_lt;have h2:=y.h.toNat_lt;rw[decide_eq_decide.2 (show(x.t.toNat<y.t.toNat\/x.t.toNat=y.t.toNat/\x.h.toNat<y.h.toNat)↔pk false x<pk false y by unfold pk;simp only[Bool.false_eq_true,if_false];omega)]
theorem IQ(b:Bool)(x y:aJ)(w:World):Calls prog 81 #[.agg #[.int .u32 (x.t.toNat:Int),.int .u32 (x.h.toNat:Int),.int .u64 (x.x.toNat:Int),.int .u32 (x.m.toNat:Int)],.agg #[.int .u32 (y.t.toNat:Int),.int .u32 (y.h.toNat:Int),.int .u64 (y.x.toNat:Int),.int .u32 (y.m.toNat:Int)],.int .i64 (lY b:Int)] w
 fun e w'=>e=.returned (.bool (decide (pk b x<pk b y)))/\Below w.heap.size w w':=by
 have h1:=x.h.toNat_lt;have h2:=y.h.toNat_lt;have h3:=x.t.toNat_lt;have h4:=y.t.toNat_lt;cases b
 ·refine(Fc _ _ _ _ _ _ _ _ w).mono fun e w' ⟨he,hb⟩=>⟨he.trans ?_,hb⟩;rw[decide_eq_decide.2 (show(x.t.toNat<y.t.toNat\/x.t.toNat=y.t.toNat/\x.h.toNat<y.h.toNat)↔pk false x<pk false y by unfold pk;simp only[Bool.false_eq_true,if_false];omega)]
 ·refine(Fe _ _ _ _ _ _ _ _ w).mono fun e w' ⟨he,hb⟩=>⟨he.trans ?_,hb⟩;rw[decide_eq_decide.2 (show(x.h.toNat<y.h.toNat\/x.h.toNat=y.h.toNat/\x.t.toNat<y.t.toNat)↔pk true x<pk true y by unfold pk;simp only[if_true];omega)]
theorem Fg(x y:aJ)(w:World):Calls prog 124 #[.agg #[.int .u32 (x.t.toNat:Int),.int .u32 (x.h.toNat:Int),.int .u64 (x.x.toNat:Int),.int .u32 (x.m.toNat:Int)],.agg #[.int .u32 (y.t.toNat:Int),.int .u32 (y.h.toNat:Int),.int .u64 (y.x.toNat:Int),.int .u32 (y.m.toNat:Int)]] w
 fun e w'=>e=.returned (.bool (decide (rk x<rk y)))/\Below w.heap.size w w':=by
 refine(Ff _ _ _ _ _ _ _ _ w).mono fun e w' ⟨he,hb⟩=>⟨he.trans ?_,hb⟩;rw[decide_eq_decide.2 (show(x.x.toNat<y.x.toNat\/x.x.toNat=y.x.toNat/\(x.m.toNat+1)%4294967296<(y.m.toNat+1)%4294967296)↔rk x<rk y by unfold rk;omega)]
theorem fq{b:Bool}{out:List aJ}(h:out.Pairwise (fun x y=>pk b x<pk b y)){i j:Nat}(fg:i<j){x y:aJ}(hx:out[i]? = some x)(hy:out[j]? = some y):pk b x<pk b y:=by
 grind [List.pairwise_iff_getElem]
theorem dM.lay{b:Bool}{l out:List aJ}{x:aJ}(h:dM b l out)(hx:x.t≠x.h){k:Nat}(hk:k<=out.length)(h1:∀(i:Nat)(o:aJ),i<k->out[i]? = some o->pk b o<pk b x)(h2:∀(i:Nat)(o:aJ),k<=i->out[i]? = some o->pk b x<pk b o) :
 dM b (l++[x]) (out.take k++x::out.drop k):=by
 have hsp:out=out.take k++out.drop k:=(List.take_append_drop k out).symm;have hlt:∀o∈out.take k,pk b o<pk b x:=fun o ho=>by
  obtain⟨i,hi,rfl⟩:=List.getElem_of_mem ho;rw[List.length_take]at hi;rw[List.getElem_take];exact h1 i _ ae (List.getElem?_eq_getElem ae)
 have xL:∀o∈out.drop k,pk b x<pk b o:=fun o ho=>by
  obtain⟨i,hi,rfl⟩:=List.getElem_of_mem ho;rw[List.length_drop]at hi;rw[List.getElem_drop];exact h2 (k+i) _ ae (List.getElem?_eq_getElem ae)
 have hne:∀o∈out,¬same o x:=fun o ho hs=>by
  grind [iC]
 have hr:=h.gC;rw[hsp,List.pairwise_append]at hr;have mA:∀o,o∈out.take k++x::out.drop k↔o=x\/o∈out:=fun o=>by
  grind
 refine⟨?_,fun o ho=>?_,fun y hy hn=>?_⟩
 ·grind [List.pairwise_cons]
 ·rcases(mA o).1 ho with rfl | ho
  ·refine⟨ah,hx,fun y hy hs=>?_⟩;rcases List.mem_append.1 hy with hy | hy
   ·obtain⟨o',kN,hs'⟩:=h.all y hy (hs.symm.loop hx);grind [same.trans]
   grind
  ·obtain⟨g1,g2,g3⟩:=h.mem o ho;refine⟨List.mem_append_left _ g1,g2,fun y hy hs=>?_⟩;grind [same.symm]
 ·rcases List.mem_append.1 hy with hy | hy
  ·grind [all]
  ·rw[List.mem_singleton.1 hy];exact⟨x,(mA x).2 (.inl rfl),rfl,rfl⟩
theorem dM.over{b:Bool}{l out:List aJ}{x o:aJ}(h:dM b l out){k:Nat}(ho:out[k]? = some o)(hs:same o x)(hr:rk x<rk o):dM b (l++[x]) (out.set k x):=by
 have hk:=(List.getElem?_eq_some_iff.1 ho).1;have Py:pk b x=pk b o:=(iC (b:=b).2 hs).symm;have gV:∀(i:Nat)(y:aJ),(out.set k x)[i]? = some y->(i=k/\y=x)\/(i≠k/\out[i]? = some y):=fun i y hy=>by
  grind
 have aer:∀(i:Nat)(y:aJ),(out.set k x)[i]? = some y->∃z,out[i]? = some z/\pk b z=pk b y:=fun i y hy=>by
  grind
 have kN:=h.mem o (List.mem_of_getElem? ho);refine⟨?_,fun y hy=>?_,fun y hy hn=>?_⟩
 ·rw[List.pairwise_iff_getElem];intro i j hi hj fg;obtain⟨z1,g1,e1⟩:=aer i _ (List.getElem?_eq_getElem hi);obtain⟨z2,g2,e2⟩:=aer j _ (List.getElem?_eq_getElem hj);rw[<- e1,<- e2];exact fq h.gC fg g1 g2
 ·obtain⟨i,hi,rfl⟩:=List.getElem_of_mem hy;rcases gV i _ (List.getElem?_eq_getElem hi) with⟨_,e⟩|⟨hik,e⟩
  ·rw[e];refine⟨ah,hs.loop kN.2.1,fun z hz hzs=>?_⟩;grind [same.trans,same.symm]
  ·generalize (out.set k x)[i]=y at *;obtain⟨g1,g2,g3⟩:=h.mem y (List.mem_of_getElem? e);refine⟨List.mem_append_left _ g1,g2,fun z hz hzs=>?_⟩;rcases List.mem_append.1 hz with hz | hz
   ·grind
   ·rw[List.mem_singleton.1 hz]at hzs;have e1:=iC (b:=b).2 (hs.trans hzs);rcases Nat.lt_or_gt_of_ne hik with hlt | hlt
    ·have:=fq h.gC hlt e ho;omega
    ·have:=fq h.gC hlt ho e;omega
 ·have qh:∀(i:Nat)(z:aJ),out[i]? = some z->∃z'∈out.set k x,same z' z:=fun i z hz=>by
   by_cases hik:i=k
   ·grind [same.symm]
   ·exact⟨z,List.mem_of_getElem? (i:=i) (by grind),rfl,rfl⟩
  rcases List.mem_append.1 hy with hy | hy
  ·obtain⟨z,hz,hzs⟩:=h.all y hy hn;obtain⟨i,hi,rfl⟩:=List.getElem_of_mem hz;obtain⟨z',h1,h2⟩:=qh i _ (List.getElem?_eq_getElem hi);grind [same.trans]
  ·rw[List.mem_singleton.1 hy];obtain⟨z',h1,h2⟩:=qh k o ho;grind [same.trans]
theorem dM.leave{b:Bool}{l out:List aJ}{x:aJ}(h:dM b l out)(hx:x.t=x.h\/∃o∈out,same o x/\rk o<=rk x):dM b (l++[x]) out:=by
 refine⟨h.gC,fun o ho=>?_,fun y hy hn=>?_⟩
 ·obtain⟨g1,g2,g3⟩:=h.mem o ho;refine⟨List.mem_append_left _ g1,g2,fun y hy hs=>?_⟩;rcases List.mem_append.1 hy with hy | hy
  ·grind
  ·rw[List.mem_singleton.1 hy]at hs ⊢;rcases hx with hx |⟨o',kN,hs',hr⟩
   ·exact absurd hx (hs.symm.loop g2)
   ·have e:=iC (b:=b).2 (hs'.trans hs);obtain⟨i,hi,rfl⟩:=List.getElem_of_mem ho;obtain⟨j,hj,rfl⟩:=List.getElem_of_mem kN;rcases Nat.lt_trichotomy i j with hlt | rfl | hlt
    ·have:=fq h.gC hlt (List.getElem?_eq_getElem hi) (List.getElem?_eq_getElem hj);omega
    ·exact hr
    ·have:=fq h.gC hlt (List.getElem?_eq_getElem hj) (List.getElem?_eq_getElem hi);omega
 grind [all]
theorem Lg{l:List aJ}{i:Nat}(hi:i<l.length)(x:aJ) :
 dH (l.set i x)=((((dH l).set (i*4) (.int .u32 (x.t.toNat:Int))).set (i*4+1) (.int .u32 (x.h.toNat:Int))).set (i*4+2) (.int .u64 (x.x.toNat:Int))).set (i*4+3) (.int .u32 (x.m.toNat:Int)):=by
 induction l generalizing i with
 |nil=>cases hi
 |cons y l ih=>
   cases i with
   |zero=>rfl
   |succ i=>
     rw[List.set_cons_succ,dH,dH,ih (by grind)];grind
theorem kh{w:World}{base g cap n:Nat}{l:List aJ}(h:aI w base (.slice (some ⟨g,0,none⟩) n cap) l){i:Nat}(hi:i<l.length)(x:aJ) :
 aI ((((w.setCell ⟨g,i*4,none⟩ (.int .u32 (x.t.toNat:Int))).setCell ⟨g,i*4+1,none⟩ (.int .u32 (x.h.toNat:Int))).setCell ⟨g,i*4+2,none⟩ (.int .u64 (x.x.toNat:Int))).setCell ⟨g,i*4+3,none⟩ (.int .u32 (x.m.toNat:Int))) base (.slice (some ⟨g,0,none⟩) n cap) (l.set i x):=by
 grind [az,Lg,World.ownsRow.stored]
theorem cD{w:World}{base g cap n:Nat}{l:List aJ}(h:aI w base (.slice (some ⟨g,0,none⟩) n cap) l)(j:Nat):w.frozen? ⟨g,j,none⟩=false:=by
 grind [az,World.ownsRow.frozenAt]
theorem DK{w W W':World}{v v':Value}{M:List aJ}{ob:Obj}(hb:Below w.heap.size w W)(hv:aI W w.heap.size v M)(ha:lr v (W.alloc ob) W' v'):Below w.heap.size w W':=by
 obtain⟨hg,_⟩:=ha;have hs:W.heap.size<(W.alloc ob).heap.size:=by simp
 refine hb.trans ⟨hg.os.trans rfl,hg.tape.trans rfl,hg.output.trans rfl,Nat.le_trans (Nat.le_of_lt hs) hg.size,fun x hx=>?_⟩;have:=hb.size;refine(hg.block x ae (fun e=>?_)).trans ((MapKept.heap_alloc W ob).2 x ae);have:=(aL hv x e.symm).2;omega
end
section
open Go.RowKit Go.Maps
def IU(w:World)(es:List aJ)(e:Ending)(w':World):Prop:=∃v,e=.returned v/\aI w' w.heap.size v es/\Below w.heap.size w w'
theorem jX{w:World}{a:Option Addr}{n cap:Nat}{es:List aJ}(h:kL w (.slice a n cap) es):n=es.length/\∀W,Below w.heap.size w W->∀(i:Nat)(x:aJ),es[i]? = some x->∃b off,a=some ⟨b,off,none⟩/\W.cell? ⟨b,off+i*4,none⟩=some (.int .u32 (x.t.toNat:Int))/\W.cell? ⟨b,off+i*4+1,none⟩=some (.int .u32 (x.h.toNat:Int))/\W.cell? ⟨b,off+i*4+2,none⟩=some (.int .u64 (x.x.toNat:Int))/\W.cell? ⟨b,off+i*4+3,none⟩=some (.int .u32 (x.m.toNat:Int)):=by
 have hn:n=es.length:=by
  obtain⟨a',cap',he,_⟩:=h;cases he;rfl
 refine⟨hn,fun W hB i x hx=>?_⟩;obtain⟨a',cap',Co,hce⟩:=h.below hB;cases Co;rcases hce with h0 |⟨b,off,h1,hc⟩
 ·have:=aM hx;omega
 ·exact⟨b,off,h1,hc i x hx⟩
theorem wX{es:List aJ}{i:Nat}{x:aJ}(h:es[i]? = some x):es.take (i+1)=es.take i++[x]:=by
 have hl:=aM h;rw[List.take_succ_eq_append_getElem hl];rw[List.getElem?_eq_getElem hl]at h;rw[Option.some.inj h]
theorem lu{w W:World}{g:Nat}(hb:Below w.heap.size w W)(hg:w.heap.size<=g)(a1 a2 a3 a4:Nat)(v1 v2 v3 v4:Value):Below w.heap.size w ((((W.setCell ⟨g,a1,none⟩ v1).setCell ⟨g,a2,none⟩ v2).setCell ⟨g,a3,none⟩ v3).setCell ⟨g,a4,none⟩ v4):=
 (((hb.setCell hg _).setCell hg _).setCell hg _).setCell hg _
theorem IV{W:World}{g b:Nat}{ob:Option Obj}(hb:W.heap[b]? = ob)(hne:b≠g)(a1 a2 a3 a4:Nat)(v1 v2 v3 v4:Value):((((W.setCell ⟨g,a1,none⟩ v1).setCell ⟨g,a2,none⟩ v2).setCell ⟨g,a3,none⟩ v3).setCell ⟨g,a4,none⟩ v4).heap[b]? = ob:=by
 rw[Below.heap_setCell _ _ _ _ hne,Below.heap_setCell _ _ _ _ hne,Below.heap_setCell _ _ _ _ hne,Below.heap_setCell _ _ _ _ hne];exact hb
theorem OV{out:List aJ}{x y:aJ}{k at':Nat}(hk:at'<k)(yE:k<=out.length)(hy:out[k-1]? = some y):(out.take k++x::out.drop k).set k y=out.take (k-1)++y::out.drop (k-1):=by
 have h1:(out.take k).length=k:=by rw[List.length_take];omega
 rw[List.set_append_right _ _ ae,h1,Nat.sub_self,List.set_cons_zero];obtain⟨q,rfl⟩:∃q,k=q+1:=⟨k-1,ae⟩;rw[Nat.add_sub_cancel]at hy ⊢;have hq:q<out.length:=by omega
 rw[List.getElem?_eq_getElem hq]at hy;rw[List.take_succ_eq_append_getElem hq,List.append_assoc,List.drop_eq_getElem_cons hq,Option.some.inj hy];rfl
theorem OW{out:List aJ}{x y:aJ}{k:Nat}(hk:0<k)(yE:k<=out.length)(hy:out[k-1]? = some y):(out.take k++x::out.drop k)[k-1]? = some y:=by
 rw[List.getElem?_append_left (by rw[List.length_take];omega),List.getElem?_take,if_pos ae];exact hy
theorem A5{out:List aJ}{x y:aJ}{k:Nat}(yE:k<=out.length):(out.take k++y::out.drop k).set k x=out.take k++x::out.drop k:=by
 have h1:(out.take k).length=k:=by rw[List.length_take];omega
 rw[List.set_append_right _ _ ae,h1,Nat.sub_self,List.set_cons_zero]
def VX(w:World)(es:List aJ)(i:Nat)(v:Value)(W:World):Prop:=∃out:List aJ,aI W w.heap.size v out/\dM false (es.take i) out/\out.length<=i/\Below w.heap.size w W
theorem Lh(v:Value)(es:List aJ)(w:World)(hv:kL w v es)(hl:es.length<=10000):Calls prog 80 #[v] w (IU w (aK false es)):=by
 have HV:=aa hv;obtain⟨a,cap,rfl,-⟩:=hv;obtain⟨-,lN⟩:=jX HV.o;have HC:=aa lN;have HX:Hid (∀i,i<es.length->∃x,es[i]? = some x):=aa (fun i hi=>⟨_,List.getElem?_eq_getElem hi⟩);have Cb:Hid (es.take es.length=es):=aa (List.take_of_length_le (Nat.le_refl _));clear lN;generalize hN:es.length=N at *;have HN:=aa hN;clear hN;go_enter func80,ntmps80;go_wp2;go_loopw [3,4] (fun ov iv W=>∃i:Nat,i<=N/\iv=.int .i64 (i:Int)/\VX w es i ov W) (fun _ iv _=>N-(intOf iv).toNat)
 case atStart=>exact⟨0,Nat.zero_le _,rfl,[],World.ownsRow_nil _ _ _ _,dM.nil _,Nat.le_refl _,Below.refl _ _⟩
 case round=>
  generalize u3=ov at *;generalize wr=W0 at *;obtain⟨i,hi,rfl,out,hr,Ay,hol,hb⟩:=hrel;have HR:=aa hr;have mV:=aa Ay;have HB:=aa hb;have hz:w.heap.size<=W0.heap.size:=hb.size;clear hr Ay hb;by_cases hlt:i<N
  ·obtain⟨x,hx⟩:=HX.o i hlt;obtain⟨be,oe,rfl,f0,f1,f2,f3⟩:=HC.o W0 HB.o i x hx;have sk:=aa (wX hx);clear hx;go_upto_region 6 with(fail)
   have cT:Hid (Below W0.heap.size W0 (W0.alloc (.cells #[.int .u32 (x.t.toNat:Int),.int .u32 (x.h.toNat:Int),.int .u64 (x.x.toNat:Int),.int .u32 (x.m.toNat:Int)] 64))):=aa ai;have HQ1:Hid ((W0.alloc (.cells #[.int .u32 (x.t.toNat:Int),.int .u32 (x.h.toNat:Int),.int .u64 (x.x.toNat:Int),.int .u32 (x.m.toNat:Int)] 64)).heap[W0.heap.size]? = some (.cells #[.int .u32 (x.t.toNat:Int),.int .u32 (x.h.toNat:Int),.int .u64 (x.x.toNat:Int),.int .u32 (x.m.toNat:Int)] 64)):=aa (heap_alloc_new W0 _);have hs1:W0.heap.size<(W0.alloc (.cells #[.int .u32 (x.t.toNat:Int),.int .u32 (x.h.toNat:Int),.int .u64 (x.x.toNat:Int),.int .u32 (x.m.toNat:Int)] 64)).heap.size:=by simp
   clear f0 f1 f2 f3;generalize W0.alloc (.cells #[.int .u32 (x.t.toNat:Int),.int .u32 (x.h.toNat:Int),.int .u64 (x.x.toNat:Int),.int .u32 (x.m.toNat:Int)] 64)=W1 at *;have VY:=aa (HB.o.trans (cT.o.mono hz));have ny:Hid (aI W1 w.heap.size ov out):=aa (aV HR.o cT.o);have Ru:Hid (∀y,ov.ownBlock=some y->y<W0.heap.size):=aa (fun y hy=>(aL HR.o y hy).1);generalize W0.heap.size=xb at *;have hz1:w.heap.size<=W1.heap.size:=by omega
   clear HB cT;have BJ:∀W:World,W.heap[xb]? = some (.cells #[.int .u32 (x.t.toNat:Int),.int .u32 (x.h.toNat:Int),.int .u64 (x.x.toNat:Int),.int .u32 (x.m.toNat:Int)] 64)->W.cell? ⟨xb,0,none⟩=some (.int .u32 (x.t.toNat:Int))/\W.cell? ⟨xb,1,none⟩=some (.int .u32 (x.h.toNat:Int))/\W.cell? ⟨xb,2,none⟩=some (.int .u64 (x.x.toNat:Int))/\W.cell? ⟨xb,3,none⟩=some (.int .u32 (x.m.toNat:Int)):=fun W hW=>by
    refine⟨?_,?_,?_,?_⟩<;>rw[aq hW]<;>rfl
   have MW:=aa BJ;clear BJ;by_cases IW:x.t=x.h
   ·have z7:Hid (dM false (es.take (i+1)) out):=aa (by rw[sk.o];exact mV.o.leave (.inl IW));obtain⟨c0,c1,-,-⟩:=MW.o W1 HQ1.o;rw[IW]at c0;clear IW;go_wp2;go_roundw
    case rel=>exact⟨i+1,ae,by go_num,out,ny.o,z7.o,ae,VY.o⟩
    case measure=>simp[intOf];omega
   ·obtain⟨a1,a2,a3,a4,a5⟩:=Am IW;have IX:=aa IW;obtain⟨c0,c1,-,-⟩:=MW.o W1 HQ1.o;obtain⟨oa,oc,Co⟩:∃oa oc,ov=.slice oa out.length oc:=az ny.o;subst Co;have Xn:Hid (∀W,Below W1.heap.size W1 W->∀(j:Nat)(o:aJ),out[j]? = some o->∃g,oa=some ⟨g,0,none⟩/\W.cell? ⟨g,j*4,none⟩=some (.int .u32 (o.t.toNat:Int))/\W.cell? ⟨g,j*4+1,none⟩=some (.int .u32 (o.h.toNat:Int))/\W.cell? ⟨g,j*4+2,none⟩=some (.int .u64 (o.x.toNat:Int))/\W.cell? ⟨g,j*4+3,none⟩=some (.int .u32 (o.m.toNat:Int))):=aa (fun W hB j o ho=>by
     rcases cm ny.o with⟨h1,h2⟩|⟨g,cap,h1,hg,hc1,hc2⟩
     ·rw[h1]at ho;cases ho
     ·cases h1;obtain⟨e0,e1,e2,e3⟩:=bL ny.o ho;exact⟨g,rfl,bo hB e0,bo hB e1,bo hB e2,bo hB e3⟩)
    have JK:Hid (∀j,j<out.length->∃o,out[j]? = some o):=aa (fun j hj=>⟨_,List.getElem?_eq_getElem hj⟩);generalize Qr:out.length=n0 at *;have kV:=aa Qr;clear Qr;go_wp2;go_loopw [6] (fun kv W=>∃k:Nat,k<=n0/\kv=.int .i64 (k:Int)/\(∀(j:Nat)(o:aJ),j<k->out[j]? = some o->pk false o<pk false x)/\Below W1.heap.size W1 W) (fun kv _=>n0-(intOf kv).toNat)
    case atStart=>exact⟨0,Nat.zero_le _,rfl,(fun j o hj=>absurd hj (Nat.not_lt_zero _)),Below.refl _ _⟩
    case round=>
     generalize wr=W2 at *;clear a1 a2 a3 a4 a5 c0 c1;obtain⟨k,hk,rfl,JA,hb2⟩:=hrel;have PO:=aa JA;have cZ:=aa hb2;clear JA hb2;have mE:Hid (∀W,Below W2.heap.size W2 W->W.heap[xb]? = some (.cells #[.int .u32 (x.t.toNat:Int),.int .u32 (x.h.toNat:Int),.int .u64 (x.x.toNat:Int),.int .u32 (x.m.toNat:Int)] 64)):=aa (fun W hB=>((hB.block _ (Nat.lt_of_lt_of_le hs1 cZ.o.size)).trans (cZ.o.block _ hs1)).trans HQ1.o);by_cases yE:k<n0
     ·obtain⟨o,ho⟩:=JK.o k yE;have HO:=aa ho;clear ho;obtain⟨g,rfl,-⟩:=Xn.o W2 cZ.o k o HO.o;have HOW:Hid (∀W,Below W2.heap.size W2 W->W.cell? ⟨g,k*4,none⟩=some (.int .u32 (o.t.toNat:Int))/\W.cell? ⟨g,k*4+1,none⟩=some (.int .u32 (o.h.toNat:Int))/\W.cell? ⟨g,k*4+2,none⟩=some (.int .u64 (o.x.toNat:Int))/\W.cell? ⟨g,k*4+3,none⟩=some (.int .u32 (o.m.toNat:Int))):=aa (fun W hB=>by
       obtain⟨g',e,r⟩:=Xn.o W (cZ.o.trans (hB.mono cZ.o.size)) k o HO.o;cases e;exact r)
      have aN:=aa (fun W=>yr o x W);obtain⟨r,jH⟩:∃r:Bool,r=decide (pk false o<pk false x):=⟨_,rfl⟩;rw[<- jH]at aN;have PN:=aa jH;clear jH;go_wp2_with fail;refine wq W2 ?_;iterate 8 (refine qz ?_)
      refine qz ?_ (fun w' hw'=>by obtain⟨e0,e1,e2,e3⟩:=HOW.o w' hw';go_simp<;>rfl);refine qz ?_ (fun w' hw'=>by obtain⟨e0,e1,e2,e3⟩:=MW.o w' (mE.o w' hw');go_simp<;>rfl);refine qw (fun w' hw'=>(aN.o w').mono fun e w'' ⟨he,hb⟩=>⟨he,hw'.trans (hb.mono hw'.size)⟩) ?_;refine qz ?_;refine wpQuiet_nil ?_;intro W3 hb3;have jF:=aa (cZ.o.trans (hb3.mono cZ.o.size));have iu:Hid (∀W,Below W3.heap.size W3 W->W.heap[xb]? = some (.cells #[.int .u32 (x.t.toNat:Int),.int .u32 (x.h.toNat:Int),.int .u64 (x.x.toNat:Int),.int .u32 (x.m.toNat:Int)] 64)):=aa (fun W hB=>mE.o W (hb3.trans (hB.mono hb3.size)));clear hb3 mE;cases r with
      |true=>
        have aad:Hid (∀(j:Nat)(o':aJ),j<k+1->out[j]? = some o'->pk false o'<pk false x):=aa (fun j o' hj kN=>by
         rcases Nat.lt_or_ge j k with h | h
         ·exact PO.o j o' h kN
         ·obtain rfl:j=k:=by omega
          rw[HO.o]at kN;rw[<- Option.some.inj kN];exact of_decide_eq_true PN.o.symm)
        go_wp2;go_roundw
        case rel=>exact⟨k+1,ae,by go_num,aad.o,jF.o⟩
        case measure=>simp[intOf];omega
      |false=>
        have Ig:Hid (¬pk false o<pk false x):=aa (of_decide_eq_false PN.o.symm);have OX:Hid (∀W,Below W3.heap.size W3 W->W.cell? ⟨g,k*4,none⟩=some (.int .u32 (o.t.toNat:Int))/\W.cell? ⟨g,k*4+1,none⟩=some (.int .u32 (o.h.toNat:Int))/\W.cell? ⟨g,k*4+2,none⟩=some (.int .u64 (o.x.toNat:Int))/\W.cell? ⟨g,k*4+3,none⟩=some (.int .u32 (o.m.toNat:Int))):=aa (fun W hB=>by
         obtain⟨g',e,r⟩:=Xn.o W (jF.o.trans (hB.mono jF.o.size)) k o HO.o;cases e;exact r)
        have gU:=aa (fun W=>yr x o W);obtain⟨r2,hr2⟩:∃r:Bool,r=decide (pk false x<pk false o):=⟨_,rfl⟩;rw[<- hr2]at gU;have aae:=aa hr2;clear hr2 aN HOW;go_wp2_with fail;refine wq W3 ?_;iterate 5 (refine qz ?_)
        refine qz ?_ (fun w' hw'=>by obtain⟨e0,e1,e2,e3⟩:=MW.o w' (iu.o w' hw');go_simp<;>rfl);iterate 3 (refine qz ?_)
        refine qz ?_ (fun w' hw'=>by obtain⟨e0,e1,e2,e3⟩:=OX.o w' hw';go_simp<;>rfl);refine qw (fun w' hw'=>(gU.o w').mono fun e w'' ⟨he,hb⟩=>⟨he,hw'.trans (hb.mono hw'.size)⟩) ?_;iterate 2 (refine qz ?_)
        refine wpQuiet_nil ?_;intro W4 hb4;have oZ:=aa (jF.o.trans (hb4.mono jF.o.size));have xY:Hid (∀W,Below W4.heap.size W4 W->W.heap[xb]? = some (.cells #[.int .u32 (x.t.toNat:Int),.int .u32 (x.h.toNat:Int),.int .u64 (x.x.toNat:Int),.int .u32 (x.m.toNat:Int)] 64)):=aa (fun W hB=>iu.o W (hb4.trans (hB.mono hb4.size)));clear hb4 iu gU OX;cases r2 with
        |false=>
          have HPK:Hid (pk false o=pk false x):=aa (by
           have h1:=Ig.o;have h2:=of_decide_eq_false aae.o.symm;omega)
          have SY:Hid (∀W,Below W4.heap.size W4 W->W.cell? ⟨g,k*4,none⟩=some (.int .u32 (o.t.toNat:Int))/\W.cell? ⟨g,k*4+1,none⟩=some (.int .u32 (o.h.toNat:Int))/\W.cell? ⟨g,k*4+2,none⟩=some (.int .u64 (o.x.toNat:Int))/\W.cell? ⟨g,k*4+3,none⟩=some (.int .u32 (o.m.toNat:Int))):=aa (fun W hB=>by
           obtain⟨g',e,r⟩:=Xn.o W (oZ.o.trans (hB.mono oZ.o.size)) k o HO.o;cases e;exact r)
          have lV:=aa (fun W=>Fg x o W);obtain⟨r3,hr3⟩:∃r:Bool,r=decide (rk x<rk o):=⟨_,rfl⟩;rw[<- hr3]at lV;have aet:=aa hr3;clear hr3;go_wp2_with fail;refine wq W4 ?_;refine qz ?_ (fun w' hw'=>by obtain⟨e0,e1,e2,e3⟩:=MW.o w' (xY.o w' hw');go_simp<;>rfl);iterate 3 (refine qz ?_)
          refine qz ?_ (fun w' hw'=>by obtain⟨e0,e1,e2,e3⟩:=SY.o w' hw';go_simp<;>rfl);refine qw (fun w' hw'=>(lV.o w').mono fun e w'' ⟨he,hb⟩=>⟨he,hw'.trans (hb.mono hw'.size)⟩) ?_;refine wpQuiet_nil ?_;intro W5 oh;have EM:=aa (oZ.o.trans (oh.mono oZ.o.size));have yg:Hid (aI W5 w.heap.size (.slice (some ⟨g,0,none⟩) n0 oc) out):=aa (aV ny.o EM.o);have Bz:Hid (W5.heap[xb]? = some (.cells #[.int .u32 (x.t.toNat:Int),.int .u32 (x.h.toNat:Int),.int .u64 (x.x.toNat:Int),.int .u32 (x.m.toNat:Int)] 64)):=aa (xY.o W5 oh);have aeu:=aa (VY.o.trans (EM.o.mono hz1));clear oh xY lV SY;cases r3 with
          |true=>
            have HBO:Hid (dM false (es.take (i+1)) (out.set k x)):=aa (by
             rw[sk.o];exact mV.o.over HO.o (iC.1 HPK.o) (of_decide_eq_true aet.o.symm))
            have hown:=kh yg.o (i:=k) (by rw[kV.o];exact yE) x;obtain⟨e0,e1,e2,e3⟩:=bL (by rw[kV.o];exact yg.o) HO.o;obtain⟨c0,c1,c2,c3⟩:=MW.o W5 Bz.o;have z0:=cD yg.o (k*4);have z1:=cD yg.o (k*4+1);have z2:=cD yg.o (k*4+2);have z3:=cD yg.o (k*4+3);have hgw:w.heap.size<=g:=aF yg.o g rfl;have Ua:=aa (lu aeu.o hgw (k*4) (k*4+1) (k*4+2) (k*4+3) (.int .u32 (x.t.toNat:Int)) (.int .u32 (x.h.toNat:Int)) (.int .u64 (x.x.toNat:Int)) (.int .u32 (x.m.toNat:Int)));have vP:=aa hown;clear hown;go_wp2;go_roundw
            case rel=>exact⟨i+1,ae,by go_num,out.set k x,vP.o,HBO.o,by rw[List.length_set,kV.o];omega,Ua.o⟩
            case measure=>simp[intOf];omega
          |false=>
            have z7:Hid (dM false (es.take (i+1)) out):=aa (by
             rw[sk.o];exact mV.o.leave (.inr ⟨o,List.mem_of_getElem? HO.o,iC.1 HPK.o,by have:=of_decide_eq_false aet.o.symm;omega⟩))
            go_wp2;go_roundw
            case rel=>exact⟨i+1,ae,by go_num,out,yg.o,z7.o,by rw[kV.o];omega,aeu.o⟩
            case measure=>simp[intOf];omega
        |true=>
          have Li:Hid (dM false (es.take (i+1)) (out.take k++x::out.drop k)):=aa (by
           rw[sk.o];refine mV.o.lay IX.o (by rw[kV.o];exact hk) PO.o (fun j o' hj kN=>?_);have h1:pk false x<pk false o:=of_decide_eq_true aae.o.symm;rcases Nat.eq_or_lt_of_le hj with rfl | hlt
           ·rw[HO.o]at kN;rw[<- Option.some.inj kN];exact h1
           ·exact Nat.lt_trans h1 (fq mV.o.gC hlt HO.o kN))
          have mD:=oZ;clear xY PN aae;have HRx:Hid (aI W4 w.heap.size (.slice (some ⟨g,0,none⟩) n0 oc) out):=aa (aV ny.o mD.o);have hzx:w.heap.size<=W4.heap.size:=Nat.le_trans hz1 mD.o.size;have Vy:out.length<=100000:=by rw[kV.o];omega
          have XS:xb<W4.heap.size:=Nat.lt_of_lt_of_le hs1 mD.o.size;have CE:Hid (W4.heap[xb]? = some (.cells #[.int .u32 (x.t.toNat:Int),.int .u32 (x.h.toNat:Int),.int .u64 (x.x.toNat:Int),.int .u32 (x.m.toNat:Int)] 64)):=aa ((mD.o.block _ hs1).trans HQ1.o);obtain⟨c0,c1,c2,c3⟩:=MW.o W4 CE.o;go_wp2_with (at_builtin;refine cS rfl _ _ rfl w.heap.size _ out rfl HRx.o x 1 rfl Vy hzx ?_);intro v6 W6 A6 Lj;have mW:=aa (DK (VY.o.trans (mD.o.mono hz1)) HRx.o Lj);have qi:W4.heap.size<(W4.alloc (.cells #[.int .u32 (x.t.toNat:Int),.int .u32 (x.h.toNat:Int),.int .u64 (x.x.toNat:Int),.int .u32 (x.m.toNat:Int)] 64)).heap.size:=by simp
          have aaf:Hid (W6.heap[xb]? = some (.cells #[.int .u32 (x.t.toNat:Int),.int .u32 (x.h.toNat:Int),.int .u64 (x.x.toNat:Int),.int .u32 (x.m.toNat:Int)] 64)):=aa (((Lj.1.block xb ae (fun e=>by have:=Ru.o xb e.symm;omega)).trans ((MapKept.heap_alloc W4 _).2 xb XS)).trans CE.o);have SZ:∀y,v6.ownBlock=some y->xb≠y:=fun y hy e=>by
           rcases Lj.2 with h | h
           ·rw[h]at hy;have:=Ru.o y hy;omega
           ·rw[h]at hy;have:=Option.some.inj hy;omega
          obtain⟨n1,BF⟩:∃n1:Nat,n1=n0+1:=⟨_,rfl⟩;have A7:(out++[x]).length=n1:=by rw[List.length_append,kV.o,BF];rfl
          obtain⟨g6,c6,rfl⟩:∃g c,v6=.slice (some ⟨g,0,none⟩) n1 c:=by
           rcases cm A6 with⟨h1,_⟩|⟨g,c,h1,_⟩
           ·simp at h1
           ·exact⟨g,c,by rw[<- A7];exact h1⟩
          have aew:xb≠g6:=SZ g6 rfl;have hg6:w.heap.size<=g6:=aF A6 g6 rfl;have aj1:(n1:Int)-1=(n0:Int):=by omega
          have aj2:n0<n1:=by omega
          have S0:n1<=c6/\c6<=maxLen:=by
           rcases cm A6 with⟨h1,_⟩|⟨g,c,h1,_,h2,h3⟩
           ·simp at h1
           ·rw[A7]at h1 h2;cases h1;exact⟨h2,h3⟩
          obtain⟨aag,Lk⟩:=S0;unfold maxLen at Lk;have BA:Hid (aI W6 w.heap.size (.slice (some ⟨g6,0,none⟩) n1 c6) (out.take n0++x::out.drop n0)):=aa (by
           rw[List.take_of_length_le (by rw[kV.o];exact Nat.le_refl _),List.drop_of_length_le (by rw[kV.o];exact Nat.le_refl _)];exact A6)
          have Gq:=aa BF;clear A6 Lj SZ A7 BF qi c0 c1 c2 c3;go_wp2;go_loopw [7] (fun kv W=>∃(kk:Nat)(y:aJ),k<=kk/\kk<=n0/\kv=.int .i64 (kk:Int)/\aI W w.heap.size (.slice (some ⟨g6,0,none⟩) n1 c6) (out.take kk++y::out.drop kk)/\Below w.heap.size w W/\W.heap[xb]? = some (.cells #[.int .u32 (x.t.toNat:Int),.int .u32 (x.h.toNat:Int),.int .u64 (x.x.toNat:Int),.int .u32 (x.m.toNat:Int)] 64)) (fun kv _=>(intOf kv).toNat)
          case atStart=>exact⟨n0,x,hk,Nat.le_refl _,rfl,BA.o,mW.o,aaf.o⟩
          case round=>
           generalize wr=W7 at *;obtain⟨kk,y,aj3,Ll,rfl,XU,Ms,hx7⟩:=hrel;have BL:=aa XU;have rQ:=aa Ms;have lq:=aa hx7;clear XU Ms hx7;have hMl:(out.take kk++y::out.drop kk).length=n1:=by
            rw[List.length_append,List.length_cons,List.length_take,List.length_drop,kV.o,Gq.o];omega
           have N9:=aa hMl;clear hMl;have HKY:Hid ((out.take kk++y::out.drop kk)[kk]? = some y):=aa (by
            rw[List.getElem?_append_right (by rw[List.length_take];omega),List.length_take,kV.o,Nat.min_eq_left Ll,Nat.sub_self];rfl)
           obtain⟨p0,p1,p2,p3⟩:=bL (by rw[N9.o];exact BL.o) HKY.o;have z0:=cD BL.o (kk*4);have z1:=cD BL.o (kk*4+1);have z2:=cD BL.o (kk*4+2);have z3:=cD BL.o (kk*4+3);by_cases xL:k<kk
           ·obtain⟨q,hq⟩:∃q:Nat,(q:Int)=(kk:Int)-1:=⟨kk-1,ae⟩;have hq':(kk:Int)-1=(q:Int):=hq.symm;have hqk:kk-1=q:=by omega
            have HQK:=aa hqk;have hqn:q<n1:=by omega
            have hql:q<out.length:=by rw[kV.o];omega
            obtain⟨z,hz⟩:∃z,out[q]? = some z:=⟨_,List.getElem?_eq_getElem hql⟩;have hzz:out[kk-1]? = some z:=by rw[hqk];exact hz
            have HZ:Hid ((out.take kk++y::out.drop kk)[q]? = some z):=aa (by
             have:=OW (x:=y) ae (by rw[kV.o];exact Ll) hzz;rw[hqk]at this;exact this)
            have Zg:Hid ((out.take kk++y::out.drop kk).set kk z=out.take q++z::out.drop q):=aa (by
             have:=OV (x:=y) xL (by rw[kV.o];exact Ll) hzz;rw[hqk]at this;exact this)
            have hown:=kh BL.o (i:=kk) (by rw[N9.o];omega) z;rw[Zg.o]at hown;have vP:=aa hown;obtain⟨s0,s1,s2,s3⟩:=bL (by rw[N9.o];exact BL.o) HZ.o;have Ua:=aa (lu rQ.o hg6 (kk*4) (kk*4+1) (kk*4+2) (kk*4+3) (.int .u32 (z.t.toNat:Int)) (.int .u32 (z.h.toNat:Int)) (.int .u64 (z.x.toNat:Int)) (.int .u32 (z.m.toNat:Int)));have HXS:=aa (IV lq.o aew (kk*4) (kk*4+1) (kk*4+2) (kk*4+3) (.int .u32 (z.t.toNat:Int)) (.int .u32 (z.h.toNat:Int)) (.int .u64 (z.x.toNat:Int)) (.int .u32 (z.m.toNat:Int)));clear hq hqk hz hzz hown hql;go_wp2;go_roundw
            case rel=>exact⟨q,z,ae,ae,by first | rfl | go_num,vP.o,Ua.o,HXS.o⟩
            case measure=>simp[intOf];omega
           ·obtain rfl:kk=k:=by omega
            obtain⟨c0,c1,c2,c3⟩:=MW.o W7 lq.o;have hown:=kh BL.o (i:=kk) (by rw[N9.o];omega) x;rw[A5 (by rw[kV.o];exact Ll)]at hown;have vP:=aa hown;have Ua:=aa (lu rQ.o hg6 (kk*4) (kk*4+1) (kk*4+2) (kk*4+3) (.int .u32 (x.t.toNat:Int)) (.int .u32 (x.h.toNat:Int)) (.int .u64 (x.x.toNat:Int)) (.int .u32 (x.m.toNat:Int)));have aj5:kk<n1:=by omega
            clear hown;go_wp2;go_roundw
            case rel=>exact⟨i+1,ae,by go_num,out.take kk++x::out.drop kk,vP.o,Li.o,by rw[List.length_append,List.length_cons,List.length_take,List.length_drop,kV.o];omega,Ua.o⟩
            case measure=>simp[intOf];omega
     ·obtain rfl:n0=k:=by omega
      have Li:Hid (dM false (es.take (i+1)) (out.take n0++x::out.drop n0)):=aa (by
       rw[sk.o];refine mV.o.lay IX.o (by rw[kV.o];exact Nat.le_refl _) PO.o (fun j o' hj kN=>?_);have:=aM kN;rw[kV.o]at this;omega)
      have hdd:decide ((n0:Int)<(n0:Int))=false:=decide_eq_false ae;have aai:decide (n0<n0)=false:=decide_eq_false ae;go_wp2_with fail;go_quiet (fail)
      have hb3:Below W2.heap.size W2 (W2.drewN nq):=below_drewN aj _;have jF:=aa (cZ.o.trans (hb3.mono cZ.o.size));clear hb3;generalize W2.drewN nq=W3 at *;go_wp2_with fail;go_quiet (fail)
      have hb4:Below W3.heap.size W3 (W3.drewN nq):=below_drewN aj _;have mD:=aa (jF.o.trans (hb4.mono jF.o.size));clear hb4 hdd aai;generalize W3.drewN nq=W4 at *;have HRx:Hid (aI W4 w.heap.size (.slice oa n0 oc) out):=aa (aV ny.o mD.o);have hzx:w.heap.size<=W4.heap.size:=Nat.le_trans hz1 mD.o.size;have Vy:out.length<=100000:=by rw[kV.o];omega
      have XS:xb<W4.heap.size:=Nat.lt_of_lt_of_le hs1 mD.o.size;have CE:Hid (W4.heap[xb]? = some (.cells #[.int .u32 (x.t.toNat:Int),.int .u32 (x.h.toNat:Int),.int .u64 (x.x.toNat:Int),.int .u32 (x.m.toNat:Int)] 64)):=aa ((mD.o.block _ hs1).trans HQ1.o);obtain⟨c0,c1,c2,c3⟩:=MW.o W4 CE.o;go_wp2_with (at_builtin;refine cS rfl _ _ rfl w.heap.size _ out rfl HRx.o x 1 rfl Vy hzx ?_);intro v6 W6 A6 Lj;have mW:=aa (DK (VY.o.trans (mD.o.mono hz1)) HRx.o Lj);have qi:W4.heap.size<(W4.alloc (.cells #[.int .u32 (x.t.toNat:Int),.int .u32 (x.h.toNat:Int),.int .u64 (x.x.toNat:Int),.int .u32 (x.m.toNat:Int)] 64)).heap.size:=by simp
      have aaf:Hid (W6.heap[xb]? = some (.cells #[.int .u32 (x.t.toNat:Int),.int .u32 (x.h.toNat:Int),.int .u64 (x.x.toNat:Int),.int .u32 (x.m.toNat:Int)] 64)):=aa (((Lj.1.block xb ae (fun e=>by have:=Ru.o xb e.symm;omega)).trans ((MapKept.heap_alloc W4 _).2 xb XS)).trans CE.o);have SZ:∀y,v6.ownBlock=some y->xb≠y:=fun y hy e=>by
       rcases Lj.2 with h | h
       ·rw[h]at hy;have:=Ru.o y hy;omega
       ·rw[h]at hy;have:=Option.some.inj hy;omega
      obtain⟨n1,BF⟩:∃n1:Nat,n1=n0+1:=⟨_,rfl⟩;have A7:(out++[x]).length=n1:=by rw[List.length_append,kV.o,BF];rfl
      obtain⟨g6,c6,rfl⟩:∃g c,v6=.slice (some ⟨g,0,none⟩) n1 c:=by
       rcases cm A6 with⟨h1,_⟩|⟨g,c,h1,_⟩
       ·simp at h1
       ·exact⟨g,c,by rw[<- A7];exact h1⟩
      have aew:xb≠g6:=SZ g6 rfl;have hg6:w.heap.size<=g6:=aF A6 g6 rfl;have aj1:(n1:Int)-1=(n0:Int):=by omega
      have aj2:n0<n1:=by omega
      have S0:n1<=c6/\c6<=maxLen:=by
       rcases cm A6 with⟨h1,_⟩|⟨g,c,h1,_,h2,h3⟩
       ·simp at h1
       ·rw[A7]at h1 h2;cases h1;exact⟨h2,h3⟩
      obtain⟨aag,Lk⟩:=S0;unfold maxLen at Lk;have BA:Hid (aI W6 w.heap.size (.slice (some ⟨g6,0,none⟩) n1 c6) (out.take n0++x::out.drop n0)):=aa (by
       rw[List.take_of_length_le (by rw[kV.o];exact Nat.le_refl _),List.drop_of_length_le (by rw[kV.o];exact Nat.le_refl _)];exact A6)
      have Gq:=aa BF;clear A6 Lj SZ A7 BF qi c0 c1 c2 c3;go_wp2;go_loopw [7] (fun kv W=>∃(kk:Nat)(y:aJ),n0<=kk/\kk<=n0/\kv=.int .i64 (kk:Int)/\aI W w.heap.size (.slice (some ⟨g6,0,none⟩) n1 c6) (out.take kk++y::out.drop kk)/\Below w.heap.size w W/\W.heap[xb]? = some (.cells #[.int .u32 (x.t.toNat:Int),.int .u32 (x.h.toNat:Int),.int .u64 (x.x.toNat:Int),.int .u32 (x.m.toNat:Int)] 64)) (fun kv _=>(intOf kv).toNat)
      case atStart=>exact⟨n0,x,hk,Nat.le_refl _,rfl,BA.o,mW.o,aaf.o⟩
      case round=>
       generalize wr=W7 at *;obtain⟨kk,y,aj3,Ll,rfl,XU,Ms,hx7⟩:=hrel;have BL:=aa XU;have rQ:=aa Ms;have lq:=aa hx7;clear XU Ms hx7;have hMl:(out.take kk++y::out.drop kk).length=n1:=by
        rw[List.length_append,List.length_cons,List.length_take,List.length_drop,kV.o,Gq.o];omega
       have N9:=aa hMl;clear hMl;have HKY:Hid ((out.take kk++y::out.drop kk)[kk]? = some y):=aa (by
        rw[List.getElem?_append_right (by rw[List.length_take];omega),List.length_take,kV.o,Nat.min_eq_left Ll,Nat.sub_self];rfl)
       obtain⟨p0,p1,p2,p3⟩:=bL (by rw[N9.o];exact BL.o) HKY.o;have z0:=cD BL.o (kk*4);have z1:=cD BL.o (kk*4+1);have z2:=cD BL.o (kk*4+2);have z3:=cD BL.o (kk*4+3);by_cases xL:n0<kk
       ·omega
       ·obtain rfl:kk=n0:=by omega
        obtain⟨c0,c1,c2,c3⟩:=MW.o W7 lq.o;have hown:=kh BL.o (i:=kk) (by rw[N9.o];omega) x;rw[A5 (by rw[kV.o];exact Ll)]at hown;have vP:=aa hown;have Ua:=aa (lu rQ.o hg6 (kk*4) (kk*4+1) (kk*4+2) (kk*4+3) (.int .u32 (x.t.toNat:Int)) (.int .u32 (x.h.toNat:Int)) (.int .u64 (x.x.toNat:Int)) (.int .u32 (x.m.toNat:Int)));have aj5:kk<n1:=by omega
        clear hown;go_wp2;go_roundw
        case rel=>exact⟨i+1,ae,by go_num,out.take kk++x::out.drop kk,vP.o,Li.o,by rw[List.length_append,List.length_cons,List.length_take,List.length_drop,kV.o];omega,Ua.o⟩
        case measure=>simp[intOf];omega
  ·obtain rfl:N=i:=by omega
   go_wp2;go_ret;refine⟨_,rfl,?_,HB.o⟩;have h:=mV.o;rw[Cb.o]at h;rw[<- h.eq];exact HR.o
theorem aaj{x y:aJ}:(y.t=x.t/\y.h=x.h/\y.x=x.x/\y.m=x.m)↔y=x:=by
 cases x;cases y;simp
instance aj6:DecidableEq aJ:=fun y x=>decidable_of_iff (y.t=x.t/\y.h=x.h/\y.x=x.x/\y.m=x.m) aaj
noncomputable section
def aY(es:List aJ)(v:Nat):List aJ:=Ip false v (aK false es)
def fC(es:List aJ)(v:Nat):List aJ:=Ip true v (aK true es)
def S1(l:List Nat):List Nat:=l.foldl (fun a x=>if x∈a then a else a++[x]) []
def cV(es:List aJ)(v:Nat):List Nat:=S1 ((aY es v).map (·.h.toNat)++(fC es v).map (·.t.toNat))
structure zb where
 v:Nat
 k:Nat
 n:List Nat
def S2(i o s:Nat)(x:bW):Nat:=(SS i o s x.l.toNat x.g.toNat).toNat
def oK(es:List aJ)(v:Nat)(x:bW):zb:=⟨v,S2 (fC es v).length (aY es v).length (oJ (aY es) (fun _=>false) (fC es v) (UInt32.ofNat v)).length x,cV es v⟩
def er(es:List aJ)(vs:List bW):List zb:=vs.zipIdx.filterMap fun p=>if p.1.r=4294967295 then some (oK es p.2 p.1) else none
def gH(a b:zb):Prop:=a.k<b.k\/a.k=b.k/\a.v<b.v
instance(a b:zb):Decidable (gH a b):=by unfold gH;infer_instance
def A8(cs:List zb)(v:Nat):Prop:=∃a∈cs,∃b∈cs,b.v∈a.n/\a.v≠b.v/\(gH a b/\b.v=v\/¬gH a b/\a.v=v)
instance(cs:List zb)(v:Nat):Decidable (A8 cs v):=by unfold A8;infer_instance
def kX(cs:List zb):List Nat:=(cs.map (·.v)).filter fun v=>¬A8 cs v
def aA(es:List aJ)(vs:List bW):List Nat:=kX (er es vs)
def gJ(es:List aJ)(ch:List Nat):List aJ:=(aK false es).filter fun x=>x.t.toNat ∉ ch/\x.h.toNat ∉ ch
def iJ(es:List aJ)(ch:List Nat)(v:Nat):List aJ:=oJ (aY es) (fun w=>decide (w∈ch)) (fC es v) (UInt32.ofNat v)
def fM(es:List aJ)(ch:List Nat):List aJ:=gJ es ch++ch.flatMap (iJ es ch)
def wY(es:List aJ)(ch:List Nat):List aJ:=ch.flatMap (aY es)
def fR(es:List aJ)(ch:List Nat):List aJ:=ch.flatMap (fC es)
def kF(lv:UInt32)(vs:List bW)(w:Nat):List bW:=vs.modify w fun x=>⟨x.r,if x.l<lv then lv else x.l,x.g+1⟩
def fZ(es:List aJ)(was:List bW)(done gen:Nat)(vs:List bW)(i v:Nat):List bW:=
 (cV es v).foldl (kF (((was[v]?).map (·.l)).getD 0+1)) (vs.modify v fun x=>⟨UInt32.ofNat (done+i),UInt32.ofNat (gen+1),x.g⟩)
def cn(es:List aJ)(was:List bW)(done gen:Nat)(ch:List Nat):List bW:=ch.zipIdx.foldl (fun vs p=>fZ es was done gen vs p.2 p.1) was
end
end
section
open Go.RowKit Go.Maps
theorem oL{α:Type}[DecidableEq α]{VZ:List α}:∀{l₂:List α},VZ.Nodup->(∀x∈VZ,x∈l₂)->VZ.length<=l₂.length:=by
 induction VZ with
 |nil=>simp
 |cons a l ih=>
   intro l₂ h hs;obtain⟨s,t,rfl⟩:=List.append_of_mem (hs a ah);rw[List.nodup_cons]at h;have:=ih (l₂:=s++t) h.2 (fun x hx=>by
    grind)
   grind
theorem ze{b:Bool}{v:Nat}{l:List aJ}{x:aJ}(h:x∈Ip b v l):x∈l/\fW b x=v:=by
 grind [Ip]
section
variable {w0 w w':World} {pb db n:Nat} {o o':ar} {d d':Dsk} {L L':aD}
theorem Held.SX{w1:World}(h:Held w1 w pb db n o d L)(hb:Below w0.heap.size w0 w1):Held w0 w pb db n o d L:=
 ⟨h.aX,fun x t hx=>Nat.le_trans hb.size (h.new x t hx),hb.trans (h.below.mono hb.size),h.cM,h.dead,h.bD⟩
end
end
section
open Go.RowKit Go.Maps
theorem lx{w:World}{base:Nat}{v:Value}{es:List aJ}(h:aI w base v es):kL w v es:=by
 rcases cm h with⟨rfl,h1⟩|⟨g,cap,rfl,hg,hc1,hc2⟩
 ·obtain⟨a,cap,rfl⟩:=az h;exact⟨a,cap,rfl,.inl rfl⟩
 ·refine⟨some ⟨g,0,none⟩,cap,rfl,.inr ⟨g,0,rfl,fun j x hx=>?_⟩⟩;obtain⟨h1,h2,h3,h4⟩:=bL h hx;rw[Nat.zero_add];exact⟨h1,h2,h3,h4⟩
end
end Go.Proofs.YthkkgdpomhhjjaaGreatDoor
