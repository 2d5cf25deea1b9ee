/-
  Joined.
-/
import Derived.Test.YthkkgdpomhhjjaaGreatDoorC10
import Derived.Deep.RegionLaw
import Derived.BigRegion
import Derived.Maps.Keyed
import Derived.Laws.Externs
import Derived.Laws.BytesArg
import Derived.Laws.OwnMore
set_option maxRecDepth 100000
set_option maxHeartbeats 8000000
namespace Go.Proofs.YthkkgdpomhhjjaaGreatDoor
open Go.Proofs.Tryz
section
open Go.RowKit Go.Maps
section
variable {w w' W:World} {hb g cap:Nat} {v v':Value} {l:List fo}
theorem l9{P:Program}{w:World}{ops:Array Oper}{o:Oper}{a:Act}{K:Act->World->Prop}{Q:Exit->Act->World->Prop}{E:Prop}(hg:o.guard=none)(s x:Operand)(t:TypeId)(ho:o.op=.call { callee:=.builtin .append,args:=#[s,x],argTypes:=#[t,t] })(base:Nat)(e:TypeId)(z:Value)(size bytes:Nat)(ht:P.underlying t=some (.slice e))(hi:(P.info? e).map (fun i=>(i.zero,i.size,i.bytes))=some (some z,size,bytes))(hzs:z.cells.size=size)(hsz:0<size)(v:Value)(n:Nat)(xs:List Value)(hs:a.eval s=v)(hown:w.ownsRow base e size v n xs)(ad:Addr)(m c:Nat)(news:List Value)(hx:a.eval x=.slice (some ad) m c)(hl:news.length=m*size)(hnews:∀j u,news[j]? = some u->w.cell? (ad.add j)=some u)(h1:∀u∈news,u.oneCell'=true)(h63:n+m<=maxLen)(hbytes:(n+m)*bytes<=140737488355328)(hbase:base<=w.heap.size)(k:∀v' w',w'.ownsRow base e size v' (n+m) (xs++news)->lq v w w' v'->K (a.put o.dst v') w'):if Region.wanted o (yielded ops a.tmps)=true then Oper.wp P o a w K Q else E:=by
 have hw:Region.wanted o (yielded ops a.tmps)=true:=by grind [Region.wanted]
 rw[if_pos hw];obtain⟨i0,uV,hz0,hz1,hz2⟩:=info_parts hi;obtain⟨v',w',g1,g2,g3,g4,g5⟩:=run_append_own_at (P:=P) w base t o.type e i0 z size bytes ht uV hz0 hz1 hz2 hzs hsz v n xs hown ad m c news hl hnews h1 h63 hbytes hbase;unfold Oper.wp execOp;simp only[ho,resolve,invoke,builtin,Sem.run_bind,Sem.run_pure,Result.andThen_ok,List.map_toArray,List.map_cons,List.map_nil,hs,hx,g1];exact k v' w' g2 ⟨g3,g5⟩
theorem wG{ops:Array Oper}{o:Oper}{a:Act}{w:World}{K:Act->World->Prop}{Q:Exit->Act->World->Prop}{E:Prop}(hgd:o.guard=none)(s x:Operand)(ho:o.op=.call { callee:=.builtin .append,args:=#[s,x],argTypes:=#[359,359] })(v:Value)(l:List fo)(hs:a.eval s=v)(hown:l6 w v l)(y:fo)(xb c:Nat)(hx:a.eval x=.slice (some ⟨xb,0,none⟩) 1 c)(FK:w.heap[xb]? = some (.cells #[.int .u64 (y.1:Int),.int .u32 (y.2:Int)] 357))(hl:l.length<=100000)(k:∀v' w',l6 w' v' (l++[y])->lq v w w' v'->K (a.put o.dst v') w'):if Region.wanted o (yielded ops a.tmps)=true then Oper.wp prog o a w K Q else E:=by
 refine l9 hgd s x 359 ho 0 357 _ 2 16 Tryz.underlying359 OA rfl af v l.length (eP l) hs hown ⟨xb,0,none⟩ 1 c (fo.cells y) hx rfl (fun j u hj=>?_) (by simp[Value.oneCell']) (by grind [maxLen]) ae (Nat.zero_le _) (fun v' w' h1 h2=>k v' w' ?_ h2)
 ·rw[bG,Nat.zero_add,aq FK];grind
 ·unfold l6;rw[Cz,List.length_append];exact h1
theorem dS.Ik{x:fo}(h:dS W hb v l)(ha:lq v W w' v')(hr:l6 w' v' (l++[x])) :
 w'.cell? ⟨hb,0,none⟩=some v/\w'.frozen? ⟨hb,0,none⟩=false/\dS (w'.setCell ⟨hb,0,none⟩ v') hb v' (l++[x])/\aH (fun b=>b=hb\/v.ownBlock=some b) W (w'.setCell ⟨hb,0,none⟩ v')/\∀b,v'.ownBlock=some b->v.ownBlock=some b\/W.heap.size<=b:=by
 obtain⟨hg,hv⟩:=ha;have hlt:=h.lt;obtain⟨⟨t,h1⟩,h2,h3⟩:=h;have e1:w'.heap[hb]? = some (.cells #[v,ME] t):=by
  grind [World.grownBy.block]
 have X1:∀b,v'.ownBlock=some b->v.ownBlock=some b\/W.heap.size<=b:=fun b hb'=>by
  grind
 have hne:v'.ownBlock≠some hb:=fun e=>by
  grind
 refine⟨by rw[aq e1];rfl,aO e1 _,⟨⟨t,aT e1 0 v'⟩,?_,hne⟩,?_,X1⟩
 ·grind [bI,Below.heap_setCell]
 ·have ht:aH (fun b=>b=hb\/v.ownBlock=some b) W w':=⟨hg.os,hg.tape,hg.output,hg.size,fun k hk hn=>hg.block k hk (fun e=>hn (.inr e.symm))⟩;grind [aH.setCell]
theorem mS(h:dS w hb v l):Calls prog 300 #[ptrTo hb] w fun e w'=>e=.returned (.int .i64 (l.length:Int))/\w'=w:=by
 obtain⟨a,c,rfl⟩:=az h.row;have c0:=h.cells.1;clear h;unfold ptrTo;go_enter func300,ntmps300;go_wp2;go_ret;simp
theorem Il(w:World):Calls prog 242 #[] w fun e w'=>e=.returned (ptrTo w.heap.size)/\dS w' w.heap.size (.slice none 0 0) []/\Below w.heap.size w w'/\w.heap.size<w'.heap.size:=by
 unfold ptrTo;go_enter func242,ntmps242;go_wp2;go_ret;refine⟨rfl,⟨⟨_,heap_alloc_new _ _⟩,World.ownsRow_nil _ _ _ _,by simp[Value.ownBlock]⟩,aj.alloc (Nat.le_refl _) _,ah⟩
theorem KV{x:fo}(h:l6 w v (l++[x])):∃g k M,Hid (M=l.length+1)/\v=.slice (some ⟨g,0,none⟩) M k:=by
 obtain⟨-,⟨h1,h2⟩|⟨g,k,_,h1,_⟩⟩:=h
 ·grind
 grind [aa]
def AG(w:World)(hb:Nat)(v:Value)(l:List fo)(x:fo)(e:Ending)(w':World):Prop:=
 ∃v' l',e=.returned (.int .i64 0)/\dS w' hb v' l'/\gV l'/\l'.Perm (l++[x])/\aH (fun b=>b=hb\/v.ownBlock=some b) w w'/\∀b,v'.ownBlock=some b->v.ownBlock=some b\/w.heap.size<=b
theorem Ss(h:dS w hb v l)(hh:gV l)(x:fo)(hl:l.length<65536):Calls prog 283 #[ptrTo hb,jT x] w (AG w hb v l x):=by
 obtain⟨a,c,rfl⟩:=az h.row;have H1:Hid (dS (w.alloc (.cells #[.int .u64 (x.1:Int),.int .u32 (x.2:Int)] 357)) hb (.slice a l.length c) l):=aa (h.below ai);have HX:Hid ((w.alloc (.cells #[.int .u64 (x.1:Int),.int .u32 (x.2:Int)] 357)).cell? ⟨w.heap.size,0,none⟩=some (.int .u64 (x.1:Int))/\(w.alloc (.cells #[.int .u64 (x.1:Int),.int .u32 (x.2:Int)] 357)).cell? ⟨w.heap.size,1,none⟩=some (.int .u32 (x.2:Int))):=aa ah;have HT:Hid (aH (fun b=>b=hb\/(Value.slice a l.length c).ownBlock=some b) w (w.alloc (.cells #[.int .u64 (x.1:Int),.int .u32 (x.2:Int)] 357))):=aa ((aH.refl _ w).alloc _);have HH:=aa hh;have hlen:=aa (mS H1.o);have hl':decide ((l.length:Int) >= 65536)=false:=decide_eq_false ae;clear h hh hl;unfold jT ptrTo AG at *;go_enter func283,ntmps283;go_wp2_with fail;refine hlen.o.mono ?_;rintro e w2⟨rfl,rfl⟩;clear hlen;generalize w.alloc (.cells #[.int .u64 (x.1:Int),.int .u32 (x.2:Int)] 357)=W1 at *;go_wp2_with fail;have c0:=H1.o.cells.1;obtain⟨x0,x1⟩:=HX.o;have hlt:=H1.o.lt;have Su:=World.block_lt_of_cell? _ _ x0;have f0:=H1.o.cells.2.2;have cS:Hid (∀ob,Below W1.heap.size W1 (W1.alloc ob).drew):=aa (fun ob=>(aj.alloc (Nat.le_refl _) ob).drew);go_region_law (refine wG rfl _ _ rfl _ l rfl (World.ownsRow.alloc (World.ownsRow.drew H1.o.row) _) x _ 1 rfl (heap_alloc_new _ _) (by grind) ?_;intro v5 w5 h5 ha;obtain⟨g5,k5,M,HM,rfl⟩:=KV h5;obtain⟨c5,f5,FD,rO,Ue⟩:=(H1.o.below (cS.o _)).Ik ha h5;have HA5:=aa (show _/\_/\_ from⟨FD,rO,Ue⟩);clear FD rO Ue ha h5)
 all_goals
  clear c0 x0 x1 hlt Su f0 c5 f5;have H5:Hid (dS (w5.setCell ⟨hb,0,none⟩ (.slice (some ⟨g5,0,none⟩) M k5)) hb (.slice (some ⟨g5,0,none⟩) (l++[x]).length k5) (l++[x])):=aa (by grind [Hid.out]);have D4:=aa ((HT.o.bN (cS.o (.cells #[.int .u64 (x.1:Int),.int .u32 (x.2:Int)] 357))).trans HA5.o.2.1 (fun _ _ e=>e));have OB:Hid (∀b,g5=b->(Value.slice a l.length c).ownBlock=some b\/w.heap.size<=b):=aa (fun b hb=>(HA5.o.2.2 b (by rw[hb];rfl)).imp id (fun e=>Nat.le_trans (HT.o.bN (cS.o (.cells #[.int .u64 (x.1:Int),.int .u32 (x.2:Int)] 357))).size e));clear HA5 cS H1 HT HX;generalize w5.setCell ⟨hb,0,none⟩ (.slice (some ⟨g5,0,none⟩) M k5)=W5 at *;have hlen:=aa (fun W hW=>mS (w:=W) (H5.o.below (w':=W) hW));have ZP:=aa (fun W hW=>ZO (w:=W) (i:=l.length) (H5.o.below (w':=W) hW) ah (Ow HH.o x) (by grind));rw[show(l++[x]).length=M by rw[HM.out];simp]at hlen;have wl:IntKind.i64.wrap ((M:Int)-1)=(l.length:Int):=by grind [Hid.out,ax]
  unfold ptrTo at *;go_wp2_with fail;refine cn (Below W5.heap.size W5) 6 (by rfl) ag (aj.drew) ?_;simp only[List.take_succ_cons,List.take_zero,List.drop_succ_cons,List.drop_zero];iterate 4 (refine qz ?_)
  refine qw (fun w' hw'=>(hlen.o w' hw').mono (fun e w'' h=>⟨h.1,h.2▸hw'⟩)) ?_;refine qz ?_;refine wpQuiet_nil ?_;intro w6 Vc;go_wp2_with fail;refine(ZP.o w6 Vc).mono ?_;rintro e w7⟨l7,rfl,hp7,hh7,Xj,Pt⟩;have TT:=aa ((D4.o.bN Vc).trans Pt (S:=fun b=>b=hb\/(Value.slice a l.length c).ownBlock=some b) (fun y hy e=>by
   grind [Hid.out]))
  clear hlen ZP Vc Pt wl;have Sv:=aa Xj;clear Xj;go_wp2;go_ret;exact⟨_,l7,rfl,Sv.o,hh7,hp7,TT.o,fun b hb=>OB.o b (by cases hb;rfl)⟩
theorem dS.shrink(h:dS W hb (.slice (some ⟨g,0,none⟩) l.length cap) l)(k:Nat)(hk:k<=l.length):dS (W.setCell ⟨hb,0,none⟩ (.slice (some ⟨g,0,none⟩) k cap)) hb (.slice (some ⟨g,0,none⟩) (l.take k).length cap) (l.take k):=by
 obtain⟨⟨t,h1⟩,h2,h3⟩:=h;have e:(l.take k).length=k:=by grind
 have hne:g≠hb:=fun e=>h3 (by rw[e];rfl);refine⟨⟨t,?_⟩,?_,by assumption⟩
 ·rw[e];exact aT h1 0 _
 ·obtain⟨hl,⟨h4,h5⟩|⟨g',cap',cur,h4,h5,h6,h7,h8,h9,h10⟩⟩:=h2
  ·cases h4
  ·cases h4;refine⟨by rw[Cy],.inr ⟨g,cap,cur,rfl,Nat.zero_le _,?_,ae,h8,h9,?_⟩⟩
   ·grind [Below.heap_setCell]
   grind [Ij]
theorem dS.ZQ(h:dS W hb (.slice (some ⟨g,0,none⟩) l.length cap) l)(hl:0<l.length){y:fo}(hy:gI l (l.length-1)=y) :
 dS (((W.setCell ⟨g,0,none⟩ (.int .u64 (y.1:Int))).setCell ⟨g,1,none⟩ (.int .u32 (y.2:Int))).setCell ⟨hb,0,none⟩ (.slice (some ⟨g,0,none⟩) (l.length-1) cap)) hb (.slice (some ⟨g,0,none⟩) (AD l).length cap) (AD l) /\
 aH (fun b=>b=hb\/g=b) W (((W.setCell ⟨g,0,none⟩ (.int .u64 (y.1:Int))).setCell ⟨g,1,none⟩ (.int .u32 (y.2:Int))).setCell ⟨hb,0,none⟩ (.slice (some ⟨g,0,none⟩) (l.length-1) cap)):=by
 subst hy;refine⟨(h.put hl (gI l (l.length-1))).shrink (l.length-1) ah,?_⟩;exact(((aH.refl _ W).setCell _ _ (.inl (.inr rfl))).setCell _ _ (.inl (.inr rfl))).setCell _ _ (.inl (.inl rfl))
theorem Im(h:dS w hb v []):Calls prog 285 #[ptrTo hb] w fun e w'=>e=.returned (.tuple #[jT (0,0),.bool false])/\Below w.heap.size w w':=by
 have hlen:=aa (fun W hW=>mS (w:=W) (h.below (w':=W) hW));have HB:Hid (Below w.heap.size w (w.alloc (.cells #[.int .u64 0,.int .u32 0] 357))):=aa ai;clear h;unfold jT ptrTo at *;go_enter func285,ntmps285;go_wp2_with fail;refine(hlen.o _ HB.o).mono ?_;rintro e w2⟨rfl,rfl⟩;go_wp2;go_returns;grind [Hid.out]
def MF(w:World)(hb:Nat)(v:Value)(l:List fo)(e:Ending)(w':World):Prop:=
 ∃v' l',e=.returned (.tuple #[jT (gI l 0),.bool true])/\dS w' hb v' l'/\gV l'/\(gI l 0::l').Perm l/\aH (fun b=>b=hb\/v.ownBlock=some b) w w'/\v'.ownBlock=v.ownBlock
theorem VM(h:dS w hb v l)(hh:gV l)(h0:0<l.length)(hl:l.length<=100000):Calls prog 285 #[ptrTo hb] w (MF w hb v l):=by
 obtain⟨g,cap,rfl⟩:∃g cap,v=.slice (some ⟨g,0,none⟩) l.length cap:=by
  obtain⟨-,⟨h1,h2⟩|⟨g,cap,_,h1,_⟩⟩:=h.row
  ·omega
  grind
 have HB:Hid (Below w.heap.size w (w.alloc (.cells #[.int .u64 0,.int .u32 0] 357))):=aa ai;have H1:=aa (h.below HB.o);have HR:Hid ((w.alloc (.cells #[.int .u64 0,.int .u32 0] 357)).heap[w.heap.size]? = some (.cells #[.int .u64 0,.int .u32 0] 357)):=aa (heap_alloc_new _ _);have hlen:=aa (mS H1.o);have HH:=aa hh;have HN:Hid (hb≠w.heap.size/\g≠w.heap.size/\hb<w.heap.size/\g<w.heap.size):=aa (by
  have h1:=h.lt;have h2:=(aL h.row g rfl).1;omega)
 clear h hh;obtain⟨M,hM⟩:∃M,M=l.length-1:=⟨_,rfl⟩;obtain⟨N,hN⟩:∃N,N=l.length:=⟨_,rfl⟩;have HMN:Hid (M=l.length-1/\N=l.length/\M<l.length):=aa ae;have wM:IntKind.i64.wrap ((N:Int)-1)=(M:Int):=by grind [ax]
 have b0:¬(N:Int)=0:=by omega
 have b1:(0:Int)<(N:Int):=by omega
 have b2:(M:Int)<(N:Int):=by omega
 rw[<- hN]at h0 hl hlen;unfold jT MF ptrTo at *;rw[<- hN];clear hM hN;go_enter func285,ntmps285;go_wp2_with fail;refine hlen.o.mono ?_;rintro e w2⟨rfl,rfl⟩;clear hlen;generalize w.alloc (.cells #[.int .u64 0,.int .u32 0] 357)=W1 at *;obtain⟨c0,-,fh⟩:=H1.o.cells;obtain⟨x0,x1⟩:=H1.o.item (i:=0) (by grind [Hid.out]);obtain⟨y0,y1⟩:=H1.o.item (i:=M) HMN.o.2.2;obtain⟨xx,XF⟩:∃x,gI l 0=x:=⟨_,rfl⟩;obtain⟨yy,ZR⟩:∃x,gI l M=x:=⟨_,rfl⟩;have dQ:=fun k=>World.ownsRow.frozenAt H1.o.row k;rw[XF]at x0 x1;rw[ZR]at y0 y1;rw[<- HMN.o.2.1]at c0;rw[Nat.zero_mul]at x0 x1;obtain⟨n1,n2,n3,n4⟩:=HN.o;have n6:=H1.o.lt;have b4:M<=cap:=by
  obtain⟨-,⟨h,-⟩|⟨_,_,_,h,-,-,h7,-⟩⟩:=H1.o.row
  ·cases h
  grind [Hid.out]
 have n7:=(aL H1.o.row g rfl).1;have n8:=(Array.getElem?_eq_some_iff.1 HR.o).1;have n5:hb≠g:=fun e=>H1.o.ne (by grind);go_wp2_with fail;have mn:=H1.o.ZQ (by grind [Hid.out]) (y:=yy) (by grind [Hid.out]);rw[<- HMN.o.1]at mn;obtain⟨j5,oM⟩:=mn;have pP:=aa (j5.below (aj.alloc (Nat.le_refl _) (.cells #[.int .u64 (xx.1:Int),.int .u32 (xx.2:Int)] 357)));have nM:=aa (oM.alloc (.cells #[.int .u64 (xx.1:Int),.int .u32 (xx.2:Int)] 357));have mz:Hid (((((W1.setCell ⟨g,0,none⟩ (.int .u64 (yy.1:Int))).setCell ⟨g,1,none⟩ (.int .u32 (yy.2:Int))).setCell ⟨hb,0,none⟩ (.slice (some ⟨g,0,none⟩) M cap)).alloc (.cells #[.int .u64 (xx.1:Int),.int .u32 (xx.2:Int)] 357)).heap[W1.heap.size]? = some (.cells #[.int .u64 (xx.1:Int),.int .u32 (xx.2:Int)] 357)):=aa (by
  grind [heap_alloc_new,World.setCell])
 have Bt:Hid (W1.heap.size<((((W1.setCell ⟨g,0,none⟩ (.int .u64 (yy.1:Int))).setCell ⟨g,1,none⟩ (.int .u32 (yy.2:Int))).setCell ⟨hb,0,none⟩ (.slice (some ⟨g,0,none⟩) M cap)).alloc (.cells #[.int .u64 (xx.1:Int),.int .u32 (xx.2:Int)] 357)).heap.size):=aa ah;clear j5 oM x0 x1 y0 y1 dQ c0 fh;generalize ((((W1.setCell ⟨g,0,none⟩ (.int .u64 (yy.1:Int))).setCell ⟨g,1,none⟩ (.int .u32 (yy.2:Int))).setCell ⟨hb,0,none⟩ (.slice (some ⟨g,0,none⟩) M cap)).alloc (.cells #[.int .u64 (xx.1:Int),.int .u32 (xx.2:Int)] 357))=W2 at *;refine(Sq pP.o (Ox HH.o) (by grind [xZ,Hid.out])).mono ?_;rintro e w3⟨l3,rfl,Pv,hh3,Xc,yz⟩;have HA3:=aa Xc;have r0:w3.heap[W1.heap.size]? = some (.cells #[.int .u64 (xx.1:Int),.int .u32 (xx.2:Int)] 357):=(yz.block _ Bt.o ae).trans mz.o;have s0:w3.heap[w.heap.size]? = some (.cells #[.int .u64 0,.int .u32 0] 357):=(yz.block _ (Nat.lt_trans n8 Bt.o) ae).trans ((nM.o.block _ n8 ae).trans HR.o);have HQ:Hid (dS ((w3.setCell ⟨w.heap.size,0,none⟩ (.int .u64 (xx.1:Int))).setCell ⟨w.heap.size,1,none⟩ (.int .u32 (xx.2:Int))) hb (.slice (some ⟨g,0,none⟩) (AD l).length cap) l3/\aH (fun b=>b=hb\/(Value.slice (some ⟨g,0,none⟩) N cap).ownBlock=some b) w ((w3.setCell ⟨w.heap.size,0,none⟩ (.int .u64 (xx.1:Int))).setCell ⟨w.heap.size,1,none⟩ (.int .u32 (xx.2:Int)))/\(xx::l3).Perm l):=aa (by
  refine⟨HA3.o.kept (fun b hb'=>?_),?_,(Pv.cons xx).trans (XF▸Oy (by grind [Hid.out]))⟩
  ·have hne:b≠w.heap.size:=by
    rcases hb' with rfl | e
    ·exact n1
    ·cases e;exact n2
   grind [Below.heap_setCell]
  ·refine((((aH.aU HB.o).trans nM.o (fun b _ e=>?_)).trans yz (fun b _ e=>?_)).setCell _ _ (.inr (Nat.le_refl _))).setCell _ _ (.inr (Nat.le_refl _))
   ·exact e.imp id (fun e=>by rw[e];rfl)
   ·exact .inr (by rw[e];rfl))
 have q0:w3.cell? ⟨W1.heap.size,0,none⟩=some (.int .u64 (xx.1:Int)):=by rw[aq r0];rfl
 have q1:w3.cell? ⟨W1.heap.size,1,none⟩=some (.int .u32 (xx.2:Int)):=by rw[aq r0];rfl
 have q2:w3.cell? ⟨w.heap.size,0,none⟩=some (.int .u64 0):=by rw[aq s0];rfl
 have q3:w3.cell? ⟨w.heap.size,1,none⟩=some (.int .u32 0):=by rw[aq s0];rfl
 have q4:∀k,w3.frozen? ⟨w.heap.size,k,none⟩=false:=fun k=>aO s0 k;have s1:=aT s0 0 (.int .u64 (xx.1:Int));have s2:=aT s1 1 (.int .u32 (xx.2:Int));have e0:(w3.setCell ⟨w.heap.size,0,none⟩ (.int .u64 (xx.1:Int))).cell? ⟨w.heap.size,0,none⟩=some (.int .u64 (xx.1:Int)):=by rw[aq s1];rfl
 have e1:((w3.setCell ⟨w.heap.size,0,none⟩ (.int .u64 (xx.1:Int))).setCell ⟨w.heap.size,1,none⟩ (.int .u32 (xx.2:Int))).cell? ⟨w.heap.size,1,none⟩=some (.int .u32 (xx.2:Int)):=by rw[aq s2];rfl
 clear s1 s2;have FJ:=aa hh3;have HXX:=aa XF;clear Xc Pv yz r0 s0 HA3 pP nM mz H1 HR hh3 XF HB Bt;go_wp2;refine bodyPost_ret (by simp[results,Tryz.results285,go_sem,e0,e1];try rfl) rfl ?_;exact⟨_,l3,by rw[HXX.o],HQ.o.1,FJ.o,by grind [Hid.out],HQ.o.2.1,rfl⟩
def ZT(w:World)(hb:Nat)(v:Value)(l:List fo)(e:Ending)(w':World):Prop:=
 ∃(ok:Bool)(x:fo)(v':Value)(l':List fo),e=.returned (.tuple #[jT x,.bool ok])/\dS w' hb v' l'/\gV l'/\aH (fun b=>b=hb\/v.ownBlock=some b) w w'/\v'.ownBlock=v.ownBlock/\l'.length<=l.length/\if ok=true then (x::l').Perm l/\∀y∈l',¬ir y x else l=[]/\l'=[]
theorem Sw(h:dS w hb v l)(hh:gV l)(hl:l.length<=100000):Calls prog 285 #[ptrTo hb] w (ZT w hb v l):=by
 rcases Nat.eq_zero_or_pos l.length with h0 | h0
 ·obtain rfl:=List.eq_nil_of_length_eq_zero h0;refine(Im h).mono ?_;rintro e w'⟨rfl,hb⟩;exact⟨false,_,v,[],rfl,h.below hb,hh,aH.aU hb,rfl,Nat.le_refl _,ah⟩
 ·refine(VM h hh h0 hl).mono ?_;rintro e w'⟨v',l',rfl,h1,h2,h3,h4,h5⟩;refine⟨true,_,v',l',rfl,h1,h2,h4,h5,by have:=h3.length_eq;grind,?_⟩;rw[if_pos rfl];refine⟨h3,fun y hy=>?_⟩;obtain⟨j,hj⟩:=List.mem_iff_getElem?.1 (h3.mem_iff.1 (List.mem_cons_of_mem _ hy));have hlt:=(List.getElem?_eq_some_iff.1 hj).1;rw[<- Ih hj];grind [Sm]
end
end
section
open Go.RowKit Go.Maps
abbrev yV:=List (Nat×Nat)
def sB(h:List fo)(m:yV):Prop:=(∀v d,aA m v=some d->(d,v)∈h)/\∀y∈h,y.2<4294967296
def qQ:yV->Option (Nat×Nat)
 | []=>none
 |p::m=>match qQ m with
   |none=>some p
   |some q=>if ir (p.2,p.1) (q.2,q.1) then some p else some q
theorem AH{m:yV}(h:qQ m=none):m=[]:=by
 cases m with
 |nil=>rfl
 |cons p m=>
   grind [qQ]
theorem AJ{m:yV}{q:Nat×Nat}(h:qQ m=some q):q∈m/\∀p∈m,¬ir (p.2,p.1) (q.2,q.1):=by
 induction m generalizing q with
 |nil=>cases h
 |cons p m ih=>
   rw[qQ]at h;split at h
   ·grind [AH,ir.lZ]
   ·rename_i q' e
    split at h
    ·rename_i hl
     grind [ir.oG,ir.asym]
    grind
theorem Sx{m:yV}(hn:(m.map (·.1)).Nodup){v d:Nat}(hm:aA m v=some d)(hl:∀v' d',aA m v'=some d'->¬ir (d',v') (d,v)):qQ m=some (v,d):=by
 cases e:qQ m with
 |none=>rw[AH e]at hm;cases hm
 |some q=>
   grind [AJ,km,eI,ir.eq]
def qR(m:yV)(v d:Nat):yV:=match aA m v with
 |some old=>if old<=d then m else aS m v d
 |none=>aS m v d
theorem OC{h h':List fo}{m:yV}(hw:sB h m){v d:Nat}(hv:v<4294967296)(hp:h'.Perm (h++[(d,v)])):sB h' (aS m v d):=by
 refine⟨fun v' d' hm=>?_,fun y hy=>?_⟩;rotate_left
 ·rcases List.mem_append.1 (hp.mem_iff.1 hy) with h | h
  ·exact hw.2 y h
  grind
 rw[ay]at hm;refine hp.mem_iff.2 (List.mem_append.2 ?_);split at hm
 ·grind
 ·exact .inl (hw.1 _ _ hm)
theorem Dx{h h':List fo}{m:yV}(hw:sB h m){x:fo}(hp:(x::h').Perm h):sB h' (match aA m x.2 with | some d=>if d=x.1 then b7 m x.2 else m | none=>m):=by
 have key:∀v d,aA m v=some d->¬(v=x.2/\d=x.1)->(d,v)∈h':=by
  intro v d hm hne;rcases List.mem_cons.1 (hp.mem_iff.2 (hw.1 v d hm)) with e | e
  ·grind
  omega
 refine⟨fun v d hm=>?_,fun y hy=>hw.2 y (by grind)⟩;grind [cO]
def kQ(A:Nat->Bool)(S:List Nat)(Io:Nat)(m:yV)(es:List aF):yV:=
 es.foldl (fun m x=>if Io+x.x.toNat<9223372036854775808/\x.h.toNat ∉ S/\A x.h.toNat=false then qR m x.h.toNat (Io+x.x.toNat) else m) m
def mU(E:Nat->List aF)(A:Nat->Bool)(tgt most:Nat):Nat->yV->List Nat->Bool
 |0,_,_=>false
 |k+1,m,S=>match qQ m with
   |none=>false
   |some (v,d)=>if most<d then false else if v=tgt then true else mU E A tgt most k (kQ A (v::S) d (b7 m v) (E v)) (v::S)
def jF(E:Nat->List aF)(A:Nat->Bool)(v:UInt32)(a b:aF):Option aF:=
 let s:=a.x.toNat+b.x.toNat
 let A':Nat->Bool:=fun w=>w == v.toNat || A w
 if a.t.toNat=b.h.toNat\/A' a.t.toNat=true\/A' b.h.toNat=true\/¬s<9223372036854775808\/(∃x∈E a.t.toNat,x.h.toNat=b.h.toNat/\x.x.toNat<=s)\/mU E A' b.h.toNat s 16 [(a.t.toNat,0)] []=true then none
 else some ⟨a.t,b.h,UInt64.ofNat s,v⟩
def oH(E:Nat->List aF)(A:Nat->Bool)(ins:List aF)(v:UInt32):List aF:=ins.flatMap fun a=>(E v.toNat).filterMap (jF E A v a)
end
section
open Go.RowKit Go.Maps
open Go.ChangeMaps (setBlock)
theorem cg:Keyed prog 26:=int_keyed Tryz.underlying26
abbrev iT(k:Nat):Value:=.int .u32 (k:Int)
abbrev ad0(k:Nat):Value:=.int .u64 (k:Int)
theorem dm:∀a b:Nat,iT a=iT b->a=b:=fun a b h=>by
 grind
theorem fO{k:Nat}(h:k<4294967296):Good prog 26 (iT k):=by
 refine⟨.int .u32 (k:Int),?_⟩;unfold keyOf mapKey;rw[Tryz.underlying26];have:(Lit.int .u32 (k:Int)).wf=true:=by
  have h0:IntKind.u32.min=0:=rfl;have h1:IntKind.u32.max=4294967295:=rfl;grind [Lit.wf]
 grind
abbrev XG(w:World)(b:Nat)(m:yV):Prop:=bO prog 26 iT ad0 w b m
structure dr(w:World)(fb hb mb:Nat)(v:Value)(h:List fo)(m:yV):Prop where
 hd:w.heap[fb]? = some (.cells #[ptrTo hb,.map (some mb)] 325)
 hp:dS w hb v h
 hh:gV h
 far:XG w mb m
 n1:fb≠hb
 n2:fb≠mb
 n3:hb≠mb
 n4:v.ownBlock≠some fb
 n5:v.ownBlock≠some mb
def ee(w:World)(fb:Nat)(B:Nat->Prop)(m:yV)(c:Nat):Prop:=
 ∃hb mb v h,dr w fb hb mb v h m/\sB h m/\h.length<=c/\B fb/\B hb/\B mb/\∀b,v.ownBlock=some b->B b
section
variable {w w' W:World} {fb hb mb c:Nat} {B:Nat->Prop} {v v':Value} {h h':List fo} {m m':yV}
theorem dr.lt(f:dr w fb hb mb v h m):fb<w.heap.size/\hb<w.heap.size/\mb<w.heap.size/\∀b,v.ownBlock=some b->b<w.heap.size:=
 ⟨(Array.getElem?_eq_some_iff.1 f.hd).1,f.hp.lt,f.far.lt,fun b hb=>(aL f.hp.row b hb).1⟩
theorem dr.kept(f:dr w fb hb mb v h m)(hk:∀b,b=fb\/b=hb\/b=mb\/v.ownBlock=some b->w'.heap[b]? = w.heap[b]?):dr w' fb hb mb v h m:=
 ⟨(hk fb (.inl rfl)).trans f.hd,f.hp.kept (fun b hb=>hk b (hb.elim (fun e=>.inr (.inl e)) (fun e=>.inr (.inr (.inr e))))),f.hh,f.far.kept (hk mb (.inr (.inr (.inl rfl)))),f.n1,f.n2,f.n3,f.n4,f.n5⟩
theorem dr.below(f:dr w fb hb mb v h m)(hbl:Below w.heap.size w w'):dr w' fb hb mb v h m:=by
 obtain⟨l1,l2,l3,l4⟩:=f.lt;grind [kept,Below.block]
theorem ee.kept(f:ee w fb B m c)(hk:∀b,B b->w'.heap[b]? = w.heap[b]?):ee w' fb B m c:=by
 obtain⟨hb,mb,v,h,f,hw,hc,b1,b2,b3,b4⟩:=f;refine⟨hb,mb,v,h,f.kept fun b hb=>hk b ?_,hw,hc,b1,b2,b3,b4⟩;rcases hb with rfl | rfl | rfl | e
 ·exact b1
 ·exact b2
 ·exact b3
 ·exact b4 b e
theorem dr.cells(f:dr w fb hb mb v h m):w.cell? ⟨fb,0,none⟩=some (ptrTo hb)/\w.cell? ⟨fb,1,none⟩=some (.map (some mb)):=
 ⟨by rw[aq f.hd];rfl,by rw[aq f.hd];rfl⟩
theorem dr.mapped(f:dr w fb hb mb v h m)(ob:Obj)(hm:XG (setBlock w mb ob) mb m'):dr (setBlock w mb ob) fb hb mb v h m'/\aH (·=mb) w (setBlock w mb ob):=by
 have ht:∀b,b≠mb->(setBlock w mb ob).heap[b]? = w.heap[b]? := fun b hb=>bg ob hb;refine⟨⟨(ht _ f.n2).trans f.hd,f.hp.kept (fun b hb=>ht b ?_),f.hh,hm,f.n1,f.n2,f.n3,f.n4,f.n5⟩,?_⟩
 ·grind [n3,n5]
 ·exact(aH.refl _ w).setBlock _ _ (.inl rfl)
theorem dr.turned(f:dr w fb hb mb v h m)(hp:dS w' hb v' h')(hh:gV h')(ht:aH (fun b=>b=hb\/v.ownBlock=some b) w w')(hn:∀b,v'.ownBlock=some b->v.ownBlock=some b\/w.heap.size<=b):dr w' fb hb mb v' h' m:=by
 obtain⟨l1,l2,l3,l4⟩:=f.lt;have hk:∀b,b<w.heap.size->b≠hb->v.ownBlock≠some b->w'.heap[b]? = w.heap[b]? := fun b h1 h2 h3=>ht.block b h1 (fun e=>e.elim h2 h3);refine⟨(hk fb l1 f.n1 f.n4).trans f.hd,hp,hh,f.far.kept (hk mb l3 f.n3.symm f.n5),f.n1,f.n2,f.n3,fun e=>?_,fun e=>?_⟩
 ·grind [n4]
 grind [n5]
def AK(w:World)(fb:Nat)(B:Nat->Prop)(m:yV)(c:Nat)(e:Ending)(w':World):Prop:=
 e=.returned (.tuple #[])/\ee w' fb (fun b=>B b\/w.heap.size<=b/\b<w'.heap.size) m (c+1)/\aH B w w'
theorem Ip(w:World):(zeroValue 62).run prog w=.ok (.int .u64 0) w:=Tryz.zeroValue62 w
theorem Iq(hF:ee w fb B m c)(hc:c<65536)(x d:Nat)(hx:x<4294967296):Calls prog 243 #[ptrTo fb,.int .u32 (x:Int),.int .u64 (d:Int)] w (AK w fb B (qR m x d) c):=by
 have HF0:=aa hF;obtain⟨hb,mb,v,h,f,hw,hlc,b1,b2,b3,b4⟩:=hF;have F:=aa f;have HW:=aa hw;have HB:Hid (B fb/\B hb/\B mb/\∀b,v.ownBlock=some b->B b):=aa ⟨b1,b2,b3,b4⟩;obtain⟨c0,c1⟩:=f.cells;have HG:=aa (fO hx);have HZ:=aa Ip;clear f hw b1 b2 b3 b4;unfold ptrTo AK at *;by_cases hold:∃old,aA m x=some old/\old<=d
 ·obtain⟨old,hm,hle⟩:=hold;have HM:=aa hm;have VN:(old:Int)<=(d:Int):=by omega
  have HC:Hid (qR m x d=m):=aa (by grind [qR]);clear hm hle;go_enter func243,ntmps243;go_wp2_with (at_lookup;refine bX _ rfl _ _ _ _ rfl 62 cg dm Tryz.underlying323 (HZ.o _) mb m rfl F.o.far x rfl HG.o ?_;unfold pW;rw[HM.o];simp only[Option.map_some,Option.getD_some,Option.isSome_some]);go_returns;exact⟨rfl,by rw[HC.o];obtain⟨hb,mb,v,h,f,hw,hlc,b1,b2,b3,b4⟩:=HF0.o;exact⟨hb,mb,v,h,f,hw,ae,.inl b1,.inl b2,.inl b3,fun b e=>.inl (b4 b e)⟩,aH.refl _ _⟩
 ·have HC:Hid (qR m x d=aS m x d):=aa (by
   grind [qR])
  clear HF0;have HPU:Hid (∀W,dr W fb hb mb v h (aS m x d)->Calls prog 283 #[ptrTo hb,jT (d,x)] W (AG W hb v h (d,x))):=aa (fun W f=>Ss f.hp f.hh (d,x) ae);unfold jT ptrTo at *;dsimp only at HPU;cases hm:aA m x;case' none=>
   have HM:=aa hm;clear hm hold;go_enter func243,ntmps243;go_wp2_with (first | (at_lookup;refine bX _ rfl _ _ _ _ rfl 62 cg dm Tryz.underlying323 (HZ.o _) mb m rfl F.o.far x rfl HG.o ?_;unfold pW;rw[HM.o];simp only[Option.map_none,Option.getD_none,Option.isSome_none]) | (at_mapUpdate;refine eJ _ rfl _ _ _ _ rfl 62 cg dm Tryz.underlying323 mb m rfl F.o.far x d rfl rfl HG.o ?_;intro es clock cP));clear HM
  case' some old=>
   have HM:=aa hm;have VN:¬(old:Int)<=(d:Int):=fun hle=>hold ⟨old,hm,ae⟩;clear hm hold;go_enter func243,ntmps243;go_wp2_with (first | (at_lookup;refine bX _ rfl _ _ _ _ rfl 62 cg dm Tryz.underlying323 (HZ.o _) mb m rfl F.o.far x rfl HG.o ?_;unfold pW;rw[HM.o];simp only[Option.map_some,Option.getD_some,Option.isSome_some]) | (at_mapUpdate;refine eJ _ rfl _ _ _ _ rfl 62 cg dm Tryz.underlying323 mb m rfl F.o.far x d rfl rfl HG.o ?_;intro es clock cP));clear HM VN
  all_goals
   obtain⟨f2,oM⟩:=F.o.mapped _ cP;have F2:=aa f2;have nM:Hid (aH B w (setBlock w mb (.map es clock))):=aa (oM.mono (fun b _ e=>e▸HB.o.2.2.1));have hs2:(setBlock w mb (.map es clock)).heap.size=w.heap.size:=by grind [setBlock]
   clear cP f2 oM c0 c1 F hs2;generalize setBlock w mb (.map es clock)=W2 at *;have F3:Hid (dr (W2.alloc (.cells #[.int .u64 (d:Int),.int .u32 (x:Int)] 357)) fb hb mb v h (aS m x d)):=aa (F2.o.below ai);have im:Hid ((W2.alloc (.cells #[.int .u64 (d:Int),.int .u32 (x:Int)] 357)).cell? ⟨W2.heap.size,0,none⟩=some (.int .u64 (d:Int))/\(W2.alloc (.cells #[.int .u64 (d:Int),.int .u32 (x:Int)] 357)).cell? ⟨W2.heap.size,1,none⟩=some (.int .u32 (x:Int))):=aa ah;have q9:Hid (aH B w (W2.alloc (.cells #[.int .u64 (d:Int),.int .u32 (x:Int)] 357))):=aa (nM.o.alloc _);clear nM F2;go_wp2_with fail;generalize W2.alloc (.cells #[.int .u64 (d:Int),.int .u32 (x:Int)] 357)=W3 at *;refine cn (Below W3.heap.size W3) 5 (by rfl) ag (aj.drew) ?_;simp only[List.take_succ_cons,List.take_zero,List.drop_succ_cons,List.drop_zero];iterate 3 (refine qz ?_)
   refine qz ?_ (fun w' hw'=>by have c0:=(F3.o.below hw').cells.1;unfold ptrTo at c0;go_simp<;>rfl);refine qz ?_ (fun w' hw'=>by have c0:=AE hw' im.o.1;have c1:=AE hw' im.o.2;go_simp<;>rfl);refine wpQuiet_nil ?_;intro w4 hw4;have F4:=aa (F3.o.below hw4);have uX:=aa (q9.o.bN hw4);have hpu:=aa (HPU.o _ F4.o);clear hw4 F3 q9 im;go_wp2_with fail;refine hpu.o.mono ?_;rintro e w5⟨v5,h5,rfl,FD,TP,ad1,rO,Ue⟩;have HQ:Hid (ee w5 fb (fun b=>B b\/w.heap.size<=b/\b<w5.heap.size) (aS m x d) (c+1)/\aH B w w5):=aa (by
    obtain⟨b1,b2,b3,b4⟩:=HB.o;refine⟨⟨hb,mb,v5,h5,F4.o.turned FD TP rO Ue,OC HW.o hx ad1,?_,.inl b1,.inl b2,.inl b3,fun b e=>?_⟩,uX.o.trans rO (fun b _ e=>?_)⟩
    ·grind [List.Perm.length_eq,List.length_append]
    ·exact(Ue b e).imp (b4 b) (fun e'=>⟨Nat.le_trans uX.o.size e',(aL FD.row b e).1⟩)
    grind)
   clear FD TP ad1 rO Ue hpu F4 uX;go_wp2;go_returns;grind [Hid.out]
def wH(w:World)(fb:Nat)(B:Nat->Prop)(m:yV)(c:Nat)(e:Ending)(w':World):Prop:=
 (qQ m=none/\e=.returned (.tuple #[.int .u32 0,.int .u64 0,.bool false])/\aH B w w') \/
 ∃x d,qQ m=some (x,d)/\e=.returned (.tuple #[.int .u32 (x:Int),.int .u64 (d:Int),.bool true])/\ee w' fb B (b7 m x) c/\aH B w w'
def KW:Option Value->Nat
 |some (.slice _ n _)=>n
 |_=>0
def Sy:Value->Nat
 | .bool true=>1
 |_=>0
theorem dS.KW(hp:dS w hb v h):KW (w.cell? ⟨hb,0,none⟩)=h.length:=by
 obtain⟨a,k,rfl⟩:=az hp.row;rw[hp.cells.1];rfl
theorem Sz(hk:(m.map (·.1)).Nodup)(hw:sB [] m):m=[]:=by
 cases m with
 |nil=>rfl
 |cons p m=>exact absurd (hw.1 p.1 p.2 (km hk ah)) ah
structure s5(w:World)(fb hb mb:Nat)(v0:Value)(B:Nat->Prop)(m:yV)(c xb:Nat)(ok:Bool)(x:fo)(v:Value)(h:List fo)(W:World):Prop where
 cs:W.heap[xb]? = some (.cells #[.int .u64 (x.1:Int),.int .u32 (x.2:Int)] 357)
 ge:w.heap.size<=xb
 fr:dr W fb hb mb v h m
 ow:v.ownBlock=v0.ownBlock
 tn:aH B w W
 ln:h.length<=c
 yes:ok=true->sB (x::h) m/\∀y∈h,¬ir y x
 no:ok=false->h=[]/\m=[]
section
variable {v0:Value} {xb:Nat} {ok:Bool} {x:fo}
theorem s5.of(hk:(m.map (·.1)).Nodup)(f:dr W fb hb mb v h m)(hw:sB h m)(ho:v.ownBlock=v0.ownBlock)(ht:aH B w W)(hl:h.length<=c)(hB:B hb/\∀b,v0.ownBlock=some b->B b){ok:Bool}{x:fo}{v':Value}{l':List fo}{w1 w2:World}(p1:dS w1 hb v' l')(p2:gV l')(p3:aH (fun b=>b=hb\/v.ownBlock=some b) W w1)(p4:v'.ownBlock=v.ownBlock)(p5:l'.length<=h.length)(p6:if ok=true then (x::l').Perm h/\∀y∈l',¬ir y x else h=[]/\l'=[])(hc:w2.heap[xb]? = some (.cells #[.int .u64 (x.1:Int),.int .u32 (x.2:Int)] 357))(zb:w.heap.size<=xb)(hx:∀b,b=fb\/b=hb\/b=mb\/v0.ownBlock=some b->b≠xb)(oM:aH (·=xb) w1 w2):s5 w fb hb mb v0 B m c xb ok x v' l' w2:=by
 have f1:=f.turned p1 p2 p3 (fun b e=>.inl (p4▸e));obtain⟨l1,l2,l3,l4⟩:=f1.lt;refine⟨hc,zb,f1.kept (fun b hb'=>oM.block b ?_ (hx b ?_)),p4.trans ho,(ht.trans p3 (fun b _ e=>?_)).trans oM (fun b hb e=>?_),Nat.le_trans p5 hl,fun e=>?_,fun e=>?_⟩
 ·grind
 ·grind
 ·grind
 ·omega
 ·rw[if_pos e]at p6;exact⟨⟨fun v d hm=>p6.1.mem_iff.2 (hw.1 v d hm),fun y hy=>hw.2 y (p6.1.mem_iff.1 hy)⟩,p6.2⟩
 grind [Sz]
theorem OD(hF:ee w fb B m c)(hc:c<=65536):Calls prog 244 #[ptrTo fb] w (wH w fb B m c):=by
 obtain⟨hb,mb,v0,h0,f,hw,hlc,b1,b2,b3,b4⟩:=hF;have HK:Hid ((m.map (·.1)).Nodup):=aa f.far.keys;have HB:Hid (B fb/\B hb/\B mb/\∀b,v0.ownBlock=some b->B b):=aa ⟨b1,b2,b3,b4⟩;have Y7:=aa f.lt;have ad2:Hid (∀W v h,dr W fb hb mb v h m->h.length<=c->Calls prog 285 #[ptrTo hb] W (ZT W hb v h)):=aa (fun W v h f hl=>Sw f.hp f.hh ae);have F:=aa f;have SA:=aa (ad2.o _ _ _ f hlc);obtain⟨c0,c1⟩:=f.cells;have HZ:=aa Ip;have HAP:Hid (∀xb,w.heap.size<=xb->∀b,b=fb\/b=hb\/b=mb\/v0.ownBlock=some b->b≠xb):=aa (fun xb FK b hb'=>by
  grind [Hid.out])
 have ZU:Hid (∀{W:World}{v:Value}{h:List fo}{xb:Nat}{ok:Bool}{x:fo}{v':Value}{l':List fo}{w1 w2:World},dr W fb hb mb v h m->sB h m->v.ownBlock=v0.ownBlock->aH B w W->h.length<=c->dS w1 hb v' l'->gV l'->aH (fun b=>b=hb\/v.ownBlock=some b) W w1->v'.ownBlock=v.ownBlock->l'.length<=h.length->(if ok=true then (x::l').Perm h/\∀y∈l',¬ir y x else h=[]/\l'=[])->w2.heap[xb]? = some (.cells #[.int .u64 (x.1:Int),.int .u32 (x.2:Int)] 357)->w.heap.size<=xb->aH (·=xb) w1 w2->s5 w fb hb mb v0 B m c xb ok x v' l' w2):=
  aa (fun f hw ho ht hl p1 p2 p3 p4 p5 p6 hc zb oM=>s5.of HK.o f hw ho ht hl ⟨HB.o.2.1,HB.o.2.2.2⟩ p1 p2 p3 p4 p5 p6 hc zb (HAP.o _ zb) oM)
 have HW:=aa hw;clear f hw b1 b2 b3 b4;unfold jT ptrTo wH ZT at *;go_enter func244,ntmps244;go_wp2_with fail;refine SA.o.mono ?_;rintro e w1⟨ok,x,v1,h1,rfl,p1,p2,p3,p4,p5,p6⟩;have JX:Hid (s5 w fb hb mb v0 B m c w1.heap.size ok x v1 h1 (w1.alloc (.cells #[.int .u64 (x.1:Int),.int .u32 (x.2:Int)] 357))):=aa (ZU.o F.o HW.o rfl (aH.refl _ _) hlc p1 p2 p3 p4 p5 p6 (heap_alloc_new _ _) p3.size ((aH.refl _ _).alloc _));clear p1 p2 p3 p4 p5 p6 SA F HW c0 c1 hlc;go_wp2_with fail;generalize FK:w1.heap.size=xb1 at *;clear FK;generalize w1.alloc (.cells #[.int .u64 (x.1:Int),.int .u32 (x.2:Int)] 357)=W1 at *;go_loopw [5,6] (fun v5 v6 wr=>∃xb ok x v h,v5=.pointer (some ⟨xb,0,none⟩)/\v6=.bool ok/\Hid (s5 w fb hb mb v0 B m c xb ok x v h wr)) (fun _ v6 wr=>KW (wr.cell? ⟨hb,0,none⟩)+Sy v6)
 case atStart=>grind
 case round=>
  obtain⟨xb,ok,x,v,h,rfl,rfl,HP⟩:=hrel;clear JX;generalize wr=Wr at *;cases ok with
  |false=>
    obtain⟨rfl,hm0⟩:=HP.out.no rfl;go_wp2;go_returns;exact .inl ⟨by rw[hm0];rfl,rfl,HP.out.tn⟩
  |true=>
    obtain⟨hw,uA⟩:=HP.out.yes rfl;have HW:=aa hw;have N6:=aa uA;have HG:=aa (fO (hw.2 x ah));have HLH:=aa HP.out.fr.hp.KW;clear hw uA;obtain⟨D,b,HD,HL⟩:∃(D:Nat)(b:Bool),Hid (aA m x.2=if b=true then some D else none)/\Hid (∀w',Below Wr.heap.size Wr w'->Sem.run prog (Instr.lookup 323 (.map (some mb)) (.int .u32 (x.2:Int)) true) w'=.ok (.tuple #[.int .u64 (D:Int),.bool b]) w'):=by
     have hl:=fun w' hw'=>(HP.out.fr.below (w':=w') hw').far.lookup cg dm Tryz.underlying323 (HZ.o w') x.2 HG.o true;cases e:aA m x.2 with
     |none=>exact⟨0,false,aa ah,aa (fun w' hw'=>by grind [pW])⟩
     |some D=>exact⟨D,true,aa ah,aa (fun w' hw'=>by grind [pW])⟩
    have HR:Hid (∀w',Below Wr.heap.size Wr w'->w'.cell? ⟨fb,0,none⟩=some (.pointer (some ⟨hb,0,none⟩))/\w'.cell? ⟨fb,1,none⟩=some (.map (some mb))/\w'.cell? ⟨xb,0,none⟩=some (.int .u64 (x.1:Int))/\w'.cell? ⟨xb,1,none⟩=some (.int .u32 (x.2:Int))):=aa (fun w' hw'=>by
     have f:=HP.out.fr.below hw';have hcs:w'.heap[xb]? = some (.cells #[.int .u64 (x.1:Int),.int .u32 (x.2:Int)] 357):=(hw'.block _ (Array.getElem?_eq_some_iff.1 HP.out.cs).1).trans HP.out.cs;exact⟨f.cells.1,f.cells.2,by rw[aq hcs];rfl,by rw[aq hcs];rfl⟩)
    have VO:Hid (xb≠mb):=aa (by have:=HP.out.ge;grind [Hid.out]);by_cases ZV:b=true/\D=x.1
    ·obtain⟨rfl,rfl⟩:=ZV;go_wp2_with fail;refine wq Wr ?_;iterate 3 (refine qz ?_)
     refine qz ?_ (fun w' hw'=>by obtain⟨c0,c1,c2,c3⟩:=HR.o w' hw';go_simp<;>rfl);refine qz ?_;refine qz ?_ (fun w' hw'=>by obtain⟨c0,c1,c2,c3⟩:=HR.o w' hw';go_simp<;>rfl);refine qz ?_ (fun w' hw'=>by have c4:=HL.out w' hw';go_simp<;>rfl);iterate 5 (refine qz ?_)
     refine wpQuiet_nil ?_;intro w3 hw3;have jC:=aa hw3;obtain⟨c0,c1,c2,c3⟩:=HR.o w3 hw3;clear hw3;go_wp2_with fail;clear c0 c1 c2 c3;refine cn (Below w3.heap.size w3) 6 (by rfl) ag (aj.drew) ?_;simp only[List.take_succ_cons,List.take_zero,List.drop_succ_cons,List.drop_zero];iterate 3 (refine qz ?_)
     refine qz ?_ (fun w' hw'=>by obtain⟨c0,c1,c2,c3⟩:=HR.o w' (jC.o.trans (hw'.mono jC.o.size));go_simp<;>rfl);refine qz ?_;refine qz ?_ (fun w' hw'=>by obtain⟨c0,c1,c2,c3⟩:=HR.o w' (jC.o.trans (hw'.mono jC.o.size));go_simp<;>rfl);refine wpQuiet_nil ?_;intro w4 hw4;have oU:=aa (jC.o.trans (hw4.mono jC.o.size));clear hw4;have F4:=aa (HP.out.fr.below oU.o);go_wp2_with (at_delete;refine sJ _ rfl _ _ _ rfl 62 cg dm Tryz.underlying323 mb m rfl F4.o.far x.2 rfl HG.o ?_;intro es clock j7;obtain⟨f5,rO⟩:=F4.o.mapped _ j7;have F5:=aa f5;have D4:=aa ((HP.out.tn.bN oU.o).trans rO (fun b _ e=>e▸HB.o.2.2.1));have c3:(setBlock w4 mb (.map es clock)).cell? ⟨xb,1,none⟩=some (.int .u32 (x.2:Int)):=(by rw[World.cell?_of_block (a:=⟨xb,1,none⟩) (bg (w:=w4) (b:=mb) (.map es clock) VO.o)];exact(HR.o w4 oU.o).2.2.2);clear f5 rO j7);generalize setBlock w4 mb (.map es clock)=W5 at *;have HQ:Hid (qQ m=some (x.2,x.1)/\ee W5 fb B (b7 m x.2) c/\aH B w W5):=aa (by
      have hm:aA m x.2=some x.1:=by assumption
      refine⟨Sx HK.o hm (fun v' d' hm'=>?_),⟨hb,mb,v,h,F5.o,?_,HP.out.ln,HB.o.1,HB.o.2.1,HB.o.2.2.1,fun b e=>HB.o.2.2.2 b (HP.out.ow▸e)⟩,D4.o⟩
      ·rcases List.mem_cons.1 (HW.o.1 _ _ hm') with e | e
       ·rw[e];exact ir.lZ _
       ·exact N6.o _ e
      ·have:=Dx HW.o (List.Perm.refl (x::h));rw[hm]at this;simpa using this)
     clear F5 D4 F4 oU jC;go_returns;exact .inr ⟨_,_,HQ.o.1,rfl,HQ.o.2.1,HQ.o.2.2⟩
    ·have HWM:Hid (sB h m):=aa (by
      have:=Dx HW.o (List.Perm.refl (x::h));grind [Hid.out])
     cases b;case' false=>skip
     case' true=>
      have hDz:¬(D:Int)=(x.1:Int):=fun e=>ZV ⟨rfl,ae⟩
     all_goals
      clear ZV;go_wp2_with fail;refine wq Wr ?_;iterate 3 (refine qz ?_)
      refine qz ?_ (fun w' hw'=>by obtain⟨c0,c1,c2,c3⟩:=HR.o w' hw';go_simp<;>rfl);refine qz ?_;refine qz ?_ (fun w' hw'=>by obtain⟨c0,c1,c2,c3⟩:=HR.o w' hw';go_simp<;>rfl);refine qz ?_ (fun w' hw'=>by have c4:=HL.out w' hw';go_simp<;>rfl);iterate 5 (refine qz ?_)
      refine wpQuiet_nil ?_;intro w3 hw3;have F3:Hid (dr (w3.alloc (.cells #[.int .u64 (x.1:Int),.int .u32 (x.2:Int)] 357)) fb hb mb v h m):=aa (HP.out.fr.below (hw3.alloc hw3.size _));have q9:Hid (aH B w (w3.alloc (.cells #[.int .u64 (x.1:Int),.int .u32 (x.2:Int)] 357))):=aa ((HP.out.tn.bN hw3).alloc _);have Jp:Hid ((w3.alloc (.cells #[.int .u64 (x.1:Int),.int .u32 (x.2:Int)] 357)).heap[w3.heap.size]? = some (.cells #[.int .u64 (x.1:Int),.int .u32 (x.2:Int)] 357)):=aa (heap_alloc_new _ _);have Hr:Hid (w.heap.size<=w3.heap.size):=aa (Nat.le_trans HP.out.tn.size hw3.size);obtain⟨c0,c1,c2,c3⟩:=HR.o w3 hw3;have SA:=aa (ad2.o _ _ _ F3.o HP.out.ln);have ajs:=(Array.getElem?_eq_some_iff.1 (HP.out.fr.below hw3).hd).1;clear hw3;go_wp2_with fail;clear c0 c1 c2 c3 ajs;generalize hxs:w3.heap.size=Jx at *;generalize w3.alloc (.cells #[.int .u64 (x.1:Int),.int .u32 (x.2:Int)] 357)=W4 at *;clear hxs;refine SA.o.mono ?_;rintro e w5⟨ok,y,v5,h5,rfl,p1,p2,p3,p4,p5,p6⟩;have hx5:w5.heap[Jx]? = some (.cells #[.int .u64 (x.1:Int),.int .u32 (x.2:Int)] 357):=(p3.block Jx (Array.getElem?_eq_some_iff.1 Jp.o).1 (fun e=>by
       rcases e with e | e
       ·exact HAP.o Jx Hr.o hb (.inr (.inl rfl)) e.symm
       ·exact HAP.o Jx Hr.o Jx (.inr (.inr (.inr (HP.out.ow▸e)))) rfl)).trans Jp.o
      have s1:=aT hx5 0 (.int .u64 (y.1:Int));have s2:=aT s1 1 (.int .u32 (y.2:Int));have HP7:Hid (s5 w fb hb mb v0 B m c Jx ok y v5 h5 ((w5.setCell ⟨Jx,0,none⟩ (.int .u64 (y.1:Int))).setCell ⟨Jx,1,none⟩ (.int .u32 (y.2:Int)))):=aa (ZU.o F3.o HWM.o HP.out.ow q9.o HP.out.ln p1 p2 p3 p4 p5 p6 s2 Hr.o (((aH.refl (·=Jx) w5).setCell ⟨Jx,0,none⟩ _ (.inl rfl)).setCell ⟨Jx,1,none⟩ _ (.inl rfl)));have Xm:Hid (KW (((w5.setCell ⟨Jx,0,none⟩ (.int .u64 (y.1:Int))).setCell ⟨Jx,1,none⟩ (.int .u32 (y.2:Int))).cell? ⟨hb,0,none⟩)+Sy (.bool ok)<KW (Wr.cell? ⟨hb,0,none⟩)+Sy (.bool true)):=aa (by
       rw[HP7.o.fr.hp.KW,HLH.o];cases ok with
       |true=>
         have:=(p6.1).length_eq;simp at this;omega
       |false=>
         have:=p6.2;subst this;show 0+0<h.length+1;omega)
      have q0:w5.cell? ⟨Jx,0,none⟩=some (.int .u64 (x.1:Int)):=by rw[aq hx5];rfl
      have q1:w5.cell? ⟨Jx,1,none⟩=some (.int .u32 (x.2:Int)):=by rw[aq hx5];rfl
      have q2:∀k,w5.frozen? ⟨Jx,k,none⟩=false:=fun k=>aO hx5 k;clear p1 p2 p3 p4 p5 p6 hx5 s1 s2 SA F3 q9 Jp HLH;go_wp2;grind [Hid.out]
end
end
end
section
open Go.RowKit
theorem OE(x y:Nat)(w:World):(callFunc 241 #[.int .u64 (x:Int),.int .u64 (y:Int),.int .u64 0]).run prog w=.ok (.value (.tuple #[.int .u64 (((x+y)%18446744073709551616:Nat):Int),.int .u64 (((x+y)/18446744073709551616:Nat):Int)])) w:=by
 rw[run_callFunc_extern func241 ag ag ag (e:=add64Entry) ag,run_add64 x y 0 ae ae ae ae];simp only[Result.andThen];congr 5<;>omega
def KZ(x y:Nat):Value:=if x+y<9223372036854775808 then .tuple #[.int .u64 ((x+y:Nat):Int),.bool true] else .tuple #[.int .u64 0,.bool false]
theorem Ir(x y:Nat)(hx:x<18446744073709551616)(hy:y<18446744073709551616)(w:World):Calls prog 201 #[.int .u64 (x:Int),.int .u64 (y:Int)] w fun e w'=>e=.returned (KZ x y)/\w'=w:=by
 have hr:=OE x y;by_cases h:x+y<9223372036854775808
 ·rw[Nat.mod_eq_of_lt ae,Nat.div_eq_of_lt ae]at hr;have HV:Hid (KZ x y=.tuple #[.int .u64 ((x+y:Nat):Int),.bool true]):=aa (if_pos h);obtain⟨s,hs⟩:∃s,s=x+y:=⟨_,rfl⟩;rw[<- hs]at h hr HV;have h1:¬(s:Int) >= 9223372036854775808:=by omega
  have h2:decide ((s:Int) >= 9223372036854775808)=false:=decide_eq_false h1;clear hs hx hy;go_enter func201,ntmps201;go_wp2_with (simp only[hr]);go_returns;exact⟨by rw[HV.o];rfl,rfl⟩
 ·have HV:Hid (KZ x y=.tuple #[.int .u64 0,.bool false]):=aa (if_neg h);by_cases h3:x+y<18446744073709551616
  ·rw[Nat.mod_eq_of_lt h3,Nat.div_eq_of_lt h3]at hr;obtain⟨s,hs⟩:∃s,s=x+y:=⟨_,rfl⟩;rw[<- hs]at h hr;have h1:(s:Int) >= 9223372036854775808:=by omega
   have h2:decide ((s:Int) >= 9223372036854775808)=true:=decide_eq_true h1;clear hs hx hy h3;go_enter func201,ntmps201;go_wp2_with (simp only[hr]);go_returns;exact⟨by rw[HV.o];rfl,rfl⟩
  ·rw[show(x+y)/18446744073709551616=1 by omega]at hr;generalize (x+y)%18446744073709551616=s at *;clear h3 h hx hy;go_enter func201,ntmps201;go_wp2_with (simp only[hr]);go_returns;exact⟨by rw[HV.o];rfl,rfl⟩
def mV(lo x hi:Int):Int:=min (max lo x) hi
theorem SB(lo x hi:Int)(h:lo<=hi):lo<=mV lo x hi:=by unfold mV;omega
theorem SC(lo x hi:Int):mV lo x hi<=hi:=by unfold mV;omega
theorem Iu(lo x hi:Int)(w:World) :
 Calls prog 147 #[.int .i64 lo,.int .i64 x,.int .i64 hi] w fun e w'=>e=.returned (.int .i64 (mV lo x hi))/\w'=w:=by
 unfold mV;go_enter func147,ntmps147;go_wp2;all_goals
  go_ret;exact⟨LQ ae,rfl⟩
def SD(i o s l g:Int):Int:=max 0 (1048576+2*mV 0 s 1073741824+g+l-mV 0 i 1073741824-mV 0 o 1073741824)
theorem Iw(b:Nat)(x0 x1 x2 x3 x4 x5:Int)(w:World)(h0:w.cell? ⟨b,0,none⟩=some (.int .i64 x0))(h1:w.cell? ⟨b,1,none⟩=some (.int .i64 x1))(h2:w.cell? ⟨b,2,none⟩=some (.int .i64 x2))(h3:w.cell? ⟨b,3,none⟩=some (.int .i64 x3))(h4:w.cell? ⟨b,4,none⟩=some (.int .i64 x4))(h5:w.cell? ⟨b,5,none⟩=some (.int .i64 x5))(b0:0<=x0/\x0<=4294967296)(b1:0<=x1/\x1<=4294967296)(b2:0<=x2/\x2<=4294967296)(b3:0<=x3/\x3<=4294967296)(b4:-4294967296<=x4/\x4<=4294967296)(b5:-4294967296<=x5/\x5<=4294967296) :
  Calls prog 146 #[.slice (some ⟨b,0,none⟩) 6 6] w fun e w'=>e=.returned (.int .i64 (x0+x1+x2+x3+x4+x5))/\w'=w:=by
 obtain⟨b0,b0'⟩:=b0;obtain⟨b1,b1'⟩:=b1;obtain⟨b2,b2'⟩:=b2;obtain⟨b3,b3'⟩:=b3;obtain⟨b4,b4'⟩:=b4;obtain⟨b5,b5'⟩:=b5;go_enter func146,ntmps146;go_wp2;refine wp_loop_rounds 7 ?_;iterate 7 (rw[rounds_succ];go_wp2)
 go_ret;exact⟨rfl,rfl⟩
theorem AL(x:Int):0<=mV 0 x 1073741824/\mV 0 x 1073741824<=1073741824:=⟨SB _ _ _ af,SC _ _ _⟩
theorem Ix(i o s r l g:Int)(w:World)(hl:0<=l)(hl':l<=4294967295)(hg:0<=g)(Mb:g<=4294967295) :
 Calls prog 99 #[.int .i64 i,.int .i64 o,.int .i64 s,.agg #[.int .u32 r,.int .u32 l,.int .u32 g]] w
  fun e w'=>e=.returned (.int .u64 (SD i o s l g))/\Below w.heap.size w w':=by
 obtain⟨i0,i1⟩:=AL i;obtain⟨o0,o1⟩:=AL o;obtain⟨s0,s1⟩:=AL s;go_enter func99,ntmps99;go_wp2;refine cn (fun w'=>∃n,w'=(w.alloc (.cells #[.int .u32 r,.int .u32 l,.int .u32 g] 55)).drewN n) 15 ag ag ⟨1,rfl⟩ ?_;simp only[List.take_succ_cons,List.take_zero,List.drop_succ_cons,List.drop_zero];repeat go_big_quiet_step ((go_at_call 147;exact Calls.quiet_of_same (Iu _ _ _ _)))
 refine wpQuiet_nil ?_;rintro _⟨nq,rfl⟩;go_wp2_with fail;refine(Iw _ 1048576 (2*mV 0 s 1073741824) g l (-mV 0 i 1073741824) (-mV 0 o 1073741824) _ (by go_simp) (by go_simp) (by go_simp) (by go_simp) (by go_simp) (by go_simp) ⟨ae,ae⟩ ⟨ae,ae⟩ ⟨ae,ae⟩ ⟨ae,ae⟩ ⟨ae,ae⟩ ⟨ae,ae⟩).mono ?_;rintro e w'⟨rfl,rfl⟩;go_wp2;all_goals
  go_ret;refine⟨?_,?_⟩
  ·exact LQ (by unfold SD;omega)
  ·exact(below_drewN ai _).alloc (by simp[World.drewN]) _
end
section
open Go.RowKit Go.Maps
theorem SE(w:World):kL w (.slice none 0 0) []:=⟨none,0,rfl,.inl rfl⟩
end
section
open Go.RowKit Go.Maps Go.MapKept
section
variable {w w':World} {pb db n sb gb gen N ob ib vb v:Nat} {name:Name} {o o':ar} {d d':Dsk} {L L':aC}
theorem CA(E:Nat->Dsk->Prop)(h:aP w pb db n o d L)(hg:cW w o gb pb gen N ob ib vb){i:Int}{x:aF}(H7:∀W,Below w.heap.size w W->Calls prog 57 #[ptrTo ob,.int .i64 i] W (Hy E n pb db W o d L x.bytes)) :
 Calls prog 28 #[ptrTo gb,.int .i64 i] w (pF E n pb db w o d L x):=by
 have Bn:Hid (∀W,Below w.heap.size w W->Calls prog 60 #[ptrTo ob,.int .i64 i] W (pF E n pb db W o d L x)):=aa (fun W hW=>sA E (h.below hW) (fun W' hW'=>H7 W' (hW.trans (hW'.mono hW.size))));obtain⟨g0,-,-,-,-⟩:=hg.raw.cells;have hgl:=hg.raw.lt;have H:=aa h;clear h hg H7;unfold ptrTo at *;have jQ:Hid (Below w.heap.size w (w.alloc (.cells #[.int .u32 0,.int .u32 0,.int .u64 0,.int .u32 0] 64))):=aa ai;have my:Hid ((w.alloc (.cells #[.int .u32 0,.int .u32 0,.int .u64 0,.int .u32 0] 64)).heap[w.heap.size]? = some (.cells #[.int .u32 0,.int .u32 0,.int .u64 0,.int .u32 0] 64)):=aa (heap_alloc_new w _);have Jw:Hid (o w.heap.size=none):=aa (H.o.fresh (Nat.le_refl _));go_enter func28,ntmps28;go_wp2_with fail;generalize w.alloc (.cells #[.int .u32 0,.int .u32 0,.int .u64 0,.int .u32 0] 64)=W0 at *;refine(Bn.o W0 jQ.o).mono ?_;rintro e w1⟨c1,d1,o1,y,rfl,dY,tu,Si,hz1⟩;have hbl:w.heap.size<W0.heap.size:=(Array.getElem?_eq_some_iff.1 my.o).1;have eo:=aa ((aw.aU H.o jQ.o).trans dY (fun _ _ h=>h));have kK:=aa (dY.heap my.o Jw.o (fun h=>h));have Da:=aa tu;have Xy:=aa Si;have Xf:=aa hz1;have oF:Hid (o1 w.heap.size=none):=aa (dY.free hbl Jw.o);clear dY tu Si hz1;have y7:Hid (∀(w2:World)(a b c e:Value),w2.heap[w.heap.size]? = some (.cells #[.int .u32 0,.int .u32 0,.int .u64 0,.int .u32 0] 64)->((((w2.setCell ⟨w.heap.size,0,none⟩ a).setCell ⟨w.heap.size,1,none⟩ b).setCell ⟨w.heap.size,2,none⟩ c).setCell ⟨w.heap.size,3,none⟩ e).heap[w.heap.size]? = some (.cells #[a,b,c,e] 64)):=aa (fun w2 a b c e h0=>by
  rw[aT (aT (aT (aT h0 0 a) 1 b) 2 c) 3 e];rfl)
 have k0:w1.cell? ⟨w.heap.size,0,none⟩=some (.int .u32 0):=by rw[aq kK.o];rfl
 have Vz:w1.cell? ⟨w.heap.size,1,none⟩=some (.int .u32 0):=by rw[aq kK.o];rfl
 have VA:w1.cell? ⟨w.heap.size,2,none⟩=some (.int .u64 0):=by rw[aq kK.o];rfl
 have k3':w1.cell? ⟨w.heap.size,3,none⟩=some (.int .u32 0):=by rw[aq kK.o];rfl
 have z0:=aO kK.o 0;have z1:=aO kK.o 1;have z2:=aO kK.o 2;have z3:=aO kK.o 3;have ai8:w.heap.size<w1.heap.size:=(Array.getElem?_eq_some_iff.1 kK.o).1;have im:=aa (y7.o w1 (.int .u32 (y.t.toNat:Int)) (.int .u32 (y.h.toNat:Int)) (.int .u64 (y.x.toNat:Int)) (.int .u32 (y.m.toNat:Int)) kK.o);have eF:Hid (aw (fun _=>False) n pb db w o d ((((w1.setCell ⟨w.heap.size,0,none⟩ (.int .u32 (y.t.toNat:Int))).setCell ⟨w.heap.size,1,none⟩ (.int .u32 (y.h.toNat:Int))).setCell ⟨w.heap.size,2,none⟩ (.int .u64 (y.x.toNat:Int))).setCell ⟨w.heap.size,3,none⟩ (.int .u32 (y.m.toNat:Int))) o1 d1 L):=aa ((((eo.o.setCell _ _ oF.o (.inr (Nat.le_refl _))).setCell _ _ oF.o (.inr (Nat.le_refl _))).setCell _ _ oF.o (.inr (Nat.le_refl _))).setCell _ _ oF.o (.inr (Nat.le_refl _)));go_wp2;generalize ((((w1.setCell ⟨w.heap.size,0,none⟩ (.int .u32 (y.t.toNat:Int))).setCell ⟨w.heap.size,1,none⟩ (.int .u32 (y.h.toNat:Int))).setCell ⟨w.heap.size,2,none⟩ (.int .u64 (y.x.toNat:Int))).setCell ⟨w.heap.size,3,none⟩ (.int .u32 (y.m.toNat:Int)))=w3 at *;have q0:w3.cell? ⟨w.heap.size,0,none⟩=some (.int .u32 (y.t.toNat:Int)):=by rw[aq im.o];rfl
 have q1:w3.cell? ⟨w.heap.size,1,none⟩=some (.int .u32 (y.h.toNat:Int)):=by rw[aq im.o];rfl
 have q2:w3.cell? ⟨w.heap.size,2,none⟩=some (.int .u64 (y.x.toNat:Int)):=by rw[aq im.o];rfl
 have q3:w3.cell? ⟨w.heap.size,3,none⟩=some (.int .u32 (y.m.toNat:Int)):=by rw[aq im.o];rfl
 clear k0 Vz VA k3' z0 z1 z2 z3;exact bodyPost_ret (v:=.tuple #[.agg #[.int .u32 (y.t.toNat:Int),.int .u32 (y.h.toNat:Int),.int .u64 (y.x.toNat:Int),.int .u32 (y.m.toNat:Int)],.int .i64 (c1:Int)]) (by simp[results,Tryz.results28,go_sem,q0,q1,q2,q3]) rfl ⟨c1,d1,o1,y,rfl,eF.o,Da.o,Xy.o,Xf.o⟩
theorem E0(HW:aQ)(h:aP w pb db n o d L)(hg:cW w o gb pb gen N ob ib vb){es:List aF}{fl:Bool}(hL:aA L (aJ 101 gen)=some (au es fl)){i:Nat}{x:aF}(hi:es[i]? = some x) :
 Calls prog 28 #[ptrTo gb,.int .i64 (i:Int)] w (pF (fun c d'=>c=0\/kJ d d' L c) n pb db w o d L x):=by
 have nZ:=aN hi;refine CA _ h hg (fun W hW=>?_);have:=ji HW (h.below hW) (hg.out.below hW) hg.PL af af hL (dW es) (i:=i) (by rw[List.length_map];exact nZ);rw[List.getElem_map]at this;rw[List.getElem?_eq_getElem nZ]at hi;rw[Option.some.inj hi]at this;exact this
end
end
section
open Go.RowKit Go.Maps
theorem dJ.turn{b b':Bool}{l:List aF}{out:List aF}(h:dJ b (aK b' l) out):dJ b l out:=by
 have k:=bU b' l;refine⟨h.gy,fun e he=>?_,fun x hx hn=>?_⟩
 ·grind [mem]
 ·obtain⟨y,hy,hs⟩:=k.all x hx hn;obtain⟨e,he,hs'⟩:=h.all y hy (hs.symm.loop hn);grind [same.trans]
theorem Iy(b b':Bool)(l:List aF):aK b (aK b' l)=aK b l:=(bU b (aK b' l)).turn.eq
end
section
open Go.RowKit
theorem Iz(xt xh xx xm yt yh yx ym:Nat)(w:World) :
 Calls prog 123 #[.agg #[.int .u32 (xt:Int),.int .u32 (xh:Int),.int .u64 (xx:Int),.int .u32 (xm:Int)],.agg #[.int .u32 (yt:Int),.int .u32 (yh:Int),.int .u64 (yx:Int),.int .u32 (ym:Int)]] w fun e w'=>e=.returned (.bool (decide (xt<yt\/xt=yt/\xh<yh)))/\Below w.heap.size w w':=by
 obtain⟨r,jE⟩:∃r:Bool,r=decide (xt<yt\/xt=yt/\xh<yh):=⟨_,rfl⟩;rw[<- jE];rcases Nat.lt_trichotomy xt yt with g | g | g
 ·have hr:Hid (r=true):=aa (by rw[jE];exact decide_eq_true (.inl g));clear jE;have g1:((xt:Nat):Int)<(yt:Int):=by omega
  go_enter func123,ntmps123;go_wp2;go_ret;exact⟨by rw[hr.o];rfl,ai.alloc ah _⟩
 ·subst g;by_cases g:xh<yh
  ·have hr:Hid (r=true):=aa (by rw[jE];exact decide_eq_true (.inr ⟨rfl,g⟩));clear jE;have g1:((xh:Nat):Int)<(yh:Int):=by omega
   go_enter func123,ntmps123;go_wp2;go_ret;exact⟨by rw[hr.o];rfl,ai.alloc ah _⟩
  ·have hr:Hid (r=false):=aa (by rw[jE];exact decide_eq_false ae);clear jE;have g1:¬((xh:Nat):Int)<(yh:Int):=by omega
   go_enter func123,ntmps123;go_wp2;go_ret;exact⟨by rw[hr.o];rfl,ai.alloc ah _⟩
 ·have hr:Hid (r=false):=aa (by rw[jE];exact decide_eq_false ae);clear jE;have g1:¬((xt:Nat):Int)<(yt:Int):=by omega
  have g2:((xt:Int) == (yt:Int))=false:=by rw[beq_eq_false_iff_ne];omega
  have g3:¬((xt:Int)=(yt:Int)):=by omega
  go_enter func123,ntmps123;go_wp2;go_ret;exact⟨by rw[hr.o];rfl,ai.alloc ah _⟩
theorem E3(xt xh xx xm yt yh yx ym:Nat)(w:World) :
 Calls prog 81 #[.agg #[.int .u32 (xt:Int),.int .u32 (xh:Int),.int .u64 (xx:Int),.int .u32 (xm:Int)],.agg #[.int .u32 (yt:Int),.int .u32 (yh:Int),.int .u64 (yx:Int),.int .u32 (ym:Int)],.int .i64 0] w fun e w'=>e=.returned (.bool (decide (xt<yt\/xt=yt/\xh<yh)))/\Below w.heap.size w w':=by
 obtain⟨r,jE⟩:∃r:Bool,r=decide (xt<yt\/xt=yt/\xh<yh):=⟨_,rfl⟩;rw[<- jE];rcases Nat.lt_trichotomy xt yt with g | g | g
 ·have hr:Hid (r=true):=aa (by rw[jE];exact decide_eq_true (.inl g));clear jE;have g1:((xt:Nat):Int)<(yt:Int):=by omega
  go_enter func81,ntmps81;go_wp2;go_ret;exact⟨by rw[hr.o];rfl,ai.alloc ah _⟩
 ·subst g;by_cases g:xh<yh
  ·have hr:Hid (r=true):=aa (by rw[jE];exact decide_eq_true (.inr ⟨rfl,g⟩));clear jE;have g1:((xh:Nat):Int)<(yh:Int):=by omega
   go_enter func81,ntmps81;go_wp2;go_ret;exact⟨by rw[hr.o];rfl,ai.alloc ah _⟩
  ·have hr:Hid (r=false):=aa (by rw[jE];exact decide_eq_false ae);clear jE;have g1:¬((xh:Nat):Int)<(yh:Int):=by omega
   go_enter func81,ntmps81;go_wp2;go_ret;exact⟨by rw[hr.o];rfl,ai.alloc ah _⟩
 ·have hr:Hid (r=false):=aa (by rw[jE];exact decide_eq_false ae);clear jE;have g1:¬((xt:Nat):Int)<(yt:Int):=by omega
  have g2:((xt:Int) == (yt:Int))=false:=by rw[beq_eq_false_iff_ne];omega
  have g3:¬((xt:Int)=(yt:Int)):=by omega
  go_enter func81,ntmps81;go_wp2;go_ret;exact⟨by rw[hr.o];rfl,ai.alloc ah _⟩
theorem E4(xt xh xx xm yt yh yx ym:Nat)(w:World) :
 Calls prog 81 #[.agg #[.int .u32 (xt:Int),.int .u32 (xh:Int),.int .u64 (xx:Int),.int .u32 (xm:Int)],.agg #[.int .u32 (yt:Int),.int .u32 (yh:Int),.int .u64 (yx:Int),.int .u32 (ym:Int)],.int .i64 1] w fun e w'=>e=.returned (.bool (decide (xh<yh\/xh=yh/\xt<yt)))/\Below w.heap.size w w':=by
 obtain⟨r,jE⟩:∃r:Bool,r=decide (xh<yh\/xh=yh/\xt<yt):=⟨_,rfl⟩;rw[<- jE];rcases Nat.lt_trichotomy xh yh with g | g | g
 ·have hr:Hid (r=true):=aa (by rw[jE];exact decide_eq_true (.inl g));clear jE;have g1:((xh:Nat):Int)<(yh:Int):=by omega
  go_enter func81,ntmps81;go_wp2;go_ret;exact⟨by rw[hr.o];rfl,ai.alloc ah _⟩
 ·subst g;by_cases g:xt<yt
  ·have hr:Hid (r=true):=aa (by rw[jE];exact decide_eq_true (.inr ⟨rfl,g⟩));clear jE;have g1:((xt:Nat):Int)<(yt:Int):=by omega
   go_enter func81,ntmps81;go_wp2;go_ret;exact⟨by rw[hr.o];rfl,ai.alloc ah _⟩
  ·have hr:Hid (r=false):=aa (by rw[jE];exact decide_eq_false ae);clear jE;have g1:¬((xt:Nat):Int)<(yt:Int):=by omega
   go_enter func81,ntmps81;go_wp2;go_ret;exact⟨by rw[hr.o];rfl,ai.alloc ah _⟩
 ·have hr:Hid (r=false):=aa (by rw[jE];exact decide_eq_false ae);clear jE;have g1:¬((xh:Nat):Int)<(yh:Int):=by omega
  have g2:((xh:Int) == (yh:Int))=false:=by rw[beq_eq_false_iff_ne];omega
  have g3:¬((xh:Int)=(yh:Int)):=by omega
  go_enter func81,ntmps81;go_wp2;go_ret;exact⟨by rw[hr.o];rfl,ai.alloc ah _⟩
theorem E5(xt xh xx xm yt yh yx ym:Nat)(w:World) :
 Calls prog 124 #[.agg #[.int .u32 (xt:Int),.int .u32 (xh:Int),.int .u64 (xx:Int),.int .u32 (xm:Int)],.agg #[.int .u32 (yt:Int),.int .u32 (yh:Int),.int .u64 (yx:Int),.int .u32 (ym:Int)]] w fun e w'=>e=.returned (.bool (decide (xx<yx\/xx=yx/\(xm+1)%4294967296<(ym+1)%4294967296)))/\Below w.heap.size w w':=by
 have rN:IntKind.u32.wrap ((xm:Int)+1)=(((xm+1)%4294967296:Nat):Int):=by rw[IntKind.wrap_u32];omega
 have hw2:IntKind.u32.wrap ((ym:Int)+1)=(((ym+1)%4294967296:Nat):Int):=by rw[IntKind.wrap_u32];omega
 generalize (xm+1)%4294967296=YV at *;generalize (ym+1)%4294967296=YW at *;obtain⟨r,jE⟩:∃r:Bool,r=decide (xx<yx\/xx=yx/\YV<YW):=⟨_,rfl⟩;rw[<- jE];rcases Nat.lt_trichotomy xx yx with g | g | g
 ·have hr:Hid (r=true):=aa (by rw[jE];exact decide_eq_true (.inl g));clear jE;have g1:((xx:Nat):Int)<(yx:Int):=by omega
  go_enter func124,ntmps124;go_wp2;go_ret;exact⟨by rw[hr.o];rfl,ai.alloc ah _⟩
 ·subst g;by_cases g:YV<YW
  ·have hr:Hid (r=true):=aa (by rw[jE];exact decide_eq_true (.inr ⟨rfl,g⟩));clear jE;have g1:((YV:Nat):Int)<(YW:Int):=by omega
   go_enter func124,ntmps124;go_wp2;go_ret;exact⟨by rw[hr.o];rfl,ai.alloc ah _⟩
  ·have hr:Hid (r=false):=aa (by rw[jE];exact decide_eq_false ae);clear jE;have g1:¬((YV:Nat):Int)<(YW:Int):=by omega
   go_enter func124,ntmps124;go_wp2;go_ret;exact⟨by rw[hr.o];rfl,ai.alloc ah _⟩
 ·have hr:Hid (r=false):=aa (by rw[jE];exact decide_eq_false ae);clear jE;have g1:¬((xx:Nat):Int)<(yx:Int):=by omega
  have g2:((xx:Int) == (yx:Int))=false:=by rw[beq_eq_false_iff_ne];omega
  have g3:¬((xx:Int)=(yx:Int)):=by omega
  go_enter func124,ntmps124;go_wp2;go_ret;exact⟨by rw[hr.o];rfl,ai.alloc ah _⟩
theorem x9(x y:aF)(w:World):Calls prog 123 #[.agg #[.int .u32 (x.t.toNat:Int),.int .u32 (x.h.toNat:Int),.int .u64 (x.x.toNat:Int),.int .u32 (x.m.toNat:Int)],.agg #[.int .u32 (y.t.toNat:Int),.int .u32 (y.h.toNat:Int),.int .u64 (y.x.toNat:Int),.int .u32 (y.m.toNat:Int)]] w
 fun e w'=>e=.returned (.bool (decide (pk false x<pk false y)))/\Below w.heap.size w w':=by
 refine(Iz _ _ _ _ _ _ _ _ w).mono fun e w' ⟨he,hb⟩=>⟨he.trans ?_,hb⟩;have h1:=x.h.toNat_lt;have h2:=y.h.toNat_lt;rw[decide_eq_decide.2 (show(x.t.toNat<y.t.toNat\/x.t.toNat=y.t.toNat/\x.h.toNat<y.h.toNat)↔pk false x<pk false y by unfold pk;simp only[Bool.false_eq_true,if_false];omega)]
theorem IA(b:Bool)(x y:aF)(w:World):Calls prog 81 #[.agg #[.int .u32 (x.t.toNat:Int),.int .u32 (x.h.toNat:Int),.int .u64 (x.x.toNat:Int),.int .u32 (x.m.toNat:Int)],.agg #[.int .u32 (y.t.toNat:Int),.int .u32 (y.h.toNat:Int),.int .u64 (y.x.toNat:Int),.int .u32 (y.m.toNat:Int)],.int .i64 (lT b:Int)] w
 fun e w'=>e=.returned (.bool (decide (pk b x<pk b y)))/\Below w.heap.size w w':=by
 have h1:=x.h.toNat_lt;have h2:=y.h.toNat_lt;have h3:=x.t.toNat_lt;have h4:=y.t.toNat_lt;cases b
 ·refine(E3 _ _ _ _ _ _ _ _ w).mono fun e w' ⟨he,hb⟩=>⟨he.trans ?_,hb⟩;rw[decide_eq_decide.2 (show(x.t.toNat<y.t.toNat\/x.t.toNat=y.t.toNat/\x.h.toNat<y.h.toNat)↔pk false x<pk false y by unfold pk;simp only[Bool.false_eq_true,if_false];omega)]
 ·refine(E4 _ _ _ _ _ _ _ _ w).mono fun e w' ⟨he,hb⟩=>⟨he.trans ?_,hb⟩;rw[decide_eq_decide.2 (show(x.h.toNat<y.h.toNat\/x.h.toNat=y.h.toNat/\x.t.toNat<y.t.toNat)↔pk true x<pk true y by unfold pk;simp only[if_true];omega)]
theorem E6(x y:aF)(w:World):Calls prog 124 #[.agg #[.int .u32 (x.t.toNat:Int),.int .u32 (x.h.toNat:Int),.int .u64 (x.x.toNat:Int),.int .u32 (x.m.toNat:Int)],.agg #[.int .u32 (y.t.toNat:Int),.int .u32 (y.h.toNat:Int),.int .u64 (y.x.toNat:Int),.int .u32 (y.m.toNat:Int)]] w
 fun e w'=>e=.returned (.bool (decide (rk x<rk y)))/\Below w.heap.size w w':=by
 refine(E5 _ _ _ _ _ _ _ _ w).mono fun e w' ⟨he,hb⟩=>⟨he.trans ?_,hb⟩;rw[decide_eq_decide.2 (show(x.x.toNat<y.x.toNat\/x.x.toNat=y.x.toNat/\(x.m.toNat+1)%4294967296<(y.m.toNat+1)%4294967296)↔rk x<rk y by unfold rk;omega)]
theorem fg{b:Bool}{out:List aF}(h:out.Pairwise (fun x y=>pk b x<pk b y)){i j:Nat}(e9:i<j){x y:aF}(hx:out[i]? = some x)(hy:out[j]? = some y):pk b x<pk b y:=by
 grind [List.pairwise_iff_getElem]
theorem dJ.lay{b:Bool}{l out:List aF}{x:aF}(h:dJ b l out)(hx:x.t≠x.h){k:Nat}(hk:k<=out.length)(h1:∀(i:Nat)(o:aF),i<k->out[i]? = some o->pk b o<pk b x)(h2:∀(i:Nat)(o:aF),k<=i->out[i]? = some o->pk b x<pk b o) :
 dJ b (l++[x]) (out.take k++x::out.drop k):=by
 have hsp:out=out.take k++out.drop k:=(List.take_append_drop k out).symm;have hlt:∀o∈out.take k,pk b o<pk b x:=fun o ho=>by
  obtain⟨i,hi,rfl⟩:=List.getElem_of_mem ho;rw[List.length_take]at hi;rw[List.getElem_take];exact h1 i _ ae (List.getElem?_eq_getElem ae)
 have yS:∀o∈out.drop k,pk b x<pk b o:=fun o ho=>by
  obtain⟨i,hi,rfl⟩:=List.getElem_of_mem ho;rw[List.length_drop]at hi;rw[List.getElem_drop];exact h2 (k+i) _ ae (List.getElem?_eq_getElem ae)
 have hne:∀o∈out,¬same o x:=fun o ho hs=>by
  grind [iA]
 have hr:=h.gy;rw[hsp,List.pairwise_append]at hr;have mo:∀o,o∈out.take k++x::out.drop k↔o=x\/o∈out:=fun o=>by
  grind
 refine⟨?_,fun o ho=>?_,fun y hy hn=>?_⟩
 ·grind [List.pairwise_cons]
 ·rcases(mo o).1 ho with rfl | ho
  ·refine⟨ah,hx,fun y hy hs=>?_⟩;rcases List.mem_append.1 hy with hy | hy
   ·obtain⟨o',kN,hs'⟩:=h.all y hy (hs.symm.loop hx);grind [same.trans]
   grind
  ·obtain⟨g1,g2,g3⟩:=h.mem o ho;refine⟨List.mem_append_left _ g1,g2,fun y hy hs=>?_⟩;grind [same.symm]
 ·rcases List.mem_append.1 hy with hy | hy
  ·grind [all]
  ·rw[List.mem_singleton.1 hy];exact⟨x,(mo x).2 (.inl rfl),rfl,rfl⟩
theorem dJ.over{b:Bool}{l out:List aF}{x o:aF}(h:dJ b l out){k:Nat}(ho:out[k]? = some o)(hs:same o x)(hr:rk x<rk o):dJ b (l++[x]) (out.set k x):=by
 have hk:=(List.getElem?_eq_some_iff.1 ho).1;have Pk:pk b x=pk b o:=(iA (b:=b).2 hs).symm;have iR:∀(i:Nat)(y:aF),(out.set k x)[i]? = some y->(i=k/\y=x)\/(i≠k/\out[i]? = some y):=fun i y hy=>by
  grind
 have ad4:∀(i:Nat)(y:aF),(out.set k x)[i]? = some y->∃z,out[i]? = some z/\pk b z=pk b y:=fun i y hy=>by
  grind
 have kN:=h.mem o (List.mem_of_getElem? ho);refine⟨?_,fun y hy=>?_,fun y hy hn=>?_⟩
 ·rw[List.pairwise_iff_getElem];intro i j hi hj e9;obtain⟨z1,g1,e1⟩:=ad4 i _ (List.getElem?_eq_getElem hi);obtain⟨z2,g2,e2⟩:=ad4 j _ (List.getElem?_eq_getElem hj);rw[<- e1,<- e2];exact fg h.gy e9 g1 g2
 ·obtain⟨i,hi,rfl⟩:=List.getElem_of_mem hy;rcases iR i _ (List.getElem?_eq_getElem hi) with⟨_,e⟩|⟨hik,e⟩
  ·rw[e];refine⟨ah,hs.loop kN.2.1,fun z hz hzs=>?_⟩;grind [same.trans,same.symm]
  ·generalize (out.set k x)[i]=y at *;obtain⟨g1,g2,g3⟩:=h.mem y (List.mem_of_getElem? e);refine⟨List.mem_append_left _ g1,g2,fun z hz hzs=>?_⟩;rcases List.mem_append.1 hz with hz | hz
   ·grind
   ·rw[List.mem_singleton.1 hz]at hzs;have e1:=iA (b:=b).2 (hs.trans hzs);rcases Nat.lt_or_gt_of_ne hik with hlt | hlt
    ·have:=fg h.gy hlt e ho;omega
    ·have:=fg h.gy hlt ho e;omega
 ·have p9:∀(i:Nat)(z:aF),out[i]? = some z->∃z'∈out.set k x,same z' z:=fun i z hz=>by
   by_cases hik:i=k
   ·grind [same.symm]
   ·exact⟨z,List.mem_of_getElem? (i:=i) (by grind),rfl,rfl⟩
  rcases List.mem_append.1 hy with hy | hy
  ·obtain⟨z,hz,hzs⟩:=h.all y hy hn;obtain⟨i,hi,rfl⟩:=List.getElem_of_mem hz;obtain⟨z',h1,h2⟩:=p9 i _ (List.getElem?_eq_getElem hi);grind [same.trans]
  ·rw[List.mem_singleton.1 hy];obtain⟨z',h1,h2⟩:=p9 k o ho;grind [same.trans]
theorem dJ.leave{b:Bool}{l out:List aF}{x:aF}(h:dJ b l out)(hx:x.t=x.h\/∃o∈out,same o x/\rk o<=rk x):dJ b (l++[x]) out:=by
 refine⟨h.gy,fun o ho=>?_,fun y hy hn=>?_⟩
 ·obtain⟨g1,g2,g3⟩:=h.mem o ho;refine⟨List.mem_append_left _ g1,g2,fun y hy hs=>?_⟩;rcases List.mem_append.1 hy with hy | hy
  ·grind
  ·rw[List.mem_singleton.1 hy]at hs ⊢;rcases hx with hx |⟨o',kN,hs',hr⟩
   ·exact absurd hx (hs.symm.loop g2)
   ·have e:=iA (b:=b).2 (hs'.trans hs);obtain⟨i,hi,rfl⟩:=List.getElem_of_mem ho;obtain⟨j,hj,rfl⟩:=List.getElem_of_mem kN;rcases Nat.lt_trichotomy i j with hlt | rfl | hlt
    ·have:=fg h.gy hlt (List.getElem?_eq_getElem hi) (List.getElem?_eq_getElem hj);omega
    ·exact hr
    ·have:=fg h.gy hlt (List.getElem?_eq_getElem hj) (List.getElem?_eq_getElem hi);omega
 grind [all]
theorem K0{l:List aF}{i:Nat}(hi:i<l.length)(x:aF) :
 dE (l.set i x)=((((dE l).set (i*4) (.int .u32 (x.t.toNat:Int))).set (i*4+1) (.int .u32 (x.h.toNat:Int))).set (i*4+2) (.int .u64 (x.x.toNat:Int))).set (i*4+3) (.int .u32 (x.m.toNat:Int)):=by
 induction l generalizing i with
 |nil=>cases hi
 |cons y l ih=>
   cases i with
   |zero=>rfl
   |succ i=>
     rw[List.set_cons_succ,dE,dE,ih (by grind)];grind
theorem kg{w:World}{base g cap n:Nat}{l:List aF}(h:aI w base (.slice (some ⟨g,0,none⟩) n cap) l){i:Nat}(hi:i<l.length)(x:aF) :
 aI ((((w.setCell ⟨g,i*4,none⟩ (.int .u32 (x.t.toNat:Int))).setCell ⟨g,i*4+1,none⟩ (.int .u32 (x.h.toNat:Int))).setCell ⟨g,i*4+2,none⟩ (.int .u64 (x.x.toNat:Int))).setCell ⟨g,i*4+3,none⟩ (.int .u32 (x.m.toNat:Int))) base (.slice (some ⟨g,0,none⟩) n cap) (l.set i x):=by
 grind [az,K0,World.ownsRow.stored]
theorem cB{w:World}{base g cap n:Nat}{l:List aF}(h:aI w base (.slice (some ⟨g,0,none⟩) n cap) l)(j:Nat):w.frozen? ⟨g,j,none⟩=false:=by
 grind [az,World.ownsRow.frozenAt]
theorem Dz{w W W':World}{v v':Value}{M:List aF}{ob:Obj}(hb:Below w.heap.size w W)(hv:aI W w.heap.size v M)(ha:lq v (W.alloc ob) W' v'):Below w.heap.size w W':=by
 obtain⟨hg,_⟩:=ha;have hs:W.heap.size<(W.alloc ob).heap.size:=by simp
 refine hb.trans ⟨hg.os.trans rfl,hg.tape.trans rfl,hg.output.trans rfl,Nat.le_trans (Nat.le_of_lt hs) hg.size,fun x hx=>?_⟩;have:=hb.size;refine(hg.block x ae (fun e=>?_)).trans ((MapKept.heap_alloc W ob).2 x ae);have:=(aL hv x e.symm).2;omega
end
section
open Go.RowKit Go.Maps
def IB(w:World)(es:List aF)(e:Ending)(w':World):Prop:=∃v,e=.returned v/\aI w' w.heap.size v es/\Below w.heap.size w w'
theorem jU{w:World}{a:Option Addr}{n cap:Nat}{es:List aF}(h:kL w (.slice a n cap) es):n=es.length/\∀W,Below w.heap.size w W->∀(i:Nat)(x:aF),es[i]? = some x->∃b off,a=some ⟨b,off,none⟩/\W.cell? ⟨b,off+i*4,none⟩=some (.int .u32 (x.t.toNat:Int))/\W.cell? ⟨b,off+i*4+1,none⟩=some (.int .u32 (x.h.toNat:Int))/\W.cell? ⟨b,off+i*4+2,none⟩=some (.int .u64 (x.x.toNat:Int))/\W.cell? ⟨b,off+i*4+3,none⟩=some (.int .u32 (x.m.toNat:Int)):=by
 have hn:n=es.length:=by
  obtain⟨a',cap',he,_⟩:=h;cases he;rfl
 refine⟨hn,fun W hB i x hx=>?_⟩;obtain⟨a',cap',Cc,hce⟩:=h.below hB;cases Cc;rcases hce with h0 |⟨b,off,h1,hc⟩
 ·have:=aN hx;omega
 ·exact⟨b,off,h1,hc i x hx⟩
theorem rG{es:List aF}{i:Nat}{x:aF}(h:es[i]? = some x):es.take (i+1)=es.take i++[x]:=by
 have hl:=aN h;rw[List.take_succ_eq_append_getElem hl];rw[List.getElem?_eq_getElem hl]at h;rw[Option.some.inj h]
theorem lr{w W:World}{g:Nat}(hb:Below w.heap.size w W)(hg:w.heap.size<=g)(a1 a2 a3 a4:Nat)(v1 v2 v3 v4:Value):Below w.heap.size w ((((W.setCell ⟨g,a1,none⟩ v1).setCell ⟨g,a2,none⟩ v2).setCell ⟨g,a3,none⟩ v3).setCell ⟨g,a4,none⟩ v4):=
 (((hb.setCell hg _).setCell hg _).setCell hg _).setCell hg _
theorem IC{W:World}{g b:Nat}{ob:Option Obj}(hb:W.heap[b]? = ob)(hne:b≠g)(a1 a2 a3 a4:Nat)(v1 v2 v3 v4:Value):((((W.setCell ⟨g,a1,none⟩ v1).setCell ⟨g,a2,none⟩ v2).setCell ⟨g,a3,none⟩ v3).setCell ⟨g,a4,none⟩ v4).heap[b]? = ob:=by
 rw[Below.heap_setCell _ _ _ _ hne,Below.heap_setCell _ _ _ _ hne,Below.heap_setCell _ _ _ _ hne,Below.heap_setCell _ _ _ _ hne];exact hb
theorem OH{out:List aF}{x y:aF}{k at':Nat}(hk:at'<k)(yo:k<=out.length)(hy:out[k-1]? = some y):(out.take k++x::out.drop k).set k y=out.take (k-1)++y::out.drop (k-1):=by
 have h1:(out.take k).length=k:=by rw[List.length_take];omega
 rw[List.set_append_right _ _ ae,h1,Nat.sub_self,List.set_cons_zero];obtain⟨q,rfl⟩:∃q,k=q+1:=⟨k-1,ae⟩;rw[Nat.add_sub_cancel]at hy ⊢;have hq:q<out.length:=by omega
 rw[List.getElem?_eq_getElem hq]at hy;rw[List.take_succ_eq_append_getElem hq,List.append_assoc,List.drop_eq_getElem_cons hq,Option.some.inj hy];rfl
theorem OI{out:List aF}{x y:aF}{k:Nat}(hk:0<k)(yo:k<=out.length)(hy:out[k-1]? = some y):(out.take k++x::out.drop k)[k-1]? = some y:=by
 rw[List.getElem?_append_left (by rw[List.length_take];omega),List.getElem?_take,if_pos ae];exact hy
theorem AO{out:List aF}{x y:aF}{k:Nat}(yo:k<=out.length):(out.take k++y::out.drop k).set k x=out.take k++x::out.drop k:=by
 have h1:(out.take k).length=k:=by rw[List.length_take];omega
 rw[List.set_append_right _ _ ae,h1,Nat.sub_self,List.set_cons_zero]
def VP(w:World)(es:List aF)(i:Nat)(v:Value)(W:World):Prop:=∃out:List aF,aI W w.heap.size v out/\dJ false (es.take i) out/\out.length<=i/\Below w.heap.size w W
theorem K5(v:Value)(es:List aF)(w:World)(hv:kL w v es)(hl:es.length<=10000):Calls prog 80 #[v] w (IB w (aK false es)):=by
 have HV:=aa hv;obtain⟨a,cap,rfl,-⟩:=hv;obtain⟨-,lI⟩:=jU HV.o;have HC:=aa lI;have HX:Hid (∀i,i<es.length->∃x,es[i]? = some x):=aa (fun i hi=>⟨_,List.getElem?_eq_getElem hi⟩);have BV:Hid (es.take es.length=es):=aa (List.take_of_length_le (Nat.le_refl _));clear lI;generalize hN:es.length=N at *;have HN:=aa hN;clear hN;go_enter func80,ntmps80;go_wp2;go_loopw [3,4] (fun ov iv W=>∃i:Nat,i<=N/\iv=.int .i64 (i:Int)/\VP w es i ov W) (fun _ iv _=>N-(intOf iv).toNat)
 case atStart=>exact⟨0,Nat.zero_le _,rfl,[],World.ownsRow_nil _ _ _ _,dJ.nil _,Nat.le_refl _,Below.refl _ _⟩
 case round=>
  generalize u3=ov at *;generalize wr=W0 at *;obtain⟨i,hi,rfl,out,hr,Ai,hol,hb⟩:=hrel;have HR:=aa hr;have mP:=aa Ai;have HB:=aa hb;have hz:w.heap.size<=W0.heap.size:=hb.size;clear hr Ai hb;by_cases hlt:i<N
  ·obtain⟨x,hx⟩:=HX.o i hlt;obtain⟨be,oe,rfl,f0,f1,f2,f3⟩:=HC.o W0 HB.o i x hx;have oT:=aa (rG hx);clear hx;go_upto_region 6 with(fail)
   have cS:Hid (Below W0.heap.size W0 (W0.alloc (.cells #[.int .u32 (x.t.toNat:Int),.int .u32 (x.h.toNat:Int),.int .u64 (x.x.toNat:Int),.int .u32 (x.m.toNat:Int)] 64))):=aa ai;have HQ1:Hid ((W0.alloc (.cells #[.int .u32 (x.t.toNat:Int),.int .u32 (x.h.toNat:Int),.int .u64 (x.x.toNat:Int),.int .u32 (x.m.toNat:Int)] 64)).heap[W0.heap.size]? = some (.cells #[.int .u32 (x.t.toNat:Int),.int .u32 (x.h.toNat:Int),.int .u64 (x.x.toNat:Int),.int .u32 (x.m.toNat:Int)] 64)):=aa (heap_alloc_new W0 _);have hs1:W0.heap.size<(W0.alloc (.cells #[.int .u32 (x.t.toNat:Int),.int .u32 (x.h.toNat:Int),.int .u64 (x.x.toNat:Int),.int .u32 (x.m.toNat:Int)] 64)).heap.size:=by simp
   clear f0 f1 f2 f3;generalize W0.alloc (.cells #[.int .u32 (x.t.toNat:Int),.int .u32 (x.h.toNat:Int),.int .u64 (x.x.toNat:Int),.int .u32 (x.m.toNat:Int)] 64)=W1 at *;have VQ:=aa (HB.o.trans (cS.o.mono hz));have nu:Hid (aI W1 w.heap.size ov out):=aa (aW HR.o cS.o);have Mr:Hid (∀y,ov.ownBlock=some y->y<W0.heap.size):=aa (fun y hy=>(aL HR.o y hy).1);generalize W0.heap.size=xb at *;have hz1:w.heap.size<=W1.heap.size:=by omega
   clear HB cS;have Bx:∀W:World,W.heap[xb]? = some (.cells #[.int .u32 (x.t.toNat:Int),.int .u32 (x.h.toNat:Int),.int .u64 (x.x.toNat:Int),.int .u32 (x.m.toNat:Int)] 64)->W.cell? ⟨xb,0,none⟩=some (.int .u32 (x.t.toNat:Int))/\W.cell? ⟨xb,1,none⟩=some (.int .u32 (x.h.toNat:Int))/\W.cell? ⟨xb,2,none⟩=some (.int .u64 (x.x.toNat:Int))/\W.cell? ⟨xb,3,none⟩=some (.int .u32 (x.m.toNat:Int)):=fun W hW=>by
    refine⟨?_,?_,?_,?_⟩<;>rw[aq hW]<;>rfl
   have MG:=aa Bx;clear Bx;by_cases ID:x.t=x.h
   ·have FH:Hid (dJ false (es.take (i+1)) out):=aa (by rw[oT.o];exact mP.o.leave (.inl ID));obtain⟨c0,c1,-,-⟩:=MG.o W1 HQ1.o;rw[ID]at c0;clear ID;go_wp2;go_roundw
    case rel=>exact⟨i+1,ae,by go_num,out,nu.o,FH.o,ae,VQ.o⟩
    case measure=>simp[intOf];omega
   ·obtain⟨a1,a2,a3,a4,a5⟩:=z8 ID;have IE:=aa ID;obtain⟨c0,c1,-,-⟩:=MG.o W1 HQ1.o;obtain⟨oa,oc,Cc⟩:∃oa oc,ov=.slice oa out.length oc:=az nu.o;subst Cc;have Q6:Hid (∀W,Below W1.heap.size W1 W->∀(j:Nat)(o:aF),out[j]? = some o->∃g,oa=some ⟨g,0,none⟩/\W.cell? ⟨g,j*4,none⟩=some (.int .u32 (o.t.toNat:Int))/\W.cell? ⟨g,j*4+1,none⟩=some (.int .u32 (o.h.toNat:Int))/\W.cell? ⟨g,j*4+2,none⟩=some (.int .u64 (o.x.toNat:Int))/\W.cell? ⟨g,j*4+3,none⟩=some (.int .u32 (o.m.toNat:Int))):=aa (fun W hB j o ho=>by
     rcases cj nu.o with⟨h1,h2⟩|⟨g,cap,h1,hg,hc1,hc2⟩
     ·rw[h1]at ho;cases ho
     ·cases h1;obtain⟨e0,e1,e2,e3⟩:=bL nu.o ho;exact⟨g,rfl,bh hB e0,bh hB e1,bh hB e2,bh hB e3⟩)
    have Jw:Hid (∀j,j<out.length->∃o,out[j]? = some o):=aa (fun j hj=>⟨_,List.getElem?_eq_getElem hj⟩);generalize Qc:out.length=n0 at *;have kC:=aa Qc;clear Qc;go_wp2;go_loopw [6] (fun kv W=>∃k:Nat,k<=n0/\kv=.int .i64 (k:Int)/\(∀(j:Nat)(o:aF),j<k->out[j]? = some o->pk false o<pk false x)/\Below W1.heap.size W1 W) (fun kv _=>n0-(intOf kv).toNat)
    case atStart=>exact⟨0,Nat.zero_le _,rfl,(fun j o hj=>absurd hj (Nat.not_lt_zero _)),Below.refl _ _⟩
    case round=>
     generalize wr=W2 at *;clear a1 a2 a3 a4 a5 c0 c1;obtain⟨k,hk,rfl,Jj,hb2⟩:=hrel;have PD:=aa Jj;have cX:=aa hb2;clear Jj hb2;have mz:Hid (∀W,Below W2.heap.size W2 W->W.heap[xb]? = some (.cells #[.int .u32 (x.t.toNat:Int),.int .u32 (x.h.toNat:Int),.int .u64 (x.x.toNat:Int),.int .u32 (x.m.toNat:Int)] 64)):=aa (fun W hB=>((hB.block _ (Nat.lt_of_lt_of_le hs1 cX.o.size)).trans (cX.o.block _ hs1)).trans HQ1.o);by_cases yo:k<n0
     ·obtain⟨o,ho⟩:=Jw.o k yo;have HO:=aa ho;clear ho;obtain⟨g,rfl,-⟩:=Q6.o W2 cX.o k o HO.o;have HOW:Hid (∀W,Below W2.heap.size W2 W->W.cell? ⟨g,k*4,none⟩=some (.int .u32 (o.t.toNat:Int))/\W.cell? ⟨g,k*4+1,none⟩=some (.int .u32 (o.h.toNat:Int))/\W.cell? ⟨g,k*4+2,none⟩=some (.int .u64 (o.x.toNat:Int))/\W.cell? ⟨g,k*4+3,none⟩=some (.int .u32 (o.m.toNat:Int))):=aa (fun W hB=>by
       obtain⟨g',e,r⟩:=Q6.o W (cX.o.trans (hB.mono cX.o.size)) k o HO.o;cases e;exact r)
      have aM:=aa (fun W=>x9 o x W);obtain⟨r,jE⟩:∃r:Bool,r=decide (pk false o<pk false x):=⟨_,rfl⟩;rw[<- jE]at aM;have PB:=aa jE;clear jE;go_wp2_with fail;refine wq W2 ?_;iterate 8 (refine qz ?_)
      refine qz ?_ (fun w' hw'=>by obtain⟨e0,e1,e2,e3⟩:=HOW.o w' hw';go_simp<;>rfl);refine qz ?_ (fun w' hw'=>by obtain⟨e0,e1,e2,e3⟩:=MG.o w' (mz.o w' hw');go_simp<;>rfl);refine qw (fun w' hw'=>(aM.o w').mono fun e w'' ⟨he,hb⟩=>⟨he,hw'.trans (hb.mono hw'.size)⟩) ?_;refine qz ?_;refine wpQuiet_nil ?_;intro W3 hb3;have jC:=aa (cX.o.trans (hb3.mono cX.o.size));have im:Hid (∀W,Below W3.heap.size W3 W->W.heap[xb]? = some (.cells #[.int .u32 (x.t.toNat:Int),.int .u32 (x.h.toNat:Int),.int .u64 (x.x.toNat:Int),.int .u32 (x.m.toNat:Int)] 64)):=aa (fun W hB=>mz.o W (hb3.trans (hB.mono hb3.size)));clear hb3 mz;cases r with
      |true=>
        have ZW:Hid (∀(j:Nat)(o':aF),j<k+1->out[j]? = some o'->pk false o'<pk false x):=aa (fun j o' hj kN=>by
         rcases Nat.lt_or_ge j k with h | h
         ·exact PD.o j o' h kN
         ·obtain rfl:j=k:=by omega
          rw[HO.o]at kN;rw[<- Option.some.inj kN];exact of_decide_eq_true PB.o.symm)
        go_wp2;go_roundw
        case rel=>exact⟨k+1,ae,by go_num,ZW.o,jC.o⟩
        case measure=>simp[intOf];omega
      |false=>
        have Hr:Hid (¬pk false o<pk false x):=aa (of_decide_eq_false PB.o.symm);have OJ:Hid (∀W,Below W3.heap.size W3 W->W.cell? ⟨g,k*4,none⟩=some (.int .u32 (o.t.toNat:Int))/\W.cell? ⟨g,k*4+1,none⟩=some (.int .u32 (o.h.toNat:Int))/\W.cell? ⟨g,k*4+2,none⟩=some (.int .u64 (o.x.toNat:Int))/\W.cell? ⟨g,k*4+3,none⟩=some (.int .u32 (o.m.toNat:Int))):=aa (fun W hB=>by
         obtain⟨g',e,r⟩:=Q6.o W (jC.o.trans (hB.mono jC.o.size)) k o HO.o;cases e;exact r)
        have gS:=aa (fun W=>x9 x o W);obtain⟨r2,hr2⟩:∃r:Bool,r=decide (pk false x<pk false o):=⟨_,rfl⟩;rw[<- hr2]at gS;have ZX:=aa hr2;clear hr2 aM HOW;go_wp2_with fail;refine wq W3 ?_;iterate 5 (refine qz ?_)
        refine qz ?_ (fun w' hw'=>by obtain⟨e0,e1,e2,e3⟩:=MG.o w' (im.o w' hw');go_simp<;>rfl);iterate 3 (refine qz ?_)
        refine qz ?_ (fun w' hw'=>by obtain⟨e0,e1,e2,e3⟩:=OJ.o w' hw';go_simp<;>rfl);refine qw (fun w' hw'=>(gS.o w').mono fun e w'' ⟨he,hb⟩=>⟨he,hw'.trans (hb.mono hw'.size)⟩) ?_;iterate 2 (refine qz ?_)
        refine wpQuiet_nil ?_;intro W4 hb4;have oU:=aa (jC.o.trans (hb4.mono jC.o.size));have xR:Hid (∀W,Below W4.heap.size W4 W->W.heap[xb]? = some (.cells #[.int .u32 (x.t.toNat:Int),.int .u32 (x.h.toNat:Int),.int .u64 (x.x.toNat:Int),.int .u32 (x.m.toNat:Int)] 64)):=aa (fun W hB=>im.o W (hb4.trans (hB.mono hb4.size)));clear hb4 im gS OJ;cases r2 with
        |false=>
          have HPK:Hid (pk false o=pk false x):=aa (by
           have h1:=Hr.o;have h2:=of_decide_eq_false ZX.o.symm;omega)
          have SH:Hid (∀W,Below W4.heap.size W4 W->W.cell? ⟨g,k*4,none⟩=some (.int .u32 (o.t.toNat:Int))/\W.cell? ⟨g,k*4+1,none⟩=some (.int .u32 (o.h.toNat:Int))/\W.cell? ⟨g,k*4+2,none⟩=some (.int .u64 (o.x.toNat:Int))/\W.cell? ⟨g,k*4+3,none⟩=some (.int .u32 (o.m.toNat:Int))):=aa (fun W hB=>by
           obtain⟨g',e,r⟩:=Q6.o W (oU.o.trans (hB.mono oU.o.size)) k o HO.o;cases e;exact r)
          have lN:=aa (fun W=>E6 x o W);obtain⟨r3,hr3⟩:∃r:Bool,r=decide (rk x<rk o):=⟨_,rfl⟩;rw[<- hr3]at lN;have ad6:=aa hr3;clear hr3;go_wp2_with fail;refine wq W4 ?_;refine qz ?_ (fun w' hw'=>by obtain⟨e0,e1,e2,e3⟩:=MG.o w' (xR.o w' hw');go_simp<;>rfl);iterate 3 (refine qz ?_)
          refine qz ?_ (fun w' hw'=>by obtain⟨e0,e1,e2,e3⟩:=SH.o w' hw';go_simp<;>rfl);refine qw (fun w' hw'=>(lN.o w').mono fun e w'' ⟨he,hb⟩=>⟨he,hw'.trans (hb.mono hw'.size)⟩) ?_;refine wpQuiet_nil ?_;intro W5 nT;have Ck:=aa (oU.o.trans (nT.mono oU.o.size));have Ay:Hid (aI W5 w.heap.size (.slice (some ⟨g,0,none⟩) n0 oc) out):=aa (aW nu.o Ck.o);have Bo:Hid (W5.heap[xb]? = some (.cells #[.int .u32 (x.t.toNat:Int),.int .u32 (x.h.toNat:Int),.int .u64 (x.x.toNat:Int),.int .u32 (x.m.toNat:Int)] 64)):=aa (xR.o W5 nT);have ad7:=aa (VQ.o.trans (Ck.o.mono hz1));clear nT xR lN SH;cases r3 with
          |true=>
            have HBO:Hid (dJ false (es.take (i+1)) (out.set k x)):=aa (by
             rw[oT.o];exact mP.o.over HO.o (iA.1 HPK.o) (of_decide_eq_true ad6.o.symm))
            have hown:=kg Ay.o (i:=k) (by rw[kC.o];exact yo) x;obtain⟨e0,e1,e2,e3⟩:=bL (by rw[kC.o];exact Ay.o) HO.o;obtain⟨c0,c1,c2,c3⟩:=MG.o W5 Bo.o;have z0:=cB Ay.o (k*4);have z1:=cB Ay.o (k*4+1);have z2:=cB Ay.o (k*4+2);have z3:=cB Ay.o (k*4+3);have hgw:w.heap.size<=g:=aG Ay.o g rfl;have TY:=aa (lr ad7.o hgw (k*4) (k*4+1) (k*4+2) (k*4+3) (.int .u32 (x.t.toNat:Int)) (.int .u32 (x.h.toNat:Int)) (.int .u64 (x.x.toNat:Int)) (.int .u32 (x.m.toNat:Int)));have vJ:=aa hown;clear hown;go_wp2;go_roundw
            case rel=>exact⟨i+1,ae,by go_num,out.set k x,vJ.o,HBO.o,by rw[List.length_set,kC.o];omega,TY.o⟩
            case measure=>simp[intOf];omega
          |false=>
            have FH:Hid (dJ false (es.take (i+1)) out):=aa (by
             rw[oT.o];exact mP.o.leave (.inr ⟨o,List.mem_of_getElem? HO.o,iA.1 HPK.o,by have:=of_decide_eq_false ad6.o.symm;omega⟩))
            go_wp2;go_roundw
            case rel=>exact⟨i+1,ae,by go_num,out,Ay.o,FH.o,by rw[kC.o];omega,ad7.o⟩
            case measure=>simp[intOf];omega
        |true=>
          have K6:Hid (dJ false (es.take (i+1)) (out.take k++x::out.drop k)):=aa (by
           rw[oT.o];refine mP.o.lay IE.o (by rw[kC.o];exact hk) PD.o (fun j o' hj kN=>?_);have h1:pk false x<pk false o:=of_decide_eq_true ZX.o.symm;rcases Nat.eq_or_lt_of_le hj with rfl | hlt
           ·rw[HO.o]at kN;rw[<- Option.some.inj kN];exact h1
           ·exact Nat.lt_trans h1 (fg mP.o.gy hlt HO.o kN))
          have my:=oU;clear xR PB ZX;have HRx:Hid (aI W4 w.heap.size (.slice (some ⟨g,0,none⟩) n0 oc) out):=aa (aW nu.o my.o);have hzx:w.heap.size<=W4.heap.size:=Nat.le_trans hz1 my.o.size;have Vo:out.length<=100000:=by rw[kC.o];omega
          have XF:xb<W4.heap.size:=Nat.lt_of_lt_of_le hs1 my.o.size;have Cw:Hid (W4.heap[xb]? = some (.cells #[.int .u32 (x.t.toNat:Int),.int .u32 (x.h.toNat:Int),.int .u64 (x.x.toNat:Int),.int .u32 (x.m.toNat:Int)] 64)):=aa ((my.o.block _ hs1).trans HQ1.o);obtain⟨c0,c1,c2,c3⟩:=MG.o W4 Cw.o;go_wp2_with (at_builtin;refine cR rfl _ _ rfl w.heap.size _ out rfl HRx.o x 1 rfl Vo hzx ?_);intro v6 W6 AP K7;have mQ:=aa (Dz (VQ.o.trans (my.o.mono hz1)) HRx.o K7);have qa:W4.heap.size<(W4.alloc (.cells #[.int .u32 (x.t.toNat:Int),.int .u32 (x.h.toNat:Int),.int .u64 (x.x.toNat:Int),.int .u32 (x.m.toNat:Int)] 64)).heap.size:=by simp
          have ZY:Hid (W6.heap[xb]? = some (.cells #[.int .u32 (x.t.toNat:Int),.int .u32 (x.h.toNat:Int),.int .u64 (x.x.toNat:Int),.int .u32 (x.m.toNat:Int)] 64)):=aa (((K7.1.block xb ae (fun e=>by have:=Mr.o xb e.symm;omega)).trans ((MapKept.heap_alloc W4 _).2 xb XF)).trans Cw.o);have SI:∀y,v6.ownBlock=some y->xb≠y:=fun y hy e=>by
           rcases K7.2 with h | h
           ·rw[h]at hy;have:=Mr.o y hy;omega
           ·rw[h]at hy;have:=Option.some.inj hy;omega
          obtain⟨n1,Bu⟩:∃n1:Nat,n1=n0+1:=⟨_,rfl⟩;have AQ:(out++[x]).length=n1:=by rw[List.length_append,kC.o,Bu];rfl
          obtain⟨g6,c6,rfl⟩:∃g c,v6=.slice (some ⟨g,0,none⟩) n1 c:=by
           rcases cj AP with⟨h1,_⟩|⟨g,c,h1,_⟩
           ·simp at h1
           ·exact⟨g,c,by rw[<- AQ];exact h1⟩
          have ad9:xb≠g6:=SI g6 rfl;have hg6:w.heap.size<=g6:=aG AP g6 rfl;have ajx:(n1:Int)-1=(n0:Int):=by omega
          have ajy:n0<n1:=by omega
          have SJ:n1<=c6/\c6<=maxLen:=by
           rcases cj AP with⟨h1,_⟩|⟨g,c,h1,_,h2,h3⟩
           ·simp at h1
           ·rw[AQ]at h1 h2;cases h1;exact⟨h2,h3⟩
          obtain⟨ZZ,K8⟩:=SJ;unfold maxLen at K8;have JV:Hid (aI W6 w.heap.size (.slice (some ⟨g6,0,none⟩) n1 c6) (out.take n0++x::out.drop n0)):=aa (by
           rw[List.take_of_length_le (by rw[kC.o];exact Nat.le_refl _),List.drop_of_length_le (by rw[kC.o];exact Nat.le_refl _)];exact AP)
          have Gc:=aa Bu;clear AP K7 SI AQ Bu qa c0 c1 c2 c3;go_wp2;go_loopw [7] (fun kv W=>∃(kk:Nat)(y:aF),k<=kk/\kk<=n0/\kv=.int .i64 (kk:Int)/\aI W w.heap.size (.slice (some ⟨g6,0,none⟩) n1 c6) (out.take kk++y::out.drop kk)/\Below w.heap.size w W/\W.heap[xb]? = some (.cells #[.int .u32 (x.t.toNat:Int),.int .u32 (x.h.toNat:Int),.int .u64 (x.x.toNat:Int),.int .u32 (x.m.toNat:Int)] 64)) (fun kv _=>(intOf kv).toNat)
          case atStart=>exact⟨n0,x,hk,Nat.le_refl _,rfl,JV.o,mQ.o,ZY.o⟩
          case round=>
           generalize wr=W7 at *;obtain⟨kk,y,ajz,K9,rfl,SK,Ma,hx7⟩:=hrel;have EM:=aa SK;have rQ:=aa Ma;have lp:=aa hx7;clear SK Ma hx7;have hMl:(out.take kk++y::out.drop kk).length=n1:=by
            rw[List.length_append,List.length_cons,List.length_take,List.length_drop,kC.o,Gc.o];omega
           have NZ:=aa hMl;clear hMl;have HKY:Hid ((out.take kk++y::out.drop kk)[kk]? = some y):=aa (by
            rw[List.getElem?_append_right (by rw[List.length_take];omega),List.length_take,kC.o,Nat.min_eq_left K9,Nat.sub_self];rfl)
           obtain⟨p0,p1,p2,p3⟩:=bL (by rw[NZ.o];exact EM.o) HKY.o;have z0:=cB EM.o (kk*4);have z1:=cB EM.o (kk*4+1);have z2:=cB EM.o (kk*4+2);have z3:=cB EM.o (kk*4+3);by_cases yS:k<kk
           ·obtain⟨q,hq⟩:∃q:Nat,(q:Int)=(kk:Int)-1:=⟨kk-1,ae⟩;have hq':(kk:Int)-1=(q:Int):=hq.symm;have hqk:kk-1=q:=by omega
            have HQK:=aa hqk;have hqn:q<n1:=by omega
            have hql:q<out.length:=by rw[kC.o];omega
            obtain⟨z,hz⟩:∃z,out[q]? = some z:=⟨_,List.getElem?_eq_getElem hql⟩;have hzz:out[kk-1]? = some z:=by rw[hqk];exact hz
            have HZ:Hid ((out.take kk++y::out.drop kk)[q]? = some z):=aa (by
             have:=OI (x:=y) ae (by rw[kC.o];exact K9) hzz;rw[hqk]at this;exact this)
            have YX:Hid ((out.take kk++y::out.drop kk).set kk z=out.take q++z::out.drop q):=aa (by
             have:=OH (x:=y) yS (by rw[kC.o];exact K9) hzz;rw[hqk]at this;exact this)
            have hown:=kg EM.o (i:=kk) (by rw[NZ.o];omega) z;rw[YX.o]at hown;have vJ:=aa hown;obtain⟨s0,s1,s2,s3⟩:=bL (by rw[NZ.o];exact EM.o) HZ.o;have TY:=aa (lr rQ.o hg6 (kk*4) (kk*4+1) (kk*4+2) (kk*4+3) (.int .u32 (z.t.toNat:Int)) (.int .u32 (z.h.toNat:Int)) (.int .u64 (z.x.toNat:Int)) (.int .u32 (z.m.toNat:Int)));have Z0:=aa (IC lp.o ad9 (kk*4) (kk*4+1) (kk*4+2) (kk*4+3) (.int .u32 (z.t.toNat:Int)) (.int .u32 (z.h.toNat:Int)) (.int .u64 (z.x.toNat:Int)) (.int .u32 (z.m.toNat:Int)));clear hq hqk hz hzz hown hql;go_wp2;go_roundw
            case rel=>exact⟨q,z,ae,ae,by first | rfl | go_num,vJ.o,TY.o,Z0.o⟩
            case measure=>simp[intOf];omega
           ·obtain rfl:kk=k:=by omega
            obtain⟨c0,c1,c2,c3⟩:=MG.o W7 lp.o;have hown:=kg EM.o (i:=kk) (by rw[NZ.o];omega) x;rw[AO (by rw[kC.o];exact K9)]at hown;have vJ:=aa hown;have TY:=aa (lr rQ.o hg6 (kk*4) (kk*4+1) (kk*4+2) (kk*4+3) (.int .u32 (x.t.toNat:Int)) (.int .u32 (x.h.toNat:Int)) (.int .u64 (x.x.toNat:Int)) (.int .u32 (x.m.toNat:Int)));have ajB:kk<n1:=by omega
            clear hown;go_wp2;go_roundw
            case rel=>exact⟨i+1,ae,by go_num,out.take kk++x::out.drop kk,vJ.o,K6.o,by rw[List.length_append,List.length_cons,List.length_take,List.length_drop,kC.o];omega,TY.o⟩
            case measure=>simp[intOf];omega
     ·obtain rfl:n0=k:=by omega
      have K6:Hid (dJ false (es.take (i+1)) (out.take n0++x::out.drop n0)):=aa (by
       rw[oT.o];refine mP.o.lay IE.o (by rw[kC.o];exact Nat.le_refl _) PD.o (fun j o' hj kN=>?_);have:=aN kN;rw[kC.o]at this;omega)
      have hdd:decide ((n0:Int)<(n0:Int))=false:=decide_eq_false ae;have Z1:decide (n0<n0)=false:=decide_eq_false ae;go_wp2_with fail;go_quiet (fail)
      have hb3:Below W2.heap.size W2 (W2.drewN nq):=below_drewN aj _;have jC:=aa (cX.o.trans (hb3.mono cX.o.size));clear hb3;generalize W2.drewN nq=W3 at *;go_wp2_with fail;go_quiet (fail)
      have hb4:Below W3.heap.size W3 (W3.drewN nq):=below_drewN aj _;have my:=aa (jC.o.trans (hb4.mono jC.o.size));clear hb4 hdd Z1;generalize W3.drewN nq=W4 at *;have HRx:Hid (aI W4 w.heap.size (.slice oa n0 oc) out):=aa (aW nu.o my.o);have hzx:w.heap.size<=W4.heap.size:=Nat.le_trans hz1 my.o.size;have Vo:out.length<=100000:=by rw[kC.o];omega
      have XF:xb<W4.heap.size:=Nat.lt_of_lt_of_le hs1 my.o.size;have Cw:Hid (W4.heap[xb]? = some (.cells #[.int .u32 (x.t.toNat:Int),.int .u32 (x.h.toNat:Int),.int .u64 (x.x.toNat:Int),.int .u32 (x.m.toNat:Int)] 64)):=aa ((my.o.block _ hs1).trans HQ1.o);obtain⟨c0,c1,c2,c3⟩:=MG.o W4 Cw.o;go_wp2_with (at_builtin;refine cR rfl _ _ rfl w.heap.size _ out rfl HRx.o x 1 rfl Vo hzx ?_);intro v6 W6 AP K7;have mQ:=aa (Dz (VQ.o.trans (my.o.mono hz1)) HRx.o K7);have qa:W4.heap.size<(W4.alloc (.cells #[.int .u32 (x.t.toNat:Int),.int .u32 (x.h.toNat:Int),.int .u64 (x.x.toNat:Int),.int .u32 (x.m.toNat:Int)] 64)).heap.size:=by simp
      have ZY:Hid (W6.heap[xb]? = some (.cells #[.int .u32 (x.t.toNat:Int),.int .u32 (x.h.toNat:Int),.int .u64 (x.x.toNat:Int),.int .u32 (x.m.toNat:Int)] 64)):=aa (((K7.1.block xb ae (fun e=>by have:=Mr.o xb e.symm;omega)).trans ((MapKept.heap_alloc W4 _).2 xb XF)).trans Cw.o);have SI:∀y,v6.ownBlock=some y->xb≠y:=fun y hy e=>by
       rcases K7.2 with h | h
       ·rw[h]at hy;have:=Mr.o y hy;omega
       ·rw[h]at hy;have:=Option.some.inj hy;omega
      obtain⟨n1,Bu⟩:∃n1:Nat,n1=n0+1:=⟨_,rfl⟩;have AQ:(out++[x]).length=n1:=by rw[List.length_append,kC.o,Bu];rfl
      obtain⟨g6,c6,rfl⟩:∃g c,v6=.slice (some ⟨g,0,none⟩) n1 c:=by
       rcases cj AP with⟨h1,_⟩|⟨g,c,h1,_⟩
       ·simp at h1
       ·exact⟨g,c,by rw[<- AQ];exact h1⟩
      have ad9:xb≠g6:=SI g6 rfl;have hg6:w.heap.size<=g6:=aG AP g6 rfl;have ajx:(n1:Int)-1=(n0:Int):=by omega
      have ajy:n0<n1:=by omega
      have SJ:n1<=c6/\c6<=maxLen:=by
       rcases cj AP with⟨h1,_⟩|⟨g,c,h1,_,h2,h3⟩
       ·simp at h1
       ·rw[AQ]at h1 h2;cases h1;exact⟨h2,h3⟩
      obtain⟨ZZ,K8⟩:=SJ;unfold maxLen at K8;have JV:Hid (aI W6 w.heap.size (.slice (some ⟨g6,0,none⟩) n1 c6) (out.take n0++x::out.drop n0)):=aa (by
       rw[List.take_of_length_le (by rw[kC.o];exact Nat.le_refl _),List.drop_of_length_le (by rw[kC.o];exact Nat.le_refl _)];exact AP)
      have Gc:=aa Bu;clear AP K7 SI AQ Bu qa c0 c1 c2 c3;go_wp2;go_loopw [7] (fun kv W=>∃(kk:Nat)(y:aF),n0<=kk/\kk<=n0/\kv=.int .i64 (kk:Int)/\aI W w.heap.size (.slice (some ⟨g6,0,none⟩) n1 c6) (out.take kk++y::out.drop kk)/\Below w.heap.size w W/\W.heap[xb]? = some (.cells #[.int .u32 (x.t.toNat:Int),.int .u32 (x.h.toNat:Int),.int .u64 (x.x.toNat:Int),.int .u32 (x.m.toNat:Int)] 64)) (fun kv _=>(intOf kv).toNat)
      case atStart=>exact⟨n0,x,hk,Nat.le_refl _,rfl,JV.o,mQ.o,ZY.o⟩
      case round=>
       generalize wr=W7 at *;obtain⟨kk,y,ajz,K9,rfl,SK,Ma,hx7⟩:=hrel;have EM:=aa SK;have rQ:=aa Ma;have lp:=aa hx7;clear SK Ma hx7;have hMl:(out.take kk++y::out.drop kk).length=n1:=by
        rw[List.length_append,List.length_cons,List.length_take,List.length_drop,kC.o,Gc.o];omega
       have NZ:=aa hMl;clear hMl;have HKY:Hid ((out.take kk++y::out.drop kk)[kk]? = some y):=aa (by
        rw[List.getElem?_append_right (by rw[List.length_take];omega),List.length_take,kC.o,Nat.min_eq_left K9,Nat.sub_self];rfl)
       obtain⟨p0,p1,p2,p3⟩:=bL (by rw[NZ.o];exact EM.o) HKY.o;have z0:=cB EM.o (kk*4);have z1:=cB EM.o (kk*4+1);have z2:=cB EM.o (kk*4+2);have z3:=cB EM.o (kk*4+3);by_cases yS:n0<kk
       ·omega
       ·obtain rfl:kk=n0:=by omega
        obtain⟨c0,c1,c2,c3⟩:=MG.o W7 lp.o;have hown:=kg EM.o (i:=kk) (by rw[NZ.o];omega) x;rw[AO (by rw[kC.o];exact K9)]at hown;have vJ:=aa hown;have TY:=aa (lr rQ.o hg6 (kk*4) (kk*4+1) (kk*4+2) (kk*4+3) (.int .u32 (x.t.toNat:Int)) (.int .u32 (x.h.toNat:Int)) (.int .u64 (x.x.toNat:Int)) (.int .u32 (x.m.toNat:Int)));have ajB:kk<n1:=by omega
        clear hown;go_wp2;go_roundw
        case rel=>exact⟨i+1,ae,by go_num,out.take kk++x::out.drop kk,vJ.o,K6.o,by rw[List.length_append,List.length_cons,List.length_take,List.length_drop,kC.o];omega,TY.o⟩
        case measure=>simp[intOf];omega
  ·obtain rfl:N=i:=by omega
   go_wp2;go_ret;refine⟨_,rfl,?_,HB.o⟩;have h:=mP.o;rw[BV.o]at h;rw[<- h.eq];exact HR.o
theorem Z2{x y:aF}:(y.t=x.t/\y.h=x.h/\y.x=x.x/\y.m=x.m)↔y=x:=by
 cases x;cases y;simp
instance ajC:DecidableEq aF:=fun y x=>decidable_of_iff (y.t=x.t/\y.h=x.h/\y.x=x.x/\y.m=x.m) Z2
noncomputable section
def aY(es:List aF)(v:Nat):List aF:=H9 false v (aK false es)
def fB(es:List aF)(v:Nat):List aF:=H9 true v (aK true es)
def SL(l:List Nat):List Nat:=l.foldl (fun a x=>if x∈a then a else a++[x]) []
def cV(es:List aF)(v:Nat):List Nat:=SL ((aY es v).map (·.h.toNat)++(fB es v).map (·.t.toNat))
structure yX where
 v:Nat
 k:Nat
 n:List Nat
def SM(i o s:Nat)(x:cr):Nat:=(SD i o s x.l.toNat x.g.toNat).toNat
def oI(es:List aF)(v:Nat)(x:cr):yX:=⟨v,SM (fB es v).length (aY es v).length (oH (aY es) (fun _=>false) (fB es v) (UInt32.ofNat v)).length x,cV es v⟩
def en(es:List aF)(vs:List cr):List yX:=vs.zipIdx.filterMap fun p=>if p.1.r=4294967295 then some (oI es p.2 p.1) else none
def gD(a b:yX):Prop:=a.k<b.k\/a.k=b.k/\a.v<b.v
instance(a b:yX):Decidable (gD a b):=by unfold gD;infer_instance
def AR(cs:List yX)(v:Nat):Prop:=∃a∈cs,∃b∈cs,b.v∈a.n/\a.v≠b.v/\(gD a b/\b.v=v\/¬gD a b/\a.v=v)
instance(cs:List yX)(v:Nat):Decidable (AR cs v):=by unfold AR;infer_instance
def kX(cs:List yX):List Nat:=(cs.map (·.v)).filter fun v=>¬AR cs v
def aD(es:List aF)(vs:List cr):List Nat:=kX (en es vs)
def gF(es:List aF)(ch:List Nat):List aF:=(aK false es).filter fun x=>x.t.toNat ∉ ch/\x.h.toNat ∉ ch
def iH(es:List aF)(ch:List Nat)(v:Nat):List aF:=oH (aY es) (fun w=>decide (w∈ch)) (fB es v) (UInt32.ofNat v)
def fK(es:List aF)(ch:List Nat):List aF:=gF es ch++ch.flatMap (iH es ch)
def uI(es:List aF)(ch:List Nat):List aF:=ch.flatMap (aY es)
def fC(es:List aF)(ch:List Nat):List aF:=ch.flatMap (fB es)
def kE(lv:UInt32)(vs:List cr)(w:Nat):List cr:=vs.modify w fun x=>⟨x.r,if x.l<lv then lv else x.l,x.g+1⟩
def fW(es:List aF)(was:List cr)(done gen:Nat)(vs:List cr)(i v:Nat):List cr:=
 (cV es v).foldl (kE (((was[v]?).map (·.l)).getD 0+1)) (vs.modify v fun x=>⟨UInt32.ofNat (done+i),UInt32.ofNat (gen+1),x.g⟩)
def dP(es:List aF)(was:List cr)(done gen:Nat)(ch:List Nat):List cr:=ch.zipIdx.foldl (fun vs p=>fW es was done gen vs p.2 p.1) was
end
end
section
open Go.RowKit Go.Maps
theorem qT{α:Type}[DecidableEq α]{VR:List α}:∀{l₂:List α},VR.Nodup->(∀x∈VR,x∈l₂)->VR.length<=l₂.length:=by
 induction VR with
 |nil=>simp
 |cons a l ih=>
   intro l₂ h hs;obtain⟨s,t,rfl⟩:=List.append_of_mem (hs a ah);rw[List.nodup_cons]at h;have:=ih (l₂:=s++t) h.2 (fun x hx=>by
    grind)
   grind
theorem yY{b:Bool}{v:Nat}{l:List aF}{x:aF}(h:x∈H9 b v l):x∈l/\fT b x=v:=by
 grind [H9]
section
variable {w0 w w':World} {pb db n:Nat} {o o':ar} {d d':Dsk} {L L':aC}
theorem Held.SG{w1:World}(h:Held w1 w pb db n o d L)(hb:Below w0.heap.size w0 w1):Held w0 w pb db n o d L:=
 ⟨h.aX,fun x t hx=>Nat.le_trans hb.size (h.new x t hx),hb.trans (h.below.mono hb.size),h.cL,h.dead,h.bD⟩
end
end
section
open Go.RowKit Go.Maps
theorem jt{w:World}{base:Nat}{v:Value}{es:List aF}(h:aI w base v es):kL w v es:=by
 rcases cj h with⟨rfl,h1⟩|⟨g,cap,rfl,hg,hc1,hc2⟩
 ·obtain⟨a,cap,rfl⟩:=az h;exact⟨a,cap,rfl,.inl rfl⟩
 ·refine⟨some ⟨g,0,none⟩,cap,rfl,.inr ⟨g,0,rfl,fun j x hx=>?_⟩⟩;obtain⟨h1,h2,h3,h4⟩:=bL h hx;rw[Nat.zero_add];exact⟨h1,h2,h3,h4⟩
end
end Go.Proofs.YthkkgdpomhhjjaaGreatDoor
