/-
  Joined.
-/
import Derived.Test.YthkkgdpomhhjjaaGreatDoorX10
import Derived.Deep.RegionLaw
import Derived.BigRegion
import Derived.Maps.Keyed
import Derived.Laws.Externs
import Derived.Laws.BytesArg
import Derived.Laws.OwnMore
set_option maxRecDepth 100000
set_option maxHeartbeats 8000000
namespace Go.Proofs.YthkkgdpomhhjjaaGreatDoor
open Go.Proofs.Tryz
section
open Go.RowKit Go.Maps
section
variable {w w' W:World} {hb g cap:Nat} {v v':Value} {l:List fy}
theorem l6{P:Program}{w:World}{ops:Array Oper}{o:Oper}{a:Act}{K:Act->World->Prop}{Q:Exit->Act->World->Prop}{E:Prop}(hg:o.guard=none)(s x:Operand)(t:TypeId)(ho:o.op=.call { callee:=.builtin .append,args:=#[s,x],argTypes:=#[t,t] })(base:Nat)(e:TypeId)(z:Value)(size bytes:Nat)(ht:P.underlying t=some (.slice e))(hi:(P.info? e).map (fun i=>(i.zero,i.size,i.bytes))=some (some z,size,bytes))(hzs:z.cells.size=size)(hsz:0<size)(v:Value)(n:Nat)(xs:List Value)(hs:a.eval s=v)(hown:w.ownsRow base e size v n xs)(ad:Addr)(m c:Nat)(news:List Value)(hx:a.eval x=.slice (some ad) m c)(hl:news.length=m*size)(hnews:∀j u,news[j]? = some u->w.cell? (ad.add j)=some u)(h1:∀u∈news,u.oneCell'=true)(h63:n+m<=maxLen)(hbytes:(n+m)*bytes<=140737488355328)(hbase:base<=w.heap.size)(k:∀v' w',w'.ownsRow base e size v' (n+m) (xs++news)->lj v w w' v'->K (a.put o.dst v') w'):if Region.wanted o (yielded ops a.tmps)=true then Oper.wp P o a w K Q else E:=by
 have hw:Region.wanted o (yielded ops a.tmps)=true:=by grind [Region.wanted]
 rw[if_pos hw];obtain⟨i0,uQ,hz0,hz1,hz2⟩:=info_parts hi;obtain⟨v',w',g1,g2,g3,g4,g5⟩:=run_append_own_at (P:=P) w base t o.type e i0 z size bytes ht uQ hz0 hz1 hz2 hzs hsz v n xs hown ad m c news hl hnews h1 h63 hbytes hbase;unfold Oper.wp execOp;simp only[ho,resolve,invoke,builtin,Sem.run_bind,Sem.run_pure,Result.andThen_ok,List.map_toArray,List.map_cons,List.map_nil,hs,hx,g1];exact k v' w' g2 ⟨g3,g5⟩
theorem wh{ops:Array Oper}{o:Oper}{a:Act}{w:World}{K:Act->World->Prop}{Q:Exit->Act->World->Prop}{E:Prop}(hgd:o.guard=none)(s x:Operand)(ho:o.op=.call { callee:=.builtin .append,args:=#[s,x],argTypes:=#[359,359] })(v:Value)(l:List fy)(hs:a.eval s=v)(hown:lZ w v l)(y:fy)(xb c:Nat)(hx:a.eval x=.slice (some ⟨xb,0,none⟩) 1 c)(FI:w.heap[xb]? = some (.cells #[.int .u64 (y.1:Int),.int .u32 (y.2:Int)] 357))(hl:l.length<=100000)(k:∀v' w',lZ w' v' (l++[y])->lj v w w' v'->K (a.put o.dst v') w'):if Region.wanted o (yielded ops a.tmps)=true then Oper.wp prog o a w K Q else E:=by
 refine l6 hgd s x 359 ho 0 357 _ 2 16 Tryz.underlying359 Ov rfl af v l.length (eM l) hs hown ⟨xb,0,none⟩ 1 c (fy.cells y) hx rfl (fun j u hj=>?_) (by simp[Value.oneCell']) (by grind [maxLen]) ae (Nat.zero_le _) (fun v' w' h1 h2=>k v' w' ?_ h2)
 ·rw[bF,Nat.zero_add,aq FI];grind
 ·unfold lZ;rw[Cn,List.length_append];exact h1
theorem dR.Ie{x:fy}(h:dR W hb v l)(ha:lj v W w' v')(hr:lZ w' v' (l++[x])) :
 w'.cell? ⟨hb,0,none⟩=some v/\w'.frozen? ⟨hb,0,none⟩=false/\dR (w'.setCell ⟨hb,0,none⟩ v') hb v' (l++[x])/\aF (fun b=>b=hb\/v.ownBlock=some b) W (w'.setCell ⟨hb,0,none⟩ v')/\∀b,v'.ownBlock=some b->v.ownBlock=some b\/W.heap.size<=b:=by
 obtain⟨hg,hv⟩:=ha;have hlt:=h.lt;obtain⟨⟨t,h1⟩,h2,h3⟩:=h;have e1:w'.heap[hb]? = some (.cells #[v,MD] t):=by
  grind [World.grownBy.block]
 have X5:∀b,v'.ownBlock=some b->v.ownBlock=some b\/W.heap.size<=b:=fun b hb'=>by
  grind
 have hne:v'.ownBlock≠some hb:=fun e=>by
  grind
 refine⟨by rw[aq e1];rfl,aO e1 _,⟨⟨t,aT e1 0 v'⟩,?_,hne⟩,?_,X5⟩
 ·grind [bH,Below.heap_setCell]
 ·have ht:aF (fun b=>b=hb\/v.ownBlock=some b) W w':=⟨hg.os,hg.tape,hg.output,hg.size,fun k hk hn=>hg.block k hk (fun e=>hn (.inr e.symm))⟩;grind [aF.setCell]
theorem mV(h:dR w hb v l):Calls prog 300 #[ptrTo hb] w fun e w'=>e=.returned (.int .i64 (l.length:Int))/\w'=w:=by
 obtain⟨a,c,rfl⟩:=az h.row;have c0:=h.cells.1;clear h;unfold ptrTo;go_enter func300,ntmps300;go_wp2;go_ret;simp
theorem Ig(w:World):Calls prog 242 #[] w fun e w'=>e=.returned (ptrTo w.heap.size)/\dR w' w.heap.size (.slice none 0 0) []/\Below w.heap.size w w'/\w.heap.size<w'.heap.size:=by
 unfold ptrTo;go_enter func242,ntmps242;go_wp2;go_ret;refine⟨rfl,⟨⟨_,heap_alloc_new _ _⟩,World.ownsRow_nil _ _ _ _,by simp[Value.ownBlock]⟩,aj.alloc (Nat.le_refl _) _,ah⟩
theorem KL{x:fy}(h:lZ w v (l++[x])):∃g k M,Hid (M=l.length+1)/\v=.slice (some ⟨g,0,none⟩) M k:=by
 obtain⟨-,⟨h1,h2⟩|⟨g,k,_,h1,_⟩⟩:=h
 ·grind
 grind [aa]
def Ay(w:World)(hb:Nat)(v:Value)(l:List fy)(x:fy)(e:Ending)(w':World):Prop:=
 ∃v' l',e=.returned (.int .i64 0)/\dR w' hb v' l'/\gX l'/\l'.Perm (l++[x])/\aF (fun b=>b=hb\/v.ownBlock=some b) w w'/\∀b,v'.ownBlock=some b->v.ownBlock=some b\/w.heap.size<=b
theorem Sr(h:dR w hb v l)(hh:gX l)(x:fy)(hl:l.length<65536):Calls prog 283 #[ptrTo hb,jR x] w (Ay w hb v l x):=by
 obtain⟨a,c,rfl⟩:=az h.row;have H1:Hid (dR (w.alloc (.cells #[.int .u64 (x.1:Int),.int .u32 (x.2:Int)] 357)) hb (.slice a l.length c) l):=aa (h.below ai);have HX:Hid ((w.alloc (.cells #[.int .u64 (x.1:Int),.int .u32 (x.2:Int)] 357)).cell? ⟨w.heap.size,0,none⟩=some (.int .u64 (x.1:Int))/\(w.alloc (.cells #[.int .u64 (x.1:Int),.int .u32 (x.2:Int)] 357)).cell? ⟨w.heap.size,1,none⟩=some (.int .u32 (x.2:Int))):=aa ah;have HT:Hid (aF (fun b=>b=hb\/(Value.slice a l.length c).ownBlock=some b) w (w.alloc (.cells #[.int .u64 (x.1:Int),.int .u32 (x.2:Int)] 357))):=aa ((aF.refl _ w).alloc _);have HH:=aa hh;have hlen:=aa (mV H1.o);have hl':decide ((l.length:Int) >= 65536)=false:=decide_eq_false ae;clear h hh hl;unfold jR ptrTo Ay at *;go_enter func283,ntmps283;go_wp2_with fail;refine hlen.o.mono ?_;rintro e w2⟨rfl,rfl⟩;clear hlen;generalize w.alloc (.cells #[.int .u64 (x.1:Int),.int .u32 (x.2:Int)] 357)=W1 at *;go_wp2_with fail;have c0:=H1.o.cells.1;obtain⟨x0,x1⟩:=HX.o;have hlt:=H1.o.lt;have Ss:=World.block_lt_of_cell? _ _ x0;have f0:=H1.o.cells.2.2;have cQ:Hid (∀ob,Below W1.heap.size W1 (W1.alloc ob).drew):=aa (fun ob=>(aj.alloc (Nat.le_refl _) ob).drew);go_region_law (refine wh rfl _ _ rfl _ l rfl (World.ownsRow.alloc (World.ownsRow.drew H1.o.row) _) x _ 1 rfl (heap_alloc_new _ _) (by grind) ?_;intro v5 w5 h5 ha;obtain⟨g5,k5,M,HM,rfl⟩:=KL h5;obtain⟨c5,f5,Fx,rI,Ow⟩:=(H1.o.below (cQ.o _)).Ie ha h5;have HA5:=aa (show _/\_/\_ from⟨Fx,rI,Ow⟩);clear Fx rI Ow ha h5)
 all_goals
  clear c0 x0 x1 hlt Ss f0 c5 f5;have H5:Hid (dR (w5.setCell ⟨hb,0,none⟩ (.slice (some ⟨g5,0,none⟩) M k5)) hb (.slice (some ⟨g5,0,none⟩) (l++[x]).length k5) (l++[x])):=aa (by grind [Hid.out]);have DV:=aa ((HT.o.bM (cQ.o (.cells #[.int .u64 (x.1:Int),.int .u32 (x.2:Int)] 357))).trans HA5.o.2.1 (fun _ _ e=>e));have Ox:Hid (∀b,g5=b->(Value.slice a l.length c).ownBlock=some b\/w.heap.size<=b):=aa (fun b hb=>(HA5.o.2.2 b (by rw[hb];rfl)).imp id (fun e=>Nat.le_trans (HT.o.bM (cQ.o (.cells #[.int .u64 (x.1:Int),.int .u32 (x.2:Int)] 357))).size e));clear HA5 cQ H1 HT HX;generalize w5.setCell ⟨hb,0,none⟩ (.slice (some ⟨g5,0,none⟩) M k5)=W5 at *;have hlen:=aa (fun W hW=>mV (w:=W) (H5.o.below (w':=W) hW));have hup:=aa (fun W hW=>ZR (w:=W) (i:=l.length) (H5.o.below (w':=W) hW) ah (Oo HH.o x) (by grind));rw[show(l++[x]).length=M by rw[HM.out];simp]at hlen;have wl:IntKind.i64.wrap ((M:Int)-1)=(l.length:Int):=by grind [Hid.out,ax]
  unfold ptrTo at *;go_wp2_with fail;refine cn (Below W5.heap.size W5) 6 (by rfl) ag (aj.drew) ?_;simp only[List.take_succ_cons,List.take_zero,List.drop_succ_cons,List.drop_zero];iterate 4 (refine qz ?_)
  refine qw (fun w' hw'=>(hlen.o w' hw').mono (fun e w'' h=>⟨h.1,h.2▸hw'⟩)) ?_;refine qz ?_;refine wpQuiet_nil ?_;intro w6 Vd;go_wp2_with fail;refine(hup.o w6 Vd).mono ?_;rintro e w7⟨l7,rfl,hp7,hh7,ha7,Pq⟩;have TV:=aa ((DV.o.bM Vd).trans Pq (S:=fun b=>b=hb\/(Value.slice a l.length c).ownBlock=some b) (fun y hy e=>by
   grind [Hid.out]))
  clear hlen hup Vd Pq wl;have Su:=aa ha7;clear ha7;go_wp2;go_ret;exact⟨_,l7,rfl,Su.o,hh7,hp7,TV.o,fun b hb=>Ox.o b (by cases hb;rfl)⟩
theorem dR.shrink(h:dR W hb (.slice (some ⟨g,0,none⟩) l.length cap) l)(k:Nat)(hk:k<=l.length):dR (W.setCell ⟨hb,0,none⟩ (.slice (some ⟨g,0,none⟩) k cap)) hb (.slice (some ⟨g,0,none⟩) (l.take k).length cap) (l.take k):=by
 obtain⟨⟨t,h1⟩,h2,h3⟩:=h;have e:(l.take k).length=k:=by grind
 have hne:g≠hb:=fun e=>h3 (by rw[e];rfl);refine⟨⟨t,?_⟩,?_,by assumption⟩
 ·rw[e];exact aT h1 0 _
 ·obtain⟨hl,⟨h4,h5⟩|⟨g',cap',cur,h4,h5,h6,h7,h8,h9,h10⟩⟩:=h2
  ·cases h4
  ·cases h4;refine⟨by rw[Cm],.inr ⟨g,cap,cur,rfl,Nat.zero_le _,?_,ae,h8,h9,?_⟩⟩
   ·grind [Below.heap_setCell]
   grind [Ic]
theorem dR.ZT(h:dR W hb (.slice (some ⟨g,0,none⟩) l.length cap) l)(hl:0<l.length){y:fy}(hy:gI l (l.length-1)=y) :
 dR (((W.setCell ⟨g,0,none⟩ (.int .u64 (y.1:Int))).setCell ⟨g,1,none⟩ (.int .u32 (y.2:Int))).setCell ⟨hb,0,none⟩ (.slice (some ⟨g,0,none⟩) (l.length-1) cap)) hb (.slice (some ⟨g,0,none⟩) (Aw l).length cap) (Aw l) /\
 aF (fun b=>b=hb\/g=b) W (((W.setCell ⟨g,0,none⟩ (.int .u64 (y.1:Int))).setCell ⟨g,1,none⟩ (.int .u32 (y.2:Int))).setCell ⟨hb,0,none⟩ (.slice (some ⟨g,0,none⟩) (l.length-1) cap)):=by
 subst hy;refine⟨(h.put hl (gI l (l.length-1))).shrink (l.length-1) ah,?_⟩;exact(((aF.refl _ W).setCell _ _ (.inl (.inr rfl))).setCell _ _ (.inl (.inr rfl))).setCell _ _ (.inl (.inl rfl))
theorem Ih(h:dR w hb v []):Calls prog 285 #[ptrTo hb] w fun e w'=>e=.returned (.tuple #[jR (0,0),.bool false])/\Below w.heap.size w w':=by
 have hlen:=aa (fun W hW=>mV (w:=W) (h.below (w':=W) hW));have HB:Hid (Below w.heap.size w (w.alloc (.cells #[.int .u64 0,.int .u32 0] 357))):=aa ai;clear h;unfold jR ptrTo at *;go_enter func285,ntmps285;go_wp2_with fail;refine(hlen.o _ HB.o).mono ?_;rintro e w2⟨rfl,rfl⟩;go_wp2;go_returns;grind [Hid.out]
def ME(w:World)(hb:Nat)(v:Value)(l:List fy)(e:Ending)(w':World):Prop:=
 ∃v' l',e=.returned (.tuple #[jR (gI l 0),.bool true])/\dR w' hb v' l'/\gX l'/\(gI l 0::l').Perm l/\aF (fun b=>b=hb\/v.ownBlock=some b) w w'/\v'.ownBlock=v.ownBlock
theorem VN(h:dR w hb v l)(hh:gX l)(h0:0<l.length)(hl:l.length<=100000):Calls prog 285 #[ptrTo hb] w (ME w hb v l):=by
 obtain⟨g,cap,rfl⟩:∃g cap,v=.slice (some ⟨g,0,none⟩) l.length cap:=by
  obtain⟨-,⟨h1,h2⟩|⟨g,cap,_,h1,_⟩⟩:=h.row
  ·omega
  grind
 have HB:Hid (Below w.heap.size w (w.alloc (.cells #[.int .u64 0,.int .u32 0] 357))):=aa ai;have H1:=aa (h.below HB.o);have HR:Hid ((w.alloc (.cells #[.int .u64 0,.int .u32 0] 357)).heap[w.heap.size]? = some (.cells #[.int .u64 0,.int .u32 0] 357)):=aa (heap_alloc_new _ _);have hlen:=aa (mV H1.o);have HH:=aa hh;have HN:Hid (hb≠w.heap.size/\g≠w.heap.size/\hb<w.heap.size/\g<w.heap.size):=aa (by
  have h1:=h.lt;have h2:=(aL h.row g rfl).1;omega)
 clear h hh;obtain⟨M,hM⟩:∃M,M=l.length-1:=⟨_,rfl⟩;obtain⟨N,hN⟩:∃N,N=l.length:=⟨_,rfl⟩;have HMN:Hid (M=l.length-1/\N=l.length/\M<l.length):=aa ae;have wM:IntKind.i64.wrap ((N:Int)-1)=(M:Int):=by grind [ax]
 have b0:¬(N:Int)=0:=by omega
 have b1:(0:Int)<(N:Int):=by omega
 have b2:(M:Int)<(N:Int):=by omega
 rw[<- hN]at h0 hl hlen;unfold jR ME ptrTo at *;rw[<- hN];clear hM hN;go_enter func285,ntmps285;go_wp2_with fail;refine hlen.o.mono ?_;rintro e w2⟨rfl,rfl⟩;clear hlen;generalize w.alloc (.cells #[.int .u64 0,.int .u32 0] 357)=W1 at *;obtain⟨c0,-,fh⟩:=H1.o.cells;obtain⟨x0,x1⟩:=H1.o.item (i:=0) (by grind [Hid.out]);obtain⟨y0,y1⟩:=H1.o.item (i:=M) HMN.o.2.2;obtain⟨xx,XH⟩:∃x,gI l 0=x:=⟨_,rfl⟩;obtain⟨yy,ZU⟩:∃x,gI l M=x:=⟨_,rfl⟩;have dO:=fun k=>World.ownsRow.frozenAt H1.o.row k;rw[XH]at x0 x1;rw[ZU]at y0 y1;rw[<- HMN.o.2.1]at c0;rw[Nat.zero_mul]at x0 x1;obtain⟨n1,n2,n3,n4⟩:=HN.o;have n6:=H1.o.lt;have b4:M<=cap:=by
  obtain⟨-,⟨h,-⟩|⟨_,_,_,h,-,-,h7,-⟩⟩:=H1.o.row
  ·cases h
  grind [Hid.out]
 have n7:=(aL H1.o.row g rfl).1;have n8:=(Array.getElem?_eq_some_iff.1 HR.o).1;have n5:hb≠g:=fun e=>H1.o.ne (by grind);go_wp2_with fail;have mm:=H1.o.ZT (by grind [Hid.out]) (y:=yy) (by grind [Hid.out]);rw[<- HMN.o.1]at mm;obtain⟨jW,oO⟩:=mm;have pO:=aa (jW.below (aj.alloc (Nat.le_refl _) (.cells #[.int .u64 (xx.1:Int),.int .u32 (xx.2:Int)] 357)));have nO:=aa (oO.alloc (.cells #[.int .u64 (xx.1:Int),.int .u32 (xx.2:Int)] 357));have my:Hid (((((W1.setCell ⟨g,0,none⟩ (.int .u64 (yy.1:Int))).setCell ⟨g,1,none⟩ (.int .u32 (yy.2:Int))).setCell ⟨hb,0,none⟩ (.slice (some ⟨g,0,none⟩) M cap)).alloc (.cells #[.int .u64 (xx.1:Int),.int .u32 (xx.2:Int)] 357)).heap[W1.heap.size]? = some (.cells #[.int .u64 (xx.1:Int),.int .u32 (xx.2:Int)] 357)):=aa (by
  grind [heap_alloc_new,World.setCell])
 have Mg:Hid (W1.heap.size<((((W1.setCell ⟨g,0,none⟩ (.int .u64 (yy.1:Int))).setCell ⟨g,1,none⟩ (.int .u32 (yy.2:Int))).setCell ⟨hb,0,none⟩ (.slice (some ⟨g,0,none⟩) M cap)).alloc (.cells #[.int .u64 (xx.1:Int),.int .u32 (xx.2:Int)] 357)).heap.size):=aa ah;clear jW oO x0 x1 y0 y1 dO c0 fh;generalize ((((W1.setCell ⟨g,0,none⟩ (.int .u64 (yy.1:Int))).setCell ⟨g,1,none⟩ (.int .u32 (yy.2:Int))).setCell ⟨hb,0,none⟩ (.slice (some ⟨g,0,none⟩) M cap)).alloc (.cells #[.int .u64 (xx.1:Int),.int .u32 (xx.2:Int)] 357))=W2 at *;refine(Sp pO.o (Oq HH.o) (by grind [xR,Hid.out])).mono ?_;rintro e w3⟨l3,rfl,Ps,hh3,Xi,yq⟩;have HA3:=aa Xi;have r0:w3.heap[W1.heap.size]? = some (.cells #[.int .u64 (xx.1:Int),.int .u32 (xx.2:Int)] 357):=(yq.block _ Mg.o ae).trans my.o;have s0:w3.heap[w.heap.size]? = some (.cells #[.int .u64 0,.int .u32 0] 357):=(yq.block _ (Nat.lt_trans n8 Mg.o) ae).trans ((nO.o.block _ n8 ae).trans HR.o);have HQ:Hid (dR ((w3.setCell ⟨w.heap.size,0,none⟩ (.int .u64 (xx.1:Int))).setCell ⟨w.heap.size,1,none⟩ (.int .u32 (xx.2:Int))) hb (.slice (some ⟨g,0,none⟩) (Aw l).length cap) l3/\aF (fun b=>b=hb\/(Value.slice (some ⟨g,0,none⟩) N cap).ownBlock=some b) w ((w3.setCell ⟨w.heap.size,0,none⟩ (.int .u64 (xx.1:Int))).setCell ⟨w.heap.size,1,none⟩ (.int .u32 (xx.2:Int)))/\(xx::l3).Perm l):=aa (by
  refine⟨HA3.o.kept (fun b hb'=>?_),?_,(Ps.cons xx).trans (XH▸Ot (by grind [Hid.out]))⟩
  ·have hne:b≠w.heap.size:=by
    rcases hb' with rfl | e
    ·exact n1
    ·cases e;exact n2
   grind [Below.heap_setCell]
  ·refine((((aF.aW HB.o).trans nO.o (fun b _ e=>?_)).trans yq (fun b _ e=>?_)).setCell _ _ (.inr (Nat.le_refl _))).setCell _ _ (.inr (Nat.le_refl _))
   ·exact e.imp id (fun e=>by rw[e];rfl)
   ·exact .inr (by rw[e];rfl))
 have q0:w3.cell? ⟨W1.heap.size,0,none⟩=some (.int .u64 (xx.1:Int)):=by rw[aq r0];rfl
 have q1:w3.cell? ⟨W1.heap.size,1,none⟩=some (.int .u32 (xx.2:Int)):=by rw[aq r0];rfl
 have q2:w3.cell? ⟨w.heap.size,0,none⟩=some (.int .u64 0):=by rw[aq s0];rfl
 have q3:w3.cell? ⟨w.heap.size,1,none⟩=some (.int .u32 0):=by rw[aq s0];rfl
 have q4:∀k,w3.frozen? ⟨w.heap.size,k,none⟩=false:=fun k=>aO s0 k;have s1:=aT s0 0 (.int .u64 (xx.1:Int));have s2:=aT s1 1 (.int .u32 (xx.2:Int));have e0:(w3.setCell ⟨w.heap.size,0,none⟩ (.int .u64 (xx.1:Int))).cell? ⟨w.heap.size,0,none⟩=some (.int .u64 (xx.1:Int)):=by rw[aq s1];rfl
 have e1:((w3.setCell ⟨w.heap.size,0,none⟩ (.int .u64 (xx.1:Int))).setCell ⟨w.heap.size,1,none⟩ (.int .u32 (xx.2:Int))).cell? ⟨w.heap.size,1,none⟩=some (.int .u32 (xx.2:Int)):=by rw[aq s2];rfl
 clear s1 s2;have FH:=aa hh3;have HXX:=aa XH;clear Xi Ps yq r0 s0 HA3 pO nO my H1 HR hh3 XH HB Mg;go_wp2;refine bodyPost_ret (by simp[results,Tryz.results285,go_sem,e0,e1];try rfl) rfl ?_;exact⟨_,l3,by rw[HXX.o],HQ.o.1,FH.o,by grind [Hid.out],HQ.o.2.1,rfl⟩
def ZV(w:World)(hb:Nat)(v:Value)(l:List fy)(e:Ending)(w':World):Prop:=
 ∃(ok:Bool)(x:fy)(v':Value)(l':List fy),e=.returned (.tuple #[jR x,.bool ok])/\dR w' hb v' l'/\gX l'/\aF (fun b=>b=hb\/v.ownBlock=some b) w w'/\v'.ownBlock=v.ownBlock/\l'.length<=l.length/\if ok=true then (x::l').Perm l/\∀y∈l',¬iu y x else l=[]/\l'=[]
theorem Sv(h:dR w hb v l)(hh:gX l)(hl:l.length<=100000):Calls prog 285 #[ptrTo hb] w (ZV w hb v l):=by
 rcases Nat.eq_zero_or_pos l.length with h0 | h0
 ·obtain rfl:=List.eq_nil_of_length_eq_zero h0;refine(Ih h).mono ?_;rintro e w'⟨rfl,hb⟩;exact⟨false,_,v,[],rfl,h.below hb,hh,aF.aW hb,rfl,Nat.le_refl _,ah⟩
 ·refine(VN h hh h0 hl).mono ?_;rintro e w'⟨v',l',rfl,h1,h2,h3,h4,h5⟩;refine⟨true,_,v',l',rfl,h1,h2,h4,h5,by have:=h3.length_eq;grind,?_⟩;rw[if_pos rfl];refine⟨h3,fun y hy=>?_⟩;obtain⟨j,hj⟩:=List.mem_iff_getElem?.1 (h3.mem_iff.1 (List.mem_cons_of_mem _ hy));have hlt:=(List.getElem?_eq_some_iff.1 hj).1;rw[<- Ia hj];grind [Sl]
end
end
section
open Go.RowKit Go.Maps
abbrev yR:=List (Nat×Nat)
def sq(h:List fy)(m:yR):Prop:=(∀v d,aA m v=some d->(d,v)∈h)/\∀y∈h,y.2<4294967296
def qO:yR->Option (Nat×Nat)
 | []=>none
 |p::m=>match qO m with
   |none=>some p
   |some q=>if iu (p.2,p.1) (q.2,q.1) then some p else some q
theorem Az{m:yR}(h:qO m=none):m=[]:=by
 cases m with
 |nil=>rfl
 |cons p m=>
   grind [qO]
theorem AA{m:yR}{q:Nat×Nat}(h:qO m=some q):q∈m/\∀p∈m,¬iu (p.2,p.1) (q.2,q.1):=by
 induction m generalizing q with
 |nil=>cases h
 |cons p m ih=>
   rw[qO]at h;split at h
   ·grind [Az,iu.lY]
   ·rename_i q' e
    split at h
    ·rename_i hl
     grind [iu.oD,iu.asym]
    grind
theorem Sw{m:yR}(hn:(m.map (·.1)).Nodup){v d:Nat}(hm:aA m v=some d)(hl:∀v' d',aA m v'=some d'->¬iu (d',v') (d,v)):qO m=some (v,d):=by
 cases e:qO m with
 |none=>rw[Az e]at hm;cases hm
 |some q=>
   grind [AA,j9,eG,iu.eq]
def qP(m:yR)(v d:Nat):yR:=match aA m v with
 |some old=>if old<=d then m else aS m v d
 |none=>aS m v d
theorem Oy{h h':List fy}{m:yR}(hw:sq h m){v d:Nat}(hv:v<4294967296)(hp:h'.Perm (h++[(d,v)])):sq h' (aS m v d):=by
 refine⟨fun v' d' hm=>?_,fun y hy=>?_⟩;rotate_left
 ·rcases List.mem_append.1 (hp.mem_iff.1 hy) with h | h
  ·exact hw.2 y h
  grind
 rw[ay]at hm;refine hp.mem_iff.2 (List.mem_append.2 ?_);split at hm
 ·grind
 ·exact .inl (hw.1 _ _ hm)
theorem Dm{h h':List fy}{m:yR}(hw:sq h m){x:fy}(hp:(x::h').Perm h):sq h' (match aA m x.2 with | some d=>if d=x.1 then bZ m x.2 else m | none=>m):=by
 have key:∀v d,aA m v=some d->¬(v=x.2/\d=x.1)->(d,v)∈h':=by
  intro v d hm hne;rcases List.mem_cons.1 (hp.mem_iff.2 (hw.1 v d hm)) with e | e
  ·grind
  omega
 refine⟨fun v d hm=>?_,fun y hy=>hw.2 y (by grind)⟩;grind [cO]
def kM(A:Nat->Bool)(S:List Nat)(Ii:Nat)(m:yR)(es:List aH):yR:=
 es.foldl (fun m x=>if Ii+x.x.toNat<9223372036854775808/\x.h.toNat ∉ S/\A x.h.toNat=false then qP m x.h.toNat (Ii+x.x.toNat) else m) m
def mW(E:Nat->List aH)(A:Nat->Bool)(tgt most:Nat):Nat->yR->List Nat->Bool
 |0,_,_=>false
 |k+1,m,S=>match qO m with
   |none=>false
   |some (v,d)=>if most<d then false else if v=tgt then true else mW E A tgt most k (kM A (v::S) d (bZ m v) (E v)) (v::S)
def jE(E:Nat->List aH)(A:Nat->Bool)(v:UInt32)(a b:aH):Option aH:=
 let s:=a.x.toNat+b.x.toNat
 let A':Nat->Bool:=fun w=>w == v.toNat || A w
 if a.t.toNat=b.h.toNat\/A' a.t.toNat=true\/A' b.h.toNat=true\/¬s<9223372036854775808\/(∃x∈E a.t.toNat,x.h.toNat=b.h.toNat/\x.x.toNat<=s)\/mW E A' b.h.toNat s 16 [(a.t.toNat,0)] []=true then none
 else some ⟨a.t,b.h,UInt64.ofNat s,v⟩
def oF(E:Nat->List aH)(A:Nat->Bool)(ins:List aH)(v:UInt32):List aH:=ins.flatMap fun a=>(E v.toNat).filterMap (jE E A v a)
end
section
open Go.RowKit Go.Maps
open Go.ChangeMaps (setBlock)
theorem b8:Keyed prog 26:=int_keyed Tryz.underlying26
abbrev iU(k:Nat):Value:=.int .u32 (k:Int)
abbrev aef(k:Nat):Value:=.int .u64 (k:Int)
theorem dr:∀a b:Nat,iU a=iU b->a=b:=fun a b h=>by
 grind
theorem fQ{k:Nat}(h:k<4294967296):Good prog 26 (iU k):=by
 refine⟨.int .u32 (k:Int),?_⟩;unfold keyOf mapKey;rw[Tryz.underlying26];have:(Lit.int .u32 (k:Int)).wf=true:=by
  have h0:IntKind.u32.min=0:=rfl;have h1:IntKind.u32.max=4294967295:=rfl;grind [Lit.wf]
 grind
abbrev XI(w:World)(b:Nat)(m:yR):Prop:=bN prog 26 iU aef w b m
structure dt(w:World)(fb hb mb:Nat)(v:Value)(h:List fy)(m:yR):Prop where
 hd:w.heap[fb]? = some (.cells #[ptrTo hb,.map (some mb)] 325)
 hp:dR w hb v h
 hh:gX h
 far:XI w mb m
 n1:fb≠hb
 n2:fb≠mb
 n3:hb≠mb
 n4:v.ownBlock≠some fb
 n5:v.ownBlock≠some mb
def ej(w:World)(fb:Nat)(B:Nat->Prop)(m:yR)(c:Nat):Prop:=
 ∃hb mb v h,dt w fb hb mb v h m/\sq h m/\h.length<=c/\B fb/\B hb/\B mb/\∀b,v.ownBlock=some b->B b
section
variable {w w' W:World} {fb hb mb c:Nat} {B:Nat->Prop} {v v':Value} {h h':List fy} {m m':yR}
theorem dt.lt(f:dt w fb hb mb v h m):fb<w.heap.size/\hb<w.heap.size/\mb<w.heap.size/\∀b,v.ownBlock=some b->b<w.heap.size:=
 ⟨(Array.getElem?_eq_some_iff.1 f.hd).1,f.hp.lt,f.far.lt,fun b hb=>(aL f.hp.row b hb).1⟩
theorem dt.kept(f:dt w fb hb mb v h m)(hk:∀b,b=fb\/b=hb\/b=mb\/v.ownBlock=some b->w'.heap[b]? = w.heap[b]?):dt w' fb hb mb v h m:=
 ⟨(hk fb (.inl rfl)).trans f.hd,f.hp.kept (fun b hb=>hk b (hb.elim (fun e=>.inr (.inl e)) (fun e=>.inr (.inr (.inr e))))),f.hh,f.far.kept (hk mb (.inr (.inr (.inl rfl)))),f.n1,f.n2,f.n3,f.n4,f.n5⟩
theorem dt.below(f:dt w fb hb mb v h m)(hbl:Below w.heap.size w w'):dt w' fb hb mb v h m:=by
 obtain⟨l1,l2,l3,l4⟩:=f.lt;grind [kept,Below.block]
theorem ej.kept(f:ej w fb B m c)(hk:∀b,B b->w'.heap[b]? = w.heap[b]?):ej w' fb B m c:=by
 obtain⟨hb,mb,v,h,f,hw,hc,b1,b2,b3,b4⟩:=f;refine⟨hb,mb,v,h,f.kept fun b hb=>hk b ?_,hw,hc,b1,b2,b3,b4⟩;rcases hb with rfl | rfl | rfl | e
 ·exact b1
 ·exact b2
 ·exact b3
 ·exact b4 b e
theorem dt.cells(f:dt w fb hb mb v h m):w.cell? ⟨fb,0,none⟩=some (ptrTo hb)/\w.cell? ⟨fb,1,none⟩=some (.map (some mb)):=
 ⟨by rw[aq f.hd];rfl,by rw[aq f.hd];rfl⟩
theorem dt.mapped(f:dt w fb hb mb v h m)(ob:Obj)(hm:XI (setBlock w mb ob) mb m'):dt (setBlock w mb ob) fb hb mb v h m'/\aF (·=mb) w (setBlock w mb ob):=by
 have ht:∀b,b≠mb->(setBlock w mb ob).heap[b]? = w.heap[b]? := fun b hb=>bh ob hb;refine⟨⟨(ht _ f.n2).trans f.hd,f.hp.kept (fun b hb=>ht b ?_),f.hh,hm,f.n1,f.n2,f.n3,f.n4,f.n5⟩,?_⟩
 ·grind [n3,n5]
 ·exact(aF.refl _ w).setBlock _ _ (.inl rfl)
theorem dt.turned(f:dt w fb hb mb v h m)(hp:dR w' hb v' h')(hh:gX h')(ht:aF (fun b=>b=hb\/v.ownBlock=some b) w w')(hn:∀b,v'.ownBlock=some b->v.ownBlock=some b\/w.heap.size<=b):dt w' fb hb mb v' h' m:=by
 obtain⟨l1,l2,l3,l4⟩:=f.lt;have hk:∀b,b<w.heap.size->b≠hb->v.ownBlock≠some b->w'.heap[b]? = w.heap[b]? := fun b h1 h2 h3=>ht.block b h1 (fun e=>e.elim h2 h3);refine⟨(hk fb l1 f.n1 f.n4).trans f.hd,hp,hh,f.far.kept (hk mb l3 f.n3.symm f.n5),f.n1,f.n2,f.n3,fun e=>?_,fun e=>?_⟩
 ·grind [n4]
 grind [n5]
def AB(w:World)(fb:Nat)(B:Nat->Prop)(m:yR)(c:Nat)(e:Ending)(w':World):Prop:=
 e=.returned (.tuple #[])/\ej w' fb (fun b=>B b\/w.heap.size<=b/\b<w'.heap.size) m (c+1)/\aF B w w'
theorem Ij(w:World):(zeroValue 62).run prog w=.ok (.int .u64 0) w:=Tryz.zeroValue62 w
theorem Ik(hF:ej w fb B m c)(hc:c<65536)(x d:Nat)(hx:x<4294967296):Calls prog 243 #[ptrTo fb,.int .u32 (x:Int),.int .u64 (d:Int)] w (AB w fb B (qP m x d) c):=by
 have HF0:=aa hF;obtain⟨hb,mb,v,h,f,hw,hlc,b1,b2,b3,b4⟩:=hF;have F:=aa f;have HW:=aa hw;have HB:Hid (B fb/\B hb/\B mb/\∀b,v.ownBlock=some b->B b):=aa ⟨b1,b2,b3,b4⟩;obtain⟨c0,c1⟩:=f.cells;have HG:=aa (fQ hx);have HZ:=aa Ij;clear f hw b1 b2 b3 b4;unfold ptrTo AB at *;by_cases hold:∃old,aA m x=some old/\old<=d
 ·obtain⟨old,hm,hle⟩:=hold;have HM:=aa hm;have VO:(old:Int)<=(d:Int):=by omega
  have HC:Hid (qP m x d=m):=aa (by grind [qP]);clear hm hle;go_enter func243,ntmps243;go_wp2_with (at_lookup;refine bW _ rfl _ _ _ _ rfl 62 b8 dr Tryz.underlying323 (HZ.o _) mb m rfl F.o.far x rfl HG.o ?_;unfold pU;rw[HM.o];simp only[Option.map_some,Option.getD_some,Option.isSome_some]);go_returns;exact⟨rfl,by rw[HC.o];obtain⟨hb,mb,v,h,f,hw,hlc,b1,b2,b3,b4⟩:=HF0.o;exact⟨hb,mb,v,h,f,hw,ae,.inl b1,.inl b2,.inl b3,fun b e=>.inl (b4 b e)⟩,aF.refl _ _⟩
 ·have HC:Hid (qP m x d=aS m x d):=aa (by
   grind [qP])
  clear HF0;have HPU:Hid (∀W,dt W fb hb mb v h (aS m x d)->Calls prog 283 #[ptrTo hb,jR (d,x)] W (Ay W hb v h (d,x))):=aa (fun W f=>Sr f.hp f.hh (d,x) ae);unfold jR ptrTo at *;dsimp only at HPU;cases hm:aA m x;case' none=>
   have HM:=aa hm;clear hm hold;go_enter func243,ntmps243;go_wp2_with (first | (at_lookup;refine bW _ rfl _ _ _ _ rfl 62 b8 dr Tryz.underlying323 (HZ.o _) mb m rfl F.o.far x rfl HG.o ?_;unfold pU;rw[HM.o];simp only[Option.map_none,Option.getD_none,Option.isSome_none]) | (at_mapUpdate;refine eH _ rfl _ _ _ _ rfl 62 b8 dr Tryz.underlying323 mb m rfl F.o.far x d rfl rfl HG.o ?_;intro es clock cR));clear HM
  case' some old=>
   have HM:=aa hm;have VO:¬(old:Int)<=(d:Int):=fun hle=>hold ⟨old,hm,ae⟩;clear hm hold;go_enter func243,ntmps243;go_wp2_with (first | (at_lookup;refine bW _ rfl _ _ _ _ rfl 62 b8 dr Tryz.underlying323 (HZ.o _) mb m rfl F.o.far x rfl HG.o ?_;unfold pU;rw[HM.o];simp only[Option.map_some,Option.getD_some,Option.isSome_some]) | (at_mapUpdate;refine eH _ rfl _ _ _ _ rfl 62 b8 dr Tryz.underlying323 mb m rfl F.o.far x d rfl rfl HG.o ?_;intro es clock cR));clear HM VO
  all_goals
   obtain⟨f2,oO⟩:=F.o.mapped _ cR;have F2:=aa f2;have nO:Hid (aF B w (setBlock w mb (.map es clock))):=aa (oO.mono (fun b _ e=>e▸HB.o.2.2.1));have hs2:(setBlock w mb (.map es clock)).heap.size=w.heap.size:=by grind [setBlock]
   clear cR f2 oO c0 c1 F hs2;generalize setBlock w mb (.map es clock)=W2 at *;have F3:Hid (dt (W2.alloc (.cells #[.int .u64 (d:Int),.int .u32 (x:Int)] 357)) fb hb mb v h (aS m x d)):=aa (F2.o.below ai);have iq:Hid ((W2.alloc (.cells #[.int .u64 (d:Int),.int .u32 (x:Int)] 357)).cell? ⟨W2.heap.size,0,none⟩=some (.int .u64 (d:Int))/\(W2.alloc (.cells #[.int .u64 (d:Int),.int .u32 (x:Int)] 357)).cell? ⟨W2.heap.size,1,none⟩=some (.int .u32 (x:Int))):=aa ah;have qZ:Hid (aF B w (W2.alloc (.cells #[.int .u64 (d:Int),.int .u32 (x:Int)] 357))):=aa (nO.o.alloc _);clear nO F2;go_wp2_with fail;generalize W2.alloc (.cells #[.int .u64 (d:Int),.int .u32 (x:Int)] 357)=W3 at *;refine cn (Below W3.heap.size W3) 5 (by rfl) ag (aj.drew) ?_;simp only[List.take_succ_cons,List.take_zero,List.drop_succ_cons,List.drop_zero];iterate 3 (refine qz ?_)
   refine qz ?_ (fun w' hw'=>by have c0:=(F3.o.below hw').cells.1;unfold ptrTo at c0;go_simp<;>rfl);refine qz ?_ (fun w' hw'=>by have c0:=Ax hw' iq.o.1;have c1:=Ax hw' iq.o.2;go_simp<;>rfl);refine wpQuiet_nil ?_;intro w4 hw4;have F4:=aa (F3.o.below hw4);have uS:=aa (qZ.o.bM hw4);have hpu:=aa (HPU.o _ F4.o);clear hw4 F3 qZ iq;go_wp2_with fail;refine hpu.o.mono ?_;rintro e w5⟨v5,h5,rfl,Fx,TS,aeg,rI,Ow⟩;have HQ:Hid (ej w5 fb (fun b=>B b\/w.heap.size<=b/\b<w5.heap.size) (aS m x d) (c+1)/\aF B w w5):=aa (by
    obtain⟨b1,b2,b3,b4⟩:=HB.o;refine⟨⟨hb,mb,v5,h5,F4.o.turned Fx TS rI Ow,Oy HW.o hx aeg,?_,.inl b1,.inl b2,.inl b3,fun b e=>?_⟩,uS.o.trans rI (fun b _ e=>?_)⟩
    ·grind [List.Perm.length_eq,List.length_append]
    ·exact(Ow b e).imp (b4 b) (fun e'=>⟨Nat.le_trans uS.o.size e',(aL Fx.row b e).1⟩)
    grind)
   clear Fx TS aeg rI Ow hpu F4 uS;go_wp2;go_returns;grind [Hid.out]
def wm(w:World)(fb:Nat)(B:Nat->Prop)(m:yR)(c:Nat)(e:Ending)(w':World):Prop:=
 (qO m=none/\e=.returned (.tuple #[.int .u32 0,.int .u64 0,.bool false])/\aF B w w') \/
 ∃x d,qO m=some (x,d)/\e=.returned (.tuple #[.int .u32 (x:Int),.int .u64 (d:Int),.bool true])/\ej w' fb B (bZ m x) c/\aF B w w'
def KM:Option Value->Nat
 |some (.slice _ n _)=>n
 |_=>0
def Sx:Value->Nat
 | .bool true=>1
 |_=>0
theorem dR.KM(hp:dR w hb v h):KM (w.cell? ⟨hb,0,none⟩)=h.length:=by
 obtain⟨a,k,rfl⟩:=az hp.row;rw[hp.cells.1];rfl
theorem Sy(hk:(m.map (·.1)).Nodup)(hw:sq [] m):m=[]:=by
 cases m with
 |nil=>rfl
 |cons p m=>exact absurd (hw.1 p.1 p.2 (j9 hk ah)) ah
structure sX(w:World)(fb hb mb:Nat)(v0:Value)(B:Nat->Prop)(m:yR)(c xb:Nat)(ok:Bool)(x:fy)(v:Value)(h:List fy)(W:World):Prop where
 cs:W.heap[xb]? = some (.cells #[.int .u64 (x.1:Int),.int .u32 (x.2:Int)] 357)
 ge:w.heap.size<=xb
 fr:dt W fb hb mb v h m
 ow:v.ownBlock=v0.ownBlock
 tn:aF B w W
 ln:h.length<=c
 yes:ok=true->sq (x::h) m/\∀y∈h,¬iu y x
 no:ok=false->h=[]/\m=[]
section
variable {v0:Value} {xb:Nat} {ok:Bool} {x:fy}
theorem sX.of(hk:(m.map (·.1)).Nodup)(f:dt W fb hb mb v h m)(hw:sq h m)(ho:v.ownBlock=v0.ownBlock)(ht:aF B w W)(hl:h.length<=c)(hB:B hb/\∀b,v0.ownBlock=some b->B b){ok:Bool}{x:fy}{v':Value}{l':List fy}{w1 w2:World}(p1:dR w1 hb v' l')(p2:gX l')(p3:aF (fun b=>b=hb\/v.ownBlock=some b) W w1)(p4:v'.ownBlock=v.ownBlock)(p5:l'.length<=h.length)(p6:if ok=true then (x::l').Perm h/\∀y∈l',¬iu y x else h=[]/\l'=[])(hc:w2.heap[xb]? = some (.cells #[.int .u64 (x.1:Int),.int .u32 (x.2:Int)] 357))(y7:w.heap.size<=xb)(hx:∀b,b=fb\/b=hb\/b=mb\/v0.ownBlock=some b->b≠xb)(oO:aF (·=xb) w1 w2):sX w fb hb mb v0 B m c xb ok x v' l' w2:=by
 have f1:=f.turned p1 p2 p3 (fun b e=>.inl (p4▸e));obtain⟨l1,l2,l3,l4⟩:=f1.lt;refine⟨hc,y7,f1.kept (fun b hb'=>oO.block b ?_ (hx b ?_)),p4.trans ho,(ht.trans p3 (fun b _ e=>?_)).trans oO (fun b hb e=>?_),Nat.le_trans p5 hl,fun e=>?_,fun e=>?_⟩
 ·grind
 ·grind
 ·grind
 ·omega
 ·rw[if_pos e]at p6;exact⟨⟨fun v d hm=>p6.1.mem_iff.2 (hw.1 v d hm),fun y hy=>hw.2 y (p6.1.mem_iff.1 hy)⟩,p6.2⟩
 grind [Sy]
theorem Oz(hF:ej w fb B m c)(hc:c<=65536):Calls prog 244 #[ptrTo fb] w (wm w fb B m c):=by
 obtain⟨hb,mb,v0,h0,f,hw,hlc,b1,b2,b3,b4⟩:=hF;have HK:Hid ((m.map (·.1)).Nodup):=aa f.far.keys;have HB:Hid (B fb/\B hb/\B mb/\∀b,v0.ownBlock=some b->B b):=aa ⟨b1,b2,b3,b4⟩;have Zc:=aa f.lt;have aeh:Hid (∀W v h,dt W fb hb mb v h m->h.length<=c->Calls prog 285 #[ptrTo hb] W (ZV W hb v h)):=aa (fun W v h f hl=>Sv f.hp f.hh ae);have F:=aa f;have Sz:=aa (aeh.o _ _ _ f hlc);obtain⟨c0,c1⟩:=f.cells;have HZ:=aa Ij;have HAP:Hid (∀xb,w.heap.size<=xb->∀b,b=fb\/b=hb\/b=mb\/v0.ownBlock=some b->b≠xb):=aa (fun xb FI b hb'=>by
  grind [Hid.out])
 have ZW:Hid (∀{W:World}{v:Value}{h:List fy}{xb:Nat}{ok:Bool}{x:fy}{v':Value}{l':List fy}{w1 w2:World},dt W fb hb mb v h m->sq h m->v.ownBlock=v0.ownBlock->aF B w W->h.length<=c->dR w1 hb v' l'->gX l'->aF (fun b=>b=hb\/v.ownBlock=some b) W w1->v'.ownBlock=v.ownBlock->l'.length<=h.length->(if ok=true then (x::l').Perm h/\∀y∈l',¬iu y x else h=[]/\l'=[])->w2.heap[xb]? = some (.cells #[.int .u64 (x.1:Int),.int .u32 (x.2:Int)] 357)->w.heap.size<=xb->aF (·=xb) w1 w2->sX w fb hb mb v0 B m c xb ok x v' l' w2):=
  aa (fun f hw ho ht hl p1 p2 p3 p4 p5 p6 hc y7 oO=>sX.of HK.o f hw ho ht hl ⟨HB.o.2.1,HB.o.2.2.2⟩ p1 p2 p3 p4 p5 p6 hc y7 (HAP.o _ y7) oO)
 have HW:=aa hw;clear f hw b1 b2 b3 b4;unfold jR ptrTo wm ZV at *;go_enter func244,ntmps244;go_wp2_with fail;refine Sz.o.mono ?_;rintro e w1⟨ok,x,v1,h1,rfl,p1,p2,p3,p4,p5,p6⟩;have JO:Hid (sX w fb hb mb v0 B m c w1.heap.size ok x v1 h1 (w1.alloc (.cells #[.int .u64 (x.1:Int),.int .u32 (x.2:Int)] 357))):=aa (ZW.o F.o HW.o rfl (aF.refl _ _) hlc p1 p2 p3 p4 p5 p6 (heap_alloc_new _ _) p3.size ((aF.refl _ _).alloc _));clear p1 p2 p3 p4 p5 p6 Sz F HW c0 c1 hlc;go_wp2_with fail;generalize FI:w1.heap.size=xb1 at *;clear FI;generalize w1.alloc (.cells #[.int .u64 (x.1:Int),.int .u32 (x.2:Int)] 357)=W1 at *;go_loopw [5,6] (fun v5 v6 wr=>∃xb ok x v h,v5=.pointer (some ⟨xb,0,none⟩)/\v6=.bool ok/\Hid (sX w fb hb mb v0 B m c xb ok x v h wr)) (fun _ v6 wr=>KM (wr.cell? ⟨hb,0,none⟩)+Sx v6)
 case atStart=>grind
 case round=>
  obtain⟨xb,ok,x,v,h,rfl,rfl,HP⟩:=hrel;clear JO;generalize wr=Wr at *;cases ok with
  |false=>
    obtain⟨rfl,hm0⟩:=HP.out.no rfl;go_wp2;go_returns;exact .inl ⟨by rw[hm0];rfl,rfl,HP.out.tn⟩
  |true=>
    obtain⟨hw,ur⟩:=HP.out.yes rfl;have HW:=aa hw;have N1:=aa ur;have HG:=aa (fQ (hw.2 x ah));have HLH:=aa HP.out.fr.hp.KM;clear hw ur;obtain⟨D,b,HD,HL⟩:∃(D:Nat)(b:Bool),Hid (aA m x.2=if b=true then some D else none)/\Hid (∀w',Below Wr.heap.size Wr w'->Sem.run prog (Instr.lookup 323 (.map (some mb)) (.int .u32 (x.2:Int)) true) w'=.ok (.tuple #[.int .u64 (D:Int),.bool b]) w'):=by
     have hl:=fun w' hw'=>(HP.out.fr.below (w':=w') hw').far.lookup b8 dr Tryz.underlying323 (HZ.o w') x.2 HG.o true;cases e:aA m x.2 with
     |none=>exact⟨0,false,aa ah,aa (fun w' hw'=>by grind [pU])⟩
     |some D=>exact⟨D,true,aa ah,aa (fun w' hw'=>by grind [pU])⟩
    have HR:Hid (∀w',Below Wr.heap.size Wr w'->w'.cell? ⟨fb,0,none⟩=some (.pointer (some ⟨hb,0,none⟩))/\w'.cell? ⟨fb,1,none⟩=some (.map (some mb))/\w'.cell? ⟨xb,0,none⟩=some (.int .u64 (x.1:Int))/\w'.cell? ⟨xb,1,none⟩=some (.int .u32 (x.2:Int))):=aa (fun w' hw'=>by
     have f:=HP.out.fr.below hw';have hcs:w'.heap[xb]? = some (.cells #[.int .u64 (x.1:Int),.int .u32 (x.2:Int)] 357):=(hw'.block _ (Array.getElem?_eq_some_iff.1 HP.out.cs).1).trans HP.out.cs;exact⟨f.cells.1,f.cells.2,by rw[aq hcs];rfl,by rw[aq hcs];rfl⟩)
    have VP:Hid (xb≠mb):=aa (by have:=HP.out.ge;grind [Hid.out]);by_cases ZX:b=true/\D=x.1
    ·obtain⟨rfl,rfl⟩:=ZX;go_wp2_with fail;refine wq Wr ?_;iterate 3 (refine qz ?_)
     refine qz ?_ (fun w' hw'=>by obtain⟨c0,c1,c2,c3⟩:=HR.o w' hw';go_simp<;>rfl);refine qz ?_;refine qz ?_ (fun w' hw'=>by obtain⟨c0,c1,c2,c3⟩:=HR.o w' hw';go_simp<;>rfl);refine qz ?_ (fun w' hw'=>by have c4:=HL.out w' hw';go_simp<;>rfl);iterate 5 (refine qz ?_)
     refine wpQuiet_nil ?_;intro w3 hw3;have jB:=aa hw3;obtain⟨c0,c1,c2,c3⟩:=HR.o w3 hw3;clear hw3;go_wp2_with fail;clear c0 c1 c2 c3;refine cn (Below w3.heap.size w3) 6 (by rfl) ag (aj.drew) ?_;simp only[List.take_succ_cons,List.take_zero,List.drop_succ_cons,List.drop_zero];iterate 3 (refine qz ?_)
     refine qz ?_ (fun w' hw'=>by obtain⟨c0,c1,c2,c3⟩:=HR.o w' (jB.o.trans (hw'.mono jB.o.size));go_simp<;>rfl);refine qz ?_;refine qz ?_ (fun w' hw'=>by obtain⟨c0,c1,c2,c3⟩:=HR.o w' (jB.o.trans (hw'.mono jB.o.size));go_simp<;>rfl);refine wpQuiet_nil ?_;intro w4 hw4;have nQ:=aa (jB.o.trans (hw4.mono jB.o.size));clear hw4;have F4:=aa (HP.out.fr.below nQ.o);go_wp2_with (at_delete;refine sD _ rfl _ _ _ rfl 62 b8 dr Tryz.underlying323 mb m rfl F4.o.far x.2 rfl HG.o ?_;intro es clock kC;obtain⟨f5,rI⟩:=F4.o.mapped _ kC;have F5:=aa f5;have DV:=aa ((HP.out.tn.bM nQ.o).trans rI (fun b _ e=>e▸HB.o.2.2.1));have c3:(setBlock w4 mb (.map es clock)).cell? ⟨xb,1,none⟩=some (.int .u32 (x.2:Int)):=(by rw[World.cell?_of_block (a:=⟨xb,1,none⟩) (bh (w:=w4) (b:=mb) (.map es clock) VP.o)];exact(HR.o w4 nQ.o).2.2.2);clear f5 rI kC);generalize setBlock w4 mb (.map es clock)=W5 at *;have HQ:Hid (qO m=some (x.2,x.1)/\ej W5 fb B (bZ m x.2) c/\aF B w W5):=aa (by
      have hm:aA m x.2=some x.1:=by assumption
      refine⟨Sw HK.o hm (fun v' d' hm'=>?_),⟨hb,mb,v,h,F5.o,?_,HP.out.ln,HB.o.1,HB.o.2.1,HB.o.2.2.1,fun b e=>HB.o.2.2.2 b (HP.out.ow▸e)⟩,DV.o⟩
      ·rcases List.mem_cons.1 (HW.o.1 _ _ hm') with e | e
       ·rw[e];exact iu.lY _
       ·exact N1.o _ e
      ·have:=Dm HW.o (List.Perm.refl (x::h));rw[hm]at this;simpa using this)
     clear F5 DV F4 nQ jB;go_returns;exact .inr ⟨_,_,HQ.o.1,rfl,HQ.o.2.1,HQ.o.2.2⟩
    ·have HWM:Hid (sq h m):=aa (by
      have:=Dm HW.o (List.Perm.refl (x::h));grind [Hid.out])
     cases b;case' false=>skip
     case' true=>
      have hDz:¬(D:Int)=(x.1:Int):=fun e=>ZX ⟨rfl,ae⟩
     all_goals
      clear ZX;go_wp2_with fail;refine wq Wr ?_;iterate 3 (refine qz ?_)
      refine qz ?_ (fun w' hw'=>by obtain⟨c0,c1,c2,c3⟩:=HR.o w' hw';go_simp<;>rfl);refine qz ?_;refine qz ?_ (fun w' hw'=>by obtain⟨c0,c1,c2,c3⟩:=HR.o w' hw';go_simp<;>rfl);refine qz ?_ (fun w' hw'=>by have c4:=HL.out w' hw';go_simp<;>rfl);iterate 5 (refine qz ?_)
      refine wpQuiet_nil ?_;intro w3 hw3;have F3:Hid (dt (w3.alloc (.cells #[.int .u64 (x.1:Int),.int .u32 (x.2:Int)] 357)) fb hb mb v h m):=aa (HP.out.fr.below (hw3.alloc hw3.size _));have qZ:Hid (aF B w (w3.alloc (.cells #[.int .u64 (x.1:Int),.int .u32 (x.2:Int)] 357))):=aa ((HP.out.tn.bM hw3).alloc _);have Jh:Hid ((w3.alloc (.cells #[.int .u64 (x.1:Int),.int .u32 (x.2:Int)] 357)).heap[w3.heap.size]? = some (.cells #[.int .u64 (x.1:Int),.int .u32 (x.2:Int)] 357)):=aa (heap_alloc_new _ _);have Hp:Hid (w.heap.size<=w3.heap.size):=aa (Nat.le_trans HP.out.tn.size hw3.size);obtain⟨c0,c1,c2,c3⟩:=HR.o w3 hw3;have Sz:=aa (aeh.o _ _ _ F3.o HP.out.ln);have ajG:=(Array.getElem?_eq_some_iff.1 (HP.out.fr.below hw3).hd).1;clear hw3;go_wp2_with fail;clear c0 c1 c2 c3 ajG;generalize hxs:w3.heap.size=Jo at *;generalize w3.alloc (.cells #[.int .u64 (x.1:Int),.int .u32 (x.2:Int)] 357)=W4 at *;clear hxs;refine Sz.o.mono ?_;rintro e w5⟨ok,y,v5,h5,rfl,p1,p2,p3,p4,p5,p6⟩;have hx5:w5.heap[Jo]? = some (.cells #[.int .u64 (x.1:Int),.int .u32 (x.2:Int)] 357):=(p3.block Jo (Array.getElem?_eq_some_iff.1 Jh.o).1 (fun e=>by
       rcases e with e | e
       ·exact HAP.o Jo Hp.o hb (.inr (.inl rfl)) e.symm
       ·exact HAP.o Jo Hp.o Jo (.inr (.inr (.inr (HP.out.ow▸e)))) rfl)).trans Jh.o
      have s1:=aT hx5 0 (.int .u64 (y.1:Int));have s2:=aT s1 1 (.int .u32 (y.2:Int));have HP7:Hid (sX w fb hb mb v0 B m c Jo ok y v5 h5 ((w5.setCell ⟨Jo,0,none⟩ (.int .u64 (y.1:Int))).setCell ⟨Jo,1,none⟩ (.int .u32 (y.2:Int)))):=aa (ZW.o F3.o HWM.o HP.out.ow qZ.o HP.out.ln p1 p2 p3 p4 p5 p6 s2 Hp.o (((aF.refl (·=Jo) w5).setCell ⟨Jo,0,none⟩ _ (.inl rfl)).setCell ⟨Jo,1,none⟩ _ (.inl rfl)));have Xq:Hid (KM (((w5.setCell ⟨Jo,0,none⟩ (.int .u64 (y.1:Int))).setCell ⟨Jo,1,none⟩ (.int .u32 (y.2:Int))).cell? ⟨hb,0,none⟩)+Sx (.bool ok)<KM (Wr.cell? ⟨hb,0,none⟩)+Sx (.bool true)):=aa (by
       rw[HP7.o.fr.hp.KM,HLH.o];cases ok with
       |true=>
         have:=(p6.1).length_eq;simp at this;omega
       |false=>
         have:=p6.2;subst this;show 0+0<h.length+1;omega)
      have q0:w5.cell? ⟨Jo,0,none⟩=some (.int .u64 (x.1:Int)):=by rw[aq hx5];rfl
      have q1:w5.cell? ⟨Jo,1,none⟩=some (.int .u32 (x.2:Int)):=by rw[aq hx5];rfl
      have q2:∀k,w5.frozen? ⟨Jo,k,none⟩=false:=fun k=>aO hx5 k;clear p1 p2 p3 p4 p5 p6 hx5 s1 s2 Sz F3 qZ Jh HLH;go_wp2;grind [Hid.out]
end
end
end
section
open Go.RowKit
theorem OA(x y:Nat)(w:World):(callFunc 241 #[.int .u64 (x:Int),.int .u64 (y:Int),.int .u64 0]).run prog w=.ok (.value (.tuple #[.int .u64 (((x+y)%18446744073709551616:Nat):Int),.int .u64 (((x+y)/18446744073709551616:Nat):Int)])) w:=by
 rw[run_callFunc_extern func241 ag ag ag (e:=add64Entry) ag,run_add64 x y 0 ae ae ae ae];simp only[Result.andThen];congr 5<;>omega
def KO(x y:Nat):Value:=if x+y<9223372036854775808 then .tuple #[.int .u64 ((x+y:Nat):Int),.bool true] else .tuple #[.int .u64 0,.bool false]
theorem Il(x y:Nat)(hx:x<18446744073709551616)(hy:y<18446744073709551616)(w:World):Calls prog 201 #[.int .u64 (x:Int),.int .u64 (y:Int)] w fun e w'=>e=.returned (KO x y)/\w'=w:=by
 have hr:=OA x y;by_cases h:x+y<9223372036854775808
 ·rw[Nat.mod_eq_of_lt ae,Nat.div_eq_of_lt ae]at hr;have HV:Hid (KO x y=.tuple #[.int .u64 ((x+y:Nat):Int),.bool true]):=aa (if_pos h);obtain⟨s,hs⟩:∃s,s=x+y:=⟨_,rfl⟩;rw[<- hs]at h hr HV;have h1:¬(s:Int) >= 9223372036854775808:=by omega
  have h2:decide ((s:Int) >= 9223372036854775808)=false:=decide_eq_false h1;clear hs hx hy;go_enter func201,ntmps201;go_wp2_with (simp only[hr]);go_returns;exact⟨by rw[HV.o];rfl,rfl⟩
 ·have HV:Hid (KO x y=.tuple #[.int .u64 0,.bool false]):=aa (if_neg h);by_cases h3:x+y<18446744073709551616
  ·rw[Nat.mod_eq_of_lt h3,Nat.div_eq_of_lt h3]at hr;obtain⟨s,hs⟩:∃s,s=x+y:=⟨_,rfl⟩;rw[<- hs]at h hr;have h1:(s:Int) >= 9223372036854775808:=by omega
   have h2:decide ((s:Int) >= 9223372036854775808)=true:=decide_eq_true h1;clear hs hx hy h3;go_enter func201,ntmps201;go_wp2_with (simp only[hr]);go_returns;exact⟨by rw[HV.o];rfl,rfl⟩
  ·rw[show(x+y)/18446744073709551616=1 by omega]at hr;generalize (x+y)%18446744073709551616=s at *;clear h3 h hx hy;go_enter func201,ntmps201;go_wp2_with (simp only[hr]);go_returns;exact⟨by rw[HV.o];rfl,rfl⟩
def mX(lo x hi:Int):Int:=min (max lo x) hi
theorem SA(lo x hi:Int)(h:lo<=hi):lo<=mX lo x hi:=by unfold mX;omega
theorem SB(lo x hi:Int):mX lo x hi<=hi:=by unfold mX;omega
theorem Im(lo x hi:Int)(w:World) :
 Calls prog 147 #[.int .i64 lo,.int .i64 x,.int .i64 hi] w fun e w'=>e=.returned (.int .i64 (mX lo x hi))/\w'=w:=by
 unfold mX;go_enter func147,ntmps147;go_wp2;all_goals
  go_ret;exact⟨LM ae,rfl⟩
def SC(i o s l g:Int):Int:=max 0 (1048576+2*mX 0 s 1073741824+g+l-mX 0 i 1073741824-mX 0 o 1073741824)
theorem Io(b:Nat)(x0 x1 x2 x3 x4 x5:Int)(w:World)(h0:w.cell? ⟨b,0,none⟩=some (.int .i64 x0))(h1:w.cell? ⟨b,1,none⟩=some (.int .i64 x1))(h2:w.cell? ⟨b,2,none⟩=some (.int .i64 x2))(h3:w.cell? ⟨b,3,none⟩=some (.int .i64 x3))(h4:w.cell? ⟨b,4,none⟩=some (.int .i64 x4))(h5:w.cell? ⟨b,5,none⟩=some (.int .i64 x5))(b0:0<=x0/\x0<=4294967296)(b1:0<=x1/\x1<=4294967296)(b2:0<=x2/\x2<=4294967296)(b3:0<=x3/\x3<=4294967296)(b4:-4294967296<=x4/\x4<=4294967296)(b5:-4294967296<=x5/\x5<=4294967296) :
  Calls prog 146 #[.slice (some ⟨b,0,none⟩) 6 6] w fun e w'=>e=.returned (.int .i64 (x0+x1+x2+x3+x4+x5))/\w'=w:=by
 obtain⟨b0,b0'⟩:=b0;obtain⟨b1,b1'⟩:=b1;obtain⟨b2,b2'⟩:=b2;obtain⟨b3,b3'⟩:=b3;obtain⟨b4,b4'⟩:=b4;obtain⟨b5,b5'⟩:=b5;go_enter func146,ntmps146;go_wp2;refine wp_loop_rounds 7 ?_;iterate 7 (rw[rounds_succ];go_wp2)
 go_ret;exact⟨rfl,rfl⟩
theorem AD(x:Int):0<=mX 0 x 1073741824/\mX 0 x 1073741824<=1073741824:=⟨SA _ _ _ af,SB _ _ _⟩
theorem Ip(i o s r l g:Int)(w:World)(hl:0<=l)(hl':l<=4294967295)(hg:0<=g)(LY:g<=4294967295) :
 Calls prog 99 #[.int .i64 i,.int .i64 o,.int .i64 s,.agg #[.int .u32 r,.int .u32 l,.int .u32 g]] w
  fun e w'=>e=.returned (.int .u64 (SC i o s l g))/\Below w.heap.size w w':=by
 obtain⟨i0,i1⟩:=AD i;obtain⟨o0,o1⟩:=AD o;obtain⟨s0,s1⟩:=AD s;go_enter func99,ntmps99;go_wp2;refine cn (fun w'=>∃n,w'=(w.alloc (.cells #[.int .u32 r,.int .u32 l,.int .u32 g] 55)).drewN n) 15 ag ag ⟨1,rfl⟩ ?_;simp only[List.take_succ_cons,List.take_zero,List.drop_succ_cons,List.drop_zero];repeat go_big_quiet_step ((go_at_call 147;exact Calls.quiet_of_same (Im _ _ _ _)))
 refine wpQuiet_nil ?_;rintro _⟨nq,rfl⟩;go_wp2_with fail;refine(Io _ 1048576 (2*mX 0 s 1073741824) g l (-mX 0 i 1073741824) (-mX 0 o 1073741824) _ (by go_simp) (by go_simp) (by go_simp) (by go_simp) (by go_simp) (by go_simp) ⟨ae,ae⟩ ⟨ae,ae⟩ ⟨ae,ae⟩ ⟨ae,ae⟩ ⟨ae,ae⟩ ⟨ae,ae⟩).mono ?_;rintro e w'⟨rfl,rfl⟩;go_wp2;all_goals
  go_ret;refine⟨?_,?_⟩
  ·exact LM (by unfold SC;omega)
  ·exact(below_drewN ai _).alloc (by simp[World.drewN]) _
end
section
open Go.RowKit Go.Maps
theorem SD(w:World):kF w (.slice none 0 0) []:=⟨none,0,rfl,.inl rfl⟩
end
section
open Go.RowKit Go.Maps Go.MapKept
section
variable {w w':World} {pb db n sb gb gen N ob ib vb v:Nat} {name:Name} {o o':ar} {d d':Dsk} {L L':aC}
theorem Co(E:Nat->Dsk->Prop)(h:aQ w pb db n o d L)(hg:cW w o gb pb gen N ob ib vb){i:Int}{x:aH}(Hv:∀W,Below w.heap.size w W->Calls prog 57 #[ptrTo ob,.int .i64 i] W (Hu E n pb db W o d L x.bytes)) :
 Calls prog 28 #[ptrTo gb,.int .i64 i] w (pE E n pb db w o d L x):=by
 have Bc:Hid (∀W,Below w.heap.size w W->Calls prog 60 #[ptrTo ob,.int .i64 i] W (pE E n pb db W o d L x)):=aa (fun W hW=>sk E (h.below hW) (fun W' hW'=>Hv W' (hW.trans (hW'.mono hW.size))));obtain⟨g0,-,-,-,-⟩:=hg.raw.cells;have hgl:=hg.raw.lt;have H:=aa h;clear h hg Hv;unfold ptrTo at *;have kE:Hid (Below w.heap.size w (w.alloc (.cells #[.int .u32 0,.int .u32 0,.int .u64 0,.int .u32 0] 64))):=aa ai;have mr:Hid ((w.alloc (.cells #[.int .u32 0,.int .u32 0,.int .u64 0,.int .u32 0] 64)).heap[w.heap.size]? = some (.cells #[.int .u32 0,.int .u32 0,.int .u64 0,.int .u32 0] 64)):=aa (heap_alloc_new w _);have Jn:Hid (o w.heap.size=none):=aa (H.o.fresh (Nat.le_refl _));go_enter func28,ntmps28;go_wp2_with fail;generalize w.alloc (.cells #[.int .u32 0,.int .u32 0,.int .u64 0,.int .u32 0] 64)=W0 at *;refine(Bc.o W0 kE.o).mono ?_;rintro e w1⟨c1,d1,o1,y,rfl,dZ,td,Si,hz1⟩;have hbl:w.heap.size<W0.heap.size:=(Array.getElem?_eq_some_iff.1 mr.o).1;have eY:=aa ((au.aW H.o kE.o).trans dZ (fun _ _ h=>h));have kD:=aa (dZ.heap mr.o Jn.o (fun h=>h));have CU:=aa td;have Xz:=aa Si;have Xl:=aa hz1;have oC:Hid (o1 w.heap.size=none):=aa (dZ.free hbl Jn.o);clear dZ td Si hz1;have yZ:Hid (∀(w2:World)(a b c e:Value),w2.heap[w.heap.size]? = some (.cells #[.int .u32 0,.int .u32 0,.int .u64 0,.int .u32 0] 64)->((((w2.setCell ⟨w.heap.size,0,none⟩ a).setCell ⟨w.heap.size,1,none⟩ b).setCell ⟨w.heap.size,2,none⟩ c).setCell ⟨w.heap.size,3,none⟩ e).heap[w.heap.size]? = some (.cells #[a,b,c,e] 64)):=aa (fun w2 a b c e h0=>by
  rw[aT (aT (aT (aT h0 0 a) 1 b) 2 c) 3 e];rfl)
 have k0:w1.cell? ⟨w.heap.size,0,none⟩=some (.int .u32 0):=by rw[aq kD.o];rfl
 have VA:w1.cell? ⟨w.heap.size,1,none⟩=some (.int .u32 0):=by rw[aq kD.o];rfl
 have VB:w1.cell? ⟨w.heap.size,2,none⟩=some (.int .u64 0):=by rw[aq kD.o];rfl
 have k3':w1.cell? ⟨w.heap.size,3,none⟩=some (.int .u32 0):=by rw[aq kD.o];rfl
 have z0:=aO kD.o 0;have z1:=aO kD.o 1;have z2:=aO kD.o 2;have z3:=aO kD.o 3;have ajm:w.heap.size<w1.heap.size:=(Array.getElem?_eq_some_iff.1 kD.o).1;have iq:=aa (yZ.o w1 (.int .u32 (y.t.toNat:Int)) (.int .u32 (y.h.toNat:Int)) (.int .u64 (y.x.toNat:Int)) (.int .u32 (y.m.toNat:Int)) kD.o);have eD:Hid (au (fun _=>False) n pb db w o d ((((w1.setCell ⟨w.heap.size,0,none⟩ (.int .u32 (y.t.toNat:Int))).setCell ⟨w.heap.size,1,none⟩ (.int .u32 (y.h.toNat:Int))).setCell ⟨w.heap.size,2,none⟩ (.int .u64 (y.x.toNat:Int))).setCell ⟨w.heap.size,3,none⟩ (.int .u32 (y.m.toNat:Int))) o1 d1 L):=aa ((((eY.o.setCell _ _ oC.o (.inr (Nat.le_refl _))).setCell _ _ oC.o (.inr (Nat.le_refl _))).setCell _ _ oC.o (.inr (Nat.le_refl _))).setCell _ _ oC.o (.inr (Nat.le_refl _)));go_wp2;generalize ((((w1.setCell ⟨w.heap.size,0,none⟩ (.int .u32 (y.t.toNat:Int))).setCell ⟨w.heap.size,1,none⟩ (.int .u32 (y.h.toNat:Int))).setCell ⟨w.heap.size,2,none⟩ (.int .u64 (y.x.toNat:Int))).setCell ⟨w.heap.size,3,none⟩ (.int .u32 (y.m.toNat:Int)))=w3 at *;have q0:w3.cell? ⟨w.heap.size,0,none⟩=some (.int .u32 (y.t.toNat:Int)):=by rw[aq iq.o];rfl
 have q1:w3.cell? ⟨w.heap.size,1,none⟩=some (.int .u32 (y.h.toNat:Int)):=by rw[aq iq.o];rfl
 have q2:w3.cell? ⟨w.heap.size,2,none⟩=some (.int .u64 (y.x.toNat:Int)):=by rw[aq iq.o];rfl
 have q3:w3.cell? ⟨w.heap.size,3,none⟩=some (.int .u32 (y.m.toNat:Int)):=by rw[aq iq.o];rfl
 clear k0 VA VB k3' z0 z1 z2 z3;exact bodyPost_ret (v:=.tuple #[.agg #[.int .u32 (y.t.toNat:Int),.int .u32 (y.h.toNat:Int),.int .u64 (y.x.toNat:Int),.int .u32 (y.m.toNat:Int)],.int .i64 (c1:Int)]) (by simp[results,Tryz.results28,go_sem,q0,q1,q2,q3]) rfl ⟨c1,d1,o1,y,rfl,eD.o,CU.o,Xz.o,Xl.o⟩
theorem ES(HW:aP)(h:aQ w pb db n o d L)(hg:cW w o gb pb gen N ob ib vb){es:List aH}{fl:Bool}(hL:aA L (aI 101 gen)=some (aw es fl)){i:Nat}{x:aH}(hi:es[i]? = some x) :
 Calls prog 28 #[ptrTo gb,.int .i64 (i:Int)] w (pE (fun c d'=>c=0\/kJ d d' L c) n pb db w o d L x):=by
 have lu:=aN hi;refine Co _ h hg (fun W hW=>?_);have:=k9 HW (h.below hW) (hg.out.below hW) hg.PF af af hL (fp es) (i:=i) (by rw[List.length_map];exact lu);rw[List.getElem_map]at this;rw[List.getElem?_eq_getElem lu]at hi;rw[Option.some.inj hi]at this;exact this
end
end
section
open Go.RowKit Go.Maps
theorem dI.turn{b b':Bool}{l:List aH}{out:List aH}(h:dI b (aJ b' l) out):dI b l out:=by
 have k:=bT b' l;refine⟨h.gA,fun e he=>?_,fun x hx hn=>?_⟩
 ·grind [mem]
 ·obtain⟨y,hy,hs⟩:=k.all x hx hn;obtain⟨e,he,hs'⟩:=h.all y hy (hs.symm.loop hn);grind [same.trans]
theorem Iq(b b':Bool)(l:List aH):aJ b (aJ b' l)=aJ b l:=(bT b (aJ b' l)).turn.eq
end
section
open Go.RowKit
theorem Ir(xt xh xx xm yt yh yx ym:Nat)(w:World) :
 Calls prog 123 #[.agg #[.int .u32 (xt:Int),.int .u32 (xh:Int),.int .u64 (xx:Int),.int .u32 (xm:Int)],.agg #[.int .u32 (yt:Int),.int .u32 (yh:Int),.int .u64 (yx:Int),.int .u32 (ym:Int)]] w fun e w'=>e=.returned (.bool (decide (xt<yt\/xt=yt/\xh<yh)))/\Below w.heap.size w w':=by
 obtain⟨r,jD⟩:∃r:Bool,r=decide (xt<yt\/xt=yt/\xh<yh):=⟨_,rfl⟩;rw[<- jD];rcases Nat.lt_trichotomy xt yt with g | g | g
 ·have hr:Hid (r=true):=aa (by rw[jD];exact decide_eq_true (.inl g));clear jD;have g1:((xt:Nat):Int)<(yt:Int):=by omega
  go_enter func123,ntmps123;go_wp2;go_ret;exact⟨by rw[hr.o];rfl,ai.alloc ah _⟩
 ·subst g;by_cases g:xh<yh
  ·have hr:Hid (r=true):=aa (by rw[jD];exact decide_eq_true (.inr ⟨rfl,g⟩));clear jD;have g1:((xh:Nat):Int)<(yh:Int):=by omega
   go_enter func123,ntmps123;go_wp2;go_ret;exact⟨by rw[hr.o];rfl,ai.alloc ah _⟩
  ·have hr:Hid (r=false):=aa (by rw[jD];exact decide_eq_false ae);clear jD;have g1:¬((xh:Nat):Int)<(yh:Int):=by omega
   go_enter func123,ntmps123;go_wp2;go_ret;exact⟨by rw[hr.o];rfl,ai.alloc ah _⟩
 ·have hr:Hid (r=false):=aa (by rw[jD];exact decide_eq_false ae);clear jD;have g1:¬((xt:Nat):Int)<(yt:Int):=by omega
  have g2:((xt:Int) == (yt:Int))=false:=by rw[beq_eq_false_iff_ne];omega
  have g3:¬((xt:Int)=(yt:Int)):=by omega
  go_enter func123,ntmps123;go_wp2;go_ret;exact⟨by rw[hr.o];rfl,ai.alloc ah _⟩
theorem ET(xt xh xx xm yt yh yx ym:Nat)(w:World) :
 Calls prog 81 #[.agg #[.int .u32 (xt:Int),.int .u32 (xh:Int),.int .u64 (xx:Int),.int .u32 (xm:Int)],.agg #[.int .u32 (yt:Int),.int .u32 (yh:Int),.int .u64 (yx:Int),.int .u32 (ym:Int)],.int .i64 0] w fun e w'=>e=.returned (.bool (decide (xt<yt\/xt=yt/\xh<yh)))/\Below w.heap.size w w':=by
 obtain⟨r,jD⟩:∃r:Bool,r=decide (xt<yt\/xt=yt/\xh<yh):=⟨_,rfl⟩;rw[<- jD];rcases Nat.lt_trichotomy xt yt with g | g | g
 ·have hr:Hid (r=true):=aa (by rw[jD];exact decide_eq_true (.inl g));clear jD;have g1:((xt:Nat):Int)<(yt:Int):=by omega
  go_enter func81,ntmps81;go_wp2;go_ret;exact⟨by rw[hr.o];rfl,ai.alloc ah _⟩
 ·subst g;by_cases g:xh<yh
  ·have hr:Hid (r=true):=aa (by rw[jD];exact decide_eq_true (.inr ⟨rfl,g⟩));clear jD;have g1:((xh:Nat):Int)<(yh:Int):=by omega
   go_enter func81,ntmps81;go_wp2;go_ret;exact⟨by rw[hr.o];rfl,ai.alloc ah _⟩
  ·have hr:Hid (r=false):=aa (by rw[jD];exact decide_eq_false ae);clear jD;have g1:¬((xh:Nat):Int)<(yh:Int):=by omega
   go_enter func81,ntmps81;go_wp2;go_ret;exact⟨by rw[hr.o];rfl,ai.alloc ah _⟩
 ·have hr:Hid (r=false):=aa (by rw[jD];exact decide_eq_false ae);clear jD;have g1:¬((xt:Nat):Int)<(yt:Int):=by omega
  have g2:((xt:Int) == (yt:Int))=false:=by rw[beq_eq_false_iff_ne];omega
  have g3:¬((xt:Int)=(yt:Int)):=by omega
  go_enter func81,ntmps81;go_wp2;go_ret;exact⟨by rw[hr.o];rfl,ai.alloc ah _⟩
theorem EU(xt xh xx xm yt yh yx ym:Nat)(w:World) :
 Calls prog 81 #[.agg #[.int .u32 (xt:Int),.int .u32 (xh:Int),.int .u64 (xx:Int),.int .u32 (xm:Int)],.agg #[.int .u32 (yt:Int),.int .u32 (yh:Int),.int .u64 (yx:Int),.int .u32 (ym:Int)],.int .i64 1] w fun e w'=>e=.returned (.bool (decide (xh<yh\/xh=yh/\xt<yt)))/\Below w.heap.size w w':=by
 obtain⟨r,jD⟩:∃r:Bool,r=decide (xh<yh\/xh=yh/\xt<yt):=⟨_,rfl⟩;rw[<- jD];rcases Nat.lt_trichotomy xh yh with g | g | g
 ·have hr:Hid (r=true):=aa (by rw[jD];exact decide_eq_true (.inl g));clear jD;have g1:((xh:Nat):Int)<(yh:Int):=by omega
  go_enter func81,ntmps81;go_wp2;go_ret;exact⟨by rw[hr.o];rfl,ai.alloc ah _⟩
 ·subst g;by_cases g:xt<yt
  ·have hr:Hid (r=true):=aa (by rw[jD];exact decide_eq_true (.inr ⟨rfl,g⟩));clear jD;have g1:((xt:Nat):Int)<(yt:Int):=by omega
   go_enter func81,ntmps81;go_wp2;go_ret;exact⟨by rw[hr.o];rfl,ai.alloc ah _⟩
  ·have hr:Hid (r=false):=aa (by rw[jD];exact decide_eq_false ae);clear jD;have g1:¬((xt:Nat):Int)<(yt:Int):=by omega
   go_enter func81,ntmps81;go_wp2;go_ret;exact⟨by rw[hr.o];rfl,ai.alloc ah _⟩
 ·have hr:Hid (r=false):=aa (by rw[jD];exact decide_eq_false ae);clear jD;have g1:¬((xh:Nat):Int)<(yh:Int):=by omega
  have g2:((xh:Int) == (yh:Int))=false:=by rw[beq_eq_false_iff_ne];omega
  have g3:¬((xh:Int)=(yh:Int)):=by omega
  go_enter func81,ntmps81;go_wp2;go_ret;exact⟨by rw[hr.o];rfl,ai.alloc ah _⟩
theorem EW(xt xh xx xm yt yh yx ym:Nat)(w:World) :
 Calls prog 124 #[.agg #[.int .u32 (xt:Int),.int .u32 (xh:Int),.int .u64 (xx:Int),.int .u32 (xm:Int)],.agg #[.int .u32 (yt:Int),.int .u32 (yh:Int),.int .u64 (yx:Int),.int .u32 (ym:Int)]] w fun e w'=>e=.returned (.bool (decide (xx<yx\/xx=yx/\(xm+1)%4294967296<(ym+1)%4294967296)))/\Below w.heap.size w w':=by
 have rH:IntKind.u32.wrap ((xm:Int)+1)=(((xm+1)%4294967296:Nat):Int):=by rw[IntKind.wrap_u32];omega
 have hw2:IntKind.u32.wrap ((ym:Int)+1)=(((ym+1)%4294967296:Nat):Int):=by rw[IntKind.wrap_u32];omega
 generalize (xm+1)%4294967296=YZ at *;generalize (ym+1)%4294967296=Y0 at *;obtain⟨r,jD⟩:∃r:Bool,r=decide (xx<yx\/xx=yx/\YZ<Y0):=⟨_,rfl⟩;rw[<- jD];rcases Nat.lt_trichotomy xx yx with g | g | g
 ·have hr:Hid (r=true):=aa (by rw[jD];exact decide_eq_true (.inl g));clear jD;have g1:((xx:Nat):Int)<(yx:Int):=by omega
  go_enter func124,ntmps124;go_wp2;go_ret;exact⟨by rw[hr.o];rfl,ai.alloc ah _⟩
 ·subst g;by_cases g:YZ<Y0
  ·have hr:Hid (r=true):=aa (by rw[jD];exact decide_eq_true (.inr ⟨rfl,g⟩));clear jD;have g1:((YZ:Nat):Int)<(Y0:Int):=by omega
   go_enter func124,ntmps124;go_wp2;go_ret;exact⟨by rw[hr.o];rfl,ai.alloc ah _⟩
  ·have hr:Hid (r=false):=aa (by rw[jD];exact decide_eq_false ae);clear jD;have g1:¬((YZ:Nat):Int)<(Y0:Int):=by omega
   go_enter func124,ntmps124;go_wp2;go_ret;exact⟨by rw[hr.o];rfl,ai.alloc ah _⟩
 ·have hr:Hid (r=false):=aa (by rw[jD];exact decide_eq_false ae);clear jD;have g1:¬((xx:Nat):Int)<(yx:Int):=by omega
  have g2:((xx:Int) == (yx:Int))=false:=by rw[beq_eq_false_iff_ne];omega
  have g3:¬((xx:Int)=(yx:Int)):=by omega
  go_enter func124,ntmps124;go_wp2;go_ret;exact⟨by rw[hr.o];rfl,ai.alloc ah _⟩
theorem xT(x y:aH)(w:World):Calls prog 123 #[.agg #[.int .u32 (x.t.toNat:Int),.int .u32 (x.h.toNat:Int),.int .u64 (x.x.toNat:Int),.int .u32 (x.m.toNat:Int)],.agg #[.int .u32 (y.t.toNat:Int),.int .u32 (y.h.toNat:Int),.int .u64 (y.x.toNat:Int),.int .u32 (y.m.toNat:Int)]] w
 fun e w'=>e=.returned (.bool (decide (pk false x<pk false y)))/\Below w.heap.size w w':=by
 refine(Ir _ _ _ _ _ _ _ _ w).mono fun e w' ⟨he,hb⟩=>⟨he.trans ?_,hb⟩;have h1:=x.h.toNat_lt;have h2:=y.h.toNat_lt;rw[decide_eq_decide.2 (show(x.t.toNat<y.t.toNat\/x.t.toNat=y.t.toNat/\x.h.toNat<y.h.toNat)↔pk false x<pk false y by unfold pk;simp only[Bool.false_eq_true,if_false];omega)]
theorem Iu(b:Bool)(x y:aH)(w:World):Calls prog 81 #[.agg #[.int .u32 (x.t.toNat:Int),.int .u32 (x.h.toNat:Int),.int .u64 (x.x.toNat:Int),.int .u32 (x.m.toNat:Int)],.agg #[.int .u32 (y.t.toNat:Int),.int .u32 (y.h.toNat:Int),.int .u64 (y.x.toNat:Int),.int .u32 (y.m.toNat:Int)],.int .i64 (lS b:Int)] w
 fun e w'=>e=.returned (.bool (decide (pk b x<pk b y)))/\Below w.heap.size w w':=by
 have h1:=x.h.toNat_lt;have h2:=y.h.toNat_lt;have h3:=x.t.toNat_lt;have h4:=y.t.toNat_lt;cases b
 ·refine(ET _ _ _ _ _ _ _ _ w).mono fun e w' ⟨he,hb⟩=>⟨he.trans ?_,hb⟩;rw[decide_eq_decide.2 (show(x.t.toNat<y.t.toNat\/x.t.toNat=y.t.toNat/\x.h.toNat<y.h.toNat)↔pk false x<pk false y by unfold pk;simp only[Bool.false_eq_true,if_false];omega)]
 ·refine(EU _ _ _ _ _ _ _ _ w).mono fun e w' ⟨he,hb⟩=>⟨he.trans ?_,hb⟩;rw[decide_eq_decide.2 (show(x.h.toNat<y.h.toNat\/x.h.toNat=y.h.toNat/\x.t.toNat<y.t.toNat)↔pk true x<pk true y by unfold pk;simp only[if_true];omega)]
theorem EX(x y:aH)(w:World):Calls prog 124 #[.agg #[.int .u32 (x.t.toNat:Int),.int .u32 (x.h.toNat:Int),.int .u64 (x.x.toNat:Int),.int .u32 (x.m.toNat:Int)],.agg #[.int .u32 (y.t.toNat:Int),.int .u32 (y.h.toNat:Int),.int .u64 (y.x.toNat:Int),.int .u32 (y.m.toNat:Int)]] w
 fun e w'=>e=.returned (.bool (decide (rk x<rk y)))/\Below w.heap.size w w':=by
 refine(EW _ _ _ _ _ _ _ _ w).mono fun e w' ⟨he,hb⟩=>⟨he.trans ?_,hb⟩;rw[decide_eq_decide.2 (show(x.x.toNat<y.x.toNat\/x.x.toNat=y.x.toNat/\(x.m.toNat+1)%4294967296<(y.m.toNat+1)%4294967296)↔rk x<rk y by unfold rk;omega)]
theorem ft{b:Bool}{out:List aH}(h:out.Pairwise (fun x y=>pk b x<pk b y)){i j:Nat}(fg:i<j){x y:aH}(hx:out[i]? = some x)(hy:out[j]? = some y):pk b x<pk b y:=by
 grind [List.pairwise_iff_getElem]
theorem dI.lay{b:Bool}{l out:List aH}{x:aH}(h:dI b l out)(hx:x.t≠x.h){k:Nat}(hk:k<=out.length)(h1:∀(i:Nat)(o:aH),i<k->out[i]? = some o->pk b o<pk b x)(h2:∀(i:Nat)(o:aH),k<=i->out[i]? = some o->pk b x<pk b o) :
 dI b (l++[x]) (out.take k++x::out.drop k):=by
 have hsp:out=out.take k++out.drop k:=(List.take_append_drop k out).symm;have hlt:∀o∈out.take k,pk b o<pk b x:=fun o ho=>by
  obtain⟨i,hi,rfl⟩:=List.getElem_of_mem ho;rw[List.length_take]at hi;rw[List.getElem_take];exact h1 i _ ae (List.getElem?_eq_getElem ae)
 have yP:∀o∈out.drop k,pk b x<pk b o:=fun o ho=>by
  obtain⟨i,hi,rfl⟩:=List.getElem_of_mem ho;rw[List.length_drop]at hi;rw[List.getElem_drop];exact h2 (k+i) _ ae (List.getElem?_eq_getElem ae)
 have hne:∀o∈out,¬same o x:=fun o ho hs=>by
  grind [iA]
 have hr:=h.gA;rw[hsp,List.pairwise_append]at hr;have mn:∀o,o∈out.take k++x::out.drop k↔o=x\/o∈out:=fun o=>by
  grind
 refine⟨?_,fun o ho=>?_,fun y hy hn=>?_⟩
 ·grind [List.pairwise_cons]
 ·rcases(mn o).1 ho with rfl | ho
  ·refine⟨ah,hx,fun y hy hs=>?_⟩;rcases List.mem_append.1 hy with hy | hy
   ·obtain⟨o',kH,hs'⟩:=h.all y hy (hs.symm.loop hx);grind [same.trans]
   grind
  ·obtain⟨g1,g2,g3⟩:=h.mem o ho;refine⟨List.mem_append_left _ g1,g2,fun y hy hs=>?_⟩;grind [same.symm]
 ·rcases List.mem_append.1 hy with hy | hy
  ·grind [all]
  ·rw[List.mem_singleton.1 hy];exact⟨x,(mn x).2 (.inl rfl),rfl,rfl⟩
theorem dI.over{b:Bool}{l out:List aH}{x o:aH}(h:dI b l out){k:Nat}(ho:out[k]? = some o)(hs:same o x)(hr:rk x<rk o):dI b (l++[x]) (out.set k x):=by
 have hk:=(List.getElem?_eq_some_iff.1 ho).1;have Pe:pk b x=pk b o:=(iA (b:=b).2 hs).symm;have iT:∀(i:Nat)(y:aH),(out.set k x)[i]? = some y->(i=k/\y=x)\/(i≠k/\out[i]? = some y):=fun i y hy=>by
  grind
 have aei:∀(i:Nat)(y:aH),(out.set k x)[i]? = some y->∃z,out[i]? = some z/\pk b z=pk b y:=fun i y hy=>by
  grind
 have kH:=h.mem o (List.mem_of_getElem? ho);refine⟨?_,fun y hy=>?_,fun y hy hn=>?_⟩
 ·rw[List.pairwise_iff_getElem];intro i j hi hj fg;obtain⟨z1,g1,e1⟩:=aei i _ (List.getElem?_eq_getElem hi);obtain⟨z2,g2,e2⟩:=aei j _ (List.getElem?_eq_getElem hj);rw[<- e1,<- e2];exact ft h.gA fg g1 g2
 ·obtain⟨i,hi,rfl⟩:=List.getElem_of_mem hy;rcases iT i _ (List.getElem?_eq_getElem hi) with⟨_,e⟩|⟨hik,e⟩
  ·rw[e];refine⟨ah,hs.loop kH.2.1,fun z hz hzs=>?_⟩;grind [same.trans,same.symm]
  ·generalize (out.set k x)[i]=y at *;obtain⟨g1,g2,g3⟩:=h.mem y (List.mem_of_getElem? e);refine⟨List.mem_append_left _ g1,g2,fun z hz hzs=>?_⟩;rcases List.mem_append.1 hz with hz | hz
   ·grind
   ·rw[List.mem_singleton.1 hz]at hzs;have e1:=iA (b:=b).2 (hs.trans hzs);rcases Nat.lt_or_gt_of_ne hik with hlt | hlt
    ·have:=ft h.gA hlt e ho;omega
    ·have:=ft h.gA hlt ho e;omega
 ·have mA:∀(i:Nat)(z:aH),out[i]? = some z->∃z'∈out.set k x,same z' z:=fun i z hz=>by
   by_cases hik:i=k
   ·grind [same.symm]
   ·exact⟨z,List.mem_of_getElem? (i:=i) (by grind),rfl,rfl⟩
  rcases List.mem_append.1 hy with hy | hy
  ·obtain⟨z,hz,hzs⟩:=h.all y hy hn;obtain⟨i,hi,rfl⟩:=List.getElem_of_mem hz;obtain⟨z',h1,h2⟩:=mA i _ (List.getElem?_eq_getElem hi);grind [same.trans]
  ·rw[List.mem_singleton.1 hy];obtain⟨z',h1,h2⟩:=mA k o ho;grind [same.trans]
theorem dI.leave{b:Bool}{l out:List aH}{x:aH}(h:dI b l out)(hx:x.t=x.h\/∃o∈out,same o x/\rk o<=rk x):dI b (l++[x]) out:=by
 refine⟨h.gA,fun o ho=>?_,fun y hy hn=>?_⟩
 ·obtain⟨g1,g2,g3⟩:=h.mem o ho;refine⟨List.mem_append_left _ g1,g2,fun y hy hs=>?_⟩;rcases List.mem_append.1 hy with hy | hy
  ·grind
  ·rw[List.mem_singleton.1 hy]at hs ⊢;rcases hx with hx |⟨o',kH,hs',hr⟩
   ·exact absurd hx (hs.symm.loop g2)
   ·have e:=iA (b:=b).2 (hs'.trans hs);obtain⟨i,hi,rfl⟩:=List.getElem_of_mem ho;obtain⟨j,hj,rfl⟩:=List.getElem_of_mem kH;rcases Nat.lt_trichotomy i j with hlt | rfl | hlt
    ·have:=ft h.gA hlt (List.getElem?_eq_getElem hi) (List.getElem?_eq_getElem hj);omega
    ·exact hr
    ·have:=ft h.gA hlt (List.getElem?_eq_getElem hj) (List.getElem?_eq_getElem hi);omega
 grind [all]
theorem KP{l:List aH}{i:Nat}(hi:i<l.length)(x:aH) :
 dD (l.set i x)=((((dD l).set (i*4) (.int .u32 (x.t.toNat:Int))).set (i*4+1) (.int .u32 (x.h.toNat:Int))).set (i*4+2) (.int .u64 (x.x.toNat:Int))).set (i*4+3) (.int .u32 (x.m.toNat:Int)):=by
 induction l generalizing i with
 |nil=>cases hi
 |cons y l ih=>
   cases i with
   |zero=>rfl
   |succ i=>
     rw[List.set_cons_succ,dD,dD,ih (by grind)];grind
theorem j7{w:World}{base g cap n:Nat}{l:List aH}(h:aK w base (.slice (some ⟨g,0,none⟩) n cap) l){i:Nat}(hi:i<l.length)(x:aH) :
 aK ((((w.setCell ⟨g,i*4,none⟩ (.int .u32 (x.t.toNat:Int))).setCell ⟨g,i*4+1,none⟩ (.int .u32 (x.h.toNat:Int))).setCell ⟨g,i*4+2,none⟩ (.int .u64 (x.x.toNat:Int))).setCell ⟨g,i*4+3,none⟩ (.int .u32 (x.m.toNat:Int))) base (.slice (some ⟨g,0,none⟩) n cap) (l.set i x):=by
 grind [az,KP,World.ownsRow.stored]
theorem cA{w:World}{base g cap n:Nat}{l:List aH}(h:aK w base (.slice (some ⟨g,0,none⟩) n cap) l)(j:Nat):w.frozen? ⟨g,j,none⟩=false:=by
 grind [az,World.ownsRow.frozenAt]
theorem Dq{w W W':World}{v v':Value}{M:List aH}{ob:Obj}(hb:Below w.heap.size w W)(hv:aK W w.heap.size v M)(ha:lj v (W.alloc ob) W' v'):Below w.heap.size w W':=by
 obtain⟨hg,_⟩:=ha;have hs:W.heap.size<(W.alloc ob).heap.size:=by simp
 refine hb.trans ⟨hg.os.trans rfl,hg.tape.trans rfl,hg.output.trans rfl,Nat.le_trans (Nat.le_of_lt hs) hg.size,fun x hx=>?_⟩;have:=hb.size;refine(hg.block x ae (fun e=>?_)).trans ((MapKept.heap_alloc W ob).2 x ae);have:=(aL hv x e.symm).2;omega
end
section
open Go.RowKit Go.Maps
def Iw(w:World)(es:List aH)(e:Ending)(w':World):Prop:=∃v,e=.returned v/\aK w' w.heap.size v es/\Below w.heap.size w w'
theorem oG{w:World}{a:Option Addr}{n cap:Nat}{es:List aH}(h:kF w (.slice a n cap) es):n=es.length/\∀W,Below w.heap.size w W->∀(i:Nat)(x:aH),es[i]? = some x->∃b off,a=some ⟨b,off,none⟩/\W.cell? ⟨b,off+i*4,none⟩=some (.int .u32 (x.t.toNat:Int))/\W.cell? ⟨b,off+i*4+1,none⟩=some (.int .u32 (x.h.toNat:Int))/\W.cell? ⟨b,off+i*4+2,none⟩=some (.int .u64 (x.x.toNat:Int))/\W.cell? ⟨b,off+i*4+3,none⟩=some (.int .u32 (x.m.toNat:Int)):=by
 have hn:n=es.length:=by
  obtain⟨a',cap',he,_⟩:=h;cases he;rfl
 refine⟨hn,fun W hB i x hx=>?_⟩;obtain⟨a',cap',BU,hce⟩:=h.below hB;cases BU;rcases hce with h0 |⟨b,off,h1,hc⟩
 ·have:=aN hx;omega
 ·exact⟨b,off,h1,hc i x hx⟩
theorem Dr{es:List aH}{i:Nat}{x:aH}(h:es[i]? = some x):es.take (i+1)=es.take i++[x]:=by
 have hl:=aN h;rw[List.take_succ_eq_append_getElem hl];rw[List.getElem?_eq_getElem hl]at h;rw[Option.some.inj h]
theorem ll{w W:World}{g:Nat}(hb:Below w.heap.size w W)(hg:w.heap.size<=g)(a1 a2 a3 a4:Nat)(v1 v2 v3 v4:Value):Below w.heap.size w ((((W.setCell ⟨g,a1,none⟩ v1).setCell ⟨g,a2,none⟩ v2).setCell ⟨g,a3,none⟩ v3).setCell ⟨g,a4,none⟩ v4):=
 (((hb.setCell hg _).setCell hg _).setCell hg _).setCell hg _
theorem Ix{W:World}{g b:Nat}{ob:Option Obj}(hb:W.heap[b]? = ob)(hne:b≠g)(a1 a2 a3 a4:Nat)(v1 v2 v3 v4:Value):((((W.setCell ⟨g,a1,none⟩ v1).setCell ⟨g,a2,none⟩ v2).setCell ⟨g,a3,none⟩ v3).setCell ⟨g,a4,none⟩ v4).heap[b]? = ob:=by
 rw[Below.heap_setCell _ _ _ _ hne,Below.heap_setCell _ _ _ _ hne,Below.heap_setCell _ _ _ _ hne,Below.heap_setCell _ _ _ _ hne];exact hb
theorem OC{out:List aH}{x y:aH}{k at':Nat}(hk:at'<k)(x9:k<=out.length)(hy:out[k-1]? = some y):(out.take k++x::out.drop k).set k y=out.take (k-1)++y::out.drop (k-1):=by
 have h1:(out.take k).length=k:=by rw[List.length_take];omega
 rw[List.set_append_right _ _ ae,h1,Nat.sub_self,List.set_cons_zero];obtain⟨q,rfl⟩:∃q,k=q+1:=⟨k-1,ae⟩;rw[Nat.add_sub_cancel]at hy ⊢;have hq:q<out.length:=by omega
 rw[List.getElem?_eq_getElem hq]at hy;rw[List.take_succ_eq_append_getElem hq,List.append_assoc,List.drop_eq_getElem_cons hq,Option.some.inj hy];rfl
theorem OD{out:List aH}{x y:aH}{k:Nat}(hk:0<k)(x9:k<=out.length)(hy:out[k-1]? = some y):(out.take k++x::out.drop k)[k-1]? = some y:=by
 rw[List.getElem?_append_left (by rw[List.length_take];omega),List.getElem?_take,if_pos ae];exact hy
theorem AE{out:List aH}{x y:aH}{k:Nat}(x9:k<=out.length):(out.take k++y::out.drop k).set k x=out.take k++x::out.drop k:=by
 have h1:(out.take k).length=k:=by rw[List.length_take];omega
 rw[List.set_append_right _ _ ae,h1,Nat.sub_self,List.set_cons_zero]
def VQ(w:World)(es:List aH)(i:Nat)(v:Value)(W:World):Prop:=∃out:List aH,aK W w.heap.size v out/\dI false (es.take i) out/\out.length<=i/\Below w.heap.size w W
theorem KQ(v:Value)(es:List aH)(w:World)(hv:kF w v es)(hl:es.length<=10000):Calls prog 80 #[v] w (Iw w (aJ false es)):=by
 have HV:=aa hv;obtain⟨a,cap,rfl,-⟩:=hv;obtain⟨-,lH⟩:=oG HV.o;have HC:=aa lH;have HX:Hid (∀i,i<es.length->∃x,es[i]? = some x):=aa (fun i hi=>⟨_,List.getElem?_eq_getElem hi⟩);have BH:Hid (es.take es.length=es):=aa (List.take_of_length_le (Nat.le_refl _));clear lH;generalize hN:es.length=N at *;have HN:=aa hN;clear hN;go_enter func80,ntmps80;go_wp2;go_loopw [3,4] (fun ov iv W=>∃i:Nat,i<=N/\iv=.int .i64 (i:Int)/\VQ w es i ov W) (fun _ iv _=>N-(intOf iv).toNat)
 case atStart=>exact⟨0,Nat.zero_le _,rfl,[],World.ownsRow_nil _ _ _ _,dI.nil _,Nat.le_refl _,Below.refl _ _⟩
 case round=>
  generalize u3=ov at *;generalize wr=W0 at *;obtain⟨i,hi,rfl,out,hr,Ae,hol,hb⟩:=hrel;have HR:=aa hr;have mR:=aa Ae;have HB:=aa hb;have hz:w.heap.size<=W0.heap.size:=hb.size;clear hr Ae hb;by_cases hlt:i<N
  ·obtain⟨x,hx⟩:=HX.o i hlt;obtain⟨be,oe,rfl,f0,f1,f2,f3⟩:=HC.o W0 HB.o i x hx;have vU:=aa (Dr hx);clear hx;go_upto_region 6 with(fail)
   have cQ:Hid (Below W0.heap.size W0 (W0.alloc (.cells #[.int .u32 (x.t.toNat:Int),.int .u32 (x.h.toNat:Int),.int .u64 (x.x.toNat:Int),.int .u32 (x.m.toNat:Int)] 64))):=aa ai;have HQ1:Hid ((W0.alloc (.cells #[.int .u32 (x.t.toNat:Int),.int .u32 (x.h.toNat:Int),.int .u64 (x.x.toNat:Int),.int .u32 (x.m.toNat:Int)] 64)).heap[W0.heap.size]? = some (.cells #[.int .u32 (x.t.toNat:Int),.int .u32 (x.h.toNat:Int),.int .u64 (x.x.toNat:Int),.int .u32 (x.m.toNat:Int)] 64)):=aa (heap_alloc_new W0 _);have hs1:W0.heap.size<(W0.alloc (.cells #[.int .u32 (x.t.toNat:Int),.int .u32 (x.h.toNat:Int),.int .u64 (x.x.toNat:Int),.int .u32 (x.m.toNat:Int)] 64)).heap.size:=by simp
   clear f0 f1 f2 f3;generalize W0.alloc (.cells #[.int .u32 (x.t.toNat:Int),.int .u32 (x.h.toNat:Int),.int .u64 (x.x.toNat:Int),.int .u32 (x.m.toNat:Int)] 64)=W1 at *;have VR:=aa (HB.o.trans (cQ.o.mono hz));have nx:Hid (aK W1 w.heap.size ov out):=aa (aV HR.o cQ.o);have Re:Hid (∀y,ov.ownBlock=some y->y<W0.heap.size):=aa (fun y hy=>(aL HR.o y hy).1);generalize W0.heap.size=xb at *;have hz1:w.heap.size<=W1.heap.size:=by omega
   clear HB cQ;have Bj:∀W:World,W.heap[xb]? = some (.cells #[.int .u32 (x.t.toNat:Int),.int .u32 (x.h.toNat:Int),.int .u64 (x.x.toNat:Int),.int .u32 (x.m.toNat:Int)] 64)->W.cell? ⟨xb,0,none⟩=some (.int .u32 (x.t.toNat:Int))/\W.cell? ⟨xb,1,none⟩=some (.int .u32 (x.h.toNat:Int))/\W.cell? ⟨xb,2,none⟩=some (.int .u64 (x.x.toNat:Int))/\W.cell? ⟨xb,3,none⟩=some (.int .u32 (x.m.toNat:Int)):=fun W hW=>by
    refine⟨?_,?_,?_,?_⟩<;>rw[aq hW]<;>rfl
   have MF:=aa Bj;clear Bj;by_cases Iy:x.t=x.h
   ·have Fz:Hid (dI false (es.take (i+1)) out):=aa (by rw[vU.o];exact mR.o.leave (.inl Iy));obtain⟨c0,c1,-,-⟩:=MF.o W1 HQ1.o;rw[Iy]at c0;clear Iy;go_wp2;go_roundw
    case rel=>exact⟨i+1,ae,by go_num,out,nx.o,Fz.o,ae,VR.o⟩
    case measure=>simp[intOf];omega
   ·obtain⟨a1,a2,a3,a4,a5⟩:=zX Iy;have Iz:=aa Iy;obtain⟨c0,c1,-,-⟩:=MF.o W1 HQ1.o;obtain⟨oa,oc,BU⟩:∃oa oc,ov=.slice oa out.length oc:=az nx.o;subst BU;have Xd:Hid (∀W,Below W1.heap.size W1 W->∀(j:Nat)(o:aH),out[j]? = some o->∃g,oa=some ⟨g,0,none⟩/\W.cell? ⟨g,j*4,none⟩=some (.int .u32 (o.t.toNat:Int))/\W.cell? ⟨g,j*4+1,none⟩=some (.int .u32 (o.h.toNat:Int))/\W.cell? ⟨g,j*4+2,none⟩=some (.int .u64 (o.x.toNat:Int))/\W.cell? ⟨g,j*4+3,none⟩=some (.int .u32 (o.m.toNat:Int))):=aa (fun W hB j o ho=>by
     rcases cd nx.o with⟨h1,h2⟩|⟨g,cap,h1,hg,hc1,hc2⟩
     ·rw[h1]at ho;cases ho
     ·cases h1;obtain⟨e0,e1,e2,e3⟩:=bK nx.o ho;exact⟨g,rfl,bm hB e0,bm hB e1,bm hB e2,bm hB e3⟩)
    have Jn:Hid (∀j,j<out.length->∃o,out[j]? = some o):=aa (fun j hj=>⟨_,List.getElem?_eq_getElem hj⟩);generalize Qb:out.length=n0 at *;have kR:=aa Qb;clear Qb;go_wp2;go_loopw [6] (fun kv W=>∃k:Nat,k<=n0/\kv=.int .i64 (k:Int)/\(∀(j:Nat)(o:aH),j<k->out[j]? = some o->pk false o<pk false x)/\Below W1.heap.size W1 W) (fun kv _=>n0-(intOf kv).toNat)
    case atStart=>exact⟨0,Nat.zero_le _,rfl,(fun j o hj=>absurd hj (Nat.not_lt_zero _)),Below.refl _ _⟩
    case round=>
     generalize wr=W2 at *;clear a1 a2 a3 a4 a5 c0 c1;obtain⟨k,hk,rfl,Jc,hb2⟩:=hrel;have Pz:=aa Jc;have cX:=aa hb2;clear Jc hb2;have my:Hid (∀W,Below W2.heap.size W2 W->W.heap[xb]? = some (.cells #[.int .u32 (x.t.toNat:Int),.int .u32 (x.h.toNat:Int),.int .u64 (x.x.toNat:Int),.int .u32 (x.m.toNat:Int)] 64)):=aa (fun W hB=>((hB.block _ (Nat.lt_of_lt_of_le hs1 cX.o.size)).trans (cX.o.block _ hs1)).trans HQ1.o);by_cases x9:k<n0
     ·obtain⟨o,ho⟩:=Jn.o k x9;have HO:=aa ho;clear ho;obtain⟨g,rfl,-⟩:=Xd.o W2 cX.o k o HO.o;have HOW:Hid (∀W,Below W2.heap.size W2 W->W.cell? ⟨g,k*4,none⟩=some (.int .u32 (o.t.toNat:Int))/\W.cell? ⟨g,k*4+1,none⟩=some (.int .u32 (o.h.toNat:Int))/\W.cell? ⟨g,k*4+2,none⟩=some (.int .u64 (o.x.toNat:Int))/\W.cell? ⟨g,k*4+3,none⟩=some (.int .u32 (o.m.toNat:Int))):=aa (fun W hB=>by
       obtain⟨g',e,r⟩:=Xd.o W (cX.o.trans (hB.mono cX.o.size)) k o HO.o;cases e;exact r)
      have aM:=aa (fun W=>xT o x W);obtain⟨r,jD⟩:∃r:Bool,r=decide (pk false o<pk false x):=⟨_,rfl⟩;rw[<- jD]at aM;have Py:=aa jD;clear jD;go_wp2_with fail;refine wq W2 ?_;iterate 8 (refine qz ?_)
      refine qz ?_ (fun w' hw'=>by obtain⟨e0,e1,e2,e3⟩:=HOW.o w' hw';go_simp<;>rfl);refine qz ?_ (fun w' hw'=>by obtain⟨e0,e1,e2,e3⟩:=MF.o w' (my.o w' hw');go_simp<;>rfl);refine qw (fun w' hw'=>(aM.o w').mono fun e w'' ⟨he,hb⟩=>⟨he,hw'.trans (hb.mono hw'.size)⟩) ?_;refine qz ?_;refine wpQuiet_nil ?_;intro W3 hb3;have jB:=aa (cX.o.trans (hb3.mono cX.o.size));have iq:Hid (∀W,Below W3.heap.size W3 W->W.heap[xb]? = some (.cells #[.int .u32 (x.t.toNat:Int),.int .u32 (x.h.toNat:Int),.int .u64 (x.x.toNat:Int),.int .u32 (x.m.toNat:Int)] 64)):=aa (fun W hB=>my.o W (hb3.trans (hB.mono hb3.size)));clear hb3 my;cases r with
      |true=>
        have ZY:Hid (∀(j:Nat)(o':aH),j<k+1->out[j]? = some o'->pk false o'<pk false x):=aa (fun j o' hj kH=>by
         rcases Nat.lt_or_ge j k with h | h
         ·exact Pz.o j o' h kH
         ·obtain rfl:j=k:=by omega
          rw[HO.o]at kH;rw[<- Option.some.inj kH];exact of_decide_eq_true Py.o.symm)
        go_wp2;go_roundw
        case rel=>exact⟨k+1,ae,by go_num,ZY.o,jB.o⟩
        case measure=>simp[intOf];omega
      |false=>
        have Hp:Hid (¬pk false o<pk false x):=aa (of_decide_eq_false Py.o.symm);have OE:Hid (∀W,Below W3.heap.size W3 W->W.cell? ⟨g,k*4,none⟩=some (.int .u32 (o.t.toNat:Int))/\W.cell? ⟨g,k*4+1,none⟩=some (.int .u32 (o.h.toNat:Int))/\W.cell? ⟨g,k*4+2,none⟩=some (.int .u64 (o.x.toNat:Int))/\W.cell? ⟨g,k*4+3,none⟩=some (.int .u32 (o.m.toNat:Int))):=aa (fun W hB=>by
         obtain⟨g',e,r⟩:=Xd.o W (jB.o.trans (hB.mono jB.o.size)) k o HO.o;cases e;exact r)
        have gU:=aa (fun W=>xT x o W);obtain⟨r2,hr2⟩:∃r:Bool,r=decide (pk false x<pk false o):=⟨_,rfl⟩;rw[<- hr2]at gU;have ZZ:=aa hr2;clear hr2 aM HOW;go_wp2_with fail;refine wq W3 ?_;iterate 5 (refine qz ?_)
        refine qz ?_ (fun w' hw'=>by obtain⟨e0,e1,e2,e3⟩:=MF.o w' (iq.o w' hw');go_simp<;>rfl);iterate 3 (refine qz ?_)
        refine qz ?_ (fun w' hw'=>by obtain⟨e0,e1,e2,e3⟩:=OE.o w' hw';go_simp<;>rfl);refine qw (fun w' hw'=>(gU.o w').mono fun e w'' ⟨he,hb⟩=>⟨he,hw'.trans (hb.mono hw'.size)⟩) ?_;iterate 2 (refine qz ?_)
        refine wpQuiet_nil ?_;intro W4 hb4;have nQ:=aa (jB.o.trans (hb4.mono jB.o.size));have FD:Hid (∀W,Below W4.heap.size W4 W->W.heap[xb]? = some (.cells #[.int .u32 (x.t.toNat:Int),.int .u32 (x.h.toNat:Int),.int .u64 (x.x.toNat:Int),.int .u32 (x.m.toNat:Int)] 64)):=aa (fun W hB=>iq.o W (hb4.trans (hB.mono hb4.size)));clear hb4 iq gU OE;cases r2 with
        |false=>
          have HPK:Hid (pk false o=pk false x):=aa (by
           have h1:=Hp.o;have h2:=of_decide_eq_false ZZ.o.symm;omega)
          have SG:Hid (∀W,Below W4.heap.size W4 W->W.cell? ⟨g,k*4,none⟩=some (.int .u32 (o.t.toNat:Int))/\W.cell? ⟨g,k*4+1,none⟩=some (.int .u32 (o.h.toNat:Int))/\W.cell? ⟨g,k*4+2,none⟩=some (.int .u64 (o.x.toNat:Int))/\W.cell? ⟨g,k*4+3,none⟩=some (.int .u32 (o.m.toNat:Int))):=aa (fun W hB=>by
           obtain⟨g',e,r⟩:=Xd.o W (nQ.o.trans (hB.mono nQ.o.size)) k o HO.o;cases e;exact r)
          have lM:=aa (fun W=>EX x o W);obtain⟨r3,hr3⟩:∃r:Bool,r=decide (rk x<rk o):=⟨_,rfl⟩;rw[<- hr3]at lM;have aek:=aa hr3;clear hr3;go_wp2_with fail;refine wq W4 ?_;refine qz ?_ (fun w' hw'=>by obtain⟨e0,e1,e2,e3⟩:=MF.o w' (FD.o w' hw');go_simp<;>rfl);iterate 3 (refine qz ?_)
          refine qz ?_ (fun w' hw'=>by obtain⟨e0,e1,e2,e3⟩:=SG.o w' hw';go_simp<;>rfl);refine qw (fun w' hw'=>(lM.o w').mono fun e w'' ⟨he,hb⟩=>⟨he,hw'.trans (hb.mono hw'.size)⟩) ?_;refine wpQuiet_nil ?_;intro W5 oN;have Et:=aa (nQ.o.trans (oN.mono nQ.o.size));have Dh:Hid (aK W5 w.heap.size (.slice (some ⟨g,0,none⟩) n0 oc) out):=aa (aV nx.o Et.o);have ye:Hid (W5.heap[xb]? = some (.cells #[.int .u32 (x.t.toNat:Int),.int .u32 (x.h.toNat:Int),.int .u64 (x.x.toNat:Int),.int .u32 (x.m.toNat:Int)] 64)):=aa (FD.o W5 oN);have ael:=aa (VR.o.trans (Et.o.mono hz1));clear oN FD lM SG;cases r3 with
          |true=>
            have HBO:Hid (dI false (es.take (i+1)) (out.set k x)):=aa (by
             rw[vU.o];exact mR.o.over HO.o (iA.1 HPK.o) (of_decide_eq_true aek.o.symm))
            have hown:=j7 Dh.o (i:=k) (by rw[kR.o];exact x9) x;obtain⟨e0,e1,e2,e3⟩:=bK (by rw[kR.o];exact Dh.o) HO.o;obtain⟨c0,c1,c2,c3⟩:=MF.o W5 ye.o;have z0:=cA Dh.o (k*4);have z1:=cA Dh.o (k*4+1);have z2:=cA Dh.o (k*4+2);have z3:=cA Dh.o (k*4+3);have hgw:w.heap.size<=g:=aG Dh.o g rfl;have Mn:=aa (ll ael.o hgw (k*4) (k*4+1) (k*4+2) (k*4+3) (.int .u32 (x.t.toNat:Int)) (.int .u32 (x.h.toNat:Int)) (.int .u64 (x.x.toNat:Int)) (.int .u32 (x.m.toNat:Int)));have vC:=aa hown;clear hown;go_wp2;go_roundw
            case rel=>exact⟨i+1,ae,by go_num,out.set k x,vC.o,HBO.o,by rw[List.length_set,kR.o];omega,Mn.o⟩
            case measure=>simp[intOf];omega
          |false=>
            have Fz:Hid (dI false (es.take (i+1)) out):=aa (by
             rw[vU.o];exact mR.o.leave (.inr ⟨o,List.mem_of_getElem? HO.o,iA.1 HPK.o,by have:=of_decide_eq_false aek.o.symm;omega⟩))
            go_wp2;go_roundw
            case rel=>exact⟨i+1,ae,by go_num,out,Dh.o,Fz.o,by rw[kR.o];omega,ael.o⟩
            case measure=>simp[intOf];omega
        |true=>
          have KR:Hid (dI false (es.take (i+1)) (out.take k++x::out.drop k)):=aa (by
           rw[vU.o];refine mR.o.lay Iz.o (by rw[kR.o];exact hk) Pz.o (fun j o' hj kH=>?_);have h1:pk false x<pk false o:=of_decide_eq_true ZZ.o.symm;rcases Nat.eq_or_lt_of_le hj with rfl | hlt
           ·rw[HO.o]at kH;rw[<- Option.some.inj kH];exact h1
           ·exact Nat.lt_trans h1 (ft mR.o.gA hlt HO.o kH))
          have mr:=nQ;clear FD Py ZZ;have HRx:Hid (aK W4 w.heap.size (.slice (some ⟨g,0,none⟩) n0 oc) out):=aa (aV nx.o mr.o);have hzx:w.heap.size<=W4.heap.size:=Nat.le_trans hz1 mr.o.size;have Vp:out.length<=100000:=by rw[kR.o];omega
          have XH:xb<W4.heap.size:=Nat.lt_of_lt_of_le hs1 mr.o.size;have Ck:Hid (W4.heap[xb]? = some (.cells #[.int .u32 (x.t.toNat:Int),.int .u32 (x.h.toNat:Int),.int .u64 (x.x.toNat:Int),.int .u32 (x.m.toNat:Int)] 64)):=aa ((mr.o.block _ hs1).trans HQ1.o);obtain⟨c0,c1,c2,c3⟩:=MF.o W4 Ck.o;go_wp2_with (at_builtin;refine cZ rfl _ _ rfl w.heap.size _ out rfl HRx.o x 1 rfl Vp hzx ?_);intro v6 W6 AG KS;have mS:=aa (Dq (VR.o.trans (mr.o.mono hz1)) HRx.o KS);have qa:W4.heap.size<(W4.alloc (.cells #[.int .u32 (x.t.toNat:Int),.int .u32 (x.h.toNat:Int),.int .u64 (x.x.toNat:Int),.int .u32 (x.m.toNat:Int)] 64)).heap.size:=by simp
          have Z0:Hid (W6.heap[xb]? = some (.cells #[.int .u32 (x.t.toNat:Int),.int .u32 (x.h.toNat:Int),.int .u64 (x.x.toNat:Int),.int .u32 (x.m.toNat:Int)] 64)):=aa (((KS.1.block xb ae (fun e=>by have:=Re.o xb e.symm;omega)).trans ((MapKept.heap_alloc W4 _).2 xb XH)).trans Ck.o);have SH:∀y,v6.ownBlock=some y->xb≠y:=fun y hy e=>by
           rcases KS.2 with h | h
           ·rw[h]at hy;have:=Re.o y hy;omega
           ·rw[h]at hy;have:=Option.some.inj hy;omega
          obtain⟨n1,Bg⟩:∃n1:Nat,n1=n0+1:=⟨_,rfl⟩;have AH:(out++[x]).length=n1:=by rw[List.length_append,kR.o,Bg];rfl
          obtain⟨g6,c6,rfl⟩:∃g c,v6=.slice (some ⟨g,0,none⟩) n1 c:=by
           rcases cd AG with⟨h1,_⟩|⟨g,c,h1,_⟩
           ·simp at h1
           ·exact⟨g,c,by rw[<- AH];exact h1⟩
          have aen:xb≠g6:=SH g6 rfl;have hg6:w.heap.size<=g6:=aG AG g6 rfl;have ajL:(n1:Int)-1=(n0:Int):=by omega
          have ajM:n0<n1:=by omega
          have SI:n1<=c6/\c6<=maxLen:=by
           rcases cd AG with⟨h1,_⟩|⟨g,c,h1,_,h2,h3⟩
           ·simp at h1
           ·rw[AH]at h1 h2;cases h1;exact⟨h2,h3⟩
          obtain⟨Z1,KT⟩:=SI;unfold maxLen at KT;have JN:Hid (aK W6 w.heap.size (.slice (some ⟨g6,0,none⟩) n1 c6) (out.take n0++x::out.drop n0)):=aa (by
           rw[List.take_of_length_le (by rw[kR.o];exact Nat.le_refl _),List.drop_of_length_le (by rw[kR.o];exact Nat.le_refl _)];exact AG)
          have F9:=aa Bg;clear AG KS SH AH Bg qa c0 c1 c2 c3;go_wp2;go_loopw [7] (fun kv W=>∃(kk:Nat)(y:aH),k<=kk/\kk<=n0/\kv=.int .i64 (kk:Int)/\aK W w.heap.size (.slice (some ⟨g6,0,none⟩) n1 c6) (out.take kk++y::out.drop kk)/\Below w.heap.size w W/\W.heap[xb]? = some (.cells #[.int .u32 (x.t.toNat:Int),.int .u32 (x.h.toNat:Int),.int .u64 (x.x.toNat:Int),.int .u32 (x.m.toNat:Int)] 64)) (fun kv _=>(intOf kv).toNat)
          case atStart=>exact⟨n0,x,hk,Nat.le_refl _,rfl,JN.o,mS.o,Z0.o⟩
          case round=>
           generalize wr=W7 at *;obtain⟨kk,y,ajN,KU,rfl,XJ,LX,hx7⟩:=hrel;have EF:=aa XJ;have rL:=aa LX;have kL:=aa hx7;clear XJ LX hx7;have hMl:(out.take kk++y::out.drop kk).length=n1:=by
            rw[List.length_append,List.length_cons,List.length_take,List.length_drop,kR.o,F9.o];omega
           have NS:=aa hMl;clear hMl;have HKY:Hid ((out.take kk++y::out.drop kk)[kk]? = some y):=aa (by
            rw[List.getElem?_append_right (by rw[List.length_take];omega),List.length_take,kR.o,Nat.min_eq_left KU,Nat.sub_self];rfl)
           obtain⟨p0,p1,p2,p3⟩:=bK (by rw[NS.o];exact EF.o) HKY.o;have z0:=cA EF.o (kk*4);have z1:=cA EF.o (kk*4+1);have z2:=cA EF.o (kk*4+2);have z3:=cA EF.o (kk*4+3);by_cases yP:k<kk
           ·obtain⟨q,hq⟩:∃q:Nat,(q:Int)=(kk:Int)-1:=⟨kk-1,ae⟩;have hq':(kk:Int)-1=(q:Int):=hq.symm;have hqk:kk-1=q:=by omega
            have HQK:=aa hqk;have hqn:q<n1:=by omega
            have hql:q<out.length:=by rw[kR.o];omega
            obtain⟨z,hz⟩:∃z,out[q]? = some z:=⟨_,List.getElem?_eq_getElem hql⟩;have hzz:out[kk-1]? = some z:=by rw[hqk];exact hz
            have HZ:Hid ((out.take kk++y::out.drop kk)[q]? = some z):=aa (by
             have:=OD (x:=y) ae (by rw[kR.o];exact KU) hzz;rw[hqk]at this;exact this)
            have Y1:Hid ((out.take kk++y::out.drop kk).set kk z=out.take q++z::out.drop q):=aa (by
             have:=OC (x:=y) yP (by rw[kR.o];exact KU) hzz;rw[hqk]at this;exact this)
            have hown:=j7 EF.o (i:=kk) (by rw[NS.o];omega) z;rw[Y1.o]at hown;have vC:=aa hown;obtain⟨s0,s1,s2,s3⟩:=bK (by rw[NS.o];exact EF.o) HZ.o;have Mn:=aa (ll rL.o hg6 (kk*4) (kk*4+1) (kk*4+2) (kk*4+3) (.int .u32 (z.t.toNat:Int)) (.int .u32 (z.h.toNat:Int)) (.int .u64 (z.x.toNat:Int)) (.int .u32 (z.m.toNat:Int)));have Z2:=aa (Ix kL.o aen (kk*4) (kk*4+1) (kk*4+2) (kk*4+3) (.int .u32 (z.t.toNat:Int)) (.int .u32 (z.h.toNat:Int)) (.int .u64 (z.x.toNat:Int)) (.int .u32 (z.m.toNat:Int)));clear hq hqk hz hzz hown hql;go_wp2;go_roundw
            case rel=>exact⟨q,z,ae,ae,by first | rfl | go_num,vC.o,Mn.o,Z2.o⟩
            case measure=>simp[intOf];omega
           ·obtain rfl:kk=k:=by omega
            obtain⟨c0,c1,c2,c3⟩:=MF.o W7 kL.o;have hown:=j7 EF.o (i:=kk) (by rw[NS.o];omega) x;rw[AE (by rw[kR.o];exact KU)]at hown;have vC:=aa hown;have Mn:=aa (ll rL.o hg6 (kk*4) (kk*4+1) (kk*4+2) (kk*4+3) (.int .u32 (x.t.toNat:Int)) (.int .u32 (x.h.toNat:Int)) (.int .u64 (x.x.toNat:Int)) (.int .u32 (x.m.toNat:Int)));have ajP:kk<n1:=by omega
            clear hown;go_wp2;go_roundw
            case rel=>exact⟨i+1,ae,by go_num,out.take kk++x::out.drop kk,vC.o,KR.o,by rw[List.length_append,List.length_cons,List.length_take,List.length_drop,kR.o];omega,Mn.o⟩
            case measure=>simp[intOf];omega
     ·obtain rfl:n0=k:=by omega
      have KR:Hid (dI false (es.take (i+1)) (out.take n0++x::out.drop n0)):=aa (by
       rw[vU.o];refine mR.o.lay Iz.o (by rw[kR.o];exact Nat.le_refl _) Pz.o (fun j o' hj kH=>?_);have:=aN kH;rw[kR.o]at this;omega)
      have hdd:decide ((n0:Int)<(n0:Int))=false:=decide_eq_false ae;have Z3:decide (n0<n0)=false:=decide_eq_false ae;go_wp2_with fail;go_quiet (fail)
      have hb3:Below W2.heap.size W2 (W2.drewN nq):=below_drewN aj _;have jB:=aa (cX.o.trans (hb3.mono cX.o.size));clear hb3;generalize W2.drewN nq=W3 at *;go_wp2_with fail;go_quiet (fail)
      have hb4:Below W3.heap.size W3 (W3.drewN nq):=below_drewN aj _;have mr:=aa (jB.o.trans (hb4.mono jB.o.size));clear hb4 hdd Z3;generalize W3.drewN nq=W4 at *;have HRx:Hid (aK W4 w.heap.size (.slice oa n0 oc) out):=aa (aV nx.o mr.o);have hzx:w.heap.size<=W4.heap.size:=Nat.le_trans hz1 mr.o.size;have Vp:out.length<=100000:=by rw[kR.o];omega
      have XH:xb<W4.heap.size:=Nat.lt_of_lt_of_le hs1 mr.o.size;have Ck:Hid (W4.heap[xb]? = some (.cells #[.int .u32 (x.t.toNat:Int),.int .u32 (x.h.toNat:Int),.int .u64 (x.x.toNat:Int),.int .u32 (x.m.toNat:Int)] 64)):=aa ((mr.o.block _ hs1).trans HQ1.o);obtain⟨c0,c1,c2,c3⟩:=MF.o W4 Ck.o;go_wp2_with (at_builtin;refine cZ rfl _ _ rfl w.heap.size _ out rfl HRx.o x 1 rfl Vp hzx ?_);intro v6 W6 AG KS;have mS:=aa (Dq (VR.o.trans (mr.o.mono hz1)) HRx.o KS);have qa:W4.heap.size<(W4.alloc (.cells #[.int .u32 (x.t.toNat:Int),.int .u32 (x.h.toNat:Int),.int .u64 (x.x.toNat:Int),.int .u32 (x.m.toNat:Int)] 64)).heap.size:=by simp
      have Z0:Hid (W6.heap[xb]? = some (.cells #[.int .u32 (x.t.toNat:Int),.int .u32 (x.h.toNat:Int),.int .u64 (x.x.toNat:Int),.int .u32 (x.m.toNat:Int)] 64)):=aa (((KS.1.block xb ae (fun e=>by have:=Re.o xb e.symm;omega)).trans ((MapKept.heap_alloc W4 _).2 xb XH)).trans Ck.o);have SH:∀y,v6.ownBlock=some y->xb≠y:=fun y hy e=>by
       rcases KS.2 with h | h
       ·rw[h]at hy;have:=Re.o y hy;omega
       ·rw[h]at hy;have:=Option.some.inj hy;omega
      obtain⟨n1,Bg⟩:∃n1:Nat,n1=n0+1:=⟨_,rfl⟩;have AH:(out++[x]).length=n1:=by rw[List.length_append,kR.o,Bg];rfl
      obtain⟨g6,c6,rfl⟩:∃g c,v6=.slice (some ⟨g,0,none⟩) n1 c:=by
       rcases cd AG with⟨h1,_⟩|⟨g,c,h1,_⟩
       ·simp at h1
       ·exact⟨g,c,by rw[<- AH];exact h1⟩
      have aen:xb≠g6:=SH g6 rfl;have hg6:w.heap.size<=g6:=aG AG g6 rfl;have ajL:(n1:Int)-1=(n0:Int):=by omega
      have ajM:n0<n1:=by omega
      have SI:n1<=c6/\c6<=maxLen:=by
       rcases cd AG with⟨h1,_⟩|⟨g,c,h1,_,h2,h3⟩
       ·simp at h1
       ·rw[AH]at h1 h2;cases h1;exact⟨h2,h3⟩
      obtain⟨Z1,KT⟩:=SI;unfold maxLen at KT;have JN:Hid (aK W6 w.heap.size (.slice (some ⟨g6,0,none⟩) n1 c6) (out.take n0++x::out.drop n0)):=aa (by
       rw[List.take_of_length_le (by rw[kR.o];exact Nat.le_refl _),List.drop_of_length_le (by rw[kR.o];exact Nat.le_refl _)];exact AG)
      have F9:=aa Bg;clear AG KS SH AH Bg qa c0 c1 c2 c3;go_wp2;go_loopw [7] (fun kv W=>∃(kk:Nat)(y:aH),n0<=kk/\kk<=n0/\kv=.int .i64 (kk:Int)/\aK W w.heap.size (.slice (some ⟨g6,0,none⟩) n1 c6) (out.take kk++y::out.drop kk)/\Below w.heap.size w W/\W.heap[xb]? = some (.cells #[.int .u32 (x.t.toNat:Int),.int .u32 (x.h.toNat:Int),.int .u64 (x.x.toNat:Int),.int .u32 (x.m.toNat:Int)] 64)) (fun kv _=>(intOf kv).toNat)
      case atStart=>exact⟨n0,x,hk,Nat.le_refl _,rfl,JN.o,mS.o,Z0.o⟩
      case round=>
       generalize wr=W7 at *;obtain⟨kk,y,ajN,KU,rfl,XJ,LX,hx7⟩:=hrel;have EF:=aa XJ;have rL:=aa LX;have kL:=aa hx7;clear XJ LX hx7;have hMl:(out.take kk++y::out.drop kk).length=n1:=by
        rw[List.length_append,List.length_cons,List.length_take,List.length_drop,kR.o,F9.o];omega
       have NS:=aa hMl;clear hMl;have HKY:Hid ((out.take kk++y::out.drop kk)[kk]? = some y):=aa (by
        rw[List.getElem?_append_right (by rw[List.length_take];omega),List.length_take,kR.o,Nat.min_eq_left KU,Nat.sub_self];rfl)
       obtain⟨p0,p1,p2,p3⟩:=bK (by rw[NS.o];exact EF.o) HKY.o;have z0:=cA EF.o (kk*4);have z1:=cA EF.o (kk*4+1);have z2:=cA EF.o (kk*4+2);have z3:=cA EF.o (kk*4+3);by_cases yP:n0<kk
       ·omega
       ·obtain rfl:kk=n0:=by omega
        obtain⟨c0,c1,c2,c3⟩:=MF.o W7 kL.o;have hown:=j7 EF.o (i:=kk) (by rw[NS.o];omega) x;rw[AE (by rw[kR.o];exact KU)]at hown;have vC:=aa hown;have Mn:=aa (ll rL.o hg6 (kk*4) (kk*4+1) (kk*4+2) (kk*4+3) (.int .u32 (x.t.toNat:Int)) (.int .u32 (x.h.toNat:Int)) (.int .u64 (x.x.toNat:Int)) (.int .u32 (x.m.toNat:Int)));have ajP:kk<n1:=by omega
        clear hown;go_wp2;go_roundw
        case rel=>exact⟨i+1,ae,by go_num,out.take kk++x::out.drop kk,vC.o,KR.o,by rw[List.length_append,List.length_cons,List.length_take,List.length_drop,kR.o];omega,Mn.o⟩
        case measure=>simp[intOf];omega
  ·obtain rfl:N=i:=by omega
   go_wp2;go_ret;refine⟨_,rfl,?_,HB.o⟩;have h:=mR.o;rw[BH.o]at h;rw[<- h.eq];exact HR.o
theorem Z4{x y:aH}:(y.t=x.t/\y.h=x.h/\y.x=x.x/\y.m=x.m)↔y=x:=by
 cases x;cases y;simp
instance ajQ:DecidableEq aH:=fun y x=>decidable_of_iff (y.t=x.t/\y.h=x.h/\y.x=x.x/\y.m=x.m) Z4
noncomputable section
def aX(es:List aH)(v:Nat):List aH:=Hx false v (aJ false es)
def eW(es:List aH)(v:Nat):List aH:=Hx true v (aJ true es)
def SJ(l:List Nat):List Nat:=l.foldl (fun a x=>if x∈a then a else a++[x]) []
def cT(es:List aH)(v:Nat):List Nat:=SJ ((aX es v).map (·.h.toNat)++(eW es v).map (·.t.toNat))
structure yS where
 v:Nat
 k:Nat
 n:List Nat
def SK(i o s:Nat)(x:ck):Nat:=(SC i o s x.l.toNat x.g.toNat).toNat
def oH(es:List aH)(v:Nat)(x:ck):yS:=⟨v,SK (eW es v).length (aX es v).length (oF (aX es) (fun _=>false) (eW es v) (UInt32.ofNat v)).length x,cT es v⟩
def eo(es:List aH)(vs:List ck):List yS:=vs.zipIdx.filterMap fun p=>if p.1.r=4294967295 then some (oH es p.2 p.1) else none
def gF(a b:yS):Prop:=a.k<b.k\/a.k=b.k/\a.v<b.v
instance(a b:yS):Decidable (gF a b):=by unfold gF;infer_instance
def AJ(cs:List yS)(v:Nat):Prop:=∃a∈cs,∃b∈cs,b.v∈a.n/\a.v≠b.v/\(gF a b/\b.v=v\/¬gF a b/\a.v=v)
instance(cs:List yS)(v:Nat):Decidable (AJ cs v):=by unfold AJ;infer_instance
def kT(cs:List yS):List Nat:=(cs.map (·.v)).filter fun v=>¬AJ cs v
def aB(es:List aH)(vs:List ck):List Nat:=kT (eo es vs)
def gG(es:List aH)(ch:List Nat):List aH:=(aJ false es).filter fun x=>x.t.toNat ∉ ch/\x.h.toNat ∉ ch
def iH(es:List aH)(ch:List Nat)(v:Nat):List aH:=oF (aX es) (fun w=>decide (w∈ch)) (eW es v) (UInt32.ofNat v)
def fR(es:List aH)(ch:List Nat):List aH:=gG es ch++ch.flatMap (iH es ch)
def yI(es:List aH)(ch:List Nat):List aH:=ch.flatMap (aX es)
def gH(es:List aH)(ch:List Nat):List aH:=ch.flatMap (eW es)
def ky(lv:UInt32)(vs:List ck)(w:Nat):List ck:=vs.modify w fun x=>⟨x.r,if x.l<lv then lv else x.l,x.g+1⟩
def fY(es:List aH)(was:List ck)(done gen:Nat)(vs:List ck)(i v:Nat):List ck:=
 (cT es v).foldl (ky (((was[v]?).map (·.l)).getD 0+1)) (vs.modify v fun x=>⟨UInt32.ofNat (done+i),UInt32.ofNat (gen+1),x.g⟩)
def cU(es:List aH)(was:List ck)(done gen:Nat)(ch:List Nat):List ck:=ch.zipIdx.foldl (fun vs p=>fY es was done gen vs p.2 p.1) was
end
end
section
open Go.RowKit Go.Maps
theorem qQ{α:Type}[DecidableEq α]{VS:List α}:∀{l₂:List α},VS.Nodup->(∀x∈VS,x∈l₂)->VS.length<=l₂.length:=by
 induction VS with
 |nil=>simp
 |cons a l ih=>
   intro l₂ h hs;obtain⟨s,t,rfl⟩:=List.append_of_mem (hs a ah);rw[List.nodup_cons]at h;have:=ih (l₂:=s++t) h.2 (fun x hx=>by
    grind)
   grind
theorem yT{b:Bool}{v:Nat}{l:List aH}{x:aH}(h:x∈Hx b v l):x∈l/\fV b x=v:=by
 grind [Hx]
section
variable {w0 w w':World} {pb db n:Nat} {o o':ar} {d d':Dsk} {L L':aC}
theorem Held.SF{w1:World}(h:Held w1 w pb db n o d L)(hb:Below w0.heap.size w0 w1):Held w0 w pb db n o d L:=
 ⟨h.aY,fun x t hx=>Nat.le_trans hb.size (h.new x t hx),hb.trans (h.below.mono hb.size),h.cK,h.dead,h.bC⟩
end
end
section
open Go.RowKit Go.Maps
theorem pG{w:World}{base:Nat}{v:Value}{es:List aH}(h:aK w base v es):kF w v es:=by
 rcases cd h with⟨rfl,h1⟩|⟨g,cap,rfl,hg,hc1,hc2⟩
 ·obtain⟨a,cap,rfl⟩:=az h;exact⟨a,cap,rfl,.inl rfl⟩
 ·refine⟨some ⟨g,0,none⟩,cap,rfl,.inr ⟨g,0,rfl,fun j x hx=>?_⟩⟩;obtain⟨h1,h2,h3,h4⟩:=bK h hx;rw[Nat.zero_add];exact⟨h1,h2,h3,h4⟩
end
end Go.Proofs.YthkkgdpomhhjjaaGreatDoor
