/-
  Joined.
-/
import Derived.Test.YthkkgdpomhhjjaaGreatDoorK10
import Derived.Deep.RegionLaw
import Derived.BigRegion
import Derived.Maps.Keyed
import Derived.Laws.Externs
import Derived.Laws.BytesArg
import Derived.Laws.OwnMore
set_option maxRecDepth 100000
set_option maxHeartbeats 8000000
namespace Go.Proofs.YthkkgdpomhhjjaaGreatDoor
open Go.Proofs.Tryz
section
open Go.RowKit Go.Maps
section
variable {w w' W:World} {hb g cap:Nat} {v v':Value} {l:List fC}
theorem mC{P:Program}{w:World}{ops:Array Oper}{o:Oper}{a:Act}{K:Act->World->Prop}{Q:Exit->Act->World->Prop}{E:Prop}(hg:o.guard=none)(s x:Operand)(t:TypeId)(ho:o.op=.call { callee:=.builtin .append,args:=#[s,x],argTypes:=#[t,t] })(base:Nat)(e:TypeId)(z:Value)(size bytes:Nat)(ht:P.underlying t=some (.slice e))(hi:(P.info? e).map (fun i=>(i.zero,i.size,i.bytes))=some (some z,size,bytes))(hzs:z.cells.size=size)(hsz:0<size)(v:Value)(n:Nat)(xs:List Value)(hs:a.eval s=v)(hown:w.ownsRow base e size v n xs)(ad:Addr)(m c:Nat)(news:List Value)(hx:a.eval x=.slice (some ad) m c)(hl:news.length=m*size)(hnews:∀j u,news[j]? = some u->w.cell? (ad.add j)=some u)(h1:∀u∈news,u.oneCell'=true)(h63:n+m<=maxLen)(hbytes:(n+m)*bytes<=140737488355328)(hbase:base<=w.heap.size)(k:∀v' w',w'.ownsRow base e size v' (n+m) (xs++news)->mr v w w' v'->K (a.put o.dst v') w'):if Region.wanted o (yielded ops a.tmps)=true then Oper.wp P o a w K Q else E:=by
 have hw:Region.wanted o (yielded ops a.tmps)=true:=by grind [Region.wanted]
 rw[if_pos hw];obtain⟨i0,tK,hz0,hz1,hz2⟩:=info_parts hi;obtain⟨v',w',g1,g2,g3,g4,g5⟩:=run_append_own_at (P:=P) w base t o.type e i0 z size bytes ht tK hz0 hz1 hz2 hzs hsz v n xs hown ad m c news hl hnews h1 h63 hbytes hbase;unfold Oper.wp execOp;simp only[ho,resolve,invoke,builtin,Sem.run_bind,Sem.run_pure,Result.andThen_ok,List.map_toArray,List.map_cons,List.map_nil,hs,hx,g1];exact k v' w' g2 ⟨g3,g5⟩
theorem xE{ops:Array Oper}{o:Oper}{a:Act}{w:World}{K:Act->World->Prop}{Q:Exit->Act->World->Prop}{E:Prop}(hgd:o.guard=none)(s x:Operand)(ho:o.op=.call { callee:=.builtin .append,args:=#[s,x],argTypes:=#[359,359] })(v:Value)(l:List fC)(hs:a.eval s=v)(hown:mB w v l)(y:fC)(xb c:Nat)(hx:a.eval x=.slice (some ⟨xb,0,none⟩) 1 c)(Gl:w.heap[xb]? = some (.cells #[.int .u64 (y.1:Int),.int .u32 (y.2:Int)] 357))(hl:l.length<=100000)(k:∀v' w',mB w' v' (l++[y])->mr v w w' v'->K (a.put o.dst v') w'):if Region.wanted o (yielded ops a.tmps)=true then Oper.wp prog o a w K Q else E:=by
 refine mC hgd s x 359 ho 0 357 _ 2 16 Tryz.underlying359 Po rfl ag v l.length (eR l) hs hown ⟨xb,0,none⟩ 1 c (fC.cells y) hx rfl (fun j u hj=>?_) (by simp[Value.oneCell']) (by grind [maxLen]) af (Nat.zero_le _) (fun v' w' h1 h2=>k v' w' ?_ h2)
 ·rw[bI,Nat.zero_add,ar Gl];grind
 ·unfold mB;rw[CW,List.length_append];exact h1
theorem dU.LF{x:fC}(h:dU W hb v l)(ha:mr v W w' v')(hr:mB w' v' (l++[x])) :
 w'.cell? ⟨hb,0,none⟩=some v/\w'.frozen? ⟨hb,0,none⟩=false/\dU (w'.setCell ⟨hb,0,none⟩ v') hb v' (l++[x])/\aG (fun b=>b=hb\/v.ownBlock=some b) W (w'.setCell ⟨hb,0,none⟩ v')/\∀b,v'.ownBlock=some b->v.ownBlock=some b\/W.heap.size<=b:=by
 obtain⟨hg,hv⟩:=ha;have hlt:=h.lt;obtain⟨⟨t,h1⟩,h2,h3⟩:=h;have e1:w'.heap[hb]? = some (.cells #[v,Nt] t):=by
  grind [World.grownBy.block]
 have Y8:∀b,v'.ownBlock=some b->v.ownBlock=some b\/W.heap.size<=b:=fun b hb'=>by
  grind
 have hne:v'.ownBlock≠some hb:=fun e=>by
  grind
 refine⟨by rw[ar e1];rfl,aO e1 _,⟨⟨t,aT e1 0 v'⟩,?_,hne⟩,?_,Y8⟩
 ·grind [bH,Below.heap_setCell]
 ·have ht:aG (fun b=>b=hb\/v.ownBlock=some b) W w':=⟨hg.os,hg.tape,hg.output,hg.size,fun k hk hn=>hg.block k hk (fun e=>hn (.inr e.symm))⟩;grind [aG.setCell]
theorem ny(h:dU w hb v l):Calls prog 300 #[ptrTo hb] w fun e w'=>e=.returned (.int .i64 (l.length:Int))/\w'=w:=by
 obtain⟨a,c,rfl⟩:=aA h.row;have c0:=h.cells.1;clear h;unfold ptrTo;go_enter func300,ntmps300;go_wp2;go_ret;simp
theorem IW(w:World):Calls prog 242 #[] w fun e w'=>e=.returned (ptrTo w.heap.size)/\dU w' w.heap.size (.slice none 0 0) []/\Below w.heap.size w w'/\w.heap.size<w'.heap.size:=by
 unfold ptrTo;go_enter func242,ntmps242;go_wp2;go_ret;refine⟨rfl,⟨⟨_,heap_alloc_new _ _⟩,World.ownsRow_nil _ _ _ _,by simp[Value.ownBlock]⟩,ak.alloc (Nat.le_refl _) _,ai⟩
theorem LG{x:fC}(h:mB w v (l++[x])):∃g k M,Hid (M=l.length+1)/\v=.slice (some ⟨g,0,none⟩) M k:=by
 obtain⟨-,⟨h1,h2⟩|⟨g,k,_,h1,_⟩⟩:=h
 ·grind
 grind [ae]
def Bd(w:World)(hb:Nat)(v:Value)(l:List fC)(x:fC)(e:Ending)(w':World):Prop:=
 ∃v' l',e=.returned (.int .i64 0)/\dU w' hb v' l'/\iq l'/\l'.Perm (l++[x])/\aG (fun b=>b=hb\/v.ownBlock=some b) w w'/\∀b,v'.ownBlock=some b->v.ownBlock=some b\/w.heap.size<=b
theorem Tf(h:dU w hb v l)(hh:iq l)(x:fC)(hl:l.length<65536):Calls prog 283 #[ptrTo hb,j8 x] w (Bd w hb v l x):=by
 obtain⟨a,c,rfl⟩:=aA h.row;have H1:Hid (dU (w.alloc (.cells #[.int .u64 (x.1:Int),.int .u32 (x.2:Int)] 357)) hb (.slice a l.length c) l):=ae (h.below aj);have HX:Hid ((w.alloc (.cells #[.int .u64 (x.1:Int),.int .u32 (x.2:Int)] 357)).cell? ⟨w.heap.size,0,none⟩=some (.int .u64 (x.1:Int))/\(w.alloc (.cells #[.int .u64 (x.1:Int),.int .u32 (x.2:Int)] 357)).cell? ⟨w.heap.size,1,none⟩=some (.int .u32 (x.2:Int))):=ae ai;have HT:Hid (aG (fun b=>b=hb\/(Value.slice a l.length c).ownBlock=some b) w (w.alloc (.cells #[.int .u64 (x.1:Int),.int .u32 (x.2:Int)] 357))):=ae ((aG.refl _ w).alloc _);have HH:=ae hh;have hlen:=ae (ny H1.out);have hl':decide ((l.length:Int) >= 65536)=false:=decide_eq_false af;clear h hh hl;unfold j8 ptrTo Bd at *;go_enter func283,ntmps283;go_wp2_with fail;refine hlen.out.mono ?_;rintro e w2⟨rfl,rfl⟩;clear hlen;generalize w.alloc (.cells #[.int .u64 (x.1:Int),.int .u32 (x.2:Int)] 357)=W1 at *;go_wp2_with fail;have c0:=H1.out.cells.1;obtain⟨x0,x1⟩:=HX.out;have hlt:=H1.out.lt;have Tg:=World.block_lt_of_cell? _ _ x0;have f0:=H1.out.cells.2.2;have cO:Hid (∀ob,Below W1.heap.size W1 (W1.alloc ob).drew):=ae (fun ob=>(ak.alloc (Nat.le_refl _) ob).drew);go_region_law (refine xE rfl _ _ rfl _ l rfl (World.ownsRow.alloc (World.ownsRow.drew H1.out.row) _) x _ 1 rfl (heap_alloc_new _ _) (by grind) ?_;intro v5 w5 h5 ha;obtain⟨g5,k5,M,HM,rfl⟩:=LG h5;obtain⟨c5,f5,Gb,rU,J4⟩:=(H1.out.below (cO.out _)).LF ha h5;have HA5:=ae (show _/\_/\_ from⟨Gb,rU,J4⟩);clear Gb rU J4 ha h5)
 all_goals
  clear c0 x0 x1 hlt Tg f0 c5 f5;have H5:Hid (dU (w5.setCell ⟨hb,0,none⟩ (.slice (some ⟨g5,0,none⟩) M k5)) hb (.slice (some ⟨g5,0,none⟩) (l++[x]).length k5) (l++[x])):=ae (by grind [Hid.out]);have Ey:=ae ((HT.out.bN (cO.out (.cells #[.int .u64 (x.1:Int),.int .u32 (x.2:Int)] 357))).trans HA5.out.2.1 (fun _ _ e=>e));have Pp:Hid (∀b,g5=b->(Value.slice a l.length c).ownBlock=some b\/w.heap.size<=b):=ae (fun b hb=>(HA5.out.2.2 b (by rw[hb];rfl)).imp id (fun e=>Nat.le_trans (HT.out.bN (cO.out (.cells #[.int .u64 (x.1:Int),.int .u32 (x.2:Int)] 357))).size e));clear HA5 cO H1 HT HX;generalize w5.setCell ⟨hb,0,none⟩ (.slice (some ⟨g5,0,none⟩) M k5)=W5 at *;have hlen:=ae (fun W hW=>ny (w:=W) (H5.out.below (w':=W) hW));have hup:=ae (fun W hW=>aaY (w:=W) (i:=l.length) (H5.out.below (w':=W) hW) ai (Pj HH.out x) (by grind));rw[show(l++[x]).length=M by rw[HM.out];simp]at hlen;have wl:IntKind.i64.wrap ((M:Int)-1)=(l.length:Int):=by grind [Hid.out,aw]
  unfold ptrTo at *;go_wp2_with fail;refine cr (Below W5.heap.size W5) 6 (by rfl) ah (ak.drew) ?_;simp only[List.take_succ_cons,List.take_zero,List.drop_succ_cons,List.drop_zero];iterate 4 (refine qz ?_)
  refine qw (fun w' hw'=>(hlen.out w' hw').mono (fun e w'' h=>⟨h.1,h.2▸hw'⟩)) ?_;refine qz ?_;refine wpQuiet_nil ?_;intro w6 V2;go_wp2_with fail;refine(hup.out w6 V2).mono ?_;rintro e w7⟨l7,rfl,hp7,hh7,ha7,Qa⟩;have UN:=ae ((Ey.out.bN V2).trans Qa (S:=fun b=>b=hb\/(Value.slice a l.length c).ownBlock=some b) (fun y hy e=>by
   grind [Hid.out]))
  clear hlen hup V2 Qa wl;have Ti:=ae ha7;clear ha7;go_wp2;go_ret;exact⟨_,l7,rfl,Ti.out,hh7,hp7,UN.out,fun b hb=>Pp.out b (by cases hb;rfl)⟩
theorem dU.shrink(h:dU W hb (.slice (some ⟨g,0,none⟩) l.length cap) l)(k:Nat)(hk:k<=l.length):dU (W.setCell ⟨hb,0,none⟩ (.slice (some ⟨g,0,none⟩) k cap)) hb (.slice (some ⟨g,0,none⟩) (l.take k).length cap) (l.take k):=by
 obtain⟨⟨t,h1⟩,h2,h3⟩:=h;have e:(l.take k).length=k:=by grind
 have hne:g≠hb:=fun e=>h3 (by rw[e];rfl);refine⟨⟨t,?_⟩,?_,by assumption⟩
 ·rw[e];exact aT h1 0 _
 ·obtain⟨hl,⟨h4,h5⟩|⟨g',cap',cur,h4,h5,h6,h7,h8,h9,h10⟩⟩:=h2
  ·cases h4
  ·cases h4;refine⟨by rw[CV],.inr ⟨g,cap,cur,rfl,Nat.zero_le _,?_,af,h8,h9,?_⟩⟩
   ·grind [Below.heap_setCell]
   grind [IV]
theorem dU.aaZ(h:dU W hb (.slice (some ⟨g,0,none⟩) l.length cap) l)(hl:0<l.length){y:fC}(hy:gI l (l.length-1)=y) :
 dU (((W.setCell ⟨g,0,none⟩ (.int .u64 (y.1:Int))).setCell ⟨g,1,none⟩ (.int .u32 (y.2:Int))).setCell ⟨hb,0,none⟩ (.slice (some ⟨g,0,none⟩) (l.length-1) cap)) hb (.slice (some ⟨g,0,none⟩) (Bb l).length cap) (Bb l) /\
 aG (fun b=>b=hb\/g=b) W (((W.setCell ⟨g,0,none⟩ (.int .u64 (y.1:Int))).setCell ⟨g,1,none⟩ (.int .u32 (y.2:Int))).setCell ⟨hb,0,none⟩ (.slice (some ⟨g,0,none⟩) (l.length-1) cap)):=by
 subst hy;refine⟨(h.put hl (gI l (l.length-1))).shrink (l.length-1) ai,?_⟩;exact(((aG.refl _ W).setCell _ _ (.inl (.inr rfl))).setCell _ _ (.inl (.inr rfl))).setCell _ _ (.inl (.inl rfl))
theorem IX(h:dU w hb v []):Calls prog 285 #[ptrTo hb] w fun e w'=>e=.returned (.tuple #[j8 (0,0),.bool false])/\Below w.heap.size w w':=by
 have hlen:=ae (fun W hW=>ny (w:=W) (h.below (w':=W) hW));have HB:Hid (Below w.heap.size w (w.alloc (.cells #[.int .u64 0,.int .u32 0] 357))):=ae aj;clear h;unfold j8 ptrTo at *;go_enter func285,ntmps285;go_wp2_with fail;refine(hlen.out _ HB.out).mono ?_;rintro e w2⟨rfl,rfl⟩;go_wp2;go_returns;grind [Hid.out]
def Nu(w:World)(hb:Nat)(v:Value)(l:List fC)(e:Ending)(w':World):Prop:=
 ∃v' l',e=.returned (.tuple #[j8 (gI l 0),.bool true])/\dU w' hb v' l'/\iq l'/\(gI l 0::l').Perm l/\aG (fun b=>b=hb\/v.ownBlock=some b) w w'/\v'.ownBlock=v.ownBlock
theorem WL(h:dU w hb v l)(hh:iq l)(h0:0<l.length)(hl:l.length<=100000):Calls prog 285 #[ptrTo hb] w (Nu w hb v l):=by
 obtain⟨g,cap,rfl⟩:∃g cap,v=.slice (some ⟨g,0,none⟩) l.length cap:=by
  obtain⟨-,⟨h1,h2⟩|⟨g,cap,_,h1,_⟩⟩:=h.row
  ·omega
  grind
 have HB:Hid (Below w.heap.size w (w.alloc (.cells #[.int .u64 0,.int .u32 0] 357))):=ae aj;have H1:=ae (h.below HB.out);have HR:Hid ((w.alloc (.cells #[.int .u64 0,.int .u32 0] 357)).heap[w.heap.size]? = some (.cells #[.int .u64 0,.int .u32 0] 357)):=ae (heap_alloc_new _ _);have hlen:=ae (ny H1.out);have HH:=ae hh;have HN:Hid (hb≠w.heap.size/\g≠w.heap.size/\hb<w.heap.size/\g<w.heap.size):=ae (by
  have h1:=h.lt;have h2:=(aL h.row g rfl).1;omega)
 clear h hh;obtain⟨M,hM⟩:∃M,M=l.length-1:=⟨_,rfl⟩;obtain⟨N,hN⟩:∃N,N=l.length:=⟨_,rfl⟩;have HMN:Hid (M=l.length-1/\N=l.length/\M<l.length):=ae af;have wM:IntKind.i64.wrap ((N:Int)-1)=(M:Int):=by grind [aw]
 have b0:¬(N:Int)=0:=by omega
 have b1:(0:Int)<(N:Int):=by omega
 have b2:(M:Int)<(N:Int):=by omega
 rw[<- hN]at h0 hl hlen;unfold j8 Nu ptrTo at *;rw[<- hN];clear hM hN;go_enter func285,ntmps285;go_wp2_with fail;refine hlen.out.mono ?_;rintro e w2⟨rfl,rfl⟩;clear hlen;generalize w.alloc (.cells #[.int .u64 0,.int .u32 0] 357)=W1 at *;obtain⟨c0,-,fh⟩:=H1.out.cells;obtain⟨x0,x1⟩:=H1.out.item (i:=0) (by grind [Hid.out]);obtain⟨y0,y1⟩:=H1.out.item (i:=M) HMN.out.2.2;obtain⟨xx,YD⟩:∃x,gI l 0=x:=⟨_,rfl⟩;obtain⟨yy,hyy⟩:∃x,gI l M=x:=⟨_,rfl⟩;have dQ:=fun k=>World.ownsRow.frozenAt H1.out.row k;rw[YD]at x0 x1;rw[hyy]at y0 y1;rw[<- HMN.out.2.1]at c0;rw[Nat.zero_mul]at x0 x1;obtain⟨n1,n2,n3,n4⟩:=HN.out;have n6:=H1.out.lt;have b4:M<=cap:=by
  obtain⟨-,⟨h,-⟩|⟨_,_,_,h,-,-,h7,-⟩⟩:=H1.out.row
  ·cases h
  grind [Hid.out]
 have n7:=(aL H1.out.row g rfl).1;have n8:=(Array.getElem?_eq_some_iff.1 HR.out).1;have n5:hb≠g:=fun e=>H1.out.ne (by grind);go_wp2_with fail;have mH:=H1.out.aaZ (by grind [Hid.out]) (y:=yy) (by grind [Hid.out]);rw[<- HMN.out.1]at mH;obtain⟨ko,oJ⟩:=mH;have p8:=ae (ko.below (ak.alloc (Nat.le_refl _) (.cells #[.int .u64 (xx.1:Int),.int .u32 (xx.2:Int)] 357)));have mP:=ae (oJ.alloc (.cells #[.int .u64 (xx.1:Int),.int .u32 (xx.2:Int)] 357));have kZ:Hid (((((W1.setCell ⟨g,0,none⟩ (.int .u64 (yy.1:Int))).setCell ⟨g,1,none⟩ (.int .u32 (yy.2:Int))).setCell ⟨hb,0,none⟩ (.slice (some ⟨g,0,none⟩) M cap)).alloc (.cells #[.int .u64 (xx.1:Int),.int .u32 (xx.2:Int)] 357)).heap[W1.heap.size]? = some (.cells #[.int .u64 (xx.1:Int),.int .u32 (xx.2:Int)] 357)):=ae (by
  grind [heap_alloc_new,World.setCell])
 have MZ:Hid (W1.heap.size<((((W1.setCell ⟨g,0,none⟩ (.int .u64 (yy.1:Int))).setCell ⟨g,1,none⟩ (.int .u32 (yy.2:Int))).setCell ⟨hb,0,none⟩ (.slice (some ⟨g,0,none⟩) M cap)).alloc (.cells #[.int .u64 (xx.1:Int),.int .u32 (xx.2:Int)] 357)).heap.size):=ae ai;clear ko oJ x0 x1 y0 y1 dQ c0 fh;generalize ((((W1.setCell ⟨g,0,none⟩ (.int .u64 (yy.1:Int))).setCell ⟨g,1,none⟩ (.int .u32 (yy.2:Int))).setCell ⟨hb,0,none⟩ (.slice (some ⟨g,0,none⟩) M cap)).alloc (.cells #[.int .u64 (xx.1:Int),.int .u32 (xx.2:Int)] 357))=W2 at *;refine(Td p8.out (Pk HH.out) (by grind [yI,Hid.out])).mono ?_;rintro e w3⟨l3,rfl,Qc,hh3,Yc,yY⟩;have HA3:=ae Yc;have r0:w3.heap[W1.heap.size]? = some (.cells #[.int .u64 (xx.1:Int),.int .u32 (xx.2:Int)] 357):=(yY.block _ MZ.out af).trans kZ.out;have s0:w3.heap[w.heap.size]? = some (.cells #[.int .u64 0,.int .u32 0] 357):=(yY.block _ (Nat.lt_trans n8 MZ.out) af).trans ((mP.out.block _ n8 af).trans HR.out);have HQ:Hid (dU ((w3.setCell ⟨w.heap.size,0,none⟩ (.int .u64 (xx.1:Int))).setCell ⟨w.heap.size,1,none⟩ (.int .u32 (xx.2:Int))) hb (.slice (some ⟨g,0,none⟩) (Bb l).length cap) l3/\aG (fun b=>b=hb\/(Value.slice (some ⟨g,0,none⟩) N cap).ownBlock=some b) w ((w3.setCell ⟨w.heap.size,0,none⟩ (.int .u64 (xx.1:Int))).setCell ⟨w.heap.size,1,none⟩ (.int .u32 (xx.2:Int)))/\(xx::l3).Perm l):=ae (by
  refine⟨HA3.out.kept (fun b hb'=>?_),?_,(Qc.cons xx).trans (YD▸Pm (by grind [Hid.out]))⟩
  ·have hne:b≠w.heap.size:=by
    rcases hb' with rfl | e
    ·exact n1
    ·cases e;exact n2
   grind [Below.heap_setCell]
  ·refine((((aG.aV HB.out).trans mP.out (fun b _ e=>?_)).trans yY (fun b _ e=>?_)).setCell _ _ (.inr (Nat.le_refl _))).setCell _ _ (.inr (Nat.le_refl _))
   ·exact e.imp id (fun e=>by rw[e];rfl)
   ·exact .inr (by rw[e];rfl))
 have q0:w3.cell? ⟨W1.heap.size,0,none⟩=some (.int .u64 (xx.1:Int)):=by rw[ar r0];rfl
 have q1:w3.cell? ⟨W1.heap.size,1,none⟩=some (.int .u32 (xx.2:Int)):=by rw[ar r0];rfl
 have q2:w3.cell? ⟨w.heap.size,0,none⟩=some (.int .u64 0):=by rw[ar s0];rfl
 have q3:w3.cell? ⟨w.heap.size,1,none⟩=some (.int .u32 0):=by rw[ar s0];rfl
 have q4:∀k,w3.frozen? ⟨w.heap.size,k,none⟩=false:=fun k=>aO s0 k;have s1:=aT s0 0 (.int .u64 (xx.1:Int));have s2:=aT s1 1 (.int .u32 (xx.2:Int));have e0:(w3.setCell ⟨w.heap.size,0,none⟩ (.int .u64 (xx.1:Int))).cell? ⟨w.heap.size,0,none⟩=some (.int .u64 (xx.1:Int)):=by rw[ar s1];rfl
 have e1:((w3.setCell ⟨w.heap.size,0,none⟩ (.int .u64 (xx.1:Int))).setCell ⟨w.heap.size,1,none⟩ (.int .u32 (xx.2:Int))).cell? ⟨w.heap.size,1,none⟩=some (.int .u32 (xx.2:Int)):=by rw[ar s2];rfl
 clear s1 s2;have Gk:=ae hh3;have HXX:=ae YD;clear Yc Qc yY r0 s0 HA3 p8 mP kZ H1 HR hh3 YD HB MZ;go_wp2;refine bodyPost_ret (by simp[results,Tryz.results285,go_sem,e0,e1];try rfl) rfl ?_;exact⟨_,l3,by rw[HXX.out],HQ.out.1,Gk.out,by grind [Hid.out],HQ.out.2.1,rfl⟩
def aa1(w:World)(hb:Nat)(v:Value)(l:List fC)(e:Ending)(w':World):Prop:=
 ∃(ok:Bool)(x:fC)(v':Value)(l':List fC),e=.returned (.tuple #[j8 x,.bool ok])/\dU w' hb v' l'/\iq l'/\aG (fun b=>b=hb\/v.ownBlock=some b) w w'/\v'.ownBlock=v.ownBlock/\l'.length<=l.length/\if ok=true then (x::l').Perm l/\∀y∈l',¬iF y x else l=[]/\l'=[]
theorem Tj(h:dU w hb v l)(hh:iq l)(hl:l.length<=100000):Calls prog 285 #[ptrTo hb] w (aa1 w hb v l):=by
 rcases Nat.eq_zero_or_pos l.length with h0 | h0
 ·obtain rfl:=List.eq_nil_of_length_eq_zero h0;refine(IX h).mono ?_;rintro e w'⟨rfl,hb⟩;exact⟨false,_,v,[],rfl,h.below hb,hh,aG.aV hb,rfl,Nat.le_refl _,ai⟩
 ·refine(WL h hh h0 hl).mono ?_;rintro e w'⟨v',l',rfl,h1,h2,h3,h4,h5⟩;refine⟨true,_,v',l',rfl,h1,h2,h4,h5,by have:=h3.length_eq;grind,?_⟩;rw[if_pos rfl];refine⟨h3,fun y hy=>?_⟩;obtain⟨j,hj⟩:=List.mem_iff_getElem?.1 (h3.mem_iff.1 (List.mem_cons_of_mem _ hy));have hlt:=(List.getElem?_eq_some_iff.1 hj).1;rw[<- IQ hj];grind [Ta]
end
end
section
open Go.RowKit Go.Maps
abbrev vL:=List (Nat×Nat)
def sM(h:List fC)(m:vL):Prop:=(∀v d,aB m v=some d->(d,v)∈h)/\∀y∈h,y.2<4294967296
def qZ:vL->Option (Nat×Nat)
 | []=>none
 |p::m=>match qZ m with
   |none=>some p
   |some q=>if iF (p.2,p.1) (q.2,q.1) then some p else some q
theorem Be{m:vL}(h:qZ m=none):m=[]:=by
 cases m with
 |nil=>rfl
 |cons p m=>
   grind [qZ]
theorem tv{m:vL}{q:Nat×Nat}(h:qZ m=some q):q∈m/\∀p∈m,¬iF (p.2,p.1) (q.2,q.1):=by
 induction m generalizing q with
 |nil=>cases h
 |cons p m ih=>
   rw[qZ]at h;split at h
   ·grind [Be,iF.mA]
   ·rename_i q' e
    split at h
    ·rename_i hl
     grind [iF.oU,iF.asym]
    grind
theorem Tk{m:vL}(hn:(m.map (·.1)).Nodup){v d:Nat}(hm:aB m v=some d)(hl:∀v' d',aB m v'=some d'->¬iF (d',v') (d,v)):qZ m=some (v,d):=by
 cases e:qZ m with
 |none=>rw[Be e]at hm;cases hm
 |some q=>
   grind [tv,iV,eK,iF.eq]
def nz(m:vL)(v d:Nat):vL:=match aB m v with
 |some old=>if old<=d then m else aS m v d
 |none=>aS m v d
theorem LH{m:vL}(hn:(m.map (·.1)).Nodup)(v d:Nat):((nz m v d).map (·.1)).Nodup:=by
 grind [nz,ct]
theorem Pq{h h':List fC}{m:vL}(hw:sM h m){v d:Nat}(hv:v<4294967296)(hp:h'.Perm (h++[(d,v)])):sM h' (aS m v d):=by
 refine⟨fun v' d' hm=>?_,fun y hy=>?_⟩;rotate_left
 ·rcases List.mem_append.1 (hp.mem_iff.1 hy) with h | h
  ·exact hw.2 y h
  grind
 rw[ay]at hm;refine hp.mem_iff.2 (List.mem_append.2 ?_);split at hm
 ·grind
 ·exact .inl (hw.1 _ _ hm)
theorem D4{h h':List fC}{m:vL}(hw:sM h m){x:fC}(hp:(x::h').Perm h):sM h' (match aB m x.2 with | some d=>if d=x.1 then bX m x.2 else m | none=>m):=by
 have key:∀v d,aB m v=some d->¬(v=x.2/\d=x.1)->(d,v)∈h':=by
  intro v d hm hne;rcases List.mem_cons.1 (hp.mem_iff.2 (hw.1 v d hm)) with e | e
  ·grind
  omega
 refine⟨fun v d hm=>?_,fun y hy=>hw.2 y (by grind)⟩;grind [cD]
def ir(A:Nat->Bool)(S:List Nat)(zj:Nat)(m:vL)(es:List aD):vL:=
 es.foldl (fun m x=>if zj+x.x.toNat<9223372036854775808/\x.h.toNat ∉ S/\A x.h.toNat=false then nz m x.h.toNat (zj+x.x.toNat) else m) m
def k9(E:Nat->List aD)(A:Nat->Bool)(tgt most:Nat):Nat->vL->List Nat->Bool
 |0,_,_=>false
 |k+1,m,S=>match qZ m with
   |none=>false
   |some (v,d)=>if most<d then false else if v=tgt then true else k9 E A tgt most k (ir A (v::S) d (bX m v) (E v)) (v::S)
theorem IY(A:Nat->Bool)(S:List Nat)(zj:Nat)(es:List aD){m:vL}(hn:(m.map (·.1)).Nodup):((ir A S zj m es).map (·.1)).Nodup:=by
 unfold ir;induction es generalizing m with
 |nil=>exact hn
 |cons x es ih=>
   grind [LH]
def iT(E:Nat->List aD)(A:Nat->Bool)(v:UInt32)(a b:aD):Option aD:=
 let s:=a.x.toNat+b.x.toNat
 let A':Nat->Bool:=fun w=>w == v.toNat || A w
 if a.t.toNat=b.h.toNat\/A' a.t.toNat=true\/A' b.h.toNat=true\/¬s<9223372036854775808\/(∃x∈E a.t.toNat,x.h.toNat=b.h.toNat/\x.x.toNat<=s)\/k9 E A' b.h.toNat s 16 [(a.t.toNat,0)] []=true then none
 else some ⟨a.t,b.h,UInt64.ofNat s,v⟩
def nA(E:Nat->List aD)(A:Nat->Bool)(ins:List aD)(v:UInt32):List aD:=ins.flatMap fun a=>(E v.toNat).filterMap (iT E A v a)
end
section
open Go.RowKit Go.Maps
open Go.ChangeMaps (setBlock)
theorem cd:Keyed prog 26:=int_keyed Tryz.underlying26
abbrev je(k:Nat):Value:=.int .u32 (k:Int)
abbrev afq(k:Nat):Value:=.int .u64 (k:Int)
theorem dr:∀a b:Nat,je a=je b->a=b:=fun a b h=>by
 grind
theorem fU{k:Nat}(h:k<4294967296):Good prog 26 (je k):=by
 refine⟨.int .u32 (k:Int),?_⟩;unfold keyOf mapKey;rw[Tryz.underlying26];have:(Lit.int .u32 (k:Int)).wf=true:=by
  have h0:IntKind.u32.min=0:=rfl;have h1:IntKind.u32.max=4294967295:=rfl;grind [Lit.wf]
 grind
abbrev YE(w:World)(b:Nat)(m:vL):Prop:=bS prog 26 je afq w b m
structure dt(w:World)(fb hb mb:Nat)(v:Value)(h:List fC)(m:vL):Prop where
 hd:w.heap[fb]? = some (.cells #[ptrTo hb,.map (some mb)] 325)
 hp:dU w hb v h
 hh:iq h
 far:YE w mb m
 n1:fb≠hb
 n2:fb≠mb
 n3:hb≠mb
 n4:v.ownBlock≠some fb
 n5:v.ownBlock≠some mb
def fA(w:World)(fb:Nat)(B:Nat->Prop)(m:vL)(c:Nat):Prop:=
 ∃hb mb v h,dt w fb hb mb v h m/\sM h m/\h.length<=c/\B fb/\B hb/\B mb/\∀b,v.ownBlock=some b->B b
section
variable {w w' W:World} {fb hb mb c:Nat} {B:Nat->Prop} {v v':Value} {h h':List fC} {m m':vL}
theorem dt.lt(f:dt w fb hb mb v h m):fb<w.heap.size/\hb<w.heap.size/\mb<w.heap.size/\∀b,v.ownBlock=some b->b<w.heap.size:=
 ⟨(Array.getElem?_eq_some_iff.1 f.hd).1,f.hp.lt,f.far.lt,fun b hb=>(aL f.hp.row b hb).1⟩
theorem dt.kept(f:dt w fb hb mb v h m)(hk:∀b,b=fb\/b=hb\/b=mb\/v.ownBlock=some b->w'.heap[b]? = w.heap[b]?):dt w' fb hb mb v h m:=
 ⟨(hk fb (.inl rfl)).trans f.hd,f.hp.kept (fun b hb=>hk b (hb.elim (fun e=>.inr (.inl e)) (fun e=>.inr (.inr (.inr e))))),f.hh,f.far.kept (hk mb (.inr (.inr (.inl rfl)))),f.n1,f.n2,f.n3,f.n4,f.n5⟩
theorem dt.below(f:dt w fb hb mb v h m)(hbl:Below w.heap.size w w'):dt w' fb hb mb v h m:=by
 obtain⟨l1,l2,l3,l4⟩:=f.lt;grind [kept,Below.block]
theorem fA.kept(f:fA w fb B m c)(hk:∀b,B b->w'.heap[b]? = w.heap[b]?):fA w' fb B m c:=by
 obtain⟨hb,mb,v,h,f,hw,hc,b1,b2,b3,b4⟩:=f;refine⟨hb,mb,v,h,f.kept fun b hb=>hk b ?_,hw,hc,b1,b2,b3,b4⟩;rcases hb with rfl | rfl | rfl | e
 ·exact b1
 ·exact b2
 ·exact b3
 ·exact b4 b e
theorem dt.cells(f:dt w fb hb mb v h m):w.cell? ⟨fb,0,none⟩=some (ptrTo hb)/\w.cell? ⟨fb,1,none⟩=some (.map (some mb)):=
 ⟨by rw[ar f.hd];rfl,by rw[ar f.hd];rfl⟩
theorem dt.mapped(f:dt w fb hb mb v h m)(ob:Obj)(hm:YE (setBlock w mb ob) mb m'):dt (setBlock w mb ob) fb hb mb v h m'/\aG (·=mb) w (setBlock w mb ob):=by
 have ht:∀b,b≠mb->(setBlock w mb ob).heap[b]? = w.heap[b]? := fun b hb=>bg ob hb;refine⟨⟨(ht _ f.n2).trans f.hd,f.hp.kept (fun b hb=>ht b ?_),f.hh,hm,f.n1,f.n2,f.n3,f.n4,f.n5⟩,?_⟩
 ·grind [n3,n5]
 ·exact(aG.refl _ w).setBlock _ _ (.inl rfl)
theorem dt.turned(f:dt w fb hb mb v h m)(hp:dU w' hb v' h')(hh:iq h')(ht:aG (fun b=>b=hb\/v.ownBlock=some b) w w')(hn:∀b,v'.ownBlock=some b->v.ownBlock=some b\/w.heap.size<=b):dt w' fb hb mb v' h' m:=by
 obtain⟨l1,l2,l3,l4⟩:=f.lt;have hk:∀b,b<w.heap.size->b≠hb->v.ownBlock≠some b->w'.heap[b]? = w.heap[b]? := fun b h1 h2 h3=>ht.block b h1 (fun e=>e.elim h2 h3);refine⟨(hk fb l1 f.n1 f.n4).trans f.hd,hp,hh,f.far.kept (hk mb l3 f.n3.symm f.n5),f.n1,f.n2,f.n3,fun e=>?_,fun e=>?_⟩
 ·grind [n4]
 grind [n5]
def Bf(w:World)(fb:Nat)(B:Nat->Prop)(m:vL)(c:Nat)(e:Ending)(w':World):Prop:=
 e=.returned (.tuple #[])/\fA w' fb (fun b=>B b\/w.heap.size<=b/\b<w'.heap.size) m (c+1)/\aG B w w'
theorem IZ(w:World):(zeroValue 62).run prog w=.ok (.int .u64 0) w:=Tryz.zeroValue62 w
theorem I0(hF:fA w fb B m c)(hc:c<65536)(x d:Nat)(hx:x<4294967296):Calls prog 243 #[ptrTo fb,.int .u32 (x:Int),.int .u64 (d:Int)] w (Bf w fb B (nz m x d) c):=by
 have HF0:=ae hF;obtain⟨hb,mb,v,h,f,hw,hlc,b1,b2,b3,b4⟩:=hF;have F:=ae f;have HW:=ae hw;have HB:Hid (B fb/\B hb/\B mb/\∀b,v.ownBlock=some b->B b):=ae ⟨b1,b2,b3,b4⟩;obtain⟨c0,c1⟩:=f.cells;have HG:=ae (fU hx);have HZ:=ae IZ;clear f hw b1 b2 b3 b4;unfold ptrTo Bf at *;by_cases hold:∃old,aB m x=some old/\old<=d
 ·obtain⟨old,hm,hle⟩:=hold;have HM:=ae hm;have WM:(old:Int)<=(d:Int):=by omega
  have HC:Hid (nz m x d=m):=ae (by grind [nz]);clear hm hle;go_enter func243,ntmps243;go_wp2_with (at_lookup;refine bY _ rfl _ _ _ _ rfl 62 cd dr Tryz.underlying323 (HZ.out _) mb m rfl F.out.far x rfl HG.out ?_;unfold qh;rw[HM.out];simp only[Option.map_some,Option.getD_some,Option.isSome_some]);go_returns;exact⟨rfl,by rw[HC.out];obtain⟨hb,mb,v,h,f,hw,hlc,b1,b2,b3,b4⟩:=HF0.out;exact⟨hb,mb,v,h,f,hw,af,.inl b1,.inl b2,.inl b3,fun b e=>.inl (b4 b e)⟩,aG.refl _ _⟩
 ·have HC:Hid (nz m x d=aS m x d):=ae (by
   grind [nz])
  clear HF0;have HPU:Hid (∀W,dt W fb hb mb v h (aS m x d)->Calls prog 283 #[ptrTo hb,j8 (d,x)] W (Bd W hb v h (d,x))):=ae (fun W f=>Tf f.hp f.hh (d,x) af);unfold j8 ptrTo at *;dsimp only at HPU;cases hm:aB m x;case' none=>
   have HM:=ae hm;clear hm hold;go_enter func243,ntmps243;go_wp2_with (first | (at_lookup;refine bY _ rfl _ _ _ _ rfl 62 cd dr Tryz.underlying323 (HZ.out _) mb m rfl F.out.far x rfl HG.out ?_;unfold qh;rw[HM.out];simp only[Option.map_none,Option.getD_none,Option.isSome_none]) | (at_mapUpdate;refine eL _ rfl _ _ _ _ rfl 62 cd dr Tryz.underlying323 mb m rfl F.out.far x d rfl rfl HG.out ?_;intro es clock cT));clear HM
  case' some old=>
   have HM:=ae hm;have WM:¬(old:Int)<=(d:Int):=fun hle=>hold ⟨old,hm,af⟩;clear hm hold;go_enter func243,ntmps243;go_wp2_with (first | (at_lookup;refine bY _ rfl _ _ _ _ rfl 62 cd dr Tryz.underlying323 (HZ.out _) mb m rfl F.out.far x rfl HG.out ?_;unfold qh;rw[HM.out];simp only[Option.map_some,Option.getD_some,Option.isSome_some]) | (at_mapUpdate;refine eL _ rfl _ _ _ _ rfl 62 cd dr Tryz.underlying323 mb m rfl F.out.far x d rfl rfl HG.out ?_;intro es clock cT));clear HM WM
  all_goals
   obtain⟨f2,oJ⟩:=F.out.mapped _ cT;have F2:=ae f2;have mP:Hid (aG B w (setBlock w mb (.map es clock))):=ae (oJ.mono (fun b _ e=>e▸HB.out.2.2.1));have hs2:(setBlock w mb (.map es clock)).heap.size=w.heap.size:=by grind [setBlock]
   clear cT f2 oJ c0 c1 F hs2;generalize setBlock w mb (.map es clock)=W2 at *;have F3:Hid (dt (W2.alloc (.cells #[.int .u64 (d:Int),.int .u32 (x:Int)] 357)) fb hb mb v h (aS m x d)):=ae (F2.out.below aj);have iD:Hid ((W2.alloc (.cells #[.int .u64 (d:Int),.int .u32 (x:Int)] 357)).cell? ⟨W2.heap.size,0,none⟩=some (.int .u64 (d:Int))/\(W2.alloc (.cells #[.int .u64 (d:Int),.int .u32 (x:Int)] 357)).cell? ⟨W2.heap.size,1,none⟩=some (.int .u32 (x:Int))):=ae ai;have rB:Hid (aG B w (W2.alloc (.cells #[.int .u64 (d:Int),.int .u32 (x:Int)] 357))):=ae (mP.out.alloc _);clear mP F2;go_wp2_with fail;generalize W2.alloc (.cells #[.int .u64 (d:Int),.int .u32 (x:Int)] 357)=W3 at *;refine cr (Below W3.heap.size W3) 5 (by rfl) ah (ak.drew) ?_;simp only[List.take_succ_cons,List.take_zero,List.drop_succ_cons,List.drop_zero];iterate 3 (refine qz ?_)
   refine qz ?_ (fun w' hw'=>by have c0:=(F3.out.below hw').cells.1;unfold ptrTo at c0;go_simp<;>rfl);refine qz ?_ (fun w' hw'=>by have c0:=Bc hw' iD.out.1;have c1:=Bc hw' iD.out.2;go_simp<;>rfl);refine wpQuiet_nil ?_;intro w4 hw4;have F4:=ae (F3.out.below hw4);have vI:=ae (rB.out.bN hw4);have hpu:=ae (HPU.out _ F4.out);clear hw4 F3 rB iD;go_wp2_with fail;refine hpu.out.mono ?_;rintro e w5⟨v5,h5,rfl,Gb,UK,afr,rU,J4⟩;have HQ:Hid (fA w5 fb (fun b=>B b\/w.heap.size<=b/\b<w5.heap.size) (aS m x d) (c+1)/\aG B w w5):=ae (by
    obtain⟨b1,b2,b3,b4⟩:=HB.out;refine⟨⟨hb,mb,v5,h5,F4.out.turned Gb UK rU J4,Pq HW.out hx afr,?_,.inl b1,.inl b2,.inl b3,fun b e=>?_⟩,vI.out.trans rU (fun b _ e=>?_)⟩
    ·grind [List.Perm.length_eq,List.length_append]
    ·exact(J4 b e).imp (b4 b) (fun e'=>⟨Nat.le_trans vI.out.size e',(aL Gb.row b e).1⟩)
    grind)
   clear Gb UK afr rU J4 hpu F4 vI;go_wp2;go_returns;grind [Hid.out]
def xF(w:World)(fb:Nat)(B:Nat->Prop)(m:vL)(c:Nat)(e:Ending)(w':World):Prop:=
 (qZ m=none/\e=.returned (.tuple #[.int .u32 0,.int .u64 0,.bool false])/\aG B w w') \/
 ∃x d,qZ m=some (x,d)/\e=.returned (.tuple #[.int .u32 (x:Int),.int .u64 (d:Int),.bool true])/\fA w' fb B (bX m x) c/\aG B w w'
def LI:Option Value->Nat
 |some (.slice _ n _)=>n
 |_=>0
def Tl:Value->Nat
 | .bool true=>1
 |_=>0
theorem dU.LI(hp:dU w hb v h):LI (w.cell? ⟨hb,0,none⟩)=h.length:=by
 obtain⟨a,k,rfl⟩:=aA hp.row;rw[hp.cells.1];rfl
theorem Tm(hk:(m.map (·.1)).Nodup)(hw:sM [] m):m=[]:=by
 cases m with
 |nil=>rfl
 |cons p m=>exact absurd (hw.1 p.1 p.2 (iV hk ai)) ai
structure tC(w:World)(fb hb mb:Nat)(v0:Value)(B:Nat->Prop)(m:vL)(c xb:Nat)(ok:Bool)(x:fC)(v:Value)(h:List fC)(W:World):Prop where
 cs:W.heap[xb]? = some (.cells #[.int .u64 (x.1:Int),.int .u32 (x.2:Int)] 357)
 ge:w.heap.size<=xb
 fr:dt W fb hb mb v h m
 ow:v.ownBlock=v0.ownBlock
 tn:aG B w W
 ln:h.length<=c
 yes:ok=true->sM (x::h) m/\∀y∈h,¬iF y x
 no:ok=false->h=[]/\m=[]
section
variable {v0:Value} {xb:Nat} {ok:Bool} {x:fC}
theorem tC.of(hk:(m.map (·.1)).Nodup)(f:dt W fb hb mb v h m)(hw:sM h m)(ho:v.ownBlock=v0.ownBlock)(ht:aG B w W)(hl:h.length<=c)(hB:B hb/\∀b,v0.ownBlock=some b->B b){ok:Bool}{x:fC}{v':Value}{l':List fC}{w1 w2:World}(p1:dU w1 hb v' l')(p2:iq l')(p3:aG (fun b=>b=hb\/v.ownBlock=some b) W w1)(p4:v'.ownBlock=v.ownBlock)(p5:l'.length<=h.length)(p6:if ok=true then (x::l').Perm h/\∀y∈l',¬iF y x else h=[]/\l'=[])(hc:w2.heap[xb]? = some (.cells #[.int .u64 (x.1:Int),.int .u32 (x.2:Int)] 357))(yR:w.heap.size<=xb)(hx:∀b,b=fb\/b=hb\/b=mb\/v0.ownBlock=some b->b≠xb)(oJ:aG (·=xb) w1 w2):tC w fb hb mb v0 B m c xb ok x v' l' w2:=by
 have f1:=f.turned p1 p2 p3 (fun b e=>.inl (p4▸e));obtain⟨l1,l2,l3,l4⟩:=f1.lt;refine⟨hc,yR,f1.kept (fun b hb'=>oJ.block b ?_ (hx b ?_)),p4.trans ho,(ht.trans p3 (fun b _ e=>?_)).trans oJ (fun b hb e=>?_),Nat.le_trans p5 hl,fun e=>?_,fun e=>?_⟩
 ·grind
 ·grind
 ·grind
 ·omega
 ·rw[if_pos e]at p6;exact⟨⟨fun v d hm=>p6.1.mem_iff.2 (hw.1 v d hm),fun y hy=>hw.2 y (p6.1.mem_iff.1 hy)⟩,p6.2⟩
 grind [Tm]
theorem Pr(hF:fA w fb B m c)(hc:c<=65536):Calls prog 244 #[ptrTo fb] w (xF w fb B m c):=by
 obtain⟨hb,mb,v0,h0,f,hw,hlc,b1,b2,b3,b4⟩:=hF;have HK:Hid ((m.map (·.1)).Nodup):=ae f.far.keys;have HB:Hid (B fb/\B hb/\B mb/\∀b,v0.ownBlock=some b->B b):=ae ⟨b1,b2,b3,b4⟩;have HLT:=ae f.lt;have afs:Hid (∀W v h,dt W fb hb mb v h m->h.length<=c->Calls prog 285 #[ptrTo hb] W (aa1 W hb v h)):=ae (fun W v h f hl=>Tj f.hp f.hh af);have F:=ae f;have Tn:=ae (afs.out _ _ _ f hlc);obtain⟨c0,c1⟩:=f.cells;have HZ:=ae IZ;have HAP:Hid (∀xb,w.heap.size<=xb->∀b,b=fb\/b=hb\/b=mb\/v0.ownBlock=some b->b≠xb):=ae (fun xb Gl b hb'=>by
  grind [Hid.out])
 have HOF:Hid (∀{W:World}{v:Value}{h:List fC}{xb:Nat}{ok:Bool}{x:fC}{v':Value}{l':List fC}{w1 w2:World},dt W fb hb mb v h m->sM h m->v.ownBlock=v0.ownBlock->aG B w W->h.length<=c->dU w1 hb v' l'->iq l'->aG (fun b=>b=hb\/v.ownBlock=some b) W w1->v'.ownBlock=v.ownBlock->l'.length<=h.length->(if ok=true then (x::l').Perm h/\∀y∈l',¬iF y x else h=[]/\l'=[])->w2.heap[xb]? = some (.cells #[.int .u64 (x.1:Int),.int .u32 (x.2:Int)] 357)->w.heap.size<=xb->aG (·=xb) w1 w2->tC w fb hb mb v0 B m c xb ok x v' l' w2):=
  ae (fun f hw ho ht hl p1 p2 p3 p4 p5 p6 hc yR oJ=>tC.of HK.out f hw ho ht hl ⟨HB.out.2.1,HB.out.2.2.2⟩ p1 p2 p3 p4 p5 p6 hc yR (HAP.out _ yR) oJ)
 have HW:=ae hw;clear f hw b1 b2 b3 b4;unfold j8 ptrTo xF aa1 at *;go_enter func244,ntmps244;go_wp2_with fail;refine Tn.out.mono ?_;rintro e w1⟨ok,x,v1,h1,rfl,p1,p2,p3,p4,p5,p6⟩;have Ku:Hid (tC w fb hb mb v0 B m c w1.heap.size ok x v1 h1 (w1.alloc (.cells #[.int .u64 (x.1:Int),.int .u32 (x.2:Int)] 357))):=ae (HOF.out F.out HW.out rfl (aG.refl _ _) hlc p1 p2 p3 p4 p5 p6 (heap_alloc_new _ _) p3.size ((aG.refl _ _).alloc _));clear p1 p2 p3 p4 p5 p6 Tn F HW c0 c1 hlc;go_wp2_with fail;generalize Gl:w1.heap.size=xb1 at *;clear Gl;generalize w1.alloc (.cells #[.int .u64 (x.1:Int),.int .u32 (x.2:Int)] 357)=W1 at *;go_loopw [5,6] (fun v5 v6 wr=>∃xb ok x v h,v5=.pointer (some ⟨xb,0,none⟩)/\v6=.bool ok/\Hid (tC w fb hb mb v0 B m c xb ok x v h wr)) (fun _ v6 wr=>LI (wr.cell? ⟨hb,0,none⟩)+Tl v6)
 case atStart=>grind
 case round=>
  obtain⟨xb,ok,x,v,h,rfl,rfl,HP⟩:=hrel;clear Ku;generalize wr=Wr at *;cases ok with
  |false=>
    obtain⟨rfl,hm0⟩:=HP.out.no rfl;go_wp2;go_returns;exact .inl ⟨by rw[hm0];rfl,rfl,HP.out.tn⟩
  |true=>
    obtain⟨hw,uR⟩:=HP.out.yes rfl;have HW:=ae hw;have OU:=ae uR;have HG:=ae (fU (hw.2 x ai));have HLH:=ae HP.out.fr.hp.LI;clear hw uR;obtain⟨D,b,HD,HL⟩:∃(D:Nat)(b:Bool),Hid (aB m x.2=if b=true then some D else none)/\Hid (∀w',Below Wr.heap.size Wr w'->Sem.run prog (Instr.lookup 323 (.map (some mb)) (.int .u32 (x.2:Int)) true) w'=.ok (.tuple #[.int .u64 (D:Int),.bool b]) w'):=by
     have hl:=fun w' hw'=>(HP.out.fr.below (w':=w') hw').far.lookup cd dr Tryz.underlying323 (HZ.out w') x.2 HG.out true;cases e:aB m x.2 with
     |none=>exact⟨0,false,ae ai,ae (fun w' hw'=>by grind [qh])⟩
     |some D=>exact⟨D,true,ae ai,ae (fun w' hw'=>by grind [qh])⟩
    have HR:Hid (∀w',Below Wr.heap.size Wr w'->w'.cell? ⟨fb,0,none⟩=some (.pointer (some ⟨hb,0,none⟩))/\w'.cell? ⟨fb,1,none⟩=some (.map (some mb))/\w'.cell? ⟨xb,0,none⟩=some (.int .u64 (x.1:Int))/\w'.cell? ⟨xb,1,none⟩=some (.int .u32 (x.2:Int))):=ae (fun w' hw'=>by
     have f:=HP.out.fr.below hw';have hcs:w'.heap[xb]? = some (.cells #[.int .u64 (x.1:Int),.int .u32 (x.2:Int)] 357):=(hw'.block _ (Array.getElem?_eq_some_iff.1 HP.out.cs).1).trans HP.out.cs;exact⟨f.cells.1,f.cells.2,by rw[ar hcs];rfl,by rw[ar hcs];rfl⟩)
    have WN:Hid (xb≠mb):=ae (by have:=HP.out.ge;grind [Hid.out]);by_cases aa3:b=true/\D=x.1
    ·obtain⟨rfl,rfl⟩:=aa3;go_wp2_with fail;refine wq Wr ?_;iterate 3 (refine qz ?_)
     refine qz ?_ (fun w' hw'=>by obtain⟨c0,c1,c2,c3⟩:=HR.out w' hw';go_simp<;>rfl);refine qz ?_;refine qz ?_ (fun w' hw'=>by obtain⟨c0,c1,c2,c3⟩:=HR.out w' hw';go_simp<;>rfl);refine qz ?_ (fun w' hw'=>by have c4:=HL.out w' hw';go_simp<;>rfl);iterate 5 (refine qz ?_)
     refine wpQuiet_nil ?_;intro w3 hw3;have jJ:=ae hw3;obtain⟨c0,c1,c2,c3⟩:=HR.out w3 hw3;clear hw3;go_wp2_with fail;clear c0 c1 c2 c3;refine cr (Below w3.heap.size w3) 6 (by rfl) ah (ak.drew) ?_;simp only[List.take_succ_cons,List.take_zero,List.drop_succ_cons,List.drop_zero];iterate 3 (refine qz ?_)
     refine qz ?_ (fun w' hw'=>by obtain⟨c0,c1,c2,c3⟩:=HR.out w' (jJ.out.trans (hw'.mono jJ.out.size));go_simp<;>rfl);refine qz ?_;refine qz ?_ (fun w' hw'=>by obtain⟨c0,c1,c2,c3⟩:=HR.out w' (jJ.out.trans (hw'.mono jJ.out.size));go_simp<;>rfl);refine wpQuiet_nil ?_;intro w4 hw4;have oB:=ae (jJ.out.trans (hw4.mono jJ.out.size));clear hw4;have F4:=ae (HP.out.fr.below oB.out);go_wp2_with (at_delete;refine sR _ rfl _ _ _ rfl 62 cd dr Tryz.underlying323 mb m rfl F4.out.far x.2 rfl HG.out ?_;intro es clock kP;obtain⟨f5,rU⟩:=F4.out.mapped _ kP;have F5:=ae f5;have Ey:=ae ((HP.out.tn.bN oB.out).trans rU (fun b _ e=>e▸HB.out.2.2.1));have c3:(setBlock w4 mb (.map es clock)).cell? ⟨xb,1,none⟩=some (.int .u32 (x.2:Int)):=(by rw[World.cell?_of_block (a:=⟨xb,1,none⟩) (bg (w:=w4) (b:=mb) (.map es clock) WN.out)];exact(HR.out w4 oB.out).2.2.2);clear f5 rU kP);generalize setBlock w4 mb (.map es clock)=W5 at *;have HQ:Hid (qZ m=some (x.2,x.1)/\fA W5 fb B (bX m x.2) c/\aG B w W5):=ae (by
      have hm:aB m x.2=some x.1:=by assumption
      refine⟨Tk HK.out hm (fun v' d' YF=>?_),⟨hb,mb,v,h,F5.out,?_,HP.out.ln,HB.out.1,HB.out.2.1,HB.out.2.2.1,fun b e=>HB.out.2.2.2 b (HP.out.ow▸e)⟩,Ey.out⟩
      ·rcases List.mem_cons.1 (HW.out.1 _ _ YF) with e | e
       ·rw[e];exact iF.mA _
       ·exact OU.out _ e
      ·have:=D4 HW.out (List.Perm.refl (x::h));rw[hm]at this;simpa using this)
     clear F5 Ey F4 oB jJ;go_returns;exact .inr ⟨_,_,HQ.out.1,rfl,HQ.out.2.1,HQ.out.2.2⟩
    ·have HWM:Hid (sM h m):=ae (by
      have:=D4 HW.out (List.Perm.refl (x::h));grind [Hid.out])
     cases b;case' false=>skip
     case' true=>
      have hDz:¬(D:Int)=(x.1:Int):=fun e=>aa3 ⟨rfl,af⟩
     all_goals
      clear aa3;go_wp2_with fail;refine wq Wr ?_;iterate 3 (refine qz ?_)
      refine qz ?_ (fun w' hw'=>by obtain⟨c0,c1,c2,c3⟩:=HR.out w' hw';go_simp<;>rfl);refine qz ?_;refine qz ?_ (fun w' hw'=>by obtain⟨c0,c1,c2,c3⟩:=HR.out w' hw';go_simp<;>rfl);refine qz ?_ (fun w' hw'=>by have c4:=HL.out w' hw';go_simp<;>rfl);iterate 5 (refine qz ?_)
      refine wpQuiet_nil ?_;intro w3 hw3;have F3:Hid (dt (w3.alloc (.cells #[.int .u64 (x.1:Int),.int .u32 (x.2:Int)] 357)) fb hb mb v h m):=ae (HP.out.fr.below (hw3.alloc hw3.size _));have rB:Hid (aG B w (w3.alloc (.cells #[.int .u64 (x.1:Int),.int .u32 (x.2:Int)] 357))):=ae ((HP.out.tn.bN hw3).alloc _);have JW:Hid ((w3.alloc (.cells #[.int .u64 (x.1:Int),.int .u32 (x.2:Int)] 357)).heap[w3.heap.size]? = some (.cells #[.int .u64 (x.1:Int),.int .u32 (x.2:Int)] 357)):=ae (heap_alloc_new _ _);have Iz:Hid (w.heap.size<=w3.heap.size):=ae (Nat.le_trans HP.out.tn.size hw3.size);obtain⟨c0,c1,c2,c3⟩:=HR.out w3 hw3;have Tn:=ae (afs.out _ _ _ F3.out HP.out.ln);have akO:=(Array.getElem?_eq_some_iff.1 (HP.out.fr.below hw3).hd).1;clear hw3;go_wp2_with fail;clear c0 c1 c2 c3 akO;generalize hxs:w3.heap.size=J6 at *;generalize w3.alloc (.cells #[.int .u64 (x.1:Int),.int .u32 (x.2:Int)] 357)=W4 at *;clear hxs;refine Tn.out.mono ?_;rintro e w5⟨ok,y,v5,h5,rfl,p1,p2,p3,p4,p5,p6⟩;have hx5:w5.heap[J6]? = some (.cells #[.int .u64 (x.1:Int),.int .u32 (x.2:Int)] 357):=(p3.block J6 (Array.getElem?_eq_some_iff.1 JW.out).1 (fun e=>by
       rcases e with e | e
       ·exact HAP.out J6 Iz.out hb (.inr (.inl rfl)) e.symm
       ·exact HAP.out J6 Iz.out J6 (.inr (.inr (.inr (HP.out.ow▸e)))) rfl)).trans JW.out
      have s1:=aT hx5 0 (.int .u64 (y.1:Int));have s2:=aT s1 1 (.int .u32 (y.2:Int));have HP7:Hid (tC w fb hb mb v0 B m c J6 ok y v5 h5 ((w5.setCell ⟨J6,0,none⟩ (.int .u64 (y.1:Int))).setCell ⟨J6,1,none⟩ (.int .u32 (y.2:Int)))):=ae (HOF.out F3.out HWM.out HP.out.ow rB.out HP.out.ln p1 p2 p3 p4 p5 p6 s2 Iz.out (((aG.refl (·=J6) w5).setCell ⟨J6,0,none⟩ _ (.inl rfl)).setCell ⟨J6,1,none⟩ _ (.inl rfl)));have Ym:Hid (LI (((w5.setCell ⟨J6,0,none⟩ (.int .u64 (y.1:Int))).setCell ⟨J6,1,none⟩ (.int .u32 (y.2:Int))).cell? ⟨hb,0,none⟩)+Tl (.bool ok)<LI (Wr.cell? ⟨hb,0,none⟩)+Tl (.bool true)):=ae (by
       rw[HP7.out.fr.hp.LI,HLH.out];cases ok with
       |true=>
         have:=(p6.1).length_eq;simp at this;omega
       |false=>
         have:=p6.2;subst this;show 0+0<h.length+1;omega)
      have q0:w5.cell? ⟨J6,0,none⟩=some (.int .u64 (x.1:Int)):=by rw[ar hx5];rfl
      have q1:w5.cell? ⟨J6,1,none⟩=some (.int .u32 (x.2:Int)):=by rw[ar hx5];rfl
      have q2:∀k,w5.frozen? ⟨J6,k,none⟩=false:=fun k=>aO hx5 k;clear p1 p2 p3 p4 p5 p6 hx5 s1 s2 Tn F3 rB JW HLH;go_wp2;grind [Hid.out]
end
end
end
section
open Go.RowKit
theorem Ps(x y:Nat)(w:World):(callFunc 241 #[.int .u64 (x:Int),.int .u64 (y:Int),.int .u64 0]).run prog w=.ok (.value (.tuple #[.int .u64 (((x+y)%18446744073709551616:Nat):Int),.int .u64 (((x+y)/18446744073709551616:Nat):Int)])) w:=by
 rw[run_callFunc_extern func241 ah ah ah (e:=add64Entry) ah,run_add64 x y 0 af af af af];simp only[Result.andThen];congr 5<;>omega
def LJ(x y:Nat):Value:=if x+y<9223372036854775808 then .tuple #[.int .u64 ((x+y:Nat):Int),.bool true] else .tuple #[.int .u64 0,.bool false]
theorem I1(x y:Nat)(hx:x<18446744073709551616)(hy:y<18446744073709551616)(w:World):Calls prog 201 #[.int .u64 (x:Int),.int .u64 (y:Int)] w fun e w'=>e=.returned (LJ x y)/\w'=w:=by
 have hr:=Ps x y;by_cases h:x+y<9223372036854775808
 ·rw[Nat.mod_eq_of_lt af,Nat.div_eq_of_lt af]at hr;have HV:Hid (LJ x y=.tuple #[.int .u64 ((x+y:Nat):Int),.bool true]):=ae (if_pos h);obtain⟨s,hs⟩:∃s,s=x+y:=⟨_,rfl⟩;rw[<- hs]at h hr HV;have h1:¬(s:Int) >= 9223372036854775808:=by omega
  have h2:decide ((s:Int) >= 9223372036854775808)=false:=decide_eq_false h1;clear hs hx hy;go_enter func201,ntmps201;go_wp2_with (simp only[hr]);go_returns;exact⟨by rw[HV.out];rfl,rfl⟩
 ·have HV:Hid (LJ x y=.tuple #[.int .u64 0,.bool false]):=ae (if_neg h);by_cases h3:x+y<18446744073709551616
  ·rw[Nat.mod_eq_of_lt h3,Nat.div_eq_of_lt h3]at hr;obtain⟨s,hs⟩:∃s,s=x+y:=⟨_,rfl⟩;rw[<- hs]at h hr;have h1:(s:Int) >= 9223372036854775808:=by omega
   have h2:decide ((s:Int) >= 9223372036854775808)=true:=decide_eq_true h1;clear hs hx hy h3;go_enter func201,ntmps201;go_wp2_with (simp only[hr]);go_returns;exact⟨by rw[HV.out];rfl,rfl⟩
  ·rw[show(x+y)/18446744073709551616=1 by omega]at hr;generalize (x+y)%18446744073709551616=s at *;clear h3 h hx hy;go_enter func201,ntmps201;go_wp2_with (simp only[hr]);go_returns;exact⟨by rw[HV.out];rfl,rfl⟩
def nB(lo x hi:Int):Int:=min (max lo x) hi
theorem Tp(lo x hi:Int)(h:lo<=hi):lo<=nB lo x hi:=by unfold nB;omega
theorem Tq(lo x hi:Int):nB lo x hi<=hi:=by unfold nB;omega
theorem I2(lo x hi:Int)(w:World) :
 Calls prog 147 #[.int .i64 lo,.int .i64 x,.int .i64 hi] w fun e w'=>e=.returned (.int .i64 (nB lo x hi))/\w'=w:=by
 unfold nB;go_enter func147,ntmps147;go_wp2;all_goals
  go_ret;exact⟨MI af,rfl⟩
def Tr(i o s l g:Int):Int:=max 0 (1048576+2*nB 0 s 1073741824+g+l-nB 0 i 1073741824-nB 0 o 1073741824)
theorem I3(b:Nat)(x0 x1 x2 x3 x4 x5:Int)(w:World)(h0:w.cell? ⟨b,0,none⟩=some (.int .i64 x0))(h1:w.cell? ⟨b,1,none⟩=some (.int .i64 x1))(h2:w.cell? ⟨b,2,none⟩=some (.int .i64 x2))(h3:w.cell? ⟨b,3,none⟩=some (.int .i64 x3))(h4:w.cell? ⟨b,4,none⟩=some (.int .i64 x4))(h5:w.cell? ⟨b,5,none⟩=some (.int .i64 x5))(b0:0<=x0/\x0<=4294967296)(b1:0<=x1/\x1<=4294967296)(b2:0<=x2/\x2<=4294967296)(b3:0<=x3/\x3<=4294967296)(b4:-4294967296<=x4/\x4<=4294967296)(b5:-4294967296<=x5/\x5<=4294967296) :
  Calls prog 146 #[.slice (some ⟨b,0,none⟩) 6 6] w fun e w'=>e=.returned (.int .i64 (x0+x1+x2+x3+x4+x5))/\w'=w:=by
 obtain⟨b0,b0'⟩:=b0;obtain⟨b1,b1'⟩:=b1;obtain⟨b2,b2'⟩:=b2;obtain⟨b3,b3'⟩:=b3;obtain⟨b4,b4'⟩:=b4;obtain⟨b5,b5'⟩:=b5;go_enter func146,ntmps146;go_wp2;refine wp_loop_rounds 7 ?_;iterate 7 (rw[rounds_succ];go_wp2)
 go_ret;exact⟨rfl,rfl⟩
theorem Bg(x:Int):0<=nB 0 x 1073741824/\nB 0 x 1073741824<=1073741824:=⟨Tp _ _ _ ag,Tq _ _ _⟩
theorem I4(i o s r l g:Int)(w:World)(hl:0<=l)(hl':l<=4294967295)(hg:0<=g)(MT:g<=4294967295) :
 Calls prog 99 #[.int .i64 i,.int .i64 o,.int .i64 s,.agg #[.int .u32 r,.int .u32 l,.int .u32 g]] w
  fun e w'=>e=.returned (.int .u64 (Tr i o s l g))/\Below w.heap.size w w':=by
 obtain⟨i0,i1⟩:=Bg i;obtain⟨o0,o1⟩:=Bg o;obtain⟨s0,s1⟩:=Bg s;go_enter func99,ntmps99;go_wp2;refine cr (fun w'=>∃n,w'=(w.alloc (.cells #[.int .u32 r,.int .u32 l,.int .u32 g] 55)).drewN n) 15 ah ah ⟨1,rfl⟩ ?_;simp only[List.take_succ_cons,List.take_zero,List.drop_succ_cons,List.drop_zero];repeat go_big_quiet_step ((go_at_call 147;exact Calls.quiet_of_same (I2 _ _ _ _)))
 refine wpQuiet_nil ?_;rintro _⟨nq,rfl⟩;go_wp2_with fail;refine(I3 _ 1048576 (2*nB 0 s 1073741824) g l (-nB 0 i 1073741824) (-nB 0 o 1073741824) _ (by go_simp) (by go_simp) (by go_simp) (by go_simp) (by go_simp) (by go_simp) ⟨af,af⟩ ⟨af,af⟩ ⟨af,af⟩ ⟨af,af⟩ ⟨af,af⟩ ⟨af,af⟩).mono ?_;rintro e w'⟨rfl,rfl⟩;go_wp2;all_goals
  go_ret;refine⟨?_,?_⟩
  ·exact MI (by unfold Tr;omega)
  ·exact(below_drewN aj _).alloc (by simp[World.drewN]) _
end
section
open Go.RowKit Go.Maps
theorem Ts(w:World):kC w (.slice none 0 0) []:=⟨none,0,rfl,.inl rfl⟩
end
section
open Go.RowKit Go.Maps Go.MapKept
section
variable {w w':World} {pb db n sb gb gen N ob ib vb v:Nat} {name:Name} {o o':au} {d d':Dsk} {L L':aH}
theorem CX(E:Nat->Dsk->Prop)(h:aR w pb db n o d L)(hg:dH w o gb pb gen N ob ib vb){i:Int}{x:aD}(IE:∀W,Below w.heap.size w W->Calls prog 57 #[ptrTo ob,.int .i64 i] W (IC E n pb db W o d L x.bytes)) :
 Calls prog 28 #[ptrTo gb,.int .i64 i] w (pS E n pb db w o d L x):=by
 have BP:Hid (∀W,Below w.heap.size w W->Calls prog 60 #[ptrTo ob,.int .i64 i] W (pS E n pb db W o d L x)):=ae (fun W hW=>sK E (h.below hW) (fun W' hW'=>IE W' (hW.trans (hW'.mono hW.size))));obtain⟨g0,-,-,-,-⟩:=hg.raw.cells;have hgl:=hg.raw.lt;have H:=ae h;clear h hg IE;unfold ptrTo at *;have kR:Hid (Below w.heap.size w (w.alloc (.cells #[.int .u32 0,.int .u32 0,.int .u64 0,.int .u32 0] 64))):=ae aj;have mM:Hid ((w.alloc (.cells #[.int .u32 0,.int .u32 0,.int .u64 0,.int .u32 0] 64)).heap[w.heap.size]? = some (.cells #[.int .u32 0,.int .u32 0,.int .u64 0,.int .u32 0] 64)):=ae (heap_alloc_new w _);have J3:Hid (o w.heap.size=none):=ae (H.out.fresh (Nat.le_refl _));go_enter func28,ntmps28;go_wp2_with fail;generalize w.alloc (.cells #[.int .u32 0,.int .u32 0,.int .u64 0,.int .u32 0] 64)=W0 at *;refine(BP.out W0 kR.out).mono ?_;rintro e w1⟨c1,d1,o1,y,rfl,ej,tM,S6,hz1⟩;have hbl:w.heap.size<W0.heap.size:=(Array.getElem?_eq_some_iff.1 mM.out).1;have e9:=ae ((Moved.aV H.out kR.out).trans ej (fun _ _ h=>h));have kQ:=ae (ej.heap mM.out J3.out (fun h=>h));have Dx:=ae tM;have Yw:=ae S6;have Yg:=ae hz1;have oT:Hid (o1 w.heap.size=none):=ae (ej.free hbl J3.out);clear ej tM S6 hz1;have zH:Hid (∀(w2:World)(a b c e:Value),w2.heap[w.heap.size]? = some (.cells #[.int .u32 0,.int .u32 0,.int .u64 0,.int .u32 0] 64)->((((w2.setCell ⟨w.heap.size,0,none⟩ a).setCell ⟨w.heap.size,1,none⟩ b).setCell ⟨w.heap.size,2,none⟩ c).setCell ⟨w.heap.size,3,none⟩ e).heap[w.heap.size]? = some (.cells #[a,b,c,e] 64)):=ae (fun w2 a b c e h0=>by
  rw[aT (aT (aT (aT h0 0 a) 1 b) 2 c) 3 e];rfl)
 have k0:w1.cell? ⟨w.heap.size,0,none⟩=some (.int .u32 0):=by rw[ar kQ.out];rfl
 have Wv:w1.cell? ⟨w.heap.size,1,none⟩=some (.int .u32 0):=by rw[ar kQ.out];rfl
 have Ww:w1.cell? ⟨w.heap.size,2,none⟩=some (.int .u64 0):=by rw[ar kQ.out];rfl
 have k3':w1.cell? ⟨w.heap.size,3,none⟩=some (.int .u32 0):=by rw[ar kQ.out];rfl
 have z0:=aO kQ.out 0;have z1:=aO kQ.out 1;have z2:=aO kQ.out 2;have z3:=aO kQ.out 3;have akv:w.heap.size<w1.heap.size:=(Array.getElem?_eq_some_iff.1 kQ.out).1;have iD:=ae (zH.out w1 (.int .u32 (y.t.toNat:Int)) (.int .u32 (y.h.toNat:Int)) (.int .u64 (y.x.toNat:Int)) (.int .u32 (y.m.toNat:Int)) kQ.out);have eH:Hid (Moved (fun _=>False) n pb db w o d ((((w1.setCell ⟨w.heap.size,0,none⟩ (.int .u32 (y.t.toNat:Int))).setCell ⟨w.heap.size,1,none⟩ (.int .u32 (y.h.toNat:Int))).setCell ⟨w.heap.size,2,none⟩ (.int .u64 (y.x.toNat:Int))).setCell ⟨w.heap.size,3,none⟩ (.int .u32 (y.m.toNat:Int))) o1 d1 L):=ae ((((e9.out.setCell _ _ oT.out (.inr (Nat.le_refl _))).setCell _ _ oT.out (.inr (Nat.le_refl _))).setCell _ _ oT.out (.inr (Nat.le_refl _))).setCell _ _ oT.out (.inr (Nat.le_refl _)));go_wp2;generalize ((((w1.setCell ⟨w.heap.size,0,none⟩ (.int .u32 (y.t.toNat:Int))).setCell ⟨w.heap.size,1,none⟩ (.int .u32 (y.h.toNat:Int))).setCell ⟨w.heap.size,2,none⟩ (.int .u64 (y.x.toNat:Int))).setCell ⟨w.heap.size,3,none⟩ (.int .u32 (y.m.toNat:Int)))=w3 at *;have q0:w3.cell? ⟨w.heap.size,0,none⟩=some (.int .u32 (y.t.toNat:Int)):=by rw[ar iD.out];rfl
 have q1:w3.cell? ⟨w.heap.size,1,none⟩=some (.int .u32 (y.h.toNat:Int)):=by rw[ar iD.out];rfl
 have q2:w3.cell? ⟨w.heap.size,2,none⟩=some (.int .u64 (y.x.toNat:Int)):=by rw[ar iD.out];rfl
 have q3:w3.cell? ⟨w.heap.size,3,none⟩=some (.int .u32 (y.m.toNat:Int)):=by rw[ar iD.out];rfl
 clear k0 Wv Ww k3' z0 z1 z2 z3;exact bodyPost_ret (v:=.tuple #[.agg #[.int .u32 (y.t.toNat:Int),.int .u32 (y.h.toNat:Int),.int .u64 (y.x.toNat:Int),.int .u32 (y.m.toNat:Int)],.int .i64 (c1:Int)]) (by simp[results,Tryz.results28,go_sem,q0,q1,q2,q3]) rfl ⟨c1,d1,o1,y,rfl,eH.out,Dx.out,Yw.out,Yg.out⟩
theorem Fx(HW:aP)(h:aR w pb db n o d L)(hg:dH w o gb pb gen N ob ib vb){es:List aD}{fl:Bool}(hL:aB L (aK 101 gen)=some (ax es fl)){i:Nat}{x:aD}(hi:es[i]? = some x) :
 Calls prog 28 #[ptrTo gb,.int .i64 (i:Int)] w (pS (fun c d'=>c=0\/lK d d' L c) n pb db w o d L x):=by
 have mU:=aN hi;refine CX _ h hg (fun W hW=>?_);have:=ly HW (h.below hW) (hg.out.below hW) hg.S0 ag ag hL (fw es) (i:=i) (by rw[List.length_map];exact mU);rw[List.getElem_map]at this;rw[List.getElem?_eq_getElem mU]at hi;rw[Option.some.inj hi]at this;exact this
end
end
section
open Go.RowKit Go.Maps
theorem dJ.turn{b b':Bool}{l:List aD}{out:List aD}(h:dJ b (aC b' l) out):dJ b l out:=by
 have k:=bL b' l;refine⟨h.gU,fun e he=>?_,fun x hx hn=>?_⟩
 ·grind [mem]
 ·obtain⟨y,hy,hs⟩:=k.all x hx hn;obtain⟨e,he,hs'⟩:=h.all y hy (hs.symm.loop hn);grind [same.trans]
theorem I5(b b':Bool)(l:List aD):aC b (aC b' l)=aC b l:=(bL b (aC b' l)).turn.eq
end
section
open Go.RowKit
theorem I6(xt xh xx xm yt yh yx ym:Nat)(w:World) :
 Calls prog 123 #[.agg #[.int .u32 (xt:Int),.int .u32 (xh:Int),.int .u64 (xx:Int),.int .u32 (xm:Int)],.agg #[.int .u32 (yt:Int),.int .u32 (yh:Int),.int .u64 (yx:Int),.int .u32 (ym:Int)]] w fun e w'=>e=.returned (.bool (decide (xt<yt\/xt=yt/\xh<yh)))/\Below w.heap.size w w':=by
 obtain⟨r,jO⟩:∃r:Bool,r=decide (xt<yt\/xt=yt/\xh<yh):=⟨_,rfl⟩;rw[<- jO];rcases Nat.lt_trichotomy xt yt with g | g | g
 ·have hr:Hid (r=true):=ae (by rw[jO];exact decide_eq_true (.inl g));clear jO;have g1:((xt:Nat):Int)<(yt:Int):=by omega
  go_enter func123,ntmps123;go_wp2;go_ret;exact⟨by rw[hr.out];rfl,aj.alloc ai _⟩
 ·subst g;by_cases g:xh<yh
  ·have hr:Hid (r=true):=ae (by rw[jO];exact decide_eq_true (.inr ⟨rfl,g⟩));clear jO;have g1:((xh:Nat):Int)<(yh:Int):=by omega
   go_enter func123,ntmps123;go_wp2;go_ret;exact⟨by rw[hr.out];rfl,aj.alloc ai _⟩
  ·have hr:Hid (r=false):=ae (by rw[jO];exact decide_eq_false af);clear jO;have g1:¬((xh:Nat):Int)<(yh:Int):=by omega
   go_enter func123,ntmps123;go_wp2;go_ret;exact⟨by rw[hr.out];rfl,aj.alloc ai _⟩
 ·have hr:Hid (r=false):=ae (by rw[jO];exact decide_eq_false af);clear jO;have g1:¬((xt:Nat):Int)<(yt:Int):=by omega
  have g2:((xt:Int) == (yt:Int))=false:=by rw[beq_eq_false_iff_ne];omega
  have g3:¬((xt:Int)=(yt:Int)):=by omega
  go_enter func123,ntmps123;go_wp2;go_ret;exact⟨by rw[hr.out];rfl,aj.alloc ai _⟩
theorem Fy(xt xh xx xm yt yh yx ym:Nat)(w:World) :
 Calls prog 81 #[.agg #[.int .u32 (xt:Int),.int .u32 (xh:Int),.int .u64 (xx:Int),.int .u32 (xm:Int)],.agg #[.int .u32 (yt:Int),.int .u32 (yh:Int),.int .u64 (yx:Int),.int .u32 (ym:Int)],.int .i64 0] w fun e w'=>e=.returned (.bool (decide (xt<yt\/xt=yt/\xh<yh)))/\Below w.heap.size w w':=by
 obtain⟨r,jO⟩:∃r:Bool,r=decide (xt<yt\/xt=yt/\xh<yh):=⟨_,rfl⟩;rw[<- jO];rcases Nat.lt_trichotomy xt yt with g | g | g
 ·have hr:Hid (r=true):=ae (by rw[jO];exact decide_eq_true (.inl g));clear jO;have g1:((xt:Nat):Int)<(yt:Int):=by omega
  go_enter func81,ntmps81;go_wp2;go_ret;exact⟨by rw[hr.out];rfl,aj.alloc ai _⟩
 ·subst g;by_cases g:xh<yh
  ·have hr:Hid (r=true):=ae (by rw[jO];exact decide_eq_true (.inr ⟨rfl,g⟩));clear jO;have g1:((xh:Nat):Int)<(yh:Int):=by omega
   go_enter func81,ntmps81;go_wp2;go_ret;exact⟨by rw[hr.out];rfl,aj.alloc ai _⟩
  ·have hr:Hid (r=false):=ae (by rw[jO];exact decide_eq_false af);clear jO;have g1:¬((xh:Nat):Int)<(yh:Int):=by omega
   go_enter func81,ntmps81;go_wp2;go_ret;exact⟨by rw[hr.out];rfl,aj.alloc ai _⟩
 ·have hr:Hid (r=false):=ae (by rw[jO];exact decide_eq_false af);clear jO;have g1:¬((xt:Nat):Int)<(yt:Int):=by omega
  have g2:((xt:Int) == (yt:Int))=false:=by rw[beq_eq_false_iff_ne];omega
  have g3:¬((xt:Int)=(yt:Int)):=by omega
  go_enter func81,ntmps81;go_wp2;go_ret;exact⟨by rw[hr.out];rfl,aj.alloc ai _⟩
theorem Fz(xt xh xx xm yt yh yx ym:Nat)(w:World) :
 Calls prog 81 #[.agg #[.int .u32 (xt:Int),.int .u32 (xh:Int),.int .u64 (xx:Int),.int .u32 (xm:Int)],.agg #[.int .u32 (yt:Int),.int .u32 (yh:Int),.int .u64 (yx:Int),.int .u32 (ym:Int)],.int .i64 1] w fun e w'=>e=.returned (.bool (decide (xh<yh\/xh=yh/\xt<yt)))/\Below w.heap.size w w':=by
 obtain⟨r,jO⟩:∃r:Bool,r=decide (xh<yh\/xh=yh/\xt<yt):=⟨_,rfl⟩;rw[<- jO];rcases Nat.lt_trichotomy xh yh with g | g | g
 ·have hr:Hid (r=true):=ae (by rw[jO];exact decide_eq_true (.inl g));clear jO;have g1:((xh:Nat):Int)<(yh:Int):=by omega
  go_enter func81,ntmps81;go_wp2;go_ret;exact⟨by rw[hr.out];rfl,aj.alloc ai _⟩
 ·subst g;by_cases g:xt<yt
  ·have hr:Hid (r=true):=ae (by rw[jO];exact decide_eq_true (.inr ⟨rfl,g⟩));clear jO;have g1:((xt:Nat):Int)<(yt:Int):=by omega
   go_enter func81,ntmps81;go_wp2;go_ret;exact⟨by rw[hr.out];rfl,aj.alloc ai _⟩
  ·have hr:Hid (r=false):=ae (by rw[jO];exact decide_eq_false af);clear jO;have g1:¬((xt:Nat):Int)<(yt:Int):=by omega
   go_enter func81,ntmps81;go_wp2;go_ret;exact⟨by rw[hr.out];rfl,aj.alloc ai _⟩
 ·have hr:Hid (r=false):=ae (by rw[jO];exact decide_eq_false af);clear jO;have g1:¬((xh:Nat):Int)<(yh:Int):=by omega
  have g2:((xh:Int) == (yh:Int))=false:=by rw[beq_eq_false_iff_ne];omega
  have g3:¬((xh:Int)=(yh:Int)):=by omega
  go_enter func81,ntmps81;go_wp2;go_ret;exact⟨by rw[hr.out];rfl,aj.alloc ai _⟩
theorem FA(xt xh xx xm yt yh yx ym:Nat)(w:World) :
 Calls prog 124 #[.agg #[.int .u32 (xt:Int),.int .u32 (xh:Int),.int .u64 (xx:Int),.int .u32 (xm:Int)],.agg #[.int .u32 (yt:Int),.int .u32 (yh:Int),.int .u64 (yx:Int),.int .u32 (ym:Int)]] w fun e w'=>e=.returned (.bool (decide (xx<yx\/xx=yx/\(xm+1)%4294967296<(ym+1)%4294967296)))/\Below w.heap.size w w':=by
 have rz:IntKind.u32.wrap ((xm:Int)+1)=(((xm+1)%4294967296:Nat):Int):=by rw[IntKind.wrap_u32];omega
 have hw2:IntKind.u32.wrap ((ym:Int)+1)=(((ym+1)%4294967296:Nat):Int):=by rw[IntKind.wrap_u32];omega
 generalize (xm+1)%4294967296=Z4 at *;generalize (ym+1)%4294967296=Z5 at *;obtain⟨r,jO⟩:∃r:Bool,r=decide (xx<yx\/xx=yx/\Z4<Z5):=⟨_,rfl⟩;rw[<- jO];rcases Nat.lt_trichotomy xx yx with g | g | g
 ·have hr:Hid (r=true):=ae (by rw[jO];exact decide_eq_true (.inl g));clear jO;have g1:((xx:Nat):Int)<(yx:Int):=by omega
  go_enter func124,ntmps124;go_wp2;go_ret;exact⟨by rw[hr.out];rfl,aj.alloc ai _⟩
 ·subst g;by_cases g:Z4<Z5
  ·have hr:Hid (r=true):=ae (by rw[jO];exact decide_eq_true (.inr ⟨rfl,g⟩));clear jO;have g1:((Z4:Nat):Int)<(Z5:Int):=by omega
   go_enter func124,ntmps124;go_wp2;go_ret;exact⟨by rw[hr.out];rfl,aj.alloc ai _⟩
  ·have hr:Hid (r=false):=ae (by rw[jO];exact decide_eq_false af);clear jO;have g1:¬((Z4:Nat):Int)<(Z5:Int):=by omega
   go_enter func124,ntmps124;go_wp2;go_ret;exact⟨by rw[hr.out];rfl,aj.alloc ai _⟩
 ·have hr:Hid (r=false):=ae (by rw[jO];exact decide_eq_false af);clear jO;have g1:¬((xx:Nat):Int)<(yx:Int):=by omega
  have g2:((xx:Int) == (yx:Int))=false:=by rw[beq_eq_false_iff_ne];omega
  have g3:¬((xx:Int)=(yx:Int)):=by omega
  go_enter func124,ntmps124;go_wp2;go_ret;exact⟨by rw[hr.out];rfl,aj.alloc ai _⟩
theorem yJ(x y:aD)(w:World):Calls prog 123 #[.agg #[.int .u32 (x.t.toNat:Int),.int .u32 (x.h.toNat:Int),.int .u64 (x.x.toNat:Int),.int .u32 (x.m.toNat:Int)],.agg #[.int .u32 (y.t.toNat:Int),.int .u32 (y.h.toNat:Int),.int .u64 (y.x.toNat:Int),.int .u32 (y.m.toNat:Int)]] w
 fun e w'=>e=.returned (.bool (decide (pk false x<pk false y)))/\Below w.heap.size w w':=by
 refine(I6 _ _ _ _ _ _ _ _ w).mono fun e w' ⟨he,hb⟩=>⟨he.trans ?_,hb⟩;have h1:=x.h.toNat_lt;have h2:=y.h.toNat_lt;rw[decide_eq_decide.2 (show(x.t.toNat<y.t.toNat\/x.t.toNat=y.t.toNat/\x.h.toNat<y.h.toNat)↔pk false x<pk false y by unfold pk;simp only[Bool.false_eq_true,if_false];omega)]
theorem I7(b:Bool)(x y:aD)(w:World):Calls prog 81 #[.agg #[.int .u32 (x.t.toNat:Int),.int .u32 (x.h.toNat:Int),.int .u64 (x.x.toNat:Int),.int .u32 (x.m.toNat:Int)],.agg #[.int .u32 (y.t.toNat:Int),.int .u32 (y.h.toNat:Int),.int .u64 (y.x.toNat:Int),.int .u32 (y.m.toNat:Int)],.int .i64 (mh b:Int)] w
 fun e w'=>e=.returned (.bool (decide (pk b x<pk b y)))/\Below w.heap.size w w':=by
 have h1:=x.h.toNat_lt;have h2:=y.h.toNat_lt;have h3:=x.t.toNat_lt;have h4:=y.t.toNat_lt;cases b
 ·refine(Fy _ _ _ _ _ _ _ _ w).mono fun e w' ⟨he,hb⟩=>⟨he.trans ?_,hb⟩;rw[decide_eq_decide.2 (show(x.t.toNat<y.t.toNat\/x.t.toNat=y.t.toNat/\x.h.toNat<y.h.toNat)↔pk false x<pk false y by unfold pk;simp only[Bool.false_eq_true,if_false];omega)]
 ·refine(Fz _ _ _ _ _ _ _ _ w).mono fun e w' ⟨he,hb⟩=>⟨he.trans ?_,hb⟩;rw[decide_eq_decide.2 (show(x.h.toNat<y.h.toNat\/x.h.toNat=y.h.toNat/\x.t.toNat<y.t.toNat)↔pk true x<pk true y by unfold pk;simp only[if_true];omega)]
theorem FB(x y:aD)(w:World):Calls prog 124 #[.agg #[.int .u32 (x.t.toNat:Int),.int .u32 (x.h.toNat:Int),.int .u64 (x.x.toNat:Int),.int .u32 (x.m.toNat:Int)],.agg #[.int .u32 (y.t.toNat:Int),.int .u32 (y.h.toNat:Int),.int .u64 (y.x.toNat:Int),.int .u32 (y.m.toNat:Int)]] w
 fun e w'=>e=.returned (.bool (decide (rk x<rk y)))/\Below w.heap.size w w':=by
 refine(FA _ _ _ _ _ _ _ _ w).mono fun e w' ⟨he,hb⟩=>⟨he.trans ?_,hb⟩;rw[decide_eq_decide.2 (show(x.x.toNat<y.x.toNat\/x.x.toNat=y.x.toNat/\(x.m.toNat+1)%4294967296<(y.m.toNat+1)%4294967296)↔rk x<rk y by unfold rk;omega)]
theorem fB{b:Bool}{out:List aD}(h:out.Pairwise (fun x y=>pk b x<pk b y)){i j:Nat}(eY:i<j){x y:aD}(hx:out[i]? = some x)(hy:out[j]? = some y):pk b x<pk b y:=by
 grind [List.pairwise_iff_getElem]
theorem dJ.lay{b:Bool}{l out:List aD}{x:aD}(h:dJ b l out)(hx:x.t≠x.h){k:Nat}(hk:k<=out.length)(h1:∀(i:Nat)(o:aD),i<k->out[i]? = some o->pk b o<pk b x)(h2:∀(i:Nat)(o:aD),k<=i->out[i]? = some o->pk b x<pk b o) :
 dJ b (l++[x]) (out.take k++x::out.drop k):=by
 have hsp:out=out.take k++out.drop k:=(List.take_append_drop k out).symm;have hlt:∀o∈out.take k,pk b o<pk b x:=fun o ho=>by
  obtain⟨i,hi,rfl⟩:=List.getElem_of_mem ho;rw[List.length_take]at hi;rw[List.getElem_take];exact h1 i _ af (List.getElem?_eq_getElem af)
 have zw:∀o∈out.drop k,pk b x<pk b o:=fun o ho=>by
  obtain⟨i,hi,rfl⟩:=List.getElem_of_mem ho;rw[List.length_drop]at hi;rw[List.getElem_drop];exact h2 (k+i) _ af (List.getElem?_eq_getElem af)
 have hne:∀o∈out,¬same o x:=fun o ho hs=>by
  grind [iL]
 have hr:=h.gU;rw[hsp,List.pairwise_append]at hr;have mI:∀o,o∈out.take k++x::out.drop k↔o=x\/o∈out:=fun o=>by
  grind
 refine⟨?_,fun o ho=>?_,fun y hy hn=>?_⟩
 ·grind [List.pairwise_cons]
 ·rcases(mI o).1 ho with rfl | ho
  ·refine⟨ai,hx,fun y hy hs=>?_⟩;rcases List.mem_append.1 hy with hy | hy
   ·obtain⟨o',jM,hs'⟩:=h.all y hy (hs.symm.loop hx);grind [same.trans]
   grind
  ·obtain⟨g1,g2,g3⟩:=h.mem o ho;refine⟨List.mem_append_left _ g1,g2,fun y hy hs=>?_⟩;grind [same.symm]
 ·rcases List.mem_append.1 hy with hy | hy
  ·grind [all]
  ·rw[List.mem_singleton.1 hy];exact⟨x,(mI x).2 (.inl rfl),rfl,rfl⟩
theorem dJ.over{b:Bool}{l out:List aD}{x o:aD}(h:dJ b l out){k:Nat}(ho:out[k]? = some o)(hs:same o x)(hr:rk x<rk o):dJ b (l++[x]) (out.set k x):=by
 have hk:=(List.getElem?_eq_some_iff.1 ho).1;have P1:pk b x=pk b o:=(iL (b:=b).2 hs).symm;have ik:∀(i:Nat)(y:aD),(out.set k x)[i]? = some y->(i=k/\y=x)\/(i≠k/\out[i]? = some y):=fun i y hy=>by
  grind
 have aft:∀(i:Nat)(y:aD),(out.set k x)[i]? = some y->∃z,out[i]? = some z/\pk b z=pk b y:=fun i y hy=>by
  grind
 have jM:=h.mem o (List.mem_of_getElem? ho);refine⟨?_,fun y hy=>?_,fun y hy hn=>?_⟩
 ·rw[List.pairwise_iff_getElem];intro i j hi hj eY;obtain⟨z1,g1,e1⟩:=aft i _ (List.getElem?_eq_getElem hi);obtain⟨z2,g2,e2⟩:=aft j _ (List.getElem?_eq_getElem hj);rw[<- e1,<- e2];exact fB h.gU eY g1 g2
 ·obtain⟨i,hi,rfl⟩:=List.getElem_of_mem hy;rcases ik i _ (List.getElem?_eq_getElem hi) with⟨_,e⟩|⟨hik,e⟩
  ·rw[e];refine⟨ai,hs.loop jM.2.1,fun z hz hzs=>?_⟩;grind [same.trans,same.symm]
  ·generalize (out.set k x)[i]=y at *;obtain⟨g1,g2,g3⟩:=h.mem y (List.mem_of_getElem? e);refine⟨List.mem_append_left _ g1,g2,fun z hz hzs=>?_⟩;rcases List.mem_append.1 hz with hz | hz
   ·grind
   ·rw[List.mem_singleton.1 hz]at hzs;have e1:=iL (b:=b).2 (hs.trans hzs);rcases Nat.lt_or_gt_of_ne hik with hlt | hlt
    ·have:=fB h.gU hlt e ho;omega
    ·have:=fB h.gU hlt ho e;omega
 ·have oC:∀(i:Nat)(z:aD),out[i]? = some z->∃z'∈out.set k x,same z' z:=fun i z hz=>by
   by_cases hik:i=k
   ·grind [same.symm]
   ·exact⟨z,List.mem_of_getElem? (i:=i) (by grind),rfl,rfl⟩
  rcases List.mem_append.1 hy with hy | hy
  ·obtain⟨z,hz,hzs⟩:=h.all y hy hn;obtain⟨i,hi,rfl⟩:=List.getElem_of_mem hz;obtain⟨z',h1,h2⟩:=oC i _ (List.getElem?_eq_getElem hi);grind [same.trans]
  ·rw[List.mem_singleton.1 hy];obtain⟨z',h1,h2⟩:=oC k o ho;grind [same.trans]
theorem dJ.leave{b:Bool}{l out:List aD}{x:aD}(h:dJ b l out)(hx:x.t=x.h\/∃o∈out,same o x/\rk o<=rk x):dJ b (l++[x]) out:=by
 refine⟨h.gU,fun o ho=>?_,fun y hy hn=>?_⟩
 ·obtain⟨g1,g2,g3⟩:=h.mem o ho;refine⟨List.mem_append_left _ g1,g2,fun y hy hs=>?_⟩;rcases List.mem_append.1 hy with hy | hy
  ·grind
  ·rw[List.mem_singleton.1 hy]at hs ⊢;rcases hx with hx |⟨o',jM,hs',hr⟩
   ·exact absurd hx (hs.symm.loop g2)
   ·have e:=iL (b:=b).2 (hs'.trans hs);obtain⟨i,hi,rfl⟩:=List.getElem_of_mem ho;obtain⟨j,hj,rfl⟩:=List.getElem_of_mem jM;rcases Nat.lt_trichotomy i j with hlt | rfl | hlt
    ·have:=fB h.gU hlt (List.getElem?_eq_getElem hi) (List.getElem?_eq_getElem hj);omega
    ·exact hr
    ·have:=fB h.gU hlt (List.getElem?_eq_getElem hj) (List.getElem?_eq_getElem hi);omega
 grind [all]
theorem LK{l:List aD}{i:Nat}(hi:i<l.length)(x:aD) :
 dD (l.set i x)=((((dD l).set (i*4) (.int .u32 (x.t.toNat:Int))).set (i*4+1) (.int .u32 (x.h.toNat:Int))).set (i*4+2) (.int .u64 (x.x.toNat:Int))).set (i*4+3) (.int .u32 (x.m.toNat:Int)):=by
 induction l generalizing i with
 |nil=>cases hi
 |cons y l ih=>
   cases i with
   |zero=>rfl
   |succ i=>
     rw[List.set_cons_succ,dD,dD,ih (by grind)];grind
theorem kA{w:World}{base g cap n:Nat}{l:List aD}(h:aJ w base (.slice (some ⟨g,0,none⟩) n cap) l){i:Nat}(hi:i<l.length)(x:aD) :
 aJ ((((w.setCell ⟨g,i*4,none⟩ (.int .u32 (x.t.toNat:Int))).setCell ⟨g,i*4+1,none⟩ (.int .u32 (x.h.toNat:Int))).setCell ⟨g,i*4+2,none⟩ (.int .u64 (x.x.toNat:Int))).setCell ⟨g,i*4+3,none⟩ (.int .u32 (x.m.toNat:Int))) base (.slice (some ⟨g,0,none⟩) n cap) (l.set i x):=by
 grind [aA,LK,World.ownsRow.stored]
theorem cB{w:World}{base g cap n:Nat}{l:List aD}(h:aJ w base (.slice (some ⟨g,0,none⟩) n cap) l)(j:Nat):w.frozen? ⟨g,j,none⟩=false:=by
 grind [aA,World.ownsRow.frozenAt]
theorem D5{w W W':World}{v v':Value}{M:List aD}{ob:Obj}(hb:Below w.heap.size w W)(hv:aJ W w.heap.size v M)(ha:mr v (W.alloc ob) W' v'):Below w.heap.size w W':=by
 obtain⟨hg,_⟩:=ha;have hs:W.heap.size<(W.alloc ob).heap.size:=by simp
 refine hb.trans ⟨hg.os.trans rfl,hg.tape.trans rfl,hg.output.trans rfl,Nat.le_trans (Nat.le_of_lt hs) hg.size,fun x hx=>?_⟩;have:=hb.size;refine(hg.block x af (fun e=>?_)).trans ((MapKept.heap_alloc W ob).2 x af);have:=(aL hv x e.symm).2;omega
end
section
open Go.RowKit Go.Maps
def I8(w:World)(es:List aD)(e:Ending)(w':World):Prop:=∃v,e=.returned v/\aJ w' w.heap.size v es/\Below w.heap.size w w'
theorem oV{w:World}{a:Option Addr}{n cap:Nat}{es:List aD}(h:kC w (.slice a n cap) es):n=es.length/\∀W,Below w.heap.size w W->∀(i:Nat)(x:aD),es[i]? = some x->∃b off,a=some ⟨b,off,none⟩/\W.cell? ⟨b,off+i*4,none⟩=some (.int .u32 (x.t.toNat:Int))/\W.cell? ⟨b,off+i*4+1,none⟩=some (.int .u32 (x.h.toNat:Int))/\W.cell? ⟨b,off+i*4+2,none⟩=some (.int .u64 (x.x.toNat:Int))/\W.cell? ⟨b,off+i*4+3,none⟩=some (.int .u32 (x.m.toNat:Int)):=by
 have hn:n=es.length:=by
  obtain⟨a',cap',he,_⟩:=h;cases he;rfl
 refine⟨hn,fun W hB i x hx=>?_⟩;obtain⟨a',cap',Cz,hce⟩:=h.below hB;cases Cz;rcases hce with h0 |⟨b,off,h1,hc⟩
 ·have:=aN hx;omega
 ·exact⟨b,off,h1,hc i x hx⟩
theorem rM{es:List aD}{i:Nat}{x:aD}(h:es[i]? = some x):es.take (i+1)=es.take i++[x]:=by
 have hl:=aN h;rw[List.take_succ_eq_append_getElem hl];rw[List.getElem?_eq_getElem hl]at h;rw[Option.some.inj h]
theorem lC{w W:World}{g:Nat}(hb:Below w.heap.size w W)(hg:w.heap.size<=g)(a1 a2 a3 a4:Nat)(v1 v2 v3 v4:Value):Below w.heap.size w ((((W.setCell ⟨g,a1,none⟩ v1).setCell ⟨g,a2,none⟩ v2).setCell ⟨g,a3,none⟩ v3).setCell ⟨g,a4,none⟩ v4):=
 (((hb.setCell hg _).setCell hg _).setCell hg _).setCell hg _
theorem I9{W:World}{g b:Nat}{ob:Option Obj}(hb:W.heap[b]? = ob)(hne:b≠g)(a1 a2 a3 a4:Nat)(v1 v2 v3 v4:Value):((((W.setCell ⟨g,a1,none⟩ v1).setCell ⟨g,a2,none⟩ v2).setCell ⟨g,a3,none⟩ v3).setCell ⟨g,a4,none⟩ v4).heap[b]? = ob:=by
 rw[Below.heap_setCell _ _ _ _ hne,Below.heap_setCell _ _ _ _ hne,Below.heap_setCell _ _ _ _ hne,Below.heap_setCell _ _ _ _ hne];exact hb
theorem Pt{out:List aD}{x y:aD}{k at':Nat}(hk:at'<k)(yS:k<=out.length)(hy:out[k-1]? = some y):(out.take k++x::out.drop k).set k y=out.take (k-1)++y::out.drop (k-1):=by
 have h1:(out.take k).length=k:=by rw[List.length_take];omega
 rw[List.set_append_right _ _ af,h1,Nat.sub_self,List.set_cons_zero];obtain⟨q,rfl⟩:∃q,k=q+1:=⟨k-1,af⟩;rw[Nat.add_sub_cancel]at hy ⊢;have hq:q<out.length:=by omega
 rw[List.getElem?_eq_getElem hq]at hy;rw[List.take_succ_eq_append_getElem hq,List.append_assoc,List.drop_eq_getElem_cons hq,Option.some.inj hy];rfl
theorem Pu{out:List aD}{x y:aD}{k:Nat}(hk:0<k)(yS:k<=out.length)(hy:out[k-1]? = some y):(out.take k++x::out.drop k)[k-1]? = some y:=by
 rw[List.getElem?_append_left (by rw[List.length_take];omega),List.getElem?_take,if_pos af];exact hy
theorem Bh{out:List aD}{x y:aD}{k:Nat}(yS:k<=out.length):(out.take k++y::out.drop k).set k x=out.take k++x::out.drop k:=by
 have h1:(out.take k).length=k:=by rw[List.length_take];omega
 rw[List.set_append_right _ _ af,h1,Nat.sub_self,List.set_cons_zero]
def WO(w:World)(es:List aD)(i:Nat)(v:Value)(W:World):Prop:=∃out:List aD,aJ W w.heap.size v out/\dJ false (es.take i) out/\out.length<=i/\Below w.heap.size w W
theorem LL(v:Value)(es:List aD)(w:World)(hv:kC w v es)(hl:es.length<=10000):Calls prog 80 #[v] w (I8 w (aC false es)):=by
 have HV:=ae hv;obtain⟨a,cap,rfl,-⟩:=hv;obtain⟨-,lW⟩:=oV HV.out;have HC:=ae lW;have HX:Hid (∀i,i<es.length->∃x,es[i]? = some x):=ae (fun i hi=>⟨_,List.getElem?_eq_getElem hi⟩);have Co:Hid (es.take es.length=es):=ae (List.take_of_length_le (Nat.le_refl _));clear lW;generalize hN:es.length=N at *;have HN:=ae hN;clear hN;go_enter func80,ntmps80;go_wp2;go_loopw [3,4] (fun ov iv W=>∃i:Nat,i<=N/\iv=.int .i64 (i:Int)/\WO w es i ov W) (fun _ iv _=>N-(intOf iv).toNat)
 case atStart=>exact⟨0,Nat.zero_le _,rfl,[],World.ownsRow_nil _ _ _ _,dJ.nil _,Nat.le_refl _,Below.refl _ _⟩
 case round=>
  generalize u3=ov at *;generalize wr=W0 at *;obtain⟨i,hi,rfl,out,hr,AR,hol,hb⟩:=hrel;have HR:=ae hr;have nu:=ae AR;have HB:=ae hb;have hz:w.heap.size<=W0.heap.size:=hb.size;clear hr AR hb;by_cases hlt:i<N
  ·obtain⟨x,hx⟩:=HX.out i hlt;obtain⟨be,oe,rfl,f0,f1,f2,f3⟩:=HC.out W0 HB.out i x hx;have qT:=ae (rM hx);clear hx;go_upto_region 6 with(fail)
   have cO:Hid (Below W0.heap.size W0 (W0.alloc (.cells #[.int .u32 (x.t.toNat:Int),.int .u32 (x.h.toNat:Int),.int .u64 (x.x.toNat:Int),.int .u32 (x.m.toNat:Int)] 64))):=ae aj;have HQ1:Hid ((W0.alloc (.cells #[.int .u32 (x.t.toNat:Int),.int .u32 (x.h.toNat:Int),.int .u64 (x.x.toNat:Int),.int .u32 (x.m.toNat:Int)] 64)).heap[W0.heap.size]? = some (.cells #[.int .u32 (x.t.toNat:Int),.int .u32 (x.h.toNat:Int),.int .u64 (x.x.toNat:Int),.int .u32 (x.m.toNat:Int)] 64)):=ae (heap_alloc_new W0 _);have hs1:W0.heap.size<(W0.alloc (.cells #[.int .u32 (x.t.toNat:Int),.int .u32 (x.h.toNat:Int),.int .u64 (x.x.toNat:Int),.int .u32 (x.m.toNat:Int)] 64)).heap.size:=by simp
   clear f0 f1 f2 f3;generalize W0.alloc (.cells #[.int .u32 (x.t.toNat:Int),.int .u32 (x.h.toNat:Int),.int .u64 (x.x.toNat:Int),.int .u32 (x.m.toNat:Int)] 64)=W1 at *;have WQ:=ae (HB.out.trans (cO.out.mono hz));have nN:Hid (aJ W1 w.heap.size ov out):=ae (aW HR.out cO.out);have RZ:Hid (∀y,ov.ownBlock=some y->y<W0.heap.size):=ae (fun y hy=>(aL HR.out y hy).1);generalize W0.heap.size=xb at *;have hz1:w.heap.size<=W1.heap.size:=by omega
   clear HB cO;have BX:∀W:World,W.heap[xb]? = some (.cells #[.int .u32 (x.t.toNat:Int),.int .u32 (x.h.toNat:Int),.int .u64 (x.x.toNat:Int),.int .u32 (x.m.toNat:Int)] 64)->W.cell? ⟨xb,0,none⟩=some (.int .u32 (x.t.toNat:Int))/\W.cell? ⟨xb,1,none⟩=some (.int .u32 (x.h.toNat:Int))/\W.cell? ⟨xb,2,none⟩=some (.int .u64 (x.x.toNat:Int))/\W.cell? ⟨xb,3,none⟩=some (.int .u32 (x.m.toNat:Int)):=fun W hW=>by
    refine⟨?_,?_,?_,?_⟩<;>rw[ar hW]<;>rfl
   have Nv:=ae BX;clear BX;by_cases Ja:x.t=x.h
   ·have Gf:Hid (dJ false (es.take (i+1)) out):=ae (by rw[qT.out];exact nu.out.leave (.inl Ja));obtain⟨c0,c1,-,-⟩:=Nv.out W1 HQ1.out;rw[Ja]at c0;clear Ja;go_wp2;go_roundw
    case rel=>exact⟨i+1,af,by go_num,out,nN.out,Gf.out,af,WQ.out⟩
    case measure=>simp[intOf];omega
   ·obtain⟨a1,a2,a3,a4,a5⟩:=AE Ja;have Jb:=ae Ja;obtain⟨c0,c1,-,-⟩:=Nv.out W1 HQ1.out;obtain⟨oa,oc,Cz⟩:∃oa oc,ov=.slice oa out.length oc:=aA nN.out;subst Cz;have X7:Hid (∀W,Below W1.heap.size W1 W->∀(j:Nat)(o:aD),out[j]? = some o->∃g,oa=some ⟨g,0,none⟩/\W.cell? ⟨g,j*4,none⟩=some (.int .u32 (o.t.toNat:Int))/\W.cell? ⟨g,j*4+1,none⟩=some (.int .u32 (o.h.toNat:Int))/\W.cell? ⟨g,j*4+2,none⟩=some (.int .u64 (o.x.toNat:Int))/\W.cell? ⟨g,j*4+3,none⟩=some (.int .u32 (o.m.toNat:Int))):=ae (fun W hB j o ho=>by
     rcases ck nN.out with⟨h1,h2⟩|⟨g,cap,h1,hg,hc1,hc2⟩
     ·rw[h1]at ho;cases ho
     ·cases h1;obtain⟨e0,e1,e2,e3⟩:=bK nN.out ho;exact⟨g,rfl,br hB e0,br hB e1,br hB e2,br hB e3⟩)
    have J3:Hid (∀j,j<out.length->∃o,out[j]? = some o):=ae (fun j hj=>⟨_,List.getElem?_eq_getElem hj⟩);generalize QP:out.length=n0 at *;have k7:=ae QP;clear QP;go_wp2;go_loopw [6] (fun kv W=>∃k:Nat,k<=n0/\kv=.int .i64 (k:Int)/\(∀(j:Nat)(o:aD),j<k->out[j]? = some o->pk false o<pk false x)/\Below W1.heap.size W1 W) (fun kv _=>n0-(intOf kv).toNat)
    case atStart=>exact⟨0,Nat.zero_le _,rfl,(fun j o hj=>absurd hj (Nat.not_lt_zero _)),Below.refl _ _⟩
    case round=>
     generalize wr=W2 at *;clear a1 a2 a3 a4 a5 c0 c1;obtain⟨k,hk,rfl,JQ,hb2⟩:=hrel;have Qj:=ae JQ;have cY:=ae hb2;clear JQ hb2;have kZ:Hid (∀W,Below W2.heap.size W2 W->W.heap[xb]? = some (.cells #[.int .u32 (x.t.toNat:Int),.int .u32 (x.h.toNat:Int),.int .u64 (x.x.toNat:Int),.int .u32 (x.m.toNat:Int)] 64)):=ae (fun W hB=>((hB.block _ (Nat.lt_of_lt_of_le hs1 cY.out.size)).trans (cY.out.block _ hs1)).trans HQ1.out);by_cases yS:k<n0
     ·obtain⟨o,ho⟩:=J3.out k yS;have HO:=ae ho;clear ho;obtain⟨g,rfl,-⟩:=X7.out W2 cY.out k o HO.out;have HOW:Hid (∀W,Below W2.heap.size W2 W->W.cell? ⟨g,k*4,none⟩=some (.int .u32 (o.t.toNat:Int))/\W.cell? ⟨g,k*4+1,none⟩=some (.int .u32 (o.h.toNat:Int))/\W.cell? ⟨g,k*4+2,none⟩=some (.int .u64 (o.x.toNat:Int))/\W.cell? ⟨g,k*4+3,none⟩=some (.int .u32 (o.m.toNat:Int))):=ae (fun W hB=>by
       obtain⟨g',e,r⟩:=X7.out W (cY.out.trans (hB.mono cY.out.size)) k o HO.out;cases e;exact r)
      have aM:=ae (fun W=>yJ o x W);obtain⟨r,jO⟩:∃r:Bool,r=decide (pk false o<pk false x):=⟨_,rfl⟩;rw[<- jO]at aM;have Qh:=ae jO;clear jO;go_wp2_with fail;refine wq W2 ?_;iterate 8 (refine qz ?_)
      refine qz ?_ (fun w' hw'=>by obtain⟨e0,e1,e2,e3⟩:=HOW.out w' hw';go_simp<;>rfl);refine qz ?_ (fun w' hw'=>by obtain⟨e0,e1,e2,e3⟩:=Nv.out w' (kZ.out w' hw');go_simp<;>rfl);refine qw (fun w' hw'=>(aM.out w').mono fun e w'' ⟨he,hb⟩=>⟨he,hw'.trans (hb.mono hw'.size)⟩) ?_;refine qz ?_;refine wpQuiet_nil ?_;intro W3 hb3;have jJ:=ae (cY.out.trans (hb3.mono cY.out.size));have iD:Hid (∀W,Below W3.heap.size W3 W->W.heap[xb]? = some (.cells #[.int .u32 (x.t.toNat:Int),.int .u32 (x.h.toNat:Int),.int .u64 (x.x.toNat:Int),.int .u32 (x.m.toNat:Int)] 64)):=ae (fun W hB=>kZ.out W (hb3.trans (hB.mono hb3.size)));clear hb3 kZ;cases r with
      |true=>
        have aa4:Hid (∀(j:Nat)(o':aD),j<k+1->out[j]? = some o'->pk false o'<pk false x):=ae (fun j o' hj jM=>by
         rcases Nat.lt_or_ge j k with h | h
         ·exact Qj.out j o' h jM
         ·obtain rfl:j=k:=by omega
          rw[HO.out]at jM;rw[<- Option.some.inj jM];exact of_decide_eq_true Qh.out.symm)
        go_wp2;go_roundw
        case rel=>exact⟨k+1,af,by go_num,aa4.out,jJ.out⟩
        case measure=>simp[intOf];omega
      |false=>
        have Iz:Hid (¬pk false o<pk false x):=ae (of_decide_eq_false Qh.out.symm);have Pv:Hid (∀W,Below W3.heap.size W3 W->W.cell? ⟨g,k*4,none⟩=some (.int .u32 (o.t.toNat:Int))/\W.cell? ⟨g,k*4+1,none⟩=some (.int .u32 (o.h.toNat:Int))/\W.cell? ⟨g,k*4+2,none⟩=some (.int .u64 (o.x.toNat:Int))/\W.cell? ⟨g,k*4+3,none⟩=some (.int .u32 (o.m.toNat:Int))):=ae (fun W hB=>by
         obtain⟨g',e,r⟩:=X7.out W (jJ.out.trans (hB.mono jJ.out.size)) k o HO.out;cases e;exact r)
        have ij:=ae (fun W=>yJ x o W);obtain⟨r2,hr2⟩:∃r:Bool,r=decide (pk false x<pk false o):=⟨_,rfl⟩;rw[<- hr2]at ij;have aa5:=ae hr2;clear hr2 aM HOW;go_wp2_with fail;refine wq W3 ?_;iterate 5 (refine qz ?_)
        refine qz ?_ (fun w' hw'=>by obtain⟨e0,e1,e2,e3⟩:=Nv.out w' (iD.out w' hw');go_simp<;>rfl);iterate 3 (refine qz ?_)
        refine qz ?_ (fun w' hw'=>by obtain⟨e0,e1,e2,e3⟩:=Pv.out w' hw';go_simp<;>rfl);refine qw (fun w' hw'=>(ij.out w').mono fun e w'' ⟨he,hb⟩=>⟨he,hw'.trans (hb.mono hw'.size)⟩) ?_;iterate 2 (refine qz ?_)
        refine wpQuiet_nil ?_;intro W4 hb4;have oB:=ae (jJ.out.trans (hb4.mono jJ.out.size));have Gi:Hid (∀W,Below W4.heap.size W4 W->W.heap[xb]? = some (.cells #[.int .u32 (x.t.toNat:Int),.int .u32 (x.h.toNat:Int),.int .u64 (x.x.toNat:Int),.int .u32 (x.m.toNat:Int)] 64)):=ae (fun W hB=>iD.out W (hb4.trans (hB.mono hb4.size)));clear hb4 iD ij Pv;cases r2 with
        |false=>
          have HPK:Hid (pk false o=pk false x):=ae (by
           have h1:=Iz.out;have h2:=of_decide_eq_false aa5.out.symm;omega)
          have Tt:Hid (∀W,Below W4.heap.size W4 W->W.cell? ⟨g,k*4,none⟩=some (.int .u32 (o.t.toNat:Int))/\W.cell? ⟨g,k*4+1,none⟩=some (.int .u32 (o.h.toNat:Int))/\W.cell? ⟨g,k*4+2,none⟩=some (.int .u64 (o.x.toNat:Int))/\W.cell? ⟨g,k*4+3,none⟩=some (.int .u32 (o.m.toNat:Int))):=ae (fun W hB=>by
           obtain⟨g',e,r⟩:=X7.out W (oB.out.trans (hB.mono oB.out.size)) k o HO.out;cases e;exact r)
          have l6:=ae (fun W=>FB x o W);obtain⟨r3,hr3⟩:∃r:Bool,r=decide (rk x<rk o):=⟨_,rfl⟩;rw[<- hr3]at l6;have afv:=ae hr3;clear hr3;go_wp2_with fail;refine wq W4 ?_;refine qz ?_ (fun w' hw'=>by obtain⟨e0,e1,e2,e3⟩:=Nv.out w' (Gi.out w' hw');go_simp<;>rfl);iterate 3 (refine qz ?_)
          refine qz ?_ (fun w' hw'=>by obtain⟨e0,e1,e2,e3⟩:=Tt.out w' hw';go_simp<;>rfl);refine qw (fun w' hw'=>(l6.out w').mono fun e w'' ⟨he,hb⟩=>⟨he,hw'.trans (hb.mono hw'.size)⟩) ?_;refine wpQuiet_nil ?_;intro W5 pj;have E5:=ae (oB.out.trans (pj.mono oB.out.size));have DW:Hid (aJ W5 w.heap.size (.slice (some ⟨g,0,none⟩) n0 oc) out):=ae (aW nN.out E5.out);have qE:Hid (W5.heap[xb]? = some (.cells #[.int .u32 (x.t.toNat:Int),.int .u32 (x.h.toNat:Int),.int .u64 (x.x.toNat:Int),.int .u32 (x.m.toNat:Int)] 64)):=ae (Gi.out W5 pj);have afw:=ae (WQ.out.trans (E5.out.mono hz1));clear pj Gi l6 Tt;cases r3 with
          |true=>
            have HBO:Hid (dJ false (es.take (i+1)) (out.set k x)):=ae (by
             rw[qT.out];exact nu.out.over HO.out (iL.1 HPK.out) (of_decide_eq_true afv.out.symm))
            have hown:=kA DW.out (i:=k) (by rw[k7.out];exact yS) x;obtain⟨e0,e1,e2,e3⟩:=bK (by rw[k7.out];exact DW.out) HO.out;obtain⟨c0,c1,c2,c3⟩:=Nv.out W5 qE.out;have z0:=cB DW.out (k*4);have z1:=cB DW.out (k*4+1);have z2:=cB DW.out (k*4+2);have z3:=cB DW.out (k*4+3);have hgw:w.heap.size<=g:=aI DW.out g rfl;have UU:=ae (lC afw.out hgw (k*4) (k*4+1) (k*4+2) (k*4+3) (.int .u32 (x.t.toNat:Int)) (.int .u32 (x.h.toNat:Int)) (.int .u64 (x.x.toNat:Int)) (.int .u32 (x.m.toNat:Int)));have wy:=ae hown;clear hown;go_wp2;go_roundw
            case rel=>exact⟨i+1,af,by go_num,out.set k x,wy.out,HBO.out,by rw[List.length_set,k7.out];omega,UU.out⟩
            case measure=>simp[intOf];omega
          |false=>
            have Gf:Hid (dJ false (es.take (i+1)) out):=ae (by
             rw[qT.out];exact nu.out.leave (.inr ⟨o,List.mem_of_getElem? HO.out,iL.1 HPK.out,by have:=of_decide_eq_false afv.out.symm;omega⟩))
            go_wp2;go_roundw
            case rel=>exact⟨i+1,af,by go_num,out,DW.out,Gf.out,by rw[k7.out];omega,afw.out⟩
            case measure=>simp[intOf];omega
        |true=>
          have LM:Hid (dJ false (es.take (i+1)) (out.take k++x::out.drop k)):=ae (by
           rw[qT.out];refine nu.out.lay Jb.out (by rw[k7.out];exact hk) Qj.out (fun j o' hj jM=>?_);have h1:pk false x<pk false o:=of_decide_eq_true aa5.out.symm;rcases Nat.eq_or_lt_of_le hj with rfl | hlt
           ·rw[HO.out]at jM;rw[<- Option.some.inj jM];exact h1
           ·exact Nat.lt_trans h1 (fB nu.out.gU hlt HO.out jM))
          have mM:=oB;clear Gi Qh aa5;have HRx:Hid (aJ W4 w.heap.size (.slice (some ⟨g,0,none⟩) n0 oc) out):=ae (aW nN.out mM.out);have YG:w.heap.size<=W4.heap.size:=Nat.le_trans hz1 mM.out.size;have Wf:out.length<=100000:=by rw[k7.out];omega
          have YD:xb<W4.heap.size:=Nat.lt_of_lt_of_le hs1 mM.out.size;have CT:Hid (W4.heap[xb]? = some (.cells #[.int .u32 (x.t.toNat:Int),.int .u32 (x.h.toNat:Int),.int .u64 (x.x.toNat:Int),.int .u32 (x.m.toNat:Int)] 64)):=ae ((mM.out.block _ hs1).trans HQ1.out);obtain⟨c0,c1,c2,c3⟩:=Nv.out W4 CT.out;go_wp2_with (at_builtin;refine cQ rfl _ _ rfl w.heap.size _ out rfl HRx.out x 1 rfl Wf YG ?_);intro v6 W6 Bi LN;have nw:=ae (D5 (WQ.out.trans (mM.out.mono hz1)) HRx.out LN);have pZ:W4.heap.size<(W4.alloc (.cells #[.int .u32 (x.t.toNat:Int),.int .u32 (x.h.toNat:Int),.int .u64 (x.x.toNat:Int),.int .u32 (x.m.toNat:Int)] 64)).heap.size:=by simp
          have aa6:Hid (W6.heap[xb]? = some (.cells #[.int .u32 (x.t.toNat:Int),.int .u32 (x.h.toNat:Int),.int .u64 (x.x.toNat:Int),.int .u32 (x.m.toNat:Int)] 64)):=ae (((LN.1.block xb af (fun e=>by have:=RZ.out xb e.symm;omega)).trans ((MapKept.heap_alloc W4 _).2 xb YD)).trans CT.out);have Tv:∀y,v6.ownBlock=some y->xb≠y:=fun y hy e=>by
           rcases LN.2 with h | h
           ·rw[h]at hy;have:=RZ.out y hy;omega
           ·rw[h]at hy;have:=Option.some.inj hy;omega
          obtain⟨n1,BU⟩:∃n1:Nat,n1=n0+1:=⟨_,rfl⟩;have Bj:(out++[x]).length=n1:=by rw[List.length_append,k7.out,BU];rfl
          obtain⟨g6,c6,rfl⟩:∃g c,v6=.slice (some ⟨g,0,none⟩) n1 c:=by
           rcases ck Bi with⟨h1,_⟩|⟨g,c,h1,_⟩
           ·simp at h1
           ·exact⟨g,c,by rw[<- Bj];exact h1⟩
          have afy:xb≠g6:=Tv g6 rfl;have hg6:w.heap.size<=g6:=aI Bi g6 rfl;have akP:(n1:Int)-1=(n0:Int):=by omega
          have akQ:n0<n1:=by omega
          have Tw:n1<=c6/\c6<=maxLen:=by
           rcases ck Bi with⟨h1,_⟩|⟨g,c,h1,_,h2,h3⟩
           ·simp at h1
           ·rw[Bj]at h1 h2;cases h1;exact⟨h2,h3⟩
          obtain⟨aa7,LO⟩:=Tw;unfold maxLen at LO;have Kt:Hid (aJ W6 w.heap.size (.slice (some ⟨g6,0,none⟩) n1 c6) (out.take n0++x::out.drop n0)):=ae (by
           rw[List.take_of_length_le (by rw[k7.out];exact Nat.le_refl _),List.drop_of_length_le (by rw[k7.out];exact Nat.le_refl _)];exact Bi)
          have GK:=ae BU;clear Bi LN Tv Bj BU pZ c0 c1 c2 c3;go_wp2;go_loopw [7] (fun kv W=>∃(kk:Nat)(y:aD),k<=kk/\kk<=n0/\kv=.int .i64 (kk:Int)/\aJ W w.heap.size (.slice (some ⟨g6,0,none⟩) n1 c6) (out.take kk++y::out.drop kk)/\Below w.heap.size w W/\W.heap[xb]? = some (.cells #[.int .u32 (x.t.toNat:Int),.int .u32 (x.h.toNat:Int),.int .u64 (x.x.toNat:Int),.int .u32 (x.m.toNat:Int)] 64)) (fun kv _=>(intOf kv).toNat)
          case atStart=>exact⟨n0,x,hk,Nat.le_refl _,rfl,Kt.out,nw.out,aa6.out⟩
          case round=>
           generalize wr=W7 at *;obtain⟨kk,y,akR,LP,rfl,YH,MS,hx7⟩:=hrel;have Fj:=ae YH;have rY:=ae MS;have mq:=ae hx7;clear YH MS hx7;have hMl:(out.take kk++y::out.drop kk).length=n1:=by
            rw[List.length_append,List.length_cons,List.length_take,List.length_drop,k7.out,GK.out];omega
           have OL:=ae hMl;clear hMl;have HKY:Hid ((out.take kk++y::out.drop kk)[kk]? = some y):=ae (by
            rw[List.getElem?_append_right (by rw[List.length_take];omega),List.length_take,k7.out,Nat.min_eq_left LP,Nat.sub_self];rfl)
           obtain⟨p0,p1,p2,p3⟩:=bK (by rw[OL.out];exact Fj.out) HKY.out;have z0:=cB Fj.out (kk*4);have z1:=cB Fj.out (kk*4+1);have z2:=cB Fj.out (kk*4+2);have z3:=cB Fj.out (kk*4+3);by_cases zw:k<kk
           ·obtain⟨q,hq⟩:∃q:Nat,(q:Int)=(kk:Int)-1:=⟨kk-1,af⟩;have hq':(kk:Int)-1=(q:Int):=hq.symm;have hqk:kk-1=q:=by omega
            have HQK:=ae hqk;have hqn:q<n1:=by omega
            have hql:q<out.length:=by rw[k7.out];omega
            obtain⟨z,hz⟩:∃z,out[q]? = some z:=⟨_,List.getElem?_eq_getElem hql⟩;have hzz:out[kk-1]? = some z:=by rw[hqk];exact hz
            have HZ:Hid ((out.take kk++y::out.drop kk)[q]? = some z):=ae (by
             have:=Pu (x:=y) af (by rw[k7.out];exact LP) hzz;rw[hqk]at this;exact this)
            have Z6:Hid ((out.take kk++y::out.drop kk).set kk z=out.take q++z::out.drop q):=ae (by
             have:=Pt (x:=y) zw (by rw[k7.out];exact LP) hzz;rw[hqk]at this;exact this)
            have hown:=kA Fj.out (i:=kk) (by rw[OL.out];omega) z;rw[Z6.out]at hown;have wy:=ae hown;obtain⟨s0,s1,s2,s3⟩:=bK (by rw[OL.out];exact Fj.out) HZ.out;have UU:=ae (lC rY.out hg6 (kk*4) (kk*4+1) (kk*4+2) (kk*4+3) (.int .u32 (z.t.toNat:Int)) (.int .u32 (z.h.toNat:Int)) (.int .u64 (z.x.toNat:Int)) (.int .u32 (z.m.toNat:Int)));have HXS:=ae (I9 mq.out afy (kk*4) (kk*4+1) (kk*4+2) (kk*4+3) (.int .u32 (z.t.toNat:Int)) (.int .u32 (z.h.toNat:Int)) (.int .u64 (z.x.toNat:Int)) (.int .u32 (z.m.toNat:Int)));clear hq hqk hz hzz hown hql;go_wp2;go_roundw
            case rel=>exact⟨q,z,af,af,by first | rfl | go_num,wy.out,UU.out,HXS.out⟩
            case measure=>simp[intOf];omega
           ·obtain rfl:kk=k:=by omega
            obtain⟨c0,c1,c2,c3⟩:=Nv.out W7 mq.out;have hown:=kA Fj.out (i:=kk) (by rw[OL.out];omega) x;rw[Bh (by rw[k7.out];exact LP)]at hown;have wy:=ae hown;have UU:=ae (lC rY.out hg6 (kk*4) (kk*4+1) (kk*4+2) (kk*4+3) (.int .u32 (x.t.toNat:Int)) (.int .u32 (x.h.toNat:Int)) (.int .u64 (x.x.toNat:Int)) (.int .u32 (x.m.toNat:Int)));have akT:kk<n1:=by omega
            clear hown;go_wp2;go_roundw
            case rel=>exact⟨i+1,af,by go_num,out.take kk++x::out.drop kk,wy.out,LM.out,by rw[List.length_append,List.length_cons,List.length_take,List.length_drop,k7.out];omega,UU.out⟩
            case measure=>simp[intOf];omega
     ·obtain rfl:n0=k:=by omega
      have LM:Hid (dJ false (es.take (i+1)) (out.take n0++x::out.drop n0)):=ae (by
       rw[qT.out];refine nu.out.lay Jb.out (by rw[k7.out];exact Nat.le_refl _) Qj.out (fun j o' hj jM=>?_);have:=aN jM;rw[k7.out]at this;omega)
      have hdd:decide ((n0:Int)<(n0:Int))=false:=decide_eq_false af;have aa9:decide (n0<n0)=false:=decide_eq_false af;go_wp2_with fail;go_quiet (fail)
      have hb3:Below W2.heap.size W2 (W2.drewN nq):=below_drewN ak _;have jJ:=ae (cY.out.trans (hb3.mono cY.out.size));clear hb3;generalize W2.drewN nq=W3 at *;go_wp2_with fail;go_quiet (fail)
      have hb4:Below W3.heap.size W3 (W3.drewN nq):=below_drewN ak _;have mM:=ae (jJ.out.trans (hb4.mono jJ.out.size));clear hb4 hdd aa9;generalize W3.drewN nq=W4 at *;have HRx:Hid (aJ W4 w.heap.size (.slice oa n0 oc) out):=ae (aW nN.out mM.out);have YG:w.heap.size<=W4.heap.size:=Nat.le_trans hz1 mM.out.size;have Wf:out.length<=100000:=by rw[k7.out];omega
      have YD:xb<W4.heap.size:=Nat.lt_of_lt_of_le hs1 mM.out.size;have CT:Hid (W4.heap[xb]? = some (.cells #[.int .u32 (x.t.toNat:Int),.int .u32 (x.h.toNat:Int),.int .u64 (x.x.toNat:Int),.int .u32 (x.m.toNat:Int)] 64)):=ae ((mM.out.block _ hs1).trans HQ1.out);obtain⟨c0,c1,c2,c3⟩:=Nv.out W4 CT.out;go_wp2_with (at_builtin;refine cQ rfl _ _ rfl w.heap.size _ out rfl HRx.out x 1 rfl Wf YG ?_);intro v6 W6 Bi LN;have nw:=ae (D5 (WQ.out.trans (mM.out.mono hz1)) HRx.out LN);have pZ:W4.heap.size<(W4.alloc (.cells #[.int .u32 (x.t.toNat:Int),.int .u32 (x.h.toNat:Int),.int .u64 (x.x.toNat:Int),.int .u32 (x.m.toNat:Int)] 64)).heap.size:=by simp
      have aa6:Hid (W6.heap[xb]? = some (.cells #[.int .u32 (x.t.toNat:Int),.int .u32 (x.h.toNat:Int),.int .u64 (x.x.toNat:Int),.int .u32 (x.m.toNat:Int)] 64)):=ae (((LN.1.block xb af (fun e=>by have:=RZ.out xb e.symm;omega)).trans ((MapKept.heap_alloc W4 _).2 xb YD)).trans CT.out);have Tv:∀y,v6.ownBlock=some y->xb≠y:=fun y hy e=>by
       rcases LN.2 with h | h
       ·rw[h]at hy;have:=RZ.out y hy;omega
       ·rw[h]at hy;have:=Option.some.inj hy;omega
      obtain⟨n1,BU⟩:∃n1:Nat,n1=n0+1:=⟨_,rfl⟩;have Bj:(out++[x]).length=n1:=by rw[List.length_append,k7.out,BU];rfl
      obtain⟨g6,c6,rfl⟩:∃g c,v6=.slice (some ⟨g,0,none⟩) n1 c:=by
       rcases ck Bi with⟨h1,_⟩|⟨g,c,h1,_⟩
       ·simp at h1
       ·exact⟨g,c,by rw[<- Bj];exact h1⟩
      have afy:xb≠g6:=Tv g6 rfl;have hg6:w.heap.size<=g6:=aI Bi g6 rfl;have akP:(n1:Int)-1=(n0:Int):=by omega
      have akQ:n0<n1:=by omega
      have Tw:n1<=c6/\c6<=maxLen:=by
       rcases ck Bi with⟨h1,_⟩|⟨g,c,h1,_,h2,h3⟩
       ·simp at h1
       ·rw[Bj]at h1 h2;cases h1;exact⟨h2,h3⟩
      obtain⟨aa7,LO⟩:=Tw;unfold maxLen at LO;have Kt:Hid (aJ W6 w.heap.size (.slice (some ⟨g6,0,none⟩) n1 c6) (out.take n0++x::out.drop n0)):=ae (by
       rw[List.take_of_length_le (by rw[k7.out];exact Nat.le_refl _),List.drop_of_length_le (by rw[k7.out];exact Nat.le_refl _)];exact Bi)
      have GK:=ae BU;clear Bi LN Tv Bj BU pZ c0 c1 c2 c3;go_wp2;go_loopw [7] (fun kv W=>∃(kk:Nat)(y:aD),n0<=kk/\kk<=n0/\kv=.int .i64 (kk:Int)/\aJ W w.heap.size (.slice (some ⟨g6,0,none⟩) n1 c6) (out.take kk++y::out.drop kk)/\Below w.heap.size w W/\W.heap[xb]? = some (.cells #[.int .u32 (x.t.toNat:Int),.int .u32 (x.h.toNat:Int),.int .u64 (x.x.toNat:Int),.int .u32 (x.m.toNat:Int)] 64)) (fun kv _=>(intOf kv).toNat)
      case atStart=>exact⟨n0,x,hk,Nat.le_refl _,rfl,Kt.out,nw.out,aa6.out⟩
      case round=>
       generalize wr=W7 at *;obtain⟨kk,y,akR,LP,rfl,YH,MS,hx7⟩:=hrel;have Fj:=ae YH;have rY:=ae MS;have mq:=ae hx7;clear YH MS hx7;have hMl:(out.take kk++y::out.drop kk).length=n1:=by
        rw[List.length_append,List.length_cons,List.length_take,List.length_drop,k7.out,GK.out];omega
       have OL:=ae hMl;clear hMl;have HKY:Hid ((out.take kk++y::out.drop kk)[kk]? = some y):=ae (by
        rw[List.getElem?_append_right (by rw[List.length_take];omega),List.length_take,k7.out,Nat.min_eq_left LP,Nat.sub_self];rfl)
       obtain⟨p0,p1,p2,p3⟩:=bK (by rw[OL.out];exact Fj.out) HKY.out;have z0:=cB Fj.out (kk*4);have z1:=cB Fj.out (kk*4+1);have z2:=cB Fj.out (kk*4+2);have z3:=cB Fj.out (kk*4+3);by_cases zw:n0<kk
       ·omega
       ·obtain rfl:kk=n0:=by omega
        obtain⟨c0,c1,c2,c3⟩:=Nv.out W7 mq.out;have hown:=kA Fj.out (i:=kk) (by rw[OL.out];omega) x;rw[Bh (by rw[k7.out];exact LP)]at hown;have wy:=ae hown;have UU:=ae (lC rY.out hg6 (kk*4) (kk*4+1) (kk*4+2) (kk*4+3) (.int .u32 (x.t.toNat:Int)) (.int .u32 (x.h.toNat:Int)) (.int .u64 (x.x.toNat:Int)) (.int .u32 (x.m.toNat:Int)));have akT:kk<n1:=by omega
        clear hown;go_wp2;go_roundw
        case rel=>exact⟨i+1,af,by go_num,out.take kk++x::out.drop kk,wy.out,LM.out,by rw[List.length_append,List.length_cons,List.length_take,List.length_drop,k7.out];omega,UU.out⟩
        case measure=>simp[intOf];omega
  ·obtain rfl:N=i:=by omega
   go_wp2;go_ret;refine⟨_,rfl,?_,HB.out⟩;have h:=nu.out;rw[Co.out]at h;rw[<- h.eq];exact HR.out
theorem abb{x y:aD}:(y.t=x.t/\y.h=x.h/\y.x=x.x/\y.m=x.m)↔y=x:=by
 cases x;cases y;simp
instance akU:DecidableEq aD:=fun y x=>decidable_of_iff (y.t=x.t/\y.h=x.h/\y.x=x.x/\y.m=x.m) abb
noncomputable section
def aX(es:List aD)(v:Nat):List aD:=II false v (aC false es)
def fJ(es:List aD)(v:Nat):List aD:=II true v (aC true es)
def Tx(l:List Nat):List Nat:=l.foldl (fun a x=>if x∈a then a else a++[x]) []
def cV(es:List aD)(v:Nat):List Nat:=Tx ((aX es v).map (·.h.toNat)++(fJ es v).map (·.t.toNat))
structure zy where
 v:Nat
 k:Nat
 n:List Nat
def Ty(i o s:Nat)(x:cj):Nat:=(Tr i o s x.l.toNat x.g.toNat).toNat
def oW(es:List aD)(v:Nat)(x:cj):zy:=⟨v,Ty (fJ es v).length (aX es v).length (nA (aX es) (fun _=>false) (fJ es v) (UInt32.ofNat v)).length x,cV es v⟩
def eu(es:List aD)(vs:List cj):List zy:=vs.zipIdx.filterMap fun p=>if p.1.r=4294967295 then some (oW es p.2 p.1) else none
def gM(a b:zy):Prop:=a.k<b.k\/a.k=b.k/\a.v<b.v
instance(a b:zy):Decidable (gM a b):=by unfold gM;infer_instance
def Bk(cs:List zy)(v:Nat):Prop:=∃a∈cs,∃b∈cs,b.v∈a.n/\a.v≠b.v/\(gM a b/\b.v=v\/¬gM a b/\a.v=v)
instance(cs:List zy)(v:Nat):Decidable (Bk cs v):=by unfold Bk;infer_instance
def lf(cs:List zy):List Nat:=(cs.map (·.v)).filter fun v=>¬Bk cs v
def az(es:List aD)(vs:List cj):List Nat:=lf (eu es vs)
def gO(es:List aD)(ch:List Nat):List aD:=(aC false es).filter fun x=>x.t.toNat ∉ ch/\x.h.toNat ∉ ch
def iu(es:List aD)(ch:List Nat)(v:Nat):List aD:=nA (aX es) (fun w=>decide (w∈ch)) (fJ es v) (UInt32.ofNat v)
def ew(es:List aD)(ch:List Nat):List aD:=gO es ch++ch.flatMap (iu es ch)
def yK(es:List aD)(ch:List Nat):List aD:=ch.flatMap (aX es)
def gu(es:List aD)(ch:List Nat):List aD:=ch.flatMap (fJ es)
def kL(lv:UInt32)(vs:List cj)(w:Nat):List cj:=vs.modify w fun x=>⟨x.r,if x.l<lv then lv else x.l,x.g+1⟩
def gw(es:List aD)(was:List cj)(done gen:Nat)(vs:List cj)(i v:Nat):List cj:=
 (cV es v).foldl (kL (((was[v]?).map (·.l)).getD 0+1)) (vs.modify v fun x=>⟨UInt32.ofNat (done+i),UInt32.ofNat (gen+1),x.g⟩)
def cS(es:List aD)(was:List cj)(done gen:Nat)(ch:List Nat):List cj:=ch.zipIdx.foldl (fun vs p=>gw es was done gen vs p.2 p.1) was
end
end
section
open Go.RowKit Go.Maps
theorem oX{α:Type}[DecidableEq α]{WR:List α}:∀{l₂:List α},WR.Nodup->(∀x∈WR,x∈l₂)->WR.length<=l₂.length:=by
 induction WR with
 |nil=>simp
 |cons a l ih=>
   intro l₂ h hs;obtain⟨s,t,rfl⟩:=List.append_of_mem (hs a ai);rw[List.nodup_cons]at h;have:=ih (l₂:=s++t) h.2 (fun x hx=>by
    grind)
   grind
theorem zA{b:Bool}{v:Nat}{l:List aD}{x:aD}(h:x∈II b v l):x∈l/\gj b x=v:=by
 grind [II]
section
variable {w0 w w':World} {pb db n:Nat} {o o':au} {d d':Dsk} {L L':aH}
theorem Held.abd{w1:World}(h:Held w1 w pb db n o d L)(hb:Below w0.heap.size w0 w1):Held w0 w pb db n o d L:=
 ⟨h.aY,fun x t hx=>Nat.le_trans hb.size (h.new x t hx),hb.trans (h.below.mono hb.size),h.dP,h.dead,h.bO⟩
end
end
end Go.Proofs.YthkkgdpomhhjjaaGreatDoor
