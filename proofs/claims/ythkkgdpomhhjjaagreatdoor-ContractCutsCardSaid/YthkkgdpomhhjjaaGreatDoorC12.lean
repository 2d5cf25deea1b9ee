/-
  Joined.
-/
import Derived.Test.YthkkgdpomhhjjaaGreatDoorC11
import Derived.Shelf.SlSortCmp.WholeK
import Derived.Lib.ItoaMem
set_option maxRecDepth 100000
set_option maxHeartbeats 16000000
namespace Go.Proofs.YthkkgdpomhhjjaaGreatDoor
open Go.Proofs.Tryz
section
open Go.RowKit Go.Maps
section
variable {S:Nat->Prop} {w0 w w':World} {pb db n gb gen N ob ib vb:Nat} {o o':ar} {d d':Dsk} {L L':aC}
theorem cW.La(h:cW w o gb pb gen N ob ib vb)(hm:aw S n pb db w o d w' o' d' L')(hs:∀x,x<w.heap.size->¬S x):cW w' o' gb pb gen N ob ib vb:=
 ⟨h.raw.moved hm h.Vu (hs _ h.raw.lt),h.out.moved hm h.PL (hs _ h.out.lt),h.qH.moved hm h.Ua (hs _ h.qH.lt),h.qO.moved hm h.Jv (hs _ h.qO.lt),hm.free h.raw.lt h.Vu,hm.free h.out.lt h.PL,hm.free h.qH.lt h.Ua,hm.free h.qO.lt h.Jv⟩
def wN(x:aF):Value:=.agg #[.int .u32 (x.t.toNat:Int),.int .u32 (x.h.toNat:Int),.int .u64 (x.x.toNat:Int),.int .u32 (x.m.toNat:Int)]
theorem Lb(HW:aQ)(h:Held w0 w pb db n o d L)(hq:need L<=131072)(hg:cW w o gb pb gen N ob ib vb){es:List aF}{fl:Bool}(hL:aA L (aJ 101 gen)=some (au es fl)) :
 Calls prog 27 #[ptrTo gb] w fun e w'=>∃d' o',e=.returned (.tuple #[.int .i64 (es.length:Int),.int .i64 0])/\aw (fun _=>False) n pb db w o d w' o' d' L:=by
 refine(Ax HW h.aX hg hL).mono ?_;rintro e w'⟨c,d',o',⟨x,rfl,hx⟩,hm,he⟩;grind [Held.pU]
theorem OL(HW:aQ)(h:Held w0 w pb db n o d L)(hq:need L<=131072)(hg:cW w o gb pb gen N ob ib vb){es:List aF}{fl:Bool}(hL:aA L (aJ 101 gen)=some (au es fl)){i:Nat}{x:aF}(hi:es[i]? = some x) :
 Calls prog 28 #[ptrTo gb,.int .i64 (i:Int)] w fun e w'=>∃d' o',e=.returned (.tuple #[wN x,.int .i64 0])/\aw (fun _=>False) n pb db w o d w' o' d' L:=by
 refine(E0 HW h.aX hg hL hi).mono ?_;rintro e w'⟨c,d',o',y,rfl,hm,he,hy,-⟩;have h0:c=0:=h.pU hm he hq;subst h0;rw[hy rfl];exact⟨d',o',rfl,hm⟩
def ju(n pb db:Nat)(w:World)(o:ar)(d:Dsk)(L:aC)(ts:List aF)(e:Ending)(w':World):Prop:=
 ∃v d' o',e=.returned (.tuple #[v,.int .i64 0])/\aw (fun _=>False) n pb db w o d w' o' d' L/\aI w' w.heap.size v ts/\∀x,v.ownBlock=some x->o' x=none
theorem IG(HW:aQ)(h:Held w0 w pb db n o d L)(hq:need L<=131072)(hg:cW w o gb pb gen N ob ib vb){es:List aF}(hL:aA L (aJ 101 gen)=some (au (aK false es) true))(hl:es.length<=1000){v:Nat}(hv:v<N)(hN:N<=1000) :
 Calls prog 21 #[ptrTo gb,.int .u32 (v:Int)] w (ju n pb db w o d L (H9 false v (aK false es))):=by
 refine(Ib HW h.aX hg hL (xX false es) (by grind [b9]) hv ae).mono ?_;rintro e w'⟨v',c,d',o',rfl,hm,he,hv',-⟩;have h0:c=0:=h.pU hm he hq;subst h0;obtain⟨h1,h2⟩:=hv' rfl;exact⟨v',d',o',rfl,hm,h1,h2⟩
theorem VS(HW:aQ)(h:Held w0 w pb db n o d L)(hq:need L<=131072)(hg:cW w o gb pb gen N ob ib vb){es:List aF}(hL:aA L (aJ 114 gen)=some (au (aK true es) true))(hl:es.length<=1000){v:Nat}(hv:v<N)(hN:N<=1000) :
 Calls prog 22 #[ptrTo gb,.int .u32 (v:Int)] w (ju n pb db w o d L (H9 true v (aK true es))):=by
 refine(KL HW h.aX hg hL (xX true es) (by grind [b9]) hv ae).mono ?_;rintro e w'⟨v',c,d',o',rfl,hm,he,hv',-⟩;have h0:c=0:=h.pU hm he hq;subst h0;obtain⟨h1,h2⟩:=hv' rfl;exact⟨v',d',o',rfl,hm,h1,h2⟩
theorem OM(HW:aQ)(h:Held w0 w pb db n o d L)(hq:need L<=131072){vs:List cr}{fl:Bool}(hg:cW w o gb pb gen vs.length ob ib vb)(hL:aA L (aJ 118 gen)=some (b6 vs fl)){v:Nat}(hv:v<vs.length)(hv':v<4294967296) :
 Calls prog 23 #[ptrTo gb,.int .u32 (v:Int)] w fun e w'=>∃d' o',e=.returned (.tuple #[KF vs[v],.int .i64 0])/\aw (fun _=>False) n pb db w o d w' o' d' L:=by
 refine(ET HW h.aX hg hL rfl v hv hv').mono ?_;rintro e w'⟨c,d',o',rfl,hm,he⟩;grind [Held.pU]
end
def XH(l:List UInt8):Nat:=l.foldl (fun a b=>a*10+(b.toNat-48)) 0
theorem OO(k:Nat):XH (Lib.decDigits k)=k:=by
 induction k using Nat.strongRecOn with
 |_ k ih=>
   have hd:∀j,j<10->(UInt8.ofNat (48+j)).toNat-48=j:=by decide
   grind [Lib.decDigits,XH]
theorem bq{c c':UInt8}{k k':Nat}(h:k≠k'):aJ c k≠aJ c' k':=by
 grind [aJ,OO]
end
section
open Go.RowKit Go.Maps
open Go.ChangeMaps (setBlock)
theorem mg{P:Program}{t:TypeId}{a b c}(h:P.underlying t=some (.func a b c))(f:Fn)(bs cs:Array Value)(w:World):(binOp .eql t (.func f bs cs) .nilFunc).run P w=.ok (.bool false) w:=by
 have e:(Op.equalIn (9999+1) t (.func f bs cs) .nilFunc).run P w=.ok false w:=by
  unfold Op.equalIn;simp[run_underlying h,Result.andThen]
 have e2:(Op.equal t (.func f bs cs) .nilFunc).run P w=.ok false w:=e;unfold binOp;simp_all
theorem bO.len{κ υ:Type}{P:Program}{kt t e:TypeId}{ek:κ->Value}{ev:υ->Value}{w:World}{b:Nat}{m:List (κ×υ)}(h:bO P kt ek ev w b m)(ht:P.underlying t=some (.map kt e))(ty:TypeId):(Builtin.len_ #[t] ty #[.map (some b)]).run P w=.ok (.int .i64 (m.length:Int)) w:=by
 obtain⟨es,clock,l,hb,hp,-,hl,-⟩:=h;have e1:es.size=m.length:=by
  have:=congrArg List.length hl;grind [List.Perm.length_eq]
 rw[<- e1];simp[Builtin.len_,run_underlying ht,MapKept.run_getObj_map hb,goInt,Result.andThen]
theorem CB{κ υ:Type}{P:Program}{kt t e:TypeId}{ek:κ->Value}{ev:υ->Value}(w:World){ops:Array Oper}{rest:List Oper}{o:Oper}{a:Act}{Q:Exit->Act->World->Prop}(hg:o.guard=none)(x:Operand)(hop:o.op=Op.call { callee:=Callee.builtin Builtin.len,args:=#[x],argTypes:=#[t] })(ht:P.underlying t=some (.map kt e))(b:Nat)(m:List (κ×υ))(hx:a.eval x=.map (some b))(h:bO P kt ek ev w b m)(hK:wpList P ops Q rest (a.put o.dst (.int .i64 (m.length:Int))) w):wpList P ops Q (o::rest) a w:=by
 refine wpList_plain hg fun K' hK'=>?_;have hrun:=h.len ht o.type;unfold Oper.wp execOp;simp only[hop,resolve,invoke,builtin,Sem.run_bind,Sem.run_pure,Result.andThen_ok,List.map_toArray,List.map_cons,List.map_nil,hx,hrun];exact hK' _ _ hK
abbrev jv(w:World)(b:Nat)(S:List Nat):Prop:=bO prog 26 iT (fun _:Unit=>Value.agg #[]) w b (S.map fun x=>(x,()))
theorem nK{P:Program}{kt t e:TypeId}{ek:Nat->Value}{ev:Unit->Value}(w:World){ops:Array Oper}{rest:List Oper}{o:Oper}{a:Act}{Q:Exit->Act->World->Prop}(hg:o.guard=none)(x:Operand)(hop:o.op=Op.call { callee:=Callee.builtin Builtin.len,args:=#[x],argTypes:=#[t] })(ht:P.underlying t=some (.map kt e))(b:Nat)(St:List Nat)(hx:a.eval x=.map (some b))(h:bO P kt ek ev w b (St.map fun x=>(x,())))(hK:wpList P ops Q rest (a.put o.dst (.int .i64 (St.length:Int))) w):wpList P ops Q (o::rest) a w:=
 CB w hg x hop ht b _ hx h (by rw[List.length_map];exact hK)
theorem rH(S:List Nat)(x:Nat):pW (S.map fun x=>(x,())) x=decide (x∈S):=by
 grind [pW,aA]
theorem E7{S:List Nat}{x:Nat}(h:x ∉ S):aS (S.map fun x=>(x,())) x ()=(x::S).map fun x=>(x,()):=by
 grind [aS,nP]
section
variable {S:Nat->Prop} {n pb db:Nat} {w w' w'':World} {o o' gL:ar} {d d' gw:Dsk} {L L' xJ:aC}
theorem aw.yZ(h:aw S n pb db w o d w' o' d' L'){B:Nat->Prop}(hB:∀b,b<w'.heap.size->B b->o' b=none/\(S b\/w.heap.size<=b))(ht:aH B w' w''):aw S n pb db w o d w'' o' d' L':=by
 have ht':aH (fun b=>b<w'.heap.size/\B b) w' w'':=ht.mono (fun x hx hb=>⟨hx,hb⟩);refine⟨h.aX.kept ht' (fun x hx e=>ar.dF (hB x e.1 e.2).1 hx) (fun _ _ h=>h) (fun x t hx=>Nat.lt_of_lt_of_le (h.aX.owned x t hx) ht.size),h.turn.trans ht (fun x hx e=>?_),h.grow,h.on⟩;grind [Nat.lt_of_lt_of_le,size]
structure vh(n pb db:Nat)(w:World)(o:ar)(d:Dsk)(L:aC)(N:Nat)(X:Nat->Prop)(fb sb:Nat)(St:List Nat)(m:yV)(c:Nat)(W:World)(o':ar)(d':Dsk):Prop where
 fr:∃B,ee W fb B m c/\∀b,B b->w.heap.size<=b/\b<W.heap.size/\o' b=none/\b≠sb/\¬X b
 st:jv W sb St
 sg:w.heap.size<=sb/\o' sb=none
 mv:aw (fun _=>False) n pb db w o d W o' d' L
 gd:∀p∈m,p.1<N/\p.2<9223372036854775808/\p.1 ∉ St
variable {N fb sb c:Nat} {X:Nat->Prop} {St:List Nat} {m m':yV} {W W':World} {B:Nat->Prop}
theorem ee.more(f:ee W fb B m c){c':Nat}(h:c<=c'):ee W fb B m c':=by
 obtain⟨hb,mb,v,h',f,hw,hc,r⟩:=f;exact⟨hb,mb,v,h',f,hw,Nat.le_trans hc h,r⟩
theorem ee.keys(f:ee W fb B m c):(m.map (·.1)).Nodup:=by
 obtain⟨hb,mb,v,h',f,_⟩:=f;exact f.far.keys
theorem vh.below(h:vh n pb db w o d L N X fb sb St m c W o' d')(hb:Below W.heap.size W W'):vh n pb db w o d L N X fb sb St m c W' o' d':=by
 obtain⟨B,h1,h2⟩:=h.fr;exact⟨⟨B,h1.kept (fun b hb'=>hb.block b (h2 b hb').2.1),fun b hb'=>⟨(h2 b hb').1,Nat.lt_of_lt_of_le (h2 b hb').2.1 hb.size,(h2 b hb').2.2⟩⟩,h.st.kept (hb.block _ h.st.lt),h.sg,h.mv.below hb,h.gd⟩
theorem vh.moved(h:vh n pb db w o d L N X fb sb St m c W o' d')(hm:aw (fun _=>False) n pb db W o' d' w' gL gw L):vh n pb db w o d L N X fb sb St m c w' gL gw:=by
 obtain⟨B,h1,h2⟩:=h.fr;refine⟨⟨B,h1.kept (fun b hb'=>hm.block (h2 b hb').2.1 (h2 b hb').2.2.1 (fun e=>e)),fun b hb'=>⟨(h2 b hb').1,Nat.lt_of_lt_of_le (h2 b hb').2.1 hm.size,hm.free (h2 b hb').2.1 (h2 b hb').2.2.1,(h2 b hb').2.2.2⟩⟩,h.st.kept (hm.block h.st.lt h.sg.2 (fun e=>e)),⟨h.sg.1,hm.free h.st.lt h.sg.2⟩,h.mv.trans hm (fun _ _ e=>e),h.gd⟩
theorem vh.turned(h:vh n pb db w o d L N X fb sb St m c W o' d'){B B':Nat->Prop}{c':Nat}(hB:∀b,B b->w.heap.size<=b/\b<W.heap.size/\o' b=none/\b≠sb/\¬X b)(ht:aH B W W')(hf:ee W' fb B' m' c')(Ui:∀b,B' b->B b\/W.heap.size<=b/\b<W'.heap.size)(hX:∀b,X b->b<W.heap.size)(hg:∀p∈m',p.1<N/\p.2<9223372036854775808/\p.1 ∉ St):vh n pb db w o d L N X fb sb St m' c' W' o' d'/\∀b,X b->W'.heap[b]? = W.heap[b]? := by
 refine⟨⟨⟨B',hf,fun b hb=>?_⟩,h.st.kept (ht.block _ h.st.lt (fun e=>(hB _ e).2.2.2.1 rfl)),h.sg,h.mv.yZ (fun b _ hb=>⟨(hB b hb).2.2.1,.inr (hB b hb).1⟩) ht,hg⟩,fun b hb=>ht.block b (hX b hb) (fun e=>(hB b e).2.2.2.2 hb)⟩;rcases Ui b hb with e | e
 ·grind [Nat.lt_of_lt_of_le,aH.size]
 ·exact⟨Nat.le_trans h.mv.size e.1,e.2,h.mv.aX.fresh e.1,fun e'=>by have:=h.st.lt;omega,fun hx=>by grind⟩
theorem vh.settled(h:vh n pb db w o d L N X fb sb St m c W o' d'){v:Nat}(hv:v ∉ St){es:Array MapEntry}{clock:Nat}(hm:bO prog 26 iT (fun _:Unit=>Value.agg #[]) (setBlock W sb (.map es clock)) sb (aS (St.map fun x=>(x,())) v ()))(hg:∀p∈m,p.1≠v) :
 vh n pb db w o d L N X fb sb (v::St) m c (setBlock W sb (.map es clock)) o' d':=by
 obtain⟨B,h1,h2⟩:=h.fr;have hs:(setBlock W sb (.map es clock)).heap.size=W.heap.size:=by grind [setBlock]
 refine⟨⟨B,h1.kept (fun b hb=>bg _ (h2 b hb).2.2.2.1),fun b hb=>⟨(h2 b hb).1,by grind,(h2 b hb).2.2⟩⟩,by grind [E7],h.sg,h.mv.turned h.sg.2 (.inr h.sg.1) ((aH.refl _ W).setBlock _ _ (.inl rfl)),fun p hp=>⟨(h.gd p hp).1,(h.gd p hp).2.1,fun e=>?_⟩⟩;rcases List.mem_cons.1 e with e | e
 ·grind
 ·exact(h.gd p hp).2.2 e
theorem vh.wider(h:vh n pb db w o d L N X fb sb St m c W o' d'){X':Nat->Prop}(hX:∀b,X' b->b<W.heap.size->X b){c':Nat}(hc:c<=c'):vh n pb db w o d L N X' fb sb St m c' W o' d':=by
 obtain⟨B,h1,h2⟩:=h.fr;exact⟨⟨B,h1.more hc,fun b hb=>⟨(h2 b hb).1,(h2 b hb).2.1,(h2 b hb).2.2.1,(h2 b hb).2.2.2.1,fun e=>(h2 b hb).2.2.2.2 (hX b e (h2 b hb).2.1)⟩⟩,h.st,h.sg,h.mv,h.gd⟩
theorem vh.fresh(h:vh n pb db w o d L N X fb sb St m c W o' d'):vh n pb db w o d L N (fun b=>W.heap.size<=b) fb sb St m c W o' d':=by
 obtain⟨B,h1,h2⟩:=h.fr;exact⟨⟨B,h1,fun b hb=>⟨(h2 b hb).1,(h2 b hb).2.1,(h2 b hb).2.2.1,(h2 b hb).2.2.2.1,fun e=>by grind⟩⟩,h.st,h.sg,h.mv,h.gd⟩
theorem uJ(l:List (Nat×Unit))(x:Nat):((aA l x).map (fun _:Unit=>Value.agg #[])).getD (Value.agg #[])=Value.agg #[]:=by
 cases aA l x<;>rfl
theorem mW{A:Nat->Bool}{St:List Nat}{Io:Nat}{m:yV}{ts:List aF}{j:Nat}{x:aF}(h:ts[j]? = some x) :
 kQ A St Io m (ts.take (j+1))=if Io+x.x.toNat<9223372036854775808/\x.h.toNat ∉ St/\A x.h.toNat=false then qR (kQ A St Io m (ts.take j)) x.h.toNat (Io+x.x.toNat) else kQ A St Io m (ts.take j):=by
 grind [List.take_succ_eq_append_getElem,kQ]
theorem OP{m:yV}{v d:Nat}{p:Nat×Nat}(h:p∈qR m v d):p∈m\/p=(v,d):=by
 grind [aS,gl,qR]
end
end
section
open Go.RowKit Go.Maps
open Go.ChangeMaps (setBlock)
def oJ(n pb db:Nat)(w:World)(o:ar)(d:Dsk)(L:aC)(r:Bool)(e:Ending)(w':World):Prop:=
 ∃d' o',e=.returned (.tuple #[.bool r,.int .i64 0])/\aw (fun _=>False) n pb db w o d w' o' d' L
def II:Option Obj->Nat
 |some (.map es _)=>es.size
 |_=>0
theorem jv.II{W:World}{sb:Nat}{St:List Nat}(h:jv W sb St):II W.heap[sb]? = St.length:=by
 obtain⟨es,clock,l,hb,hp,-,hl,-⟩:=h;rw[hb];have:=congrArg List.length hl;simp at this;show es.size=_;rw[this,hp.length_eq];simp
theorem DA(w:World):(zeroValue 245).run prog w=.ok (.agg #[]) w:=Tryz.zeroValue245 w
structure s6(w0 w:World)(pb db n:Nat)(o:ar)(d:Dsk)(L:aC)(gb gen N ob ib vb:Nat)(es:List aF)(A:Nat->Bool)(sv av:Nat)(K:Nat->Prop):Prop where
 held:Held w0 w pb db n o d L
 need:need L<=131072
 gr:cW w o gb pb gen N ob ib vb
 file:aA L (aJ 101 gen)=some (au (aK false es) true)
 len:es.length<=1000
 top:N<=1000
 ends:∀x∈es,x.t.toNat<N/\x.h.toNat<N
 pH:∀b,K b->b<w.heap.size/\o b=none
 aed:∀W(x:Nat),(∀b,K b->W.heap[b]? = w.heap[b]?)->w.heap.size<=W.heap.size->x<4294967296->Calls prog 200 #[.int .u32 (x:Int),.pointer (some ⟨sv,0,none⟩),.pointer (some ⟨av,0,none⟩)] W fun e W'=>e=.returned (.bool (A x))/\Below W.heap.size W W'
section
variable {w0 w w':World} {pb db n gb gen N ob ib vb sv av:Nat} {o o':ar} {d d':Dsk} {L:aC} {es:List aF} {A:Nat->Bool} {K:Nat->Prop}
theorem s6.moved(h:s6 w0 w pb db n o d L gb gen N ob ib vb es A sv av K)(hm:aw (fun _=>False) n pb db w o d w' o' d' L):s6 w0 w' pb db n o' d' L gb gen N ob ib vb es A sv av K:=
 ⟨h.held.moved hm (fun _ e=>e.elim),h.need,h.gr.La hm (fun _ _ e=>e),h.file,h.len,h.top,h.ends,fun b hb=>⟨Nat.lt_of_lt_of_le (h.pH b hb).1 hm.size,hm.free (h.pH b hb).1 (h.pH b hb).2⟩,
  fun W x hk hs hx=>h.aed W x (fun b hb=>(hk b hb).trans (hm.block (h.pH b hb).1 (h.pH b hb).2 (fun e=>e))) (Nat.le_trans hm.size hs) hx⟩
theorem s6.out(HW:aQ)(h:s6 w0 w pb db n o d L gb gen N ob ib vb es A sv av K){v:Nat}(hv:v<N):Calls prog 21 #[ptrTo gb,.int .u32 (v:Int)] w (ju n pb db w o d L (aY es v)):=
 IG HW h.held h.need h.gr h.file h.len hv h.top
theorem AU{es:List aF}{v:Nat}{x:aF}(h:x∈aY es v):x∈es/\x.t.toNat=v:=
 ⟨((bU false es).mem x (yY h).1).1,(yY h).2⟩
theorem mX(es:List aF)(v:Nat):(aY es v).length<=es.length:=by
 have:=b9 false es;exact Nat.le_trans (List.length_filter_le _ _) this
theorem IJ(HW:aQ)(h:s6 w0 w pb db n o d L gb gen N ob ib vb es A sv av K)(u t most:Nat)(hu:u<N) :
 Calls prog 202 #[.func (.func 21) #[ptrTo gb] #[],.func (.func 200) #[] #[.pointer (some ⟨sv,0,none⟩),.pointer (some ⟨av,0,none⟩)],.int .u32 (u:Int),.int .u32 (t:Int),.int .u64 (most:Int)] w (oJ n pb db w o d L (mU (aY es) A t most 16 [(u,0)] [])):=by
 have H:=aa h;have HN:Hid (N<=1000):=aa h.top;have Zp:Hid (∀W o' d',aw (fun _=>False) n pb db w o d W o' d' L->∀v,v<N->Calls prog 21 #[ptrTo gb,.int .u32 (v:Int)] W (ju n pb db W o' d' L (aY es v))):=aa (fun W o' d' hm v hv=>(H.o.moved hm).out HW hv);clear h;obtain⟨R,HR⟩:∃R,Hid (mU (aY es) A t most 16 [(u,0)] []=R):=⟨_,aa rfl⟩;rw[HR.out];unfold ptrTo at *;have Bu:=mg Tryz.underlying53 (.func 21) #[.pointer (some ⟨gb,0,none⟩)] #[];have T6:=mg Tryz.underlying234 (.func 200) #[] #[.pointer (some ⟨sv,0,none⟩),.pointer (some ⟨av,0,none⟩)];have vG:∀(t:TypeId)(W:World),(Instr.makeMap t none).run prog W=.ok (.map (some W.heap.size)) (W.alloc (.map #[] 0)):=fun _ _=>rfl;have HZU:=aa DA;go_enter func202,ntmps202;go_wp2_with fail;clear Bu T6;refine(Il w).mono ?_;rintro e w1⟨rfl,zu,hb1,hs1⟩;obtain⟨B4,oU,HF4⟩:∃B:Nat->Prop,Hid (∀b,B b->w.heap.size<=b/\b<w1.heap.size+2)/\Hid (ee ((w1.alloc (.map #[] 0)).alloc (.cells #[.pointer (some ⟨w.heap.size,0,none⟩),.map (some w1.heap.size)] 325)) (w1.heap.size+1) B [] 0):=by
  refine⟨fun b=>b=w.heap.size\/b=w1.heap.size\/b=w1.heap.size+1,aa (fun b hb=>by omega),aa ⟨w.heap.size,w1.heap.size,.slice none 0 0,[],⟨?_,?_,fun j h1 h2=>by grind,?_,ae,ae,ae,by simp[Value.ownBlock],by simp[Value.ownBlock]⟩,⟨fun v d e=>(by cases e),fun y hy=>(by cases hy)⟩,Nat.le_refl _,.inr (.inr rfl),.inl rfl,.inr (.inl rfl),fun b e=>(by cases e)⟩⟩
  ·grind [World.alloc,ptrTo]
  ·exact zu.below (ai.alloc ah _)
  ·exact(bO.made w1 prog 26 iT ad0).kept ((MapKept.heap_alloc _ _).2 _ ah)
 have Z3:Hid (Below w.heap.size w ((w1.alloc (.map #[] 0)).alloc (.cells #[.pointer (some ⟨w.heap.size,0,none⟩),.map (some w1.heap.size)] 325))):=aa ((hb1.alloc hb1.size _).alloc (by simp;omega) _);have gj:Hid (((w1.alloc (.map #[] 0)).alloc (.cells #[.pointer (some ⟨w.heap.size,0,none⟩),.map (some w1.heap.size)] 325)).heap.size=w1.heap.size+2):=aa ah;have hcm:=aa (Iq HF4.out ae u 0 (by grind [Hid.out]));clear zu hb1 hs1;unfold ptrTo at *;go_wp2_with fail;refine hcm.o.mono ?_;rintro e w5⟨rfl,hf5,rO⟩;obtain⟨sb,yU⟩:∃sb,sb=w5.heap.size:=⟨_,rfl⟩;obtain⟨fb,Yx⟩:∃fb,fb=w1.heap.size+1:=⟨_,rfl⟩;have EG:Hid (vh n pb db w o d L N (fun _=>False) fb sb [] [(u,0)] 1 (w5.alloc (.map #[] 0)) o d):=aa (by
  subst yU Yx;have MH:=H.o.held.aX;have hsz:=gj.o;have uT:=Z3.o.size;have TQ:=rO.size;refine⟨⟨_,hf5.kept (fun b hb=>(MapKept.heap_alloc _ _).2 b ?_),fun b hb=>?_⟩,bO.made w5 prog 26 iT (fun _:Unit=>Value.agg #[]),⟨ae,MH.fresh ae⟩,((aw.aU MH Z3.o).yZ (fun b _ hb=>⟨MH.fresh (oU.out b hb).1,.inr (oU.out b hb).1⟩) rO).alloc _,fun p hp=>?_⟩
  ·grind [Hid.out]
  ·have h1:w.heap.size<=b/\b<w5.heap.size:=by
    grind [Hid.out]
   exact⟨h1.1,by simp;omega,MH.fresh h1.1,ae,fun e=>e⟩
  grind)
 have HSB:Hid (sb<(w5.alloc (.map #[] 0)).heap.size):=aa (by simp_all);clear hcm HF4 oU Z3 gj hf5 rO;go_wp2_with fail;rw[<- yU];try rw[<- Yx]
 clear yU Yx;generalize w5.alloc (.map #[] 0)=W6 at *;go_loopw [] (fun wr=>∃St m c d' o',Hid (vh n pb db w o d L N (fun _=>False) fb sb St m c wr o' d')/\Hid (c<=1+St.length*1000/\St.length<=16)/\Hid (mU (aY es) A t most (16-St.length) m St=R)) (fun wr=>16-II wr.heap[sb]?)
 case atStart=>grind [aa]
 case round=>
  obtain⟨St,m,c,d2,o2,HS,HC,PB⟩:=hrel;clear EG;generalize wr=Wr at *;obtain⟨B,hF,hB⟩:=HS.out.fr;have HK:=aa hF.keys;have hle:=aa (OD hF (by grind [Hid.out]));have Jo:=aa hB;clear hF hB;unfold ptrTo wH at hle;go_wp2_with fail;refine hle.o.mono ?_;rintro e w2 (⟨hn,rfl,ht⟩|⟨v,dd,hn,rfl,hF2,ht⟩)
  ·have HQ:Hid (oJ n pb db w o d L R (.returned (.tuple #[.bool false,.int .i64 0])) w2):=aa ⟨d2,o2,by
    rw[<- PB.out];cases 16-St.length with
    |zero=>rfl
    |succ k=>rw[mU,hn],HS.out.mv.yZ (fun b _ hb=>⟨(Jo.o b hb).2.2.1,.inr (Jo.o b hb).1⟩) ht⟩
   clear hle;go_wp2;go_returns;exact HQ.o
  ·have mo:=(AJ hn).1;have hgd:=HS.out.gd _ mo;have eM:Hid (vh n pb db w o d L N (fun _=>False) fb sb St (b7 m v) c w2 o2 d2):=aa (HS.out.turned Jo.o ht hF2 (fun b hb=>.inl hb) (fun b hb=>hb.elim) (fun p hp=>HS.out.gd p (gl.1 hp).1)).1;have HV:Hid (v<N/\dd<9223372036854775808/\v ∉ St):=aa hgd;have HMN:Hid (II Wr.heap[sb]? = St.length):=aa HS.out.st.II;have HRK:Hid (R=if St.length=16 then false else if most<dd then false else if v=t then true else mU (aY es) A t most (16-(St.length+1)) (kQ A (v::St) dd (b7 m v) (aY es v)) (v::St)):=aa (by
    rw[<- PB.out];by_cases Z4:St.length=16
    ·rw[if_pos Z4,Z4];rfl
    ·rw[if_neg Z4,show 16-St.length=(16-(St.length+1))+1 by have:=HC.out;omega,mU,hn])
   clear hle mo hgd hn hF2 ht HS Jo HK;by_cases jc:most<dd
   ·have hmz:(dd:Int)>(most:Int):=by omega
    have HQ:Hid (oJ n pb db w o d L R (.returned (.tuple #[.bool false,.int .i64 0])) w2):=aa ⟨d2,o2,by rw[HRK.o];simp_all,eM.o.mv⟩;go_wp2;go_returns;exact HQ.o
   ·have hmz:¬(dd:Int)>(most:Int):=by omega
    by_cases Z4:St.length=16
    ·have hsz:(St.length:Int)=16:=by omega
     have HQ:Hid (oJ n pb db w o d L R (.returned (.tuple #[.bool false,.int .i64 0])) w2):=aa ⟨d2,o2,by rw[HRK.o,if_pos Z4],eM.o.mv⟩;go_wp2_with (refine nK _ rfl _ rfl Tryz.underlying243 sb St rfl eM.o.st ?_);go_returns;exact HQ.o
    ·have hsz:¬(St.length:Int)=16:=by omega
     by_cases hvt:v=t
     ·have HQ:Hid (oJ n pb db w o d L R (.returned (.tuple #[.bool true,.int .i64 0])) w2):=aa ⟨d2,o2,by rw[HRK.o,if_neg Z4,if_neg jc,if_pos hvt],eM.o.mv⟩;have hvz:(v:Int)=(t:Int):=by omega
      go_wp2_with (refine nK _ rfl _ rfl Tryz.underlying243 sb St rfl eM.o.st ?_);go_returns;exact HQ.o
     ·have hvz:¬(v:Int)=(t:Int):=by omega
      have AV:Hid (mU (aY es) A t most (16-(St.length+1)) (kQ A (v::St) dd (b7 m v) (aY es v)) (v::St)=R):=aa (by rw[HRK.o,if_neg Z4,if_neg jc,if_neg hvt]);have hout:=aa (Zp.o w2 o2 d2 eM.o.mv v HV.o.1);have H16:Hid (St.length<16):=aa (by have:=HC.out;omega);have HG:=aa (fO (k:=v) (by have:=HN.o;have:=HV.o;omega));clear HRK;unfold ju at hout;go_wp2_with (refine nK _ rfl _ rfl Tryz.underlying243 sb St rfl eM.o.st ?_);refine hout.o.mono ?_;rintro e w3⟨ev,d3,o3,rfl,eA,hown,fM⟩;obtain⟨ea,ec,rfl⟩:=az hown;have fy:Hid (vh n pb db w o d L N (fun b=>(Value.slice ea (aY es v).length ec).ownBlock=some b) fb sb St (b7 m v) c w3 o3 d3):=aa ((eM.o.fresh.moved eA).wider (fun b hb _=>(aL hown b hb).2) (Nat.le_refl _));have OJ:=aa hown;have rz:Hid (∀b,(Value.slice ea (aY es v).length ec).ownBlock=some b->b≠sb):=aa (fun b hb=>by
       have h1:=aL hown b hb;have h2:=eM.o.st.lt;omega)
      clear eA hown fM hout eM hmz hsz hvz;obtain⟨M,hM⟩:∃M,M=(aY es v).length:=⟨_,rfl⟩;rw[<- hM]at fy OJ rz ⊢;have HM:Hid (M=(aY es v).length/\M<=1000):=aa ⟨hM,by rw[hM];exact Nat.le_trans (mX es v) H.o.len⟩;clear hM;go_wp2_with (at_mapUpdate;refine eJ _ rfl _ _ _ _ rfl 245 cg dm Tryz.underlying243 sb _ rfl fy.o.st v () rfl rfl HG.o ?_;intro es4 SN eC;have fZ:=aa eC;clear eC);have gj:=aa (fy.o.settled HV.o.2.2 fZ.o (fun p hp=>(gl.1 hp).2));have SH:Hid (aI (setBlock w3 sb (.map es4 SN)) w2.heap.size (.slice ea M ec) (aY es v)):=aa (bI OJ.o (fun b hb=>bg _ (rz.o b hb)));clear fZ fy OJ rz HG;generalize setBlock w3 sb (.map es4 SN)=W4 at *;go_loopw [72] (fun vi wr=>∃(j:Nat)(m':yV),vi=.int .i64 (j:Int)/\j<=M/\Hid (vh n pb db w o d L N (fun b=>(Value.slice ea M ec).ownBlock=some b) fb sb (v::St) m' (c+j) wr o3 d3)/\Hid (m'=kQ A (v::St) dd (b7 m v) ((aY es v).take j))/\Hid (aI wr w2.heap.size (.slice ea M ec) (aY es v))) (fun vi _=>M-(intOf vi).toNat)
      case atStart=>exact⟨0,b7 m v,rfl,Nat.zero_le _,gj,aa rfl,SH⟩
      case round=>
       obtain⟨j,m',rfl,hj,b8,kV,VT⟩:=hrel;clear gj SH;generalize wr=Wq at *;by_cases hlt:j<M
       ·have Jr:(j:Int)<(M:Int):=by omega
        have wj:IntKind.i64.wrap ((j:Int)+1)=((j+1:Nat):Int):=by grind [Hid.out,ax]
        obtain⟨x,hx⟩:∃x,(aY es v)[j]? = some x:=⟨_,List.getElem?_eq_getElem (by grind [Hid.out])⟩;have HX:=aa hx;have HXN:Hid (x.h.toNat<N/\x.h.toNat<4294967296):=aa ⟨(H.o.ends x (AU (List.mem_of_getElem? hx)).1).2,x.h.toNat_lt⟩;obtain⟨g,rfl⟩:∃g,ea=some ⟨g,0,none⟩:=by
         obtain⟨-,⟨h1,h2⟩|⟨g,_,_,h1,_⟩⟩:=VT.out
         ·grind
         grind
        have aef:Hid (aI Wq w2.heap.size (.slice (some ⟨g,0,none⟩) (aY es v).length ec) (aY es v)):=aa (by grind [Hid.out]);obtain⟨q0,q1,q2,q3⟩:=bL aef.o hx;have HGX:=aa (fO HXN.o.2);have gu:=aa (b8.out.below (aj.alloc (Nat.le_refl _) (.cells #[.int .u32 (x.t.toNat:Int),.int .u32 (x.h.toNat:Int),.int .u64 (x.x.toNat:Int),.int .u32 (x.m.toNat:Int)] 64)));have VU:Hid (aI (Wq.alloc (.cells #[.int .u32 (x.t.toNat:Int),.int .u32 (x.h.toNat:Int),.int .u64 (x.x.toNat:Int),.int .u32 (x.m.toNat:Int)] 64)) w2.heap.size (.slice (some ⟨g,0,none⟩) M ec) (aY es v)):=aa (aW VT.out ai);have Yl:Hid ((Wq.alloc (.cells #[.int .u32 (x.t.toNat:Int),.int .u32 (x.h.toNat:Int),.int .u64 (x.x.toNat:Int),.int .u32 (x.m.toNat:Int)] 64)).heap[Wq.heap.size]? = some (.cells #[.int .u32 (x.t.toNat:Int),.int .u32 (x.h.toNat:Int),.int .u64 (x.x.toNat:Int),.int .u32 (x.m.toNat:Int)] 64)):=aa (heap_alloc_new _ _);have k9:=aa (Ir dd x.x.toNat (by grind [Hid.out]) x.x.toNat_lt (Wq.alloc (.cells #[.int .u32 (x.t.toNat:Int),.int .u32 (x.h.toNat:Int),.int .u64 (x.x.toNat:Int),.int .u32 (x.m.toNat:Int)] 64)));clear hx aef;go_wp2_with fail;refine k9.o.mono ?_;rintro e w7⟨rfl,rfl⟩;clear q0 q1 q2 q3 k9;generalize FK:Wq.heap.size=xb at *;generalize Wq.alloc (.cells #[.int .u32 (x.t.toNat:Int),.int .u32 (x.h.toNat:Int),.int .u64 (x.x.toNat:Int),.int .u32 (x.m.toNat:Int)] 64)=W6 at *;clear FK b8 VT;have k1:W6.cell? ⟨xb,1,none⟩=some (.int .u32 (x.h.toNat:Int)):=by rw[aq Yl.o];rfl
        have k2:=(Array.getElem?_eq_some_iff.1 Yl.o).1;by_cases ig:dd+x.x.toNat<9223372036854775808
        ·have SP:KZ dd x.x.toNat=.tuple #[.int .u64 ((dd+x.x.toNat:Nat):Int),.bool true]:=if_pos ig;rw[SP];obtain⟨s,hs⟩:∃s,s=dd+x.x.toNat:=⟨_,rfl⟩;rw[<- hs]at ig ⊢;have MI:=aa hs;have UC:=aa ig;clear SP hs ig;by_cases MJ:x.h.toNat∈v::St
         ·have SQ:Hid (decide (x.h.toNat∈v::St)=true):=aa (decide_eq_true MJ);have NL:=aa MJ;clear MJ;have jR:Hid (vh n pb db w o d L N (fun b=>(Value.slice (some ⟨g,0,none⟩) M ec).ownBlock=some b) fb sb (v::St) m' (c+(j+1)) (W6.alloc (.cells #[] 245)) o3 d3):=aa ((gu.o.below ai).wider (fun _ e _=>e) ae);have Z5:Hid (aI (W6.alloc (.cells #[] 245)) w2.heap.size (.slice (some ⟨g,0,none⟩) M ec) (aY es v)):=aa (aW VU.o ai);have Bz:Hid (m'=kQ A (v::St) dd (b7 m v) ((aY es v).take (j+1))):=aa (by rw[mW HX.o,if_neg (fun e=>e.2.1 NL.o)];assumption);go_wp2_with (at_lookup;refine bX _ rfl _ _ _ _ rfl 245 cg dm Tryz.underlying243 (HZU.o _) sb _ rfl gu.o.st x.h.toNat rfl HGX.o ?_;rw[uJ,rH];try rw[SQ.o]);go_roundw
          case rel=>exact⟨j+1,m',by go_num,ae,jR,Bz,Z5⟩
          grind [intOf]
         ·have SQ:Hid (decide (x.h.toNat∈v::St)=false):=aa (decide_eq_false MJ);have NL:=aa MJ;clear MJ;have rQ:Hid (Below W6.heap.size W6 (W6.alloc (.cells #[] 245))):=aa ai;have jR:=aa (gu.o.below rQ.o);have hsh:=aa (H.o.aed _ x.h.toNat (fun b hb=>jR.o.mv.block (H.o.pH b hb).1 (H.o.pH b hb).2 (fun e=>e)) jR.o.mv.size HXN.o.2);go_wp2_with (at_lookup;refine bX _ rfl _ _ _ _ rfl 245 cg dm Tryz.underlying243 (HZU.o _) sb _ rfl gu.o.st x.h.toNat rfl HGX.o ?_;rw[uJ,rH];try rw[SQ.o]);refine hsh.o.mono ?_;rintro e w8⟨rfl,JH⟩;have jD:=aa (jR.o.below JH);have VV:=aa (aW (aW VU.o rQ.o) JH);have k3:w8.cell? ⟨xb,1,none⟩=some (.int .u32 (x.h.toNat:Int)):=AE JH (AE rQ.o k1);clear hsh JH jR VU k1 k2;by_cases hA:A x.h.toNat=true
          ·rw[hA];have rY:Hid (m'=kQ A (v::St) dd (b7 m v) ((aY es v).take (j+1))):=aa (by rw[mW HX.o,if_neg (fun e=>by simp_all)];assumption);have p8:Hid (vh n pb db w o d L N (fun b=>(Value.slice (some ⟨g,0,none⟩) M ec).ownBlock=some b) fb sb (v::St) m' (c+(j+1)) w8 o3 d3):=aa (jD.o.wider (fun _ e _=>e) ae);clear hA;go_wp2;go_roundw
           case rel=>exact⟨j+1,m',by go_num,ae,p8,rY,VV⟩
           grind [intOf]
          ·have hAb:A x.h.toNat=false:=by simp_all
           rw[hAb];obtain⟨B,hF,hB⟩:=jD.o.fr;have hcm:=aa (Iq hF (by have:=HC.out;have:=HM.o;omega) x.h.toNat s HXN.o.2);have Jo:=aa hB;have HAB:=aa hAb;clear hF hB hA hAb;unfold ptrTo AK at hcm;go_wp2_with fail;refine hcm.o.mono ?_;rintro e w9⟨rfl,hf9,ht9⟩;obtain⟨fs9,hk9⟩:=jD.o.turned Jo.o ht9 hf9 (fun b hb=>hb) (fun b hb=>(aL VV.o b hb).1) (fun p hp=>(OP hp).elim (jD.o.gd p) (fun e=>by rw[e];exact⟨HXN.o.1,UC.o,NL.o⟩));have p8:Hid (vh n pb db w o d L N (fun b=>(Value.slice (some ⟨g,0,none⟩) M ec).ownBlock=some b) fb sb (v::St) (qR m' x.h.toNat s) (c+(j+1)) w9 o3 d3):=aa fs9;have ajE:=aa (bI VV.o (fun b hb=>hk9 b hb));have Mx:Hid (qR m' x.h.toNat s=kQ A (v::St) dd (b7 m v) ((aY es v).take (j+1))):=aa (by rw[mW HX.o,if_pos ⟨by rw[<- MI.o];assumption,NL.o,HAB.o⟩,<- kV.out,MI.o]);clear hcm hf9 ht9 fs9 hk9 jD VV k3;go_wp2;go_roundw
           case rel=>exact⟨j+1,_,by go_num,ae,p8,Mx,ajE⟩
           grind [intOf]
        ·have SP:KZ dd x.x.toNat=.tuple #[.int .u64 0,.bool false]:=if_neg ig;rw[SP];have UC:=aa ig;clear SP ig;have SQ:=aa (Eq.refl 0);have jR:Hid (vh n pb db w o d L N (fun b=>(Value.slice (some ⟨g,0,none⟩) M ec).ownBlock=some b) fb sb (v::St) m' (c+(j+1)) (W6.alloc (.cells #[] 245)) o3 d3):=aa ((gu.o.below ai).wider (fun _ e _=>e) ae);have Z5:Hid (aI (W6.alloc (.cells #[] 245)) w2.heap.size (.slice (some ⟨g,0,none⟩) M ec) (aY es v)):=aa (aW VU.o ai);have Bz:Hid (m'=kQ A (v::St) dd (b7 m v) ((aY es v).take (j+1))):=aa (by rw[mW HX.o,if_neg (fun e=>UC.o e.1)];assumption);go_wp2_with (at_lookup;refine bX _ rfl _ _ _ _ rfl 245 cg dm Tryz.underlying243 (HZU.o _) sb _ rfl gu.o.st x.h.toNat rfl HGX.o ?_;rw[uJ,rH];try rw[SQ.o]);go_roundw
         case rel=>exact⟨j+1,m',by go_num,ae,jR,Bz,Z5⟩
         grind [intOf]
       ·have Jr:¬(j:Int)<(M:Int):=by omega
        have jD:Hid (vh n pb db w o d L N (fun _=>False) fb sb (v::St) m' (c+j) Wq o3 d3):=aa (b8.out.wider (fun _ e _=>e.elim) (Nat.le_refl _));have HR8:Hid (mU (aY es) A t most (16-(v::St).length) m' (v::St)=R):=aa (by
         grind [Hid.out])
        have HC8:Hid (c+j<=1+(v::St).length*1000/\(v::St).length<=16):=aa (by
         grind [Hid.out])
        have PM:Hid (16-II Wq.heap[sb]? < 16-II Wr.heap[sb]?):=aa (by
         rw[jD.o.st.II,HMN.o,List.length_cons];grind [Hid.out])
        clear b8 kV VT;go_wp2;go_roundw
        case rel=>exact⟨_,_,_,_,_,jD,HC8,HR8⟩
        assumption
end
end
section
open Go.RowKit Go.Maps
theorem Lc(l:List aF):∀u∈dE l,u.oneCell'=true:=by
 induction l with
 |nil=>intro u hu;cases hu
 |cons x l ih=>
   intro u hu;rw[dE,List.mem_append]at hu;rcases hu with hu | hu
   ·simp[aF.cells]at hu;rcases hu with rfl | rfl | rfl | rfl<;>rfl
   ·exact ih u hu
theorem VW{w:World}{b off n cap:Nat}{es:List aF}(h:kL w (.slice (some ⟨b,off,none⟩) n cap) es):∀j u,(dE es)[j]? = some u->w.cell? ((⟨b,off,none⟩:Addr).add j)=some u:=by
 intro j u hj;obtain⟨-,hc⟩:=jU h;have lB:=aN hj;rw[nB]at lB;have hi:j/4<es.length:=by omega
 obtain⟨b',off',he,h1,h2,h3,h4⟩:=hc w aj (j/4) es[j/4] (List.getElem?_eq_getElem hi);cases he;have hg:=lW (List.getElem?_eq_getElem hi) (j:=j%4) ae;rw[show j/4*4+j%4=j by omega,hj]at hg;rw[bG];have ajG:j%4=0\/j%4=1\/j%4=2\/j%4=3:=by omega
 rcases ajG with e | e | e | e
 ·rw[e]at hg;cases hg;rw[show off+j=off+j/4*4 by omega];exact h1
 ·rw[e]at hg;cases hg;rw[show off+j=off+j/4*4+1 by omega];exact h2
 ·rw[e]at hg;cases hg;rw[show off+j=off+j/4*4+2 by omega];exact h3
 ·rw[e]at hg;cases hg;rw[show off+j=off+j/4*4+3 by omega];exact h4
theorem fX{w:World}{ops:Array Oper}{rest:List Oper}{op:Oper}{a:Act}{Q:Exit->Act->World->Prop}(hgd:op.guard=none)(s x:Operand)(ho:op.op=.call { callee:=.builtin .append,args:=#[s,x],argTypes:=#[22,22] })(base:Nat)(v:Value)(l:List aF)(hs:a.eval s=v)(hown:aI w base v l)(u:Value)(es:List aF)(hx:a.eval x=u)(hr:kL w u es)(hl:l.length+es.length<=100000)(hbase:base<=w.heap.size)(k:∀v' w',aI w' base v' (l++es)->lq v w w' v'->wpList prog ops Q rest (a.put op.dst v') w'):wpList prog ops Q (op::rest) a w:=by
 have hrw:=hr;obtain⟨ad,cap,rfl,hc⟩:=hrw;cases ad with
 |some ad=>
   have lI:∀j u,(dE es)[j]? = some u->w.cell? (ad.add j)=some u:=fun j u hj=>by
    have lB:=aN hj;rw[nB]at lB;rcases hc with h0 |⟨b,off,ha,_⟩
    ·omega
    ·cases ha;exact VW hr j u hj
   refine dO hgd s x 22 ho base 64 _ 4 24 Tryz.underlying22 rB rfl af v l.length (dE l) hs hown ad es.length cap (dE es) hx (nB es) lI (Lc es) (by unfold maxLen;omega) ae hbase (fun v' w' h1 h2=>k v' w' ?_ h2);unfold aI;rw[nC,List.length_append];exact h1
 |none=>
   have h0:es=[]:=by
    rcases hc with hc |⟨b,off,ha,_⟩
    ·exact List.length_eq_zero_iff.1 hc
    ·cases ha
   subst h0;obtain⟨i0,uV,hz0,hz1,hz2⟩:=info_parts rB;have JJ:∀ad,(storeCells ad []).run prog w=.ok () w:=fun _=>rfl;obtain⟨va,vc,Cc⟩:∃va vc,v=.slice va l.length vc:=az hown;subst Cc;refine wpList_plain hgd fun K hK=>?_;have Gd:l.length<=vc:=by
    rcases cj hown with⟨h1,h2⟩|⟨g,c,h1,_,h2,_⟩
    ·rw[h1];exact Nat.zero_le _
    ·cases h1;exact h2
   have hrun:(Builtin.append_ #[22,22] op.type #[.slice va l.length vc,.slice none ([]:List aF).length cap]).run prog w=.ok (.slice va l.length vc) w:=by
    cases va with
    |none=>simp[Builtin.append_,run_underlying Tryz.underlying22,sizeOf,typeInfo,uV,Builtin.lenOf,Builtin.firstCells,Gd]
    |some va=>simp[Builtin.append_,run_underlying Tryz.underlying22,sizeOf,typeInfo,uV,Builtin.lenOf,Builtin.firstCells,JJ,Gd]
   unfold Oper.wp execOp;simp only[ho,resolve,invoke,builtin,Sem.run_bind,Sem.run_pure,Result.andThen_ok,List.map_toArray,List.map_cons,List.map_nil,hs,hx,hrun];refine hK _ _ (k _ _ (by rw[List.append_nil];exact hown) ⟨⟨rfl,rfl,rfl,Nat.le_refl _,fun _ _ _=>rfl⟩,.inl rfl⟩)
theorem qU(w:World):aI (w.alloc (.cells #[] 64)) w.heap.size (.slice (some ⟨w.heap.size,0,none⟩) 0 0) []:=
 ⟨by simp[dE],.inr ⟨w.heap.size,0,#[],rfl,Nat.le_refl _,heap_alloc_new w _,Nat.le_refl _,Nat.zero_le _,ah,by simp[dE]⟩⟩
theorem kL.take{w:World}{a:Option Addr}{n cap k:Nat}{es:List aF}(h:kL w (.slice a n cap) es)(hk:k<=es.length):kL w (.slice a k cap) (es.take k):=by
 obtain⟨a',cap',he,hc⟩:=h;cases he;have hl:(es.take k).length=k:=by rw[List.length_take];omega
 refine⟨a,cap,by rw[hl],?_⟩;rcases hc with hc |⟨b,off,rfl,hc⟩
 ·exact .inl ae
 ·exact .inr ⟨b,off,rfl,fun j x hx=>hc j x (by rw[List.getElem?_take]at hx;split at hx;exact hx;cases hx)⟩
theorem kL.drop{w:World}{b off n cap k:Nat}{es:List aF}(h:kL w (.slice (some ⟨b,off,none⟩) n cap) es)(hk:k<=es.length)(c:Nat):kL w (.slice (some ⟨b,off+k*4,none⟩) (n-k) c) (es.drop k):=by
 obtain⟨a',cap',he,hc⟩:=h;cases he;have hl:(es.drop k).length=es.length-k:=List.length_drop ..;refine⟨_,c,by rw[hl],?_⟩;rcases hc with hc |⟨b',off',he,hc⟩
 ·exact .inl ae
 ·cases he;refine .inr ⟨b,off+k*4,rfl,fun j x hx=>?_⟩;rw[List.getElem?_drop]at hx;have:=hc (k+j) x hx;rw[show off+k*4+j*4=off+(k+j)*4 by omega];exact this
theorem kL.none{w:World}{a:Option Addr}{cap:Nat}:kL w (.slice a 0 cap) []:=⟨a,cap,rfl,.inl rfl⟩
theorem gG{W0 W W':World}{v v':Value}(hb:Below W0.heap.size W0 W)(hv:∀y,v.ownBlock=some y->W0.heap.size<=y)(ha:lq v W W' v'):Below W0.heap.size W0 W'/\∀y,v'.ownBlock=some y->W0.heap.size<=y:=by
 obtain⟨hg,h⟩:=ha;have hs:=hb.size;refine⟨hb.trans ⟨hg.os,hg.tape,hg.output,hg.size,fun x hx=>hg.block x ae (fun e=>?_)⟩,fun y hy=>?_⟩
 ·have:=hv x e.symm;omega
 ·rcases h with h | h
  ·rw[h]at hy;exact hv y hy
  ·rw[h]at hy;cases hy;exact hs
def Ld(w:World)(b:Bool)(r:List aF)(i:Nat)(v:Value)(W:World):Prop:=∃out:List aF,aI W w.heap.size v out/\dJ b (r.take i) out/\out.length<=i/\Below w.heap.size w W
theorem Le(v:Value)(es:List aF)(b:Bool)(w:World)(hv:kL w v es)(hl:es.length<=10000):Calls prog 46 #[v,.int .i64 (lT b:Int)] w (IB w (aK b es)):=by
 have aeh:=aa (K5 v es w hv hl);have Jk:(aK false es).length<=10000:=Nat.le_trans (b9 _ _) hl;have jQ:=aa (bU false es);have Zz:Hid (∀out,dJ b (aK false es) out->out=aK b es):=aa (fun out h=>by rw[h.eq,Iy]);obtain⟨va,vn,vc,rfl⟩:∃a n c,v=.slice a n c:=by
  obtain⟨a,c,rfl,_⟩:=hv;exact⟨a,_,c,rfl⟩
 clear hv hl;generalize aK false es=r at *;obtain⟨bn,PJ⟩:∃bn:Int,bn=(lT b:Int):=⟨_,rfl⟩;have aM:=aa (fun W x y=>IA b x y W);rw[<- PJ]at aM ⊢;clear PJ;go_enter func46,ntmps46;go_wp2_with fail;refine aeh.o.mono ?_;rintro e w1⟨rv,rfl,hr1,hb1⟩;have nu:=aa hr1;have cS:=aa hb1;obtain⟨ra,rc,rfl⟩:∃ra rc,rv=.slice ra r.length rc:=az hr1;have UI:=aa (jt hr1);obtain⟨-,lI⟩:=jU UI.o;have HC:=aa lI;have HX:Hid (∀i,i<r.length->∃x,r[i]? = some x):=aa (fun i hi=>⟨_,List.getElem?_eq_getElem hi⟩);have BV:Hid (r.take r.length=r):=aa (List.take_of_length_le (Nat.le_refl _));clear lI hr1 hb1 aeh;generalize hN:r.length=N at *;have HN:=aa hN;clear hN;go_wp2;go_loopw [5,7] (fun ov iv W=>∃i:Nat,i<=N/\iv=.int .i64 (i:Int)/\Ld w1 b r i ov W) (fun _ iv _=>N-(intOf iv).toNat)
 case atStart=>exact⟨0,Nat.zero_le _,rfl,[],World.ownsRow_nil _ _ _ _,dJ.nil _,Nat.le_refl _,Below.refl _ _⟩
 case round=>
  generalize u5=ov at *;generalize wr=W1 at *;obtain⟨i,hi,rfl,out,hr,Ai,hol,hb⟩:=hrel;have HR:=aa hr;have mP:=aa Ai;have HB:=aa hb;have hz:w1.heap.size<=W1.heap.size:=hb.size;clear hr Ai hb;by_cases hlt:i<N
  ·obtain⟨x,hx⟩:=HX.o i hlt;have HXX:=aa hx;have oT:=aa (rG hx);obtain⟨re,ro,rfl,-⟩:=HC.o W1 HB.o i x hx;have MG:Hid (∀W,Below W1.heap.size W1 W->W.cell? ⟨re,ro+i*4,none⟩=some (.int .u32 (x.t.toNat:Int))/\W.cell? ⟨re,ro+i*4+1,none⟩=some (.int .u32 (x.h.toNat:Int))/\W.cell? ⟨re,ro+i*4+2,none⟩=some (.int .u64 (x.x.toNat:Int))/\W.cell? ⟨re,ro+i*4+3,none⟩=some (.int .u32 (x.m.toNat:Int))):=aa (fun W hB=>by
    obtain⟨b',o',e,g⟩:=HC.o W (HB.o.trans (hB.mono HB.o.size)) i x HXX.o;cases e;exact g)
   obtain⟨oa,oc,Cc⟩:∃oa oc,ov=.slice oa out.length oc:=az HR.o;subst Cc;have LX:Hid (∀W,Below W1.heap.size W1 W->kL W (.slice oa out.length oc) out):=aa (fun W hB=>(jt HR.o).below hB);have NK:out.length<=oc/\oc<=maxLen:=by
    rcases cj HR.o with⟨h1,h2⟩|⟨g,c,h1,_,h2,h3⟩
    ·rw[h1];exact⟨Nat.zero_le _,by injection h2 with _ _ e3;rw[e3];exact Nat.zero_le _⟩
    ·cases h1;exact⟨h2,h3⟩
   obtain⟨ajH,Kz⟩:=NK;unfold maxLen at Kz;have Jw:Hid (∀j,j<out.length->∃o,out[j]? = some o):=aa (fun j hj=>⟨_,List.getElem?_eq_getElem hj⟩);have Yu:Hid (∀o∈out,pk b o≠pk b x):=aa (fun o ho e=>by
    have h1:=(mP.o.mem o ho).1;obtain⟨j,hj,rfl⟩:=List.getElem_of_mem h1;rw[List.getElem_take]at e;rw[List.length_take]at hj;have e':pk false r[j]=pk false x:=iA.2 (iA.1 e);have h2:=fg jQ.o.gy (show j<i by omega) (List.getElem?_eq_getElem ae) HXX.o;omega)
   have IE:Hid (x.t≠x.h):=aa (jQ.o.mem x (List.mem_of_getElem? HXX.o)).2.1;clear hx;generalize Qc:out.length=n0 at *;have kC:=aa Qc;clear Qc;go_wp2;go_loopw [8] (fun kv W=>∃k:Nat,k<=n0/\kv=.int .i64 (k:Int)/\(∀(j:Nat)(o:aF),j<k->out[j]? = some o->pk b o<pk b x)/\Below W1.heap.size W1 W) (fun kv _=>n0-(intOf kv).toNat)
   case atStart=>exact⟨0,Nat.zero_le _,rfl,(fun j o hj=>absurd hj (Nat.not_lt_zero _)),Below.refl _ _⟩
   case round=>
    generalize wr=W2 at *;obtain⟨k,hk,rfl,Jj,hb2⟩:=hrel;have PD:=aa Jj;have cX:=aa hb2;clear Jj hb2;by_cases yo:k<n0
    ·obtain⟨o,ho⟩:=Jw.o k yo;have HO:=aa ho;clear ho;obtain⟨-,hcc⟩:=jU (by rw[<- kC.o]at LX;exact LX.o W2 cX.o);obtain⟨oe,oo,rfl,-⟩:=hcc W2 aj k o HO.o;have HOW:Hid (∀W,Below W2.heap.size W2 W->W.cell? ⟨oe,oo+k*4,none⟩=some (.int .u32 (o.t.toNat:Int))/\W.cell? ⟨oe,oo+k*4+1,none⟩=some (.int .u32 (o.h.toNat:Int))/\W.cell? ⟨oe,oo+k*4+2,none⟩=some (.int .u64 (o.x.toNat:Int))/\W.cell? ⟨oe,oo+k*4+3,none⟩=some (.int .u32 (o.m.toNat:Int))):=aa (fun W hB=>by
      obtain⟨g',o',e,r⟩:=hcc W hB k o HO.o;cases e;exact r)
     clear hcc;have Lf:=aa (fun W=>aM.o W o x);obtain⟨rr,jE⟩:∃r:Bool,r=decide (pk b o<pk b x):=⟨_,rfl⟩;rw[<- jE]at Lf;have PB:=aa jE;clear jE;go_wp2_with fail;refine wq W2 ?_;iterate 8 (refine qz ?_)
     refine qz ?_ (fun w' hw'=>by obtain⟨e0,e1,e2,e3⟩:=HOW.o w' hw';go_simp<;>rfl);iterate 3 (refine qz ?_)
     refine qz ?_ (fun w' hw'=>by obtain⟨e0,e1,e2,e3⟩:=MG.o w' (cX.o.trans (hw'.mono cX.o.size));go_simp<;>rfl);refine qz ?_;refine qw (fun w' hw'=>(Lf.o w').mono fun e w'' ⟨he,hb⟩=>⟨he,hw'.trans (hb.mono hw'.size)⟩) ?_;refine qz ?_;refine wpQuiet_nil ?_;intro W3 hb3;have jC:=aa (cX.o.trans (hb3.mono cX.o.size));clear hb3 Lf HOW;cases rr with
     |true=>
       have ZW:Hid (∀(j:Nat)(o':aF),j<k+1->out[j]? = some o'->pk b o'<pk b x):=aa (fun j o' hj kN=>by
        rcases Nat.lt_or_ge j k with h | h
        ·exact PD.o j o' h kN
        ·obtain rfl:j=k:=by omega
         rw[HO.o]at kN;rw[<- Option.some.inj kN];exact of_decide_eq_true PB.o.symm)
       go_wp2;go_roundw
       case rel=>exact⟨k+1,ae,by go_num,ZW.o,jC.o⟩
       case measure=>simp[intOf];omega
     |false=>
       have K6:Hid (dJ b (r.take (i+1)) (out.take k++x::out.drop k)):=aa (by
        rw[oT.o];refine mP.o.lay IE.o (by rw[kC.o];exact hk) PD.o (fun j o' hj kN=>?_);have h0:=Yu.o o (List.mem_of_getElem? HO.o);have h1:=of_decide_eq_false PB.o.symm;rcases Nat.eq_or_lt_of_le hj with rfl | hlt
        ·rw[HO.o]at kN;rw[<- Option.some.inj kN];omega
        ·have:=fg mP.o.gy hlt HO.o kN;omega)
       have my:=jC;have SR:Hid (aI (W3.alloc (.cells #[] 64)) w1.heap.size (.slice (some ⟨W3.heap.size,0,none⟩) 0 0) []):=aa (aV (qU W3) (Nat.le_trans hz my.o.size));have Z6:Hid (kL (W3.alloc (.cells #[] 64)) (.slice (some ⟨oe,oo,none⟩) k oc) (out.take k)):=aa ((LX.o _ (my.o.alloc my.o.size _)).take (by rw[kC.o];exact hk));have hlk:([]:List aF).length+(out.take k).length<=100000:=by rw[List.length_take,List.length_nil];omega
       have hzX:w1.heap.size<=(W3.alloc (.cells #[] 64)).heap.size:=by have:=my.o.size;simp;omega
       go_wp2_with (at_builtin;refine fX rfl _ _ rfl w1.heap.size _ [] rfl SR.o _ (out.take k) rfl Z6.o hlk hzX ?_);intro v4 W4 hr4 Kt;obtain⟨hb4,hv4⟩:=gG ((Below.refl W3.heap.size W3).alloc (Nat.le_refl _) _) (fun y hy=>by cases hy;exact Nat.le_refl _) Kt;have LZ:Hid (aI W4 w1.heap.size v4 (out.take k)):=aa (by rw[<- List.nil_append (out.take k)];exact hr4);have oU:=aa (my.o.trans (hb4.mono my.o.size));have GX:=aa hb4;have J7:=aa hv4;obtain⟨x0,x1,x2,x3⟩:=MG.o W4 oU.o;have Z7:(out.take k).length<=100000:=by rw[List.length_take];omega
       have uT:w1.heap.size<=W4.heap.size:=Nat.le_trans hz oU.o.size;clear hr4 Kt hb4 hv4;go_wp2_with (at_builtin;refine cR rfl _ _ rfl w1.heap.size _ (out.take k) rfl LZ.o x 1 rfl Z7 uT ?_);intro v5 W5 KO Ju;obtain⟨nT,T7⟩:=gG (GX.o.alloc GX.o.size _) J7.o Ju;have Ay:=aa KO;have Ck:=aa (my.o.trans (nT.mono my.o.size));have Z8:=aa nT;have ND:=aa T7;have TQ:w1.heap.size<=W5.heap.size:=Nat.le_trans hz Ck.o.size;have VX:(out.take k++[x]).length+(out.drop k).length<=100000:=by rw[List.length_append,List.length_take,List.length_drop,List.length_singleton,kC.o];omega
       clear KO Ju nT T7 x0 x1 x2 x3;have HDR:Hid (kL W5 (.slice (some ⟨oe,oo+k*4,none⟩) (n0-k) (oc-k)) (out.drop k)):=aa (by
        have:=LX.o W5 Ck.o;exact kL.drop this (by rw[kC.o];exact hk) _)
       go_wp2_with (at_builtin;refine fX rfl _ _ rfl w1.heap.size _ (out.take k++[x]) rfl Ay.o _ (out.drop k) rfl HDR.o VX TQ ?_);intro v6 W6 AP K7;obtain⟨yw,-⟩:=gG Z8.o ND.o K7;have JV:Hid (aI W6 w1.heap.size v6 (out.take k++x::out.drop k)):=aa (by
        exact AP)
       have SS:=aa (HB.o.trans (my.o.mono hz));have mQ:=aa (SS.o.trans (yw.mono SS.o.size));clear AP K7 yw;go_wp2;go_roundw
       case rel=>exact⟨i+1,ae,by go_num,out.take k++x::out.drop k,JV.o,K6.o,by rw[List.length_append,List.length_cons,List.length_take,List.length_drop,kC.o];omega,mQ.o⟩
       case measure=>simp[intOf];omega
    ·obtain rfl:n0=k:=by omega
     have K6:Hid (dJ b (r.take (i+1)) (out.take n0++x::out.drop n0)):=aa (by
      rw[oT.o];refine mP.o.lay IE.o (by rw[kC.o];exact Nat.le_refl _) PD.o (fun j o' hj kN=>?_);have:=aN kN;rw[kC.o]at this;omega)
     have hdd:decide ((n0:Int)<(n0:Int))=false:=decide_eq_false ae;have Z1:decide (n0<n0)=false:=decide_eq_false ae;rcases Nat.eq_or_lt_of_le ajH with hcN | hcN;case' inl=>subst hcN
     all_goals
      go_wp2_with fail;go_quiet (fail)
      have hb3:Below W2.heap.size W2 (W2.drewN nq):=below_drewN aj _;have my:=aa (cX.o.trans (hb3.mono cX.o.size));clear hb3 hdd Z1;generalize W2.drewN nq=W3 at *;have SR:Hid (aI (W3.alloc (.cells #[] 64)) w1.heap.size (.slice (some ⟨W3.heap.size,0,none⟩) 0 0) []):=aa (aV (qU W3) (Nat.le_trans hz my.o.size));have Z6:=aa ((LX.o (W3.alloc (.cells #[] 64)) (my.o.alloc my.o.size _)).take (k:=n0) (by rw[kC.o];exact hk));have hlk:([]:List aF).length+(out.take n0).length<=100000:=by rw[List.length_take,List.length_nil];omega
      have hzX:w1.heap.size<=(W3.alloc (.cells #[] 64)).heap.size:=by have:=my.o.size;simp;omega
      go_wp2_with (at_builtin;refine fX rfl _ _ rfl w1.heap.size _ [] rfl SR.o _ (out.take n0) rfl Z6.o hlk hzX ?_);intro v4 W4 hr4 Kt;obtain⟨hb4,hv4⟩:=gG ((Below.refl W3.heap.size W3).alloc (Nat.le_refl _) _) (fun y hy=>by cases hy;exact Nat.le_refl _) Kt;have LZ:Hid (aI W4 w1.heap.size v4 (out.take n0)):=aa (by rw[<- List.nil_append (out.take n0)];exact hr4);have oU:=aa (my.o.trans (hb4.mono my.o.size));have GX:=aa hb4;have J7:=aa hv4;obtain⟨x0,x1,x2,x3⟩:=MG.o W4 oU.o;have Z7:(out.take n0).length<=100000:=by rw[List.length_take];omega
      have uT:w1.heap.size<=W4.heap.size:=Nat.le_trans hz oU.o.size;clear hr4 Kt hb4 hv4;go_wp2_with (at_builtin;refine cR rfl _ _ rfl w1.heap.size _ (out.take n0) rfl LZ.o x 1 rfl Z7 uT ?_);intro v5 W5 KO Ju;obtain⟨nT,T7⟩:=gG (GX.o.alloc GX.o.size _) J7.o Ju;have Ay:=aa KO;have Ck:=aa (my.o.trans (nT.mono my.o.size));have Z8:=aa nT;have ND:=aa T7;have TQ:w1.heap.size<=W5.heap.size:=Nat.le_trans hz Ck.o.size;have VX:(out.take n0++[x]).length+(out.drop n0).length<=100000:=by rw[List.length_append,List.length_take,List.length_drop,List.length_singleton,kC.o];omega
      clear KO Ju nT T7 x0 x1 x2 x3;have hdr:out.drop n0=[]:=List.drop_of_length_le (by rw[kC.o];exact Nat.le_refl _);have HDR:=aa hdr;have ajK:=aa VX;clear hdr VX;go_wp2_with (at_builtin;refine fX rfl _ _ rfl w1.heap.size _ (out.take n0++[x]) rfl Ay.o _ (out.drop n0) rfl (by rw[HDR.o];exact kL.none) ajK.o TQ ?_);intro v6 W6 AP K7;obtain⟨yw,-⟩:=gG Z8.o ND.o K7;have JV:Hid (aI W6 w1.heap.size v6 (out.take n0++x::out.drop n0)):=aa (by
       exact AP)
      have SS:=aa (HB.o.trans (my.o.mono hz));have mQ:=aa (SS.o.trans (yw.mono SS.o.size));clear AP K7 yw;go_wp2;go_roundw
      case rel=>exact⟨i+1,ae,by go_num,out.take n0++x::out.drop n0,JV.o,K6.o,by rw[List.length_append,List.length_cons,List.length_take,List.length_drop,kC.o];omega,mQ.o⟩
      case measure=>simp[intOf];omega
  ·obtain rfl:N=i:=by omega
   go_wp2;go_ret;refine⟨_,rfl,?_,cS.o.trans (HB.o.mono cS.o.size)⟩;have h:=mP.o;rw[BV.o]at h;rw[<- Zz.o _ h];exact aV HR.o cS.o.size
end
section
open Go.RowKit Go.Maps Go.MapKept
theorem eD.rd{w:World}{v:Value}{vs:List cr}(h:eD w v vs):PO w v vs:=by
 obtain⟨a,cap,rfl,h1,h2,h⟩:=h;refine⟨a,cap,rfl,h.imp id ?_⟩;rintro⟨b,off,rfl,hc⟩;refine⟨b,off,rfl,fun j x hx=>?_⟩;have hl:=aN hx;rw[List.getElem?_eq_getElem hl]at hx;obtain rfl:=Option.some.inj hx;exact hc j hl
theorem cell_of_heap{w w':World}{b o:Nat}(h:w'.heap[b]? = w.heap[b]?):w'.cell? ⟨b,o,none⟩=w.cell? ⟨b,o,none⟩:=by
 unfold World.cell?;rw[h]
theorem kL.other{w w':World}{v:Value}{es:List aF}(h:kL w v es)(hk:∀b,v.ownBlock=some b->w'.heap[b]? = w.heap[b]?):kL w' v es:=by
 obtain⟨a,cap,rfl,h⟩:=h;refine⟨a,cap,rfl,h.imp id ?_⟩;rintro⟨b,off,rfl,hc⟩;have he:∀o,w'.cell? ⟨b,o,Option.none⟩=w.cell? ⟨b,o,Option.none⟩:=fun o=>cell_of_heap (hk b rfl);refine⟨b,off,rfl,fun j x hx=>?_⟩;obtain⟨q0,q1,q2,q3⟩:=hc j x hx;exact⟨(he _).trans q0,(he _).trans q1,(he _).trans q2,(he _).trans q3⟩
end
section
open Go.RowKit Go.Maps
theorem kL.moved{n pb db:Nat}{w w':World}{o o':ar}{d d':Dsk}{L':aC}{v:Value}{es:List aF}(h:kL w v es)(hm:aw (fun _=>False) n pb db w o d w' o' d' L')(ho:∀b,v.ownBlock=some b->o b=Option.none):kL w' v es:=by
 obtain⟨a,cap,rfl,h⟩:=h;refine⟨a,cap,rfl,h.imp id ?_⟩;rintro⟨b,off,rfl,hc⟩;refine⟨b,off,rfl,fun j x hx=>?_⟩;obtain⟨q0,q1,q2,q3⟩:=hc j x hx;exact⟨hm.cell q0 (ho b rfl) (fun h=>h),hm.cell q1 (ho b rfl) (fun h=>h),hm.cell q2 (ho b rfl) (fun h=>h),hm.cell q3 (ho b rfl) (fun h=>h)⟩
end
section
open Go.RowKit Go.Maps
structure fH(w0 w:World)(pb db n:Nat)(o:ar)(d:Dsk)(L:aC)(gb gen N ob ib vb:Nat)(es:List aF):Prop where
 held:Held w0 w pb db n o d L
 need:need L<=131072
 gr:cW w o gb pb gen N ob ib vb
 file:aA L (aJ 101 gen)=some (au (aK false es) true)
 DB:aA L (aJ 114 gen)=some (au (aK true es) true)
 len:es.length<=1000
 top:N<=1000
 ends:∀x∈es,x.t.toNat<N/\x.h.toNat<N
structure IK(w:World)(o:ar)(av:Value)(A:Nat->Bool)(K:Nat->Prop):Prop where
 ex:∃f cs,av=.func (.func f) #[] cs/\(∀args W,Sem.run prog (callFunc f args) W=.ok (.enter f args) W) /\
  ∀W(x:Nat),(∀b,K b->W.heap[b]? = w.heap[b]?)->w.heap.size<=W.heap.size->x<4294967296->Calls prog f (#[.int .u32 (x:Int)]++cs) W fun e W'=>e=.returned (.bool (A x))/\Below W.heap.size W W'
 old:∀b,K b->b<w.heap.size/\o b=none
section
variable {w0 w w' W:World} {pb db n gb gen N ob ib vb sv ab:Nat} {o o':ar} {d d':Dsk} {L:aC} {es:List aF} {A:Nat->Bool} {K:Nat->Prop} {av:Value}
theorem fH.moved(h:fH w0 w pb db n o d L gb gen N ob ib vb es)(hm:aw (fun _=>False) n pb db w o d w' o' d' L):fH w0 w' pb db n o' d' L gb gen N ob ib vb es:=
 ⟨h.held.moved hm (by grind),h.need,h.gr.La hm (by grind),h.file,h.DB,h.len,h.top,h.ends⟩
theorem IK.moved(h:IK w o av A K)(hm:aw (fun _=>False) n pb db w o d w' o' d' L):IK w' o' av A K:=by
 obtain⟨f,cs,rfl,h1,h2⟩:=h.ex;exact⟨⟨f,cs,rfl,h1,fun W x hk hs hx=>h2 W x (fun b hb=>(hk b hb).trans (hm.block (h.old b hb).1 (h.old b hb).2 (fun e=>e))) (Nat.le_trans hm.size hs) hx⟩,fun b hb=>⟨Nat.lt_of_lt_of_le (h.old b hb).1 hm.size,hm.free (h.old b hb).1 (h.old b hb).2⟩⟩
theorem fH.out(HW:aQ)(h:fH w0 w pb db n o d L gb gen N ob ib vb es){v:Nat}(hv:v<N):Calls prog 21 #[ptrTo gb,.int .u32 (v:Int)] w (ju n pb db w o d L (aY es v)):=
 IG HW h.held h.need h.gr h.file h.len hv h.top
theorem fH.qH(HW:aQ)(h:fH w0 w pb db n o d L gb gen N ob ib vb es){v:Nat}(hv:v<N):Calls prog 22 #[ptrTo gb,.int .u32 (v:Int)] w (ju n pb db w o d L (fB es v)):=
 VS HW h.held h.need h.gr h.DB h.len hv h.top
theorem MK{es:List aF}{v:Nat}{x:aF}(h:x∈fB es v):x∈es/\x.h.toNat=v:=
 ⟨((bU true es).mem x (yY h).1).1,(yY h).2⟩
theorem AW(es:List aF)(v:Nat):(fB es v).length<=es.length:=by
 have:=b9 true es;exact Nat.le_trans (List.length_filter_le _ _) this
abbrev uK(gb:Nat):Value:=.func (.func 21) #[ptrTo gb] #[]
abbrev Fa(gb:Nat):Value:=.func (.func 22) #[ptrTo gb] #[]
def qV(n pb db:Nat)(w:World)(o:ar)(d:Dsk)(L:aC)(es:List aF)(v:Nat)(e:Ending)(w':World):Prop:=
 ∃iv ov d' o',e=.returned (.tuple #[iv,ov,.int .i64 0])/\aw (fun _=>False) n pb db w o d w' o' d' L/\aI w' w.heap.size iv (fB es v)/\aI w' w.heap.size ov (aY es v)/\∀x,iv.ownBlock=some x\/ov.ownBlock=some x->o' x=none
theorem IL(HW:aQ)(h:fH w0 w pb db n o d L gb gen N ob ib vb es){v:Nat}(hv:v<N) :
 Calls prog 144 #[uK gb,Fa gb,.int .u32 (v:Int)] w (qV n pb db w o d L es v):=by
 have p9:=aa (h.qH HW hv);have HO:Hid (∀W o' d',aw (fun _=>False) n pb db w o d W o' d' L->Calls prog 21 #[ptrTo gb,.int .u32 (v:Int)] W (ju n pb db W o' d' L (aY es v))):=aa (fun W o' d' hm=>(h.moved hm).out HW hv);clear h;unfold ptrTo ju at *;go_enter func144,ntmps144;go_wp2_with fail;refine p9.o.mono ?_;rintro e w1⟨iv,d1,o1,rfl,dY,k8,tK⟩;have hout:=aa (HO.o _ _ _ dY);have eo:=aa dY;have De:=aa k8;have QX:=aa tK;clear dY k8 tK p9;go_wp2_with fail;refine hout.o.mono ?_;rintro e w2⟨ov,d2,o2,rfl,cP,ko,hf2⟩;have HQ:Hid (qV n pb db w o d L es v (.returned (.tuple #[iv,ov,.int .i64 0])) w2):=aa ⟨iv,ov,d2,o2,rfl,eo.o.trans cP (by grind),cP.ownsRow De.o (fun b hb=>⟨QX.o b hb,fun e=>e⟩),aV ko eo.o.size,fun x hx=>hx.elim (fun e=>cP.free (aL De.o x e).1 (QX.o x e)) (hf2 x)⟩;clear cP ko hf2 hout;go_wp2;go_returns;exact HQ.o
theorem ML(h:IK w o av A K)(v x:Nat)(hx:x<4294967296)(hk:∀b,K b->W.heap[b]? = w.heap[b]?)(hs:w.heap.size<=W.heap.size){t1 t2:TypeId}(Qj:W.heap[sv]? = some (.cells #[.int .u32 (v:Int)] t1))(hab:W.heap[ab]? = some (.cells #[av] t2)) :
 Calls prog 200 #[.int .u32 (x:Int),.pointer (some ⟨sv,0,none⟩),.pointer (some ⟨ab,0,none⟩)] W fun e W'=>e=.returned (.bool (x == v || A x))/\Below W.heap.size W W':=by
 obtain⟨f,cs,rfl,hrun,aM⟩:=h.ex;have c0:W.cell? ⟨sv,0,none⟩=some (.int .u32 (v:Int)):=by rw[aq Qj];rfl
 have c1:W.cell? ⟨ab,0,none⟩=some (.func (.func f) #[] cs):=by rw[aq hab];rfl
 have hc:=aa (aM W x hk hs hx);clear h aM hk hs Qj hab;by_cases hxv:x=v
 ·subst hxv;go_enter func200,ntmps200;go_wp2;go_ret;exact⟨ah,Below.refl _ _⟩
 ·have hz:¬(x:Int)=(v:Int):=by omega
  have HB:Hid ((x == v || A x)=A x):=aa (by grind);rw[HB.o];go_enter func200,ntmps200;go_wp2_with fail;refine hc.o.mono ?_;rintro e W1⟨rfl,hb⟩;have cS:=aa hb;clear hb hc;go_wp2;go_ret;exact⟨by simp_all,cS.o⟩
end
end
section
open Go.RowKit Go.Maps
section
variable {w0 w w' W W':World} {pb db n gb gen N ob ib vb sv ab:Nat} {o o' gL o0:ar} {d d' gw:Dsk} {L:aC} {es ins outs acc:List aF} {A:Nat->Bool} {K:Nat->Prop} {av lv iv ov:Value}
structure BA(n pb db:Nat)(w:World)(o:ar)(d:Dsk)(L:aC)(W0:World)(K2:Nat->Prop)(lv:Value)(acc:List aF)(W:World)(o':ar)(d':Dsk):Prop where
 mv:aw (fun _=>False) n pb db w o d W o' d' L
 keep:∀b,K2 b->W.heap[b]? = W0.heap[b]? /\ b<W.heap.size/\w.heap.size<=b/\o' b=none
 row:aI W w.heap.size lv acc
 own:∀b,lv.ownBlock=some b->¬K2 b/\o' b=none
variable {W0:World} {K2:Nat->Prop}
theorem BA.below(h:BA n pb db w o d L W0 K2 lv acc W o' d')(hb:Below W.heap.size W W'):BA n pb db w o d L W0 K2 lv acc W' o' d':=
 ⟨h.mv.below hb,fun b hk=>⟨(hb.block b (h.keep b hk).2.1).trans (h.keep b hk).1,Nat.lt_of_lt_of_le (h.keep b hk).2.1 hb.size,(h.keep b hk).2.2⟩,aW h.row hb,h.own⟩
theorem BA.moved(h:BA n pb db w o d L W0 K2 lv acc W o' d')(hm:aw (fun _=>False) n pb db W o' d' W' gL gw L):BA n pb db w o d L W0 K2 lv acc W' gL gw:=
 ⟨h.mv.trans hm (fun _ _ e=>e),fun b hk=>⟨(hm.block (h.keep b hk).2.1 (h.keep b hk).2.2.2 (fun e=>e)).trans (h.keep b hk).1,Nat.lt_of_lt_of_le (h.keep b hk).2.1 hm.size,(h.keep b hk).2.2.1,hm.free (h.keep b hk).2.1 (h.keep b hk).2.2.2⟩,
  hm.ownsRow h.row (fun b hb=>⟨(h.own b hb).2,fun e=>e⟩),fun b hb=>⟨(h.own b hb).1,hm.free (aL h.row b hb).1 (h.own b hb).2⟩⟩
theorem BA.Ik(h:BA n pb db w o d L W0 K2 lv acc W o' d'){y:aF}{Jy:Value}{ob:Obj}(hr:aI W' w.heap.size Jy (acc++[y]))(ha:lq lv (W.alloc ob) W' Jy):BA n pb db w o d L W0 K2 Jy (acc++[y]) W' o' d':=by
 obtain⟨hm,hf,hh,hz⟩:=ha.moved h.mv (fun x hx=>⟨(h.own x hx).2,(aL h.row x hx).2⟩);refine⟨hm,fun b hk=>⟨(hh b (h.keep b hk).2.1 (fun e=>(h.own b e).1 hk)).trans (h.keep b hk).1,Nat.lt_of_lt_of_le (h.keep b hk).2.1 hz,(h.keep b hk).2.2⟩,hr,fun b hb=>⟨fun hk=>?_,(hf b hb).1⟩⟩;rcases ha.2 with e | e
 ·grind [own]
 ·rw[e]at hb;cases hb;have:=(h.keep _ hk).2.1;simp at this;omega
theorem BA.aei(h:BA n pb db w o d L W0 K2 lv acc W o' d')(x:Nat)(h1:x<W.heap.size)(h2:w.heap.size<=x)(h3:o' x=none)(h4:lv.ownBlock≠some x):BA n pb db w o d L W (fun b=>K2 b\/b=x) lv acc W o' d':=
 ⟨h.mv,fun b hb=>⟨rfl,hb.elim (fun e=>(h.keep b e).2) (fun e=>by grind)⟩,h.row,fun b hb=>⟨fun e=>e.elim (h.own b hb).1 (fun e=>h4 (e▸hb)),(h.own b hb).2⟩⟩
theorem BA.narrow{Jy:Value}{kR:List aF}{x:Nat}(h:BA n pb db w o d L W0 K2 lv acc W o' d')(k:BA n pb db w o d L W (fun b=>K2 b\/b=x) Jy kR W' gL gw):BA n pb db w o d L W0 K2 Jy kR W' gL gw:=
 ⟨k.mv,fun b hb=>⟨(k.keep b (.inl hb)).1.trans (h.keep b hb).1,(k.keep b (.inl hb)).2⟩,k.row,fun b hb=>⟨fun e=>(k.own b hb).1 (.inl e),(k.own b hb).2⟩⟩
def uL(n pb db:Nat)(w:World)(o:ar)(d:Dsk)(L:aC)(ajL:List aF)(e:Ending)(w':World):Prop:=
 ∃v d' o',e=.returned (.tuple #[v,.int .i64 0])/\aw (fun _=>False) n pb db w o d w' o' d' L/\kL w' v ajL/\∀x,v.ownBlock=some x->o' x=none/\w.heap.size<=x/\x<w'.heap.size
theorem SU{w:World}{base:Nat}{l:List aF}{a:Option Addr}{cap:Nat}(h:aI w base (.slice a l.length cap) l):kL w (.slice a l.length l.length) l:=by
 rcases cj h with⟨rfl,e⟩|⟨g,c,e,-,-,-⟩
 ·cases e;exact⟨_,_,rfl,.inl rfl⟩
 ·cases e;exact⟨_,_,rfl,.inr ⟨g,0,rfl,fun j x hx=>by
   grind [bL]⟩⟩
theorem SV{a:Option Addr}{k cap:Nat}(hk:k<=cap)(w:World):Calls prog 203 #[.slice a k cap] w fun e w'=>e=.returned (.slice a k k)/\w'=w:=by
 go_enter func203,ntmps203;go_wp2;go_ret;simp
theorem rI{α β:Type}{l:List α}{f:α->List β}{j:Nat}{x:α}(h:l[j]? = some x):(l.take (j+1)).flatMap f=(l.take j).flatMap f++f x:=by
 grind [List.take_succ_eq_append_getElem]
theorem gH{α β:Type}{l:List α}{f:α->Option β}{j:Nat}{x:α}(h:l[j]? = some x):(l.take (j+1)).filterMap f=(l.take j).filterMap f++(f x).toList:=by
 grind [List.take_succ_eq_append_getElem]
theorem IM{α β:Type}{f:α->List β}{c:Nat}(hf:∀x,(f x).length<=c){l:List α}{i:Nat}(hl:l.length<=i):(l.flatMap f).length<=i*c:=by
 refine Nat.le_trans ?_ (Nat.mul_le_mul_right c hl);induction l generalizing i with
 |nil=>simp
 |cons x l ih=>
   have h1:=ih (Nat.le_refl _);grind [Nat.succ_mul]
theorem sD(HW:aQ)(h:fH w0 w pb db n o d L gb gen N ob ib vb es)(ha:IK w o av A K)(v:UInt32)(hv:v.toNat<N)(wR:(fB es v.toNat).length*(aY es v.toNat).length<=100000) :
 Calls prog 142 #[uK gb,Fa gb,av,.int .u32 (v.toNat:Int)] w (uL n pb db w o d L (oH (aY es) A (fB es v.toNat) v)):=by
 have H:=aa h;obtain⟨f,cs,rfl,-⟩:=ha.ex;have HA:=aa ha;have HDG:=aa wR;clear h ha wR;obtain⟨R,HR⟩:∃R,Hid (oH (aY es) A (fB es v.toNat) v=R):=⟨_,aa rfl⟩;rw[HR.out];have Bu:=mg Tryz.underlying53 (.func 21) #[.pointer (some ⟨gb,0,none⟩)] #[];have T6:=mg Tryz.underlying53 (.func 22) #[.pointer (some ⟨gb,0,none⟩)] #[];have hn3:=mg Tryz.underlying234 (.func f) #[] cs;have cS:Hid (Below w.heap.size w ((w.alloc (.cells #[.func (.func f) #[] cs] 234)).alloc (.cells #[.int .u32 (v.toNat:Int)] 26))):=aa (ai.alloc ah _);have iU:Hid (((w.alloc (.cells #[.func (.func f) #[] cs] 234)).alloc (.cells #[.int .u32 (v.toNat:Int)] 26)).heap[w.heap.size]? = some (.cells #[.func (.func f) #[] cs] 234)/\((w.alloc (.cells #[.func (.func f) #[] cs] 234)).alloc (.cells #[.int .u32 (v.toNat:Int)] 26)).heap[w.heap.size+1]? = some (.cells #[.int .u32 (v.toNat:Int)] 26)/\((w.alloc (.cells #[.func (.func f) #[] cs] 234)).alloc (.cells #[.int .u32 (v.toNat:Int)] 26)).heap.size=w.heap.size+2):=aa (by
  grind [World.alloc])
 have hb:=aa (IL HW (H.o.moved (aw.aU H.o.held.aX cS.o)) hv);have SX:Hid (∀W o' d',aw (fun _=>False) n pb db w o d W o' d' L->fH w0 W pb db n o' d' L gb gen N ob ib vb es/\IK W o' (.func (.func f) #[] cs) A K):=aa (fun W o' d' hm=>⟨H.o.moved hm,HA.o.moved hm⟩);unfold qV uK Fa at *;unfold ptrTo at *;go_enter func142,ntmps142;go_wp2_with fail;refine hb.o.mono ?_;rintro e w2⟨iv,ov,d2,o2,rfl,cP,CV,ko,hf2⟩;obtain⟨ia,ic,rfl⟩:=az CV;obtain⟨oa,oc,rfl⟩:=az ko;obtain⟨M1,NQ⟩:∃M,M=(fB es v.toNat).length:=⟨_,rfl⟩;obtain⟨M2,PC⟩:∃M,M=(aY es v.toNat).length:=⟨_,rfl⟩;rw[<- NQ]at CV hf2 ⊢;rw[<- PC]at ko hf2 ⊢;have HM:Hid (M1=(fB es v.toNat).length/\M2=(aY es v.toNat).length/\M1<=1000/\M2<=1000):=aa ⟨NQ,PC,by rw[NQ];exact Nat.le_trans (AW _ _) H.o.len,by rw[PC];exact Nat.le_trans (mX _ _) H.o.len⟩;clear NQ PC;rw[iU.o.2.2]at CV ko;obtain⟨sv,Qj⟩:∃x,x=w.heap.size+1:=⟨_,rfl⟩;obtain⟨ab,hab⟩:∃x,x=w.heap.size:=⟨_,rfl⟩;have eu:Hid (BA n pb db w o d L w2 (fun b=>b=sv\/b=ab\/(Value.slice ia M1 ic).ownBlock=some b\/(Value.slice oa M2 oc).ownBlock=some b) (.slice none 0 0) [] w2 o2 d2):=aa (by
  have hz:=iU.o.2.2;have hz2:=cP.size;have dQ:∀b,w.heap.size<=b->o b=none:=fun b hb=>H.o.held.aX.fresh hb;refine⟨(aw.aU H.o.held.aX cS.o).trans cP (fun _ _ e=>e),fun b hb=>⟨rfl,?_⟩,World.ownsRow_nil _ _ _ _,fun b hb=>by cases hb⟩;rcases hb with rfl | rfl | e | e
  ·exact⟨ae,ae,cP.free ae (dQ _ ae)⟩
  ·exact⟨ae,ae,cP.free ae (dQ _ ae)⟩
  ·have:=aL CV b e;exact⟨this.1,ae,hf2 b (.inl e)⟩
  ·have:=aL ko b e;exact⟨this.1,ae,hf2 b (.inr e)⟩)
 have HK:Hid (aI w2 (w.heap.size+2) (.slice ia M1 ic) (fB es v.toNat)/\aI w2 (w.heap.size+2) (.slice oa M2 oc) (aY es v.toNat)/\w2.heap[sv]? = some (.cells #[.int .u32 (v.toNat:Int)] 26)/\w2.heap[ab]? = some (.cells #[.func (.func f) #[] cs] 234)):=aa (by
  have dQ:∀b,w.heap.size<=b->o b=none:=fun b hb=>H.o.held.aX.fresh hb;exact⟨CV,ko,by rw[Qj];exact cP.heap iU.o.2.1 (dQ _ ae) (fun e=>e),by rw[hab];exact cP.heap iU.o.1 (dQ _ ae) (fun e=>e)⟩)
 clear cP CV ko hf2 cS iU hb Bu T6 hn3;go_wp2;rw[<- Qj,<- hab];clear Qj hab;go_loopw [8,50] (fun vl vi wr=>∃(i:Nat)(acc:List aF)(d':Dsk)(o':ar),vi=.int .i64 (i:Int)/\i<=M1/\Hid (BA n pb db w o d L w2 (fun b=>b=sv\/b=ab\/(Value.slice ia M1 ic).ownBlock=some b\/(Value.slice oa M2 oc).ownBlock=some b) vl acc wr o' d')/\Hid (acc=((fB es v.toNat).take i).flatMap (fun a=>(aY es v.toNat).filterMap (jF (aY es) A v a)))) (fun _ vi _=>M1-(intOf vi).toNat)
 case atStart=>exact⟨0,[],d2,o2,rfl,Nat.zero_le _,eu,aa rfl⟩
 case round=>
  obtain⟨i,acc,d3,o3,rfl,hi,fy,HA3⟩:=hrel;clear eu;generalize wr=W3 at *;obtain⟨la,lc,rfl⟩:=az fy.out.row;by_cases hlt:i<M1
  ·have hiz:(i:Int)<(M1:Int):=by omega
   have wi:IntKind.i64.wrap ((i:Int)+1)=((i+1:Nat):Int):=by grind [Hid.out,ax]
   obtain⟨a,ha⟩:∃x,(fB es v.toNat)[i]? = some x:=⟨_,List.getElem?_eq_getElem (by grind [Hid.out])⟩;have HIA:=aa ha;have HAN:Hid (a.t.toNat<N/\a.t.toNat<4294967296/\a.x.toNat<18446744073709551616):=aa ⟨(H.o.ends a (MK (List.mem_of_getElem? ha)).1).1,a.t.toNat_lt,a.x.toNat_lt⟩;obtain⟨gi,rfl⟩:∃g,ia=some ⟨g,0,none⟩:=by
    obtain⟨-,⟨h1,h2⟩|⟨g,_,_,h1,_⟩⟩:=HK.o.1
    ·grind
    grind
   have hrow:aI W3 (w.heap.size+2) (.slice (some ⟨gi,0,none⟩) (fB es v.toNat).length ic) (fB es v.toNat):=by rw[<- HM.o.1];exact bI HK.o.1 (fun b hb=>(fy.out.keep b (.inr (.inr (.inl hb)))).1)
   obtain⟨q0,q1,q2,q3⟩:=bL hrow ha;have gj:=aa (fy.out.below (aj.alloc (Nat.le_refl _) (.cells #[.int .u32 (a.t.toNat:Int),.int .u32 (a.h.toNat:Int),.int .u64 (a.x.toNat:Int),.int .u32 (a.m.toNat:Int)] 64)));have Uc:Hid ((W3.alloc (.cells #[.int .u32 (a.t.toNat:Int),.int .u32 (a.h.toNat:Int),.int .u64 (a.x.toNat:Int),.int .u32 (a.m.toNat:Int)] 64)).heap[W3.heap.size]? = some (.cells #[.int .u32 (a.t.toNat:Int),.int .u32 (a.h.toNat:Int),.int .u64 (a.x.toNat:Int),.int .u32 (a.m.toNat:Int)] 64)):=aa (heap_alloc_new _ _);obtain⟨xa,hxa⟩:∃x,x=W3.heap.size:=⟨_,rfl⟩;have b8:Hid (BA n pb db w o d L (W3.alloc (.cells #[.int .u32 (a.t.toNat:Int),.int .u32 (a.h.toNat:Int),.int .u64 (a.x.toNat:Int),.int .u32 (a.m.toNat:Int)] 64)) (fun b=>(b=sv\/b=ab\/(Value.slice (some ⟨gi,0,none⟩) M1 ic).ownBlock=some b\/(Value.slice oa M2 oc).ownBlock=some b)\/b=xa) (.slice la acc.length lc) acc (W3.alloc (.cells #[.int .u32 (a.t.toNat:Int),.int .u32 (a.h.toNat:Int),.int .u64 (a.x.toNat:Int),.int .u32 (a.m.toNat:Int)] 64)) o3 d3):=aa (gj.o.aei xa (by simp_all) (by rw[hxa];exact fy.out.mv.size) (fy.out.mv.aX.fresh ae) (fun e=>by have:=(aL fy.out.row _ e).1;omega));rw[<- hxa]at Uc;clear hrow ha;go_wp2_with fail;rw[<- hxa];clear q0 q1 q2 q3 hxa;generalize W3.alloc (.cells #[.int .u32 (a.t.toNat:Int),.int .u32 (a.h.toNat:Int),.int .u64 (a.x.toNat:Int),.int .u32 (a.m.toNat:Int)] 64)=W4 at *;have x0:W4.cell? ⟨xa,0,none⟩=some (.int .u32 (a.t.toNat:Int)):=by rw[aq Uc.o];rfl
   have x1:=(Array.getElem?_eq_some_iff.1 Uc.o).1;go_step3
   go_wp2_with fail;go_step3
   go_wp2_with fail;clear x0 x1;have OQ:Hid (∀lv acc W o' d',BA n pb db w o d L W4 (fun b=>(b=sv\/b=ab\/(Value.slice (some ⟨gi,0,none⟩) M1 ic).ownBlock=some b\/(Value.slice oa M2 oc).ownBlock=some b)\/b=xa) lv acc W o' d'->(W.heap[sv]? = some (.cells #[.int .u32 (v.toNat:Int)] 26)/\W.heap[ab]? = some (.cells #[.func (.func f) #[] cs] 234))/\W.heap[xa]? = some (.cells #[.int .u32 (a.t.toNat:Int),.int .u32 (a.h.toNat:Int),.int .u64 (a.x.toNat:Int),.int .u32 (a.m.toNat:Int)] 64)/\aI W (w.heap.size+2) (.slice oa M2 oc) (aY es v.toNat)/\∀x:Nat,x<4294967296->Calls prog 200 #[.int .u32 (x:Int),.pointer (some ⟨sv,0,none⟩),.pointer (some ⟨ab,0,none⟩)] W fun e W'=>e=.returned (.bool (x == v.toNat || A x))/\Below W.heap.size W W'):=aa (fun lv acc W o' d' hs=>by
    have k1:=(hs.keep sv (.inl (.inl rfl))).1.trans ((gj.o.keep sv (.inl rfl)).1.trans HK.o.2.2.1);have k2:=(hs.keep ab (.inl (.inr (.inl rfl)))).1.trans ((gj.o.keep ab (.inr (.inl rfl))).1.trans HK.o.2.2.2);exact⟨⟨k1,k2⟩,(hs.keep xa (.inr rfl)).1.trans Uc.o,bI HK.o.2.1 (fun b hb=>(hs.keep b (.inl (.inr (.inr (.inr hb))))).1.trans (gj.o.keep b (.inr (.inr (.inr hb)))).1),fun x hx=>ML (SX.o _ _ _ hs.mv).2 v.toNat x hx (fun _ _=>rfl) (Nat.le_refl _) k1 k2⟩)
   go_loopw [8,58] (fun vl vk wr=>∃(k:Nat)(kR:List aF)(d':Dsk)(o':ar),vk=.int .i64 (k:Int)/\k<=M2/\Hid (BA n pb db w o d L W4 (fun b=>(b=sv\/b=ab\/(Value.slice (some ⟨gi,0,none⟩) M1 ic).ownBlock=some b\/(Value.slice oa M2 oc).ownBlock=some b)\/b=xa) vl kR wr o' d')/\Hid (kR=acc++((aY es v.toNat).take k).filterMap (jF (aY es) A v a))) (fun _ vk _=>M2-(intOf vk).toNat)
   case atStart=>exact⟨0,acc,d3,o3,rfl,Nat.zero_le _,b8,aa ah⟩
   case round=>
    obtain⟨k,kR,d6,o6,rfl,hk,gu,Uf⟩:=hrel;clear b8;generalize wr=W6 at *;obtain⟨ma,mc,rfl⟩:=az gu.out.row;by_cases hkt:k<M2
    ·have FI:(k:Int)<(M2:Int):=by omega
     have wk:IntKind.i64.wrap ((k:Int)+1)=((k+1:Nat):Int):=by have:=HM.o;rw[ax]<;>omega
     obtain⟨b,hb⟩:∃x,(aY es v.toNat)[k]? = some x:=⟨_,List.getElem?_eq_getElem (by have:=HM.o;omega)⟩;have Z9:=aa hb;have HBN:Hid (b.h.toNat<N/\b.h.toNat<4294967296/\b.x.toNat<18446744073709551616):=aa ⟨(H.o.ends b (AU (List.mem_of_getElem? hb)).1).2,b.h.toNat_lt,b.x.toNat_lt⟩;obtain⟨gg,rfl⟩:∃g,oa=some ⟨g,0,none⟩:=by
      obtain⟨-,⟨h1,h2⟩|⟨g,_,_,h1,_⟩⟩:=HK.o.2.1
      ·simp_all
      simp_all
     have hrow:aI W6 (w.heap.size+2) (.slice (some ⟨gg,0,none⟩) (aY es v.toNat).length oc) (aY es v.toNat):=by rw[<- HM.o.2.1];exact(OQ.o _ _ _ _ _ gu.out).2.2.1
     obtain⟨q0,q1,q2,q3⟩:=bL hrow hb;have jR:=aa (gu.out.below (aj.alloc (Nat.le_refl _) (.cells #[.int .u32 (b.t.toNat:Int),.int .u32 (b.h.toNat:Int),.int .u64 (b.x.toNat:Int),.int .u32 (b.m.toNat:Int)] 64)));have VO:Hid ((W6.alloc (.cells #[.int .u32 (b.t.toNat:Int),.int .u32 (b.h.toNat:Int),.int .u64 (b.x.toNat:Int),.int .u32 (b.m.toNat:Int)] 64)).heap[W6.heap.size]? = some (.cells #[.int .u32 (b.t.toNat:Int),.int .u32 (b.h.toNat:Int),.int .u64 (b.x.toNat:Int),.int .u32 (b.m.toNat:Int)] 64)):=aa (heap_alloc_new _ _);clear hrow hb;by_cases c1:a.t.toNat=b.h.toNat
     ·have c1z:(a.t.toNat:Int)=(b.h.toNat:Int):=by omega
      have C1:=aa c1;clear c1;have HN:jF (aY es) A v a b=none:=by unfold jF;exact if_pos (.inl C1.o)
      have Lg:Hid (kR=acc++((aY es v.toNat).take (k+1)).filterMap (jF (aY es) A v a)):=aa (by rw[gH Z9.o,HN,Uf.out];simp);clear HN;go_wp2;go_roundw
      case rel=>exact⟨k+1,kR,d6,o6,by go_num,ae,jR,Lg⟩
      case measure=>simp[intOf];omega
     ·have c1z:¬(a.t.toNat:Int)=(b.h.toNat:Int):=by omega
      have C1:=aa c1;clear c1;have hs1:=aa ((OQ.o _ _ _ _ _ jR.o).2.2.2 _ HAN.o.2.1);go_wp2_with fail;refine hs1.o.mono ?_;rintro e w8⟨rfl,JH⟩;have jD:=aa (jR.o.below JH);have aaa:=aa ((JH.block _ (Array.getElem?_eq_some_iff.1 VO.o).1).trans VO.o);clear q0 q1 q2 q3 hs1 JH jR VO;by_cases c2:(a.t.toNat == v.toNat || A a.t.toNat)=true
      ·rw[c2];have C2:=aa c2;clear c2;have HN:jF (aY es) A v a b=none:=by unfold jF;exact if_pos (.inr (.inl C2.o))
       have Lg:Hid (kR=acc++((aY es v.toNat).take (k+1)).filterMap (jF (aY es) A v a)):=aa (by rw[gH Z9.o,HN,Uf.out];simp);clear HN;go_wp2;go_roundw
       case rel=>exact⟨k+1,kR,d6,o6,by go_num,ae,jD,Lg⟩
       case measure=>simp[intOf];omega
      ·have c2f:(a.t.toNat == v.toNat || A a.t.toNat)=false:=by simp_all
       rw[c2f];have C2:=aa c2;clear c2 c2f;have hs2:=aa ((OQ.o _ _ _ _ _ jD.o).2.2.2 _ HBN.o.2.1);go_wp2_with fail;refine hs2.o.mono ?_;rintro e w9⟨rfl,Oe⟩;have p8:=aa (jD.o.below Oe);have aem:=aa ((Oe.block _ (Array.getElem?_eq_some_iff.1 aaa.o).1).trans aaa.o);clear hs2 Oe jD aaa;by_cases c3:(b.h.toNat == v.toNat || A b.h.toNat)=true
       ·rw[c3];have C3:=aa c3;clear c3;have HN:jF (aY es) A v a b=none:=by unfold jF;exact if_pos (.inr (.inr (.inl C3.o)))
        have Lg:Hid (kR=acc++((aY es v.toNat).take (k+1)).filterMap (jF (aY es) A v a)):=aa (by rw[gH Z9.o,HN,Uf.out];simp);clear HN;go_wp2;go_roundw
        case rel=>exact⟨k+1,kR,d6,o6,by go_num,ae,p8,Lg⟩
        case measure=>simp[intOf];omega
       ·have c3f:(b.h.toNat == v.toNat || A b.h.toNat)=false:=by simp_all
        rw[c3f];have C3:=aa c3;clear c3 c3f;generalize FK:W6.heap.size=xb at *;clear FK;have y2:w9.cell? ⟨xb,2,none⟩=some (.int .u64 (b.x.toNat:Int)):=by rw[aq aem.o];rfl
        have y3:w9.cell? ⟨xa,2,none⟩=some (.int .u64 (a.x.toNat:Int)):=by rw[aq (OQ.o _ _ _ _ _ p8.o).2.1];rfl
        have k9:=aa (Ir a.x.toNat b.x.toNat HAN.o.2.2 HBN.o.2.2 w9);go_wp2_with fail;refine k9.o.mono ?_;rintro e T9⟨rfl,rfl⟩;clear y2 y3 k9;by_cases ig:a.x.toNat+b.x.toNat<9223372036854775808
        ·obtain⟨X,hX⟩:∃X:UInt64,X.toNat=a.x.toNat+b.x.toNat:=⟨UInt64.ofNat (a.x.toNat+b.x.toNat),by rw[UInt64.toNat_ofNat'];omega⟩;have SP:KZ a.x.toNat b.x.toNat=.tuple #[.int .u64 (X.toNat:Int),.bool true]:=by rw[hX];exact if_pos ig
         rw[SP];have Z0:=aa hX;have UC:=aa ig;clear SP ig hX;have hout:=aa ((SX.o _ _ _ p8.o.mv).1.out HW HAN.o.1);unfold ju ptrTo at hout;go_wp2_with fail;refine hout.o.mono ?_;rintro e qW⟨ev,d11,o11,rfl,IP,hown,-⟩;obtain⟨ea,ec,rfl⟩:=az hown;obtain⟨M3,hM3⟩:∃M,M=(aY es a.t.toNat).length:=⟨_,rfl⟩;rw[<- hM3]at hown ⊢;have AX:=aa (p8.o.moved IP);have XI:=aa hown;have eF:Hid (M3=(aY es a.t.toNat).length/\M3<=1000):=aa ⟨hM3,by rw[hM3];exact Nat.le_trans (mX _ _) H.o.len⟩;clear IP hown hM3 hout p8 aem;go_wp2_with fail;go_loopw [98] (fun vq wr=>∃q:Nat,vq=.int .i64 (q:Int)/\q<=M3/\Hid (BA n pb db w o d L W4 (fun b=>(b=sv\/b=ab\/(Value.slice (some ⟨gi,0,none⟩) M1 ic).ownBlock=some b\/(Value.slice (some ⟨gg,0,none⟩) M2 oc).ownBlock=some b)\/b=xa) (.slice ma kR.length mc) kR wr o11 d11)/\Hid (aI wr T9.heap.size (.slice ea M3 ec) (aY es a.t.toNat))/\Hid (∀y∈(aY es a.t.toNat).take q,¬(y.h.toNat=b.h.toNat/\y.x.toNat<=X.toNat))) (fun vq _=>M3-(intOf vq).toNat)
         case atStart=>exact⟨0,rfl,Nat.zero_le _,AX,XI,aa ah⟩
         case round=>
          obtain⟨q,rfl,hq,wS,SY,aab⟩:=hrel;clear AX XI;generalize wr=Wq at *;by_cases hqt:q<M3
          ·have hqz:(q:Int)<(M3:Int):=by omega
           have wq:IntKind.i64.wrap ((q:Int)+1)=((q+1:Nat):Int):=by have:=eF.o;rw[ax]<;>omega
           obtain⟨y,hy⟩:∃x,(aY es a.t.toNat)[q]? = some x:=⟨_,List.getElem?_eq_getElem (by have:=eF.o;omega)⟩;have HY:=aa hy;obtain⟨ge,rfl⟩:∃g,ea=some ⟨g,0,none⟩:=by
            obtain⟨-,⟨h1,h2⟩|⟨g,_,_,h1,_⟩⟩:=SY.out
            ·simp_all
            simp_all
           have hrow:aI Wq T9.heap.size (.slice (some ⟨ge,0,none⟩) (aY es a.t.toNat).length ec) (aY es a.t.toNat):=by rw[<- eF.o.1];assumption
           obtain⟨q0,q1,q2,q3⟩:=bL hrow hy;have aeo:Hid (Below Wq.heap.size Wq (Wq.alloc (.cells #[.int .u32 (y.t.toNat:Int),.int .u32 (y.h.toNat:Int),.int .u64 (y.x.toNat:Int),.int .u32 (y.m.toNat:Int)] 64))):=aa ai;have yN:=aa (wS.out.below aeo.o);have XJ:=aa (aW SY.out aeo.o);clear hrow hy;by_cases e1:y.h.toNat=b.h.toNat/\y.x.toNat<=X.toNat
           ·have z1:((y.h.toNat:Int) == (b.h.toNat:Int))=true:=by simp_all
            have z2:(y.x.toNat:Int)<=(X.toNat:Int):=by omega
            have Da:Hid (∃x∈aY es a.t.toNat,x.h.toNat=b.h.toNat/\x.x.toNat<=a.x.toNat+b.x.toNat):=aa ⟨y,List.mem_of_getElem? HY.o,e1.1,by rw[<- Z0.o];omega⟩;clear e1;have HN:jF (aY es) A v a b=none:=by unfold jF;exact if_pos (.inr (.inr (.inr (.inr (.inl Da.o)))))
            have Lg:Hid (kR=acc++((aY es v.toNat).take (k+1)).filterMap (jF (aY es) A v a)):=aa (by rw[gH Z9.o,HN,Uf.out];simp);clear HN;go_wp2;go_roundw
            case rel=>exact⟨k+1,kR,d11,o11,by go_num,ae,yN,Lg⟩
            case measure=>simp[intOf];omega
           ·have aep:Hid (∀y∈(aY es a.t.toNat).take (q+1),¬(y.h.toNat=b.h.toNat/\y.x.toNat<=X.toNat)):=aa (fun z hz=>by
             obtain⟨hl,ZR⟩:=List.getElem?_eq_some_iff.1 HY.o;rw[List.take_succ_eq_append_getElem hl,List.mem_append,List.mem_singleton]at hz;rcases hz with hz | rfl
             ·exact aab.out z hz
             simp_all)
            by_cases z0:y.h.toNat=b.h.toNat
            ·have z2:¬(y.x.toNat:Int)<=(X.toNat:Int):=fun h=>e1 ⟨ae,ae⟩;have z1:((y.h.toNat:Int) == (b.h.toNat:Int))=true:=by simp_all
             clear e1 z0;go_wp2;go_roundw
             case rel=>exact⟨q+1,by go_num,ae,yN,XJ,aep⟩
             case measure=>simp[intOf];omega
            ·have z1:¬(y.h.toNat:Int)=(b.h.toNat:Int):=by omega
             clear e1 z0;go_wp2;go_roundw
             case rel=>exact⟨q+1,by go_num,ae,yN,XJ,aep⟩
             case measure=>simp[intOf];omega
          ·have hqz:¬(q:Int)<(M3:Int):=by omega
           have rz:Hid (¬∃x∈aY es a.t.toNat,x.h.toNat=b.h.toNat/\x.x.toNat<=a.x.toNat+b.x.toNat):=aa (fun⟨y,h1,h2⟩=>aab.out y (by rw[List.take_of_length_le (by have:=eF.o;omega)];exact h1) (by rw[Z0.o];exact h2));have hfi:s6 w0 Wq pb db n o11 d11 L gb gen N ob ib vb es (fun x=>x == v.toNat || A x) sv ab (fun x=>K x\/x=sv\/x=ab):=by
            obtain⟨hn,hv'⟩:=SX.o _ _ _ wS.out.mv;obtain⟨⟨k1,k2⟩,-,-,-⟩:=OQ.o _ _ _ _ _ wS.out;refine⟨hn.held,hn.need,hn.gr,hn.file,hn.len,hn.top,hn.ends,fun x hx=>?_,fun W x hk hs hx=>ML hv' v.toNat x hx (fun b hb=>hk b (.inl hb)) hs ((hk sv (.inr (.inl rfl))).trans k1) ((hk ab (.inr (.inr rfl))).trans k2)⟩;rcases hx with hx | rfl | rfl
            ·exact hv'.old x hx
            ·exact⟨(wS.out.keep _ (.inl (.inl rfl))).2.1,(wS.out.keep _ (.inl (.inl rfl))).2.2.2⟩
            ·exact⟨(wS.out.keep _ (.inl (.inr (.inl rfl)))).2.1,(wS.out.keep _ (.inl (.inr (.inl rfl)))).2.2.2⟩
           have hf:=aa (IJ HW hfi a.t.toNat b.h.toNat X.toNat HAN.o.1);unfold oJ ptrTo at hf;clear hfi SY aab;go_wp2_with fail;refine hf.o.mono ?_;rintro e w13⟨d13,o13,rfl,aeq⟩;have yN:=aa (wS.out.moved aeq);clear hf aeq wS;by_cases SZ:mU (aY es) (fun x=>x == v.toNat || A x) b.h.toNat X.toNat 16 [(a.t.toNat,0)] []=true
           ·rw[SZ];have HFD:Hid (mU (aY es) (fun x=>x == v.toNat || A x) b.h.toNat (a.x.toNat+b.x.toNat) 16 [(a.t.toNat,0)] []=true):=aa (by rw[<- Z0.o];omega);clear SZ;have HN:jF (aY es) A v a b=none:=by unfold jF;exact if_pos (.inr (.inr (.inr (.inr (.inr HFD.o)))))
            have Lg:Hid (kR=acc++((aY es v.toNat).take (k+1)).filterMap (jF (aY es) A v a)):=aa (by rw[gH Z9.o,HN,Uf.out];simp);clear HN;go_wp2;go_roundw
            case rel=>exact⟨k+1,kR,d13,o13,by go_num,ae,yN,Lg⟩
            case measure=>simp[intOf];omega
           ·have Gz:mU (aY es) (fun x=>x == v.toNat || A x) b.h.toNat X.toNat 16 [(a.t.toNat,0)] []=false:=by simp_all
            rw[Gz];have HFD:Hid (¬mU (aY es) (fun x=>x == v.toNat || A x) b.h.toNat (a.x.toNat+b.x.toNat) 16 [(a.t.toNat,0)] []=true):=aa (by rw[<- Z0.o];omega);have HCF:Hid (jF (aY es) A v a b=some ⟨a.t,b.h,X,v⟩):=aa (by
             have e0:UInt64.ofNat (a.x.toNat+b.x.toNat)=X:=by rw[<- Z0.o];simp
             unfold jF;dsimp only;rw[if_neg,e0];rintro(h | h | h | h | h | h)
             ·omega
             ·exact C2.o h
             ·exact C3.o h
             ·exact h UC.o
             ·exact rz.o h
             ·exact HFD.o h)
            have HLN:Hid (kR.length<=100000):=aa (by
             have h1:acc.length<=i*M2:=by rw[HA3.out];exact IM (fun x=>by have:=List.length_filterMap_le (jF (aY es) A v x) (aY es v.toNat);have:=HM.o;omega) (by rw[List.length_take];omega)
             have h2:(((aY es v.toNat).take k).filterMap (jF (aY es) A v a)).length<=k:=Nat.le_trans (List.length_filterMap_le _ _) (by rw[List.length_take];omega);have h3:(i+1)*M2<=M1*M2:=Nat.mul_le_mul_right _ ae;rw[Nat.succ_mul]at h3;have h4:=HDG.o;rw[Uf.out,List.length_append];have:=HM.o;rw[<- this.1,<- this.2.1]at h4;omega)
            have Bt:Hid (w.heap.size<=w13.heap.size):=aa yN.o.mv.size;have k5:w13.cell? ⟨sv,0,none⟩=some (.int .u32 (v.toNat:Int)):=by rw[aq (OQ.o _ _ _ _ _ yN.o).1.1];rfl
            clear SZ Gz rz;go_wp2_with (at_builtin;refine cR rfl _ _ rfl w.heap.size _ kR rfl yN.o.row ⟨a.t,b.h,X,v⟩ 1 rfl HLN.o Bt.o ?_);intro l14 w14 aet aeu;have s7:=aa (yN.o.Ik aet aeu);have ajN:Hid (kR++[⟨a.t,b.h,X,v⟩]=acc++((aY es v.toNat).take (k+1)).filterMap (jF (aY es) A v a)):=aa (by rw[gH Z9.o,HCF.o,Uf.out];simp);clear aet aeu yN;go_wp2;go_roundw
            case rel=>exact⟨k+1,_,d13,o13,by go_num,ae,s7,ajN⟩
            case measure=>simp[intOf];omega
        ·have SP:KZ a.x.toNat b.x.toNat=.tuple #[.int .u64 0,.bool false]:=if_neg ig;rw[SP];have UC:=aa ig;clear SP ig;have HN:jF (aY es) A v a b=none:=by unfold jF;exact if_pos (.inr (.inr (.inr (.inl UC.o))))
         have Lg:Hid (kR=acc++((aY es v.toNat).take (k+1)).filterMap (jF (aY es) A v a)):=aa (by rw[gH Z9.o,HN,Uf.out];simp);clear HN;go_wp2;go_roundw
         case rel=>exact⟨k+1,kR,d6,o6,by go_num,ae,p8,Lg⟩
         case measure=>simp[intOf];omega
    ·have FI:¬(k:Int)<(M2:Int):=by omega
     have jR:=aa (gj.o.narrow gu.out);have Sv:Hid (kR=((fB es v.toNat).take (i+1)).flatMap (fun a=>(aY es v.toNat).filterMap (jF (aY es) A v a))):=aa (by
      rw[rI HIA.o,Uf.out,HA3.out,List.take_of_length_le (l:=aY es v.toNat) (by have:=HM.o;omega)])
     clear gu Uf;go_wp2;go_roundw
     case rel=>exact⟨i+1,kR,d6,o6,by go_num,ae,jR,Sv⟩
     case measure=>simp[intOf];omega
  ·have hiz:¬(i:Int)<(M1:Int):=by omega
   have Gd:acc.length<=lc:=by
    obtain⟨-,⟨h1,h2⟩|⟨_,_,_,h1,-,-,h7,-⟩⟩:=fy.out.row
    ·omega
    grind
   have HQ:Hid (uL n pb db w o d L R (.returned (.tuple #[.slice la acc.length acc.length,.int .i64 0])) W3):=aa ⟨_,d3,o3,rfl,fy.out.mv,by
    have e:acc=R:=by rw[HA3.out,<- HR.out,List.take_of_length_le (by grind [Hid.out])];rfl
    subst e;exact SU fy.out.row,fun x hx=>by
    cases la with
    |none=>cases hx
    |some p=>exact⟨(fy.out.own x hx).2,(aL fy.out.row x hx).2,(aL fy.out.row x hx).1⟩⟩
   have uY:=aa (SV (a:=la) Gd W3);clear Gd;go_wp2_with fail;refine uY.o.mono ?_;rintro e w4⟨rfl,rfl⟩;clear uY;go_wp2;go_returns;exact HQ.o
end
end
section
open Go.RowKit Go.Maps
theorem Lh(args:Array Value)(w:World):Sem.run prog (callFunc 143 args) w=.ok (.enter 143 args) w:=by go_simp
theorem Li(x:Nat)(w:World):Calls prog 143 #[.int .u32 (x:Int)] w fun e w'=>e=.returned (.bool false)/\w'=w:=by
 go_enter func143,ntmps143;go_wp2;go_ret;simp
theorem aac(w:World)(o:ar):IK w o (.func (.func 143) #[] #[]) (fun _=>false) (fun _=>False):=
 ⟨⟨_,_,rfl,Lh,fun W x _ _ _=>(Li x W).mono fun _ _ ⟨h1,h2⟩=>⟨h1,h2▸Below.refl _ _⟩⟩,(by grind)⟩
section
variable {w0 w w' W:World} {pb db n gb gen N ob ib vb:Nat} {o o':ar} {d d':Dsk} {L:aC} {es:List aF}
def DC(n pb db:Nat)(w:World)(o:ar)(d:Dsk)(L:aC)(i k c:Nat)(e:Ending)(w':World):Prop:=
 ∃d' o',e=.returned (.tuple #[.int .i64 (i:Int),.int .i64 (k:Int),.int .i64 (c:Int),.int .i64 0])/\aw (fun _=>False) n pb db w o d w' o' d' L
theorem IQ(HW:aQ)(h:fH w0 w pb db n o d L gb gen N ob ib vb es)(v:UInt32)(hv:v.toNat<N)(wR:(fB es v.toNat).length*(aY es v.toNat).length<=100000) :
 Calls prog 97 #[uK gb,Fa gb,.int .u32 (v.toNat:Int)] w (DC n pb db w o d L (fB es v.toNat).length (aY es v.toNat).length (oH (aY es) (fun _=>false) (fB es v.toNat) v).length):=by
 have vG:=aa (sD HW h (aac w o) v hv wR);have HB:Hid (∀W o' d',aw (fun _=>False) n pb db w o d W o' d' L->Calls prog 144 #[uK gb,Fa gb,.int .u32 (v.toNat:Int)] W (qV n pb db W o' d' L es v.toNat)):=aa (fun W o' d' hm=>IL HW (h.moved hm) hv);clear h;generalize oH (aY es) (fun _=>false) (fB es v.toNat) v=C at *;unfold uK Fa at *;unfold ptrTo uL qV at *;go_enter func97,ntmps97;go_wp2_with fail;refine vG.o.mono ?_;rintro e w1⟨cv,d1,o1,rfl,dY,⟨ca,cc,rfl,-⟩,-⟩;have eo:=aa dY;have hb:=aa (HB.o _ _ _ dY);clear dY vG;go_wp2_with fail;refine hb.o.mono ?_;rintro e w2⟨iv,ov,d2,o2,rfl,cP,CV,ko,-⟩;obtain⟨ia,ic,rfl⟩:=az CV;obtain⟨oa,oc,rfl⟩:=az ko;have HQ:Hid (DC n pb db w o d L (fB es v.toNat).length (aY es v.toNat).length C.length (.returned (.tuple #[.int .i64 ((fB es v.toNat).length:Int),.int .i64 ((aY es v.toNat).length:Int),.int .i64 (C.length:Int),.int .i64 0])) w2):=aa ⟨d2,o2,rfl,eo.o.trans cP (by grind)⟩;clear cP CV ko hb;go_wp2;go_returns;exact HQ.o
end
end
section
open Go.RowKit Go.Maps
open Go.ChangeMaps (setBlock)
theorem Fb(S:List Nat)(x:Nat):aA (S.map fun x=>(x,())) x=if x∈S then some () else none:=by
 have h:=rH S x;unfold pW at h;cases e:aA (S.map fun x=>(x,())) x with
 |none=>
   grind
 |some u=>
   grind
abbrev bF(w:World)(base:Nat)(v:Value)(l:List Nat):Prop:=w.ownsRow base 26 1 v l.length (l.map iT)
theorem S0:(prog.info? 26).map (fun i=>(i.zero,i.size,i.bytes))=some (some (.int .u32 0),1,4):=by kernel_rfl
theorem iu{w:World}{base g cap:Nat}{l:List Nat}{i x:Nat}(h:bF w base (.slice (some ⟨g,0,none⟩) l.length cap) l)(hi:l[i]? = some x):w.cell? ⟨g,i,none⟩=some (.int .u32 (x:Int)):=by
 have:=World.ownsRow.cells h (g:=g) rfl i (iT x) (by grind);grind [bG]
section
variable {w:World} {ops:Array Oper} {rest:List Oper} {op:Oper} {a:Act} {Q:Exit->Act->World->Prop}
theorem mY(hgd:op.guard=none)(s x:Operand)(ho:op.op=.call { callee:=.builtin .append,args:=#[s,x],argTypes:=#[88,88] })(base:Nat)(v:Value)(l:List Nat)(hs:a.eval s=v)(hown:bF w base v l)(y c:Nat)(hx:a.eval x=.slice (some ⟨w.heap.size,0,none⟩) 1 c)(hl:l.length<=100000)(hbase:base<=w.heap.size)(k:∀v' w',bF w' base v' (l++[y])->lq v (w.alloc (.cells #[.int .u32 (y:Int)] 26)) w' v'->wpList prog ops Q rest (a.put op.dst v') w') :
 wpList prog ops Q (op::rest) a (w.alloc (.cells #[.int .u32 (y:Int)] 26)):=by
 refine dO hgd s x 88 ho base 26 _ 1 4 Tryz.underlying88 S0 rfl af v l.length (l.map iT) hs (World.ownsRow.alloc hown _) ⟨w.heap.size,0,none⟩ 1 c [iT y] hx rfl (fun j u hj=>?_) (by simp[Value.oneCell']) (by grind [maxLen]) ae (by simp;omega) (fun v' w' h1 h2=>k v' w' ?_ h2)
 ·rw[bG,Nat.zero_add];simp_all
 grind
end
abbrev S1(w:World)(b:Nat)(S:List Nat):Prop:=bO prog 26 iT (fun _:Unit=>Value.int .i64 1) w b (S.map fun x=>(x,()))
structure jw(W:World)(base mc lc mb:Nat)(lv:Value)(acc:List Nat):Prop where
 c1:W.heap[mc]? = some (.cells #[.map (some mb)] 237)
 c2:W.heap[lc]? = some (.cells #[lv] 88)
 mp:S1 W mb acc.reverse
 row:bF W base lv acc
 n1:mc≠lc
 n2:mc≠mb
 n3:lc≠mb
 n4:∀b,lv.ownBlock=some b->b≠mc/\b≠lc/\b≠mb
section
variable {W W':World} {base mc lc mb:Nat} {lv:Value} {acc:List Nat}
theorem jw.lt(h:jw W base mc lc mb lv acc):mc<W.heap.size/\lc<W.heap.size/\mb<W.heap.size/\∀b,lv.ownBlock=some b->b<W.heap.size:=
 ⟨(Array.getElem?_eq_some_iff.1 h.c1).1,(Array.getElem?_eq_some_iff.1 h.c2).1,h.mp.lt,fun b hb=>(aL h.row b hb).1⟩
theorem jw.kept(h:jw W base mc lc mb lv acc)(hk:∀b,b=mc\/b=lc\/b=mb\/lv.ownBlock=some b->W'.heap[b]? = W.heap[b]?):jw W' base mc lc mb lv acc:=
 ⟨(hk _ (.inl rfl)).trans h.c1,(hk _ (.inr (.inl rfl))).trans h.c2,h.mp.kept (hk _ (.inr (.inr (.inl rfl)))),bI h.row (fun b hb=>hk b (.inr (.inr (.inr hb)))),h.n1,h.n2,h.n3,h.n4⟩
theorem jw.below(h:jw W base mc lc mb lv acc)(hb:Below W.heap.size W W'):jw W' base mc lc mb lv acc:=by
 obtain⟨l1,l2,l3,l4⟩:=h.lt;grind [kept,Below.block]
def iw(acc:List Nat)(x:Nat):List Nat:=if x∈acc then acc else acc++[x]
def VY(W:World)(base mc lc mb:Nat)(lv:Value)(acc:List Nat)(x:Nat)(e:Ending)(W':World):Prop:=
 ∃Jy,e=.returned (.tuple #[])/\jw W' base mc lc mb Jy (iw acc x)/\aH (fun b=>b=mb\/b=lc\/lv.ownBlock=some b) W W'/\∀b,Jy.ownBlock=some b->lv.ownBlock=some b\/W.heap.size<=b
theorem jw.added(h:jw W base mc lc mb lv acc){x:Nat}{rW ob2:Obj}{w5:World}{v5:Value}(hm:S1 (setBlock W mb rW) mb (acc++[x]).reverse)(ha:lq lv ((setBlock W mb rW).alloc ob2) w5 v5)(h5:bF w5 base v5 (acc++[x])) :
 w5.heap[lc]? = some (.cells #[lv] 88)/\jw (w5.setCell ⟨lc,0,none⟩ v5) base mc lc mb v5 (acc++[x])/\aH (fun b=>b=mb\/b=lc\/lv.ownBlock=some b) W (w5.setCell ⟨lc,0,none⟩ v5)/\∀b,v5.ownBlock=some b->lv.ownBlock=some b\/W.heap.size<=b:=by
 obtain⟨l1,l2,l3,l4⟩:=h.lt;obtain⟨hg,hv⟩:=ha;have hs:(setBlock W mb rW).heap.size=W.heap.size:=by grind [setBlock]
 have mq:aH (fun b=>b=mb\/b=lc\/lv.ownBlock=some b) W ((setBlock W mb rW).alloc ob2):=((aH.refl _ W).setBlock _ _ ae).alloc _;have oM:aH (fun b=>lv.ownBlock=some b) ((setBlock W mb rW).alloc ob2) w5:=⟨hg.os,hg.tape,hg.output,hg.size,fun k hk hn=>hg.block k hk (by grind)⟩;have hz:∀b,b<W.heap.size->b<((setBlock W mb rW).alloc ob2).heap.size:=fun b hb=>by simp;omega
 have hk:∀b,b<W.heap.size->b≠mb->lv.ownBlock≠some b->w5.heap[b]? = W.heap[b]? := fun b hb h1 h2=>by
  grind [aH.block,MapKept.heap_alloc,bg]
 have e5:=(hk lc l2 h.n3 (fun e=>(h.n4 lc e).2.1 rfl)).trans h.c2;have X1:∀b,v5.ownBlock=some b->lv.ownBlock=some b\/W.heap.size<=b:=(by grind);have hne:∀b,v5.ownBlock=some b->b≠mc/\b≠lc/\b≠mb:=fun b hb=>by
  grind [n4]
 have hmb:w5.heap[mb]? = (setBlock W mb rW).heap[mb]? := by
  grind [aH.block,n4,MapKept.heap_alloc]
 refine⟨e5,⟨?_,aT e5 0 v5,?_,?_,h.n1,h.n2,h.n3,hne⟩,(mq.trans oM (by grind)).setCell _ _ (by grind),X1⟩
 ·grind [Below.heap_setCell,n2,n4,c1]
 ·grind [bO.kept,Below.heap_setCell,n3]
 grind [bI,Below.heap_setCell]
theorem OS(h:jw W base mc lc mb lv acc)(x:Nat)(hx:x<4294967296)(hl:acc.length<=100000)(hbase:base<=W.heap.size) :
 Calls prog 145 #[.int .u32 (x:Int),.pointer (some ⟨mc,0,none⟩),.pointer (some ⟨lc,0,none⟩)] W (VY W base mc lc mb lv acc x):=by
 obtain⟨la,lk,rfl⟩:=az h.row;have H:=aa h;have HG:=aa (fO hx);have HZ:Hid (∀W,(zeroValue 3).run prog W=.ok (.int .i64 0) W):=(by simp_all);have c0:W.cell? ⟨mc,0,none⟩=some (.map (some mb)):=by rw[aq h.c1];rfl
 have c1:W.cell? ⟨lc,0,none⟩=some (.slice la acc.length lk):=by rw[aq h.c2];rfl
 have HL:=aa hl;have HBA:=aa hbase;clear h hl hbase;by_cases p9:x∈acc
 ·have HM:Hid (aA (acc.reverse.map fun x=>(x,())) x=some ()):=aa (by grind [Fb]);have HO:Hid (iw acc x=acc):=aa (if_pos p9);clear p9;go_enter func145,ntmps145;go_wp2_with (at_lookup;refine bX _ rfl _ _ _ _ rfl 3 cg dm Tryz.underlying237 (HZ.o _) mb _ rfl H.o.mp x rfl HG.o ?_;rw[HM.o];simp only[Option.map_some,Option.getD_some,Bool.false_eq_true,if_false]);go_returns;exact⟨_,rfl,by grind [Hid.out],aH.refl _ _,fun b hb=>.inl hb⟩
 ·have HM:Hid (aA (acc.reverse.map fun x=>(x,())) x=none):=aa (by grind [Fb]);have HO:Hid (iw acc x=acc++[x]):=aa (if_neg p9);have nw:Hid (aS (acc.reverse.map fun x=>(x,())) x ()=(acc++[x]).reverse.map fun x=>(x,())):=aa (by grind [E7]);clear p9;go_enter func145,ntmps145;go_wp2_with (first | (at_lookup;refine bX _ rfl _ _ _ _ rfl 3 cg dm Tryz.underlying237 (HZ.o _) mb _ rfl H.o.mp x rfl HG.o ?_;rw[HM.o];simp only[Option.map_none,Option.getD_none,Bool.false_eq_true,if_false]) | (at_mapUpdate;refine eJ _ rfl _ _ _ _ rfl 3 cg dm Tryz.underlying237 mb _ rfl H.o.mp x () rfl rfl HG.o ?_;intro es clock cP;rw[nw.o]at cP;have eu:=aa cP;clear cP;have d1:(setBlock W mb (.map es clock)).cell? ⟨lc,0,none⟩=some (.slice la acc.length lk):=(by rw[World.cell?_of_block (a:=⟨lc,0,none⟩) (bg (w:=W) (b:=mb) (.map es clock) H.o.n3)];exact c1);have F7:Hid (bF (setBlock W mb (.map es clock)) base (.slice la acc.length lk) acc):=aa (bI H.o.row (fun b hb=>bg _ (H.o.n4 b hb).2.2));have cX:Hid (base<=(setBlock W mb (.map es clock)).heap.size):=aa (by grind [setBlock,Hid.out])) | (at_builtin;refine mY rfl _ _ rfl base _ acc rfl F7.o x 1 rfl HL.o cX.o ?_;intro v5 w5 h5 ha;obtain⟨e5,hst,yR,Cn⟩:=H.o.added eu.o ha h5;obtain⟨a5,k5,rfl⟩:=az h5;have HQ:=aa (show _/\_/\_ from⟨hst,yR,Cn⟩);have d5:w5.cell? ⟨lc,0,none⟩=some (.slice la acc.length lk):=(by rw[aq e5];rfl);have f5 :=fun k=>aO e5 k;clear hst yR Cn h5 ha e5));rw[show(acc++[x]).length=acc.length+1 by simp]at HQ;go_returns;exact⟨_,rfl,by grind [Hid.out],HQ.o.2.1,HQ.o.2.2⟩
theorem OT(acc:List Nat)(x y:Nat)(h:y∈iw acc x):y∈acc\/y=x:=by
 grind [iw]
theorem Fc(acc:List Nat)(x:Nat):(iw acc x).length<=acc.length+1:=by
 grind [iw]
end
section
variable {w0 w w' W:World} {pb db n gb gen N ob ib vb rb:Nat} {o o':ar} {d d':Dsk} {L:aC} {es:List aF}
def AY(n pb db:Nat)(w:World)(o:ar)(d:Dsk)(L:aC)(l:List Nat)(e:Ending)(w':World):Prop:=
 ∃v d' o',e=.returned (.tuple #[v,.int .i64 0])/\aw (fun _=>False) n pb db w o d w' o' d' L/\bF w' w.heap.size v l/\∀x,v.ownBlock=some x->o' x=none
theorem DD{l:List Nat}{acc:List Nat}{j x:Nat}(h:l[j]? = some x):(l.take (j+1)).foldl iw acc=iw ((l.take j).foldl iw acc) x:=by
 grind [List.take_succ_eq_append_getElem]
theorem mZ{l:List Nat}{acc:List Nat}:(l.foldl iw acc).length<=acc.length+l.length:=by
 induction l generalizing acc with
 |nil=>simp
 |cons x l ih=>
   grind [Fc]
theorem AZ(es:List aF)(v:Nat):cV es v=((fB es v).map (·.t.toNat)).foldl iw (((aY es v).map (·.h.toNat)).foldl iw []):=by
 unfold cV SL;rw[List.foldl_append];rfl
structure kS(n pb db:Nat)(w:World)(o:ar)(d:Dsk)(L:aC)(W0:World)(mc lc mb:Nat)(r1 r2:Value)(acc:List Nat)(W:World)(o':ar)(d':Dsk):Prop where
 mv:aw (fun _=>False) n pb db w o d W o' d' L
 st:∃lv,jw W w.heap.size mc lc mb lv acc/\∀b,b=mc\/b=lc\/b=mb\/lv.ownBlock=some b->w.heap.size<=b/\o' b=none/\r1.ownBlock≠some b/\r2.ownBlock≠some b
 Ug:∀b,r1.ownBlock=some b\/r2.ownBlock=some b->W.heap[b]? = W0.heap[b]? /\ b<W.heap.size
variable {W0 W':World} {mc lc mb:Nat} {r1 r2:Value} {acc:List Nat}
theorem kS.below(h:kS n pb db w o d L W0 mc lc mb r1 r2 acc W o' d')(hb:Below W.heap.size W W'):kS n pb db w o d L W0 mc lc mb r1 r2 acc W' o' d':=by
 obtain⟨lv,h1,h2⟩:=h.st;exact⟨h.mv.below hb,⟨lv,h1.below hb,h2⟩,fun b hr=>⟨(hb.block b (h.Ug b hr).2).trans (h.Ug b hr).1,Nat.lt_of_lt_of_le (h.Ug b hr).2 hb.size⟩⟩
theorem kS.add(h:kS n pb db w o d L W0 mc lc mb r1 r2 acc W o' d')(x:Nat)(hx:x<4294967296)(hl:acc.length<=100000) :
 Calls prog 145 #[.int .u32 (x:Int),.pointer (some ⟨mc,0,none⟩),.pointer (some ⟨lc,0,none⟩)] W fun e W'=>e=.returned (.tuple #[])/\kS n pb db w o d L W0 mc lc mb r1 r2 (iw acc x) W' o' d':=by
 obtain⟨lv,h1,h2⟩:=h.st;refine(OS h1 x hx hl h.mv.size).mono ?_;rintro e W'⟨Jy,rfl,hst,yR,Cn⟩;have hB:∀b,(b=mb\/b=lc\/lv.ownBlock=some b)->(b=mc\/b=lc\/b=mb\/lv.ownBlock=some b):=(by grind);refine⟨rfl,h.mv.yZ (by grind) yR,⟨Jy,hst,fun b e=>?_⟩,fun b hr=>⟨(yR.block b (h.Ug b hr).2 (fun e=>?_)).trans (h.Ug b hr).1,Nat.lt_of_lt_of_le (h.Ug b hr).2 yR.size⟩⟩
 ·rcases e with e | e | e | e
  ·grind
  ·grind
  ·grind
  ·rcases Cn b e with e | e
   ·grind
   ·exact⟨Nat.le_trans h.mv.size e,h.mv.aX.fresh e,fun e'=>by have:=(h.Ug b (.inl e')).2;omega,fun e'=>by have:=(h.Ug b (.inr e')).2;omega⟩
 grind
end
end
end Go.Proofs.YthkkgdpomhhjjaaGreatDoor
