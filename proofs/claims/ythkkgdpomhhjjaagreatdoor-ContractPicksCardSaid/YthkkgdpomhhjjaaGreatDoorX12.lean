/-
  Joined.
-/
import Derived.Test.YthkkgdpomhhjjaaGreatDoorX11
import Derived.Shelf.SlSortCmp.WholeK
import Derived.Lib.ItoaMem
set_option maxRecDepth 100000
set_option maxHeartbeats 16000000
namespace Go.Proofs.YthkkgdpomhhjjaaGreatDoor
open Go.Proofs.Tryz
section
open Go.RowKit Go.Maps
section
variable {S:Nat->Prop} {w0 w w':World} {pb db n gb gen N ob ib vb:Nat} {o o':ar} {d d':Dsk} {L L':aC}
theorem cW.KV(h:cW w o gb pb gen N ob ib vb)(hm:au S n pb db w o d w' o' d' L')(hs:∀x,x<w.heap.size->¬S x):cW w' o' gb pb gen N ob ib vb:=
 ⟨h.raw.moved hm h.Vw (hs _ h.raw.lt),h.out.moved hm h.PF (hs _ h.out.lt),h.p9.moved hm h.Ub (hs _ h.p9.lt),h.qL.moved hm h.Jm (hs _ h.qL.lt),hm.free h.raw.lt h.Vw,hm.free h.out.lt h.PF,hm.free h.p9.lt h.Ub,hm.free h.qL.lt h.Jm⟩
def KW(x:aH):Value:=.agg #[.int .u32 (x.t.toNat:Int),.int .u32 (x.h.toNat:Int),.int .u64 (x.x.toNat:Int),.int .u32 (x.m.toNat:Int)]
theorem KZ(HW:aP)(h:Held w0 w pb db n o d L)(hq:need L<=131072)(hg:cW w o gb pb gen N ob ib vb){es:List aH}{fl:Bool}(hL:aA L (aI 101 gen)=some (aw es fl)) :
 Calls prog 27 #[ptrTo gb] w fun e w'=>∃d' o',e=.returned (.tuple #[.int .i64 (es.length:Int),.int .i64 0])/\au (fun _=>False) n pb db w o d w' o' d' L:=by
 refine(Ar HW h.aY hg hL).mono ?_;rintro e w'⟨c,d',o',⟨x,rfl,hx⟩,hm,he⟩;grind [Held.pT]
theorem OG(HW:aP)(h:Held w0 w pb db n o d L)(hq:need L<=131072)(hg:cW w o gb pb gen N ob ib vb){es:List aH}{fl:Bool}(hL:aA L (aI 101 gen)=some (aw es fl)){i:Nat}{x:aH}(hi:es[i]? = some x) :
 Calls prog 28 #[ptrTo gb,.int .i64 (i:Int)] w fun e w'=>∃d' o',e=.returned (.tuple #[KW x,.int .i64 0])/\au (fun _=>False) n pb db w o d w' o' d' L:=by
 refine(ES HW h.aY hg hL hi).mono ?_;rintro e w'⟨c,d',o',y,rfl,hm,he,hy,-⟩;have h0:c=0:=h.pT hm he hq;subst h0;rw[hy rfl];exact⟨d',o',rfl,hm⟩
def eO(n pb db:Nat)(w:World)(o:ar)(d:Dsk)(L:aC)(ts:List aH)(e:Ending)(w':World):Prop:=
 ∃v d' o',e=.returned (.tuple #[v,.int .i64 0])/\au (fun _=>False) n pb db w o d w' o' d' L/\aK w' w.heap.size v ts/\∀x,v.ownBlock=some x->o' x=none
theorem IA(HW:aP)(h:Held w0 w pb db n o d L)(hq:need L<=131072)(hg:cW w o gb pb gen N ob ib vb){es:List aH}(hL:aA L (aI 101 gen)=some (aw (aJ false es) true))(hl:es.length<=1000){v:Nat}(hv:v<N)(hN:N<=1000) :
 Calls prog 21 #[ptrTo gb,.int .u32 (v:Int)] w (eO n pb db w o d L (Hx false v (aJ false es))):=by
 refine(H7 HW h.aY hg hL (xP false es) (by grind [cF]) hv ae).mono ?_;rintro e w'⟨v',c,d',o',rfl,hm,he,hv',-⟩;have h0:c=0:=h.pT hm he hq;subst h0;obtain⟨h1,h2⟩:=hv' rfl;exact⟨v',d',o',rfl,hm,h1,h2⟩
theorem VT(HW:aP)(h:Held w0 w pb db n o d L)(hq:need L<=131072)(hg:cW w o gb pb gen N ob ib vb){es:List aH}(hL:aA L (aI 114 gen)=some (aw (aJ true es) true))(hl:es.length<=1000){v:Nat}(hv:v<N)(hN:N<=1000) :
 Calls prog 22 #[ptrTo gb,.int .u32 (v:Int)] w (eO n pb db w o d L (Hx true v (aJ true es))):=by
 refine(KC HW h.aY hg hL (xP true es) (by grind [cF]) hv ae).mono ?_;rintro e w'⟨v',c,d',o',rfl,hm,he,hv',-⟩;have h0:c=0:=h.pT hm he hq;subst h0;obtain⟨h1,h2⟩:=hv' rfl;exact⟨v',d',o',rfl,hm,h1,h2⟩
theorem Ds(HW:aP)(h:Held w0 w pb db n o d L)(hq:need L<=131072){vs:List ck}{fl:Bool}(hg:cW w o gb pb gen vs.length ob ib vb)(hL:aA L (aI 118 gen)=some (bY vs fl)){v:Nat}(hv:v<vs.length)(hv':v<4294967296) :
 Calls prog 23 #[ptrTo gb,.int .u32 (v:Int)] w fun e w'=>∃d' o',e=.returned (.tuple #[qM vs[v],.int .i64 0])/\au (fun _=>False) n pb db w o d w' o' d' L:=by
 refine(EK HW h.aY hg hL rfl v hv hv').mono ?_;rintro e w'⟨c,d',o',rfl,hm,he⟩;grind [Held.pT]
end
def XK(l:List UInt8):Nat:=l.foldl (fun a b=>a*10+(b.toNat-48)) 0
theorem OH(k:Nat):XK (Lib.decDigits k)=k:=by
 induction k using Nat.strongRecOn with
 |_ k ih=>
   have hd:∀j,j<10->(UInt8.ofNat (48+j)).toNat-48=j:=by decide
   grind [Lib.decDigits,XK]
theorem aZ{c c':UInt8}{k k':Nat}(h:k≠k'):aI c k≠aI c' k':=by
 grind [aI,OH]
end
section
open Go.RowKit Go.Maps
open Go.ChangeMaps (setBlock)
theorem l9{P:Program}{t:TypeId}{a b c}(h:P.underlying t=some (.func a b c))(f:Fn)(bs cs:Array Value)(w:World):(binOp .eql t (.func f bs cs) .nilFunc).run P w=.ok (.bool false) w:=by
 have e:(Op.equalIn (9999+1) t (.func f bs cs) .nilFunc).run P w=.ok false w:=by
  unfold Op.equalIn;simp[run_underlying h,Result.andThen]
 have e2:(Op.equal t (.func f bs cs) .nilFunc).run P w=.ok false w:=e;unfold binOp;simp_all
theorem bN.len{κ υ:Type}{P:Program}{kt t e:TypeId}{ek:κ->Value}{ev:υ->Value}{w:World}{b:Nat}{m:List (κ×υ)}(h:bN P kt ek ev w b m)(ht:P.underlying t=some (.map kt e))(ty:TypeId):(Builtin.len_ #[t] ty #[.map (some b)]).run P w=.ok (.int .i64 (m.length:Int)) w:=by
 obtain⟨es,clock,l,hb,hp,-,hl,-⟩:=h;have e1:es.size=m.length:=by
  have:=congrArg List.length hl;grind [List.Perm.length_eq]
 rw[<- e1];simp[Builtin.len_,run_underlying ht,MapKept.run_getObj_map hb,goInt,Result.andThen]
theorem Cp{κ υ:Type}{P:Program}{kt t e:TypeId}{ek:κ->Value}{ev:υ->Value}(w:World){ops:Array Oper}{rest:List Oper}{o:Oper}{a:Act}{Q:Exit->Act->World->Prop}(hg:o.guard=none)(x:Operand)(hop:o.op=Op.call { callee:=Callee.builtin Builtin.len,args:=#[x],argTypes:=#[t] })(ht:P.underlying t=some (.map kt e))(b:Nat)(m:List (κ×υ))(hx:a.eval x=.map (some b))(h:bN P kt ek ev w b m)(hK:wpList P ops Q rest (a.put o.dst (.int .i64 (m.length:Int))) w):wpList P ops Q (o::rest) a w:=by
 refine wpList_plain hg fun K' hK'=>?_;have hrun:=h.len ht o.type;unfold Oper.wp execOp;simp only[hop,resolve,invoke,builtin,Sem.run_bind,Sem.run_pure,Result.andThen_ok,List.map_toArray,List.map_cons,List.map_nil,hx,hrun];exact hK' _ _ hK
abbrev jt(w:World)(b:Nat)(S:List Nat):Prop:=bN prog 26 iU (fun _:Unit=>Value.agg #[]) w b (S.map fun x=>(x,()))
theorem nM{P:Program}{kt t e:TypeId}{ek:Nat->Value}{ev:Unit->Value}(w:World){ops:Array Oper}{rest:List Oper}{o:Oper}{a:Act}{Q:Exit->Act->World->Prop}(hg:o.guard=none)(x:Operand)(hop:o.op=Op.call { callee:=Callee.builtin Builtin.len,args:=#[x],argTypes:=#[t] })(ht:P.underlying t=some (.map kt e))(b:Nat)(St:List Nat)(hx:a.eval x=.map (some b))(h:bN P kt ek ev w b (St.map fun x=>(x,())))(hK:wpList P ops Q rest (a.put o.dst (.int .i64 (St.length:Int))) w):wpList P ops Q (o::rest) a w:=
 Cp w hg x hop ht b _ hx h (by rw[List.length_map];exact hK)
theorem rB(S:List Nat)(x:Nat):pU (S.map fun x=>(x,())) x=decide (x∈S):=by
 grind [pU,aA]
theorem EY{S:List Nat}{x:Nat}(h:x ∉ S):aS (S.map fun x=>(x,())) x ()=(x::S).map fun x=>(x,()):=by
 grind [aS,nS]
section
variable {S:Nat->Prop} {n pb db:Nat} {w w' w'':World} {o o' gR:ar} {d d' gT:Dsk} {L L' xD:aC}
theorem au.yU(h:au S n pb db w o d w' o' d' L'){B:Nat->Prop}(hB:∀b,b<w'.heap.size->B b->o' b=none/\(S b\/w.heap.size<=b))(ht:aF B w' w''):au S n pb db w o d w'' o' d' L':=by
 have ht':aF (fun b=>b<w'.heap.size/\B b) w' w'':=ht.mono (fun x hx hb=>⟨hx,hb⟩);refine⟨h.aY.kept ht' (fun x hx e=>ar.dE (hB x e.1 e.2).1 hx) (fun _ _ h=>h) (fun x t hx=>Nat.lt_of_lt_of_le (h.aY.owned x t hx) ht.size),h.turn.trans ht (fun x hx e=>?_),h.grow,h.on⟩;grind [Nat.lt_of_lt_of_le,size]
structure uV(n pb db:Nat)(w:World)(o:ar)(d:Dsk)(L:aC)(N:Nat)(X:Nat->Prop)(fb sb:Nat)(St:List Nat)(m:yR)(c:Nat)(W:World)(o':ar)(d':Dsk):Prop where
 fr:∃B,ej W fb B m c/\∀b,B b->w.heap.size<=b/\b<W.heap.size/\o' b=none/\b≠sb/\¬X b
 st:jt W sb St
 sg:w.heap.size<=sb/\o' sb=none
 mv:au (fun _=>False) n pb db w o d W o' d' L
 gd:∀p∈m,p.1<N/\p.2<9223372036854775808/\p.1 ∉ St
variable {N fb sb c:Nat} {X:Nat->Prop} {St:List Nat} {m m':yR} {W W':World} {B:Nat->Prop}
theorem ej.more(f:ej W fb B m c){c':Nat}(h:c<=c'):ej W fb B m c':=by
 obtain⟨hb,mb,v,h',f,hw,hc,r⟩:=f;exact⟨hb,mb,v,h',f,hw,Nat.le_trans hc h,r⟩
theorem ej.keys(f:ej W fb B m c):(m.map (·.1)).Nodup:=by
 obtain⟨hb,mb,v,h',f,_⟩:=f;exact f.far.keys
theorem uV.below(h:uV n pb db w o d L N X fb sb St m c W o' d')(hb:Below W.heap.size W W'):uV n pb db w o d L N X fb sb St m c W' o' d':=by
 obtain⟨B,h1,h2⟩:=h.fr;exact⟨⟨B,h1.kept (fun b hb'=>hb.block b (h2 b hb').2.1),fun b hb'=>⟨(h2 b hb').1,Nat.lt_of_lt_of_le (h2 b hb').2.1 hb.size,(h2 b hb').2.2⟩⟩,h.st.kept (hb.block _ h.st.lt),h.sg,h.mv.below hb,h.gd⟩
theorem uV.moved(h:uV n pb db w o d L N X fb sb St m c W o' d')(hm:au (fun _=>False) n pb db W o' d' w' gR gT L):uV n pb db w o d L N X fb sb St m c w' gR gT:=by
 obtain⟨B,h1,h2⟩:=h.fr;refine⟨⟨B,h1.kept (fun b hb'=>hm.block (h2 b hb').2.1 (h2 b hb').2.2.1 (fun e=>e)),fun b hb'=>⟨(h2 b hb').1,Nat.lt_of_lt_of_le (h2 b hb').2.1 hm.size,hm.free (h2 b hb').2.1 (h2 b hb').2.2.1,(h2 b hb').2.2.2⟩⟩,h.st.kept (hm.block h.st.lt h.sg.2 (fun e=>e)),⟨h.sg.1,hm.free h.st.lt h.sg.2⟩,h.mv.trans hm (fun _ _ e=>e),h.gd⟩
theorem uV.turned(h:uV n pb db w o d L N X fb sb St m c W o' d'){B B':Nat->Prop}{c':Nat}(hB:∀b,B b->w.heap.size<=b/\b<W.heap.size/\o' b=none/\b≠sb/\¬X b)(ht:aF B W W')(hf:ej W' fb B' m' c')(Um:∀b,B' b->B b\/W.heap.size<=b/\b<W'.heap.size)(hX:∀b,X b->b<W.heap.size)(hg:∀p∈m',p.1<N/\p.2<9223372036854775808/\p.1 ∉ St):uV n pb db w o d L N X fb sb St m' c' W' o' d'/\∀b,X b->W'.heap[b]? = W.heap[b]? := by
 refine⟨⟨⟨B',hf,fun b hb=>?_⟩,h.st.kept (ht.block _ h.st.lt (fun e=>(hB _ e).2.2.2.1 rfl)),h.sg,h.mv.yU (fun b _ hb=>⟨(hB b hb).2.2.1,.inr (hB b hb).1⟩) ht,hg⟩,fun b hb=>ht.block b (hX b hb) (fun e=>(hB b e).2.2.2.2 hb)⟩;rcases Um b hb with e | e
 ·grind [Nat.lt_of_lt_of_le,aF.size]
 ·exact⟨Nat.le_trans h.mv.size e.1,e.2,h.mv.aY.fresh e.1,fun e'=>by have:=h.st.lt;omega,fun hx=>by grind⟩
theorem uV.settled(h:uV n pb db w o d L N X fb sb St m c W o' d'){v:Nat}(hv:v ∉ St){es:Array MapEntry}{clock:Nat}(hm:bN prog 26 iU (fun _:Unit=>Value.agg #[]) (setBlock W sb (.map es clock)) sb (aS (St.map fun x=>(x,())) v ()))(hg:∀p∈m,p.1≠v) :
 uV n pb db w o d L N X fb sb (v::St) m c (setBlock W sb (.map es clock)) o' d':=by
 obtain⟨B,h1,h2⟩:=h.fr;have hs:(setBlock W sb (.map es clock)).heap.size=W.heap.size:=by grind [setBlock]
 refine⟨⟨B,h1.kept (fun b hb=>bh _ (h2 b hb).2.2.2.1),fun b hb=>⟨(h2 b hb).1,by grind,(h2 b hb).2.2⟩⟩,by grind [EY],h.sg,h.mv.turned h.sg.2 (.inr h.sg.1) ((aF.refl _ W).setBlock _ _ (.inl rfl)),fun p hp=>⟨(h.gd p hp).1,(h.gd p hp).2.1,fun e=>?_⟩⟩;rcases List.mem_cons.1 e with e | e
 ·grind
 ·exact(h.gd p hp).2.2 e
theorem uV.wider(h:uV n pb db w o d L N X fb sb St m c W o' d'){X':Nat->Prop}(hX:∀b,X' b->b<W.heap.size->X b){c':Nat}(hc:c<=c'):uV n pb db w o d L N X' fb sb St m c' W o' d':=by
 obtain⟨B,h1,h2⟩:=h.fr;exact⟨⟨B,h1.more hc,fun b hb=>⟨(h2 b hb).1,(h2 b hb).2.1,(h2 b hb).2.2.1,(h2 b hb).2.2.2.1,fun e=>(h2 b hb).2.2.2.2 (hX b e (h2 b hb).2.1)⟩⟩,h.st,h.sg,h.mv,h.gd⟩
theorem uV.fresh(h:uV n pb db w o d L N X fb sb St m c W o' d'):uV n pb db w o d L N (fun b=>W.heap.size<=b) fb sb St m c W o' d':=by
 obtain⟨B,h1,h2⟩:=h.fr;exact⟨⟨B,h1,fun b hb=>⟨(h2 b hb).1,(h2 b hb).2.1,(h2 b hb).2.2.1,(h2 b hb).2.2.2.1,fun e=>by grind⟩⟩,h.st,h.sg,h.mv,h.gd⟩
theorem uB(l:List (Nat×Unit))(x:Nat):((aA l x).map (fun _:Unit=>Value.agg #[])).getD (Value.agg #[])=Value.agg #[]:=by
 cases aA l x<;>rfl
theorem mY{A:Nat->Bool}{St:List Nat}{Ii:Nat}{m:yR}{ts:List aH}{j:Nat}{x:aH}(h:ts[j]? = some x) :
 kM A St Ii m (ts.take (j+1))=if Ii+x.x.toNat<9223372036854775808/\x.h.toNat ∉ St/\A x.h.toNat=false then qP (kM A St Ii m (ts.take j)) x.h.toNat (Ii+x.x.toNat) else kM A St Ii m (ts.take j):=by
 grind [List.take_succ_eq_append_getElem,kM]
theorem OI{m:yR}{v d:Nat}{p:Nat×Nat}(h:p∈qP m v d):p∈m\/p=(v,d):=by
 grind [aS,gq,qP]
end
end
section
open Go.RowKit Go.Maps
open Go.ChangeMaps (setBlock)
def oI(n pb db:Nat)(w:World)(o:ar)(d:Dsk)(L:aC)(r:Bool)(e:Ending)(w':World):Prop:=
 ∃d' o',e=.returned (.tuple #[.bool r,.int .i64 0])/\au (fun _=>False) n pb db w o d w' o' d' L
def IB:Option Obj->Nat
 |some (.map es _)=>es.size
 |_=>0
theorem jt.IB{W:World}{sb:Nat}{St:List Nat}(h:jt W sb St):IB W.heap[sb]? = St.length:=by
 obtain⟨es,clock,l,hb,hp,-,hl,-⟩:=h;rw[hb];have:=congrArg List.length hl;simp at this;show es.size=_;rw[this,hp.length_eq];simp
theorem Dt(w:World):(zeroValue 245).run prog w=.ok (.agg #[]) w:=Tryz.zeroValue245 w
structure sY(w0 w:World)(pb db n:Nat)(o:ar)(d:Dsk)(L:aC)(gb gen N ob ib vb:Nat)(es:List aH)(A:Nat->Bool)(sv av:Nat)(K:Nat->Prop):Prop where
 held:Held w0 w pb db n o d L
 need:need L<=131072
 gr:cW w o gb pb gen N ob ib vb
 file:aA L (aI 101 gen)=some (aw (aJ false es) true)
 len:es.length<=1000
 top:N<=1000
 ends:∀x∈es,x.t.toNat<N/\x.h.toNat<N
 pH:∀b,K b->b<w.heap.size/\o b=none
 aer:∀W(x:Nat),(∀b,K b->W.heap[b]? = w.heap[b]?)->w.heap.size<=W.heap.size->x<4294967296->Calls prog 200 #[.int .u32 (x:Int),.pointer (some ⟨sv,0,none⟩),.pointer (some ⟨av,0,none⟩)] W fun e W'=>e=.returned (.bool (A x))/\Below W.heap.size W W'
section
variable {w0 w w':World} {pb db n gb gen N ob ib vb sv av:Nat} {o o':ar} {d d':Dsk} {L:aC} {es:List aH} {A:Nat->Bool} {K:Nat->Prop}
theorem sY.moved(h:sY w0 w pb db n o d L gb gen N ob ib vb es A sv av K)(hm:au (fun _=>False) n pb db w o d w' o' d' L):sY w0 w' pb db n o' d' L gb gen N ob ib vb es A sv av K:=
 ⟨h.held.moved hm (fun _ e=>e.elim),h.need,h.gr.KV hm (fun _ _ e=>e),h.file,h.len,h.top,h.ends,fun b hb=>⟨Nat.lt_of_lt_of_le (h.pH b hb).1 hm.size,hm.free (h.pH b hb).1 (h.pH b hb).2⟩,
  fun W x hk hs hx=>h.aer W x (fun b hb=>(hk b hb).trans (hm.block (h.pH b hb).1 (h.pH b hb).2 (fun e=>e))) (Nat.le_trans hm.size hs) hx⟩
theorem sY.out(HW:aP)(h:sY w0 w pb db n o d L gb gen N ob ib vb es A sv av K){v:Nat}(hv:v<N):Calls prog 21 #[ptrTo gb,.int .u32 (v:Int)] w (eO n pb db w o d L (aX es v)):=
 IA HW h.held h.need h.gr h.file h.len hv h.top
theorem AK{es:List aH}{v:Nat}{x:aH}(h:x∈aX es v):x∈es/\x.t.toNat=v:=
 ⟨((bT false es).mem x (yT h).1).1,(yT h).2⟩
theorem mZ(es:List aH)(v:Nat):(aX es v).length<=es.length:=by
 have:=cF false es;exact Nat.le_trans (List.length_filter_le _ _) this
theorem IC(HW:aP)(h:sY w0 w pb db n o d L gb gen N ob ib vb es A sv av K)(u t most:Nat)(hu:u<N) :
 Calls prog 202 #[.func (.func 21) #[ptrTo gb] #[],.func (.func 200) #[] #[.pointer (some ⟨sv,0,none⟩),.pointer (some ⟨av,0,none⟩)],.int .u32 (u:Int),.int .u32 (t:Int),.int .u64 (most:Int)] w (oI n pb db w o d L (mW (aX es) A t most 16 [(u,0)] [])):=by
 have H:=aa h;have HN:Hid (N<=1000):=aa h.top;have Zt:Hid (∀W o' d',au (fun _=>False) n pb db w o d W o' d' L->∀v,v<N->Calls prog 21 #[ptrTo gb,.int .u32 (v:Int)] W (eO n pb db W o' d' L (aX es v))):=aa (fun W o' d' hm v hv=>(H.o.moved hm).out HW hv);clear h;obtain⟨R,HR⟩:∃R,Hid (mW (aX es) A t most 16 [(u,0)] []=R):=⟨_,aa rfl⟩;rw[HR.out];unfold ptrTo at *;have Bg:=l9 Tryz.underlying53 (.func 21) #[.pointer (some ⟨gb,0,none⟩)] #[];have T8:=l9 Tryz.underlying234 (.func 200) #[] #[.pointer (some ⟨sv,0,none⟩),.pointer (some ⟨av,0,none⟩)];have vy:∀(t:TypeId)(W:World),(Instr.makeMap t none).run prog W=.ok (.map (some W.heap.size)) (W.alloc (.map #[] 0)):=fun _ _=>rfl;have HZU:=aa Dt;go_enter func202,ntmps202;go_wp2_with fail;clear Bg T8;refine(Ig w).mono ?_;rintro e w1⟨rfl,zn,hb1,hs1⟩;obtain⟨B4,nQ,HF4⟩:∃B:Nat->Prop,Hid (∀b,B b->w.heap.size<=b/\b<w1.heap.size+2)/\Hid (ej ((w1.alloc (.map #[] 0)).alloc (.cells #[.pointer (some ⟨w.heap.size,0,none⟩),.map (some w1.heap.size)] 325)) (w1.heap.size+1) B [] 0):=by
  refine⟨fun b=>b=w.heap.size\/b=w1.heap.size\/b=w1.heap.size+1,aa (fun b hb=>by omega),aa ⟨w.heap.size,w1.heap.size,.slice none 0 0,[],⟨?_,?_,fun j h1 h2=>by grind,?_,ae,ae,ae,by simp[Value.ownBlock],by simp[Value.ownBlock]⟩,⟨fun v d e=>(by cases e),fun y hy=>(by cases hy)⟩,Nat.le_refl _,.inr (.inr rfl),.inl rfl,.inr (.inl rfl),fun b e=>(by cases e)⟩⟩
  ·grind [World.alloc,ptrTo]
  ·exact zn.below (ai.alloc ah _)
  ·exact(bN.made w1 prog 26 iU aef).kept ((MapKept.heap_alloc _ _).2 _ ah)
 have Z5:Hid (Below w.heap.size w ((w1.alloc (.map #[] 0)).alloc (.cells #[.pointer (some ⟨w.heap.size,0,none⟩),.map (some w1.heap.size)] 325))):=aa ((hb1.alloc hb1.size _).alloc (by simp;omega) _);have gp:Hid (((w1.alloc (.map #[] 0)).alloc (.cells #[.pointer (some ⟨w.heap.size,0,none⟩),.map (some w1.heap.size)] 325)).heap.size=w1.heap.size+2):=aa ah;have hcm:=aa (Ik HF4.out ae u 0 (by grind [Hid.out]));clear zn hb1 hs1;unfold ptrTo at *;go_wp2_with fail;refine hcm.o.mono ?_;rintro e w5⟨rfl,hf5,rI⟩;obtain⟨sb,BW⟩:∃sb,sb=w5.heap.size:=⟨_,rfl⟩;obtain⟨fb,YB⟩:∃fb,fb=w1.heap.size+1:=⟨_,rfl⟩;have EA:Hid (uV n pb db w o d L N (fun _=>False) fb sb [] [(u,0)] 1 (w5.alloc (.map #[] 0)) o d):=aa (by
  subst BW YB;have MG:=H.o.held.aY;have hsz:=gp.o;have uO:=Z5.o.size;have TT:=rI.size;refine⟨⟨_,hf5.kept (fun b hb=>(MapKept.heap_alloc _ _).2 b ?_),fun b hb=>?_⟩,bN.made w5 prog 26 iU (fun _:Unit=>Value.agg #[]),⟨ae,MG.fresh ae⟩,((au.aW MG Z5.o).yU (fun b _ hb=>⟨MG.fresh (nQ.out b hb).1,.inr (nQ.out b hb).1⟩) rI).alloc _,fun p hp=>?_⟩
  ·grind [Hid.out]
  ·have h1:w.heap.size<=b/\b<w5.heap.size:=by
    grind [Hid.out]
   exact⟨h1.1,by simp;omega,MG.fresh h1.1,ae,fun e=>e⟩
  grind)
 have HSB:Hid (sb<(w5.alloc (.map #[] 0)).heap.size):=aa (by simp_all);clear hcm HF4 nQ Z5 gp hf5 rI;go_wp2_with fail;rw[<- BW];try rw[<- YB]
 clear BW YB;generalize w5.alloc (.map #[] 0)=W6 at *;go_loopw [] (fun wr=>∃St m c d' o',Hid (uV n pb db w o d L N (fun _=>False) fb sb St m c wr o' d')/\Hid (c<=1+St.length*1000/\St.length<=16)/\Hid (mW (aX es) A t most (16-St.length) m St=R)) (fun wr=>16-IB wr.heap[sb]?)
 case atStart=>grind [aa]
 case round=>
  obtain⟨St,m,c,d2,o2,HS,HC,Py⟩:=hrel;clear EA;generalize wr=Wr at *;obtain⟨B,hF,hB⟩:=HS.out.fr;have HK:=aa hF.keys;have hle:=aa (Oz hF (by grind [Hid.out]));have Jg:=aa hB;clear hF hB;unfold ptrTo wm at hle;go_wp2_with fail;refine hle.o.mono ?_;rintro e w2 (⟨hn,rfl,ht⟩|⟨v,dd,hn,rfl,hF2,ht⟩)
  ·have HQ:Hid (oI n pb db w o d L R (.returned (.tuple #[.bool false,.int .i64 0])) w2):=aa ⟨d2,o2,by
    rw[<- Py.out];cases 16-St.length with
    |zero=>rfl
    |succ k=>rw[mW,hn],HS.out.mv.yU (fun b _ hb=>⟨(Jg.o b hb).2.2.1,.inr (Jg.o b hb).1⟩) ht⟩
   clear hle;go_wp2;go_returns;exact HQ.o
  ·have mn:=(AA hn).1;have hgd:=HS.out.gd _ mn;have eK:Hid (uV n pb db w o d L N (fun _=>False) fb sb St (bZ m v) c w2 o2 d2):=aa (HS.out.turned Jg.o ht hF2 (fun b hb=>.inl hb) (fun b hb=>hb.elim) (fun p hp=>HS.out.gd p (gq.1 hp).1)).1;have HV:Hid (v<N/\dd<9223372036854775808/\v ∉ St):=aa hgd;have HMN:Hid (IB Wr.heap[sb]? = St.length):=aa HS.out.st.IB;have HRK:Hid (R=if St.length=16 then false else if most<dd then false else if v=t then true else mW (aX es) A t most (16-(St.length+1)) (kM A (v::St) dd (bZ m v) (aX es v)) (v::St)):=aa (by
    rw[<- Py.out];by_cases Z6:St.length=16
    ·rw[if_pos Z6,Z6];rfl
    ·rw[if_neg Z6,show 16-St.length=(16-(St.length+1))+1 by have:=HC.out;omega,mW,hn])
   clear hle mn hgd hn hF2 ht HS Jg HK;by_cases jd:most<dd
   ·have hmz:(dd:Int)>(most:Int):=by omega
    have HQ:Hid (oI n pb db w o d L R (.returned (.tuple #[.bool false,.int .i64 0])) w2):=aa ⟨d2,o2,by rw[HRK.o];simp_all,eK.o.mv⟩;go_wp2;go_returns;exact HQ.o
   ·have hmz:¬(dd:Int)>(most:Int):=by omega
    by_cases Z6:St.length=16
    ·have hsz:(St.length:Int)=16:=by omega
     have HQ:Hid (oI n pb db w o d L R (.returned (.tuple #[.bool false,.int .i64 0])) w2):=aa ⟨d2,o2,by rw[HRK.o,if_pos Z6],eK.o.mv⟩;go_wp2_with (refine nM _ rfl _ rfl Tryz.underlying243 sb St rfl eK.o.st ?_);go_returns;exact HQ.o
    ·have hsz:¬(St.length:Int)=16:=by omega
     by_cases hvt:v=t
     ·have HQ:Hid (oI n pb db w o d L R (.returned (.tuple #[.bool true,.int .i64 0])) w2):=aa ⟨d2,o2,by rw[HRK.o,if_neg Z6,if_neg jd,if_pos hvt],eK.o.mv⟩;have hvz:(v:Int)=(t:Int):=by omega
      go_wp2_with (refine nM _ rfl _ rfl Tryz.underlying243 sb St rfl eK.o.st ?_);go_returns;exact HQ.o
     ·have hvz:¬(v:Int)=(t:Int):=by omega
      have AL:Hid (mW (aX es) A t most (16-(St.length+1)) (kM A (v::St) dd (bZ m v) (aX es v)) (v::St)=R):=aa (by rw[HRK.o,if_neg Z6,if_neg jd,if_neg hvt]);have hout:=aa (Zt.o w2 o2 d2 eK.o.mv v HV.o.1);have H16:Hid (St.length<16):=aa (by have:=HC.out;omega);have HG:=aa (fQ (k:=v) (by have:=HN.o;have:=HV.o;omega));clear HRK;unfold eO at hout;go_wp2_with (refine nM _ rfl _ rfl Tryz.underlying243 sb St rfl eK.o.st ?_);refine hout.o.mono ?_;rintro e w3⟨ev,d3,o3,rfl,ep,hown,fO⟩;obtain⟨ea,ec,rfl⟩:=az hown;have fC:Hid (uV n pb db w o d L N (fun b=>(Value.slice ea (aX es v).length ec).ownBlock=some b) fb sb St (bZ m v) c w3 o3 d3):=aa ((eK.o.fresh.moved ep).wider (fun b hb _=>(aL hown b hb).2) (Nat.le_refl _));have OE:=aa hown;have sO:Hid (∀b,(Value.slice ea (aX es v).length ec).ownBlock=some b->b≠sb):=aa (fun b hb=>by
       have h1:=aL hown b hb;have h2:=eK.o.st.lt;omega)
      clear ep hown fO hout eK hmz hsz hvz;obtain⟨M,hM⟩:∃M,M=(aX es v).length:=⟨_,rfl⟩;rw[<- hM]at fC OE sO ⊢;have HM:Hid (M=(aX es v).length/\M<=1000):=aa ⟨hM,by rw[hM];exact Nat.le_trans (mZ es v) H.o.len⟩;clear hM;go_wp2_with (at_mapUpdate;refine eH _ rfl _ _ _ _ rfl 245 b8 dr Tryz.underlying243 sb _ rfl fC.o.st v () rfl rfl HG.o ?_;intro es4 SL eV;have gl:=aa eV;clear eV);have gp:=aa (fC.o.settled HV.o.2.2 gl.o (fun p hp=>(gq.1 hp).2));have SG:Hid (aK (setBlock w3 sb (.map es4 SL)) w2.heap.size (.slice ea M ec) (aX es v)):=aa (bH OE.o (fun b hb=>bh _ (sO.o b hb)));clear gl fC OE sO HG;generalize setBlock w3 sb (.map es4 SL)=W4 at *;go_loopw [72] (fun vi wr=>∃(j:Nat)(m':yR),vi=.int .i64 (j:Int)/\j<=M/\Hid (uV n pb db w o d L N (fun b=>(Value.slice ea M ec).ownBlock=some b) fb sb (v::St) m' (c+j) wr o3 d3)/\Hid (m'=kM A (v::St) dd (bZ m v) ((aX es v).take j))/\Hid (aK wr w2.heap.size (.slice ea M ec) (aX es v))) (fun vi _=>M-(intOf vi).toNat)
      case atStart=>exact⟨0,bZ m v,rfl,Nat.zero_le _,gp,aa rfl,SG⟩
      case round=>
       obtain⟨j,m',rfl,hj,b6,lx,VU⟩:=hrel;clear gp SG;generalize wr=Wq at *;by_cases hlt:j<M
       ·have Ji:(j:Int)<(M:Int):=by omega
        have wj:IntKind.i64.wrap ((j:Int)+1)=((j+1:Nat):Int):=by grind [Hid.out,ax]
        obtain⟨x,hx⟩:∃x,(aX es v)[j]? = some x:=⟨_,List.getElem?_eq_getElem (by grind [Hid.out])⟩;have HX:=aa hx;have HXN:Hid (x.h.toNat<N/\x.h.toNat<4294967296):=aa ⟨(H.o.ends x (AK (List.mem_of_getElem? hx)).1).2,x.h.toNat_lt⟩;obtain⟨g,rfl⟩:∃g,ea=some ⟨g,0,none⟩:=by
         obtain⟨-,⟨h1,h2⟩|⟨g,_,_,h1,_⟩⟩:=VU.out
         ·grind
         grind
        have aet:Hid (aK Wq w2.heap.size (.slice (some ⟨g,0,none⟩) (aX es v).length ec) (aX es v)):=aa (by grind [Hid.out]);obtain⟨q0,q1,q2,q3⟩:=bK aet.o hx;have HGX:=aa (fQ HXN.o.2);have gy:=aa (b6.out.below (aj.alloc (Nat.le_refl _) (.cells #[.int .u32 (x.t.toNat:Int),.int .u32 (x.h.toNat:Int),.int .u64 (x.x.toNat:Int),.int .u32 (x.m.toNat:Int)] 64)));have VV:Hid (aK (Wq.alloc (.cells #[.int .u32 (x.t.toNat:Int),.int .u32 (x.h.toNat:Int),.int .u64 (x.x.toNat:Int),.int .u32 (x.m.toNat:Int)] 64)) w2.heap.size (.slice (some ⟨g,0,none⟩) M ec) (aX es v)):=aa (aV VU.out ai);have Yp:Hid ((Wq.alloc (.cells #[.int .u32 (x.t.toNat:Int),.int .u32 (x.h.toNat:Int),.int .u64 (x.x.toNat:Int),.int .u32 (x.m.toNat:Int)] 64)).heap[Wq.heap.size]? = some (.cells #[.int .u32 (x.t.toNat:Int),.int .u32 (x.h.toNat:Int),.int .u64 (x.x.toNat:Int),.int .u32 (x.m.toNat:Int)] 64)):=aa (heap_alloc_new _ _);have kZ:=aa (Il dd x.x.toNat (by grind [Hid.out]) x.x.toNat_lt (Wq.alloc (.cells #[.int .u32 (x.t.toNat:Int),.int .u32 (x.h.toNat:Int),.int .u64 (x.x.toNat:Int),.int .u32 (x.m.toNat:Int)] 64)));clear hx aet;go_wp2_with fail;refine kZ.o.mono ?_;rintro e w7⟨rfl,rfl⟩;clear q0 q1 q2 q3 kZ;generalize FI:Wq.heap.size=xb at *;generalize Wq.alloc (.cells #[.int .u32 (x.t.toNat:Int),.int .u32 (x.h.toNat:Int),.int .u64 (x.x.toNat:Int),.int .u32 (x.m.toNat:Int)] 64)=W6 at *;clear FI b6 VU;have k1:W6.cell? ⟨xb,1,none⟩=some (.int .u32 (x.h.toNat:Int)):=by rw[aq Yp.o];rfl
        have k2:=(Array.getElem?_eq_some_iff.1 Yp.o).1;by_cases ik:dd+x.x.toNat<9223372036854775808
        ·have SM:KO dd x.x.toNat=.tuple #[.int .u64 ((dd+x.x.toNat:Nat):Int),.bool true]:=if_pos ik;rw[SM];obtain⟨s,hs⟩:∃s,s=dd+x.x.toNat:=⟨_,rfl⟩;rw[<- hs]at ik ⊢;have VW:=aa hs;have UE:=aa ik;clear SM hs ik;by_cases VX:x.h.toNat∈v::St
         ·have SN:Hid (decide (x.h.toNat∈v::St)=true):=aa (decide_eq_true VX);have T1:=aa VX;clear VX;have jP:Hid (uV n pb db w o d L N (fun b=>(Value.slice (some ⟨g,0,none⟩) M ec).ownBlock=some b) fb sb (v::St) m' (c+(j+1)) (W6.alloc (.cells #[] 245)) o3 d3):=aa ((gy.o.below ai).wider (fun _ e _=>e) ae);have Z7:Hid (aK (W6.alloc (.cells #[] 245)) w2.heap.size (.slice (some ⟨g,0,none⟩) M ec) (aX es v)):=aa (aV VV.o ai);have Bk:Hid (m'=kM A (v::St) dd (bZ m v) ((aX es v).take (j+1))):=aa (by rw[mY HX.o,if_neg (fun e=>e.2.1 T1.o)];assumption);go_wp2_with (at_lookup;refine bW _ rfl _ _ _ _ rfl 245 b8 dr Tryz.underlying243 (HZU.o _) sb _ rfl gy.o.st x.h.toNat rfl HGX.o ?_;rw[uB,rB];try rw[SN.o]);go_roundw
          case rel=>exact⟨j+1,m',by go_num,ae,jP,Bk,Z7⟩
          grind [intOf]
         ·have SN:Hid (decide (x.h.toNat∈v::St)=false):=aa (decide_eq_false VX);have T1:=aa VX;clear VX;have rL:Hid (Below W6.heap.size W6 (W6.alloc (.cells #[] 245))):=aa ai;have jP:=aa (gy.o.below rL.o);have hsh:=aa (H.o.aer _ x.h.toNat (fun b hb=>jP.o.mv.block (H.o.pH b hb).1 (H.o.pH b hb).2 (fun e=>e)) jP.o.mv.size HXN.o.2);go_wp2_with (at_lookup;refine bW _ rfl _ _ _ _ rfl 245 b8 dr Tryz.underlying243 (HZU.o _) sb _ rfl gy.o.st x.h.toNat rfl HGX.o ?_;rw[uB,rB];try rw[SN.o]);refine hsh.o.mono ?_;rintro e w8⟨rfl,Pj⟩;have jC:=aa (jP.o.below Pj);have VY:=aa (aV (aV VV.o rL.o) Pj);have k3:w8.cell? ⟨xb,1,none⟩=some (.int .u32 (x.h.toNat:Int)):=Ax Pj (Ax rL.o k1);clear hsh Pj jP VV k1 k2;by_cases hA:A x.h.toNat=true
          ·rw[hA];have rT:Hid (m'=kM A (v::St) dd (bZ m v) ((aX es v).take (j+1))):=aa (by rw[mY HX.o,if_neg (fun e=>by simp_all)];assumption);have p8:Hid (uV n pb db w o d L N (fun b=>(Value.slice (some ⟨g,0,none⟩) M ec).ownBlock=some b) fb sb (v::St) m' (c+(j+1)) w8 o3 d3):=aa (jC.o.wider (fun _ e _=>e) ae);clear hA;go_wp2;go_roundw
           case rel=>exact⟨j+1,m',by go_num,ae,p8,rT,VY⟩
           grind [intOf]
          ·have hAb:A x.h.toNat=false:=by simp_all
           rw[hAb];obtain⟨B,hF,hB⟩:=jC.o.fr;have hcm:=aa (Ik hF (by have:=HC.out;have:=HM.o;omega) x.h.toNat s HXN.o.2);have Jg:=aa hB;have HAB:=aa hAb;clear hF hB hA hAb;unfold ptrTo AB at hcm;go_wp2_with fail;refine hcm.o.mono ?_;rintro e w9⟨rfl,hf9,ht9⟩;obtain⟨fs9,hk9⟩:=jC.o.turned Jg.o ht9 hf9 (fun b hb=>hb) (fun b hb=>(aL VY.o b hb).1) (fun p hp=>(OI hp).elim (jC.o.gd p) (fun e=>by rw[e];exact⟨HXN.o.1,UE.o,T1.o⟩));have p8:Hid (uV n pb db w o d L N (fun b=>(Value.slice (some ⟨g,0,none⟩) M ec).ownBlock=some b) fb sb (v::St) (qP m' x.h.toNat s) (c+(j+1)) w9 o3 d3):=aa fs9;have ajS:=aa (bH VY.o (fun b hb=>hk9 b hb));have Mw:Hid (qP m' x.h.toNat s=kM A (v::St) dd (bZ m v) ((aX es v).take (j+1))):=aa (by rw[mY HX.o,if_pos ⟨by rw[<- VW.o];assumption,T1.o,HAB.o⟩,<- lx.out,VW.o]);clear hcm hf9 ht9 fs9 hk9 jC VY k3;go_wp2;go_roundw
           case rel=>exact⟨j+1,_,by go_num,ae,p8,Mw,ajS⟩
           grind [intOf]
        ·have SM:KO dd x.x.toNat=.tuple #[.int .u64 0,.bool false]:=if_neg ik;rw[SM];have UE:=aa ik;clear SM ik;have SN:=aa (Eq.refl 0);have jP:Hid (uV n pb db w o d L N (fun b=>(Value.slice (some ⟨g,0,none⟩) M ec).ownBlock=some b) fb sb (v::St) m' (c+(j+1)) (W6.alloc (.cells #[] 245)) o3 d3):=aa ((gy.o.below ai).wider (fun _ e _=>e) ae);have Z7:Hid (aK (W6.alloc (.cells #[] 245)) w2.heap.size (.slice (some ⟨g,0,none⟩) M ec) (aX es v)):=aa (aV VV.o ai);have Bk:Hid (m'=kM A (v::St) dd (bZ m v) ((aX es v).take (j+1))):=aa (by rw[mY HX.o,if_neg (fun e=>UE.o e.1)];assumption);go_wp2_with (at_lookup;refine bW _ rfl _ _ _ _ rfl 245 b8 dr Tryz.underlying243 (HZU.o _) sb _ rfl gy.o.st x.h.toNat rfl HGX.o ?_;rw[uB,rB];try rw[SN.o]);go_roundw
         case rel=>exact⟨j+1,m',by go_num,ae,jP,Bk,Z7⟩
         grind [intOf]
       ·have Ji:¬(j:Int)<(M:Int):=by omega
        have jC:Hid (uV n pb db w o d L N (fun _=>False) fb sb (v::St) m' (c+j) Wq o3 d3):=aa (b6.out.wider (fun _ e _=>e.elim) (Nat.le_refl _));have HR8:Hid (mW (aX es) A t most (16-(v::St).length) m' (v::St)=R):=aa (by
         grind [Hid.out])
        have HC8:Hid (c+j<=1+(v::St).length*1000/\(v::St).length<=16):=aa (by
         grind [Hid.out])
        have PG:Hid (16-IB Wq.heap[sb]? < 16-IB Wr.heap[sb]?):=aa (by
         rw[jC.o.st.IB,HMN.o,List.length_cons];grind [Hid.out])
        clear b6 lx VU;go_wp2;go_roundw
        case rel=>exact⟨_,_,_,_,_,jC,HC8,HR8⟩
        assumption
end
end
section
open Go.RowKit Go.Maps
theorem K0(l:List aH):∀u∈dD l,u.oneCell'=true:=by
 induction l with
 |nil=>intro u hu;cases hu
 |cons x l ih=>
   intro u hu;rw[dD,List.mem_append]at hu;rcases hu with hu | hu
   ·simp[aH.cells]at hu;rcases hu with rfl | rfl | rfl | rfl<;>rfl
   ·exact ih u hu
theorem VZ{w:World}{b off n cap:Nat}{es:List aH}(h:kF w (.slice (some ⟨b,off,none⟩) n cap) es):∀j u,(dD es)[j]? = some u->w.cell? ((⟨b,off,none⟩:Addr).add j)=some u:=by
 intro j u hj;obtain⟨-,hc⟩:=oG h;have lA:=aN hj;rw[nG]at lA;have hi:j/4<es.length:=by omega
 obtain⟨b',off',he,h1,h2,h3,h4⟩:=hc w aj (j/4) es[j/4] (List.getElem?_eq_getElem hi);cases he;have hg:=lV (List.getElem?_eq_getElem hi) (j:=j%4) ae;rw[show j/4*4+j%4=j by omega,hj]at hg;rw[bF];have ajU:j%4=0\/j%4=1\/j%4=2\/j%4=3:=by omega
 rcases ajU with e | e | e | e
 ·rw[e]at hg;cases hg;rw[show off+j=off+j/4*4 by omega];exact h1
 ·rw[e]at hg;cases hg;rw[show off+j=off+j/4*4+1 by omega];exact h2
 ·rw[e]at hg;cases hg;rw[show off+j=off+j/4*4+2 by omega];exact h3
 ·rw[e]at hg;cases hg;rw[show off+j=off+j/4*4+3 by omega];exact h4
theorem fZ{w:World}{ops:Array Oper}{rest:List Oper}{op:Oper}{a:Act}{Q:Exit->Act->World->Prop}(hgd:op.guard=none)(s x:Operand)(ho:op.op=.call { callee:=.builtin .append,args:=#[s,x],argTypes:=#[22,22] })(base:Nat)(v:Value)(l:List aH)(hs:a.eval s=v)(hown:aK w base v l)(u:Value)(es:List aH)(hx:a.eval x=u)(hr:kF w u es)(hl:l.length+es.length<=100000)(hbase:base<=w.heap.size)(k:∀v' w',aK w' base v' (l++es)->lj v w w' v'->wpList prog ops Q rest (a.put op.dst v') w'):wpList prog ops Q (op::rest) a w:=by
 have hrw:=hr;obtain⟨ad,cap,rfl,hc⟩:=hrw;cases ad with
 |some ad=>
   have lH:∀j u,(dD es)[j]? = some u->w.cell? (ad.add j)=some u:=fun j u hj=>by
    have lA:=aN hj;rw[nG]at lA;rcases hc with h0 |⟨b,off,ha,_⟩
    ·omega
    ·cases ha;exact VZ hr j u hj
   refine dN hgd s x 22 ho base 64 _ 4 24 Tryz.underlying22 ru rfl af v l.length (dD l) hs hown ad es.length cap (dD es) hx (nG es) lH (K0 es) (by unfold maxLen;omega) ae hbase (fun v' w' h1 h2=>k v' w' ?_ h2);unfold aK;rw[nH,List.length_append];exact h1
 |none=>
   have h0:es=[]:=by
    rcases hc with hc |⟨b,off,ha,_⟩
    ·exact List.length_eq_zero_iff.1 hc
    ·cases ha
   subst h0;obtain⟨i0,uQ,hz0,hz1,hz2⟩:=info_parts ru;have JC:∀ad,(storeCells ad []).run prog w=.ok () w:=fun _=>rfl;obtain⟨va,vc,BU⟩:∃va vc,v=.slice va l.length vc:=az hown;subst BU;refine wpList_plain hgd fun K hK=>?_;have Ga:l.length<=vc:=by
    rcases cd hown with⟨h1,h2⟩|⟨g,c,h1,_,h2,_⟩
    ·rw[h1];exact Nat.zero_le _
    ·cases h1;exact h2
   have hrun:(Builtin.append_ #[22,22] op.type #[.slice va l.length vc,.slice none ([]:List aH).length cap]).run prog w=.ok (.slice va l.length vc) w:=by
    cases va with
    |none=>simp[Builtin.append_,run_underlying Tryz.underlying22,sizeOf,typeInfo,uQ,Builtin.lenOf,Builtin.firstCells,Ga]
    |some va=>simp[Builtin.append_,run_underlying Tryz.underlying22,sizeOf,typeInfo,uQ,Builtin.lenOf,Builtin.firstCells,JC,Ga]
   unfold Oper.wp execOp;simp only[ho,resolve,invoke,builtin,Sem.run_bind,Sem.run_pure,Result.andThen_ok,List.map_toArray,List.map_cons,List.map_nil,hs,hx,hrun];refine hK _ _ (k _ _ (by rw[List.append_nil];exact hown) ⟨⟨rfl,rfl,rfl,Nat.le_refl _,fun _ _ _=>rfl⟩,.inl rfl⟩)
theorem qR(w:World):aK (w.alloc (.cells #[] 64)) w.heap.size (.slice (some ⟨w.heap.size,0,none⟩) 0 0) []:=
 ⟨by simp[dD],.inr ⟨w.heap.size,0,#[],rfl,Nat.le_refl _,heap_alloc_new w _,Nat.le_refl _,Nat.zero_le _,ah,by simp[dD]⟩⟩
theorem kF.take{w:World}{a:Option Addr}{n cap k:Nat}{es:List aH}(h:kF w (.slice a n cap) es)(hk:k<=es.length):kF w (.slice a k cap) (es.take k):=by
 obtain⟨a',cap',he,hc⟩:=h;cases he;have hl:(es.take k).length=k:=by rw[List.length_take];omega
 refine⟨a,cap,by rw[hl],?_⟩;rcases hc with hc |⟨b,off,rfl,hc⟩
 ·exact .inl ae
 ·exact .inr ⟨b,off,rfl,fun j x hx=>hc j x (by rw[List.getElem?_take]at hx;split at hx;exact hx;cases hx)⟩
theorem kF.drop{w:World}{b off n cap k:Nat}{es:List aH}(h:kF w (.slice (some ⟨b,off,none⟩) n cap) es)(hk:k<=es.length)(c:Nat):kF w (.slice (some ⟨b,off+k*4,none⟩) (n-k) c) (es.drop k):=by
 obtain⟨a',cap',he,hc⟩:=h;cases he;have hl:(es.drop k).length=es.length-k:=List.length_drop ..;refine⟨_,c,by rw[hl],?_⟩;rcases hc with hc |⟨b',off',he,hc⟩
 ·exact .inl ae
 ·cases he;refine .inr ⟨b,off+k*4,rfl,fun j x hx=>?_⟩;rw[List.getElem?_drop]at hx;have:=hc (k+j) x hx;rw[show off+k*4+j*4=off+(k+j)*4 by omega];exact this
theorem kF.none{w:World}{a:Option Addr}{cap:Nat}:kF w (.slice a 0 cap) []:=⟨a,cap,rfl,.inl rfl⟩
theorem gJ{W0 W W':World}{v v':Value}(hb:Below W0.heap.size W0 W)(hv:∀y,v.ownBlock=some y->W0.heap.size<=y)(ha:lj v W W' v'):Below W0.heap.size W0 W'/\∀y,v'.ownBlock=some y->W0.heap.size<=y:=by
 obtain⟨hg,h⟩:=ha;have hs:=hb.size;refine⟨hb.trans ⟨hg.os,hg.tape,hg.output,hg.size,fun x hx=>hg.block x ae (fun e=>?_)⟩,fun y hy=>?_⟩
 ·have:=hv x e.symm;omega
 ·rcases h with h | h
  ·rw[h]at hy;exact hv y hy
  ·rw[h]at hy;cases hy;exact hs
def K5(w:World)(b:Bool)(r:List aH)(i:Nat)(v:Value)(W:World):Prop:=∃out:List aH,aK W w.heap.size v out/\dI b (r.take i) out/\out.length<=i/\Below w.heap.size w W
theorem K6(v:Value)(es:List aH)(b:Bool)(w:World)(hv:kF w v es)(hl:es.length<=10000):Calls prog 46 #[v,.int .i64 (lS b:Int)] w (Iw w (aJ b es)):=by
 have aev:=aa (KQ v es w hv hl);have Jd:(aJ false es).length<=10000:=Nat.le_trans (cF _ _) hl;have kE:=aa (bT false es);have ZE:Hid (∀out,dI b (aJ false es) out->out=aJ b es):=aa (fun out h=>by rw[h.eq,Iq]);obtain⟨va,vn,vc,rfl⟩:∃a n c,v=.slice a n c:=by
  obtain⟨a,c,rfl,_⟩:=hv;exact⟨a,_,c,rfl⟩
 clear hv hl;generalize aJ false es=r at *;obtain⟨bn,PE⟩:∃bn:Int,bn=(lS b:Int):=⟨_,rfl⟩;have aM:=aa (fun W x y=>Iu b x y W);rw[<- PE]at aM ⊢;clear PE;go_enter func46,ntmps46;go_wp2_with fail;refine aev.o.mono ?_;rintro e w1⟨rv,rfl,hr1,hb1⟩;have nx:=aa hr1;have cQ:=aa hb1;obtain⟨ra,rc,rfl⟩:∃ra rc,rv=.slice ra r.length rc:=az hr1;have UK:=aa (pG hr1);obtain⟨-,lH⟩:=oG UK.o;have HC:=aa lH;have HX:Hid (∀i,i<r.length->∃x,r[i]? = some x):=aa (fun i hi=>⟨_,List.getElem?_eq_getElem hi⟩);have BH:Hid (r.take r.length=r):=aa (List.take_of_length_le (Nat.le_refl _));clear lH hr1 hb1 aev;generalize hN:r.length=N at *;have HN:=aa hN;clear hN;go_wp2;go_loopw [5,7] (fun ov iv W=>∃i:Nat,i<=N/\iv=.int .i64 (i:Int)/\K5 w1 b r i ov W) (fun _ iv _=>N-(intOf iv).toNat)
 case atStart=>exact⟨0,Nat.zero_le _,rfl,[],World.ownsRow_nil _ _ _ _,dI.nil _,Nat.le_refl _,Below.refl _ _⟩
 case round=>
  generalize u5=ov at *;generalize wr=W1 at *;obtain⟨i,hi,rfl,out,hr,Ae,hol,hb⟩:=hrel;have HR:=aa hr;have mR:=aa Ae;have HB:=aa hb;have hz:w1.heap.size<=W1.heap.size:=hb.size;clear hr Ae hb;by_cases hlt:i<N
  ·obtain⟨x,hx⟩:=HX.o i hlt;have HXX:=aa hx;have vU:=aa (Dr hx);obtain⟨re,ro,rfl,-⟩:=HC.o W1 HB.o i x hx;have MF:Hid (∀W,Below W1.heap.size W1 W->W.cell? ⟨re,ro+i*4,none⟩=some (.int .u32 (x.t.toNat:Int))/\W.cell? ⟨re,ro+i*4+1,none⟩=some (.int .u32 (x.h.toNat:Int))/\W.cell? ⟨re,ro+i*4+2,none⟩=some (.int .u64 (x.x.toNat:Int))/\W.cell? ⟨re,ro+i*4+3,none⟩=some (.int .u32 (x.m.toNat:Int))):=aa (fun W hB=>by
    obtain⟨b',o',e,g⟩:=HC.o W (HB.o.trans (hB.mono HB.o.size)) i x HXX.o;cases e;exact g)
   obtain⟨oa,oc,BU⟩:∃oa oc,ov=.slice oa out.length oc:=az HR.o;subst BU;have LS:Hid (∀W,Below W1.heap.size W1 W->kF W (.slice oa out.length oc) out):=aa (fun W hB=>(pG HR.o).below hB);have NG:out.length<=oc/\oc<=maxLen:=by
    rcases cd HR.o with⟨h1,h2⟩|⟨g,c,h1,_,h2,h3⟩
    ·rw[h1];exact⟨Nat.zero_le _,by injection h2 with _ _ e3;rw[e3];exact Nat.zero_le _⟩
    ·cases h1;exact⟨h2,h3⟩
   obtain⟨ajV,Kr⟩:=NG;unfold maxLen at Kr;have Jn:Hid (∀j,j<out.length->∃o,out[j]? = some o):=aa (fun j hj=>⟨_,List.getElem?_eq_getElem hj⟩);have Yy:Hid (∀o∈out,pk b o≠pk b x):=aa (fun o ho e=>by
    have h1:=(mR.o.mem o ho).1;obtain⟨j,hj,rfl⟩:=List.getElem_of_mem h1;rw[List.getElem_take]at e;rw[List.length_take]at hj;have e':pk false r[j]=pk false x:=iA.2 (iA.1 e);have h2:=ft kE.o.gA (show j<i by omega) (List.getElem?_eq_getElem ae) HXX.o;omega)
   have Iz:Hid (x.t≠x.h):=aa (kE.o.mem x (List.mem_of_getElem? HXX.o)).2.1;clear hx;generalize Qb:out.length=n0 at *;have kR:=aa Qb;clear Qb;go_wp2;go_loopw [8] (fun kv W=>∃k:Nat,k<=n0/\kv=.int .i64 (k:Int)/\(∀(j:Nat)(o:aH),j<k->out[j]? = some o->pk b o<pk b x)/\Below W1.heap.size W1 W) (fun kv _=>n0-(intOf kv).toNat)
   case atStart=>exact⟨0,Nat.zero_le _,rfl,(fun j o hj=>absurd hj (Nat.not_lt_zero _)),Below.refl _ _⟩
   case round=>
    generalize wr=W2 at *;obtain⟨k,hk,rfl,Jc,hb2⟩:=hrel;have Pz:=aa Jc;have cX:=aa hb2;clear Jc hb2;by_cases x9:k<n0
    ·obtain⟨o,ho⟩:=Jn.o k x9;have HO:=aa ho;clear ho;obtain⟨-,hcc⟩:=oG (by rw[<- kR.o]at LS;exact LS.o W2 cX.o);obtain⟨oe,oo,rfl,-⟩:=hcc W2 aj k o HO.o;have HOW:Hid (∀W,Below W2.heap.size W2 W->W.cell? ⟨oe,oo+k*4,none⟩=some (.int .u32 (o.t.toNat:Int))/\W.cell? ⟨oe,oo+k*4+1,none⟩=some (.int .u32 (o.h.toNat:Int))/\W.cell? ⟨oe,oo+k*4+2,none⟩=some (.int .u64 (o.x.toNat:Int))/\W.cell? ⟨oe,oo+k*4+3,none⟩=some (.int .u32 (o.m.toNat:Int))):=aa (fun W hB=>by
      obtain⟨g',o',e,r⟩:=hcc W hB k o HO.o;cases e;exact r)
     clear hcc;have K7:=aa (fun W=>aM.o W o x);obtain⟨rr,jD⟩:∃r:Bool,r=decide (pk b o<pk b x):=⟨_,rfl⟩;rw[<- jD]at K7;have Py:=aa jD;clear jD;go_wp2_with fail;refine wq W2 ?_;iterate 8 (refine qz ?_)
     refine qz ?_ (fun w' hw'=>by obtain⟨e0,e1,e2,e3⟩:=HOW.o w' hw';go_simp<;>rfl);iterate 3 (refine qz ?_)
     refine qz ?_ (fun w' hw'=>by obtain⟨e0,e1,e2,e3⟩:=MF.o w' (cX.o.trans (hw'.mono cX.o.size));go_simp<;>rfl);refine qz ?_;refine qw (fun w' hw'=>(K7.o w').mono fun e w'' ⟨he,hb⟩=>⟨he,hw'.trans (hb.mono hw'.size)⟩) ?_;refine qz ?_;refine wpQuiet_nil ?_;intro W3 hb3;have jB:=aa (cX.o.trans (hb3.mono cX.o.size));clear hb3 K7 HOW;cases rr with
     |true=>
       have ZY:Hid (∀(j:Nat)(o':aH),j<k+1->out[j]? = some o'->pk b o'<pk b x):=aa (fun j o' hj kH=>by
        rcases Nat.lt_or_ge j k with h | h
        ·exact Pz.o j o' h kH
        ·obtain rfl:j=k:=by omega
         rw[HO.o]at kH;rw[<- Option.some.inj kH];exact of_decide_eq_true Py.o.symm)
       go_wp2;go_roundw
       case rel=>exact⟨k+1,ae,by go_num,ZY.o,jB.o⟩
       case measure=>simp[intOf];omega
     |false=>
       have KR:Hid (dI b (r.take (i+1)) (out.take k++x::out.drop k)):=aa (by
        rw[vU.o];refine mR.o.lay Iz.o (by rw[kR.o];exact hk) Pz.o (fun j o' hj kH=>?_);have h0:=Yy.o o (List.mem_of_getElem? HO.o);have h1:=of_decide_eq_false Py.o.symm;rcases Nat.eq_or_lt_of_le hj with rfl | hlt
        ·rw[HO.o]at kH;rw[<- Option.some.inj kH];omega
        ·have:=ft mR.o.gA hlt HO.o kH;omega)
       have mr:=jB;have SP:Hid (aK (W3.alloc (.cells #[] 64)) w1.heap.size (.slice (some ⟨W3.heap.size,0,none⟩) 0 0) []):=aa (aU (qR W3) (Nat.le_trans hz mr.o.size));have Z8:Hid (kF (W3.alloc (.cells #[] 64)) (.slice (some ⟨oe,oo,none⟩) k oc) (out.take k)):=aa ((LS.o _ (mr.o.alloc mr.o.size _)).take (by rw[kR.o];exact hk));have hlk:([]:List aH).length+(out.take k).length<=100000:=by rw[List.length_take,List.length_nil];omega
       have hzX:w1.heap.size<=(W3.alloc (.cells #[] 64)).heap.size:=by have:=mr.o.size;simp;omega
       go_wp2_with (at_builtin;refine fZ rfl _ _ rfl w1.heap.size _ [] rfl SP.o _ (out.take k) rfl Z8.o hlk hzX ?_);intro v4 W4 hr4 Km;obtain⟨hb4,hv4⟩:=gJ ((Below.refl W3.heap.size W3).alloc (Nat.le_refl _) _) (fun y hy=>by cases hy;exact Nat.le_refl _) Km;have LW:Hid (aK W4 w1.heap.size v4 (out.take k)):=aa (by rw[<- List.nil_append (out.take k)];exact hr4);have nQ:=aa (mr.o.trans (hb4.mono mr.o.size));have GR:=aa hb4;have JV:=aa hv4;obtain⟨x0,x1,x2,x3⟩:=MF.o W4 nQ.o;have Z9:(out.take k).length<=100000:=by rw[List.length_take];omega
       have uO:w1.heap.size<=W4.heap.size:=Nat.le_trans hz nQ.o.size;clear hr4 Km hb4 hv4;go_wp2_with (at_builtin;refine cZ rfl _ _ rfl w1.heap.size _ (out.take k) rfl LW.o x 1 rfl Z9 uO ?_);intro v5 W5 KE Jl;obtain⟨oN,T9⟩:=gJ (GR.o.alloc GR.o.size _) JV.o Jl;have Dh:=aa KE;have Et:=aa (mr.o.trans (oN.mono mr.o.size));have aaa:=aa oN;have Ny:=aa T9;have TT:w1.heap.size<=W5.heap.size:=Nat.le_trans hz Et.o.size;have V0:(out.take k++[x]).length+(out.drop k).length<=100000:=by rw[List.length_append,List.length_take,List.length_drop,List.length_singleton,kR.o];omega
       clear KE Jl oN T9 x0 x1 x2 x3;have HDR:Hid (kF W5 (.slice (some ⟨oe,oo+k*4,none⟩) (n0-k) (oc-k)) (out.drop k)):=aa (by
        have:=LS.o W5 Et.o;exact kF.drop this (by rw[kR.o];exact hk) _)
       go_wp2_with (at_builtin;refine fZ rfl _ _ rfl w1.heap.size _ (out.take k++[x]) rfl Dh.o _ (out.drop k) rfl HDR.o V0 TT ?_);intro v6 W6 AG KS;obtain⟨FA,-⟩:=gJ aaa.o Ny.o KS;have JN:Hid (aK W6 w1.heap.size v6 (out.take k++x::out.drop k)):=aa (by
        exact AG)
       have SQ:=aa (HB.o.trans (mr.o.mono hz));have mS:=aa (SQ.o.trans (FA.mono SQ.o.size));clear AG KS FA;go_wp2;go_roundw
       case rel=>exact⟨i+1,ae,by go_num,out.take k++x::out.drop k,JN.o,KR.o,by rw[List.length_append,List.length_cons,List.length_take,List.length_drop,kR.o];omega,mS.o⟩
       case measure=>simp[intOf];omega
    ·obtain rfl:n0=k:=by omega
     have KR:Hid (dI b (r.take (i+1)) (out.take n0++x::out.drop n0)):=aa (by
      rw[vU.o];refine mR.o.lay Iz.o (by rw[kR.o];exact Nat.le_refl _) Pz.o (fun j o' hj kH=>?_);have:=aN kH;rw[kR.o]at this;omega)
     have hdd:decide ((n0:Int)<(n0:Int))=false:=decide_eq_false ae;have Z3:decide (n0<n0)=false:=decide_eq_false ae;rcases Nat.eq_or_lt_of_le ajV with hcN | hcN;case' inl=>subst hcN
     all_goals
      go_wp2_with fail;go_quiet (fail)
      have hb3:Below W2.heap.size W2 (W2.drewN nq):=below_drewN aj _;have mr:=aa (cX.o.trans (hb3.mono cX.o.size));clear hb3 hdd Z3;generalize W2.drewN nq=W3 at *;have SP:Hid (aK (W3.alloc (.cells #[] 64)) w1.heap.size (.slice (some ⟨W3.heap.size,0,none⟩) 0 0) []):=aa (aU (qR W3) (Nat.le_trans hz mr.o.size));have Z8:=aa ((LS.o (W3.alloc (.cells #[] 64)) (mr.o.alloc mr.o.size _)).take (k:=n0) (by rw[kR.o];exact hk));have hlk:([]:List aH).length+(out.take n0).length<=100000:=by rw[List.length_take,List.length_nil];omega
      have hzX:w1.heap.size<=(W3.alloc (.cells #[] 64)).heap.size:=by have:=mr.o.size;simp;omega
      go_wp2_with (at_builtin;refine fZ rfl _ _ rfl w1.heap.size _ [] rfl SP.o _ (out.take n0) rfl Z8.o hlk hzX ?_);intro v4 W4 hr4 Km;obtain⟨hb4,hv4⟩:=gJ ((Below.refl W3.heap.size W3).alloc (Nat.le_refl _) _) (fun y hy=>by cases hy;exact Nat.le_refl _) Km;have LW:Hid (aK W4 w1.heap.size v4 (out.take n0)):=aa (by rw[<- List.nil_append (out.take n0)];exact hr4);have nQ:=aa (mr.o.trans (hb4.mono mr.o.size));have GR:=aa hb4;have JV:=aa hv4;obtain⟨x0,x1,x2,x3⟩:=MF.o W4 nQ.o;have Z9:(out.take n0).length<=100000:=by rw[List.length_take];omega
      have uO:w1.heap.size<=W4.heap.size:=Nat.le_trans hz nQ.o.size;clear hr4 Km hb4 hv4;go_wp2_with (at_builtin;refine cZ rfl _ _ rfl w1.heap.size _ (out.take n0) rfl LW.o x 1 rfl Z9 uO ?_);intro v5 W5 KE Jl;obtain⟨oN,T9⟩:=gJ (GR.o.alloc GR.o.size _) JV.o Jl;have Dh:=aa KE;have Et:=aa (mr.o.trans (oN.mono mr.o.size));have aaa:=aa oN;have Ny:=aa T9;have TT:w1.heap.size<=W5.heap.size:=Nat.le_trans hz Et.o.size;have V0:(out.take n0++[x]).length+(out.drop n0).length<=100000:=by rw[List.length_append,List.length_take,List.length_drop,List.length_singleton,kR.o];omega
      clear KE Jl oN T9 x0 x1 x2 x3;have hdr:out.drop n0=[]:=List.drop_of_length_le (by rw[kR.o];exact Nat.le_refl _);have HDR:=aa hdr;have ajY:=aa V0;clear hdr V0;go_wp2_with (at_builtin;refine fZ rfl _ _ rfl w1.heap.size _ (out.take n0++[x]) rfl Dh.o _ (out.drop n0) rfl (by rw[HDR.o];exact kF.none) ajY.o TT ?_);intro v6 W6 AG KS;obtain⟨FA,-⟩:=gJ aaa.o Ny.o KS;have JN:Hid (aK W6 w1.heap.size v6 (out.take n0++x::out.drop n0)):=aa (by
       exact AG)
      have SQ:=aa (HB.o.trans (mr.o.mono hz));have mS:=aa (SQ.o.trans (FA.mono SQ.o.size));clear AG KS FA;go_wp2;go_roundw
      case rel=>exact⟨i+1,ae,by go_num,out.take n0++x::out.drop n0,JN.o,KR.o,by rw[List.length_append,List.length_cons,List.length_take,List.length_drop,kR.o];omega,mS.o⟩
      case measure=>simp[intOf];omega
  ·obtain rfl:N=i:=by omega
   go_wp2;go_ret;refine⟨_,rfl,?_,cQ.o.trans (HB.o.mono cQ.o.size)⟩;have h:=mR.o;rw[BH.o]at h;rw[<- ZE.o _ h];exact aU HR.o cQ.o.size
end
section
open Go.RowKit Go.Maps Go.MapKept
theorem eB.rd{w:World}{v:Value}{vs:List ck}(h:eB w v vs):PJ w v vs:=by
 obtain⟨a,cap,rfl,h1,h2,h⟩:=h;refine⟨a,cap,rfl,h.imp id ?_⟩;rintro⟨b,off,rfl,hc⟩;refine⟨b,off,rfl,fun j x hx=>?_⟩;have hl:=aN hx;rw[List.getElem?_eq_getElem hl]at hx;obtain rfl:=Option.some.inj hx;exact hc j hl
theorem cell_of_heap{w w':World}{b o:Nat}(h:w'.heap[b]? = w.heap[b]?):w'.cell? ⟨b,o,none⟩=w.cell? ⟨b,o,none⟩:=by
 unfold World.cell?;rw[h]
theorem kF.other{w w':World}{v:Value}{es:List aH}(h:kF w v es)(hk:∀b,v.ownBlock=some b->w'.heap[b]? = w.heap[b]?):kF w' v es:=by
 obtain⟨a,cap,rfl,h⟩:=h;refine⟨a,cap,rfl,h.imp id ?_⟩;rintro⟨b,off,rfl,hc⟩;have he:∀o,w'.cell? ⟨b,o,Option.none⟩=w.cell? ⟨b,o,Option.none⟩:=fun o=>cell_of_heap (hk b rfl);refine⟨b,off,rfl,fun j x hx=>?_⟩;obtain⟨q0,q1,q2,q3⟩:=hc j x hx;exact⟨(he _).trans q0,(he _).trans q1,(he _).trans q2,(he _).trans q3⟩
end
section
open Go.RowKit Go.Maps
theorem kF.moved{n pb db:Nat}{w w':World}{o o':ar}{d d':Dsk}{L':aC}{v:Value}{es:List aH}(h:kF w v es)(hm:au (fun _=>False) n pb db w o d w' o' d' L')(ho:∀b,v.ownBlock=some b->o b=Option.none):kF w' v es:=by
 obtain⟨a,cap,rfl,h⟩:=h;refine⟨a,cap,rfl,h.imp id ?_⟩;rintro⟨b,off,rfl,hc⟩;refine⟨b,off,rfl,fun j x hx=>?_⟩;obtain⟨q0,q1,q2,q3⟩:=hc j x hx;exact⟨hm.cell q0 (ho b rfl) (fun h=>h),hm.cell q1 (ho b rfl) (fun h=>h),hm.cell q2 (ho b rfl) (fun h=>h),hm.cell q3 (ho b rfl) (fun h=>h)⟩
end
section
open Go.RowKit Go.Maps
structure fJ(w0 w:World)(pb db n:Nat)(o:ar)(d:Dsk)(L:aC)(gb gen N ob ib vb:Nat)(es:List aH):Prop where
 held:Held w0 w pb db n o d L
 need:need L<=131072
 gr:cW w o gb pb gen N ob ib vb
 file:aA L (aI 101 gen)=some (aw (aJ false es) true)
 Du:aA L (aI 114 gen)=some (aw (aJ true es) true)
 len:es.length<=1000
 top:N<=1000
 ends:∀x∈es,x.t.toNat<N/\x.h.toNat<N
structure ID(w:World)(o:ar)(av:Value)(A:Nat->Bool)(K:Nat->Prop):Prop where
 ex:∃f cs,av=.func (.func f) #[] cs/\(∀args W,Sem.run prog (callFunc f args) W=.ok (.enter f args) W) /\
  ∀W(x:Nat),(∀b,K b->W.heap[b]? = w.heap[b]?)->w.heap.size<=W.heap.size->x<4294967296->Calls prog f (#[.int .u32 (x:Int)]++cs) W fun e W'=>e=.returned (.bool (A x))/\Below W.heap.size W W'
 old:∀b,K b->b<w.heap.size/\o b=none
section
variable {w0 w w' W:World} {pb db n gb gen N ob ib vb sv ab:Nat} {o o':ar} {d d':Dsk} {L:aC} {es:List aH} {A:Nat->Bool} {K:Nat->Prop} {av:Value}
theorem fJ.moved(h:fJ w0 w pb db n o d L gb gen N ob ib vb es)(hm:au (fun _=>False) n pb db w o d w' o' d' L):fJ w0 w' pb db n o' d' L gb gen N ob ib vb es:=
 ⟨h.held.moved hm (by grind),h.need,h.gr.KV hm (by grind),h.file,h.Du,h.len,h.top,h.ends⟩
theorem ID.moved(h:ID w o av A K)(hm:au (fun _=>False) n pb db w o d w' o' d' L):ID w' o' av A K:=by
 obtain⟨f,cs,rfl,h1,h2⟩:=h.ex;exact⟨⟨f,cs,rfl,h1,fun W x hk hs hx=>h2 W x (fun b hb=>(hk b hb).trans (hm.block (h.old b hb).1 (h.old b hb).2 (fun e=>e))) (Nat.le_trans hm.size hs) hx⟩,fun b hb=>⟨Nat.lt_of_lt_of_le (h.old b hb).1 hm.size,hm.free (h.old b hb).1 (h.old b hb).2⟩⟩
theorem fJ.out(HW:aP)(h:fJ w0 w pb db n o d L gb gen N ob ib vb es){v:Nat}(hv:v<N):Calls prog 21 #[ptrTo gb,.int .u32 (v:Int)] w (eO n pb db w o d L (aX es v)):=
 IA HW h.held h.need h.gr h.file h.len hv h.top
theorem fJ.p9(HW:aP)(h:fJ w0 w pb db n o d L gb gen N ob ib vb es){v:Nat}(hv:v<N):Calls prog 22 #[ptrTo gb,.int .u32 (v:Int)] w (eO n pb db w o d L (eW es v)):=
 VT HW h.held h.need h.gr h.Du h.len hv h.top
theorem MH{es:List aH}{v:Nat}{x:aH}(h:x∈eW es v):x∈es/\x.h.toNat=v:=
 ⟨((bT true es).mem x (yT h).1).1,(yT h).2⟩
theorem AO(es:List aH)(v:Nat):(eW es v).length<=es.length:=by
 have:=cF true es;exact Nat.le_trans (List.length_filter_le _ _) this
abbrev uC(gb:Nat):Value:=.func (.func 21) #[ptrTo gb] #[]
abbrev E3(gb:Nat):Value:=.func (.func 22) #[ptrTo gb] #[]
def qT(n pb db:Nat)(w:World)(o:ar)(d:Dsk)(L:aC)(es:List aH)(v:Nat)(e:Ending)(w':World):Prop:=
 ∃iv ov d' o',e=.returned (.tuple #[iv,ov,.int .i64 0])/\au (fun _=>False) n pb db w o d w' o' d' L/\aK w' w.heap.size iv (eW es v)/\aK w' w.heap.size ov (aX es v)/\∀x,iv.ownBlock=some x\/ov.ownBlock=some x->o' x=none
theorem IE(HW:aP)(h:fJ w0 w pb db n o d L gb gen N ob ib vb es){v:Nat}(hv:v<N) :
 Calls prog 144 #[uC gb,E3 gb,.int .u32 (v:Int)] w (qT n pb db w o d L es v):=by
 have mA:=aa (h.p9 HW hv);have HO:Hid (∀W o' d',au (fun _=>False) n pb db w o d W o' d' L->Calls prog 21 #[ptrTo gb,.int .u32 (v:Int)] W (eO n pb db W o' d' L (aX es v))):=aa (fun W o' d' hm=>(h.moved hm).out HW hv);clear h;unfold ptrTo eO at *;go_enter func144,ntmps144;go_wp2_with fail;refine mA.o.mono ?_;rintro e w1⟨iv,d1,o1,rfl,dZ,kY,tF⟩;have hout:=aa (HO.o _ _ _ dZ);have eY:=aa dZ;have C0:=aa kY;have QV:=aa tF;clear dZ kY tF mA;go_wp2_with fail;refine hout.o.mono ?_;rintro e w2⟨ov,d2,o2,rfl,cR,kf,hf2⟩;have HQ:Hid (qT n pb db w o d L es v (.returned (.tuple #[iv,ov,.int .i64 0])) w2):=aa ⟨iv,ov,d2,o2,rfl,eY.o.trans cR (by grind),cR.ownsRow C0.o (fun b hb=>⟨QV.o b hb,fun e=>e⟩),aU kf eY.o.size,fun x hx=>hx.elim (fun e=>cR.free (aL C0.o x e).1 (QV.o x e)) (hf2 x)⟩;clear cR kf hf2 hout;go_wp2;go_returns;exact HQ.o
theorem MI(h:ID w o av A K)(v x:Nat)(hx:x<4294967296)(hk:∀b,K b->W.heap[b]? = w.heap[b]?)(hs:w.heap.size<=W.heap.size){t1 t2:TypeId}(Qh:W.heap[sv]? = some (.cells #[.int .u32 (v:Int)] t1))(hab:W.heap[ab]? = some (.cells #[av] t2)) :
 Calls prog 200 #[.int .u32 (x:Int),.pointer (some ⟨sv,0,none⟩),.pointer (some ⟨ab,0,none⟩)] W fun e W'=>e=.returned (.bool (x == v || A x))/\Below W.heap.size W W':=by
 obtain⟨f,cs,rfl,hrun,aM⟩:=h.ex;have c0:W.cell? ⟨sv,0,none⟩=some (.int .u32 (v:Int)):=by rw[aq Qh];rfl
 have c1:W.cell? ⟨ab,0,none⟩=some (.func (.func f) #[] cs):=by rw[aq hab];rfl
 have hc:=aa (aM W x hk hs hx);clear h aM hk hs Qh hab;by_cases hxv:x=v
 ·subst hxv;go_enter func200,ntmps200;go_wp2;go_ret;exact⟨ah,Below.refl _ _⟩
 ·have hz:¬(x:Int)=(v:Int):=by omega
  have HB:Hid ((x == v || A x)=A x):=aa (by grind);rw[HB.o];go_enter func200,ntmps200;go_wp2_with fail;refine hc.o.mono ?_;rintro e W1⟨rfl,hb⟩;have cQ:=aa hb;clear hb hc;go_wp2;go_ret;exact⟨by simp_all,cQ.o⟩
end
end
section
open Go.RowKit Go.Maps
section
variable {w0 w w' W W':World} {pb db n gb gen N ob ib vb sv ab:Nat} {o o' gR o0:ar} {d d' gT:Dsk} {L:aC} {es ins outs acc:List aH} {A:Nat->Bool} {K:Nat->Prop} {av lv iv ov:Value}
structure Bl(n pb db:Nat)(w:World)(o:ar)(d:Dsk)(L:aC)(W0:World)(K2:Nat->Prop)(lv:Value)(acc:List aH)(W:World)(o':ar)(d':Dsk):Prop where
 mv:au (fun _=>False) n pb db w o d W o' d' L
 keep:∀b,K2 b->W.heap[b]? = W0.heap[b]? /\ b<W.heap.size/\w.heap.size<=b/\o' b=none
 row:aK W w.heap.size lv acc
 own:∀b,lv.ownBlock=some b->¬K2 b/\o' b=none
variable {W0:World} {K2:Nat->Prop}
theorem Bl.below(h:Bl n pb db w o d L W0 K2 lv acc W o' d')(hb:Below W.heap.size W W'):Bl n pb db w o d L W0 K2 lv acc W' o' d':=
 ⟨h.mv.below hb,fun b hk=>⟨(hb.block b (h.keep b hk).2.1).trans (h.keep b hk).1,Nat.lt_of_lt_of_le (h.keep b hk).2.1 hb.size,(h.keep b hk).2.2⟩,aV h.row hb,h.own⟩
theorem Bl.moved(h:Bl n pb db w o d L W0 K2 lv acc W o' d')(hm:au (fun _=>False) n pb db W o' d' W' gR gT L):Bl n pb db w o d L W0 K2 lv acc W' gR gT:=
 ⟨h.mv.trans hm (fun _ _ e=>e),fun b hk=>⟨(hm.block (h.keep b hk).2.1 (h.keep b hk).2.2.2 (fun e=>e)).trans (h.keep b hk).1,Nat.lt_of_lt_of_le (h.keep b hk).2.1 hm.size,(h.keep b hk).2.2.1,hm.free (h.keep b hk).2.1 (h.keep b hk).2.2.2⟩,
  hm.ownsRow h.row (fun b hb=>⟨(h.own b hb).2,fun e=>e⟩),fun b hb=>⟨(h.own b hb).1,hm.free (aL h.row b hb).1 (h.own b hb).2⟩⟩
theorem Bl.Ie(h:Bl n pb db w o d L W0 K2 lv acc W o' d'){y:aH}{Jp:Value}{ob:Obj}(hr:aK W' w.heap.size Jp (acc++[y]))(ha:lj lv (W.alloc ob) W' Jp):Bl n pb db w o d L W0 K2 Jp (acc++[y]) W' o' d':=by
 obtain⟨hm,hf,hh,hz⟩:=ha.moved h.mv (fun x hx=>⟨(h.own x hx).2,(aL h.row x hx).2⟩);refine⟨hm,fun b hk=>⟨(hh b (h.keep b hk).2.1 (fun e=>(h.own b e).1 hk)).trans (h.keep b hk).1,Nat.lt_of_lt_of_le (h.keep b hk).2.1 hz,(h.keep b hk).2.2⟩,hr,fun b hb=>⟨fun hk=>?_,(hf b hb).1⟩⟩;rcases ha.2 with e | e
 ·grind [own]
 ·rw[e]at hb;cases hb;have:=(h.keep _ hk).2.1;simp at this;omega
theorem Bl.aew(h:Bl n pb db w o d L W0 K2 lv acc W o' d')(x:Nat)(h1:x<W.heap.size)(h2:w.heap.size<=x)(h3:o' x=none)(h4:lv.ownBlock≠some x):Bl n pb db w o d L W (fun b=>K2 b\/b=x) lv acc W o' d':=
 ⟨h.mv,fun b hb=>⟨rfl,hb.elim (fun e=>(h.keep b e).2) (fun e=>by grind)⟩,h.row,fun b hb=>⟨fun e=>e.elim (h.own b hb).1 (fun e=>h4 (e▸hb)),(h.own b hb).2⟩⟩
theorem Bl.narrow{Jp:Value}{kN:List aH}{x:Nat}(h:Bl n pb db w o d L W0 K2 lv acc W o' d')(k:Bl n pb db w o d L W (fun b=>K2 b\/b=x) Jp kN W' gR gT):Bl n pb db w o d L W0 K2 Jp kN W' gR gT:=
 ⟨k.mv,fun b hb=>⟨(k.keep b (.inl hb)).1.trans (h.keep b hb).1,(k.keep b (.inl hb)).2⟩,k.row,fun b hb=>⟨fun e=>(k.own b hb).1 (.inl e),(k.own b hb).2⟩⟩
def uD(n pb db:Nat)(w:World)(o:ar)(d:Dsk)(L:aC)(ajZ:List aH)(e:Ending)(w':World):Prop:=
 ∃v d' o',e=.returned (.tuple #[v,.int .i64 0])/\au (fun _=>False) n pb db w o d w' o' d' L/\kF w' v ajZ/\∀x,v.ownBlock=some x->o' x=none/\w.heap.size<=x/\x<w'.heap.size
theorem SR{w:World}{base:Nat}{l:List aH}{a:Option Addr}{cap:Nat}(h:aK w base (.slice a l.length cap) l):kF w (.slice a l.length l.length) l:=by
 rcases cd h with⟨rfl,e⟩|⟨g,c,e,-,-,-⟩
 ·cases e;exact⟨_,_,rfl,.inl rfl⟩
 ·cases e;exact⟨_,_,rfl,.inr ⟨g,0,rfl,fun j x hx=>by
   grind [bK]⟩⟩
theorem SS{a:Option Addr}{k cap:Nat}(hk:k<=cap)(w:World):Calls prog 203 #[.slice a k cap] w fun e w'=>e=.returned (.slice a k k)/\w'=w:=by
 go_enter func203,ntmps203;go_wp2;go_ret;simp
theorem rC{α β:Type}{l:List α}{f:α->List β}{j:Nat}{x:α}(h:l[j]? = some x):(l.take (j+1)).flatMap f=(l.take j).flatMap f++f x:=by
 grind [List.take_succ_eq_append_getElem]
theorem gK{α β:Type}{l:List α}{f:α->Option β}{j:Nat}{x:α}(h:l[j]? = some x):(l.take (j+1)).filterMap f=(l.take j).filterMap f++(f x).toList:=by
 grind [List.take_succ_eq_append_getElem]
theorem IG{α β:Type}{f:α->List β}{c:Nat}(hf:∀x,(f x).length<=c){l:List α}{i:Nat}(hl:l.length<=i):(l.flatMap f).length<=i*c:=by
 refine Nat.le_trans ?_ (Nat.mul_le_mul_right c hl);induction l generalizing i with
 |nil=>simp
 |cons x l ih=>
   have h1:=ih (Nat.le_refl _);grind [Nat.succ_mul]
theorem sr(HW:aP)(h:fJ w0 w pb db n o d L gb gen N ob ib vb es)(ha:ID w o av A K)(v:UInt32)(hv:v.toNat<N)(wy:(eW es v.toNat).length*(aX es v.toNat).length<=100000) :
 Calls prog 142 #[uC gb,E3 gb,av,.int .u32 (v.toNat:Int)] w (uD n pb db w o d L (oF (aX es) A (eW es v.toNat) v)):=by
 have H:=aa h;obtain⟨f,cs,rfl,-⟩:=ha.ex;have HA:=aa ha;have HDG:=aa wy;clear h ha wy;obtain⟨R,HR⟩:∃R,Hid (oF (aX es) A (eW es v.toNat) v=R):=⟨_,aa rfl⟩;rw[HR.out];have Bg:=l9 Tryz.underlying53 (.func 21) #[.pointer (some ⟨gb,0,none⟩)] #[];have T8:=l9 Tryz.underlying53 (.func 22) #[.pointer (some ⟨gb,0,none⟩)] #[];have XL:=l9 Tryz.underlying234 (.func f) #[] cs;have cQ:Hid (Below w.heap.size w ((w.alloc (.cells #[.func (.func f) #[] cs] 234)).alloc (.cells #[.int .u32 (v.toNat:Int)] 26))):=aa (ai.alloc ah _);have iV:Hid (((w.alloc (.cells #[.func (.func f) #[] cs] 234)).alloc (.cells #[.int .u32 (v.toNat:Int)] 26)).heap[w.heap.size]? = some (.cells #[.func (.func f) #[] cs] 234)/\((w.alloc (.cells #[.func (.func f) #[] cs] 234)).alloc (.cells #[.int .u32 (v.toNat:Int)] 26)).heap[w.heap.size+1]? = some (.cells #[.int .u32 (v.toNat:Int)] 26)/\((w.alloc (.cells #[.func (.func f) #[] cs] 234)).alloc (.cells #[.int .u32 (v.toNat:Int)] 26)).heap.size=w.heap.size+2):=aa (by
  grind [World.alloc])
 have hb:=aa (IE HW (H.o.moved (au.aW H.o.held.aY cQ.o)) hv);have SU:Hid (∀W o' d',au (fun _=>False) n pb db w o d W o' d' L->fJ w0 W pb db n o' d' L gb gen N ob ib vb es/\ID W o' (.func (.func f) #[] cs) A K):=aa (fun W o' d' hm=>⟨H.o.moved hm,HA.o.moved hm⟩);unfold qT uC E3 at *;unfold ptrTo at *;go_enter func142,ntmps142;go_wp2_with fail;refine hb.o.mono ?_;rintro e w2⟨iv,ov,d2,o2,rfl,cR,CK,kf,hf2⟩;obtain⟨ia,ic,rfl⟩:=az CK;obtain⟨oa,oc,rfl⟩:=az kf;obtain⟨M1,FB⟩:∃M,M=(eW es v.toNat).length:=⟨_,rfl⟩;obtain⟨M2,GY⟩:∃M,M=(aX es v.toNat).length:=⟨_,rfl⟩;rw[<- FB]at CK hf2 ⊢;rw[<- GY]at kf hf2 ⊢;have HM:Hid (M1=(eW es v.toNat).length/\M2=(aX es v.toNat).length/\M1<=1000/\M2<=1000):=aa ⟨FB,GY,by rw[FB];exact Nat.le_trans (AO _ _) H.o.len,by rw[GY];exact Nat.le_trans (mZ _ _) H.o.len⟩;clear FB GY;rw[iV.o.2.2]at CK kf;obtain⟨sv,Qh⟩:∃x,x=w.heap.size+1:=⟨_,rfl⟩;obtain⟨ab,hab⟩:∃x,x=w.heap.size:=⟨_,rfl⟩;have eT:Hid (Bl n pb db w o d L w2 (fun b=>b=sv\/b=ab\/(Value.slice ia M1 ic).ownBlock=some b\/(Value.slice oa M2 oc).ownBlock=some b) (.slice none 0 0) [] w2 o2 d2):=aa (by
  have hz:=iV.o.2.2;have hz2:=cR.size;have dO:∀b,w.heap.size<=b->o b=none:=fun b hb=>H.o.held.aY.fresh hb;refine⟨(au.aW H.o.held.aY cQ.o).trans cR (fun _ _ e=>e),fun b hb=>⟨rfl,?_⟩,World.ownsRow_nil _ _ _ _,fun b hb=>by cases hb⟩;rcases hb with rfl | rfl | e | e
  ·exact⟨ae,ae,cR.free ae (dO _ ae)⟩
  ·exact⟨ae,ae,cR.free ae (dO _ ae)⟩
  ·have:=aL CK b e;exact⟨this.1,ae,hf2 b (.inl e)⟩
  ·have:=aL kf b e;exact⟨this.1,ae,hf2 b (.inr e)⟩)
 have HK:Hid (aK w2 (w.heap.size+2) (.slice ia M1 ic) (eW es v.toNat)/\aK w2 (w.heap.size+2) (.slice oa M2 oc) (aX es v.toNat)/\w2.heap[sv]? = some (.cells #[.int .u32 (v.toNat:Int)] 26)/\w2.heap[ab]? = some (.cells #[.func (.func f) #[] cs] 234)):=aa (by
  have dO:∀b,w.heap.size<=b->o b=none:=fun b hb=>H.o.held.aY.fresh hb;exact⟨CK,kf,by rw[Qh];exact cR.heap iV.o.2.1 (dO _ ae) (fun e=>e),by rw[hab];exact cR.heap iV.o.1 (dO _ ae) (fun e=>e)⟩)
 clear cR CK kf hf2 cQ iV hb Bg T8 XL;go_wp2;rw[<- Qh,<- hab];clear Qh hab;go_loopw [8,50] (fun vl vi wr=>∃(i:Nat)(acc:List aH)(d':Dsk)(o':ar),vi=.int .i64 (i:Int)/\i<=M1/\Hid (Bl n pb db w o d L w2 (fun b=>b=sv\/b=ab\/(Value.slice ia M1 ic).ownBlock=some b\/(Value.slice oa M2 oc).ownBlock=some b) vl acc wr o' d')/\Hid (acc=((eW es v.toNat).take i).flatMap (fun a=>(aX es v.toNat).filterMap (jE (aX es) A v a)))) (fun _ vi _=>M1-(intOf vi).toNat)
 case atStart=>exact⟨0,[],d2,o2,rfl,Nat.zero_le _,eT,aa rfl⟩
 case round=>
  obtain⟨i,acc,d3,o3,rfl,hi,fC,HA3⟩:=hrel;clear eT;generalize wr=W3 at *;obtain⟨la,lc,rfl⟩:=az fC.out.row;by_cases hlt:i<M1
  ·have hiz:(i:Int)<(M1:Int):=by omega
   have wi:IntKind.i64.wrap ((i:Int)+1)=((i+1:Nat):Int):=by grind [Hid.out,ax]
   obtain⟨a,ha⟩:∃x,(eW es v.toNat)[i]? = some x:=⟨_,List.getElem?_eq_getElem (by grind [Hid.out])⟩;have HIA:=aa ha;have HAN:Hid (a.t.toNat<N/\a.t.toNat<4294967296/\a.x.toNat<18446744073709551616):=aa ⟨(H.o.ends a (MH (List.mem_of_getElem? ha)).1).1,a.t.toNat_lt,a.x.toNat_lt⟩;obtain⟨gi,rfl⟩:∃g,ia=some ⟨g,0,none⟩:=by
    obtain⟨-,⟨h1,h2⟩|⟨g,_,_,h1,_⟩⟩:=HK.o.1
    ·grind
    grind
   have hrow:aK W3 (w.heap.size+2) (.slice (some ⟨gi,0,none⟩) (eW es v.toNat).length ic) (eW es v.toNat):=by rw[<- HM.o.1];exact bH HK.o.1 (fun b hb=>(fC.out.keep b (.inr (.inr (.inl hb)))).1)
   obtain⟨q0,q1,q2,q3⟩:=bK hrow ha;have gp:=aa (fC.out.below (aj.alloc (Nat.le_refl _) (.cells #[.int .u32 (a.t.toNat:Int),.int .u32 (a.h.toNat:Int),.int .u64 (a.x.toNat:Int),.int .u32 (a.m.toNat:Int)] 64)));have Uf:Hid ((W3.alloc (.cells #[.int .u32 (a.t.toNat:Int),.int .u32 (a.h.toNat:Int),.int .u64 (a.x.toNat:Int),.int .u32 (a.m.toNat:Int)] 64)).heap[W3.heap.size]? = some (.cells #[.int .u32 (a.t.toNat:Int),.int .u32 (a.h.toNat:Int),.int .u64 (a.x.toNat:Int),.int .u32 (a.m.toNat:Int)] 64)):=aa (heap_alloc_new _ _);obtain⟨xa,hxa⟩:∃x,x=W3.heap.size:=⟨_,rfl⟩;have b6:Hid (Bl n pb db w o d L (W3.alloc (.cells #[.int .u32 (a.t.toNat:Int),.int .u32 (a.h.toNat:Int),.int .u64 (a.x.toNat:Int),.int .u32 (a.m.toNat:Int)] 64)) (fun b=>(b=sv\/b=ab\/(Value.slice (some ⟨gi,0,none⟩) M1 ic).ownBlock=some b\/(Value.slice oa M2 oc).ownBlock=some b)\/b=xa) (.slice la acc.length lc) acc (W3.alloc (.cells #[.int .u32 (a.t.toNat:Int),.int .u32 (a.h.toNat:Int),.int .u64 (a.x.toNat:Int),.int .u32 (a.m.toNat:Int)] 64)) o3 d3):=aa (gp.o.aew xa (by simp_all) (by rw[hxa];exact fC.out.mv.size) (fC.out.mv.aY.fresh ae) (fun e=>by have:=(aL fC.out.row _ e).1;omega));rw[<- hxa]at Uf;clear hrow ha;go_wp2_with fail;rw[<- hxa];clear q0 q1 q2 q3 hxa;generalize W3.alloc (.cells #[.int .u32 (a.t.toNat:Int),.int .u32 (a.h.toNat:Int),.int .u64 (a.x.toNat:Int),.int .u32 (a.m.toNat:Int)] 64)=W4 at *;have x0:W4.cell? ⟨xa,0,none⟩=some (.int .u32 (a.t.toNat:Int)):=by rw[aq Uf.o];rfl
   have x1:=(Array.getElem?_eq_some_iff.1 Uf.o).1;go_step3
   go_wp2_with fail;go_step3
   go_wp2_with fail;clear x0 x1;have OJ:Hid (∀lv acc W o' d',Bl n pb db w o d L W4 (fun b=>(b=sv\/b=ab\/(Value.slice (some ⟨gi,0,none⟩) M1 ic).ownBlock=some b\/(Value.slice oa M2 oc).ownBlock=some b)\/b=xa) lv acc W o' d'->(W.heap[sv]? = some (.cells #[.int .u32 (v.toNat:Int)] 26)/\W.heap[ab]? = some (.cells #[.func (.func f) #[] cs] 234))/\W.heap[xa]? = some (.cells #[.int .u32 (a.t.toNat:Int),.int .u32 (a.h.toNat:Int),.int .u64 (a.x.toNat:Int),.int .u32 (a.m.toNat:Int)] 64)/\aK W (w.heap.size+2) (.slice oa M2 oc) (aX es v.toNat)/\∀x:Nat,x<4294967296->Calls prog 200 #[.int .u32 (x:Int),.pointer (some ⟨sv,0,none⟩),.pointer (some ⟨ab,0,none⟩)] W fun e W'=>e=.returned (.bool (x == v.toNat || A x))/\Below W.heap.size W W'):=aa (fun lv acc W o' d' hs=>by
    have k1:=(hs.keep sv (.inl (.inl rfl))).1.trans ((gp.o.keep sv (.inl rfl)).1.trans HK.o.2.2.1);have k2:=(hs.keep ab (.inl (.inr (.inl rfl)))).1.trans ((gp.o.keep ab (.inr (.inl rfl))).1.trans HK.o.2.2.2);exact⟨⟨k1,k2⟩,(hs.keep xa (.inr rfl)).1.trans Uf.o,bH HK.o.2.1 (fun b hb=>(hs.keep b (.inl (.inr (.inr (.inr hb))))).1.trans (gp.o.keep b (.inr (.inr (.inr hb)))).1),fun x hx=>MI (SU.o _ _ _ hs.mv).2 v.toNat x hx (fun _ _=>rfl) (Nat.le_refl _) k1 k2⟩)
   go_loopw [8,58] (fun vl vk wr=>∃(k:Nat)(kN:List aH)(d':Dsk)(o':ar),vk=.int .i64 (k:Int)/\k<=M2/\Hid (Bl n pb db w o d L W4 (fun b=>(b=sv\/b=ab\/(Value.slice (some ⟨gi,0,none⟩) M1 ic).ownBlock=some b\/(Value.slice oa M2 oc).ownBlock=some b)\/b=xa) vl kN wr o' d')/\Hid (kN=acc++((aX es v.toNat).take k).filterMap (jE (aX es) A v a))) (fun _ vk _=>M2-(intOf vk).toNat)
   case atStart=>exact⟨0,acc,d3,o3,rfl,Nat.zero_le _,b6,aa ah⟩
   case round=>
    obtain⟨k,kN,d6,o6,rfl,hk,gy,Uh⟩:=hrel;clear b6;generalize wr=W6 at *;obtain⟨ma,mc,rfl⟩:=az gy.out.row;by_cases hkt:k<M2
    ·have FE:(k:Int)<(M2:Int):=by omega
     have wk:IntKind.i64.wrap ((k:Int)+1)=((k+1:Nat):Int):=by have:=HM.o;rw[ax]<;>omega
     obtain⟨b,hb⟩:∃x,(aX es v.toNat)[k]? = some x:=⟨_,List.getElem?_eq_getElem (by have:=HM.o;omega)⟩;have HIB:=aa hb;have HBN:Hid (b.h.toNat<N/\b.h.toNat<4294967296/\b.x.toNat<18446744073709551616):=aa ⟨(H.o.ends b (AK (List.mem_of_getElem? hb)).1).2,b.h.toNat_lt,b.x.toNat_lt⟩;obtain⟨gg,rfl⟩:∃g,oa=some ⟨g,0,none⟩:=by
      obtain⟨-,⟨h1,h2⟩|⟨g,_,_,h1,_⟩⟩:=HK.o.2.1
      ·simp_all
      simp_all
     have hrow:aK W6 (w.heap.size+2) (.slice (some ⟨gg,0,none⟩) (aX es v.toNat).length oc) (aX es v.toNat):=by rw[<- HM.o.2.1];exact(OJ.o _ _ _ _ _ gy.out).2.2.1
     obtain⟨q0,q1,q2,q3⟩:=bK hrow hb;have jP:=aa (gy.out.below (aj.alloc (Nat.le_refl _) (.cells #[.int .u32 (b.t.toNat:Int),.int .u32 (b.h.toNat:Int),.int .u64 (b.x.toNat:Int),.int .u32 (b.m.toNat:Int)] 64)));have VP:Hid ((W6.alloc (.cells #[.int .u32 (b.t.toNat:Int),.int .u32 (b.h.toNat:Int),.int .u64 (b.x.toNat:Int),.int .u32 (b.m.toNat:Int)] 64)).heap[W6.heap.size]? = some (.cells #[.int .u32 (b.t.toNat:Int),.int .u32 (b.h.toNat:Int),.int .u64 (b.x.toNat:Int),.int .u32 (b.m.toNat:Int)] 64)):=aa (heap_alloc_new _ _);clear hrow hb;by_cases c1:a.t.toNat=b.h.toNat
     ·have c1z:(a.t.toNat:Int)=(b.h.toNat:Int):=by omega
      have C1:=aa c1;clear c1;have HN:jE (aX es) A v a b=none:=by unfold jE;exact if_pos (.inl C1.o)
      have K8:Hid (kN=acc++((aX es v.toNat).take (k+1)).filterMap (jE (aX es) A v a)):=aa (by rw[gK HIB.o,HN,Uh.out];simp);clear HN;go_wp2;go_roundw
      case rel=>exact⟨k+1,kN,d6,o6,by go_num,ae,jP,K8⟩
      case measure=>simp[intOf];omega
     ·have c1z:¬(a.t.toNat:Int)=(b.h.toNat:Int):=by omega
      have C1:=aa c1;clear c1;have hs1:=aa ((OJ.o _ _ _ _ _ jP.o).2.2.2 _ HAN.o.2.1);go_wp2_with fail;refine hs1.o.mono ?_;rintro e w8⟨rfl,Pj⟩;have jC:=aa (jP.o.below Pj);have aad:=aa ((Pj.block _ (Array.getElem?_eq_some_iff.1 VP.o).1).trans VP.o);clear q0 q1 q2 q3 hs1 Pj jP VP;by_cases c2:(a.t.toNat == v.toNat || A a.t.toNat)=true
      ·rw[c2];have C2:=aa c2;clear c2;have HN:jE (aX es) A v a b=none:=by unfold jE;exact if_pos (.inr (.inl C2.o))
       have K8:Hid (kN=acc++((aX es v.toNat).take (k+1)).filterMap (jE (aX es) A v a)):=aa (by rw[gK HIB.o,HN,Uh.out];simp);clear HN;go_wp2;go_roundw
       case rel=>exact⟨k+1,kN,d6,o6,by go_num,ae,jC,K8⟩
       case measure=>simp[intOf];omega
      ·have c2f:(a.t.toNat == v.toNat || A a.t.toNat)=false:=by simp_all
       rw[c2f];have C2:=aa c2;clear c2 c2f;have hs2:=aa ((OJ.o _ _ _ _ _ jC.o).2.2.2 _ HBN.o.2.1);go_wp2_with fail;refine hs2.o.mono ?_;rintro e w9⟨rfl,N9⟩;have p8:=aa (jC.o.below N9);have aez:=aa ((N9.block _ (Array.getElem?_eq_some_iff.1 aad.o).1).trans aad.o);clear hs2 N9 jC aad;by_cases c3:(b.h.toNat == v.toNat || A b.h.toNat)=true
       ·rw[c3];have C3:=aa c3;clear c3;have HN:jE (aX es) A v a b=none:=by unfold jE;exact if_pos (.inr (.inr (.inl C3.o)))
        have K8:Hid (kN=acc++((aX es v.toNat).take (k+1)).filterMap (jE (aX es) A v a)):=aa (by rw[gK HIB.o,HN,Uh.out];simp);clear HN;go_wp2;go_roundw
        case rel=>exact⟨k+1,kN,d6,o6,by go_num,ae,p8,K8⟩
        case measure=>simp[intOf];omega
       ·have c3f:(b.h.toNat == v.toNat || A b.h.toNat)=false:=by simp_all
        rw[c3f];have C3:=aa c3;clear c3 c3f;generalize FI:W6.heap.size=xb at *;clear FI;have y2:w9.cell? ⟨xb,2,none⟩=some (.int .u64 (b.x.toNat:Int)):=by rw[aq aez.o];rfl
        have y3:w9.cell? ⟨xa,2,none⟩=some (.int .u64 (a.x.toNat:Int)):=by rw[aq (OJ.o _ _ _ _ _ p8.o).2.1];rfl
        have kZ:=aa (Il a.x.toNat b.x.toNat HAN.o.2.2 HBN.o.2.2 w9);go_wp2_with fail;refine kZ.o.mono ?_;rintro e Vv⟨rfl,rfl⟩;clear y2 y3 kZ;by_cases ik:a.x.toNat+b.x.toNat<9223372036854775808
        ·obtain⟨X,hX⟩:∃X:UInt64,X.toNat=a.x.toNat+b.x.toNat:=⟨UInt64.ofNat (a.x.toNat+b.x.toNat),by rw[UInt64.toNat_ofNat'];omega⟩;have SM:KO a.x.toNat b.x.toNat=.tuple #[.int .u64 (X.toNat:Int),.bool true]:=by rw[hX];exact if_pos ik
         rw[SM];have Z2:=aa hX;have UE:=aa ik;clear SM ik hX;have hout:=aa ((SU.o _ _ _ p8.o.mv).1.out HW HAN.o.1);unfold eO ptrTo at hout;go_wp2_with fail;refine hout.o.mono ?_;rintro e w11⟨ev,d11,o11,rfl,SV,hown,-⟩;obtain⟨ea,ec,rfl⟩:=az hown;obtain⟨M3,hM3⟩:∃M,M=(aX es a.t.toNat).length:=⟨_,rfl⟩;rw[<- hM3]at hown ⊢;have AP:=aa (p8.o.moved SV);have XM:=aa hown;have eD:Hid (M3=(aX es a.t.toNat).length/\M3<=1000):=aa ⟨hM3,by rw[hM3];exact Nat.le_trans (mZ _ _) H.o.len⟩;clear SV hown hM3 hout p8 aez;go_wp2_with fail;go_loopw [98] (fun vq wr=>∃q:Nat,vq=.int .i64 (q:Int)/\q<=M3/\Hid (Bl n pb db w o d L W4 (fun b=>(b=sv\/b=ab\/(Value.slice (some ⟨gi,0,none⟩) M1 ic).ownBlock=some b\/(Value.slice (some ⟨gg,0,none⟩) M2 oc).ownBlock=some b)\/b=xa) (.slice ma kN.length mc) kN wr o11 d11)/\Hid (aK wr Vv.heap.size (.slice ea M3 ec) (aX es a.t.toNat))/\Hid (∀y∈(aX es a.t.toNat).take q,¬(y.h.toNat=b.h.toNat/\y.x.toNat<=X.toNat))) (fun vq _=>M3-(intOf vq).toNat)
         case atStart=>exact⟨0,rfl,Nat.zero_le _,AP,XM,aa ah⟩
         case round=>
          obtain⟨q,rfl,hq,wz,SX,aae⟩:=hrel;clear AP XM;generalize wr=Wq at *;by_cases hqt:q<M3
          ·have hqz:(q:Int)<(M3:Int):=by omega
           have wq:IntKind.i64.wrap ((q:Int)+1)=((q+1:Nat):Int):=by have:=eD.o;rw[ax]<;>omega
           obtain⟨y,hy⟩:∃x,(aX es a.t.toNat)[q]? = some x:=⟨_,List.getElem?_eq_getElem (by have:=eD.o;omega)⟩;have HY:=aa hy;obtain⟨ge,rfl⟩:∃g,ea=some ⟨g,0,none⟩:=by
            obtain⟨-,⟨h1,h2⟩|⟨g,_,_,h1,_⟩⟩:=SX.out
            ·simp_all
            simp_all
           have hrow:aK Wq Vv.heap.size (.slice (some ⟨ge,0,none⟩) (aX es a.t.toNat).length ec) (aX es a.t.toNat):=by rw[<- eD.o.1];assumption
           obtain⟨q0,q1,q2,q3⟩:=bK hrow hy;have aeB:Hid (Below Wq.heap.size Wq (Wq.alloc (.cells #[.int .u32 (y.t.toNat:Int),.int .u32 (y.h.toNat:Int),.int .u64 (y.x.toNat:Int),.int .u32 (y.m.toNat:Int)] 64))):=aa ai;have yJ:=aa (wz.out.below aeB.o);have XN:=aa (aV SX.out aeB.o);clear hrow hy;by_cases e1:y.h.toNat=b.h.toNat/\y.x.toNat<=X.toNat
           ·have z1:((y.h.toNat:Int) == (b.h.toNat:Int))=true:=by simp_all
            have z2:(y.x.toNat:Int)<=(X.toNat:Int):=by omega
            have CU:Hid (∃x∈aX es a.t.toNat,x.h.toNat=b.h.toNat/\x.x.toNat<=a.x.toNat+b.x.toNat):=aa ⟨y,List.mem_of_getElem? HY.o,e1.1,by rw[<- Z2.o];omega⟩;clear e1;have HN:jE (aX es) A v a b=none:=by unfold jE;exact if_pos (.inr (.inr (.inr (.inr (.inl CU.o)))))
            have K8:Hid (kN=acc++((aX es v.toNat).take (k+1)).filterMap (jE (aX es) A v a)):=aa (by rw[gK HIB.o,HN,Uh.out];simp);clear HN;go_wp2;go_roundw
            case rel=>exact⟨k+1,kN,d11,o11,by go_num,ae,yJ,K8⟩
            case measure=>simp[intOf];omega
           ·have aeC:Hid (∀y∈(aX es a.t.toNat).take (q+1),¬(y.h.toNat=b.h.toNat/\y.x.toNat<=X.toNat)):=aa (fun z hz=>by
             obtain⟨hl,ZU⟩:=List.getElem?_eq_some_iff.1 HY.o;rw[List.take_succ_eq_append_getElem hl,List.mem_append,List.mem_singleton]at hz;rcases hz with hz | rfl
             ·exact aae.out z hz
             simp_all)
            by_cases z0:y.h.toNat=b.h.toNat
            ·have z2:¬(y.x.toNat:Int)<=(X.toNat:Int):=fun h=>e1 ⟨ae,ae⟩;have z1:((y.h.toNat:Int) == (b.h.toNat:Int))=true:=by simp_all
             clear e1 z0;go_wp2;go_roundw
             case rel=>exact⟨q+1,by go_num,ae,yJ,XN,aeC⟩
             case measure=>simp[intOf];omega
            ·have z1:¬(y.h.toNat:Int)=(b.h.toNat:Int):=by omega
             clear e1 z0;go_wp2;go_roundw
             case rel=>exact⟨q+1,by go_num,ae,yJ,XN,aeC⟩
             case measure=>simp[intOf];omega
          ·have hqz:¬(q:Int)<(M3:Int):=by omega
           have sO:Hid (¬∃x∈aX es a.t.toNat,x.h.toNat=b.h.toNat/\x.x.toNat<=a.x.toNat+b.x.toNat):=aa (fun⟨y,h1,h2⟩=>aae.out y (by rw[List.take_of_length_le (by have:=eD.o;omega)];exact h1) (by rw[Z2.o];exact h2));have hfi:sY w0 Wq pb db n o11 d11 L gb gen N ob ib vb es (fun x=>x == v.toNat || A x) sv ab (fun x=>K x\/x=sv\/x=ab):=by
            obtain⟨hn,hv'⟩:=SU.o _ _ _ wz.out.mv;obtain⟨⟨k1,k2⟩,-,-,-⟩:=OJ.o _ _ _ _ _ wz.out;refine⟨hn.held,hn.need,hn.gr,hn.file,hn.len,hn.top,hn.ends,fun x hx=>?_,fun W x hk hs hx=>MI hv' v.toNat x hx (fun b hb=>hk b (.inl hb)) hs ((hk sv (.inr (.inl rfl))).trans k1) ((hk ab (.inr (.inr rfl))).trans k2)⟩;rcases hx with hx | rfl | rfl
            ·exact hv'.old x hx
            ·exact⟨(wz.out.keep _ (.inl (.inl rfl))).2.1,(wz.out.keep _ (.inl (.inl rfl))).2.2.2⟩
            ·exact⟨(wz.out.keep _ (.inl (.inr (.inl rfl)))).2.1,(wz.out.keep _ (.inl (.inr (.inl rfl)))).2.2.2⟩
           have hf:=aa (IC HW hfi a.t.toNat b.h.toNat X.toNat HAN.o.1);unfold oI ptrTo at hf;clear hfi SX aae;go_wp2_with fail;refine hf.o.mono ?_;rintro e XO⟨d13,o13,rfl,K9⟩;have yJ:=aa (wz.out.moved K9);clear hf K9 wz;by_cases XP:mW (aX es) (fun x=>x == v.toNat || A x) b.h.toNat X.toNat 16 [(a.t.toNat,0)] []=true
           ·rw[XP];have HFD:Hid (mW (aX es) (fun x=>x == v.toNat || A x) b.h.toNat (a.x.toNat+b.x.toNat) 16 [(a.t.toNat,0)] []=true):=aa (by rw[<- Z2.o];omega);clear XP;have HN:jE (aX es) A v a b=none:=by unfold jE;exact if_pos (.inr (.inr (.inr (.inr (.inr HFD.o)))))
            have K8:Hid (kN=acc++((aX es v.toNat).take (k+1)).filterMap (jE (aX es) A v a)):=aa (by rw[gK HIB.o,HN,Uh.out];simp);clear HN;go_wp2;go_roundw
            case rel=>exact⟨k+1,kN,d13,o13,by go_num,ae,yJ,K8⟩
            case measure=>simp[intOf];omega
           ·have Gw:mW (aX es) (fun x=>x == v.toNat || A x) b.h.toNat X.toNat 16 [(a.t.toNat,0)] []=false:=by simp_all
            rw[Gw];have HFD:Hid (¬mW (aX es) (fun x=>x == v.toNat || A x) b.h.toNat (a.x.toNat+b.x.toNat) 16 [(a.t.toNat,0)] []=true):=aa (by rw[<- Z2.o];omega);have HCF:Hid (jE (aX es) A v a b=some ⟨a.t,b.h,X,v⟩):=aa (by
             have e0:UInt64.ofNat (a.x.toNat+b.x.toNat)=X:=by rw[<- Z2.o];simp
             unfold jE;dsimp only;rw[if_neg,e0];rintro(h | h | h | h | h | h)
             ·omega
             ·exact C2.o h
             ·exact C3.o h
             ·exact h UE.o
             ·exact sO.o h
             ·exact HFD.o h)
            have HLN:Hid (kN.length<=100000):=aa (by
             have h1:acc.length<=i*M2:=by rw[HA3.out];exact IG (fun x=>by have:=List.length_filterMap_le (jE (aX es) A v x) (aX es v.toNat);have:=HM.o;omega) (by rw[List.length_take];omega)
             have h2:(((aX es v.toNat).take k).filterMap (jE (aX es) A v a)).length<=k:=Nat.le_trans (List.length_filterMap_le _ _) (by rw[List.length_take];omega);have h3:(i+1)*M2<=M1*M2:=Nat.mul_le_mul_right _ ae;rw[Nat.succ_mul]at h3;have h4:=HDG.o;rw[Uh.out,List.length_append];have:=HM.o;rw[<- this.1,<- this.2.1]at h4;omega)
            have Mg:Hid (w.heap.size<=XO.heap.size):=aa yJ.o.mv.size;have k5:XO.cell? ⟨sv,0,none⟩=some (.int .u32 (v.toNat:Int)):=by rw[aq (OJ.o _ _ _ _ _ yJ.o).1.1];rfl
            clear XP Gw sO;go_wp2_with (at_builtin;refine cZ rfl _ _ rfl w.heap.size _ kN rfl yJ.o.row ⟨a.t,b.h,X,v⟩ 1 rfl HLN.o Mg.o ?_);intro l14 w14 aeE aeF;have sZ:=aa (yJ.o.Ie aeE aeF);have aj1:Hid (kN++[⟨a.t,b.h,X,v⟩]=acc++((aX es v.toNat).take (k+1)).filterMap (jE (aX es) A v a)):=aa (by rw[gK HIB.o,HCF.o,Uh.out];simp);clear aeE aeF yJ;go_wp2;go_roundw
            case rel=>exact⟨k+1,_,d13,o13,by go_num,ae,sZ,aj1⟩
            case measure=>simp[intOf];omega
        ·have SM:KO a.x.toNat b.x.toNat=.tuple #[.int .u64 0,.bool false]:=if_neg ik;rw[SM];have UE:=aa ik;clear SM ik;have HN:jE (aX es) A v a b=none:=by unfold jE;exact if_pos (.inr (.inr (.inr (.inl UE.o))))
         have K8:Hid (kN=acc++((aX es v.toNat).take (k+1)).filterMap (jE (aX es) A v a)):=aa (by rw[gK HIB.o,HN,Uh.out];simp);clear HN;go_wp2;go_roundw
         case rel=>exact⟨k+1,kN,d6,o6,by go_num,ae,p8,K8⟩
         case measure=>simp[intOf];omega
    ·have FE:¬(k:Int)<(M2:Int):=by omega
     have jP:=aa (gp.o.narrow gy.out);have Su:Hid (kN=((eW es v.toNat).take (i+1)).flatMap (fun a=>(aX es v.toNat).filterMap (jE (aX es) A v a))):=aa (by
      rw[rC HIA.o,Uh.out,HA3.out,List.take_of_length_le (l:=aX es v.toNat) (by have:=HM.o;omega)])
     clear gy Uh;go_wp2;go_roundw
     case rel=>exact⟨i+1,kN,d6,o6,by go_num,ae,jP,Su⟩
     case measure=>simp[intOf];omega
  ·have hiz:¬(i:Int)<(M1:Int):=by omega
   have Ga:acc.length<=lc:=by
    obtain⟨-,⟨h1,h2⟩|⟨_,_,_,h1,-,-,h7,-⟩⟩:=fC.out.row
    ·omega
    grind
   have HQ:Hid (uD n pb db w o d L R (.returned (.tuple #[.slice la acc.length acc.length,.int .i64 0])) W3):=aa ⟨_,d3,o3,rfl,fC.out.mv,by
    have e:acc=R:=by rw[HA3.out,<- HR.out,List.take_of_length_le (by grind [Hid.out])];rfl
    subst e;exact SR fC.out.row,fun x hx=>by
    cases la with
    |none=>cases hx
    |some p=>exact⟨(fC.out.own x hx).2,(aL fC.out.row x hx).2,(aL fC.out.row x hx).1⟩⟩
   have vB:=aa (SS (a:=la) Ga W3);clear Ga;go_wp2_with fail;refine vB.o.mono ?_;rintro e w4⟨rfl,rfl⟩;clear vB;go_wp2;go_returns;exact HQ.o
end
end
section
open Go.RowKit Go.Maps
theorem La(args:Array Value)(w:World):Sem.run prog (callFunc 143 args) w=.ok (.enter 143 args) w:=by go_simp
theorem Lb(x:Nat)(w:World):Calls prog 143 #[.int .u32 (x:Int)] w fun e w'=>e=.returned (.bool false)/\w'=w:=by
 go_enter func143,ntmps143;go_wp2;go_ret;simp
theorem aag(w:World)(o:ar):ID w o (.func (.func 143) #[] #[]) (fun _=>false) (fun _=>False):=
 ⟨⟨_,_,rfl,La,fun W x _ _ _=>(Lb x W).mono fun _ _ ⟨h1,h2⟩=>⟨h1,h2▸Below.refl _ _⟩⟩,(by grind)⟩
section
variable {w0 w w' W:World} {pb db n gb gen N ob ib vb:Nat} {o o':ar} {d d':Dsk} {L:aC} {es:List aH}
def Dv(n pb db:Nat)(w:World)(o:ar)(d:Dsk)(L:aC)(i k c:Nat)(e:Ending)(w':World):Prop:=
 ∃d' o',e=.returned (.tuple #[.int .i64 (i:Int),.int .i64 (k:Int),.int .i64 (c:Int),.int .i64 0])/\au (fun _=>False) n pb db w o d w' o' d' L
theorem II(HW:aP)(h:fJ w0 w pb db n o d L gb gen N ob ib vb es)(v:UInt32)(hv:v.toNat<N)(wy:(eW es v.toNat).length*(aX es v.toNat).length<=100000) :
 Calls prog 97 #[uC gb,E3 gb,.int .u32 (v.toNat:Int)] w (Dv n pb db w o d L (eW es v.toNat).length (aX es v.toNat).length (oF (aX es) (fun _=>false) (eW es v.toNat) v).length):=by
 have vy:=aa (sr HW h (aag w o) v hv wy);have HB:Hid (∀W o' d',au (fun _=>False) n pb db w o d W o' d' L->Calls prog 144 #[uC gb,E3 gb,.int .u32 (v.toNat:Int)] W (qT n pb db W o' d' L es v.toNat)):=aa (fun W o' d' hm=>IE HW (h.moved hm) hv);clear h;generalize oF (aX es) (fun _=>false) (eW es v.toNat) v=C at *;unfold uC E3 at *;unfold ptrTo uD qT at *;go_enter func97,ntmps97;go_wp2_with fail;refine vy.o.mono ?_;rintro e w1⟨cv,d1,o1,rfl,dZ,⟨ca,cc,rfl,-⟩,-⟩;have eY:=aa dZ;have hb:=aa (HB.o _ _ _ dZ);clear dZ vy;go_wp2_with fail;refine hb.o.mono ?_;rintro e w2⟨iv,ov,d2,o2,rfl,cR,CK,kf,-⟩;obtain⟨ia,ic,rfl⟩:=az CK;obtain⟨oa,oc,rfl⟩:=az kf;have HQ:Hid (Dv n pb db w o d L (eW es v.toNat).length (aX es v.toNat).length C.length (.returned (.tuple #[.int .i64 ((eW es v.toNat).length:Int),.int .i64 ((aX es v.toNat).length:Int),.int .i64 (C.length:Int),.int .i64 0])) w2):=aa ⟨d2,o2,rfl,eY.o.trans cR (by grind)⟩;clear cR CK kf hb;go_wp2;go_returns;exact HQ.o
end
end
section
open Go.RowKit Go.Maps
open Go.ChangeMaps (setBlock)
theorem E4(S:List Nat)(x:Nat):aA (S.map fun x=>(x,())) x=if x∈S then some () else none:=by
 have h:=rB S x;unfold pU at h;cases e:aA (S.map fun x=>(x,())) x with
 |none=>
   grind
 |some u=>
   grind
abbrev bD(w:World)(base:Nat)(v:Value)(l:List Nat):Prop:=w.ownsRow base 26 1 v l.length (l.map iU)
theorem SY:(prog.info? 26).map (fun i=>(i.zero,i.size,i.bytes))=some (some (.int .u32 0),1,4):=by kernel_rfl
theorem iw{w:World}{base g cap:Nat}{l:List Nat}{i x:Nat}(h:bD w base (.slice (some ⟨g,0,none⟩) l.length cap) l)(hi:l[i]? = some x):w.cell? ⟨g,i,none⟩=some (.int .u32 (x:Int)):=by
 have:=World.ownsRow.cells h (g:=g) rfl i (iU x) (by grind);grind [bF]
section
variable {w:World} {ops:Array Oper} {rest:List Oper} {op:Oper} {a:Act} {Q:Exit->Act->World->Prop}
theorem nc(hgd:op.guard=none)(s x:Operand)(ho:op.op=.call { callee:=.builtin .append,args:=#[s,x],argTypes:=#[88,88] })(base:Nat)(v:Value)(l:List Nat)(hs:a.eval s=v)(hown:bD w base v l)(y c:Nat)(hx:a.eval x=.slice (some ⟨w.heap.size,0,none⟩) 1 c)(hl:l.length<=100000)(hbase:base<=w.heap.size)(k:∀v' w',bD w' base v' (l++[y])->lj v (w.alloc (.cells #[.int .u32 (y:Int)] 26)) w' v'->wpList prog ops Q rest (a.put op.dst v') w') :
 wpList prog ops Q (op::rest) a (w.alloc (.cells #[.int .u32 (y:Int)] 26)):=by
 refine dN hgd s x 88 ho base 26 _ 1 4 Tryz.underlying88 SY rfl af v l.length (l.map iU) hs (World.ownsRow.alloc hown _) ⟨w.heap.size,0,none⟩ 1 c [iU y] hx rfl (fun j u hj=>?_) (by simp[Value.oneCell']) (by grind [maxLen]) ae (by simp;omega) (fun v' w' h1 h2=>k v' w' ?_ h2)
 ·rw[bF,Nat.zero_add];simp_all
 grind
end
abbrev SZ(w:World)(b:Nat)(S:List Nat):Prop:=bN prog 26 iU (fun _:Unit=>Value.int .i64 1) w b (S.map fun x=>(x,()))
structure ju(W:World)(base mc lc mb:Nat)(lv:Value)(acc:List Nat):Prop where
 c1:W.heap[mc]? = some (.cells #[.map (some mb)] 237)
 c2:W.heap[lc]? = some (.cells #[lv] 88)
 mp:SZ W mb acc.reverse
 row:bD W base lv acc
 n1:mc≠lc
 n2:mc≠mb
 n3:lc≠mb
 n4:∀b,lv.ownBlock=some b->b≠mc/\b≠lc/\b≠mb
section
variable {W W':World} {base mc lc mb:Nat} {lv:Value} {acc:List Nat}
theorem ju.lt(h:ju W base mc lc mb lv acc):mc<W.heap.size/\lc<W.heap.size/\mb<W.heap.size/\∀b,lv.ownBlock=some b->b<W.heap.size:=
 ⟨(Array.getElem?_eq_some_iff.1 h.c1).1,(Array.getElem?_eq_some_iff.1 h.c2).1,h.mp.lt,fun b hb=>(aL h.row b hb).1⟩
theorem ju.kept(h:ju W base mc lc mb lv acc)(hk:∀b,b=mc\/b=lc\/b=mb\/lv.ownBlock=some b->W'.heap[b]? = W.heap[b]?):ju W' base mc lc mb lv acc:=
 ⟨(hk _ (.inl rfl)).trans h.c1,(hk _ (.inr (.inl rfl))).trans h.c2,h.mp.kept (hk _ (.inr (.inr (.inl rfl)))),bH h.row (fun b hb=>hk b (.inr (.inr (.inr hb)))),h.n1,h.n2,h.n3,h.n4⟩
theorem ju.below(h:ju W base mc lc mb lv acc)(hb:Below W.heap.size W W'):ju W' base mc lc mb lv acc:=by
 obtain⟨l1,l2,l3,l4⟩:=h.lt;grind [kept,Below.block]
def ix(acc:List Nat)(x:Nat):List Nat:=if x∈acc then acc else acc++[x]
def V1(W:World)(base mc lc mb:Nat)(lv:Value)(acc:List Nat)(x:Nat)(e:Ending)(W':World):Prop:=
 ∃Jp,e=.returned (.tuple #[])/\ju W' base mc lc mb Jp (ix acc x)/\aF (fun b=>b=mb\/b=lc\/lv.ownBlock=some b) W W'/\∀b,Jp.ownBlock=some b->lv.ownBlock=some b\/W.heap.size<=b
theorem ju.added(h:ju W base mc lc mb lv acc){x:Nat}{rR ob2:Obj}{w5:World}{v5:Value}(hm:SZ (setBlock W mb rR) mb (acc++[x]).reverse)(ha:lj lv ((setBlock W mb rR).alloc ob2) w5 v5)(h5:bD w5 base v5 (acc++[x])) :
 w5.heap[lc]? = some (.cells #[lv] 88)/\ju (w5.setCell ⟨lc,0,none⟩ v5) base mc lc mb v5 (acc++[x])/\aF (fun b=>b=mb\/b=lc\/lv.ownBlock=some b) W (w5.setCell ⟨lc,0,none⟩ v5)/\∀b,v5.ownBlock=some b->lv.ownBlock=some b\/W.heap.size<=b:=by
 obtain⟨l1,l2,l3,l4⟩:=h.lt;obtain⟨hg,hv⟩:=ha;have hs:(setBlock W mb rR).heap.size=W.heap.size:=by grind [setBlock]
 have mo:aF (fun b=>b=mb\/b=lc\/lv.ownBlock=some b) W ((setBlock W mb rR).alloc ob2):=((aF.refl _ W).setBlock _ _ ae).alloc _;have oO:aF (fun b=>lv.ownBlock=some b) ((setBlock W mb rR).alloc ob2) w5:=⟨hg.os,hg.tape,hg.output,hg.size,fun k hk hn=>hg.block k hk (by grind)⟩;have hz:∀b,b<W.heap.size->b<((setBlock W mb rR).alloc ob2).heap.size:=fun b hb=>by simp;omega
 have hk:∀b,b<W.heap.size->b≠mb->lv.ownBlock≠some b->w5.heap[b]? = W.heap[b]? := fun b hb h1 h2=>by
  grind [aF.block,MapKept.heap_alloc,bh]
 have e5:=(hk lc l2 h.n3 (fun e=>(h.n4 lc e).2.1 rfl)).trans h.c2;have X5:∀b,v5.ownBlock=some b->lv.ownBlock=some b\/W.heap.size<=b:=(by grind);have hne:∀b,v5.ownBlock=some b->b≠mc/\b≠lc/\b≠mb:=fun b hb=>by
  grind [n4]
 have hmb:w5.heap[mb]? = (setBlock W mb rR).heap[mb]? := by
  grind [aF.block,n4,MapKept.heap_alloc]
 refine⟨e5,⟨?_,aT e5 0 v5,?_,?_,h.n1,h.n2,h.n3,hne⟩,(mo.trans oO (by grind)).setCell _ _ (by grind),X5⟩
 ·grind [Below.heap_setCell,n2,n4,c1]
 ·grind [bN.kept,Below.heap_setCell,n3]
 grind [bH,Below.heap_setCell]
theorem OL(h:ju W base mc lc mb lv acc)(x:Nat)(hx:x<4294967296)(hl:acc.length<=100000)(hbase:base<=W.heap.size) :
 Calls prog 145 #[.int .u32 (x:Int),.pointer (some ⟨mc,0,none⟩),.pointer (some ⟨lc,0,none⟩)] W (V1 W base mc lc mb lv acc x):=by
 obtain⟨la,lk,rfl⟩:=az h.row;have H:=aa h;have HG:=aa (fQ hx);have HZ:Hid (∀W,(zeroValue 3).run prog W=.ok (.int .i64 0) W):=(by simp_all);have c0:W.cell? ⟨mc,0,none⟩=some (.map (some mb)):=by rw[aq h.c1];rfl
 have c1:W.cell? ⟨lc,0,none⟩=some (.slice la acc.length lk):=by rw[aq h.c2];rfl
 have HL:=aa hl;have XB:=aa hbase;clear h hl hbase;by_cases mA:x∈acc
 ·have HM:Hid (aA (acc.reverse.map fun x=>(x,())) x=some ()):=aa (by grind [E4]);have HO:Hid (ix acc x=acc):=aa (if_pos mA);clear mA;go_enter func145,ntmps145;go_wp2_with (at_lookup;refine bW _ rfl _ _ _ _ rfl 3 b8 dr Tryz.underlying237 (HZ.o _) mb _ rfl H.o.mp x rfl HG.o ?_;rw[HM.o];simp only[Option.map_some,Option.getD_some,Bool.false_eq_true,if_false]);go_returns;exact⟨_,rfl,by grind [Hid.out],aF.refl _ _,fun b hb=>.inl hb⟩
 ·have HM:Hid (aA (acc.reverse.map fun x=>(x,())) x=none):=aa (by grind [E4]);have HO:Hid (ix acc x=acc++[x]):=aa (if_neg mA);have ny:Hid (aS (acc.reverse.map fun x=>(x,())) x ()=(acc++[x]).reverse.map fun x=>(x,())):=aa (by grind [EY]);clear mA;go_enter func145,ntmps145;go_wp2_with (first | (at_lookup;refine bW _ rfl _ _ _ _ rfl 3 b8 dr Tryz.underlying237 (HZ.o _) mb _ rfl H.o.mp x rfl HG.o ?_;rw[HM.o];simp only[Option.map_none,Option.getD_none,Bool.false_eq_true,if_false]) | (at_mapUpdate;refine eH _ rfl _ _ _ _ rfl 3 b8 dr Tryz.underlying237 mb _ rfl H.o.mp x () rfl rfl HG.o ?_;intro es clock cR;rw[ny.o]at cR;have eT:=aa cR;clear cR;have d1:(setBlock W mb (.map es clock)).cell? ⟨lc,0,none⟩=some (.slice la acc.length lk):=(by rw[World.cell?_of_block (a:=⟨lc,0,none⟩) (bh (w:=W) (b:=mb) (.map es clock) H.o.n3)];exact c1);have FZ:Hid (bD (setBlock W mb (.map es clock)) base (.slice la acc.length lk) acc):=aa (bH H.o.row (fun b hb=>bh _ (H.o.n4 b hb).2.2));have cX:Hid (base<=(setBlock W mb (.map es clock)).heap.size):=aa (by grind [setBlock,Hid.out])) | (at_builtin;refine nc rfl _ _ rfl base _ acc rfl FZ.o x 1 rfl HL.o cX.o ?_;intro v5 w5 h5 ha;obtain⟨e5,hst,yO,Ca⟩:=H.o.added eT.o ha h5;obtain⟨a5,k5,rfl⟩:=az h5;have HQ:=aa (show _/\_/\_ from⟨hst,yO,Ca⟩);have d5:w5.cell? ⟨lc,0,none⟩=some (.slice la acc.length lk):=(by rw[aq e5];rfl);have f5 :=fun k=>aO e5 k;clear hst yO Ca h5 ha e5));rw[show(acc++[x]).length=acc.length+1 by simp]at HQ;go_returns;exact⟨_,rfl,by grind [Hid.out],HQ.o.2.1,HQ.o.2.2⟩
theorem OM(acc:List Nat)(x y:Nat)(h:y∈ix acc x):y∈acc\/y=x:=by
 grind [ix]
theorem E5(acc:List Nat)(x:Nat):(ix acc x).length<=acc.length+1:=by
 grind [ix]
end
section
variable {w0 w w' W:World} {pb db n gb gen N ob ib vb rb:Nat} {o o':ar} {d d':Dsk} {L:aC} {es:List aH}
def AQ(n pb db:Nat)(w:World)(o:ar)(d:Dsk)(L:aC)(l:List Nat)(e:Ending)(w':World):Prop:=
 ∃v d' o',e=.returned (.tuple #[v,.int .i64 0])/\au (fun _=>False) n pb db w o d w' o' d' L/\bD w' w.heap.size v l/\∀x,v.ownBlock=some x->o' x=none
theorem Dw{l:List Nat}{acc:List Nat}{j x:Nat}(h:l[j]? = some x):(l.take (j+1)).foldl ix acc=ix ((l.take j).foldl ix acc) x:=by
 grind [List.take_succ_eq_append_getElem]
theorem nd{l:List Nat}{acc:List Nat}:(l.foldl ix acc).length<=acc.length+l.length:=by
 induction l generalizing acc with
 |nil=>simp
 |cons x l ih=>
   grind [E5]
theorem AR(es:List aH)(v:Nat):cT es v=((eW es v).map (·.t.toNat)).foldl ix (((aX es v).map (·.h.toNat)).foldl ix []):=by
 unfold cT SJ;rw[List.foldl_append];rfl
structure kO(n pb db:Nat)(w:World)(o:ar)(d:Dsk)(L:aC)(W0:World)(mc lc mb:Nat)(r1 r2:Value)(acc:List Nat)(W:World)(o':ar)(d':Dsk):Prop where
 mv:au (fun _=>False) n pb db w o d W o' d' L
 st:∃lv,ju W w.heap.size mc lc mb lv acc/\∀b,b=mc\/b=lc\/b=mb\/lv.ownBlock=some b->w.heap.size<=b/\o' b=none/\r1.ownBlock≠some b/\r2.ownBlock≠some b
 Ui:∀b,r1.ownBlock=some b\/r2.ownBlock=some b->W.heap[b]? = W0.heap[b]? /\ b<W.heap.size
variable {W0 W':World} {mc lc mb:Nat} {r1 r2:Value} {acc:List Nat}
theorem kO.below(h:kO n pb db w o d L W0 mc lc mb r1 r2 acc W o' d')(hb:Below W.heap.size W W'):kO n pb db w o d L W0 mc lc mb r1 r2 acc W' o' d':=by
 obtain⟨lv,h1,h2⟩:=h.st;exact⟨h.mv.below hb,⟨lv,h1.below hb,h2⟩,fun b hr=>⟨(hb.block b (h.Ui b hr).2).trans (h.Ui b hr).1,Nat.lt_of_lt_of_le (h.Ui b hr).2 hb.size⟩⟩
theorem kO.add(h:kO n pb db w o d L W0 mc lc mb r1 r2 acc W o' d')(x:Nat)(hx:x<4294967296)(hl:acc.length<=100000) :
 Calls prog 145 #[.int .u32 (x:Int),.pointer (some ⟨mc,0,none⟩),.pointer (some ⟨lc,0,none⟩)] W fun e W'=>e=.returned (.tuple #[])/\kO n pb db w o d L W0 mc lc mb r1 r2 (ix acc x) W' o' d':=by
 obtain⟨lv,h1,h2⟩:=h.st;refine(OL h1 x hx hl h.mv.size).mono ?_;rintro e W'⟨Jp,rfl,hst,yO,Ca⟩;have hB:∀b,(b=mb\/b=lc\/lv.ownBlock=some b)->(b=mc\/b=lc\/b=mb\/lv.ownBlock=some b):=(by grind);refine⟨rfl,h.mv.yU (by grind) yO,⟨Jp,hst,fun b e=>?_⟩,fun b hr=>⟨(yO.block b (h.Ui b hr).2 (fun e=>?_)).trans (h.Ui b hr).1,Nat.lt_of_lt_of_le (h.Ui b hr).2 yO.size⟩⟩
 ·rcases e with e | e | e | e
  ·grind
  ·grind
  ·grind
  ·rcases Ca b e with e | e
   ·grind
   ·exact⟨Nat.le_trans h.mv.size e,h.mv.aY.fresh e,fun e'=>by have:=(h.Ui b (.inl e')).2;omega,fun e'=>by have:=(h.Ui b (.inr e')).2;omega⟩
 grind
end
end
end Go.Proofs.YthkkgdpomhhjjaaGreatDoor
