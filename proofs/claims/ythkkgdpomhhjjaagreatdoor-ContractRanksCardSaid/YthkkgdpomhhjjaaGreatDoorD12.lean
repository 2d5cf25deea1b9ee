/-
  Joined.
-/
import Derived.Test.YthkkgdpomhhjjaaGreatDoorD11
import Derived.Shelf.SlSortCmp.WholeK
import Derived.Lib.ItoaMem
set_option maxRecDepth 100000
set_option maxHeartbeats 16000000
namespace Go.Proofs.YthkkgdpomhhjjaaGreatDoor
open Go.Proofs.Tryz
section
open Go.RowKit Go.Maps
section
variable {S:Nat->Prop} {w0 w w':World} {pb db n gb gen N ob ib vb:Nat} {o o':ar} {d d':Dsk} {L L':aD}
theorem cY.Lm(h:cY w o gb pb gen N ob ib vb)(hm:au S n pb db w o d w' o' d' L')(hs:∀x,x<w.heap.size->¬S x):cY w' o' gb pb gen N ob ib vb:=
 ⟨h.raw.moved hm h.VF (hs _ h.raw.lt),h.out.moved hm h.PW (hs _ h.out.lt),h.rE.moved hm h.Uk (hs _ h.rE.lt),h.qR.moved hm h.JJ (hs _ h.qR.lt),hm.free h.raw.lt h.VF,hm.free h.out.lt h.PW,hm.free h.rE.lt h.Uk,hm.free h.qR.lt h.JJ⟩
def Ln(x:aJ):Value:=.agg #[.int .u32 (x.t.toNat:Int),.int .u32 (x.h.toNat:Int),.int .u64 (x.x.toNat:Int),.int .u32 (x.m.toNat:Int)]
theorem Lr(HW:aP)(h:Held w0 w pb db n o d L)(hq:need L<=131072)(hg:cY w o gb pb gen N ob ib vb){es:List aJ}{fl:Bool}(hL:aB L (aG 101 gen)=some (aw es fl)) :
 Calls prog 27 #[ptrTo gb] w fun e w'=>∃d' o',e=.returned (.tuple #[.int .i64 (es.length:Int),.int .i64 0])/\au (fun _=>False) n pb db w o d w' o' d' L:=by
 refine(AQ HW h.aX hg hL).mono ?_;rintro e w'⟨c,d',o',⟨x,rfl,hx⟩,hm,he⟩;grind [Held.oH]
theorem OY(HW:aP)(h:Held w0 w pb db n o d L)(hq:need L<=131072)(hg:cY w o gb pb gen N ob ib vb){es:List aJ}{fl:Bool}(hL:aB L (aG 101 gen)=some (aw es fl)){i:Nat}{x:aJ}(hi:es[i]? = some x) :
 Calls prog 28 #[ptrTo gb,.int .i64 (i:Int)] w fun e w'=>∃d' o',e=.returned (.tuple #[Ln x,.int .i64 0])/\au (fun _=>False) n pb db w o d w' o' d' L:=by
 refine(Fb HW h.aX hg hL hi).mono ?_;rintro e w'⟨c,d',o',y,rfl,hm,he,hy,-⟩;have h0:c=0:=h.oH hm he hq;subst h0;rw[hy rfl];exact⟨d',o',rfl,hm⟩
def jx(n pb db:Nat)(w:World)(o:ar)(d:Dsk)(L:aD)(ts:List aJ)(e:Ending)(w':World):Prop:=
 ∃v d' o',e=.returned (.tuple #[v,.int .i64 0])/\au (fun _=>False) n pb db w o d w' o' d' L/\aI w' w.heap.size v ts/\∀x,v.ownBlock=some x->o' x=none
theorem IY(HW:aP)(h:Held w0 w pb db n o d L)(hq:need L<=131072)(hg:cY w o gb pb gen N ob ib vb){es:List aJ}(hL:aB L (aG 101 gen)=some (aw (aK false es) true))(hl:es.length<=1000){v:Nat}(hv:v<N)(hN:N<=1000) :
 Calls prog 21 #[ptrTo gb,.int .u32 (v:Int)] w (jx n pb db w o d L (Ip false v (aK false es))):=by
 refine(Ir HW h.aX hg hL (yj false es) (by grind [cd]) hv ae).mono ?_;rintro e w'⟨v',c,d',o',rfl,hm,he,hv',-⟩;have h0:c=0:=h.oH hm he hq;subst h0;obtain⟨h1,h2⟩:=hv' rfl;exact⟨v',d',o',rfl,hm,h1,h2⟩
theorem V0(HW:aP)(h:Held w0 w pb db n o d L)(hq:need L<=131072)(hg:cY w o gb pb gen N ob ib vb){es:List aJ}(hL:aB L (aG 114 gen)=some (aw (aK true es) true))(hl:es.length<=1000){v:Nat}(hv:v<N)(hN:N<=1000) :
 Calls prog 22 #[ptrTo gb,.int .u32 (v:Int)] w (jx n pb db w o d L (Ip true v (aK true es))):=by
 refine(K5 HW h.aX hg hL (yj true es) (by grind [cd]) hv ae).mono ?_;rintro e w'⟨v',c,d',o',rfl,hm,he,hv',-⟩;have h0:c=0:=h.oH hm he hq;subst h0;obtain⟨h1,h2⟩:=hv' rfl;exact⟨v',d',o',rfl,hm,h1,h2⟩
theorem DL(HW:aP)(h:Held w0 w pb db n o d L)(hq:need L<=131072){vs:List bW}{fl:Bool}(hg:cY w o gb pb gen vs.length ob ib vb)(hL:aB L (aG 118 gen)=some (b7 vs fl)){v:Nat}(hv:v<vs.length)(hv':v<4294967296) :
 Calls prog 23 #[ptrTo gb,.int .u32 (v:Int)] w fun e w'=>∃d' o',e=.returned (.tuple #[wH vs[v],.int .i64 0])/\au (fun _=>False) n pb db w o d w' o' d' L:=by
 refine(E5 HW h.aX hg hL rfl v hv hv').mono ?_;rintro e w'⟨c,d',o',rfl,hm,he⟩;grind [Held.oH]
end
def XV(l:List UInt8):Nat:=l.foldl (fun a b=>a*10+(b.toNat-48)) 0
theorem OZ(k:Nat):XV (Lib.decDigits k)=k:=by
 induction k using Nat.strongRecOn with
 |_ k ih=>
   have hd:∀j,j<10->(UInt8.ofNat (48+j)).toNat-48=j:=by decide
   grind [Lib.decDigits,XV]
theorem bm{c c':UInt8}{k k':Nat}(h:k≠k'):aG c k≠aG c' k':=by
 grind [aG,OZ]
end
section
open Go.RowKit Go.Maps
open Go.ChangeMaps (setBlock)
theorem mo{P:Program}{t:TypeId}{a b c}(h:P.underlying t=some (.func a b c))(f:Fn)(bs cs:Array Value)(w:World):(binOp .eql t (.func f bs cs) .nilFunc).run P w=.ok (.bool false) w:=by
 have e:(Op.equalIn (9999+1) t (.func f bs cs) .nilFunc).run P w=.ok false w:=by
  unfold Op.equalIn;simp[run_underlying h,Result.andThen]
 have e2:(Op.equal t (.func f bs cs) .nilFunc).run P w=.ok false w:=e;unfold binOp;simp_all
theorem bO.len{κ υ:Type}{P:Program}{kt t e:TypeId}{ek:κ->Value}{ev:υ->Value}{w:World}{b:Nat}{m:List (κ×υ)}(h:bO P kt ek ev w b m)(ht:P.underlying t=some (.map kt e))(ty:TypeId):(Builtin.len_ #[t] ty #[.map (some b)]).run P w=.ok (.int .i64 (m.length:Int)) w:=by
 obtain⟨es,clock,l,hb,hp,-,hl,-⟩:=h;have e1:es.size=m.length:=by
  have:=congrArg List.length hl;grind [List.Perm.length_eq]
 rw[<- e1];simp[Builtin.len_,run_underlying ht,MapKept.run_getObj_map hb,goInt,Result.andThen]
theorem CK{κ υ:Type}{P:Program}{kt t e:TypeId}{ek:κ->Value}{ev:υ->Value}(w:World){ops:Array Oper}{rest:List Oper}{o:Oper}{a:Act}{Q:Exit->Act->World->Prop}(hg:o.guard=none)(x:Operand)(hop:o.op=Op.call { callee:=Callee.builtin Builtin.len,args:=#[x],argTypes:=#[t] })(ht:P.underlying t=some (.map kt e))(b:Nat)(m:List (κ×υ))(hx:a.eval x=.map (some b))(h:bO P kt ek ev w b m)(hK:wpList P ops Q rest (a.put o.dst (.int .i64 (m.length:Int))) w):wpList P ops Q (o::rest) a w:=by
 refine wpList_plain hg fun K' hK'=>?_;have hrun:=h.len ht o.type;unfold Oper.wp execOp;simp only[hop,resolve,invoke,builtin,Sem.run_bind,Sem.run_pure,Result.andThen_ok,List.map_toArray,List.map_cons,List.map_nil,hx,hrun];exact hK' _ _ hK
abbrev jy(w:World)(b:Nat)(S:List Nat):Prop:=bO prog 26 iX (fun _:Unit=>Value.agg #[]) w b (S.map fun x=>(x,()))
theorem nO{P:Program}{kt t e:TypeId}{ek:Nat->Value}{ev:Unit->Value}(w:World){ops:Array Oper}{rest:List Oper}{o:Oper}{a:Act}{Q:Exit->Act->World->Prop}(hg:o.guard=none)(x:Operand)(hop:o.op=Op.call { callee:=Callee.builtin Builtin.len,args:=#[x],argTypes:=#[t] })(ht:P.underlying t=some (.map kt e))(b:Nat)(St:List Nat)(hx:a.eval x=.map (some b))(h:bO P kt ek ev w b (St.map fun x=>(x,())))(hK:wpList P ops Q rest (a.put o.dst (.int .i64 (St.length:Int))) w):wpList P ops Q (o::rest) a w:=
 CK w hg x hop ht b _ hx h (by rw[List.length_map];exact hK)
theorem rI(S:List Nat)(x:Nat):p7 (S.map fun x=>(x,())) x=decide (x∈S):=by
 grind [p7,aB]
theorem Fh{S:List Nat}{x:Nat}(h:x ∉ S):aS (S.map fun x=>(x,())) x ()=(x::S).map fun x=>(x,()):=by
 grind [aS,nW]
section
variable {S:Nat->Prop} {n pb db:Nat} {w w' w'':World} {o o' gP:ar} {d d' gB:Dsk} {L L' xQ:aD}
theorem au.zf(h:au S n pb db w o d w' o' d' L'){B:Nat->Prop}(hB:∀b,b<w'.heap.size->B b->o' b=none/\(S b\/w.heap.size<=b))(ht:aH B w' w''):au S n pb db w o d w'' o' d' L':=by
 have ht':aH (fun b=>b<w'.heap.size/\B b) w' w'':=ht.mono (fun x hx hb=>⟨hx,hb⟩);refine⟨h.aX.kept ht' (fun x hx e=>ar.dI (hB x e.1 e.2).1 hx) (fun _ _ h=>h) (fun x t hx=>Nat.lt_of_lt_of_le (h.aX.owned x t hx) ht.size),h.turn.trans ht (fun x hx e=>?_),h.grow,h.on⟩;grind [Nat.lt_of_lt_of_le,size]
structure vw(n pb db:Nat)(w:World)(o:ar)(d:Dsk)(L:aD)(N:Nat)(X:Nat->Prop)(fb sb:Nat)(St:List Nat)(m:za)(c:Nat)(W:World)(o':ar)(d':Dsk):Prop where
 fr:∃B,eo W fb B m c/\∀b,B b->w.heap.size<=b/\b<W.heap.size/\o' b=none/\b≠sb/\¬X b
 st:jy W sb St
 sg:w.heap.size<=sb/\o' sb=none
 mv:au (fun _=>False) n pb db w o d W o' d' L
 gd:∀p∈m,p.1<N/\p.2<9223372036854775808/\p.1 ∉ St
variable {N fb sb c:Nat} {X:Nat->Prop} {St:List Nat} {m m':za} {W W':World} {B:Nat->Prop}
theorem eo.more(f:eo W fb B m c){c':Nat}(h:c<=c'):eo W fb B m c':=by
 obtain⟨hb,mb,v,h',f,hw,hc,r⟩:=f;exact⟨hb,mb,v,h',f,hw,Nat.le_trans hc h,r⟩
theorem eo.keys(f:eo W fb B m c):(m.map (·.1)).Nodup:=by
 obtain⟨hb,mb,v,h',f,_⟩:=f;exact f.far.keys
theorem vw.below(h:vw n pb db w o d L N X fb sb St m c W o' d')(hb:Below W.heap.size W W'):vw n pb db w o d L N X fb sb St m c W' o' d':=by
 obtain⟨B,h1,h2⟩:=h.fr;exact⟨⟨B,h1.kept (fun b hb'=>hb.block b (h2 b hb').2.1),fun b hb'=>⟨(h2 b hb').1,Nat.lt_of_lt_of_le (h2 b hb').2.1 hb.size,(h2 b hb').2.2⟩⟩,h.st.kept (hb.block _ h.st.lt),h.sg,h.mv.below hb,h.gd⟩
theorem vw.moved(h:vw n pb db w o d L N X fb sb St m c W o' d')(hm:au (fun _=>False) n pb db W o' d' w' gP gB L):vw n pb db w o d L N X fb sb St m c w' gP gB:=by
 obtain⟨B,h1,h2⟩:=h.fr;refine⟨⟨B,h1.kept (fun b hb'=>hm.block (h2 b hb').2.1 (h2 b hb').2.2.1 (fun e=>e)),fun b hb'=>⟨(h2 b hb').1,Nat.lt_of_lt_of_le (h2 b hb').2.1 hm.size,hm.free (h2 b hb').2.1 (h2 b hb').2.2.1,(h2 b hb').2.2.2⟩⟩,h.st.kept (hm.block h.st.lt h.sg.2 (fun e=>e)),⟨h.sg.1,hm.free h.st.lt h.sg.2⟩,h.mv.trans hm (fun _ _ e=>e),h.gd⟩
theorem vw.turned(h:vw n pb db w o d L N X fb sb St m c W o' d'){B B':Nat->Prop}{c':Nat}(hB:∀b,B b->w.heap.size<=b/\b<W.heap.size/\o' b=none/\b≠sb/\¬X b)(ht:aH B W W')(hf:eo W' fb B' m' c')(Uu:∀b,B' b->B b\/W.heap.size<=b/\b<W'.heap.size)(hX:∀b,X b->b<W.heap.size)(hg:∀p∈m',p.1<N/\p.2<9223372036854775808/\p.1 ∉ St):vw n pb db w o d L N X fb sb St m' c' W' o' d'/\∀b,X b->W'.heap[b]? = W.heap[b]? := by
 refine⟨⟨⟨B',hf,fun b hb=>?_⟩,h.st.kept (ht.block _ h.st.lt (fun e=>(hB _ e).2.2.2.1 rfl)),h.sg,h.mv.zf (fun b _ hb=>⟨(hB b hb).2.2.1,.inr (hB b hb).1⟩) ht,hg⟩,fun b hb=>ht.block b (hX b hb) (fun e=>(hB b e).2.2.2.2 hb)⟩;rcases Uu b hb with e | e
 ·grind [Nat.lt_of_lt_of_le,aH.size]
 ·exact⟨Nat.le_trans h.mv.size e.1,e.2,h.mv.aX.fresh e.1,fun e'=>by have:=h.st.lt;omega,fun hx=>by grind⟩
theorem vw.settled(h:vw n pb db w o d L N X fb sb St m c W o' d'){v:Nat}(hv:v ∉ St){es:Array MapEntry}{clock:Nat}(hm:bO prog 26 iX (fun _:Unit=>Value.agg #[]) (setBlock W sb (.map es clock)) sb (aS (St.map fun x=>(x,())) v ()))(hg:∀p∈m,p.1≠v) :
 vw n pb db w o d L N X fb sb (v::St) m c (setBlock W sb (.map es clock)) o' d':=by
 obtain⟨B,h1,h2⟩:=h.fr;have hs:(setBlock W sb (.map es clock)).heap.size=W.heap.size:=by grind [setBlock]
 refine⟨⟨B,h1.kept (fun b hb=>bg _ (h2 b hb).2.2.2.1),fun b hb=>⟨(h2 b hb).1,by grind,(h2 b hb).2.2⟩⟩,by grind [Fh],h.sg,h.mv.turned h.sg.2 (.inr h.sg.1) ((aH.refl _ W).setBlock _ _ (.inl rfl)),fun p hp=>⟨(h.gd p hp).1,(h.gd p hp).2.1,fun e=>?_⟩⟩;rcases List.mem_cons.1 e with e | e
 ·grind
 ·exact(h.gd p hp).2.2 e
theorem vw.wider(h:vw n pb db w o d L N X fb sb St m c W o' d'){X':Nat->Prop}(hX:∀b,X' b->b<W.heap.size->X b){c':Nat}(hc:c<=c'):vw n pb db w o d L N X' fb sb St m c' W o' d':=by
 obtain⟨B,h1,h2⟩:=h.fr;exact⟨⟨B,h1.more hc,fun b hb=>⟨(h2 b hb).1,(h2 b hb).2.1,(h2 b hb).2.2.1,(h2 b hb).2.2.2.1,fun e=>(h2 b hb).2.2.2.2 (hX b e (h2 b hb).2.1)⟩⟩,h.st,h.sg,h.mv,h.gd⟩
theorem vw.fresh(h:vw n pb db w o d L N X fb sb St m c W o' d'):vw n pb db w o d L N (fun b=>W.heap.size<=b) fb sb St m c W o' d':=by
 obtain⟨B,h1,h2⟩:=h.fr;exact⟨⟨B,h1,fun b hb=>⟨(h2 b hb).1,(h2 b hb).2.1,(h2 b hb).2.2.1,(h2 b hb).2.2.2.1,fun e=>by grind⟩⟩,h.st,h.sg,h.mv,h.gd⟩
theorem uN(l:List (Nat×Unit))(x:Nat):((aB l x).map (fun _:Unit=>Value.agg #[])).getD (Value.agg #[])=Value.agg #[]:=by
 cases aB l x<;>rfl
theorem nd{A:Nat->Bool}{St:List Nat}{ID:Nat}{m:za}{ts:List aJ}{j:Nat}{x:aJ}(h:ts[j]? = some x) :
 kQ A St ID m (ts.take (j+1))=if ID+x.x.toNat<9223372036854775808/\x.h.toNat ∉ St/\A x.h.toNat=false then qV (kQ A St ID m (ts.take j)) x.h.toNat (ID+x.x.toNat) else kQ A St ID m (ts.take j):=by
 grind [List.take_succ_eq_append_getElem,kQ]
theorem O0{m:za}{v d:Nat}{p:Nat×Nat}(h:p∈qV m v d):p∈m\/p=(v,d):=by
 grind [aS,gu,qV]
end
end
section
open Go.RowKit Go.Maps
open Go.ChangeMaps (setBlock)
def oM(n pb db:Nat)(w:World)(o:ar)(d:Dsk)(L:aD)(r:Bool)(e:Ending)(w':World):Prop:=
 ∃d' o',e=.returned (.tuple #[.bool r,.int .i64 0])/\au (fun _=>False) n pb db w o d w' o' d' L
def IZ:Option Obj->Nat
 |some (.map es _)=>es.size
 |_=>0
theorem jy.IZ{W:World}{sb:Nat}{St:List Nat}(h:jy W sb St):IZ W.heap[sb]? = St.length:=by
 obtain⟨es,clock,l,hb,hp,-,hl,-⟩:=h;rw[hb];have:=congrArg List.length hl;simp at this;show es.size=_;rw[this,hp.length_eq];simp
theorem DM(w:World):(zeroValue 245).run prog w=.ok (.agg #[]) w:=Tryz.zeroValue245 w
structure th(w0 w:World)(pb db n:Nat)(o:ar)(d:Dsk)(L:aD)(gb gen N ob ib vb:Nat)(es:List aJ)(A:Nat->Bool)(sv av:Nat)(K:Nat->Prop):Prop where
 held:Held w0 w pb db n o d L
 need:need L<=131072
 gr:cY w o gb pb gen N ob ib vb
 file:aB L (aG 101 gen)=some (aw (aK false es) true)
 len:es.length<=1000
 top:N<=1000
 ends:∀x∈es,x.t.toNat<N/\x.h.toNat<N
 pM:∀b,K b->b<w.heap.size/\o b=none
 aeA:∀W(x:Nat),(∀b,K b->W.heap[b]? = w.heap[b]?)->w.heap.size<=W.heap.size->x<4294967296->Calls prog 200 #[.int .u32 (x:Int),.pointer (some ⟨sv,0,none⟩),.pointer (some ⟨av,0,none⟩)] W fun e W'=>e=.returned (.bool (A x))/\Below W.heap.size W W'
section
variable {w0 w w':World} {pb db n gb gen N ob ib vb sv av:Nat} {o o':ar} {d d':Dsk} {L:aD} {es:List aJ} {A:Nat->Bool} {K:Nat->Prop}
theorem th.moved(h:th w0 w pb db n o d L gb gen N ob ib vb es A sv av K)(hm:au (fun _=>False) n pb db w o d w' o' d' L):th w0 w' pb db n o' d' L gb gen N ob ib vb es A sv av K:=
 ⟨h.held.moved hm (fun _ e=>e.elim),h.need,h.gr.Lm hm (fun _ _ e=>e),h.file,h.len,h.top,h.ends,fun b hb=>⟨Nat.lt_of_lt_of_le (h.pM b hb).1 hm.size,hm.free (h.pM b hb).1 (h.pM b hb).2⟩,
  fun W x hk hs hx=>h.aeA W x (fun b hb=>(hk b hb).trans (hm.block (h.pM b hb).1 (h.pM b hb).2 (fun e=>e))) (Nat.le_trans hm.size hs) hx⟩
theorem th.out(HW:aP)(h:th w0 w pb db n o d L gb gen N ob ib vb es A sv av K){v:Nat}(hv:v<N):Calls prog 21 #[ptrTo gb,.int .u32 (v:Int)] w (jx n pb db w o d L (aY es v)):=
 IY HW h.held h.need h.gr h.file h.len hv h.top
theorem A9{es:List aJ}{v:Nat}{x:aJ}(h:x∈aY es v):x∈es/\x.t.toNat=v:=
 ⟨((bU false es).mem x (ze h).1).1,(ze h).2⟩
theorem nh(es:List aJ)(v:Nat):(aY es v).length<=es.length:=by
 have:=cd false es;exact Nat.le_trans (List.length_filter_le _ _) this
theorem I0(HW:aP)(h:th w0 w pb db n o d L gb gen N ob ib vb es A sv av K)(u t most:Nat)(hu:u<N) :
 Calls prog 202 #[.func (.func 21) #[ptrTo gb] #[],.func (.func 200) #[] #[.pointer (some ⟨sv,0,none⟩),.pointer (some ⟨av,0,none⟩)],.int .u32 (u:Int),.int .u32 (t:Int),.int .u64 (most:Int)] w (oM n pb db w o d L (mZ (aY es) A t most 16 [(u,0)] [])):=by
 have H:=aa h;have HN:Hid (N<=1000):=aa h.top;have ZH:Hid (∀W o' d',au (fun _=>False) n pb db w o d W o' d' L->∀v,v<N->Calls prog 21 #[ptrTo gb,.int .u32 (v:Int)] W (jx n pb db W o' d' L (aY es v))):=aa (fun W o' d' hm v hv=>(H.o.moved hm).out HW hv);clear h;obtain⟨R,HR⟩:∃R,Hid (mZ (aY es) A t most 16 [(u,0)] []=R):=⟨_,aa rfl⟩;rw[HR.out];unfold ptrTo at *;have BF:=mo Tryz.underlying53 (.func 21) #[.pointer (some ⟨gb,0,none⟩)] #[];have Uh:=mo Tryz.underlying234 (.func 200) #[] #[.pointer (some ⟨sv,0,none⟩),.pointer (some ⟨av,0,none⟩)];have vL:∀(t:TypeId)(W:World),(Instr.makeMap t none).run prog W=.ok (.map (some W.heap.size)) (W.alloc (.map #[] 0)):=fun _ _=>rfl;have HZU:=aa DM;go_enter func202,ntmps202;go_wp2_with fail;clear BF Uh;refine(IB w).mono ?_;rintro e w1⟨rfl,zE,hb1,hs1⟩;obtain⟨B4,oZ,HF4⟩:∃B:Nat->Prop,Hid (∀b,B b->w.heap.size<=b/\b<w1.heap.size+2)/\Hid (eo ((w1.alloc (.map #[] 0)).alloc (.cells #[.pointer (some ⟨w.heap.size,0,none⟩),.map (some w1.heap.size)] 325)) (w1.heap.size+1) B [] 0):=by
  refine⟨fun b=>b=w.heap.size\/b=w1.heap.size\/b=w1.heap.size+1,aa (fun b hb=>by omega),aa ⟨w.heap.size,w1.heap.size,.slice none 0 0,[],⟨?_,?_,fun j h1 h2=>by grind,?_,ae,ae,ae,by simp[Value.ownBlock],by simp[Value.ownBlock]⟩,⟨fun v d e=>(by cases e),fun y hy=>(by cases hy)⟩,Nat.le_refl _,.inr (.inr rfl),.inl rfl,.inr (.inl rfl),fun b e=>(by cases e)⟩⟩
  ·grind [World.alloc,ptrTo]
  ·exact zE.below (ai.alloc ah _)
  ·exact(bO.made w1 prog 26 iX aeo).kept ((MapKept.heap_alloc _ _).2 _ ah)
 have aak:Hid (Below w.heap.size w ((w1.alloc (.map #[] 0)).alloc (.cells #[.pointer (some ⟨w.heap.size,0,none⟩),.map (some w1.heap.size)] 325))):=aa ((hb1.alloc hb1.size _).alloc (by simp;omega) _);have gq:Hid (((w1.alloc (.map #[] 0)).alloc (.cells #[.pointer (some ⟨w.heap.size,0,none⟩),.map (some w1.heap.size)] 325)).heap.size=w1.heap.size+2):=aa ah;have hcm:=aa (IG HF4.out ae u 0 (by grind [Hid.out]));clear zE hb1 hs1;unfold ptrTo at *;go_wp2_with fail;refine hcm.o.mono ?_;rintro e w5⟨rfl,hf5,rO⟩;obtain⟨sb,vr⟩:∃sb,sb=w5.heap.size:=⟨_,rfl⟩;obtain⟨fb,YP⟩:∃fb,fb=w1.heap.size+1:=⟨_,rfl⟩;have EU:Hid (vw n pb db w o d L N (fun _=>False) fb sb [] [(u,0)] 1 (w5.alloc (.map #[] 0)) o d):=aa (by
  subst vr YP;have MX:=H.o.held.aX;have hsz:=gq.o;have uY:=aak.o.size;have T3:=rO.size;refine⟨⟨_,hf5.kept (fun b hb=>(MapKept.heap_alloc _ _).2 b ?_),fun b hb=>?_⟩,bO.made w5 prog 26 iX (fun _:Unit=>Value.agg #[]),⟨ae,MX.fresh ae⟩,((au.aW MX aak.o).zf (fun b _ hb=>⟨MX.fresh (oZ.out b hb).1,.inr (oZ.out b hb).1⟩) rO).alloc _,fun p hp=>?_⟩
  ·grind [Hid.out]
  ·have h1:w.heap.size<=b/\b<w5.heap.size:=by
    grind [Hid.out]
   exact⟨h1.1,by simp;omega,MX.fresh h1.1,ae,fun e=>e⟩
  grind)
 have HSB:Hid (sb<(w5.alloc (.map #[] 0)).heap.size):=aa (by simp_all);clear hcm HF4 oZ aak gq hf5 rO;go_wp2_with fail;rw[<- vr];try rw[<- YP]
 clear vr YP;generalize w5.alloc (.map #[] 0)=W6 at *;go_loopw [] (fun wr=>∃St m c d' o',Hid (vw n pb db w o d L N (fun _=>False) fb sb St m c wr o' d')/\Hid (c<=1+St.length*1000/\St.length<=16)/\Hid (mZ (aY es) A t most (16-St.length) m St=R)) (fun wr=>16-IZ wr.heap[sb]?)
 case atStart=>grind [aa]
 case round=>
  obtain⟨St,m,c,d2,o2,HS,HC,PN⟩:=hrel;clear EU;generalize wr=Wr at *;obtain⟨B,hF,hB⟩:=HS.out.fr;have HK:=aa hF.keys;have hle:=aa (OS hF (by grind [Hid.out]));have Ad:=aa hB;clear hF hB;unfold ptrTo wW at hle;go_wp2_with fail;refine hle.o.mono ?_;rintro e w2 (⟨hn,rfl,ht⟩|⟨v,dd,hn,rfl,hF2,ht⟩)
  ·have HQ:Hid (oM n pb db w o d L R (.returned (.tuple #[.bool false,.int .i64 0])) w2):=aa ⟨d2,o2,by
    rw[<- PN.out];cases 16-St.length with
    |zero=>rfl
    |succ k=>rw[mZ,hn],HS.out.mv.zf (fun b _ hb=>⟨(Ad.o b hb).2.2.1,.inr (Ad.o b hb).1⟩) ht⟩
   clear hle;go_wp2;go_returns;exact HQ.o
  ·have mA:=(AZ hn).1;have hgd:=HS.out.gd _ mA;have eR:Hid (vw n pb db w o d L N (fun _=>False) fb sb St (b8 m v) c w2 o2 d2):=aa (HS.out.turned Ad.o ht hF2 (fun b hb=>.inl hb) (fun b hb=>hb.elim) (fun p hp=>HS.out.gd p (gu.1 hp).1)).1;have HV:Hid (v<N/\dd<9223372036854775808/\v ∉ St):=aa hgd;have XR:Hid (IZ Wr.heap[sb]? = St.length):=aa HS.out.st.IZ;have XW:Hid (R=if St.length=16 then false else if most<dd then false else if v=t then true else mZ (aY es) A t most (16-(St.length+1)) (kQ A (v::St) dd (b8 m v) (aY es v)) (v::St)):=aa (by
    rw[<- PN.out];by_cases h16:St.length=16
    ·rw[if_pos h16,h16];rfl
    ·rw[if_neg h16,show 16-St.length=(16-(St.length+1))+1 by have:=HC.out;omega,mZ,hn])
   clear hle mA hgd hn hF2 ht HS Ad HK;by_cases jg:most<dd
   ·have hmz:(dd:Int)>(most:Int):=by omega
    have HQ:Hid (oM n pb db w o d L R (.returned (.tuple #[.bool false,.int .i64 0])) w2):=aa ⟨d2,o2,by rw[XW.o];simp_all,eR.o.mv⟩;go_wp2;go_returns;exact HQ.o
   ·have hmz:¬(dd:Int)>(most:Int):=by omega
    by_cases h16:St.length=16
    ·have hsz:(St.length:Int)=16:=by omega
     have HQ:Hid (oM n pb db w o d L R (.returned (.tuple #[.bool false,.int .i64 0])) w2):=aa ⟨d2,o2,by rw[XW.o,if_pos h16],eR.o.mv⟩;go_wp2_with (refine nO _ rfl _ rfl Tryz.underlying243 sb St rfl eR.o.st ?_);go_returns;exact HQ.o
    ·have hsz:¬(St.length:Int)=16:=by omega
     by_cases hvt:v=t
     ·have HQ:Hid (oM n pb db w o d L R (.returned (.tuple #[.bool true,.int .i64 0])) w2):=aa ⟨d2,o2,by rw[XW.o,if_neg h16,if_neg jg,if_pos hvt],eR.o.mv⟩;have hvz:(v:Int)=(t:Int):=by omega
      go_wp2_with (refine nO _ rfl _ rfl Tryz.underlying243 sb St rfl eR.o.st ?_);go_returns;exact HQ.o
     ·have hvz:¬(v:Int)=(t:Int):=by omega
      have Ba:Hid (mZ (aY es) A t most (16-(St.length+1)) (kQ A (v::St) dd (b8 m v) (aY es v)) (v::St)=R):=aa (by rw[XW.o,if_neg h16,if_neg jg,if_neg hvt]);have hout:=aa (ZH.o w2 o2 d2 eR.o.mv v HV.o.1);have H16:Hid (St.length<16):=aa (by have:=HC.out;omega);have HG:=aa (fQ (k:=v) (by have:=HN.o;have:=HV.o;omega));clear XW;unfold jx at hout;go_wp2_with (refine nO _ rfl _ rfl Tryz.underlying243 sb St rfl eR.o.st ?_);refine hout.o.mono ?_;rintro e w3⟨ev,d3,o3,rfl,ej,hown,fO⟩;obtain⟨ea,ec,rfl⟩:=az hown;have fB:Hid (vw n pb db w o d L N (fun b=>(Value.slice ea (aY es v).length ec).ownBlock=some b) fb sb St (b8 m v) c w3 o3 d3):=aa ((eR.o.fresh.moved ej).wider (fun b hb _=>(aL hown b hb).2) (Nat.le_refl _));have OX:=aa hown;have sX:Hid (∀b,(Value.slice ea (aY es v).length ec).ownBlock=some b->b≠sb):=aa (fun b hb=>by
       have h1:=aL hown b hb;have h2:=eR.o.st.lt;omega)
      clear ej hown fO hout eR hmz hsz hvz;obtain⟨M,hM⟩:∃M,M=(aY es v).length:=⟨_,rfl⟩;rw[<- hM]at fB OX sX ⊢;have HM:Hid (M=(aY es v).length/\M<=1000):=aa ⟨hM,by rw[hM];exact Nat.le_trans (nh es v) H.o.len⟩;clear hM;go_wp2_with (at_mapUpdate;refine eO _ rfl _ _ _ _ rfl 245 ck dv Tryz.underlying243 sb _ rfl fB.o.st v () rfl rfl HG.o ?_;intro es4 S3 eG;have gp:=aa eG;clear eG);have gq:=aa (fB.o.settled HV.o.2.2 gp.o (fun p hp=>(gu.1 hp).2));have SY:Hid (aI (setBlock w3 sb (.map es4 S3)) w2.heap.size (.slice ea M ec) (aY es v)):=aa (bI OX.o (fun b hb=>bg _ (sX.o b hb)));clear gp fB OX sX HG;generalize setBlock w3 sb (.map es4 S3)=W4 at *;go_loopw [72] (fun vi wr=>∃(j:Nat)(m':za),vi=.int .i64 (j:Int)/\j<=M/\Hid (vw n pb db w o d L N (fun b=>(Value.slice ea M ec).ownBlock=some b) fb sb (v::St) m' (c+j) wr o3 d3)/\Hid (m'=kQ A (v::St) dd (b8 m v) ((aY es v).take j))/\Hid (aI wr w2.heap.size (.slice ea M ec) (aY es v))) (fun vi _=>M-(intOf vi).toNat)
      case atStart=>exact⟨0,b8 m v,rfl,Nat.zero_le _,gq,aa rfl,SY⟩
      case round=>
       obtain⟨j,m',rfl,hj,b9,lF,V1⟩:=hrel;clear gq SY;generalize wr=Wq at *;by_cases hlt:j<M
       ·have JF:(j:Int)<(M:Int):=by omega
        have wj:IntKind.i64.wrap ((j:Int)+1)=((j+1:Nat):Int):=by grind [Hid.out,ax]
        obtain⟨x,hx⟩:∃x,(aY es v)[j]? = some x:=⟨_,List.getElem?_eq_getElem (by grind [Hid.out])⟩;have HX:=aa hx;have HXN:Hid (x.h.toNat<N/\x.h.toNat<4294967296):=aa ⟨(H.o.ends x (A9 (List.mem_of_getElem? hx)).1).2,x.h.toNat_lt⟩;obtain⟨g,rfl⟩:∃g,ea=some ⟨g,0,none⟩:=by
         obtain⟨-,⟨h1,h2⟩|⟨g,_,_,h1,_⟩⟩:=V1.out
         ·grind
         grind
        have aeB:Hid (aI Wq w2.heap.size (.slice (some ⟨g,0,none⟩) (aY es v).length ec) (aY es v)):=aa (by grind [Hid.out]);obtain⟨q0,q1,q2,q3⟩:=bL aeB.o hx;have HGX:=aa (fQ HXN.o.2);have gA:=aa (b9.out.below (aj.alloc (Nat.le_refl _) (.cells #[.int .u32 (x.t.toNat:Int),.int .u32 (x.h.toNat:Int),.int .u64 (x.x.toNat:Int),.int .u32 (x.m.toNat:Int)] 64)));have V2:Hid (aI (Wq.alloc (.cells #[.int .u32 (x.t.toNat:Int),.int .u32 (x.h.toNat:Int),.int .u64 (x.x.toNat:Int),.int .u32 (x.m.toNat:Int)] 64)) w2.heap.size (.slice (some ⟨g,0,none⟩) M ec) (aY es v)):=aa (aV V1.out ai);have YD:Hid ((Wq.alloc (.cells #[.int .u32 (x.t.toNat:Int),.int .u32 (x.h.toNat:Int),.int .u64 (x.x.toNat:Int),.int .u32 (x.m.toNat:Int)] 64)).heap[Wq.heap.size]? = some (.cells #[.int .u32 (x.t.toNat:Int),.int .u32 (x.h.toNat:Int),.int .u64 (x.x.toNat:Int),.int .u32 (x.m.toNat:Int)] 64)):=aa (heap_alloc_new _ _);have lf:=aa (II dd x.x.toNat (by grind [Hid.out]) x.x.toNat_lt (Wq.alloc (.cells #[.int .u32 (x.t.toNat:Int),.int .u32 (x.h.toNat:Int),.int .u64 (x.x.toNat:Int),.int .u32 (x.m.toNat:Int)] 64)));clear hx aeB;go_wp2_with fail;refine lf.o.mono ?_;rintro e w7⟨rfl,rfl⟩;clear q0 q1 q2 q3 lf;generalize FX:Wq.heap.size=xb at *;generalize Wq.alloc (.cells #[.int .u32 (x.t.toNat:Int),.int .u32 (x.h.toNat:Int),.int .u64 (x.x.toNat:Int),.int .u32 (x.m.toNat:Int)] 64)=W6 at *;clear FX b9 V1;have k1:W6.cell? ⟨xb,1,none⟩=some (.int .u32 (x.h.toNat:Int)):=by rw[aq YD.o];rfl
        have k2:=(Array.getElem?_eq_some_iff.1 YD.o).1;by_cases il:dd+x.x.toNat<9223372036854775808
        ·have S4:Lf dd x.x.toNat=.tuple #[.int .u64 ((dd+x.x.toNat:Nat):Int),.bool true]:=if_pos il;rw[S4];obtain⟨s,hs⟩:∃s,s=dd+x.x.toNat:=⟨_,rfl⟩;rw[<- hs]at il ⊢;have V3:=aa hs;have UN:=aa il;clear S4 hs il;by_cases Uo:x.h.toNat∈v::St
         ·have S5:Hid (decide (x.h.toNat∈v::St)=true):=aa (decide_eq_true Uo);have NZ:=aa Uo;clear Uo;have jU:Hid (vw n pb db w o d L N (fun b=>(Value.slice (some ⟨g,0,none⟩) M ec).ownBlock=some b) fb sb (v::St) m' (c+(j+1)) (W6.alloc (.cells #[] 245)) o3 d3):=aa ((gA.o.below ai).wider (fun _ e _=>e) ae);have aam:Hid (aI (W6.alloc (.cells #[] 245)) w2.heap.size (.slice (some ⟨g,0,none⟩) M ec) (aY es v)):=aa (aV V2.o ai);have BK:Hid (m'=kQ A (v::St) dd (b8 m v) ((aY es v).take (j+1))):=aa (by rw[nd HX.o,if_neg (fun e=>e.2.1 NZ.o)];assumption);go_wp2_with (at_lookup;refine bY _ rfl _ _ _ _ rfl 245 ck dv Tryz.underlying243 (HZU.o _) sb _ rfl gA.o.st x.h.toNat rfl HGX.o ?_;rw[uN,rI];try rw[S5.o]);go_roundw
          case rel=>exact⟨j+1,m',by go_num,ae,jU,BK,aam⟩
          grind [intOf]
         ·have S5:Hid (decide (x.h.toNat∈v::St)=false):=aa (decide_eq_false Uo);have NZ:=aa Uo;clear Uo;have rQ:Hid (Below W6.heap.size W6 (W6.alloc (.cells #[] 245))):=aa ai;have jU:=aa (gA.o.below rQ.o);have hsh:=aa (H.o.aeA _ x.h.toNat (fun b hb=>jU.o.mv.block (H.o.pM b hb).1 (H.o.pM b hb).2 (fun e=>e)) jU.o.mv.size HXN.o.2);go_wp2_with (at_lookup;refine bY _ rfl _ _ _ _ rfl 245 ck dv Tryz.underlying243 (HZU.o _) sb _ rfl gA.o.st x.h.toNat rfl HGX.o ?_;rw[uN,rI];try rw[S5.o]);refine hsh.o.mono ?_;rintro e w8⟨rfl,PB⟩;have jG:=aa (jU.o.below PB);have V4:=aa (aV (aV V2.o rQ.o) PB);have k3:w8.cell? ⟨xb,1,none⟩=some (.int .u32 (x.h.toNat:Int)):=AW PB (AW rQ.o k1);clear hsh PB jU V2 k1 k2;by_cases hA:A x.h.toNat=true
          ·rw[hA];have rY:Hid (m'=kQ A (v::St) dd (b8 m v) ((aY es v).take (j+1))):=aa (by rw[nd HX.o,if_neg (fun e=>by simp_all)];assumption);have qg:Hid (vw n pb db w o d L N (fun b=>(Value.slice (some ⟨g,0,none⟩) M ec).ownBlock=some b) fb sb (v::St) m' (c+(j+1)) w8 o3 d3):=aa (jG.o.wider (fun _ e _=>e) ae);clear hA;go_wp2;go_roundw
           case rel=>exact⟨j+1,m',by go_num,ae,qg,rY,V4⟩
           grind [intOf]
          ·have hAb:A x.h.toNat=false:=by simp_all
           rw[hAb];obtain⟨B,hF,hB⟩:=jG.o.fr;have hcm:=aa (IG hF (by have:=HC.out;have:=HM.o;omega) x.h.toNat s HXN.o.2);have Ad:=aa hB;have HAB:=aa hAb;clear hF hB hA hAb;unfold ptrTo A3 at hcm;go_wp2_with fail;refine hcm.o.mono ?_;rintro e w9⟨rfl,hf9,ht9⟩;obtain⟨fs9,hk9⟩:=jG.o.turned Ad.o ht9 hf9 (fun b hb=>hb) (fun b hb=>(aL V4.o b hb).1) (fun p hp=>(O0 hp).elim (jG.o.gd p) (fun e=>by rw[e];exact⟨HXN.o.1,UN.o,NZ.o⟩));have qg:Hid (vw n pb db w o d L N (fun b=>(Value.slice (some ⟨g,0,none⟩) M ec).ownBlock=some b) fb sb (v::St) (qV m' x.h.toNat s) (c+(j+1)) w9 o3 d3):=aa fs9;have aj8:=aa (bI V4.o (fun b hb=>hk9 b hb));have MN:Hid (qV m' x.h.toNat s=kQ A (v::St) dd (b8 m v) ((aY es v).take (j+1))):=aa (by rw[nd HX.o,if_pos ⟨by rw[<- V3.o];assumption,NZ.o,HAB.o⟩,<- lF.out,V3.o]);clear hcm hf9 ht9 fs9 hk9 jG V4 k3;go_wp2;go_roundw
           case rel=>exact⟨j+1,_,by go_num,ae,qg,MN,aj8⟩
           grind [intOf]
        ·have S4:Lf dd x.x.toNat=.tuple #[.int .u64 0,.bool false]:=if_neg il;rw[S4];have UN:=aa il;clear S4 il;have S5:=aa (Eq.refl 0);have jU:Hid (vw n pb db w o d L N (fun b=>(Value.slice (some ⟨g,0,none⟩) M ec).ownBlock=some b) fb sb (v::St) m' (c+(j+1)) (W6.alloc (.cells #[] 245)) o3 d3):=aa ((gA.o.below ai).wider (fun _ e _=>e) ae);have aam:Hid (aI (W6.alloc (.cells #[] 245)) w2.heap.size (.slice (some ⟨g,0,none⟩) M ec) (aY es v)):=aa (aV V2.o ai);have BK:Hid (m'=kQ A (v::St) dd (b8 m v) ((aY es v).take (j+1))):=aa (by rw[nd HX.o,if_neg (fun e=>UN.o e.1)];assumption);go_wp2_with (at_lookup;refine bY _ rfl _ _ _ _ rfl 245 ck dv Tryz.underlying243 (HZU.o _) sb _ rfl gA.o.st x.h.toNat rfl HGX.o ?_;rw[uN,rI];try rw[S5.o]);go_roundw
         case rel=>exact⟨j+1,m',by go_num,ae,jU,BK,aam⟩
         grind [intOf]
       ·have JF:¬(j:Int)<(M:Int):=by omega
        have jG:Hid (vw n pb db w o d L N (fun _=>False) fb sb (v::St) m' (c+j) Wq o3 d3):=aa (b9.out.wider (fun _ e _=>e.elim) (Nat.le_refl _));have HR8:Hid (mZ (aY es) A t most (16-(v::St).length) m' (v::St)=R):=aa (by
         grind [Hid.out])
        have HC8:Hid (c+j<=1+(v::St).length*1000/\(v::St).length<=16):=aa (by
         grind [Hid.out])
        have PY:Hid (16-IZ Wq.heap[sb]? < 16-IZ Wr.heap[sb]?):=aa (by
         rw[jG.o.st.IZ,XR.o,List.length_cons];grind [Hid.out])
        clear b9 lF V1;go_wp2;go_roundw
        case rel=>exact⟨_,_,_,_,_,jG,HC8,HR8⟩
        assumption
end
end
section
open Go.RowKit Go.Maps
theorem Ls(l:List aJ):∀u∈dH l,u.oneCell'=true:=by
 induction l with
 |nil=>intro u hu;cases hu
 |cons x l ih=>
   intro u hu;rw[dH,List.mem_append]at hu;rcases hu with hu | hu
   ·simp[aJ.cells]at hu;rcases hu with rfl | rfl | rfl | rfl<;>rfl
   ·exact ih u hu
theorem V5{w:World}{b off n cap:Nat}{es:List aJ}(h:kL w (.slice (some ⟨b,off,none⟩) n cap) es):∀j u,(dH es)[j]? = some u->w.cell? ((⟨b,off,none⟩:Addr).add j)=some u:=by
 intro j u hj;obtain⟨-,hc⟩:=jX h;have kY:=aM hj;rw[nI]at kY;have hi:j/4<es.length:=by omega
 obtain⟨b',off',he,h1,h2,h3,h4⟩:=hc w aj (j/4) es[j/4] (List.getElem?_eq_getElem hi);cases he;have hg:=l9 (List.getElem?_eq_getElem hi) (j:=j%4) ae;rw[show j/4*4+j%4=j by omega,hj]at hg;rw[bG];have aka:j%4=0\/j%4=1\/j%4=2\/j%4=3:=by omega
 rcases aka with e | e | e | e
 ·rw[e]at hg;cases hg;rw[show off+j=off+j/4*4 by omega];exact h1
 ·rw[e]at hg;cases hg;rw[show off+j=off+j/4*4+1 by omega];exact h2
 ·rw[e]at hg;cases hg;rw[show off+j=off+j/4*4+2 by omega];exact h3
 ·rw[e]at hg;cases hg;rw[show off+j=off+j/4*4+3 by omega];exact h4
theorem gj{w:World}{ops:Array Oper}{rest:List Oper}{op:Oper}{a:Act}{Q:Exit->Act->World->Prop}(hgd:op.guard=none)(s x:Operand)(ho:op.op=.call { callee:=.builtin .append,args:=#[s,x],argTypes:=#[22,22] })(base:Nat)(v:Value)(l:List aJ)(hs:a.eval s=v)(hown:aI w base v l)(u:Value)(es:List aJ)(hx:a.eval x=u)(hr:kL w u es)(hl:l.length+es.length<=100000)(hbase:base<=w.heap.size)(k:∀v' w',aI w' base v' (l++es)->lr v w w' v'->wpList prog ops Q rest (a.put op.dst v') w'):wpList prog ops Q (op::rest) a w:=by
 have hrw:=hr;obtain⟨ad,cap,rfl,hc⟩:=hrw;cases ad with
 |some ad=>
   have lN:∀j u,(dH es)[j]? = some u->w.cell? (ad.add j)=some u:=fun j u hj=>by
    have kY:=aM hj;rw[nI]at kY;rcases hc with h0 |⟨b,off,ha,_⟩
    ·omega
    ·cases ha;exact V5 hr j u hj
   refine dR hgd s x 22 ho base 64 _ 4 24 Tryz.underlying22 rC rfl af v l.length (dH l) hs hown ad es.length cap (dH es) hx (nI es) lN (Ls es) (by unfold maxLen;omega) ae hbase (fun v' w' h1 h2=>k v' w' ?_ h2);unfold aI;rw[nJ,List.length_append];exact h1
 |none=>
   have h0:es=[]:=by
    rcases hc with hc |⟨b,off,ha,_⟩
    ·exact List.length_eq_zero_iff.1 hc
    ·cases ha
   subst h0;obtain⟨i0,rV,hz0,hz1,hz2⟩:=info_parts rC;have JY:∀ad,(storeCells ad []).run prog w=.ok () w:=fun _=>rfl;obtain⟨va,vc,Co⟩:∃va vc,v=.slice va l.length vc:=az hown;subst Co;refine wpList_plain hgd fun K hK=>?_;have Gr:l.length<=vc:=by
    rcases cm hown with⟨h1,h2⟩|⟨g,c,h1,_,h2,_⟩
    ·rw[h1];exact Nat.zero_le _
    ·cases h1;exact h2
   have hrun:(Builtin.append_ #[22,22] op.type #[.slice va l.length vc,.slice none ([]:List aJ).length cap]).run prog w=.ok (.slice va l.length vc) w:=by
    cases va with
    |none=>simp[Builtin.append_,run_underlying Tryz.underlying22,sizeOf,typeInfo,rV,Builtin.lenOf,Builtin.firstCells,Gr]
    |some va=>simp[Builtin.append_,run_underlying Tryz.underlying22,sizeOf,typeInfo,rV,Builtin.lenOf,Builtin.firstCells,JY,Gr]
   unfold Oper.wp execOp;simp only[ho,resolve,invoke,builtin,Sem.run_bind,Sem.run_pure,Result.andThen_ok,List.map_toArray,List.map_cons,List.map_nil,hs,hx,hrun];refine hK _ _ (k _ _ (by rw[List.append_nil];exact hown) ⟨⟨rfl,rfl,rfl,Nat.le_refl _,fun _ _ _=>rfl⟩,.inl rfl⟩)
theorem qW(w:World):aI (w.alloc (.cells #[] 64)) w.heap.size (.slice (some ⟨w.heap.size,0,none⟩) 0 0) []:=
 ⟨by simp[dH],.inr ⟨w.heap.size,0,#[],rfl,Nat.le_refl _,heap_alloc_new w _,Nat.le_refl _,Nat.zero_le _,ah,by simp[dH]⟩⟩
theorem kL.take{w:World}{a:Option Addr}{n cap k:Nat}{es:List aJ}(h:kL w (.slice a n cap) es)(hk:k<=es.length):kL w (.slice a k cap) (es.take k):=by
 obtain⟨a',cap',he,hc⟩:=h;cases he;have hl:(es.take k).length=k:=by rw[List.length_take];omega
 refine⟨a,cap,by rw[hl],?_⟩;rcases hc with hc |⟨b,off,rfl,hc⟩
 ·exact .inl ae
 ·exact .inr ⟨b,off,rfl,fun j x hx=>hc j x (by rw[List.getElem?_take]at hx;split at hx;exact hx;cases hx)⟩
theorem kL.drop{w:World}{b off n cap k:Nat}{es:List aJ}(h:kL w (.slice (some ⟨b,off,none⟩) n cap) es)(hk:k<=es.length)(c:Nat):kL w (.slice (some ⟨b,off+k*4,none⟩) (n-k) c) (es.drop k):=by
 obtain⟨a',cap',he,hc⟩:=h;cases he;have hl:(es.drop k).length=es.length-k:=List.length_drop ..;refine⟨_,c,by rw[hl],?_⟩;rcases hc with hc |⟨b',off',he,hc⟩
 ·exact .inl ae
 ·cases he;refine .inr ⟨b,off+k*4,rfl,fun j x hx=>?_⟩;rw[List.getElem?_drop]at hx;have:=hc (k+j) x hx;rw[show off+k*4+j*4=off+(k+j)*4 by omega];exact this
theorem kL.none{w:World}{a:Option Addr}{cap:Nat}:kL w (.slice a 0 cap) []:=⟨a,cap,rfl,.inl rfl⟩
theorem gK{W0 W W':World}{v v':Value}(hb:Below W0.heap.size W0 W)(hv:∀y,v.ownBlock=some y->W0.heap.size<=y)(ha:lr v W W' v'):Below W0.heap.size W0 W'/\∀y,v'.ownBlock=some y->W0.heap.size<=y:=by
 obtain⟨hg,h⟩:=ha;have hs:=hb.size;refine⟨hb.trans ⟨hg.os,hg.tape,hg.output,hg.size,fun x hx=>hg.block x ae (fun e=>?_)⟩,fun y hy=>?_⟩
 ·have:=hv x e.symm;omega
 ·rcases h with h | h
  ·rw[h]at hy;exact hv y hy
  ·rw[h]at hy;cases hy;exact hs
def Lt(w:World)(b:Bool)(r:List aJ)(i:Nat)(v:Value)(W:World):Prop:=∃out:List aJ,aI W w.heap.size v out/\dM b (r.take i) out/\out.length<=i/\Below w.heap.size w W
theorem Lu(v:Value)(es:List aJ)(b:Bool)(w:World)(hv:kL w v es)(hl:es.length<=10000):Calls prog 46 #[v,.int .i64 (lY b:Int)] w (IU w (aK b es)):=by
 have aeD:=aa (Lh v es w hv hl);have Gp:(aK false es).length<=10000:=Nat.le_trans (cd _ _) hl;have kK:=aa (bU false es);have ZR:Hid (∀out,dM b (aK false es) out->out=aK b es):=aa (fun out h=>by rw[h.eq,IM]);obtain⟨va,vn,vc,rfl⟩:∃a n c,v=.slice a n c:=by
  obtain⟨a,c,rfl,_⟩:=hv;exact⟨a,_,c,rfl⟩
 clear hv hl;generalize aK false es=r at *;obtain⟨bn,PV⟩:∃bn:Int,bn=(lY b:Int):=⟨_,rfl⟩;have aN:=aa (fun W x y=>IQ b x y W);rw[<- PV]at aN ⊢;clear PV;go_enter func46,ntmps46;go_wp2_with fail;refine aeD.o.mono ?_;rintro e w1⟨rv,rfl,hr1,hb1⟩;have ny:=aa hr1;have cT:=aa hb1;obtain⟨ra,rc,rfl⟩:∃ra rc,rv=.slice ra r.length rc:=az hr1;have UX:=aa (lx hr1);obtain⟨-,lN⟩:=jX UX.o;have HC:=aa lN;have HX:Hid (∀i,i<r.length->∃x,r[i]? = some x):=aa (fun i hi=>⟨_,List.getElem?_eq_getElem hi⟩);have Cb:Hid (r.take r.length=r):=aa (List.take_of_length_le (Nat.le_refl _));clear lN hr1 hb1 aeD;generalize hN:r.length=N at *;have HN:=aa hN;clear hN;go_wp2;go_loopw [5,7] (fun ov iv W=>∃i:Nat,i<=N/\iv=.int .i64 (i:Int)/\Lt w1 b r i ov W) (fun _ iv _=>N-(intOf iv).toNat)
 case atStart=>exact⟨0,Nat.zero_le _,rfl,[],World.ownsRow_nil _ _ _ _,dM.nil _,Nat.le_refl _,Below.refl _ _⟩
 case round=>
  generalize u5=ov at *;generalize wr=W1 at *;obtain⟨i,hi,rfl,out,hr,Ay,hol,hb⟩:=hrel;have HR:=aa hr;have mV:=aa Ay;have HB:=aa hb;have hz:w1.heap.size<=W1.heap.size:=hb.size;clear hr Ay hb;by_cases hlt:i<N
  ·obtain⟨x,hx⟩:=HX.o i hlt;have HXX:=aa hx;have sk:=aa (wX hx);obtain⟨re,ro,rfl,-⟩:=HC.o W1 HB.o i x hx;have MW:Hid (∀W,Below W1.heap.size W1 W->W.cell? ⟨re,ro+i*4,none⟩=some (.int .u32 (x.t.toNat:Int))/\W.cell? ⟨re,ro+i*4+1,none⟩=some (.int .u32 (x.h.toNat:Int))/\W.cell? ⟨re,ro+i*4+2,none⟩=some (.int .u64 (x.x.toNat:Int))/\W.cell? ⟨re,ro+i*4+3,none⟩=some (.int .u32 (x.m.toNat:Int))):=aa (fun W hB=>by
    obtain⟨b',o',e,g⟩:=HC.o W (HB.o.trans (hB.mono HB.o.size)) i x HXX.o;cases e;exact g)
   obtain⟨oa,oc,Co⟩:∃oa oc,ov=.slice oa out.length oc:=az HR.o;subst Co;have Mp:Hid (∀W,Below W1.heap.size W1 W->kL W (.slice oa out.length oc) out):=aa (fun W hB=>(lx HR.o).below hB);have NY:out.length<=oc/\oc<=maxLen:=by
    rcases cm HR.o with⟨h1,h2⟩|⟨g,c,h1,_,h2,h3⟩
    ·rw[h1];exact⟨Nat.zero_le _,by injection h2 with _ _ e3;rw[e3];exact Nat.zero_le _⟩
    ·cases h1;exact⟨h2,h3⟩
   obtain⟨akb,KO⟩:=NY;unfold maxLen at KO;have JK:Hid (∀j,j<out.length->∃o,out[j]? = some o):=aa (fun j hj=>⟨_,List.getElem?_eq_getElem hj⟩);have YM:Hid (∀o∈out,pk b o≠pk b x):=aa (fun o ho e=>by
    have h1:=(mV.o.mem o ho).1;obtain⟨j,hj,rfl⟩:=List.getElem_of_mem h1;rw[List.getElem_take]at e;rw[List.length_take]at hj;have e':pk false r[j]=pk false x:=iC.2 (iC.1 e);have h2:=fq kK.o.gC (show j<i by omega) (List.getElem?_eq_getElem ae) HXX.o;omega)
   have IX:Hid (x.t≠x.h):=aa (kK.o.mem x (List.mem_of_getElem? HXX.o)).2.1;clear hx;generalize Qr:out.length=n0 at *;have kV:=aa Qr;clear Qr;go_wp2;go_loopw [8] (fun kv W=>∃k:Nat,k<=n0/\kv=.int .i64 (k:Int)/\(∀(j:Nat)(o:aJ),j<k->out[j]? = some o->pk b o<pk b x)/\Below W1.heap.size W1 W) (fun kv _=>n0-(intOf kv).toNat)
   case atStart=>exact⟨0,Nat.zero_le _,rfl,(fun j o hj=>absurd hj (Nat.not_lt_zero _)),Below.refl _ _⟩
   case round=>
    generalize wr=W2 at *;obtain⟨k,hk,rfl,JA,hb2⟩:=hrel;have PO:=aa JA;have cZ:=aa hb2;clear JA hb2;by_cases yE:k<n0
    ·obtain⟨o,ho⟩:=JK.o k yE;have HO:=aa ho;clear ho;obtain⟨-,hcc⟩:=jX (by rw[<- kV.o]at Mp;exact Mp.o W2 cZ.o);obtain⟨oe,oo,rfl,-⟩:=hcc W2 aj k o HO.o;have HOW:Hid (∀W,Below W2.heap.size W2 W->W.cell? ⟨oe,oo+k*4,none⟩=some (.int .u32 (o.t.toNat:Int))/\W.cell? ⟨oe,oo+k*4+1,none⟩=some (.int .u32 (o.h.toNat:Int))/\W.cell? ⟨oe,oo+k*4+2,none⟩=some (.int .u64 (o.x.toNat:Int))/\W.cell? ⟨oe,oo+k*4+3,none⟩=some (.int .u32 (o.m.toNat:Int))):=aa (fun W hB=>by
      obtain⟨g',o',e,r⟩:=hcc W hB k o HO.o;cases e;exact r)
     clear hcc;have Lv:=aa (fun W=>aN.o W o x);obtain⟨rr,jH⟩:∃r:Bool,r=decide (pk b o<pk b x):=⟨_,rfl⟩;rw[<- jH]at Lv;have PN:=aa jH;clear jH;go_wp2_with fail;refine wq W2 ?_;iterate 8 (refine qz ?_)
     refine qz ?_ (fun w' hw'=>by obtain⟨e0,e1,e2,e3⟩:=HOW.o w' hw';go_simp<;>rfl);iterate 3 (refine qz ?_)
     refine qz ?_ (fun w' hw'=>by obtain⟨e0,e1,e2,e3⟩:=MW.o w' (cZ.o.trans (hw'.mono cZ.o.size));go_simp<;>rfl);refine qz ?_;refine qw (fun w' hw'=>(Lv.o w').mono fun e w'' ⟨he,hb⟩=>⟨he,hw'.trans (hb.mono hw'.size)⟩) ?_;refine qz ?_;refine wpQuiet_nil ?_;intro W3 hb3;have jF:=aa (cZ.o.trans (hb3.mono cZ.o.size));clear hb3 Lv HOW;cases rr with
     |true=>
       have aad:Hid (∀(j:Nat)(o':aJ),j<k+1->out[j]? = some o'->pk b o'<pk b x):=aa (fun j o' hj kN=>by
        rcases Nat.lt_or_ge j k with h | h
        ·exact PO.o j o' h kN
        ·obtain rfl:j=k:=by omega
         rw[HO.o]at kN;rw[<- Option.some.inj kN];exact of_decide_eq_true PN.o.symm)
       go_wp2;go_roundw
       case rel=>exact⟨k+1,ae,by go_num,aad.o,jF.o⟩
       case measure=>simp[intOf];omega
     |false=>
       have Li:Hid (dM b (r.take (i+1)) (out.take k++x::out.drop k)):=aa (by
        rw[sk.o];refine mV.o.lay IX.o (by rw[kV.o];exact hk) PO.o (fun j o' hj kN=>?_);have h0:=YM.o o (List.mem_of_getElem? HO.o);have h1:=of_decide_eq_false PN.o.symm;rcases Nat.eq_or_lt_of_le hj with rfl | hlt
        ·rw[HO.o]at kN;rw[<- Option.some.inj kN];omega
        ·have:=fq mV.o.gC hlt HO.o kN;omega)
       have mD:=jF;have S6:Hid (aI (W3.alloc (.cells #[] 64)) w1.heap.size (.slice (some ⟨W3.heap.size,0,none⟩) 0 0) []):=aa (aU (qW W3) (Nat.le_trans hz mD.o.size));have aan:Hid (kL (W3.alloc (.cells #[] 64)) (.slice (some ⟨oe,oo,none⟩) k oc) (out.take k)):=aa ((Mp.o _ (mD.o.alloc mD.o.size _)).take (by rw[kV.o];exact hk));have hlk:([]:List aJ).length+(out.take k).length<=100000:=by rw[List.length_take,List.length_nil];omega
       have hzX:w1.heap.size<=(W3.alloc (.cells #[] 64)).heap.size:=by have:=mD.o.size;simp;omega
       go_wp2_with (at_builtin;refine gj rfl _ _ rfl w1.heap.size _ [] rfl S6.o _ (out.take k) rfl aan.o hlk hzX ?_);intro v4 W4 hr4 KH;obtain⟨hb4,hv4⟩:=gK ((Below.refl W3.heap.size W3).alloc (Nat.le_refl _) _) (fun y hy=>by cases hy;exact Nat.le_refl _) KH;have Mr:Hid (aI W4 w1.heap.size v4 (out.take k)):=aa (by rw[<- List.nil_append (out.take k)];exact hr4);have oZ:=aa (mD.o.trans (hb4.mono mD.o.size));have G9:=aa hb4;have Kk:=aa hv4;obtain⟨x0,x1,x2,x3⟩:=MW.o W4 oZ.o;have aao:(out.take k).length<=100000:=by rw[List.length_take];omega
       have uY:w1.heap.size<=W4.heap.size:=Nat.le_trans hz oZ.o.size;clear hr4 KH hb4 hv4;go_wp2_with (at_builtin;refine cS rfl _ _ rfl w1.heap.size _ (out.take k) rfl Mr.o x 1 rfl aao uY ?_);intro v5 W5 K7 JI;obtain⟨oh,Ui⟩:=gK (G9.o.alloc G9.o.size _) Kk.o JI;have yg:=aa K7;have EM:=aa (mD.o.trans (oh.mono mD.o.size));have aap:=aa oh;have NR:=aa Ui;have T3:w1.heap.size<=W5.heap.size:=Nat.le_trans hz EM.o.size;have V6:(out.take k++[x]).length+(out.drop k).length<=100000:=by rw[List.length_append,List.length_take,List.length_drop,List.length_singleton,kV.o];omega
       clear K7 JI oh Ui x0 x1 x2 x3;have HDR:Hid (kL W5 (.slice (some ⟨oe,oo+k*4,none⟩) (n0-k) (oc-k)) (out.drop k)):=aa (by
        have:=Mp.o W5 EM.o;exact kL.drop this (by rw[kV.o];exact hk) _)
       go_wp2_with (at_builtin;refine gj rfl _ _ rfl w1.heap.size _ (out.take k++[x]) rfl yg.o _ (out.drop k) rfl HDR.o V6 T3 ?_);intro v6 W6 A6 Lj;obtain⟨FR,-⟩:=gK aap.o NR.o Lj;have BA:Hid (aI W6 w1.heap.size v6 (out.take k++x::out.drop k)):=aa (by
        exact A6)
       have S7:=aa (HB.o.trans (mD.o.mono hz));have mW:=aa (S7.o.trans (FR.mono S7.o.size));clear A6 Lj FR;go_wp2;go_roundw
       case rel=>exact⟨i+1,ae,by go_num,out.take k++x::out.drop k,BA.o,Li.o,by rw[List.length_append,List.length_cons,List.length_take,List.length_drop,kV.o];omega,mW.o⟩
       case measure=>simp[intOf];omega
    ·obtain rfl:n0=k:=by omega
     have Li:Hid (dM b (r.take (i+1)) (out.take n0++x::out.drop n0)):=aa (by
      rw[sk.o];refine mV.o.lay IX.o (by rw[kV.o];exact Nat.le_refl _) PO.o (fun j o' hj kN=>?_);have:=aM kN;rw[kV.o]at this;omega)
     have hdd:decide ((n0:Int)<(n0:Int))=false:=decide_eq_false ae;have aai:decide (n0<n0)=false:=decide_eq_false ae;rcases Nat.eq_or_lt_of_le akb with hcN | hcN;case' inl=>subst hcN
     all_goals
      go_wp2_with fail;go_quiet (fail)
      have hb3:Below W2.heap.size W2 (W2.drewN nq):=below_drewN aj _;have mD:=aa (cZ.o.trans (hb3.mono cZ.o.size));clear hb3 hdd aai;generalize W2.drewN nq=W3 at *;have S6:Hid (aI (W3.alloc (.cells #[] 64)) w1.heap.size (.slice (some ⟨W3.heap.size,0,none⟩) 0 0) []):=aa (aU (qW W3) (Nat.le_trans hz mD.o.size));have aan:=aa ((Mp.o (W3.alloc (.cells #[] 64)) (mD.o.alloc mD.o.size _)).take (k:=n0) (by rw[kV.o];exact hk));have hlk:([]:List aJ).length+(out.take n0).length<=100000:=by rw[List.length_take,List.length_nil];omega
      have hzX:w1.heap.size<=(W3.alloc (.cells #[] 64)).heap.size:=by have:=mD.o.size;simp;omega
      go_wp2_with (at_builtin;refine gj rfl _ _ rfl w1.heap.size _ [] rfl S6.o _ (out.take n0) rfl aan.o hlk hzX ?_);intro v4 W4 hr4 KH;obtain⟨hb4,hv4⟩:=gK ((Below.refl W3.heap.size W3).alloc (Nat.le_refl _) _) (fun y hy=>by cases hy;exact Nat.le_refl _) KH;have Mr:Hid (aI W4 w1.heap.size v4 (out.take n0)):=aa (by rw[<- List.nil_append (out.take n0)];exact hr4);have oZ:=aa (mD.o.trans (hb4.mono mD.o.size));have G9:=aa hb4;have Kk:=aa hv4;obtain⟨x0,x1,x2,x3⟩:=MW.o W4 oZ.o;have aao:(out.take n0).length<=100000:=by rw[List.length_take];omega
      have uY:w1.heap.size<=W4.heap.size:=Nat.le_trans hz oZ.o.size;clear hr4 KH hb4 hv4;go_wp2_with (at_builtin;refine cS rfl _ _ rfl w1.heap.size _ (out.take n0) rfl Mr.o x 1 rfl aao uY ?_);intro v5 W5 K7 JI;obtain⟨oh,Ui⟩:=gK (G9.o.alloc G9.o.size _) Kk.o JI;have yg:=aa K7;have EM:=aa (mD.o.trans (oh.mono mD.o.size));have aap:=aa oh;have NR:=aa Ui;have T3:w1.heap.size<=W5.heap.size:=Nat.le_trans hz EM.o.size;have V6:(out.take n0++[x]).length+(out.drop n0).length<=100000:=by rw[List.length_append,List.length_take,List.length_drop,List.length_singleton,kV.o];omega
      clear K7 JI oh Ui x0 x1 x2 x3;have hdr:out.drop n0=[]:=List.drop_of_length_le (by rw[kV.o];exact Nat.le_refl _);have HDR:=aa hdr;have ake:=aa V6;clear hdr V6;go_wp2_with (at_builtin;refine gj rfl _ _ rfl w1.heap.size _ (out.take n0++[x]) rfl yg.o _ (out.drop n0) rfl (by rw[HDR.o];exact kL.none) ake.o T3 ?_);intro v6 W6 A6 Lj;obtain⟨FR,-⟩:=gK aap.o NR.o Lj;have BA:Hid (aI W6 w1.heap.size v6 (out.take n0++x::out.drop n0)):=aa (by
       exact A6)
      have S7:=aa (HB.o.trans (mD.o.mono hz));have mW:=aa (S7.o.trans (FR.mono S7.o.size));clear A6 Lj FR;go_wp2;go_roundw
      case rel=>exact⟨i+1,ae,by go_num,out.take n0++x::out.drop n0,BA.o,Li.o,by rw[List.length_append,List.length_cons,List.length_take,List.length_drop,kV.o];omega,mW.o⟩
      case measure=>simp[intOf];omega
  ·obtain rfl:N=i:=by omega
   go_wp2;go_ret;refine⟨_,rfl,?_,cT.o.trans (HB.o.mono cT.o.size)⟩;have h:=mV.o;rw[Cb.o]at h;rw[<- ZR.o _ h];exact aU HR.o cT.o.size
end
section
open Go.RowKit Go.Maps Go.MapKept
theorem eH.rd{w:World}{v:Value}{vs:List bW}(h:eH w v vs):P1 w v vs:=by
 obtain⟨a,cap,rfl,h1,h2,h⟩:=h;refine⟨a,cap,rfl,h.imp id ?_⟩;rintro⟨b,off,rfl,hc⟩;refine⟨b,off,rfl,fun j x hx=>?_⟩;have hl:=aM hx;rw[List.getElem?_eq_getElem hl]at hx;obtain rfl:=Option.some.inj hx;exact hc j hl
theorem cell_of_heap{w w':World}{b o:Nat}(h:w'.heap[b]? = w.heap[b]?):w'.cell? ⟨b,o,none⟩=w.cell? ⟨b,o,none⟩:=by
 unfold World.cell?;rw[h]
theorem kL.other{w w':World}{v:Value}{es:List aJ}(h:kL w v es)(hk:∀b,v.ownBlock=some b->w'.heap[b]? = w.heap[b]?):kL w' v es:=by
 obtain⟨a,cap,rfl,h⟩:=h;refine⟨a,cap,rfl,h.imp id ?_⟩;rintro⟨b,off,rfl,hc⟩;have he:∀o,w'.cell? ⟨b,o,Option.none⟩=w.cell? ⟨b,o,Option.none⟩:=fun o=>cell_of_heap (hk b rfl);refine⟨b,off,rfl,fun j x hx=>?_⟩;obtain⟨q0,q1,q2,q3⟩:=hc j x hx;exact⟨(he _).trans q0,(he _).trans q1,(he _).trans q2,(he _).trans q3⟩
end
section
open Go.RowKit Go.Maps
theorem kL.moved{n pb db:Nat}{w w':World}{o o':ar}{d d':Dsk}{L':aD}{v:Value}{es:List aJ}(h:kL w v es)(hm:au (fun _=>False) n pb db w o d w' o' d' L')(ho:∀b,v.ownBlock=some b->o b=Option.none):kL w' v es:=by
 obtain⟨a,cap,rfl,h⟩:=h;refine⟨a,cap,rfl,h.imp id ?_⟩;rintro⟨b,off,rfl,hc⟩;refine⟨b,off,rfl,fun j x hx=>?_⟩;obtain⟨q0,q1,q2,q3⟩:=hc j x hx;exact⟨hm.cell q0 (ho b rfl) (fun h=>h),hm.cell q1 (ho b rfl) (fun h=>h),hm.cell q2 (ho b rfl) (fun h=>h),hm.cell q3 (ho b rfl) (fun h=>h)⟩
end
section
open Go.RowKit Go.Maps
structure fI(w0 w:World)(pb db n:Nat)(o:ar)(d:Dsk)(L:aD)(gb gen N ob ib vb:Nat)(es:List aJ):Prop where
 held:Held w0 w pb db n o d L
 need:need L<=131072
 gr:cY w o gb pb gen N ob ib vb
 file:aB L (aG 101 gen)=some (aw (aK false es) true)
 DN:aB L (aG 114 gen)=some (aw (aK true es) true)
 len:es.length<=1000
 top:N<=1000
 ends:∀x∈es,x.t.toNat<N/\x.h.toNat<N
structure I1(w:World)(o:ar)(av:Value)(A:Nat->Bool)(K:Nat->Prop):Prop where
 ex:∃f cs,av=.func (.func f) #[] cs/\(∀args W,Sem.run prog (callFunc f args) W=.ok (.enter f args) W) /\
  ∀W(x:Nat),(∀b,K b->W.heap[b]? = w.heap[b]?)->w.heap.size<=W.heap.size->x<4294967296->Calls prog f (#[.int .u32 (x:Int)]++cs) W fun e W'=>e=.returned (.bool (A x))/\Below W.heap.size W W'
 old:∀b,K b->b<w.heap.size/\o b=none
section
variable {w0 w w' W:World} {pb db n gb gen N ob ib vb sv ab:Nat} {o o':ar} {d d':Dsk} {L:aD} {es:List aJ} {A:Nat->Bool} {K:Nat->Prop} {av:Value}
theorem fI.moved(h:fI w0 w pb db n o d L gb gen N ob ib vb es)(hm:au (fun _=>False) n pb db w o d w' o' d' L):fI w0 w' pb db n o' d' L gb gen N ob ib vb es:=
 ⟨h.held.moved hm (by grind),h.need,h.gr.Lm hm (by grind),h.file,h.DN,h.len,h.top,h.ends⟩
theorem I1.moved(h:I1 w o av A K)(hm:au (fun _=>False) n pb db w o d w' o' d' L):I1 w' o' av A K:=by
 obtain⟨f,cs,rfl,h1,h2⟩:=h.ex;exact⟨⟨f,cs,rfl,h1,fun W x hk hs hx=>h2 W x (fun b hb=>(hk b hb).trans (hm.block (h.old b hb).1 (h.old b hb).2 (fun e=>e))) (Nat.le_trans hm.size hs) hx⟩,fun b hb=>⟨Nat.lt_of_lt_of_le (h.old b hb).1 hm.size,hm.free (h.old b hb).1 (h.old b hb).2⟩⟩
theorem fI.out(HW:aP)(h:fI w0 w pb db n o d L gb gen N ob ib vb es){v:Nat}(hv:v<N):Calls prog 21 #[ptrTo gb,.int .u32 (v:Int)] w (jx n pb db w o d L (aY es v)):=
 IY HW h.held h.need h.gr h.file h.len hv h.top
theorem fI.rE(HW:aP)(h:fI w0 w pb db n o d L gb gen N ob ib vb es){v:Nat}(hv:v<N):Calls prog 22 #[ptrTo gb,.int .u32 (v:Int)] w (jx n pb db w o d L (fC es v)):=
 V0 HW h.held h.need h.gr h.DN h.len hv h.top
theorem MZ{es:List aJ}{v:Nat}{x:aJ}(h:x∈fC es v):x∈es/\x.h.toNat=v:=
 ⟨((bU true es).mem x (ze h).1).1,(ze h).2⟩
theorem Bb(es:List aJ)(v:Nat):(fC es v).length<=es.length:=by
 have:=cd true es;exact Nat.le_trans (List.length_filter_le _ _) this
abbrev uO(gb:Nat):Value:=.func (.func 21) #[ptrTo gb] #[]
abbrev Fk(gb:Nat):Value:=.func (.func 22) #[ptrTo gb] #[]
def qX(n pb db:Nat)(w:World)(o:ar)(d:Dsk)(L:aD)(es:List aJ)(v:Nat)(e:Ending)(w':World):Prop:=
 ∃iv ov d' o',e=.returned (.tuple #[iv,ov,.int .i64 0])/\au (fun _=>False) n pb db w o d w' o' d' L/\aI w' w.heap.size iv (fC es v)/\aI w' w.heap.size ov (aY es v)/\∀x,iv.ownBlock=some x\/ov.ownBlock=some x->o' x=none
theorem I2(HW:aP)(h:fI w0 w pb db n o d L gb gen N ob ib vb es){v:Nat}(hv:v<N) :
 Calls prog 144 #[uO gb,Fk gb,.int .u32 (v:Int)] w (qX n pb db w o d L es v):=by
 have qh:=aa (h.rE HW hv);have HO:Hid (∀W o' d',au (fun _=>False) n pb db w o d W o' d' L->Calls prog 21 #[ptrTo gb,.int .u32 (v:Int)] W (jx n pb db W o' d' L (aY es v))):=aa (fun W o' d' hm=>(h.moved hm).out HW hv);clear h;unfold ptrTo jx at *;go_enter func144,ntmps144;go_wp2_with fail;refine qh.o.mono ?_;rintro e w1⟨iv,d1,o1,rfl,ee,k9,tP⟩;have hout:=aa (HO.o _ _ _ ee);have eu:=aa ee;have Dq:=aa k9;have Rh:=aa tP;clear ee k9 tP qh;go_wp2_with fail;refine hout.o.mono ?_;rintro e w2⟨ov,d2,o2,rfl,cQ,kr,hf2⟩;have HQ:Hid (qX n pb db w o d L es v (.returned (.tuple #[iv,ov,.int .i64 0])) w2):=aa ⟨iv,ov,d2,o2,rfl,eu.o.trans cQ (by grind),cQ.ownsRow Dq.o (fun b hb=>⟨Rh.o b hb,fun e=>e⟩),aU kr eu.o.size,fun x hx=>hx.elim (fun e=>cQ.free (aL Dq.o x e).1 (Rh.o x e)) (hf2 x)⟩;clear cQ kr hf2 hout;go_wp2;go_returns;exact HQ.o
theorem M0(h:I1 w o av A K)(v x:Nat)(hx:x<4294967296)(hk:∀b,K b->W.heap[b]? = w.heap[b]?)(hs:w.heap.size<=W.heap.size){t1 t2:TypeId}(Qx:W.heap[sv]? = some (.cells #[.int .u32 (v:Int)] t1))(hab:W.heap[ab]? = some (.cells #[av] t2)) :
 Calls prog 200 #[.int .u32 (x:Int),.pointer (some ⟨sv,0,none⟩),.pointer (some ⟨ab,0,none⟩)] W fun e W'=>e=.returned (.bool (x == v || A x))/\Below W.heap.size W W':=by
 obtain⟨f,cs,rfl,hrun,aN⟩:=h.ex;have c0:W.cell? ⟨sv,0,none⟩=some (.int .u32 (v:Int)):=by rw[aq Qx];rfl
 have c1:W.cell? ⟨ab,0,none⟩=some (.func (.func f) #[] cs):=by rw[aq hab];rfl
 have hc:=aa (aN W x hk hs hx);clear h aN hk hs Qx hab;by_cases hxv:x=v
 ·subst hxv;go_enter func200,ntmps200;go_wp2;go_ret;exact⟨ah,Below.refl _ _⟩
 ·have hz:¬(x:Int)=(v:Int):=by omega
  have HB:Hid ((x == v || A x)=A x):=aa (by grind);rw[HB.o];go_enter func200,ntmps200;go_wp2_with fail;refine hc.o.mono ?_;rintro e W1⟨rfl,hb⟩;have cT:=aa hb;clear hb hc;go_wp2;go_ret;exact⟨by simp_all,cT.o⟩
end
end
section
open Go.RowKit Go.Maps
section
variable {w0 w w' W W':World} {pb db n gb gen N ob ib vb sv ab:Nat} {o o' gP o0:ar} {d d' gB:Dsk} {L:aD} {es ins outs acc:List aJ} {A:Nat->Bool} {K:Nat->Prop} {av lv iv ov:Value}
structure BM(n pb db:Nat)(w:World)(o:ar)(d:Dsk)(L:aD)(W0:World)(K2:Nat->Prop)(lv:Value)(acc:List aJ)(W:World)(o':ar)(d':Dsk):Prop where
 mv:au (fun _=>False) n pb db w o d W o' d' L
 keep:∀b,K2 b->W.heap[b]? = W0.heap[b]? /\ b<W.heap.size/\w.heap.size<=b/\o' b=none
 row:aI W w.heap.size lv acc
 own:∀b,lv.ownBlock=some b->¬K2 b/\o' b=none
variable {W0:World} {K2:Nat->Prop}
theorem BM.below(h:BM n pb db w o d L W0 K2 lv acc W o' d')(hb:Below W.heap.size W W'):BM n pb db w o d L W0 K2 lv acc W' o' d':=
 ⟨h.mv.below hb,fun b hk=>⟨(hb.block b (h.keep b hk).2.1).trans (h.keep b hk).1,Nat.lt_of_lt_of_le (h.keep b hk).2.1 hb.size,(h.keep b hk).2.2⟩,aV h.row hb,h.own⟩
theorem BM.moved(h:BM n pb db w o d L W0 K2 lv acc W o' d')(hm:au (fun _=>False) n pb db W o' d' W' gP gB L):BM n pb db w o d L W0 K2 lv acc W' gP gB:=
 ⟨h.mv.trans hm (fun _ _ e=>e),fun b hk=>⟨(hm.block (h.keep b hk).2.1 (h.keep b hk).2.2.2 (fun e=>e)).trans (h.keep b hk).1,Nat.lt_of_lt_of_le (h.keep b hk).2.1 hm.size,(h.keep b hk).2.2.1,hm.free (h.keep b hk).2.1 (h.keep b hk).2.2.2⟩,
  hm.ownsRow h.row (fun b hb=>⟨(h.own b hb).2,fun e=>e⟩),fun b hb=>⟨(h.own b hb).1,hm.free (aL h.row b hb).1 (h.own b hb).2⟩⟩
theorem BM.IA(h:BM n pb db w o d L W0 K2 lv acc W o' d'){y:aJ}{JN:Value}{ob:Obj}(hr:aI W' w.heap.size JN (acc++[y]))(ha:lr lv (W.alloc ob) W' JN):BM n pb db w o d L W0 K2 JN (acc++[y]) W' o' d':=by
 obtain⟨hm,hf,hh,hz⟩:=ha.moved h.mv (fun x hx=>⟨(h.own x hx).2,(aL h.row x hx).2⟩);refine⟨hm,fun b hk=>⟨(hh b (h.keep b hk).2.1 (fun e=>(h.own b e).1 hk)).trans (h.keep b hk).1,Nat.lt_of_lt_of_le (h.keep b hk).2.1 hz,(h.keep b hk).2.2⟩,hr,fun b hb=>⟨fun hk=>?_,(hf b hb).1⟩⟩;rcases ha.2 with e | e
 ·grind [own]
 ·rw[e]at hb;cases hb;have:=(h.keep _ hk).2.1;simp at this;omega
theorem BM.aeE(h:BM n pb db w o d L W0 K2 lv acc W o' d')(x:Nat)(h1:x<W.heap.size)(h2:w.heap.size<=x)(h3:o' x=none)(h4:lv.ownBlock≠some x):BM n pb db w o d L W (fun b=>K2 b\/b=x) lv acc W o' d':=
 ⟨h.mv,fun b hb=>⟨rfl,hb.elim (fun e=>(h.keep b e).2) (fun e=>by grind)⟩,h.row,fun b hb=>⟨fun e=>e.elim (h.own b hb).1 (fun e=>h4 (e▸hb)),(h.own b hb).2⟩⟩
theorem BM.narrow{JN:Value}{kR:List aJ}{x:Nat}(h:BM n pb db w o d L W0 K2 lv acc W o' d')(k:BM n pb db w o d L W (fun b=>K2 b\/b=x) JN kR W' gP gB):BM n pb db w o d L W0 K2 JN kR W' gP gB:=
 ⟨k.mv,fun b hb=>⟨(k.keep b (.inl hb)).1.trans (h.keep b hb).1,(k.keep b (.inl hb)).2⟩,k.row,fun b hb=>⟨fun e=>(k.own b hb).1 (.inl e),(k.own b hb).2⟩⟩
def uP(n pb db:Nat)(w:World)(o:ar)(d:Dsk)(L:aD)(akf:List aJ)(e:Ending)(w':World):Prop:=
 ∃v d' o',e=.returned (.tuple #[v,.int .i64 0])/\au (fun _=>False) n pb db w o d w' o' d' L/\kL w' v akf/\∀x,v.ownBlock=some x->o' x=none/\w.heap.size<=x/\x<w'.heap.size
theorem S8{w:World}{base:Nat}{l:List aJ}{a:Option Addr}{cap:Nat}(h:aI w base (.slice a l.length cap) l):kL w (.slice a l.length l.length) l:=by
 rcases cm h with⟨rfl,e⟩|⟨g,c,e,-,-,-⟩
 ·cases e;exact⟨_,_,rfl,.inl rfl⟩
 ·cases e;exact⟨_,_,rfl,.inr ⟨g,0,rfl,fun j x hx=>by
   grind [bL]⟩⟩
theorem Ta{a:Option Addr}{k cap:Nat}(hk:k<=cap)(w:World):Calls prog 203 #[.slice a k cap] w fun e w'=>e=.returned (.slice a k k)/\w'=w:=by
 go_enter func203,ntmps203;go_wp2;go_ret;simp
theorem rJ{α β:Type}{l:List α}{f:α->List β}{j:Nat}{x:α}(h:l[j]? = some x):(l.take (j+1)).flatMap f=(l.take j).flatMap f++f x:=by
 grind [List.take_succ_eq_append_getElem]
theorem gL{α β:Type}{l:List α}{f:α->Option β}{j:Nat}{x:α}(h:l[j]? = some x):(l.take (j+1)).filterMap f=(l.take j).filterMap f++(f x).toList:=by
 grind [List.take_succ_eq_append_getElem]
theorem I3{α β:Type}{f:α->List β}{c:Nat}(hf:∀x,(f x).length<=c){l:List α}{i:Nat}(hl:l.length<=i):(l.flatMap f).length<=i*c:=by
 refine Nat.le_trans ?_ (Nat.mul_le_mul_right c hl);induction l generalizing i with
 |nil=>simp
 |cons x l ih=>
   have h1:=ih (Nat.le_refl _);grind [Nat.succ_mul]
theorem sH(HW:aP)(h:fI w0 w pb db n o d L gb gen N ob ib vb es)(ha:I1 w o av A K)(v:UInt32)(hv:v.toNat<N)(wZ:(fC es v.toNat).length*(aY es v.toNat).length<=100000) :
 Calls prog 142 #[uO gb,Fk gb,av,.int .u32 (v.toNat:Int)] w (uP n pb db w o d L (oJ (aY es) A (fC es v.toNat) v)):=by
 have H:=aa h;obtain⟨f,cs,rfl,-⟩:=ha.ex;have HA:=aa ha;have HDG:=aa wZ;clear h ha wZ;obtain⟨R,HR⟩:∃R,Hid (oJ (aY es) A (fC es v.toNat) v=R):=⟨_,aa rfl⟩;rw[HR.out];have BF:=mo Tryz.underlying53 (.func 21) #[.pointer (some ⟨gb,0,none⟩)] #[];have Uh:=mo Tryz.underlying53 (.func 22) #[.pointer (some ⟨gb,0,none⟩)] #[];have hn3:=mo Tryz.underlying234 (.func f) #[] cs;have cT:Hid (Below w.heap.size w ((w.alloc (.cells #[.func (.func f) #[] cs] 234)).alloc (.cells #[.int .u32 (v.toNat:Int)] 26))):=aa (ai.alloc ah _);have iY:Hid (((w.alloc (.cells #[.func (.func f) #[] cs] 234)).alloc (.cells #[.int .u32 (v.toNat:Int)] 26)).heap[w.heap.size]? = some (.cells #[.func (.func f) #[] cs] 234)/\((w.alloc (.cells #[.func (.func f) #[] cs] 234)).alloc (.cells #[.int .u32 (v.toNat:Int)] 26)).heap[w.heap.size+1]? = some (.cells #[.int .u32 (v.toNat:Int)] 26)/\((w.alloc (.cells #[.func (.func f) #[] cs] 234)).alloc (.cells #[.int .u32 (v.toNat:Int)] 26)).heap.size=w.heap.size+2):=aa (by
  grind [World.alloc])
 have hb:=aa (I2 HW (H.o.moved (au.aW H.o.held.aX cT.o)) hv);have Tb:Hid (∀W o' d',au (fun _=>False) n pb db w o d W o' d' L->fI w0 W pb db n o' d' L gb gen N ob ib vb es/\I1 W o' (.func (.func f) #[] cs) A K):=aa (fun W o' d' hm=>⟨H.o.moved hm,HA.o.moved hm⟩);unfold qX uO Fk at *;unfold ptrTo at *;go_enter func142,ntmps142;go_wp2_with fail;refine hb.o.mono ?_;rintro e w2⟨iv,ov,d2,o2,rfl,cQ,Da,kr,hf2⟩;obtain⟨ia,ic,rfl⟩:=az Da;obtain⟨oa,oc,rfl⟩:=az kr;obtain⟨M1,Hf⟩:∃M,M=(fC es v.toNat).length:=⟨_,rfl⟩;obtain⟨M2,JE⟩:∃M,M=(aY es v.toNat).length:=⟨_,rfl⟩;rw[<- Hf]at Da hf2 ⊢;rw[<- JE]at kr hf2 ⊢;have HM:Hid (M1=(fC es v.toNat).length/\M2=(aY es v.toNat).length/\M1<=1000/\M2<=1000):=aa ⟨Hf,JE,by rw[Hf];exact Nat.le_trans (Bb _ _) H.o.len,by rw[JE];exact Nat.le_trans (nh _ _) H.o.len⟩;clear Hf JE;rw[iY.o.2.2]at Da kr;obtain⟨sv,Qx⟩:∃x,x=w.heap.size+1:=⟨_,rfl⟩;obtain⟨ab,hab⟩:∃x,x=w.heap.size:=⟨_,rfl⟩;have eB:Hid (BM n pb db w o d L w2 (fun b=>b=sv\/b=ab\/(Value.slice ia M1 ic).ownBlock=some b\/(Value.slice oa M2 oc).ownBlock=some b) (.slice none 0 0) [] w2 o2 d2):=aa (by
  have hz:=iY.o.2.2;have hz2:=cQ.size;have dS:∀b,w.heap.size<=b->o b=none:=fun b hb=>H.o.held.aX.fresh hb;refine⟨(au.aW H.o.held.aX cT.o).trans cQ (fun _ _ e=>e),fun b hb=>⟨rfl,?_⟩,World.ownsRow_nil _ _ _ _,fun b hb=>by cases hb⟩;rcases hb with rfl | rfl | e | e
  ·exact⟨ae,ae,cQ.free ae (dS _ ae)⟩
  ·exact⟨ae,ae,cQ.free ae (dS _ ae)⟩
  ·have:=aL Da b e;exact⟨this.1,ae,hf2 b (.inl e)⟩
  ·have:=aL kr b e;exact⟨this.1,ae,hf2 b (.inr e)⟩)
 have HK:Hid (aI w2 (w.heap.size+2) (.slice ia M1 ic) (fC es v.toNat)/\aI w2 (w.heap.size+2) (.slice oa M2 oc) (aY es v.toNat)/\w2.heap[sv]? = some (.cells #[.int .u32 (v.toNat:Int)] 26)/\w2.heap[ab]? = some (.cells #[.func (.func f) #[] cs] 234)):=aa (by
  have dS:∀b,w.heap.size<=b->o b=none:=fun b hb=>H.o.held.aX.fresh hb;exact⟨Da,kr,by rw[Qx];exact cQ.heap iY.o.2.1 (dS _ ae) (fun e=>e),by rw[hab];exact cQ.heap iY.o.1 (dS _ ae) (fun e=>e)⟩)
 clear cQ Da kr hf2 cT iY hb BF Uh hn3;go_wp2;rw[<- Qx,<- hab];clear Qx hab;go_loopw [8,50] (fun vl vi wr=>∃(i:Nat)(acc:List aJ)(d':Dsk)(o':ar),vi=.int .i64 (i:Int)/\i<=M1/\Hid (BM n pb db w o d L w2 (fun b=>b=sv\/b=ab\/(Value.slice ia M1 ic).ownBlock=some b\/(Value.slice oa M2 oc).ownBlock=some b) vl acc wr o' d')/\Hid (acc=((fC es v.toNat).take i).flatMap (fun a=>(aY es v.toNat).filterMap (jJ (aY es) A v a)))) (fun _ vi _=>M1-(intOf vi).toNat)
 case atStart=>exact⟨0,[],d2,o2,rfl,Nat.zero_le _,eB,aa rfl⟩
 case round=>
  obtain⟨i,acc,d3,o3,rfl,hi,fB,HA3⟩:=hrel;clear eB;generalize wr=W3 at *;obtain⟨la,lc,rfl⟩:=az fB.out.row;by_cases hlt:i<M1
  ·have hiz:(i:Int)<(M1:Int):=by omega
   have wi:IntKind.i64.wrap ((i:Int)+1)=((i+1:Nat):Int):=by grind [Hid.out,ax]
   obtain⟨a,ha⟩:∃x,(fC es v.toNat)[i]? = some x:=⟨_,List.getElem?_eq_getElem (by grind [Hid.out])⟩;have HIA:=aa ha;have HAN:Hid (a.t.toNat<N/\a.t.toNat<4294967296/\a.x.toNat<18446744073709551616):=aa ⟨(H.o.ends a (MZ (List.mem_of_getElem? ha)).1).1,a.t.toNat_lt,a.x.toNat_lt⟩;obtain⟨gi,rfl⟩:∃g,ia=some ⟨g,0,none⟩:=by
    obtain⟨-,⟨h1,h2⟩|⟨g,_,_,h1,_⟩⟩:=HK.o.1
    ·grind
    grind
   have hrow:aI W3 (w.heap.size+2) (.slice (some ⟨gi,0,none⟩) (fC es v.toNat).length ic) (fC es v.toNat):=by rw[<- HM.o.1];exact bI HK.o.1 (fun b hb=>(fB.out.keep b (.inr (.inr (.inl hb)))).1)
   obtain⟨q0,q1,q2,q3⟩:=bL hrow ha;have gq:=aa (fB.out.below (aj.alloc (Nat.le_refl _) (.cells #[.int .u32 (a.t.toNat:Int),.int .u32 (a.h.toNat:Int),.int .u64 (a.x.toNat:Int),.int .u32 (a.m.toNat:Int)] 64)));have K0:Hid ((W3.alloc (.cells #[.int .u32 (a.t.toNat:Int),.int .u32 (a.h.toNat:Int),.int .u64 (a.x.toNat:Int),.int .u32 (a.m.toNat:Int)] 64)).heap[W3.heap.size]? = some (.cells #[.int .u32 (a.t.toNat:Int),.int .u32 (a.h.toNat:Int),.int .u64 (a.x.toNat:Int),.int .u32 (a.m.toNat:Int)] 64)):=aa (heap_alloc_new _ _);obtain⟨xa,hxa⟩:∃x,x=W3.heap.size:=⟨_,rfl⟩;have b9:Hid (BM n pb db w o d L (W3.alloc (.cells #[.int .u32 (a.t.toNat:Int),.int .u32 (a.h.toNat:Int),.int .u64 (a.x.toNat:Int),.int .u32 (a.m.toNat:Int)] 64)) (fun b=>(b=sv\/b=ab\/(Value.slice (some ⟨gi,0,none⟩) M1 ic).ownBlock=some b\/(Value.slice oa M2 oc).ownBlock=some b)\/b=xa) (.slice la acc.length lc) acc (W3.alloc (.cells #[.int .u32 (a.t.toNat:Int),.int .u32 (a.h.toNat:Int),.int .u64 (a.x.toNat:Int),.int .u32 (a.m.toNat:Int)] 64)) o3 d3):=aa (gq.o.aeE xa (by simp_all) (by rw[hxa];exact fB.out.mv.size) (fB.out.mv.aX.fresh ae) (fun e=>by have:=(aL fB.out.row _ e).1;omega));rw[<- hxa]at K0;clear hrow ha;go_wp2_with fail;rw[<- hxa];clear q0 q1 q2 q3 hxa;generalize W3.alloc (.cells #[.int .u32 (a.t.toNat:Int),.int .u32 (a.h.toNat:Int),.int .u64 (a.x.toNat:Int),.int .u32 (a.m.toNat:Int)] 64)=W4 at *;have x0:W4.cell? ⟨xa,0,none⟩=some (.int .u32 (a.t.toNat:Int)):=by rw[aq K0.o];rfl
   have x1:=(Array.getElem?_eq_some_iff.1 K0.o).1;go_step3
   go_wp2_with fail;go_step3
   go_wp2_with fail;clear x0 x1;have O4:Hid (∀lv acc W o' d',BM n pb db w o d L W4 (fun b=>(b=sv\/b=ab\/(Value.slice (some ⟨gi,0,none⟩) M1 ic).ownBlock=some b\/(Value.slice oa M2 oc).ownBlock=some b)\/b=xa) lv acc W o' d'->(W.heap[sv]? = some (.cells #[.int .u32 (v.toNat:Int)] 26)/\W.heap[ab]? = some (.cells #[.func (.func f) #[] cs] 234))/\W.heap[xa]? = some (.cells #[.int .u32 (a.t.toNat:Int),.int .u32 (a.h.toNat:Int),.int .u64 (a.x.toNat:Int),.int .u32 (a.m.toNat:Int)] 64)/\aI W (w.heap.size+2) (.slice oa M2 oc) (aY es v.toNat)/\∀x:Nat,x<4294967296->Calls prog 200 #[.int .u32 (x:Int),.pointer (some ⟨sv,0,none⟩),.pointer (some ⟨ab,0,none⟩)] W fun e W'=>e=.returned (.bool (x == v.toNat || A x))/\Below W.heap.size W W'):=aa (fun lv acc W o' d' hs=>by
    have k1:=(hs.keep sv (.inl (.inl rfl))).1.trans ((gq.o.keep sv (.inl rfl)).1.trans HK.o.2.2.1);have k2:=(hs.keep ab (.inl (.inr (.inl rfl)))).1.trans ((gq.o.keep ab (.inr (.inl rfl))).1.trans HK.o.2.2.2);exact⟨⟨k1,k2⟩,(hs.keep xa (.inr rfl)).1.trans K0.o,bI HK.o.2.1 (fun b hb=>(hs.keep b (.inl (.inr (.inr (.inr hb))))).1.trans (gq.o.keep b (.inr (.inr (.inr hb)))).1),fun x hx=>M0 (Tb.o _ _ _ hs.mv).2 v.toNat x hx (fun _ _=>rfl) (Nat.le_refl _) k1 k2⟩)
   go_loopw [8,58] (fun vl vk wr=>∃(k:Nat)(kR:List aJ)(d':Dsk)(o':ar),vk=.int .i64 (k:Int)/\k<=M2/\Hid (BM n pb db w o d L W4 (fun b=>(b=sv\/b=ab\/(Value.slice (some ⟨gi,0,none⟩) M1 ic).ownBlock=some b\/(Value.slice oa M2 oc).ownBlock=some b)\/b=xa) vl kR wr o' d')/\Hid (kR=acc++((aY es v.toNat).take k).filterMap (jJ (aY es) A v a))) (fun _ vk _=>M2-(intOf vk).toNat)
   case atStart=>exact⟨0,acc,d3,o3,rfl,Nat.zero_le _,b9,aa ah⟩
   case round=>
    obtain⟨k,kR,d6,o6,rfl,hk,gA,Up⟩:=hrel;clear b9;generalize wr=W6 at *;obtain⟨ma,mc,rfl⟩:=az gA.out.row;by_cases hkt:k<M2
    ·have FV:(k:Int)<(M2:Int):=by omega
     have wk:IntKind.i64.wrap ((k:Int)+1)=((k+1:Nat):Int):=by have:=HM.o;rw[ax]<;>omega
     obtain⟨b,hb⟩:∃x,(aY es v.toNat)[k]? = some x:=⟨_,List.getElem?_eq_getElem (by have:=HM.o;omega)⟩;have JO:=aa hb;have HBN:Hid (b.h.toNat<N/\b.h.toNat<4294967296/\b.x.toNat<18446744073709551616):=aa ⟨(H.o.ends b (A9 (List.mem_of_getElem? hb)).1).2,b.h.toNat_lt,b.x.toNat_lt⟩;obtain⟨gg,rfl⟩:∃g,oa=some ⟨g,0,none⟩:=by
      obtain⟨-,⟨h1,h2⟩|⟨g,_,_,h1,_⟩⟩:=HK.o.2.1
      ·simp_all
      simp_all
     have hrow:aI W6 (w.heap.size+2) (.slice (some ⟨gg,0,none⟩) (aY es v.toNat).length oc) (aY es v.toNat):=by rw[<- HM.o.2.1];exact(O4.o _ _ _ _ _ gA.out).2.2.1
     obtain⟨q0,q1,q2,q3⟩:=bL hrow hb;have jU:=aa (gA.out.below (aj.alloc (Nat.le_refl _) (.cells #[.int .u32 (b.t.toNat:Int),.int .u32 (b.h.toNat:Int),.int .u64 (b.x.toNat:Int),.int .u32 (b.m.toNat:Int)] 64)));have JL:Hid ((W6.alloc (.cells #[.int .u32 (b.t.toNat:Int),.int .u32 (b.h.toNat:Int),.int .u64 (b.x.toNat:Int),.int .u32 (b.m.toNat:Int)] 64)).heap[W6.heap.size]? = some (.cells #[.int .u32 (b.t.toNat:Int),.int .u32 (b.h.toNat:Int),.int .u64 (b.x.toNat:Int),.int .u32 (b.m.toNat:Int)] 64)):=aa (heap_alloc_new _ _);clear hrow hb;by_cases c1:a.t.toNat=b.h.toNat
     ·have c1z:(a.t.toNat:Int)=(b.h.toNat:Int):=by omega
      have C1:=aa c1;clear c1;have HN:jJ (aY es) A v a b=none:=by unfold jJ;exact if_pos (.inl C1.o)
      have Lx:Hid (kR=acc++((aY es v.toNat).take (k+1)).filterMap (jJ (aY es) A v a)):=aa (by rw[gL JO.o,HN,Up.out];simp);clear HN;go_wp2;go_roundw
      case rel=>exact⟨k+1,kR,d6,o6,by go_num,ae,jU,Lx⟩
      case measure=>simp[intOf];omega
     ·have c1z:¬(a.t.toNat:Int)=(b.h.toNat:Int):=by omega
      have C1:=aa c1;clear c1;have hs1:=aa ((O4.o _ _ _ _ _ jU.o).2.2.2 _ HAN.o.2.1);go_wp2_with fail;refine hs1.o.mono ?_;rintro e w8⟨rfl,PB⟩;have jG:=aa (jU.o.below PB);have aaq:=aa ((PB.block _ (Array.getElem?_eq_some_iff.1 JL.o).1).trans JL.o);clear q0 q1 q2 q3 hs1 PB jU JL;by_cases c2:(a.t.toNat == v.toNat || A a.t.toNat)=true
      ·rw[c2];have C2:=aa c2;clear c2;have HN:jJ (aY es) A v a b=none:=by unfold jJ;exact if_pos (.inr (.inl C2.o))
       have Lx:Hid (kR=acc++((aY es v.toNat).take (k+1)).filterMap (jJ (aY es) A v a)):=aa (by rw[gL JO.o,HN,Up.out];simp);clear HN;go_wp2;go_roundw
       case rel=>exact⟨k+1,kR,d6,o6,by go_num,ae,jG,Lx⟩
       case measure=>simp[intOf];omega
      ·have c2f:(a.t.toNat == v.toNat || A a.t.toNat)=false:=by simp_all
       rw[c2f];have C2:=aa c2;clear c2 c2f;have hs2:=aa ((O4.o _ _ _ _ _ jG.o).2.2.2 _ HBN.o.2.1);go_wp2_with fail;refine hs2.o.mono ?_;rintro e w9⟨rfl,Ov⟩;have qg:=aa (jG.o.below Ov);have aeI:=aa ((Ov.block _ (Array.getElem?_eq_some_iff.1 aaq.o).1).trans aaq.o);clear hs2 Ov jG aaq;by_cases c3:(b.h.toNat == v.toNat || A b.h.toNat)=true
       ·rw[c3];have C3:=aa c3;clear c3;have HN:jJ (aY es) A v a b=none:=by unfold jJ;exact if_pos (.inr (.inr (.inl C3.o)))
        have Lx:Hid (kR=acc++((aY es v.toNat).take (k+1)).filterMap (jJ (aY es) A v a)):=aa (by rw[gL JO.o,HN,Up.out];simp);clear HN;go_wp2;go_roundw
        case rel=>exact⟨k+1,kR,d6,o6,by go_num,ae,qg,Lx⟩
        case measure=>simp[intOf];omega
       ·have c3f:(b.h.toNat == v.toNat || A b.h.toNat)=false:=by simp_all
        rw[c3f];have C3:=aa c3;clear c3 c3f;generalize FX:W6.heap.size=xb at *;clear FX;have y2:w9.cell? ⟨xb,2,none⟩=some (.int .u64 (b.x.toNat:Int)):=by rw[aq aeI.o];rfl
        have y3:w9.cell? ⟨xa,2,none⟩=some (.int .u64 (a.x.toNat:Int)):=by rw[aq (O4.o _ _ _ _ _ qg.o).2.1];rfl
        have lf:=aa (II a.x.toNat b.x.toNat HAN.o.2.2 HBN.o.2.2 w9);go_wp2_with fail;refine lf.o.mono ?_;rintro e VE⟨rfl,rfl⟩;clear y2 y3 lf;by_cases il:a.x.toNat+b.x.toNat<9223372036854775808
        ·obtain⟨X,hX⟩:∃X:UInt64,X.toNat=a.x.toNat+b.x.toNat:=⟨UInt64.ofNat (a.x.toNat+b.x.toNat),by rw[UInt64.toNat_ofNat'];omega⟩;have S4:Lf a.x.toNat b.x.toNat=.tuple #[.int .u64 (X.toNat:Int),.bool true]:=by rw[hX];exact if_pos il
         rw[S4];have HXS:=aa hX;have UN:=aa il;clear S4 il hX;have hout:=aa ((Tb.o _ _ _ qg.o.mv).1.out HW HAN.o.1);unfold jx ptrTo at hout;go_wp2_with fail;refine hout.o.mono ?_;rintro e w11⟨ev,d11,o11,rfl,aeJ,hown,-⟩;obtain⟨ea,ec,rfl⟩:=az hown;obtain⟨M3,hM3⟩:∃M,M=(aY es a.t.toNat).length:=⟨_,rfl⟩;rw[<- hM3]at hown ⊢;have Bc:=aa (qg.o.moved aeJ);have XX:=aa hown;have eC:Hid (M3=(aY es a.t.toNat).length/\M3<=1000):=aa ⟨hM3,by rw[hM3];exact Nat.le_trans (nh _ _) H.o.len⟩;clear aeJ hown hM3 hout qg aeI;go_wp2_with fail;go_loopw [98] (fun vq wr=>∃q:Nat,vq=.int .i64 (q:Int)/\q<=M3/\Hid (BM n pb db w o d L W4 (fun b=>(b=sv\/b=ab\/(Value.slice (some ⟨gi,0,none⟩) M1 ic).ownBlock=some b\/(Value.slice (some ⟨gg,0,none⟩) M2 oc).ownBlock=some b)\/b=xa) (.slice ma kR.length mc) kR wr o11 d11)/\Hid (aI wr VE.heap.size (.slice ea M3 ec) (aY es a.t.toNat))/\Hid (∀y∈(aY es a.t.toNat).take q,¬(y.h.toNat=b.h.toNat/\y.x.toNat<=X.toNat))) (fun vq _=>M3-(intOf vq).toNat)
         case atStart=>exact⟨0,rfl,Nat.zero_le _,Bc,XX,aa ah⟩
         case round=>
          obtain⟨q,rfl,hq,xe,Tc,aar⟩:=hrel;clear Bc XX;generalize wr=Wq at *;by_cases hqt:q<M3
          ·have hqz:(q:Int)<(M3:Int):=by omega
           have wq:IntKind.i64.wrap ((q:Int)+1)=((q+1:Nat):Int):=by have:=eC.o;rw[ax]<;>omega
           obtain⟨y,hy⟩:∃x,(aY es a.t.toNat)[q]? = some x:=⟨_,List.getElem?_eq_getElem (by have:=eC.o;omega)⟩;have HY:=aa hy;obtain⟨ge,rfl⟩:∃g,ea=some ⟨g,0,none⟩:=by
            obtain⟨-,⟨h1,h2⟩|⟨g,_,_,h1,_⟩⟩:=Tc.out
            ·simp_all
            simp_all
           have hrow:aI Wq VE.heap.size (.slice (some ⟨ge,0,none⟩) (aY es a.t.toNat).length ec) (aY es a.t.toNat):=by rw[<- eC.o.1];assumption
           obtain⟨q0,q1,q2,q3⟩:=bL hrow hy;have aeK:Hid (Below Wq.heap.size Wq (Wq.alloc (.cells #[.int .u32 (y.t.toNat:Int),.int .u32 (y.h.toNat:Int),.int .u64 (y.x.toNat:Int),.int .u32 (y.m.toNat:Int)] 64))):=aa ai;have yY:=aa (xe.out.below aeK.o);have XY:=aa (aV Tc.out aeK.o);clear hrow hy;by_cases e1:y.h.toNat=b.h.toNat/\y.x.toNat<=X.toNat
           ·have z1:((y.h.toNat:Int) == (b.h.toNat:Int))=true:=by simp_all
            have z2:(y.x.toNat:Int)<=(X.toNat:Int):=by omega
            have Dk:Hid (∃x∈aY es a.t.toNat,x.h.toNat=b.h.toNat/\x.x.toNat<=a.x.toNat+b.x.toNat):=aa ⟨y,List.mem_of_getElem? HY.o,e1.1,by rw[<- HXS.o];omega⟩;clear e1;have HN:jJ (aY es) A v a b=none:=by unfold jJ;exact if_pos (.inr (.inr (.inr (.inr (.inl Dk.o)))))
            have Lx:Hid (kR=acc++((aY es v.toNat).take (k+1)).filterMap (jJ (aY es) A v a)):=aa (by rw[gL JO.o,HN,Up.out];simp);clear HN;go_wp2;go_roundw
            case rel=>exact⟨k+1,kR,d11,o11,by go_num,ae,yY,Lx⟩
            case measure=>simp[intOf];omega
           ·have aeL:Hid (∀y∈(aY es a.t.toNat).take (q+1),¬(y.h.toNat=b.h.toNat/\y.x.toNat<=X.toNat)):=aa (fun z hz=>by
             obtain⟨hl,Z8⟩:=List.getElem?_eq_some_iff.1 HY.o;rw[List.take_succ_eq_append_getElem hl,List.mem_append,List.mem_singleton]at hz;rcases hz with hz | rfl
             ·exact aar.out z hz
             simp_all)
            by_cases z0:y.h.toNat=b.h.toNat
            ·have z2:¬(y.x.toNat:Int)<=(X.toNat:Int):=fun h=>e1 ⟨ae,ae⟩;have z1:((y.h.toNat:Int) == (b.h.toNat:Int))=true:=by simp_all
             clear e1 z0;go_wp2;go_roundw
             case rel=>exact⟨q+1,by go_num,ae,yY,XY,aeL⟩
             case measure=>simp[intOf];omega
            ·have z1:¬(y.h.toNat:Int)=(b.h.toNat:Int):=by omega
             clear e1 z0;go_wp2;go_roundw
             case rel=>exact⟨q+1,by go_num,ae,yY,XY,aeL⟩
             case measure=>simp[intOf];omega
          ·have hqz:¬(q:Int)<(M3:Int):=by omega
           have sX:Hid (¬∃x∈aY es a.t.toNat,x.h.toNat=b.h.toNat/\x.x.toNat<=a.x.toNat+b.x.toNat):=aa (fun⟨y,h1,h2⟩=>aar.out y (by rw[List.take_of_length_le (by have:=eC.o;omega)];exact h1) (by rw[HXS.o];exact h2));have hfi:th w0 Wq pb db n o11 d11 L gb gen N ob ib vb es (fun x=>x == v.toNat || A x) sv ab (fun x=>K x\/x=sv\/x=ab):=by
            obtain⟨hn,hv'⟩:=Tb.o _ _ _ xe.out.mv;obtain⟨⟨k1,k2⟩,-,-,-⟩:=O4.o _ _ _ _ _ xe.out;refine⟨hn.held,hn.need,hn.gr,hn.file,hn.len,hn.top,hn.ends,fun x hx=>?_,fun W x hk hs hx=>M0 hv' v.toNat x hx (fun b hb=>hk b (.inl hb)) hs ((hk sv (.inr (.inl rfl))).trans k1) ((hk ab (.inr (.inr rfl))).trans k2)⟩;rcases hx with hx | rfl | rfl
            ·exact hv'.old x hx
            ·exact⟨(xe.out.keep _ (.inl (.inl rfl))).2.1,(xe.out.keep _ (.inl (.inl rfl))).2.2.2⟩
            ·exact⟨(xe.out.keep _ (.inl (.inr (.inl rfl)))).2.1,(xe.out.keep _ (.inl (.inr (.inl rfl)))).2.2.2⟩
           have hf:=aa (I0 HW hfi a.t.toNat b.h.toNat X.toNat HAN.o.1);unfold oM ptrTo at hf;clear hfi Tc aar;go_wp2_with fail;refine hf.o.mono ?_;rintro e w13⟨d13,o13,rfl,aeN⟩;have yY:=aa (xe.out.moved aeN);clear hf aeN xe;by_cases Td:mZ (aY es) (fun x=>x == v.toNat || A x) b.h.toNat X.toNat 16 [(a.t.toNat,0)] []=true
           ·rw[Td];have HFD:Hid (mZ (aY es) (fun x=>x == v.toNat || A x) b.h.toNat (a.x.toNat+b.x.toNat) 16 [(a.t.toNat,0)] []=true):=aa (by rw[<- HXS.o];omega);clear Td;have HN:jJ (aY es) A v a b=none:=by unfold jJ;exact if_pos (.inr (.inr (.inr (.inr (.inr HFD.o)))))
            have Lx:Hid (kR=acc++((aY es v.toNat).take (k+1)).filterMap (jJ (aY es) A v a)):=aa (by rw[gL JO.o,HN,Up.out];simp);clear HN;go_wp2;go_roundw
            case rel=>exact⟨k+1,kR,d13,o13,by go_num,ae,yY,Lx⟩
            case measure=>simp[intOf];omega
           ·have GN:mZ (aY es) (fun x=>x == v.toNat || A x) b.h.toNat X.toNat 16 [(a.t.toNat,0)] []=false:=by simp_all
            rw[GN];have HFD:Hid (¬mZ (aY es) (fun x=>x == v.toNat || A x) b.h.toNat (a.x.toNat+b.x.toNat) 16 [(a.t.toNat,0)] []=true):=aa (by rw[<- HXS.o];omega);have HCF:Hid (jJ (aY es) A v a b=some ⟨a.t,b.h,X,v⟩):=aa (by
             have e0:UInt64.ofNat (a.x.toNat+b.x.toNat)=X:=by rw[<- HXS.o];simp
             unfold jJ;dsimp only;rw[if_neg,e0];rintro(h | h | h | h | h | h)
             ·omega
             ·exact C2.o h
             ·exact C3.o h
             ·exact h UN.o
             ·exact sX.o h
             ·exact HFD.o h)
            have HLN:Hid (kR.length<=100000):=aa (by
             have h1:acc.length<=i*M2:=by rw[HA3.out];exact I3 (fun x=>by have:=List.length_filterMap_le (jJ (aY es) A v x) (aY es v.toNat);have:=HM.o;omega) (by rw[List.length_take];omega)
             have h2:(((aY es v.toNat).take k).filterMap (jJ (aY es) A v a)).length<=k:=Nat.le_trans (List.length_filterMap_le _ _) (by rw[List.length_take];omega);have h3:(i+1)*M2<=M1*M2:=Nat.mul_le_mul_right _ ae;rw[Nat.succ_mul]at h3;have h4:=HDG.o;rw[Up.out,List.length_append];have:=HM.o;rw[<- this.1,<- this.2.1]at h4;omega)
            have Mz:Hid (w.heap.size<=w13.heap.size):=aa yY.o.mv.size;have k5:w13.cell? ⟨sv,0,none⟩=some (.int .u32 (v.toNat:Int)):=by rw[aq (O4.o _ _ _ _ _ yY.o).1.1];rfl
            clear Td GN sX;go_wp2_with (at_builtin;refine cS rfl _ _ rfl w.heap.size _ kR rfl yY.o.row ⟨a.t,b.h,X,v⟩ 1 rfl HLN.o Mz.o ?_);intro l14 P2 aeP aeQ;have tj:=aa (yY.o.IA aeP aeQ);have akj:Hid (kR++[⟨a.t,b.h,X,v⟩]=acc++((aY es v.toNat).take (k+1)).filterMap (jJ (aY es) A v a)):=aa (by rw[gL JO.o,HCF.o,Up.out];simp);clear aeP aeQ yY;go_wp2;go_roundw
            case rel=>exact⟨k+1,_,d13,o13,by go_num,ae,tj,akj⟩
            case measure=>simp[intOf];omega
        ·have S4:Lf a.x.toNat b.x.toNat=.tuple #[.int .u64 0,.bool false]:=if_neg il;rw[S4];have UN:=aa il;clear S4 il;have HN:jJ (aY es) A v a b=none:=by unfold jJ;exact if_pos (.inr (.inr (.inr (.inl UN.o))))
         have Lx:Hid (kR=acc++((aY es v.toNat).take (k+1)).filterMap (jJ (aY es) A v a)):=aa (by rw[gL JO.o,HN,Up.out];simp);clear HN;go_wp2;go_roundw
         case rel=>exact⟨k+1,kR,d6,o6,by go_num,ae,qg,Lx⟩
         case measure=>simp[intOf];omega
    ·have FV:¬(k:Int)<(M2:Int):=by omega
     have jU:=aa (gq.o.narrow gA.out);have SJ:Hid (kR=((fC es v.toNat).take (i+1)).flatMap (fun a=>(aY es v.toNat).filterMap (jJ (aY es) A v a))):=aa (by
      rw[rJ HIA.o,Up.out,HA3.out,List.take_of_length_le (l:=aY es v.toNat) (by have:=HM.o;omega)])
     clear gA Up;go_wp2;go_roundw
     case rel=>exact⟨i+1,kR,d6,o6,by go_num,ae,jU,SJ⟩
     case measure=>simp[intOf];omega
  ·have hiz:¬(i:Int)<(M1:Int):=by omega
   have Gr:acc.length<=lc:=by
    obtain⟨-,⟨h1,h2⟩|⟨_,_,_,h1,-,-,h7,-⟩⟩:=fB.out.row
    ·omega
    grind
   have HQ:Hid (uP n pb db w o d L R (.returned (.tuple #[.slice la acc.length acc.length,.int .i64 0])) W3):=aa ⟨_,d3,o3,rfl,fB.out.mv,by
    have e:acc=R:=by rw[HA3.out,<- HR.out,List.take_of_length_le (by grind [Hid.out])];rfl
    subst e;exact S8 fB.out.row,fun x hx=>by
    cases la with
    |none=>cases hx
    |some p=>exact⟨(fB.out.own x hx).2,(aL fB.out.row x hx).2,(aL fB.out.row x hx).1⟩⟩
   have zK:=aa (Ta (a:=la) Gr W3);clear Gr;go_wp2_with fail;refine zK.o.mono ?_;rintro e w4⟨rfl,rfl⟩;clear zK;go_wp2;go_returns;exact HQ.o
end
end
section
open Go.RowKit Go.Maps
theorem Lz(args:Array Value)(w:World):Sem.run prog (callFunc 143 args) w=.ok (.enter 143 args) w:=by go_simp
theorem LA(x:Nat)(w:World):Calls prog 143 #[.int .u32 (x:Int)] w fun e w'=>e=.returned (.bool false)/\w'=w:=by
 go_enter func143,ntmps143;go_wp2;go_ret;simp
theorem aas(w:World)(o:ar):I1 w o (.func (.func 143) #[] #[]) (fun _=>false) (fun _=>False):=
 ⟨⟨_,_,rfl,Lz,fun W x _ _ _=>(LA x W).mono fun _ _ ⟨h1,h2⟩=>⟨h1,h2▸Below.refl _ _⟩⟩,(by grind)⟩
section
variable {w0 w w' W:World} {pb db n gb gen N ob ib vb:Nat} {o o':ar} {d d':Dsk} {L:aD} {es:List aJ}
def DO(n pb db:Nat)(w:World)(o:ar)(d:Dsk)(L:aD)(i k c:Nat)(e:Ending)(w':World):Prop:=
 ∃d' o',e=.returned (.tuple #[.int .i64 (i:Int),.int .i64 (k:Int),.int .i64 (c:Int),.int .i64 0])/\au (fun _=>False) n pb db w o d w' o' d' L
theorem I4(HW:aP)(h:fI w0 w pb db n o d L gb gen N ob ib vb es)(v:UInt32)(hv:v.toNat<N)(wZ:(fC es v.toNat).length*(aY es v.toNat).length<=100000) :
 Calls prog 97 #[uO gb,Fk gb,.int .u32 (v.toNat:Int)] w (DO n pb db w o d L (fC es v.toNat).length (aY es v.toNat).length (oJ (aY es) (fun _=>false) (fC es v.toNat) v).length):=by
 have vL:=aa (sH HW h (aas w o) v hv wZ);have HB:Hid (∀W o' d',au (fun _=>False) n pb db w o d W o' d' L->Calls prog 144 #[uO gb,Fk gb,.int .u32 (v.toNat:Int)] W (qX n pb db W o' d' L es v.toNat)):=aa (fun W o' d' hm=>I2 HW (h.moved hm) hv);clear h;generalize oJ (aY es) (fun _=>false) (fC es v.toNat) v=C at *;unfold uO Fk at *;unfold ptrTo uP qX at *;go_enter func97,ntmps97;go_wp2_with fail;refine vL.o.mono ?_;rintro e w1⟨cv,d1,o1,rfl,ee,⟨ca,cc,rfl,-⟩,-⟩;have eu:=aa ee;have hb:=aa (HB.o _ _ _ ee);clear ee vL;go_wp2_with fail;refine hb.o.mono ?_;rintro e w2⟨iv,ov,d2,o2,rfl,cQ,Da,kr,-⟩;obtain⟨ia,ic,rfl⟩:=az Da;obtain⟨oa,oc,rfl⟩:=az kr;have HQ:Hid (DO n pb db w o d L (fC es v.toNat).length (aY es v.toNat).length C.length (.returned (.tuple #[.int .i64 ((fC es v.toNat).length:Int),.int .i64 ((aY es v.toNat).length:Int),.int .i64 (C.length:Int),.int .i64 0])) w2):=aa ⟨d2,o2,rfl,eu.o.trans cQ (by grind)⟩;clear cQ Da kr hb;go_wp2;go_returns;exact HQ.o
end
end
section
open Go.RowKit Go.Maps
open Go.ChangeMaps (setBlock)
theorem Fl(S:List Nat)(x:Nat):aB (S.map fun x=>(x,())) x=if x∈S then some () else none:=by
 have h:=rI S x;unfold p7 at h;cases e:aB (S.map fun x=>(x,())) x with
 |none=>
   grind
 |some u=>
   grind
abbrev bF(w:World)(base:Nat)(v:Value)(l:List Nat):Prop:=w.ownsRow base 26 1 v l.length (l.map iX)
theorem I5:(prog.info? 26).map (fun i=>(i.zero,i.size,i.bytes))=some (some (.int .u32 0),1,4):=by kernel_rfl
theorem iy{w:World}{base g cap:Nat}{l:List Nat}{i x:Nat}(h:bF w base (.slice (some ⟨g,0,none⟩) l.length cap) l)(hi:l[i]? = some x):w.cell? ⟨g,i,none⟩=some (.int .u32 (x:Int)):=by
 have:=World.ownsRow.cells h (g:=g) rfl i (iX x) (by grind);grind [bG]
section
variable {w:World} {ops:Array Oper} {rest:List Oper} {op:Oper} {a:Act} {Q:Exit->Act->World->Prop}
theorem ni(hgd:op.guard=none)(s x:Operand)(ho:op.op=.call { callee:=.builtin .append,args:=#[s,x],argTypes:=#[88,88] })(base:Nat)(v:Value)(l:List Nat)(hs:a.eval s=v)(hown:bF w base v l)(y c:Nat)(hx:a.eval x=.slice (some ⟨w.heap.size,0,none⟩) 1 c)(hl:l.length<=100000)(hbase:base<=w.heap.size)(k:∀v' w',bF w' base v' (l++[y])->lr v (w.alloc (.cells #[.int .u32 (y:Int)] 26)) w' v'->wpList prog ops Q rest (a.put op.dst v') w') :
 wpList prog ops Q (op::rest) a (w.alloc (.cells #[.int .u32 (y:Int)] 26)):=by
 refine dR hgd s x 88 ho base 26 _ 1 4 Tryz.underlying88 I5 rfl af v l.length (l.map iX) hs (World.ownsRow.alloc hown _) ⟨w.heap.size,0,none⟩ 1 c [iX y] hx rfl (fun j u hj=>?_) (by simp[Value.oneCell']) (by grind [maxLen]) ae (by simp;omega) (fun v' w' h1 h2=>k v' w' ?_ h2)
 ·rw[bG,Nat.zero_add];simp_all
 grind
end
abbrev Te(w:World)(b:Nat)(S:List Nat):Prop:=bO prog 26 iX (fun _:Unit=>Value.int .i64 1) w b (S.map fun x=>(x,()))
structure jA(W:World)(base mc lc mb:Nat)(lv:Value)(acc:List Nat):Prop where
 c1:W.heap[mc]? = some (.cells #[.map (some mb)] 237)
 c2:W.heap[lc]? = some (.cells #[lv] 88)
 mp:Te W mb acc.reverse
 row:bF W base lv acc
 n1:mc≠lc
 n2:mc≠mb
 n3:lc≠mb
 n4:∀b,lv.ownBlock=some b->b≠mc/\b≠lc/\b≠mb
section
variable {W W':World} {base mc lc mb:Nat} {lv:Value} {acc:List Nat}
theorem jA.lt(h:jA W base mc lc mb lv acc):mc<W.heap.size/\lc<W.heap.size/\mb<W.heap.size/\∀b,lv.ownBlock=some b->b<W.heap.size:=
 ⟨(Array.getElem?_eq_some_iff.1 h.c1).1,(Array.getElem?_eq_some_iff.1 h.c2).1,h.mp.lt,fun b hb=>(aL h.row b hb).1⟩
theorem jA.kept(h:jA W base mc lc mb lv acc)(hk:∀b,b=mc\/b=lc\/b=mb\/lv.ownBlock=some b->W'.heap[b]? = W.heap[b]?):jA W' base mc lc mb lv acc:=
 ⟨(hk _ (.inl rfl)).trans h.c1,(hk _ (.inr (.inl rfl))).trans h.c2,h.mp.kept (hk _ (.inr (.inr (.inl rfl)))),bI h.row (fun b hb=>hk b (.inr (.inr (.inr hb)))),h.n1,h.n2,h.n3,h.n4⟩
theorem jA.below(h:jA W base mc lc mb lv acc)(hb:Below W.heap.size W W'):jA W' base mc lc mb lv acc:=by
 obtain⟨l1,l2,l3,l4⟩:=h.lt;grind [kept,Below.block]
def iz(acc:List Nat)(x:Nat):List Nat:=if x∈acc then acc else acc++[x]
def V7(W:World)(base mc lc mb:Nat)(lv:Value)(acc:List Nat)(x:Nat)(e:Ending)(W':World):Prop:=
 ∃JN,e=.returned (.tuple #[])/\jA W' base mc lc mb JN (iz acc x)/\aH (fun b=>b=mb\/b=lc\/lv.ownBlock=some b) W W'/\∀b,JN.ownBlock=some b->lv.ownBlock=some b\/W.heap.size<=b
theorem jA.added(h:jA W base mc lc mb lv acc){x:Nat}{rW ob2:Obj}{w5:World}{v5:Value}(hm:Te (setBlock W mb rW) mb (acc++[x]).reverse)(ha:lr lv ((setBlock W mb rW).alloc ob2) w5 v5)(h5:bF w5 base v5 (acc++[x])) :
 w5.heap[lc]? = some (.cells #[lv] 88)/\jA (w5.setCell ⟨lc,0,none⟩ v5) base mc lc mb v5 (acc++[x])/\aH (fun b=>b=mb\/b=lc\/lv.ownBlock=some b) W (w5.setCell ⟨lc,0,none⟩ v5)/\∀b,v5.ownBlock=some b->lv.ownBlock=some b\/W.heap.size<=b:=by
 obtain⟨l1,l2,l3,l4⟩:=h.lt;obtain⟨hg,hv⟩:=ha;have hs:(setBlock W mb rW).heap.size=W.heap.size:=by grind [setBlock]
 have mB:aH (fun b=>b=mb\/b=lc\/lv.ownBlock=some b) W ((setBlock W mb rW).alloc ob2):=((aH.refl _ W).setBlock _ _ ae).alloc _;have oU:aH (fun b=>lv.ownBlock=some b) ((setBlock W mb rW).alloc ob2) w5:=⟨hg.os,hg.tape,hg.output,hg.size,fun k hk hn=>hg.block k hk (by grind)⟩;have hz:∀b,b<W.heap.size->b<((setBlock W mb rW).alloc ob2).heap.size:=fun b hb=>by simp;omega
 have hk:∀b,b<W.heap.size->b≠mb->lv.ownBlock≠some b->w5.heap[b]? = W.heap[b]? := fun b hb h1 h2=>by
  grind [aH.block,MapKept.heap_alloc,bg]
 have e5:=(hk lc l2 h.n3 (fun e=>(h.n4 lc e).2.1 rfl)).trans h.c2;have Yj:∀b,v5.ownBlock=some b->lv.ownBlock=some b\/W.heap.size<=b:=(by grind);have hne:∀b,v5.ownBlock=some b->b≠mc/\b≠lc/\b≠mb:=fun b hb=>by
  grind [n4]
 have XZ:w5.heap[mb]? = (setBlock W mb rW).heap[mb]? := by
  grind [aH.block,n4,MapKept.heap_alloc]
 refine⟨e5,⟨?_,aT e5 0 v5,?_,?_,h.n1,h.n2,h.n3,hne⟩,(mB.trans oU (by grind)).setCell _ _ (by grind),Yj⟩
 ·grind [Below.heap_setCell,n2,n4,c1]
 ·grind [bO.kept,Below.heap_setCell,n3]
 grind [bI,Below.heap_setCell]
theorem O5(h:jA W base mc lc mb lv acc)(x:Nat)(hx:x<4294967296)(hl:acc.length<=100000)(hbase:base<=W.heap.size) :
 Calls prog 145 #[.int .u32 (x:Int),.pointer (some ⟨mc,0,none⟩),.pointer (some ⟨lc,0,none⟩)] W (V7 W base mc lc mb lv acc x):=by
 obtain⟨la,lk,rfl⟩:=az h.row;have H:=aa h;have HG:=aa (fQ hx);have HZ:Hid (∀W,(zeroValue 3).run prog W=.ok (.int .i64 0) W):=(by simp_all);have c0:W.cell? ⟨mc,0,none⟩=some (.map (some mb)):=by rw[aq h.c1];rfl
 have c1:W.cell? ⟨lc,0,none⟩=some (.slice la acc.length lk):=by rw[aq h.c2];rfl
 have HL:=aa hl;have HBA:=aa hbase;clear h hl hbase;by_cases qh:x∈acc
 ·have HM:Hid (aB (acc.reverse.map fun x=>(x,())) x=some ()):=aa (by grind [Fl]);have HO:Hid (iz acc x=acc):=aa (if_pos qh);clear qh;go_enter func145,ntmps145;go_wp2_with (at_lookup;refine bY _ rfl _ _ _ _ rfl 3 ck dv Tryz.underlying237 (HZ.o _) mb _ rfl H.o.mp x rfl HG.o ?_;rw[HM.o];simp only[Option.map_some,Option.getD_some,Bool.false_eq_true,if_false]);go_returns;exact⟨_,rfl,by grind [Hid.out],aH.refl _ _,fun b hb=>.inl hb⟩
 ·have HM:Hid (aB (acc.reverse.map fun x=>(x,())) x=none):=aa (by grind [Fl]);have HO:Hid (iz acc x=acc++[x]):=aa (if_neg qh);have nz:Hid (aS (acc.reverse.map fun x=>(x,())) x ()=(acc++[x]).reverse.map fun x=>(x,())):=aa (by grind [Fh]);clear qh;go_enter func145,ntmps145;go_wp2_with (first | (at_lookup;refine bY _ rfl _ _ _ _ rfl 3 ck dv Tryz.underlying237 (HZ.o _) mb _ rfl H.o.mp x rfl HG.o ?_;rw[HM.o];simp only[Option.map_none,Option.getD_none,Bool.false_eq_true,if_false]) | (at_mapUpdate;refine eO _ rfl _ _ _ _ rfl 3 ck dv Tryz.underlying237 mb _ rfl H.o.mp x () rfl rfl HG.o ?_;intro es clock cQ;rw[nz.o]at cQ;have eB:=aa cQ;clear cQ;have d1:(setBlock W mb (.map es clock)).cell? ⟨lc,0,none⟩=some (.slice la acc.length lk):=(by rw[World.cell?_of_block (a:=⟨lc,0,none⟩) (bg (w:=W) (b:=mb) (.map es clock) H.o.n3)];exact c1);have Gj:Hid (bF (setBlock W mb (.map es clock)) base (.slice la acc.length lk) acc):=aa (bI H.o.row (fun b hb=>bg _ (H.o.n4 b hb).2.2));have cZ:Hid (base<=(setBlock W mb (.map es clock)).heap.size):=aa (by grind [setBlock,Hid.out])) | (at_builtin;refine ni rfl _ _ rfl base _ acc rfl Gj.o x 1 rfl HL.o cZ.o ?_;intro v5 w5 h5 ha;obtain⟨e5,hst,y8,Cx⟩:=H.o.added eB.o ha h5;obtain⟨a5,k5,rfl⟩:=az h5;have HQ:=aa (show _/\_/\_ from⟨hst,y8,Cx⟩);have d5:w5.cell? ⟨lc,0,none⟩=some (.slice la acc.length lk):=(by rw[aq e5];rfl);have f5 :=fun k=>aO e5 k;clear hst y8 Cx h5 ha e5));rw[show(acc++[x]).length=acc.length+1 by simp]at HQ;go_returns;exact⟨_,rfl,by grind [Hid.out],HQ.o.2.1,HQ.o.2.2⟩
theorem O6(acc:List Nat)(x y:Nat)(h:y∈iz acc x):y∈acc\/y=x:=by
 grind [iz]
theorem Fm(acc:List Nat)(x:Nat):(iz acc x).length<=acc.length+1:=by
 grind [iz]
end
section
variable {w0 w w' W:World} {pb db n gb gen N ob ib vb rb:Nat} {o o':ar} {d d':Dsk} {L:aD} {es:List aJ}
def Bd(n pb db:Nat)(w:World)(o:ar)(d:Dsk)(L:aD)(l:List Nat)(e:Ending)(w':World):Prop:=
 ∃v d' o',e=.returned (.tuple #[v,.int .i64 0])/\au (fun _=>False) n pb db w o d w' o' d' L/\bF w' w.heap.size v l/\∀x,v.ownBlock=some x->o' x=none
theorem DR{l:List Nat}{acc:List Nat}{j x:Nat}(h:l[j]? = some x):(l.take (j+1)).foldl iz acc=iz ((l.take j).foldl iz acc) x:=by
 grind [List.take_succ_eq_append_getElem]
theorem np{l:List Nat}{acc:List Nat}:(l.foldl iz acc).length<=acc.length+l.length:=by
 induction l generalizing acc with
 |nil=>simp
 |cons x l ih=>
   grind [Fm]
theorem Be(es:List aJ)(v:Nat):cV es v=((fC es v).map (·.t.toNat)).foldl iz (((aY es v).map (·.h.toNat)).foldl iz []):=by
 unfold cV S1;rw[List.foldl_append];rfl
structure kS(n pb db:Nat)(w:World)(o:ar)(d:Dsk)(L:aD)(W0:World)(mc lc mb:Nat)(r1 r2:Value)(acc:List Nat)(W:World)(o':ar)(d':Dsk):Prop where
 mv:au (fun _=>False) n pb db w o d W o' d' L
 st:∃lv,jA W w.heap.size mc lc mb lv acc/\∀b,b=mc\/b=lc\/b=mb\/lv.ownBlock=some b->w.heap.size<=b/\o' b=none/\r1.ownBlock≠some b/\r2.ownBlock≠some b
 Uq:∀b,r1.ownBlock=some b\/r2.ownBlock=some b->W.heap[b]? = W0.heap[b]? /\ b<W.heap.size
variable {W0 W':World} {mc lc mb:Nat} {r1 r2:Value} {acc:List Nat}
theorem kS.below(h:kS n pb db w o d L W0 mc lc mb r1 r2 acc W o' d')(hb:Below W.heap.size W W'):kS n pb db w o d L W0 mc lc mb r1 r2 acc W' o' d':=by
 obtain⟨lv,h1,h2⟩:=h.st;exact⟨h.mv.below hb,⟨lv,h1.below hb,h2⟩,fun b hr=>⟨(hb.block b (h.Uq b hr).2).trans (h.Uq b hr).1,Nat.lt_of_lt_of_le (h.Uq b hr).2 hb.size⟩⟩
theorem kS.add(h:kS n pb db w o d L W0 mc lc mb r1 r2 acc W o' d')(x:Nat)(hx:x<4294967296)(hl:acc.length<=100000) :
 Calls prog 145 #[.int .u32 (x:Int),.pointer (some ⟨mc,0,none⟩),.pointer (some ⟨lc,0,none⟩)] W fun e W'=>e=.returned (.tuple #[])/\kS n pb db w o d L W0 mc lc mb r1 r2 (iz acc x) W' o' d':=by
 obtain⟨lv,h1,h2⟩:=h.st;refine(O5 h1 x hx hl h.mv.size).mono ?_;rintro e W'⟨JN,rfl,hst,y8,Cx⟩;have hB:∀b,(b=mb\/b=lc\/lv.ownBlock=some b)->(b=mc\/b=lc\/b=mb\/lv.ownBlock=some b):=(by grind);refine⟨rfl,h.mv.zf (by grind) y8,⟨JN,hst,fun b e=>?_⟩,fun b hr=>⟨(y8.block b (h.Uq b hr).2 (fun e=>?_)).trans (h.Uq b hr).1,Nat.lt_of_lt_of_le (h.Uq b hr).2 y8.size⟩⟩
 ·rcases e with e | e | e | e
  ·grind
  ·grind
  ·grind
  ·rcases Cx b e with e | e
   ·grind
   ·exact⟨Nat.le_trans h.mv.size e,h.mv.aX.fresh e,fun e'=>by have:=(h.Uq b (.inl e')).2;omega,fun e'=>by have:=(h.Uq b (.inr e')).2;omega⟩
 grind
end
end
end Go.Proofs.YthkkgdpomhhjjaaGreatDoor
