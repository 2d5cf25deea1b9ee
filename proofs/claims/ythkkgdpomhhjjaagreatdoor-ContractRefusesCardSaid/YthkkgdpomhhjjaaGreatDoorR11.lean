/-
  Joined.
-/
import Derived.Test.YthkkgdpomhhjjaaGreatDoorR10
import Derived.Shelf.SlSortCmp.NoneTotal
import Derived.Ground.SlsfProg
import Derived.Shelf.SlGeneric
import Derived.Test.YthkkgdpomhhjjaaGreatDoorProg
import Derived.Shelf.SlSortCmp.WholeK
import Derived.Lib.ItoaMem
import Derived.Deep.AppendSrc
namespace Go.Proofs.YthkkgdpomhhjjaaGreatDoor
section
open Go.RowKit Go.Maps
open Go.ChangeMaps (setBlock)
theorem run_fn_nil {P:Program} {t:TypeId} {a b c} (h:P.underlying t=some (.func a b c)) (f:Fn) (bs cs:Array Value) (w:World):(binOp .eql t (.func f bs cs) .nilFunc).run P w=.ok (.bool false) w:=by
 have e:(Op.equalIn (9999+1) t (.func f bs cs) .nilFunc).run P w=.ok false w:=by
  unfold Op.equalIn;simp [run_underlying h,Result.andThen]
 have e2:(Op.equal t (.func f bs cs) .nilFunc).run P w=.ok false w:=e;unfold binOp;simp [e2,Result.andThen]
theorem MapAt.len {κ υ:Type} {P:Program} {kt t e:TypeId} {ek:κ->Value} {ev:υ->Value} {w:World} {b:Nat} {m:List (κ × υ)} (h:MapAt P kt ek ev w b m) (ht:P.underlying t=some (.map kt e)) (ty:TypeId):(Builtin.len_ #[t] ty #[.map (some b)]).run P w=.ok (.int .i64 (m.length:Int)) w:=by
 obtain ⟨es,clock,l,hb,hp,-,hl,-⟩:=h;have e1:es.size=m.length:=by
  have:=congrArg List.length hl;simp at this;rw [this,hp.length_eq]
 rw [<- e1];simp [Builtin.len_,run_underlying ht,MapKept.run_getObj_map hb,goInt,Result.andThen]
theorem wpList_maplen {κ υ:Type} {P:Program} {kt t e:TypeId} {ek:κ->Value} {ev:υ->Value} (w:World) {ops:Array Oper} {rest:List Oper} {o:Oper} {a:Act} {Q:Exit->Act->World->Prop} (hg:o.guard=none) (x:Operand)
 (hop:o.op=Op.call { callee:=Callee.builtin Builtin.len,args:=#[x],argTypes:=#[t] }) (ht:P.underlying t=some (.map kt e)) (b:Nat) (m:List (κ × υ)) (hx:a.eval x=.map (some b)) (h:MapAt P kt ek ev w b m)
 (hK:wpList P ops Q rest (a.put o.dst (.int .i64 (m.length:Int))) w):wpList P ops Q (o::rest) a w:=by
 refine wpList_plain hg fun K' hK'=>?_;have hrun:=h.len ht o.type;unfold Oper.wp execOp;simp only [hop,resolve,invoke,builtin,Sem.run_bind,Sem.run_pure,Result.andThen_ok,List.map_toArray,List.map_cons,List.map_nil,hx,hrun];exact hK' _ _ hK
abbrev SetAt (w:World) (b:Nat) (S:List Nat):Prop:=MapAt Tryz.prog 26 u32V (fun _:Unit=>Value.agg #[]) w b (S.map fun x=>(x,()))
theorem wpList_setlen {P:Program} {kt t e:TypeId} {ek:Nat->Value} {ev:Unit->Value} (w:World) {ops:Array Oper} {rest:List Oper} {o:Oper} {a:Act} {Q:Exit->Act->World->Prop} (hg:o.guard=none) (x:Operand)
 (hop:o.op=Op.call { callee:=Callee.builtin Builtin.len,args:=#[x],argTypes:=#[t] }) (ht:P.underlying t=some (.map kt e)) (b:Nat) (St:List Nat) (hx:a.eval x=.map (some b)) (h:MapAt P kt ek ev w b (St.map fun x=>(x,())))
 (hK:wpList P ops Q rest (a.put o.dst (.int .i64 (St.length:Int))) w):wpList P ops Q (o::rest) a w:=
 wpList_maplen w hg x hop ht b _ hx h (by rw [List.length_map];exact hK)
theorem set_has (S:List Nat) (x:Nat):mhas (S.map fun x=>(x,())) x=decide (x∈S):=by
 unfold mhas;cases e:mget (S.map fun x=>(x,())) x with
 | none=>
   have:=mget_none.1 e;simp only [Option.isSome_none];exact (decide_eq_false (fun hx=>this (x,()) (List.mem_map.2 ⟨x,hx,rfl⟩) rfl)).symm
 | some u=>
   have:=mget_mem e;simp only [Option.isSome_some];obtain ⟨y,hy,he⟩:=List.mem_map.1 this;cases he;exact (decide_eq_true hy).symm
theorem set_put {S:List Nat} {x:Nat} (h:x ∉ S):mput (S.map fun x=>(x,())) x ()=(x::S).map fun x=>(x,()):=by
 unfold mput;rw [mdel_all (fun p hp e=>by
  obtain ⟨y,hy,rfl⟩:=List.mem_map.1 hp;exact h (e ▸ hy))]
 rfl
section
variable {S:Nat->Prop} {n pb db:Nat} {w w' w'':World} {o o' o'':Owner} {d d' d'':Dsk} {L L' L'':Logic}
theorem Moved.turnedS (h:Moved S n pb db w o d w' o' d' L') {B:Nat->Prop} (hB:∀ b,b < w'.heap.size->B b->o' b=none/\(S b\/w.heap.size<=b)) (ht:Turn B w' w''):Moved S n pb db w o d w'' o' d' L':=by
 have ht':Turn (fun b=>b < w'.heap.size/\B b) w' w'':=ht.mono (fun x hx hb=>⟨hx,hb⟩);refine ⟨h.pool.kept ht' (fun x hx e=>Owner.not_in_none (hB x e.1 e.2).1 hx) (fun _ _ h=>h) (fun x t hx=>Nat.lt_of_lt_of_le (h.pool.owned x t hx) ht.size),h.turn.trans ht (fun x hx e=>?_),h.grow,h.on⟩;rcases (hB x (Nat.lt_of_lt_of_le hx h.size) e).2 with h | h
 ·exact .inr h
 ·omega
structure FSt (n pb db:Nat) (w:World) (o:Owner) (d:Dsk) (L:Logic) (N:Nat) (X:Nat->Prop) (fb sb:Nat) (St:List Nat) (m:Far) (c:Nat) (W:World) (o':Owner) (d':Dsk):Prop where
 fr:∃ B,FrontAt W fb B m c/\∀ b,B b->w.heap.size<=b/\b < W.heap.size/\o' b=none/\b≠sb/\¬ X b
 st:SetAt W sb St
 sg:w.heap.size<=sb/\o' sb=none
 mv:Moved (fun _=>False) n pb db w o d W o' d' L
 gd:∀ p∈m,p.1 < N/\p.2 < 9223372036854775808/\p.1 ∉ St
variable {N fb sb c:Nat} {X:Nat->Prop} {St:List Nat} {m m':Far} {W W':World} {B:Nat->Prop}
theorem FrontAt.more (f:FrontAt W fb B m c) {c':Nat} (h:c<=c'):FrontAt W fb B m c':=by
 obtain ⟨hb,mb,v,h',f,hw,hc,r⟩:=f;exact ⟨hb,mb,v,h',f,hw,Nat.le_trans hc h,r⟩
theorem FrontAt.keys (f:FrontAt W fb B m c):(m.map (·.1)).Nodup:=by
 obtain ⟨hb,mb,v,h',f,_⟩:=f;exact f.far.keys
theorem FSt.below (h:FSt n pb db w o d L N X fb sb St m c W o' d') (hb:Below W.heap.size W W'):FSt n pb db w o d L N X fb sb St m c W' o' d':=by
 obtain ⟨B,h1,h2⟩:=h.fr;exact ⟨⟨B,h1.kept (fun b hb'=>hb.block b (h2 b hb').2.1),fun b hb'=>⟨(h2 b hb').1,Nat.lt_of_lt_of_le (h2 b hb').2.1 hb.size,(h2 b hb').2.2⟩⟩,h.st.kept (hb.block _ h.st.lt),h.sg,h.mv.below hb,h.gd⟩
theorem FSt.moved (h:FSt n pb db w o d L N X fb sb St m c W o' d') (hm:Moved (fun _=>False) n pb db W o' d' w' o'' d'' L):FSt n pb db w o d L N X fb sb St m c w' o'' d'':=by
 obtain ⟨B,h1,h2⟩:=h.fr;refine ⟨⟨B,h1.kept (fun b hb'=>hm.block (h2 b hb').2.1 (h2 b hb').2.2.1 (fun e=>e)),fun b hb'=>⟨(h2 b hb').1,Nat.lt_of_lt_of_le (h2 b hb').2.1 hm.size,hm.free (h2 b hb').2.1 (h2 b hb').2.2.1,(h2 b hb').2.2.2⟩⟩,h.st.kept (hm.block h.st.lt h.sg.2 (fun e=>e)),⟨h.sg.1,hm.free h.st.lt h.sg.2⟩,h.mv.trans hm (fun _ _ e=>e),h.gd⟩
theorem FSt.turned (h:FSt n pb db w o d L N X fb sb St m c W o' d') {B B':Nat->Prop} {c':Nat} (hB:∀ b,B b->w.heap.size<=b/\b < W.heap.size/\o' b=none/\b≠sb/\¬ X b) (ht:Turn B W W') (hf:FrontAt W' fb B' m' c') (hB':∀ b,B' b->B b\/W.heap.size<=b/\b < W'.heap.size)
 (hX:∀ b,X b->b < W.heap.size) (hg:∀ p∈m',p.1 < N/\p.2 < 9223372036854775808/\p.1 ∉ St):FSt n pb db w o d L N X fb sb St m' c' W' o' d'/\∀ b,X b->W'.heap[b]? = W.heap[b]? := by
 refine ⟨⟨⟨B',hf,fun b hb=>?_⟩,h.st.kept (ht.block _ h.st.lt (fun e=>(hB _ e).2.2.2.1 rfl)),h.sg,h.mv.turnedS (fun b _ hb=>⟨(hB b hb).2.2.1, .inr (hB b hb).1⟩) ht,hg⟩,fun b hb=>ht.block b (hX b hb) (fun e=>(hB b e).2.2.2.2 hb)⟩;rcases hB' b hb with e | e
 ·exact ⟨(hB b e).1,Nat.lt_of_lt_of_le (hB b e).2.1 ht.size,(hB b e).2.2⟩
 ·exact ⟨Nat.le_trans h.mv.size e.1,e.2,h.mv.pool.fresh e.1,fun e'=>by have:=h.st.lt;omega,fun hx=>by have:=hX b hx;omega⟩
theorem FSt.settled (h:FSt n pb db w o d L N X fb sb St m c W o' d') {v:Nat} (hv:v ∉ St) {es:Array MapEntry} {clock:Nat} (hm:MapAt Tryz.prog 26 u32V (fun _:Unit=>Value.agg #[]) (setBlock W sb (.map es clock)) sb (mput (St.map fun x=>(x,())) v ())) (hg:∀ p∈m,p.1≠v) :
 FSt n pb db w o d L N X fb sb (v::St) m c (setBlock W sb (.map es clock)) o' d':=by
 obtain ⟨B,h1,h2⟩:=h.fr;have hs:(setBlock W sb (.map es clock)).heap.size=W.heap.size:=by unfold setBlock;simp
 refine ⟨⟨B,h1.kept (fun b hb=>heap_setBlock_none _ (h2 b hb).2.2.2.1),fun b hb=>⟨(h2 b hb).1,by rw [hs];exact (h2 b hb).2.1,(h2 b hb).2.2⟩⟩,by unfold SetAt;rw [<- set_put hv];exact hm,h.sg,h.mv.turned h.sg.2 (.inr h.sg.1) ((Turn.refl _ W).setBlock _ _ (.inl rfl)),fun p hp=>⟨(h.gd p hp).1,(h.gd p hp).2.1,fun e=>?_⟩⟩;rcases List.mem_cons.1 e with e | e
 ·exact hg p hp e
 ·exact (h.gd p hp).2.2 e
theorem FSt.wider (h:FSt n pb db w o d L N X fb sb St m c W o' d') {X':Nat->Prop} (hX:∀ b,X' b->b < W.heap.size->X b) {c':Nat} (hc:c<=c'):FSt n pb db w o d L N X' fb sb St m c' W o' d':=by
 obtain ⟨B,h1,h2⟩:=h.fr;exact ⟨⟨B,h1.more hc,fun b hb=>⟨(h2 b hb).1,(h2 b hb).2.1,(h2 b hb).2.2.1,(h2 b hb).2.2.2.1,fun e=>(h2 b hb).2.2.2.2 (hX b e (h2 b hb).2.1)⟩⟩,h.st,h.sg,h.mv,h.gd⟩
theorem FSt.fresh (h:FSt n pb db w o d L N X fb sb St m c W o' d'):FSt n pb db w o d L N (fun b=>W.heap.size<=b) fb sb St m c W o' d':=by
 obtain ⟨B,h1,h2⟩:=h.fr;exact ⟨⟨B,h1,fun b hb=>⟨(h2 b hb).1,(h2 b hb).2.1,(h2 b hb).2.2.1,(h2 b hb).2.2.2.1,fun e=>by have:=(h2 b hb).2.1;omega⟩⟩,h.st,h.sg,h.mv,h.gd⟩
theorem set_val (l:List (Nat × Unit)) (x:Nat):((mget l x).map (fun _:Unit=>Value.agg #[])).getD (Value.agg #[])=Value.agg #[]:=by
 cases mget l x<;>rfl
theorem relaxM_take {A:Nat->Bool} {St:List Nat} {dist:Nat} {m:Far} {ts:List Edg} {j:Nat} {x:Edg} (h:ts[j]? = some x) :
 relaxM A St dist m (ts.take (j+1))=if dist+x.x.toNat < 9223372036854775808/\x.h.toNat ∉ St/\A x.h.toNat=false then comeM (relaxM A St dist m (ts.take j)) x.h.toNat (dist+x.x.toNat) else relaxM A St dist m (ts.take j):=by
 obtain ⟨hl,rfl⟩:=List.getElem?_eq_some_iff.1 h;rw [List.take_succ_eq_append_getElem hl];unfold relaxM;rw [List.foldl_append];rfl
theorem comeM_mem {m:Far} {v d:Nat} {p:Nat × Nat} (h:p∈comeM m v d):p∈m\/p=(v,d):=by
 have hp:∀ {p:Nat × Nat},p∈mput m v d->p∈m\/p=(v,d):=fun {p} h=>by
  unfold mput at h;rcases List.mem_cons.1 h with h | h
  ·exact .inr h
  ·exact .inl (mem_mdel.1 h).1
 unfold comeM at h;split at h
 ·split at h
  ·exact .inl h
  ·exact hp h
 ·exact hp h
end
end
section
open Go.RowKit Go.Maps
open Go.ChangeMaps (setBlock)
def FindPost (n pb db:Nat) (w:World) (o:Owner) (d:Dsk) (L:Logic) (r:Bool) (e:Ending) (w':World):Prop:=
 ∃ d' o',e=.returned (.tuple #[.bool r, .int .i64 0])/\Moved (fun _=>False) n pb db w o d w' o' d' L
def mapN:Option Obj->Nat
 | some (.map es _)=>es.size
 | _=>0
theorem SetAt.mapN {W:World} {sb:Nat} {St:List Nat} (h:SetAt W sb St):mapN W.heap[sb]? = St.length:=by
 obtain ⟨es,clock,l,hb,hp,-,hl,-⟩:=h;rw [hb];have:=congrArg List.length hl;simp at this;show es.size=_;rw [this,hp.length_eq];simp
theorem zero_unit (w:World):(zeroValue 245).run Tryz.prog w=.ok (.agg #[]) w:=Tryz.zeroValue245 w
structure FindIn (w0 w:World) (pb db n:Nat) (o:Owner) (d:Dsk) (L:Logic) (gb gen N ob ib vb:Nat) (es:List Edg) (A:Nat->Bool) (sv av:Nat) (K:Nat->Prop):Prop where
 held:Held w0 w pb db n o d L
 need:need L<=131072
 gr:GraphAt w o gb pb gen N ob ib vb
 file:mget L (sName 101 gen)=some (edgeFile (bestOf false es) true)
 len:es.length<=1000
 top:N<=1000
 ends:∀ x∈es,x.t.toNat < N/\x.h.toNat < N
 shunOld:∀ b,K b->b < w.heap.size/\o b=none
 shun:∀ W (x:Nat),(∀ b,K b->W.heap[b]? = w.heap[b]?)->w.heap.size<=W.heap.size->x < 4294967296->Calls Tryz.prog 200 #[.int .u32 (x:Int), .pointer (some ⟨sv,0,none⟩), .pointer (some ⟨av,0,none⟩)] W fun e W'=>e=.returned (.bool (A x))/\Below W.heap.size W W'
section
variable {w0 w w':World} {pb db n gb gen N ob ib vb sv av:Nat} {o o':Owner} {d d':Dsk} {L:Logic} {es:List Edg} {A:Nat->Bool} {K:Nat->Prop}
theorem FindIn.moved (h:FindIn w0 w pb db n o d L gb gen N ob ib vb es A sv av K) (hm:Moved (fun _=>False) n pb db w o d w' o' d' L):FindIn w0 w' pb db n o' d' L gb gen N ob ib vb es A sv av K:=
 ⟨h.held.moved hm (fun _ e=>e.elim),h.need,h.gr.movedS hm (fun _ _ e=>e),h.file,h.len,h.top,h.ends,fun b hb=>⟨Nat.lt_of_lt_of_le (h.shunOld b hb).1 hm.size,hm.free (h.shunOld b hb).1 (h.shunOld b hb).2⟩,
  fun W x hk hs hx=>h.shun W x (fun b hb=>(hk b hb).trans (hm.block (h.shunOld b hb).1 (h.shunOld b hb).2 (fun e=>e))) (Nat.le_trans hm.size hs) hx⟩
theorem FindIn.out (HW:WriteSaid) (h:FindIn w0 w pb db n o d L gb gen N ob ib vb es A sv av K) {v:Nat} (hv:v < N):Calls Tryz.prog 21 #[ptrTo gb, .int .u32 (v:Int)] w (HeldOf n pb db w o d L (outM es v)):=
 held_out HW h.held h.need h.gr h.file h.len hv h.top
theorem outM_sub {es:List Edg} {v:Nat} {x:Edg} (h:x∈outM es v):x∈es/\x.t.toNat=v:=
 ⟨((best_bestOf false es).mem x (ofL_mem h).1).1,(ofL_mem h).2⟩
theorem outM_length (es:List Edg) (v:Nat):(outM es v).length<=es.length:=by
 have:=bestOf_length false es;exact Nat.le_trans (List.length_filter_le _ _) this
set_option maxRecDepth 100000 in
set_option maxHeartbeats 16000000 in
theorem witFind_any (HW:WriteSaid) (h:FindIn w0 w pb db n o d L gb gen N ob ib vb es A sv av K) (u t most:Nat) (hu:u < N) :
 Calls Tryz.prog 202 #[.func (.func 21) #[ptrTo gb] #[], .func (.func 200) #[] #[.pointer (some ⟨sv,0,none⟩), .pointer (some ⟨av,0,none⟩)], .int .u32 (u:Int), .int .u32 (t:Int), .int .u64 (most:Int)] w (FindPost n pb db w o d L (findM (outM es) A t most 16 [(u,0)] [])):=by
 have H:=Lib.hid h;have HN:Hid (N<=1000):=Lib.hid h.top;have HOUT:Hid (∀ W o' d',Moved (fun _=>False) n pb db w o d W o' d' L->∀ v,v < N->Calls Tryz.prog 21 #[ptrTo gb, .int .u32 (v:Int)] W (HeldOf n pb db W o' d' L (outM es v))):=Lib.hid (fun W o' d' hm v hv=>(H.out.moved hm).out HW hv);clear h;obtain ⟨R,HR⟩:∃ R,Hid (findM (outM es) A t most 16 [(u,0)] []=R):=⟨_,Lib.hid rfl⟩;rw [HR.out];unfold ptrTo at *;have hn1:=run_fn_nil Tryz.underlying53 (.func 21) #[.pointer (some ⟨gb,0,none⟩)] #[];have hn2:=run_fn_nil Tryz.underlying234 (.func 200) #[] #[.pointer (some ⟨sv,0,none⟩), .pointer (some ⟨av,0,none⟩)];have hmk:∀ (t:TypeId) (W:World),(Instr.makeMap t none).run Tryz.prog W=.ok (.map (some W.heap.size)) (W.alloc (.map #[] 0)):=fun _ _=>rfl;have HZU:=Lib.hid zero_unit;go_enter Tryz.func202,Tryz.ntmps202
 go_wp2_with fail
 clear hn1 hn2;refine (heapNew_any w).mono ?_;rintro e w1 ⟨rfl,hp1,hb1,hs1⟩;obtain ⟨B4,HB4,HF4⟩:∃ B:Nat->Prop,Hid (∀ b,B b->w.heap.size<=b/\b < w1.heap.size+2)/\Hid (FrontAt ((w1.alloc (.map #[] 0)).alloc (.cells #[.pointer (some ⟨w.heap.size,0,none⟩), .map (some w1.heap.size)] 325)) (w1.heap.size+1) B [] 0):=by
  refine ⟨fun b=>b=w.heap.size\/b=w1.heap.size\/b=w1.heap.size+1,Lib.hid (fun b hb=>by have:=hb1.size;omega),Lib.hid ⟨w.heap.size,w1.heap.size, .slice none 0 0,[],⟨?_,?_,fun j h1 h2=>by simp at h2,?_,by omega,by omega,by omega,by simp [Value.ownBlock],by simp [Value.ownBlock]⟩,⟨fun v d e=>(by cases e),fun y hy=>(by cases hy)⟩,Nat.le_refl _, .inr (.inr rfl), .inl rfl, .inr (.inl rfl),fun b e=>(by cases e)⟩⟩
  ·have:=heap_alloc_new (w1.alloc (.map #[] 0)) (.cells #[.pointer (some ⟨w.heap.size,0,none⟩), .map (some w1.heap.size)] 325);simpa [ptrTo] using this
  ·exact hp1.below (((Below.refl _ _).alloc (Nat.le_refl _) _).alloc (by simp) _)
  ·exact (MapAt.made w1 Tryz.prog 26 u32V u64V).kept ((MapKept.heap_alloc _ _).2 _ (by simp))
 have HB4':Hid (Below w.heap.size w ((w1.alloc (.map #[] 0)).alloc (.cells #[.pointer (some ⟨w.heap.size,0,none⟩), .map (some w1.heap.size)] 325))):=Lib.hid ((hb1.alloc hb1.size _).alloc (by have:=hb1.size;simp;omega) _);have HS4:Hid (((w1.alloc (.map #[] 0)).alloc (.cells #[.pointer (some ⟨w.heap.size,0,none⟩), .map (some w1.heap.size)] 325)).heap.size=w1.heap.size+2):=Lib.hid (by simp);have hcm:=Lib.hid (come_any HF4.out (by omega) u 0 (by have:=HN.out;omega));clear hp1 hb1 hs1;unfold ptrTo at *;go_wp2_with fail
 refine hcm.out.mono ?_;rintro e w5 ⟨rfl,hf5,ht5⟩;obtain ⟨sb,hsb⟩:∃ sb,sb=w5.heap.size:=⟨_,rfl⟩;obtain ⟨fb,hfb⟩:∃ fb,fb=w1.heap.size+1:=⟨_,rfl⟩;have HS0:Hid (FSt n pb db w o d L N (fun _=>False) fb sb [] [(u,0)] 1 (w5.alloc (.map #[] 0)) o d):=Lib.hid (by
  subst hsb hfb;have hpool:=H.out.held.pool;have hsz:=HS4.out;have hz4:=HB4'.out.size;have hz5:=ht5.size;refine ⟨⟨_,hf5.kept (fun b hb=>(MapKept.heap_alloc _ _).2 b ?_),fun b hb=>?_⟩,MapAt.made w5 Tryz.prog 26 u32V (fun _:Unit=>Value.agg #[]),⟨by omega,hpool.fresh (by omega)⟩,((Moved.ofBelow hpool HB4'.out).turnedS (fun b _ hb=>⟨hpool.fresh (HB4.out b hb).1, .inr (HB4.out b hb).1⟩) ht5).alloc _,fun p hp=>?_⟩
  ·rcases hb with e | e
   ·have:=(HB4.out b e).2;omega
   ·exact e.2
  ·have h1:w.heap.size<=b/\b < w5.heap.size:=by
    rcases hb with e | e
    ·have:=HB4.out b e;omega
    ·omega
   exact ⟨h1.1,by simp;omega,hpool.fresh h1.1,by omega,fun e=>e⟩
  ·rw [List.mem_singleton.1 hp];exact ⟨hu,by show 0 < 9223372036854775808;decide,by simp⟩)
 have HSB:Hid (sb < (w5.alloc (.map #[] 0)).heap.size):=Lib.hid (by rw [hsb];simp);clear hcm HF4 HB4 HB4' HS4 hf5 ht5;go_wp2_with fail
 rw [<- hsb];try rw [<- hfb]
 clear hsb hfb;generalize w5.alloc (.map #[] 0)=W6 at *;go_loopw [] (fun wr=>∃ St m c d' o',Hid (FSt n pb db w o d L N (fun _=>False) fb sb St m c wr o' d')/\Hid (c<=1+St.length*1000/\St.length<=16)/\Hid (findM (outM es) A t most (16 - St.length) m St=R)) (fun wr=>16 - mapN wr.heap[sb]?)
 case atStart=>exact ⟨[],[(u,0)],1,d,o,HS0,Lib.hid (by simp),HR⟩
 case round=>
  obtain ⟨St,m,c,d2,o2,HS,HC,HRR⟩:=hrel;clear HS0;generalize wr=Wr at *;obtain ⟨B,hF,hB⟩:=HS.out.fr;have HK:=Lib.hid hF.keys;have hle:=Lib.hid (least_any hF (by have:=HC.out;omega));have HBB:=Lib.hid hB;clear hF hB;unfold ptrTo LeastPost at hle;go_wp2_with fail
  refine hle.out.mono ?_;rintro e w2 (⟨hn,rfl,ht⟩ | ⟨v,dd,hn,rfl,hF2,ht⟩)
  ·have HQ:Hid (FindPost n pb db w o d L R (.returned (.tuple #[.bool false, .int .i64 0])) w2):=Lib.hid ⟨d2,o2,by
    rw [<- HRR.out];cases 16 - St.length with
    | zero=>rfl
    | succ k=>rw [findM,hn],HS.out.mv.turnedS (fun b _ hb=>⟨(HBB.out b hb).2.2.1, .inr (HBB.out b hb).1⟩) ht⟩
   clear hle;go_wp2;go_returns
   exact HQ.out
  ·have hmem:=(nextM_some hn).1;have hgd:=HS.out.gd _ hmem;have HS2:Hid (FSt n pb db w o d L N (fun _=>False) fb sb St (mdel m v) c w2 o2 d2):=Lib.hid (HS.out.turned HBB.out ht hF2 (fun b hb=>.inl hb) (fun b hb=>hb.elim) (fun p hp=>HS.out.gd p (mem_mdel.1 hp).1)).1;have HV:Hid (v < N/\dd < 9223372036854775808/\v ∉ St):=Lib.hid hgd;have HMN:Hid (mapN Wr.heap[sb]? = St.length):=Lib.hid HS.out.st.mapN;have HRK:Hid (R=if St.length=16 then false else if most < dd then false else if v=t then true else findM (outM es) A t most (16 - (St.length+1)) (relaxM A (v::St) dd (mdel m v) (outM es v)) (v::St)):=Lib.hid (by
    rw [<- HRR.out];by_cases h16:St.length=16
    ·rw [if_pos h16,h16];rfl
    ·rw [if_neg h16,show 16 - St.length=(16 - (St.length+1))+1 by have:=HC.out;omega,findM,hn])
   clear hle hmem hgd hn hF2 ht HS HBB HK;by_cases hmost:most < dd
   ·have hmz:(dd:Int) > (most:Int):=by omega
    have HQ:Hid (FindPost n pb db w o d L R (.returned (.tuple #[.bool false, .int .i64 0])) w2):=Lib.hid ⟨d2,o2,by rw [HRK.out];split;rfl;rfl,HS2.out.mv⟩;go_wp2;go_returns
    exact HQ.out
   ·have hmz:¬ (dd:Int) > (most:Int):=by omega
    by_cases h16:St.length=16
    ·have hsz:(St.length:Int)=16:=by omega
     have HQ:Hid (FindPost n pb db w o d L R (.returned (.tuple #[.bool false, .int .i64 0])) w2):=Lib.hid ⟨d2,o2,by rw [HRK.out,if_pos h16],HS2.out.mv⟩;go_wp2_with (refine wpList_setlen _ rfl _ rfl Tryz.underlying243 sb St rfl HS2.out.st ?_)
     go_returns
     exact HQ.out
    ·have hsz:¬ (St.length:Int)=16:=by omega
     by_cases hvt:v=t
     ·have HQ:Hid (FindPost n pb db w o d L R (.returned (.tuple #[.bool true, .int .i64 0])) w2):=Lib.hid ⟨d2,o2,by rw [HRK.out,if_neg h16,if_neg hmost,if_pos hvt],HS2.out.mv⟩;have hvz:(v:Int)=(t:Int):=by omega
      go_wp2_with (refine wpList_setlen _ rfl _ rfl Tryz.underlying243 sb St rfl HS2.out.st ?_)
      go_returns
      exact HQ.out
     ·have hvz:¬ (v:Int)=(t:Int):=by omega
      have HRN:Hid (findM (outM es) A t most (16 - (St.length+1)) (relaxM A (v::St) dd (mdel m v) (outM es v)) (v::St)=R):=Lib.hid (by rw [HRK.out,if_neg h16,if_neg hmost,if_neg hvt]);have hout:=Lib.hid (HOUT.out w2 o2 d2 HS2.out.mv v HV.out.1);have H16:Hid (St.length < 16):=Lib.hid (by have:=HC.out;omega);have HG:=Lib.hid (good_u32 (k:=v) (by have:=HN.out;have:=HV.out;omega));clear HRK;unfold HeldOf at hout;go_wp2_with (refine wpList_setlen _ rfl _ rfl Tryz.underlying243 sb St rfl HS2.out.st ?_)
      refine hout.out.mono ?_;rintro e w3 ⟨ev,d3,o3,rfl,hm3,hown,hfree⟩;obtain ⟨ea,ec,rfl⟩:=ownsRow_slice hown;have HS3:Hid (FSt n pb db w o d L N (fun b=>(Value.slice ea (outM es v).length ec).ownBlock=some b) fb sb St (mdel m v) c w3 o3 d3):=Lib.hid ((HS2.out.fresh.moved hm3).wider (fun b hb _=>(ownBlock_old hown b hb).2) (Nat.le_refl _));have HOW3:=Lib.hid hown;have HNE:Hid (∀ b,(Value.slice ea (outM es v).length ec).ownBlock=some b->b≠sb):=Lib.hid (fun b hb=>by
       have h1:=ownBlock_old hown b hb;have h2:=HS2.out.st.lt;omega)
      clear hm3 hown hfree hout HS2 hmz hsz hvz;obtain ⟨M,hM⟩:∃ M,M=(outM es v).length:=⟨_,rfl⟩;rw [<- hM] at HS3 HOW3 HNE ⊢;have HM:Hid (M=(outM es v).length/\M<=1000):=Lib.hid ⟨hM,by rw [hM];exact Nat.le_trans (outM_length es v) H.out.len⟩;clear hM;go_wp2_with (at_mapUpdate;refine wpList_put _ rfl _ _ _ _ rfl 245 keyed_u32 u32_inj Tryz.underlying243 sb _ rfl HS3.out.st v () rfl rfl HG.out ?_;intro es4 clock4 hm4;have HM4:=Lib.hid hm4;clear hm4)
      have HS4:=Lib.hid (HS3.out.settled HV.out.2.2 HM4.out (fun p hp=>(mem_mdel.1 hp).2));have HOW4:Hid (ownsEdges (setBlock w3 sb (.map es4 clock4)) w2.heap.size (.slice ea M ec) (outM es v)):=Lib.hid (ownsRow_heap HOW3.out (fun b hb=>heap_setBlock_none _ (HNE.out b hb)));clear HM4 HS3 HOW3 HNE HG;generalize setBlock w3 sb (.map es4 clock4)=W4 at *;go_loopw [72] (fun vi wr=>∃ (j:Nat) (m':Far),vi=.int .i64 (j:Int)/\j<=M/\Hid (FSt n pb db w o d L N (fun b=>(Value.slice ea M ec).ownBlock=some b) fb sb (v::St) m' (c+j) wr o3 d3)/\Hid (m'=relaxM A (v::St) dd (mdel m v) ((outM es v).take j))/\Hid (ownsEdges wr w2.heap.size (.slice ea M ec) (outM es v))) (fun vi _=>M - (intOf vi).toNat)
      case atStart=>exact ⟨0,mdel m v,rfl,Nat.zero_le _,HS4,Lib.hid rfl,HOW4⟩
      case round=>
       obtain ⟨j,m',rfl,hj,HS5,HM5,HOW5⟩:=hrel;clear HS4 HOW4;generalize wr=Wq at *;by_cases hlt:j < M
       ·have hjz:(j:Int) < (M:Int):=by omega
        have wj:IntKind.i64.wrap ((j:Int)+1)=((j+1:Nat):Int):=by have:=HM.out;rw [wrap_in]<;>omega
        obtain ⟨x,hx⟩:∃ x,(outM es v)[j]? = some x:=⟨_,List.getElem?_eq_getElem (by have:=HM.out;omega)⟩;have HX:=Lib.hid hx;have HXN:Hid (x.h.toNat < N/\x.h.toNat < 4294967296):=Lib.hid ⟨(H.out.ends x (outM_sub (List.mem_of_getElem? hx)).1).2,x.h.toNat_lt⟩;obtain ⟨g,rfl⟩:∃ g,ea=some ⟨g,0,none⟩:=by
         obtain ⟨-,⟨h1,h2⟩ | ⟨g,_,_,h1,_⟩⟩:=HOW5.out
         ·have:=HM.out;omega
         ·cases h1;exact ⟨g,rfl⟩
        have HOWX:Hid (ownsEdges Wq w2.heap.size (.slice (some ⟨g,0,none⟩) (outM es v).length ec) (outM es v)):=Lib.hid (by rw [<- HM.out.1];exact HOW5.out);obtain ⟨q0,q1,q2,q3⟩:=ownsEdges_cells HOWX.out hx;have HGX:=Lib.hid (good_u32 HXN.out.2);have HS6:=Lib.hid (HS5.out.below ((Below.refl _ _).alloc (Nat.le_refl _) (.cells #[.int .u32 (x.t.toNat:Int), .int .u32 (x.h.toNat:Int), .int .u64 (x.x.toNat:Int), .int .u32 (x.m.toNat:Int)] 64)));have HOW6:Hid (ownsEdges (Wq.alloc (.cells #[.int .u32 (x.t.toNat:Int), .int .u32 (x.h.toNat:Int), .int .u64 (x.x.toNat:Int), .int .u32 (x.m.toNat:Int)] 64)) w2.heap.size (.slice (some ⟨g,0,none⟩) M ec) (outM es v)):=Lib.hid (ownsRow_below HOW5.out ((Below.refl _ _).alloc (Nat.le_refl _) _));have HC6:Hid ((Wq.alloc (.cells #[.int .u32 (x.t.toNat:Int), .int .u32 (x.h.toNat:Int), .int .u64 (x.x.toNat:Int), .int .u32 (x.m.toNat:Int)] 64)).heap[Wq.heap.size]? = some (.cells #[.int .u32 (x.t.toNat:Int), .int .u32 (x.h.toNat:Int), .int .u64 (x.x.toNat:Int), .int .u32 (x.m.toNat:Int)] 64)):=Lib.hid (heap_alloc_new _ _);have hadd:=Lib.hid (wAdd_any dd x.x.toNat (by have:=HV.out;omega) x.x.toNat_lt (Wq.alloc (.cells #[.int .u32 (x.t.toNat:Int), .int .u32 (x.h.toNat:Int), .int .u64 (x.x.toNat:Int), .int .u32 (x.m.toNat:Int)] 64)));clear hx HOWX;go_wp2_with fail
        refine hadd.out.mono ?_;rintro e w7 ⟨rfl,rfl⟩;clear q0 q1 q2 q3 hadd;generalize hxb:Wq.heap.size=xb at *;generalize Wq.alloc (.cells #[.int .u32 (x.t.toNat:Int), .int .u32 (x.h.toNat:Int), .int .u64 (x.x.toNat:Int), .int .u32 (x.m.toNat:Int)] 64)=W6 at *;clear hxb HS5 HOW5;have k1:W6.cell? ⟨xb,1,none⟩=some (.int .u32 (x.h.toNat:Int)):=by rw [cells_cell HC6.out];rfl
        have k2:=(Array.getElem?_eq_some_iff.1 HC6.out).1;by_cases hfit:dd+x.x.toNat < 9223372036854775808
        ·have hav:addV dd x.x.toNat=.tuple #[.int .u64 ((dd+x.x.toNat:Nat):Int), .bool true]:=if_pos hfit;rw [hav];obtain ⟨s,hs⟩:∃ s,s=dd+x.x.toNat:=⟨_,rfl⟩;rw [<- hs] at hfit ⊢;have HSM:=Lib.hid hs;have HFT:=Lib.hid hfit;clear hav hs hfit;by_cases hdn:x.h.toNat∈v::St
         ·have HDN:Hid (decide (x.h.toNat∈v::St)=true):=Lib.hid (decide_eq_true hdn);have HND:=Lib.hid hdn;clear hdn;have HS7:Hid (FSt n pb db w o d L N (fun b=>(Value.slice (some ⟨g,0,none⟩) M ec).ownBlock=some b) fb sb (v::St) m' (c+(j+1)) (W6.alloc (.cells #[] 245)) o3 d3):=Lib.hid ((HS6.out.below ((Below.refl _ _).alloc (Nat.le_refl _) _)).wider (fun _ e _=>e) (by omega));have HOW7:Hid (ownsEdges (W6.alloc (.cells #[] 245)) w2.heap.size (.slice (some ⟨g,0,none⟩) M ec) (outM es v)):=Lib.hid (ownsRow_below HOW6.out ((Below.refl _ _).alloc (Nat.le_refl _) _));have HM7:Hid (m'=relaxM A (v::St) dd (mdel m v) ((outM es v).take (j+1))):=Lib.hid (by rw [relaxM_take HX.out,if_neg (fun e=>e.2.1 HND.out)];exact HM5.out);go_wp2_with (at_lookup;refine wpList_look _ rfl _ _ _ _ rfl 245 keyed_u32 u32_inj Tryz.underlying243 (HZU.out _) sb _ rfl HS6.out.st x.h.toNat rfl HGX.out ?_;rw [set_val,set_has];try rw [HDN.out])
          go_roundw
          case rel=>exact ⟨j+1,m',by go_num,by omega,HS7,HM7,HOW7⟩
          case measure=>simp [intOf];omega
         ·have HDN:Hid (decide (x.h.toNat∈v::St)=false):=Lib.hid (decide_eq_false hdn);have HND:=Lib.hid hdn;clear hdn;have HB7:Hid (Below W6.heap.size W6 (W6.alloc (.cells #[] 245))):=Lib.hid ((Below.refl _ _).alloc (Nat.le_refl _) _);have HS7:=Lib.hid (HS6.out.below HB7.out);have hsh:=Lib.hid (H.out.shun _ x.h.toNat (fun b hb=>HS7.out.mv.block (H.out.shunOld b hb).1 (H.out.shunOld b hb).2 (fun e=>e)) HS7.out.mv.size HXN.out.2);go_wp2_with (at_lookup;refine wpList_look _ rfl _ _ _ _ rfl 245 keyed_u32 u32_inj Tryz.underlying243 (HZU.out _) sb _ rfl HS6.out.st x.h.toNat rfl HGX.out ?_;rw [set_val,set_has];try rw [HDN.out])
          refine hsh.out.mono ?_;rintro e w8 ⟨rfl,hb8⟩;have HS8:=Lib.hid (HS7.out.below hb8);have HOW8:=Lib.hid (ownsRow_below (ownsRow_below HOW6.out HB7.out) hb8);have k3:w8.cell? ⟨xb,1,none⟩=some (.int .u32 (x.h.toNat:Int)):=cellB hb8 (cellB HB7.out k1);clear hsh hb8 HS7 HOW6 k1 k2;by_cases hA:A x.h.toNat=true
          ·rw [hA];have HM8:Hid (m'=relaxM A (v::St) dd (mdel m v) ((outM es v).take (j+1))):=Lib.hid (by rw [relaxM_take HX.out,if_neg (fun e=>by rw [hA] at e;exact absurd e.2.2 (by decide))];exact HM5.out);have HS9:Hid (FSt n pb db w o d L N (fun b=>(Value.slice (some ⟨g,0,none⟩) M ec).ownBlock=some b) fb sb (v::St) m' (c+(j+1)) w8 o3 d3):=Lib.hid (HS8.out.wider (fun _ e _=>e) (by omega));clear hA;go_wp2;go_roundw
           case rel=>exact ⟨j+1,m',by go_num,by omega,HS9,HM8,HOW8⟩
           case measure=>simp [intOf];omega
          ·have hAb:A x.h.toNat=false:=by simpa using hA
           rw [hAb];obtain ⟨B,hF,hB⟩:=HS8.out.fr;have hcm:=Lib.hid (come_any hF (by have:=HC.out;have:=HM.out;have:=H16.out;omega) x.h.toNat s HXN.out.2);have HBB:=Lib.hid hB;have HAB:=Lib.hid hAb;clear hF hB hA hAb;unfold ptrTo ComePost at hcm;go_wp2_with fail
           refine hcm.out.mono ?_;rintro e w9 ⟨rfl,hf9,ht9⟩;obtain ⟨fs9,hk9⟩:=HS8.out.turned HBB.out ht9 hf9 (fun b hb=>hb) (fun b hb=>(ownBlock_old HOW8.out b hb).1) (fun p hp=>(comeM_mem hp).elim (HS8.out.gd p) (fun e=>by rw [e];exact ⟨HXN.out.1,HFT.out,HND.out⟩));have HS9:Hid (FSt n pb db w o d L N (fun b=>(Value.slice (some ⟨g,0,none⟩) M ec).ownBlock=some b) fb sb (v::St) (comeM m' x.h.toNat s) (c+(j+1)) w9 o3 d3):=Lib.hid fs9;have HOW9:=Lib.hid (ownsRow_heap HOW8.out (fun b hb=>hk9 b hb));have HM9:Hid (comeM m' x.h.toNat s=relaxM A (v::St) dd (mdel m v) ((outM es v).take (j+1))):=Lib.hid (by rw [relaxM_take HX.out,if_pos ⟨by rw [<- HSM.out];exact HFT.out,HND.out,HAB.out⟩,<- HM5.out,HSM.out]);clear hcm hf9 ht9 fs9 hk9 HS8 HOW8 k3;go_wp2;go_roundw
           case rel=>exact ⟨j+1,_,by go_num,by omega,HS9,HM9,HOW9⟩
           case measure=>simp [intOf];omega
        ·have hav:addV dd x.x.toNat=.tuple #[.int .u64 0, .bool false]:=if_neg hfit;rw [hav];have HFT:=Lib.hid hfit;clear hav hfit;have HDN:=Lib.hid (Eq.refl 0);have HS7:Hid (FSt n pb db w o d L N (fun b=>(Value.slice (some ⟨g,0,none⟩) M ec).ownBlock=some b) fb sb (v::St) m' (c+(j+1)) (W6.alloc (.cells #[] 245)) o3 d3):=Lib.hid ((HS6.out.below ((Below.refl _ _).alloc (Nat.le_refl _) _)).wider (fun _ e _=>e) (by omega));have HOW7:Hid (ownsEdges (W6.alloc (.cells #[] 245)) w2.heap.size (.slice (some ⟨g,0,none⟩) M ec) (outM es v)):=Lib.hid (ownsRow_below HOW6.out ((Below.refl _ _).alloc (Nat.le_refl _) _));have HM7:Hid (m'=relaxM A (v::St) dd (mdel m v) ((outM es v).take (j+1))):=Lib.hid (by rw [relaxM_take HX.out,if_neg (fun e=>HFT.out e.1)];exact HM5.out);go_wp2_with (at_lookup;refine wpList_look _ rfl _ _ _ _ rfl 245 keyed_u32 u32_inj Tryz.underlying243 (HZU.out _) sb _ rfl HS6.out.st x.h.toNat rfl HGX.out ?_;rw [set_val,set_has];try rw [HDN.out])
         go_roundw
         case rel=>exact ⟨j+1,m',by go_num,by omega,HS7,HM7,HOW7⟩
         case measure=>simp [intOf];omega
       ·have hjz:¬ (j:Int) < (M:Int):=by omega
        have HS8:Hid (FSt n pb db w o d L N (fun _=>False) fb sb (v::St) m' (c+j) Wq o3 d3):=Lib.hid (HS5.out.wider (fun _ e _=>e.elim) (Nat.le_refl _));have HR8:Hid (findM (outM es) A t most (16 - (v::St).length) m' (v::St)=R):=Lib.hid (by
         rw [HM5.out,List.take_of_length_le (by have:=HM.out;omega)];exact HRN.out)
        have HC8:Hid (c+j<=1+(v::St).length*1000/\(v::St).length<=16):=Lib.hid (by
         have:=HC.out;have:=HM.out;have:=H16.out
         rw [List.length_cons];omega)
        have HME:Hid (16 - mapN Wq.heap[sb]? < 16 - mapN Wr.heap[sb]?):=Lib.hid (by
         rw [HS8.out.st.mapN,HMN.out,List.length_cons];have:=H16.out;omega)
        clear HS5 HM5 HOW5;go_wp2;go_roundw
        case rel=>exact ⟨_,_,_,_,_,HS8,HC8,HR8⟩
        case measure=>exact HME.out
end
end
section
open Go Go.RowKit
def tenDigits:ByteArray:=⟨#[48,49,50,51,52,53,54,55,56,57]⟩
theorem ten_piece:∀ d,d < 10->tenDigits.extract d (d+1)=⟨#[UInt8.ofNat (48+d)]⟩:=by decide
theorem dec_big {j:Nat} (h:10<=j):Lib.decDigits j=Lib.decDigits (j / 10)++[UInt8.ofNat (48+j % 10)]:=by
 rw [Lib.decDigits,dif_neg (by omega)]
theorem dec_small {j:Nat} (h:j < 10):Lib.decDigits j=[UInt8.ofNat (48+j)]:=by
 rw [Lib.decDigits,dif_pos h]
theorem dec_len:∀ (n k:Nat),k < 10 ^ (n+1)->(Lib.decDigits k).length<=n+1:=by
 intro n;induction n with
 | zero=>
   intro k hk;rw [Lib.decDigits,dif_pos (by simpa using hk)];simp
 | succ n ih=>
   intro k hk;by_cases h1:k < 10
   ·rw [Lib.decDigits,dif_pos h1];simp
   ·rw [Lib.decDigits,dif_neg h1,List.length_append];have:=ih (k / 10) (by
     rw [Nat.pow_succ] at hk;exact Nat.div_lt_of_lt_mul (by rw [Nat.mul_comm];exact hk))
    simp;omega
set_option maxRecDepth 100000 in
set_option maxHeartbeats 1000000 in
theorem refDigits_any (k:Nat) (hk:k<=1048576) (w:World):Calls Tryz.prog 75 #[.int .i64 (k:Int)] w fun e w'=>e=.returned (.string ⟨(Lib.decDigits k).toArray⟩)/\w=w':=by
 go_enter Tryz.func75,Tryz.ntmps75
 go_wp2;go_loopw [0,4] (fun nv ov W=>∃ (j:Nat) (s:List UInt8),j<=k/\nv=.int .i64 (j:Int)/\ov=.string ⟨s.toArray⟩/\Lib.decDigits k=Lib.decDigits j++s/\W=w) (fun nv _ _=>(intOf nv).toNat)
 case atStart=>exact ⟨k,[],Nat.le_refl _,rfl,rfl,by simp,rfl⟩
 case round=>
  generalize u0=nv at *;generalize u4=ov at *;obtain ⟨j,s,hj,rfl,rfl,hs,rfl⟩:=hrel;have hl:s.length<=7:=by
   have h1:=dec_len 6 k (by omega);rw [hs,List.length_append] at h1;omega
  have HS:=Lib.hid hs;clear hs;obtain ⟨d,hd⟩:∃ d,d=j % 10:=⟨_,rfl⟩;obtain ⟨q,hq⟩:∃ q,q=j / 10:=⟨_,rfl⟩;have hd10:d < 10:=by omega
  have hm1:(j:Int) % 10=(d:Int):=by omega
  have hm2:(j:Int).tmod 10=(d:Int):=by rw [Int.tmod_eq_emod_of_nonneg (by omega)];exact hm1
  have hq1:(j:Int) / 10=(q:Int):=by omega
  have hq2:(j:Int).tdiv 10=(q:Int):=by rw [Int.tdiv_eq_ediv_of_nonneg (by omega)];exact hq1
  have hw1:IntKind.i64.wrap (d:Int)=(d:Int):=wrap_in (by omega) (by omega);have hw2:IntKind.i64.wrap (q:Int)=(q:Int):=wrap_in (by omega) (by omega);have hw3:IntKind.i64.wrap ((d:Int)+1)=((d+1:Nat):Int):=by rw [wrap_in (by omega) (by omega)];omega
  have HD:=Lib.hid hd;have HQ:=Lib.hid hq;clear hd hq;have HPC:=Lib.hid (ten_piece d hd10);by_cases h:10<=j
  ·have hge:(j:Int) >= 10:=by omega
   have HST:Hid (Lib.decDigits k=Lib.decDigits q++(UInt8.ofNat (48+d)::s)):=Lib.hid (by
    have h1:=HS.out;rw [dec_big h,<- HQ.out,<- HD.out,List.append_assoc] at h1;exact h1)
   go_wp2;refine ⟨⟨q,UInt8.ofNat (48+d)::s,by have:=HQ.out;omega,rfl,?_,HST.out,trivial⟩,?_⟩
   ·have:=HPC.out;unfold tenDigits at this;rw [this];congr 1
   ·simp [intOf];have:=HQ.out;omega
  ·have hge:¬ (j:Int) >= 10:=by omega
   have hjd:j=d:=by have:=HD.out;omega
   have HJ:=Lib.hid hjd;clear hjd;have HFIN:Hid (tenDigits.extract j (j+1)++⟨s.toArray⟩=(⟨(Lib.decDigits k).toArray⟩:ByteArray)):=Lib.hid (by
    have hj10:j < 10:=by omega
    rw [HS.out,dec_small hj10,ten_piece j hj10];apply ByteArray.ext;simp)
   unfold tenDigits at HFIN;go_wp2;go_ret;exact ⟨by rw [<- HFIN.out];rfl,rfl⟩
end
section
open Go.RowKit Go.Maps
theorem edgRow_one (l:List Edg):∀ u∈edgRow l,u.oneCell'=true:=by
 induction l with
 | nil=>intro u hu;cases hu
 | cons x l ih=>
   intro u hu;rw [edgRow,List.mem_append] at hu;rcases hu with hu | hu
   ·simp [Edg.cells] at hu;rcases hu with rfl | rfl | rfl | rfl<;>rfl
   ·exact ih u hu
theorem rdE_row {w:World} {b off n cap:Nat} {es:List Edg} (h:RdE w (.slice (some ⟨b,off,none⟩) n cap) es):∀ j u,(edgRow es)[j]? = some u->w.cell? ((⟨b,off,none⟩:Addr).add j)=some u:=by
 intro j u hj;obtain ⟨-,hc⟩:=rdE_cells h;have hjl:=lt_of_get hj;rw [edgRow_length] at hjl;have hi:j / 4 < es.length:=by omega
 obtain ⟨b',off',he,h1,h2,h3,h4⟩:=hc w (Below.refl _ _) (j / 4) es[j / 4] (List.getElem?_eq_getElem hi);cases he;have hg:=edgRow_get (List.getElem?_eq_getElem hi) (j:=j % 4) (by omega);rw [show j / 4*4+j % 4=j by omega,hj] at hg;rw [Addr_add];have h012:j % 4=0\/j % 4=1\/j % 4=2\/j % 4=3:=by omega
 rcases h012 with e | e | e | e
 ·rw [e] at hg;cases hg;rw [show off+j=off+j / 4*4 by omega];exact h1
 ·rw [e] at hg;cases hg;rw [show off+j=off+j / 4*4+1 by omega];exact h2
 ·rw [e] at hg;cases hg;rw [show off+j=off+j / 4*4+2 by omega];exact h3
 ·rw [e] at hg;cases hg;rw [show off+j=off+j / 4*4+3 by omega];exact h4
theorem wpList_append_rdE {w:World} {ops:Array Oper} {rest:List Oper} {op:Oper} {a:Act} {Q:Exit->Act->World->Prop} (hgd:op.guard=none) (s x:Operand) (ho:op.op=.call { callee:=.builtin .append,args:=#[s,x],argTypes:=#[22,22] }) (base:Nat) (v:Value) (l:List Edg) (hs:a.eval s=v) (hown:ownsEdges w base v l)
 (u:Value) (es:List Edg) (hx:a.eval x=u) (hr:RdE w u es) (hl:l.length+es.length<=100000) (hbase:base<=w.heap.size)
 (k:∀ v' w',ownsEdges w' base v' (l++es)->Appd v w w' v'->wpList Tryz.prog ops Q rest (a.put op.dst v') w'):wpList Tryz.prog ops Q (op::rest) a w:=by
 have hrw:=hr;obtain ⟨ad,cap,rfl,hc⟩:=hrw;cases ad with
 | some ad=>
   have hcells:∀ j u,(edgRow es)[j]? = some u->w.cell? (ad.add j)=some u:=fun j u hj=>by
    have hjl:=lt_of_get hj;rw [edgRow_length] at hjl;rcases hc with h0 | ⟨b,off,ha,_⟩
    ·omega
    ·cases ha;exact rdE_row hr j u hj
   refine wpList_append_at hgd s x 22 ho base 64 _ 4 24 Tryz.underlying22 info_edge rfl (by decide) v l.length (edgRow l) hs hown ad es.length cap (edgRow es) hx (edgRow_length es) hcells (edgRow_one es) (by unfold maxLen;omega) (by omega) hbase (fun v' w' h1 h2=>k v' w' ?_ h2);unfold ownsEdges;rw [edgRow_append,List.length_append];exact h1
 | none=>
   have h0:es=[]:=by
    rcases hc with hc | ⟨b,off,ha,_⟩
    ·exact List.length_eq_zero_iff.1 hc
    ·cases ha
   subst h0;obtain ⟨i0,hi0,hz0,hz1,hz2⟩:=info_parts info_edge;have hst0:∀ ad,(storeCells ad []).run Tryz.prog w=.ok () w:=fun _=>rfl;obtain ⟨va,vc,hve⟩:∃ va vc,v=.slice va l.length vc:=ownsRow_slice hown;subst hve;refine wpList_plain hgd fun K hK=>?_;have hcap:l.length<=vc:=by
    rcases ownsEdges_shape hown with ⟨h1,h2⟩ | ⟨g,c,h1,_,h2,_⟩
    ·rw [h1];exact Nat.zero_le _
    ·cases h1;exact h2
   have hrun:(Builtin.append_ #[22,22] op.type #[.slice va l.length vc, .slice none ([]:List Edg).length cap]).run Tryz.prog w=.ok (.slice va l.length vc) w:=by
    cases va with
    | none=>simp [Builtin.append_,run_underlying Tryz.underlying22,sizeOf,typeInfo,hi0,Builtin.lenOf,Builtin.firstCells,hcap]
    | some va=>simp [Builtin.append_,run_underlying Tryz.underlying22,sizeOf,typeInfo,hi0,Builtin.lenOf,Builtin.firstCells,hst0,hcap]
   unfold Oper.wp execOp;simp only [ho,resolve,invoke,builtin,Sem.run_bind,Sem.run_pure,Result.andThen_ok,List.map_toArray,List.map_cons,List.map_nil,hs,hx,hrun];refine hK _ _ (k _ _ (by rw [List.append_nil];exact hown) ⟨⟨rfl,rfl,rfl,Nat.le_refl _,fun _ _ _=>rfl⟩, .inl rfl⟩)
theorem ownsEdges_none (w:World):ownsEdges (w.alloc (.cells #[] 64)) w.heap.size (.slice (some ⟨w.heap.size,0,none⟩) 0 0) []:=
 ⟨by simp [edgRow], .inr ⟨w.heap.size,0,#[],rfl,Nat.le_refl _,heap_alloc_new w _,Nat.le_refl _,Nat.zero_le _,by simp,by simp [edgRow]⟩⟩
theorem RdE.take {w:World} {a:Option Addr} {n cap k:Nat} {es:List Edg} (h:RdE w (.slice a n cap) es) (hk:k<=es.length):RdE w (.slice a k cap) (es.take k):=by
 obtain ⟨a',cap',he,hc⟩:=h;cases he;have hl:(es.take k).length=k:=by rw [List.length_take];omega
 refine ⟨a,cap,by rw [hl],?_⟩;rcases hc with hc | ⟨b,off,rfl,hc⟩
 ·exact .inl (by omega)
 ·exact .inr ⟨b,off,rfl,fun j x hx=>hc j x (by rw [List.getElem?_take] at hx;split at hx;exact hx;cases hx)⟩
theorem RdE.drop {w:World} {b off n cap k:Nat} {es:List Edg} (h:RdE w (.slice (some ⟨b,off,none⟩) n cap) es) (hk:k<=es.length) (c:Nat):RdE w (.slice (some ⟨b,off+k*4,none⟩) (n - k) c) (es.drop k):=by
 obtain ⟨a',cap',he,hc⟩:=h;cases he;have hl:(es.drop k).length=es.length - k:=List.length_drop ..;refine ⟨_,c,by rw [hl],?_⟩;rcases hc with hc | ⟨b',off',he,hc⟩
 ·exact .inl (by omega)
 ·cases he;refine .inr ⟨b,off+k*4,rfl,fun j x hx=>?_⟩;rw [List.getElem?_drop] at hx;have:=hc (k+j) x hx;rw [show off+k*4+j*4=off+(k+j)*4 by omega];exact this
theorem RdE.none {w:World} {a:Option Addr} {cap:Nat}:RdE w (.slice a 0 cap) []:=⟨a,cap,rfl, .inl rfl⟩
theorem appd_below {W0 W W':World} {v v':Value} (hb:Below W0.heap.size W0 W) (hv:∀ y,v.ownBlock=some y->W0.heap.size<=y) (ha:Appd v W W' v'):Below W0.heap.size W0 W'/\∀ y,v'.ownBlock=some y->W0.heap.size<=y:=by
 obtain ⟨hg,h⟩:=ha;have hs:=hb.size;refine ⟨hb.trans ⟨hg.os,hg.tape,hg.output,hg.size,fun x hx=>hg.block x (by omega) (fun e=>?_)⟩,fun y hy=>?_⟩
 ·have:=hv x e.symm;omega
 ·rcases h with h | h
  ·rw [h] at hy;exact hv y hy
  ·rw [h] at hy;cases hy;exact hs
def SortedHead (w:World) (b:Bool) (r:List Edg) (i:Nat) (v:Value) (W:World):Prop:=∃ out:List Edg,ownsEdges W w.heap.size v out/\Best b (r.take i) out/\out.length<=i/\Below w.heap.size w W
set_option maxRecDepth 100000 in
set_option maxHeartbeats 8000000 in
theorem sorted_any (v:Value) (es:List Edg) (b:Bool) (w:World) (hv:RdE w v es) (hl:es.length<=10000):Calls Tryz.prog 46 #[v, .int .i64 (byNum b:Int)] w (NewEdges w (bestOf b es)):=by
 have hred:=Lib.hid (reduce_any v es w hv hl);have hrl:(bestOf false es).length<=10000:=Nat.le_trans (bestOf_length _ _) hl;have HB0:=Lib.hid (best_bestOf false es);have HEND:Hid (∀ out,Best b (bestOf false es) out->out=bestOf b es):=Lib.hid (fun out h=>by rw [h.eq,bestOf_turn]);obtain ⟨va,vn,vc,rfl⟩:∃ a n c,v=.slice a n c:=by
  obtain ⟨a,c,rfl,_⟩:=hv;exact ⟨a,_,c,rfl⟩
 clear hv hl;generalize bestOf false es=r at *;obtain ⟨bn,hbn⟩:∃ bn:Int,bn=(byNum b:Int):=⟨_,rfl⟩;have hcall:=Lib.hid (fun W x y=>ahead12_any b x y W);rw [<- hbn] at hcall ⊢;clear hbn;go_enter Tryz.func46,Tryz.ntmps46
 go_wp2_with fail
 refine hred.out.mono ?_;rintro e w1 ⟨rv,rfl,hr1,hb1⟩;have HR1:=Lib.hid hr1;have HB1:=Lib.hid hb1;obtain ⟨ra,rc,rfl⟩:∃ ra rc,rv=.slice ra r.length rc:=ownsRow_slice hr1;have HV1:=Lib.hid (rdE_own hr1);obtain ⟨-,hcells⟩:=rdE_cells HV1.out;have HC:=Lib.hid hcells;have HX:Hid (∀ i,i < r.length->∃ x,r[i]? = some x):=Lib.hid (fun i hi=>⟨_,List.getElem?_eq_getElem hi⟩);have HALL:Hid (r.take r.length=r):=Lib.hid (List.take_of_length_le (Nat.le_refl _));clear hcells hr1 hb1 hred;generalize hN:r.length=N at *;have HN:=Lib.hid hN;clear hN;go_wp2;go_loopw [5,7] (fun ov iv W=>∃ i:Nat,i<=N/\iv=.int .i64 (i:Int)/\SortedHead w1 b r i ov W) (fun _ iv _=>N - (intOf iv).toNat)
 case atStart=>exact ⟨0,Nat.zero_le _,rfl,[],World.ownsRow_nil _ _ _ _,Best.nil _,Nat.le_refl _,Below.refl _ _⟩
 case round=>
  generalize u5=ov at *;generalize wr=W1 at *;obtain ⟨i,hi,rfl,out,hr,hbest,hol,hb⟩:=hrel;have HR:=Lib.hid hr;have HBEST:=Lib.hid hbest;have HB:=Lib.hid hb;have hz:w1.heap.size<=W1.heap.size:=hb.size;clear hr hbest hb;by_cases hlt:i < N
  ·obtain ⟨x,hx⟩:=HX.out i hlt;have HXX:=Lib.hid hx;have HTK:=Lib.hid (take_snoc hx);obtain ⟨re,ro,rfl,-⟩:=HC.out W1 HB.out i x hx;have HXC:Hid (∀ W,Below W1.heap.size W1 W->W.cell? ⟨re,ro+i*4,none⟩=some (.int .u32 (x.t.toNat:Int))/\W.cell? ⟨re,ro+i*4+1,none⟩=some (.int .u32 (x.h.toNat:Int))/\W.cell? ⟨re,ro+i*4+2,none⟩=some (.int .u64 (x.x.toNat:Int))/\W.cell? ⟨re,ro+i*4+3,none⟩=some (.int .u32 (x.m.toNat:Int))):=Lib.hid (fun W hB=>by
    obtain ⟨b',o',e,g⟩:=HC.out W (HB.out.trans (hB.mono HB.out.size)) i x HXX.out;cases e;exact g)
   obtain ⟨oa,oc,hve⟩:∃ oa oc,ov=.slice oa out.length oc:=ownsRow_slice HR.out;subst hve;have HRD:Hid (∀ W,Below W1.heap.size W1 W->RdE W (.slice oa out.length oc) out):=Lib.hid (fun W hB=>(rdE_own HR.out).below hB);have hoc:out.length<=oc/\oc<=maxLen:=by
    rcases ownsEdges_shape HR.out with ⟨h1,h2⟩ | ⟨g,c,h1,_,h2,h3⟩
    ·rw [h1];exact ⟨Nat.zero_le _,by injection h2 with _ _ e3;rw [e3];exact Nat.zero_le _⟩
    ·cases h1;exact ⟨h2,h3⟩
   obtain ⟨hoc1,hoc2⟩:=hoc;unfold maxLen at hoc2;have HOX:Hid (∀ j,j < out.length->∃ o,out[j]? = some o):=Lib.hid (fun j hj=>⟨_,List.getElem?_eq_getElem hj⟩);have HNEW:Hid (∀ o∈out,pk b o≠pk b x):=Lib.hid (fun o ho e=>by
    have h1:=(HBEST.out.mem o ho).1;obtain ⟨j,hj,rfl⟩:=List.getElem_of_mem h1;rw [List.getElem_take] at e;rw [List.length_take] at hj;have e':pk false r[j]=pk false x:=pk_same.2 (pk_same.1 e);have h2:=pairwise_get HB0.out.rise (show j < i by omega) (List.getElem?_eq_getElem (by omega)) HXX.out;omega)
   have HLOOP:Hid (x.t≠x.h):=Lib.hid (HB0.out.mem x (List.mem_of_getElem? HXX.out)).2.1;clear hx;generalize hn0:out.length=n0 at *;have HN0:=Lib.hid hn0;clear hn0;go_wp2;go_loopw [8] (fun kv W=>∃ k:Nat,k<=n0/\kv=.int .i64 (k:Int)/\(∀ (j:Nat) (o:Edg),j < k->out[j]? = some o->pk b o < pk b x)/\Below W1.heap.size W1 W) (fun kv _=>n0 - (intOf kv).toNat)
   case atStart=>exact ⟨0,Nat.zero_le _,rfl,(fun j o hj=>absurd hj (Nat.not_lt_zero _)),Below.refl _ _⟩
   case round=>
    generalize wr=W2 at *;obtain ⟨k,hk,rfl,hlo,hb2⟩:=hrel;have HLO:=Lib.hid hlo;have HB2:=Lib.hid hb2;clear hlo hb2;by_cases hkl:k < n0
    ·obtain ⟨o,ho⟩:=HOX.out k hkl;have HO:=Lib.hid ho;clear ho;obtain ⟨-,hcc⟩:=rdE_cells (by rw [<- HN0.out] at HRD;exact HRD.out W2 HB2.out);obtain ⟨oe,oo,rfl,-⟩:=hcc W2 (Below.refl _ _) k o HO.out;have HOW:Hid (∀ W,Below W2.heap.size W2 W->W.cell? ⟨oe,oo+k*4,none⟩=some (.int .u32 (o.t.toNat:Int))/\W.cell? ⟨oe,oo+k*4+1,none⟩=some (.int .u32 (o.h.toNat:Int))/\W.cell? ⟨oe,oo+k*4+2,none⟩=some (.int .u64 (o.x.toNat:Int))/\W.cell? ⟨oe,oo+k*4+3,none⟩=some (.int .u32 (o.m.toNat:Int))):=Lib.hid (fun W hB=>by
      obtain ⟨g',o',e,r⟩:=hcc W hB k o HO.out;cases e;exact r)
     clear hcc;have hcall1:=Lib.hid (fun W=>hcall.out W o x);obtain ⟨rr,hr0⟩:∃ r:Bool,r=decide (pk b o < pk b x):=⟨_,rfl⟩;rw [<- hr0] at hcall1;have HRR:=Lib.hid hr0;clear hr0;go_wp2_with fail
     refine wq W2 ?_;iterate 8 (refine qo (fun K hK=>?_);go_simp;refine hK _ ?_;clear hK K)
     refine qo (fun K hK=>?_) (fun w' hw'=>by obtain ⟨e0,e1,e2,e3⟩:=HOW.out w' hw';go_simp<;>rfl);go_simp;refine hK _ ?_;clear hK K;iterate 3 (refine qo (fun K hK=>?_);go_simp;refine hK _ ?_;clear hK K)
     refine qo (fun K hK=>?_) (fun w' hw'=>by obtain ⟨e0,e1,e2,e3⟩:=HXC.out w' (HB2.out.trans (hw'.mono HB2.out.size));go_simp<;>rfl);go_simp;refine hK _ ?_;clear hK K;refine qo (fun K hK=>?_);go_simp;refine hK _ ?_;clear hK K;refine qc (fun w' hw'=>(hcall1.out w').mono fun e w'' ⟨he,hb⟩=>⟨he,hw'.trans (hb.mono hw'.size)⟩) (fun K hK=>?_);go_simp;refine hK _ ?_;clear hK K;refine qo (fun K hK=>?_);go_simp;refine hK _ ?_;clear hK K;refine wpQuiet_nil ?_;intro W3 hb3;have HB3:=Lib.hid (HB2.out.trans (hb3.mono HB2.out.size));clear hb3 hcall1 HOW;cases rr with
     | true=>
       have HLO':Hid (∀ (j:Nat) (o':Edg),j < k+1->out[j]? = some o'->pk b o' < pk b x):=Lib.hid (fun j o' hj ho'=>by
        rcases Nat.lt_or_ge j k with h | h
        ·exact HLO.out j o' h ho'
        ·obtain rfl:j=k:=by omega
         rw [HO.out] at ho';rw [<- Option.some.inj ho'];exact of_decide_eq_true HRR.out.symm)
       go_wp2;go_roundw
       case rel=>exact ⟨k+1,by omega,by go_num,HLO'.out,HB3.out⟩
       case measure=>simp [intOf];omega
     | false=>
       have HLAY:Hid (Best b (r.take (i+1)) (out.take k++x::out.drop k)):=Lib.hid (by
        rw [HTK.out];refine HBEST.out.lay HLOOP.out (by rw [HN0.out];exact hk) HLO.out (fun j o' hj ho'=>?_);have h0:=HNEW.out o (List.mem_of_getElem? HO.out);have h1:=of_decide_eq_false HRR.out.symm;rcases Nat.eq_or_lt_of_le hj with rfl | hlt
        ·rw [HO.out] at ho';rw [<- Option.some.inj ho'];omega
        ·have:=pairwise_get HBEST.out.rise hlt HO.out ho';omega)
       have HBX:=HB3;have HNONE:Hid (ownsEdges (W3.alloc (.cells #[] 64)) w1.heap.size (.slice (some ⟨W3.heap.size,0,none⟩) 0 0) []):=Lib.hid (ownsRow_base (ownsEdges_none W3) (Nat.le_trans hz HBX.out.size));have HTKX:Hid (RdE (W3.alloc (.cells #[] 64)) (.slice (some ⟨oe,oo,none⟩) k oc) (out.take k)):=Lib.hid ((HRD.out _ (HBX.out.alloc HBX.out.size _)).take (by rw [HN0.out];exact hk));have hlk:([]:List Edg).length+(out.take k).length<=100000:=by rw [List.length_take,List.length_nil];omega
       have hzX:w1.heap.size<=(W3.alloc (.cells #[] 64)).heap.size:=by have:=HBX.out.size;simp;omega
       go_wp2_with (at_builtin;refine wpList_append_rdE rfl _ _ rfl w1.heap.size _ [] rfl HNONE.out _ (out.take k) rfl HTKX.out hlk hzX ?_)
       intro v4 W4 hr4 ha4;obtain ⟨hb4,hv4⟩:=appd_below ((Below.refl W3.heap.size W3).alloc (Nat.le_refl _) _) (fun y hy=>by cases hy;exact Nat.le_refl _) ha4;have HR4:Hid (ownsEdges W4 w1.heap.size v4 (out.take k)):=Lib.hid (by rw [<- List.nil_append (out.take k)];exact hr4);have HB4:=Lib.hid (HBX.out.trans (hb4.mono HBX.out.size));have HBX4:=Lib.hid hb4;have HV4:=Lib.hid hv4;obtain ⟨x0,x1,x2,x3⟩:=HXC.out W4 HB4.out;have hlk4:(out.take k).length<=100000:=by rw [List.length_take];omega
       have hz4:w1.heap.size<=W4.heap.size:=Nat.le_trans hz HB4.out.size;clear hr4 ha4 hb4 hv4;go_wp2_with (at_builtin;refine wpList_append_edge rfl _ _ rfl w1.heap.size _ (out.take k) rfl HR4.out x 1 rfl hlk4 hz4 ?_)
       intro v5 W5 hr5 ha5;obtain ⟨hb5,hv5⟩:=appd_below (HBX4.out.alloc HBX4.out.size _) HV4.out ha5;have HR5:=Lib.hid hr5;have HB5:=Lib.hid (HBX.out.trans (hb5.mono HBX.out.size));have HBX5:=Lib.hid hb5;have HV5:=Lib.hid hv5;have hz5:w1.heap.size<=W5.heap.size:=Nat.le_trans hz HB5.out.size;have hlk5:(out.take k++[x]).length+(out.drop k).length<=100000:=by rw [List.length_append,List.length_take,List.length_drop,List.length_singleton,HN0.out];omega
       clear hr5 ha5 hb5 hv5 x0 x1 x2 x3;have HDR:Hid (RdE W5 (.slice (some ⟨oe,oo+k*4,none⟩) (n0 - k) (oc - k)) (out.drop k)):=Lib.hid (by
        have:=HRD.out W5 HB5.out;exact RdE.drop this (by rw [HN0.out];exact hk) _)
       go_wp2_with (at_builtin;refine wpList_append_rdE rfl _ _ rfl w1.heap.size _ (out.take k++[x]) rfl HR5.out _ (out.drop k) rfl HDR.out hlk5 hz5 ?_)
       intro v6 W6 hr6 ha6;obtain ⟨hb6,-⟩:=appd_below HBX5.out HV5.out ha6;have HR6:Hid (ownsEdges W6 w1.heap.size v6 (out.take k++x::out.drop k)):=Lib.hid (by
        exact hr6)
       have HBWX:=Lib.hid (HB.out.trans (HBX.out.mono hz));have HB6:=Lib.hid (HBWX.out.trans (hb6.mono HBWX.out.size));clear hr6 ha6 hb6;go_wp2;go_roundw
       case rel=>exact ⟨i+1,by omega,by go_num,out.take k++x::out.drop k,HR6.out,HLAY.out,by rw [List.length_append,List.length_cons,List.length_take,List.length_drop,HN0.out];omega,HB6.out⟩
       case measure=>simp [intOf];omega
    ·obtain rfl:n0=k:=by omega
     have HLAY:Hid (Best b (r.take (i+1)) (out.take n0++x::out.drop n0)):=Lib.hid (by
      rw [HTK.out];refine HBEST.out.lay HLOOP.out (by rw [HN0.out];exact Nat.le_refl _) HLO.out (fun j o' hj ho'=>?_);have:=lt_of_get ho';rw [HN0.out] at this;omega)
     have hdd:decide ((n0:Int) < (n0:Int))=false:=decide_eq_false (by omega);have hdd':decide (n0 < n0)=false:=decide_eq_false (by omega);rcases Nat.eq_or_lt_of_le hoc1 with hcN | hcN;case' inl=>subst hcN
     all_goals
      go_wp2_with fail
      go_quiet (fail)
      have hb3:Below W2.heap.size W2 (W2.drewN nq):=below_drewN (Below.refl _ _) _;have HBX:=Lib.hid (HB2.out.trans (hb3.mono HB2.out.size));clear hb3 hdd hdd';generalize W2.drewN nq=W3 at *;have HNONE:Hid (ownsEdges (W3.alloc (.cells #[] 64)) w1.heap.size (.slice (some ⟨W3.heap.size,0,none⟩) 0 0) []):=Lib.hid (ownsRow_base (ownsEdges_none W3) (Nat.le_trans hz HBX.out.size));have HTKX:=Lib.hid ((HRD.out (W3.alloc (.cells #[] 64)) (HBX.out.alloc HBX.out.size _)).take (k:=n0) (by rw [HN0.out];exact hk));have hlk:([]:List Edg).length+(out.take n0).length<=100000:=by rw [List.length_take,List.length_nil];omega
      have hzX:w1.heap.size<=(W3.alloc (.cells #[] 64)).heap.size:=by have:=HBX.out.size;simp;omega
      go_wp2_with (at_builtin;refine wpList_append_rdE rfl _ _ rfl w1.heap.size _ [] rfl HNONE.out _ (out.take n0) rfl HTKX.out hlk hzX ?_)
      intro v4 W4 hr4 ha4;obtain ⟨hb4,hv4⟩:=appd_below ((Below.refl W3.heap.size W3).alloc (Nat.le_refl _) _) (fun y hy=>by cases hy;exact Nat.le_refl _) ha4;have HR4:Hid (ownsEdges W4 w1.heap.size v4 (out.take n0)):=Lib.hid (by rw [<- List.nil_append (out.take n0)];exact hr4);have HB4:=Lib.hid (HBX.out.trans (hb4.mono HBX.out.size));have HBX4:=Lib.hid hb4;have HV4:=Lib.hid hv4;obtain ⟨x0,x1,x2,x3⟩:=HXC.out W4 HB4.out;have hlk4:(out.take n0).length<=100000:=by rw [List.length_take];omega
      have hz4:w1.heap.size<=W4.heap.size:=Nat.le_trans hz HB4.out.size;clear hr4 ha4 hb4 hv4;go_wp2_with (at_builtin;refine wpList_append_edge rfl _ _ rfl w1.heap.size _ (out.take n0) rfl HR4.out x 1 rfl hlk4 hz4 ?_)
      intro v5 W5 hr5 ha5;obtain ⟨hb5,hv5⟩:=appd_below (HBX4.out.alloc HBX4.out.size _) HV4.out ha5;have HR5:=Lib.hid hr5;have HB5:=Lib.hid (HBX.out.trans (hb5.mono HBX.out.size));have HBX5:=Lib.hid hb5;have HV5:=Lib.hid hv5;have hz5:w1.heap.size<=W5.heap.size:=Nat.le_trans hz HB5.out.size;have hlk5:(out.take n0++[x]).length+(out.drop n0).length<=100000:=by rw [List.length_append,List.length_take,List.length_drop,List.length_singleton,HN0.out];omega
      clear hr5 ha5 hb5 hv5 x0 x1 x2 x3;have hdr:out.drop n0=[]:=List.drop_of_length_le (by rw [HN0.out];exact Nat.le_refl _);have HDR:=Lib.hid hdr;have HLK5:=Lib.hid hlk5;clear hdr hlk5;go_wp2_with (at_builtin;refine wpList_append_rdE rfl _ _ rfl w1.heap.size _ (out.take n0++[x]) rfl HR5.out _ (out.drop n0) rfl (by rw [HDR.out];exact RdE.none) HLK5.out hz5 ?_)
      intro v6 W6 hr6 ha6;obtain ⟨hb6,-⟩:=appd_below HBX5.out HV5.out ha6;have HR6:Hid (ownsEdges W6 w1.heap.size v6 (out.take n0++x::out.drop n0)):=Lib.hid (by
       exact hr6)
      have HBWX:=Lib.hid (HB.out.trans (HBX.out.mono hz));have HB6:=Lib.hid (HBWX.out.trans (hb6.mono HBWX.out.size));clear hr6 ha6 hb6;go_wp2;go_roundw
      case rel=>exact ⟨i+1,by omega,by go_num,out.take n0++x::out.drop n0,HR6.out,HLAY.out,by rw [List.length_append,List.length_cons,List.length_take,List.length_drop,HN0.out];omega,HB6.out⟩
      case measure=>simp [intOf];omega
  ·obtain rfl:N=i:=by omega
   go_wp2;go_ret;refine ⟨_,rfl,?_,HB1.out.trans (HB.out.mono HB1.out.size)⟩;have h:=HBEST.out;rw [HALL.out] at h;rw [<- HEND.out _ h];exact ownsRow_base HR.out HB1.out.size
end
section
open Go.RowKit Go.Maps Go.MapKept
set_option maxRecDepth 100000 in
set_option maxHeartbeats 4000000 in
theorem refName_any (c:UInt8) (k:Nat) (hk:k<=1048576) (w:World) :
 Calls Tryz.prog 39 #[.int .u8 (c.toNat:Int), .int .i64 (k:Int)] w fun e w'=>e=.returned (.string (sName c k))/\Below w.heap.size w w':=by
 have hit:Hid (∀ W,Below w.heap.size w W->Calls Tryz.prog 75 #[.int .i64 (k:Int)] W fun e w'=>∃ v,e=.returned v/\Below W.heap.size W w'/\v=.string ⟨(Lib.decDigits k).toArray⟩):=Lib.hid (fun W hW=>by
  refine (refDigits_any k hk W).mono ?_;rintro e w' ⟨rfl,rfl⟩;exact ⟨_,rfl,Below.refl _ _,rfl⟩)
 have hk0:¬ (k:Int) < 0:=by omega
 have HT:Hid ((⟨#[c,46]⟩:ByteArray)++⟨(Lib.decDigits k).toArray⟩=sName c k):=Lib.hid (by
  unfold sName;apply ByteArray.ext;simp)
 have hcv:Hid (∀ (W:World) (g:Nat),W.cell? ⟨g,0,none⟩=some (.int .u8 (c.toNat:Int))->W.cell? ⟨g,1,none⟩=some (.int .u8 46)->Sem.run Tryz.prog (convert 39 9 (.slice (some ⟨g,0,none⟩) 2 2)) W=.ok (.string ⟨#[c,46]⟩) W):=Lib.hid (fun W g h0 h1=>
  run_convert_bytes_back (P:=Tryz.prog) _ 39 9 5 ⟨g,0,none⟩ 2 [c,46] Tryz.underlying39 Tryz.underlying5 Tryz.underlying9 (fun j hj=>by
   rw [Addr_add,Nat.zero_add];match j,hj with
   | 0,_=>exact h0
   | 1,_=>exact h1))
 have hdl:(Lib.decDigits k).length<=7:=(digits_lt 6 k (by omega)).2;generalize Lib.decDigits k=dg at *;generalize sName c k=full at *;go_enter Tryz.func39,Tryz.ntmps39
 go_wp2;refine wp_region_relB (Below w.heap.size w) (nameRel c k dg full) (by kernel_rfl) (by kernel_rfl) (Below.refl _ _).drew (fun w1 w2 h1 h2=>h1.trans (h2.mono h1.size)) nameRel_on ?_ ?_
 ·intro i o ho a W hC hdep;match i,ho with
  | 0,ho=>
    cases ho;have h0:=hdep.old 0 rfl rfl;refine step_val (v:=.int .u8 (c.toNat:Int)) (w':=W) ?_ (Below.refl _ _) rfl;go_simp
  | 1,ho=>
    cases ho;obtain ⟨v7,h7,rfl⟩:=hdep.get 0 rfl rfl rfl;refine step_val (v:=.slice (some ⟨W.heap.size,0,none⟩) 2 2) (w':=W.alloc (.cells #[.int .u8 (c.toNat:Int), .int .u8 46] 5)) ?_ ((Below.refl _ _).alloc (Nat.le_refl _) _) ⟨W.heap.size,rfl,by simp,by simp⟩;go_simp
  | 2,ho=>
    cases ho;obtain ⟨v8,h8,g,rfl,c0,c1⟩:=hdep.get 1 rfl rfl rfl;have hc:=hcv.out W g c0 c1;refine step_val (v:=.string ⟨#[c,46]⟩) (w':=W) ?_ (Below.refl _ _) rfl;go_simp
  | 3,ho=>
    cases ho;have h1:=hdep.old 1 rfl rfl;refine step_val (v:=.int .i64 (k:Int)) (w':=W) ?_ (Below.refl _ _) rfl;go_simp
  | 4,ho=>
    cases ho;obtain ⟨v10,h10,rfl⟩:=hdep.get 3 rfl rfl rfl;refine step_call (f:=75) (args:=#[.int .i64 (k:Int)]) ?_ (hit.out W hC);go_simp
  | 5,ho=>
    cases ho;obtain ⟨v9,h9,rfl⟩:=hdep.get 2 rfl rfl rfl;obtain ⟨v11,h11,rfl⟩:=hdep.get 4 rfl rfl rfl;refine step_val (v:=.string full) (w':=W) ?_ (Below.refl _ _) rfl;rw [<- HT.out];go_simp;omega
  | 6,ho=>
    cases ho;obtain ⟨v12,h12,rfl⟩:=hdep.get 5 rfl rfl rfl;refine step_val (v:=.string full) (w':=W) ?_ (Below.refl _ _) rfl;go_simp
  | _+7,ho=>cases ho
 ·intro listed a W inv hr;have HB:=Lib.hid inv.cls;obtain ⟨vs,hl,hp,rfl⟩:=rel_end inv hr (by kernel_rfl) (by kernel_rfl);match vs,hl with
  | [v0,v1,v2,v3,v4,v5,v6],_=>
    obtain rfl:=hp 6 v6 rfl;clear hp hl hr inv;simp only [relPut];go_simp;go_wp2;go_ret;exact ⟨rfl,HB.out⟩
theorem VertsAt.rd {w:World} {v:Value} {vs:List Vrt} (h:VertsAt w v vs):RdV w v vs:=by
 obtain ⟨a,cap,rfl,h1,h2,h⟩:=h;refine ⟨a,cap,rfl,h.imp id ?_⟩;rintro ⟨b,off,rfl,hc⟩;refine ⟨b,off,rfl,fun j x hx=>?_⟩;have hl:=lt_of_get hx;rw [List.getElem?_eq_getElem hl] at hx;obtain rfl:=Option.some.inj hx;exact hc j hl
theorem cell_of_heap {w w':World} {b o:Nat} (h:w'.heap[b]? = w.heap[b]?):w'.cell? ⟨b,o,none⟩=w.cell? ⟨b,o,none⟩:=by
 unfold World.cell?;rw [h]
theorem RdE.other {w w':World} {v:Value} {es:List Edg} (h:RdE w v es) (hk:∀ b,v.ownBlock=some b->w'.heap[b]? = w.heap[b]?):RdE w' v es:=by
 obtain ⟨a,cap,rfl,h⟩:=h;refine ⟨a,cap,rfl,h.imp id ?_⟩;rintro ⟨b,off,rfl,hc⟩;have he:∀ o,w'.cell? ⟨b,o,Option.none⟩=w.cell? ⟨b,o,Option.none⟩:=fun o=>cell_of_heap (hk b rfl);refine ⟨b,off,rfl,fun j x hx=>?_⟩;obtain ⟨q0,q1,q2,q3⟩:=hc j x hx;exact ⟨(he _).trans q0,(he _).trans q1,(he _).trans q2,(he _).trans q3⟩
end
section
open Go.RowKit Go.Maps
theorem RdE.moved {n pb db:Nat} {w w':World} {o o':Owner} {d d':Dsk} {L':Logic} {v:Value} {es:List Edg} (h:RdE w v es) (hm:Moved (fun _=>False) n pb db w o d w' o' d' L') (ho:∀ b,v.ownBlock=some b->o b=Option.none):RdE w' v es:=by
 obtain ⟨a,cap,rfl,h⟩:=h;refine ⟨a,cap,rfl,h.imp id ?_⟩;rintro ⟨b,off,rfl,hc⟩;refine ⟨b,off,rfl,fun j x hx=>?_⟩;obtain ⟨q0,q1,q2,q3⟩:=hc j x hx;exact ⟨hm.cell q0 (ho b rfl) (fun h=>h),hm.cell q1 (ho b rfl) (fun h=>h),hm.cell q2 (ho b rfl) (fun h=>h),hm.cell q3 (ho b rfl) (fun h=>h)⟩
end
section
open Go.RowKit Go.Maps
structure NetIn (w0 w:World) (pb db n:Nat) (o:Owner) (d:Dsk) (L:Logic) (gb gen N ob ib vb:Nat) (es:List Edg):Prop where
 held:Held w0 w pb db n o d L
 need:need L<=131072
 gr:GraphAt w o gb pb gen N ob ib vb
 file:mget L (sName 101 gen)=some (edgeFile (bestOf false es) true)
 file':mget L (sName 114 gen)=some (edgeFile (bestOf true es) true)
 len:es.length<=1000
 top:N<=1000
 ends:∀ x∈es,x.t.toNat < N/\x.h.toNat < N
structure AvOk (w:World) (o:Owner) (av:Value) (A:Nat->Bool) (K:Nat->Prop):Prop where
 ex:∃ f cs,av=.func (.func f) #[] cs/\(∀ args W,Sem.run Tryz.prog (callFunc f args) W=.ok (.enter f args) W) /\
  ∀ W (x:Nat),(∀ b,K b->W.heap[b]? = w.heap[b]?)->w.heap.size<=W.heap.size->x < 4294967296->Calls Tryz.prog f (#[.int .u32 (x:Int)]++cs) W fun e W'=>e=.returned (.bool (A x))/\Below W.heap.size W W'
 old:∀ b,K b->b < w.heap.size/\o b=none
section
variable {w0 w w' W:World} {pb db n gb gen N ob ib vb sv ab:Nat} {o o':Owner} {d d':Dsk} {L:Logic} {es:List Edg} {A:Nat->Bool} {K:Nat->Prop} {av:Value}
theorem NetIn.moved (h:NetIn w0 w pb db n o d L gb gen N ob ib vb es) (hm:Moved (fun _=>False) n pb db w o d w' o' d' L):NetIn w0 w' pb db n o' d' L gb gen N ob ib vb es:=
 ⟨h.held.moved hm (fun _ e=>e.elim),h.need,h.gr.movedS hm (fun _ _ e=>e),h.file,h.file',h.len,h.top,h.ends⟩
theorem AvOk.moved (h:AvOk w o av A K) (hm:Moved (fun _=>False) n pb db w o d w' o' d' L):AvOk w' o' av A K:=by
 obtain ⟨f,cs,rfl,h1,h2⟩:=h.ex;exact ⟨⟨f,cs,rfl,h1,fun W x hk hs hx=>h2 W x (fun b hb=>(hk b hb).trans (hm.block (h.old b hb).1 (h.old b hb).2 (fun e=>e))) (Nat.le_trans hm.size hs) hx⟩,fun b hb=>⟨Nat.lt_of_lt_of_le (h.old b hb).1 hm.size,hm.free (h.old b hb).1 (h.old b hb).2⟩⟩
theorem NetIn.out (HW:WriteSaid) (h:NetIn w0 w pb db n o d L gb gen N ob ib vb es) {v:Nat} (hv:v < N):Calls Tryz.prog 21 #[ptrTo gb, .int .u32 (v:Int)] w (HeldOf n pb db w o d L (outM es v)):=
 held_out HW h.held h.need h.gr h.file h.len hv h.top
theorem NetIn.inn (HW:WriteSaid) (h:NetIn w0 w pb db n o d L gb gen N ob ib vb es) {v:Nat} (hv:v < N):Calls Tryz.prog 22 #[ptrTo gb, .int .u32 (v:Int)] w (HeldOf n pb db w o d L (inM es v)):=
 held_in HW h.held h.need h.gr h.file' h.len hv h.top
theorem inM_sub {es:List Edg} {v:Nat} {x:Edg} (h:x∈inM es v):x∈es/\x.h.toNat=v:=
 ⟨((best_bestOf true es).mem x (ofL_mem h).1).1,(ofL_mem h).2⟩
theorem inM_length (es:List Edg) (v:Nat):(inM es v).length<=es.length:=by
 have:=bestOf_length true es;exact Nat.le_trans (List.length_filter_le _ _) this
abbrev outFn (gb:Nat):Value:=.func (.func 21) #[ptrTo gb] #[]
abbrev inFn (gb:Nat):Value:=.func (.func 22) #[ptrTo gb] #[]
def BothPost (n pb db:Nat) (w:World) (o:Owner) (d:Dsk) (L:Logic) (es:List Edg) (v:Nat) (e:Ending) (w':World):Prop:=
 ∃ iv ov d' o',e=.returned (.tuple #[iv,ov, .int .i64 0])/\Moved (fun _=>False) n pb db w o d w' o' d' L/\ownsEdges w' w.heap.size iv (inM es v)/\ownsEdges w' w.heap.size ov (outM es v)/\∀ x,iv.ownBlock=some x\/ov.ownBlock=some x->o' x=none
set_option maxRecDepth 100000 in
set_option maxHeartbeats 4000000 in
theorem both_any (HW:WriteSaid) (h:NetIn w0 w pb db n o d L gb gen N ob ib vb es) {v:Nat} (hv:v < N) :
 Calls Tryz.prog 144 #[outFn gb,inFn gb, .int .u32 (v:Int)] w (BothPost n pb db w o d L es v):=by
 have H:=Lib.hid h;have hin:=Lib.hid (h.inn HW hv);have HO:Hid (∀ W o' d',Moved (fun _=>False) n pb db w o d W o' d' L->Calls Tryz.prog 21 #[ptrTo gb, .int .u32 (v:Int)] W (HeldOf n pb db W o' d' L (outM es v))):=Lib.hid (fun W o' d' hm=>(h.moved hm).out HW hv);clear h;unfold ptrTo HeldOf at *;go_enter Tryz.func144,Tryz.ntmps144
 go_wp2_with fail
 refine hin.out.mono ?_;rintro e w1 ⟨iv,d1,o1,rfl,hm1,ho1,hf1⟩;have hout:=Lib.hid (HO.out _ _ _ hm1);have HM1:=Lib.hid hm1;have HO1:=Lib.hid ho1;have HF1:=Lib.hid hf1;clear hm1 ho1 hf1 hin;go_wp2_with fail
 refine hout.out.mono ?_;rintro e w2 ⟨ov,d2,o2,rfl,hm2,ho2,hf2⟩;have HQ:Hid (BothPost n pb db w o d L es v (.returned (.tuple #[iv,ov, .int .i64 0])) w2):=Lib.hid ⟨iv,ov,d2,o2,rfl,HM1.out.trans hm2 (fun _ _ e=>e),hm2.ownsRow HO1.out (fun b hb=>⟨HF1.out b hb,fun e=>e⟩),ownsRow_base ho2 HM1.out.size,fun x hx=>hx.elim (fun e=>hm2.free (ownBlock_old HO1.out x e).1 (HF1.out x e)) (hf2 x)⟩;clear hm2 ho2 hf2 hout;go_wp2;go_returns
 exact HQ.out
set_option maxHeartbeats 1000000 in
theorem mk1_any (h:AvOk w o av A K) (v x:Nat) (hx:x < 4294967296) (hk:∀ b,K b->W.heap[b]? = w.heap[b]?) (hs:w.heap.size<=W.heap.size) {t1 t2:TypeId} (hsv:W.heap[sv]? = some (.cells #[.int .u32 (v:Int)] t1)) (hab:W.heap[ab]? = some (.cells #[av] t2)) :
 Calls Tryz.prog 200 #[.int .u32 (x:Int), .pointer (some ⟨sv,0,none⟩), .pointer (some ⟨ab,0,none⟩)] W fun e W'=>e=.returned (.bool (x == v || A x))/\Below W.heap.size W W':=by
 obtain ⟨f,cs,rfl,hrun,hcall⟩:=h.ex;have c0:W.cell? ⟨sv,0,none⟩=some (.int .u32 (v:Int)):=by rw [cells_cell hsv];rfl
 have c1:W.cell? ⟨ab,0,none⟩=some (.func (.func f) #[] cs):=by rw [cells_cell hab];rfl
 have hc:=Lib.hid (hcall W x hk hs hx);clear h hcall hk hs hsv hab;by_cases hxv:x=v
 ·subst hxv;go_enter Tryz.func200,Tryz.ntmps200
  go_wp2;go_ret;exact ⟨by simp,Below.refl _ _⟩
 ·have hz:¬ (x:Int)=(v:Int):=by omega
  have HB:Hid ((x == v || A x)=A x):=Lib.hid (by simp [hxv]);rw [HB.out];go_enter Tryz.func200,Tryz.ntmps200
  go_wp2_with fail
  refine hc.out.mono ?_;rintro e W1 ⟨rfl,hb⟩;have HB1:=Lib.hid hb;clear hb hc;go_wp2;go_ret;exact ⟨by show Ending.returned (.bool ((x:Int) == (v:Int) || A x))=_;simp [hz],HB1.out⟩
end
end
section
open Go.RowKit Go.Maps
section
variable {w0 w w' W W':World} {pb db n gb gen N ob ib vb sv ab:Nat} {o o' o'' o0:Owner} {d d' d'':Dsk} {L:Logic} {es ins outs acc:List Edg} {A:Nat->Bool} {K:Nat->Prop} {av lv iv ov:Value}
structure MSt (n pb db:Nat) (w:World) (o:Owner) (d:Dsk) (L:Logic) (W0:World) (K2:Nat->Prop) (lv:Value) (acc:List Edg) (W:World) (o':Owner) (d':Dsk):Prop where
 mv:Moved (fun _=>False) n pb db w o d W o' d' L
 keep:∀ b,K2 b->W.heap[b]? = W0.heap[b]? /\ b < W.heap.size/\w.heap.size<=b/\o' b=none
 row:ownsEdges W w.heap.size lv acc
 own:∀ b,lv.ownBlock=some b->¬ K2 b/\o' b=none
variable {W0:World} {K2:Nat->Prop}
theorem MSt.below (h:MSt n pb db w o d L W0 K2 lv acc W o' d') (hb:Below W.heap.size W W'):MSt n pb db w o d L W0 K2 lv acc W' o' d':=
 ⟨h.mv.below hb,fun b hk=>⟨(hb.block b (h.keep b hk).2.1).trans (h.keep b hk).1,Nat.lt_of_lt_of_le (h.keep b hk).2.1 hb.size,(h.keep b hk).2.2⟩,ownsRow_below h.row hb,h.own⟩
theorem MSt.moved (h:MSt n pb db w o d L W0 K2 lv acc W o' d') (hm:Moved (fun _=>False) n pb db W o' d' W' o'' d'' L):MSt n pb db w o d L W0 K2 lv acc W' o'' d'':=
 ⟨h.mv.trans hm (fun _ _ e=>e),fun b hk=>⟨(hm.block (h.keep b hk).2.1 (h.keep b hk).2.2.2 (fun e=>e)).trans (h.keep b hk).1,Nat.lt_of_lt_of_le (h.keep b hk).2.1 hm.size,(h.keep b hk).2.2.1,hm.free (h.keep b hk).2.1 (h.keep b hk).2.2.2⟩,
  hm.ownsRow h.row (fun b hb=>⟨(h.own b hb).2,fun e=>e⟩),fun b hb=>⟨(h.own b hb).1,hm.free (ownBlock_old h.row b hb).1 (h.own b hb).2⟩⟩
theorem MSt.appd (h:MSt n pb db w o d L W0 K2 lv acc W o' d') {y:Edg} {lv':Value} {ob:Obj} (hr:ownsEdges W' w.heap.size lv' (acc++[y])) (ha:Appd lv (W.alloc ob) W' lv'):MSt n pb db w o d L W0 K2 lv' (acc++[y]) W' o' d':=by
 obtain ⟨hm,hf,hh,hz⟩:=ha.moved h.mv (fun x hx=>⟨(h.own x hx).2,(ownBlock_old h.row x hx).2⟩);refine ⟨hm,fun b hk=>⟨(hh b (h.keep b hk).2.1 (fun e=>(h.own b e).1 hk)).trans (h.keep b hk).1,Nat.lt_of_lt_of_le (h.keep b hk).2.1 hz,(h.keep b hk).2.2⟩,hr,fun b hb=>⟨fun hk=>?_,(hf b hb).1⟩⟩;rcases ha.2 with e | e
 ·exact (h.own b (e ▸ hb)).1 hk
 ·rw [e] at hb;cases hb;have:=(h.keep _ hk).2.1;simp at this;omega
theorem MSt.widen (h:MSt n pb db w o d L W0 K2 lv acc W o' d') (x:Nat) (h1:x < W.heap.size) (h2:w.heap.size<=x) (h3:o' x=none) (h4:lv.ownBlock≠some x):MSt n pb db w o d L W (fun b=>K2 b\/b=x) lv acc W o' d':=
 ⟨h.mv,fun b hb=>⟨rfl,hb.elim (fun e=>(h.keep b e).2) (fun e=>by subst e;exact ⟨h1,h2,h3⟩)⟩,h.row,fun b hb=>⟨fun e=>e.elim (h.own b hb).1 (fun e=>h4 (e ▸ hb)),(h.own b hb).2⟩⟩
theorem MSt.narrow {lv':Value} {acc':List Edg} {x:Nat} (h:MSt n pb db w o d L W0 K2 lv acc W o' d') (k:MSt n pb db w o d L W (fun b=>K2 b\/b=x) lv' acc' W' o'' d''):MSt n pb db w o d L W0 K2 lv' acc' W' o'' d'':=
 ⟨k.mv,fun b hb=>⟨(k.keep b (.inl hb)).1.trans (h.keep b hb).1,(k.keep b (.inl hb)).2⟩,k.row,fun b hb=>⟨fun e=>(k.own b hb).1 (.inl e),(k.own b hb).2⟩⟩
def CutsPost (n pb db:Nat) (w:World) (o:Owner) (d:Dsk) (L:Logic) (cuts:List Edg) (e:Ending) (w':World):Prop:=
 ∃ v d' o',e=.returned (.tuple #[v, .int .i64 0])/\Moved (fun _=>False) n pb db w o d w' o' d' L/\RdE w' v cuts/\∀ x,v.ownBlock=some x->o' x=none/\w.heap.size<=x/\x < w'.heap.size
theorem clip_row {w:World} {base:Nat} {l:List Edg} {a:Option Addr} {cap:Nat} (h:ownsEdges w base (.slice a l.length cap) l):RdE w (.slice a l.length l.length) l:=by
 rcases ownsEdges_shape h with ⟨rfl,e⟩ | ⟨g,c,e,-,-,-⟩
 ·cases e;exact ⟨_,_,rfl, .inl rfl⟩
 ·cases e;exact ⟨_,_,rfl, .inr ⟨g,0,rfl,fun j x hx=>by
   have:=ownsEdges_cells h hx;simpa using this⟩⟩
set_option maxHeartbeats 1000000 in
theorem clip_any {a:Option Addr} {k cap:Nat} (hk:k<=cap) (w:World):Calls Tryz.prog 203 #[.slice a k cap] w fun e w'=>e=.returned (.slice a k k)/\w'=w:=by
 go_enter Tryz.func203,Tryz.ntmps203
 go_wp2;go_ret;exact ⟨rfl,rfl⟩
theorem flat_take {α β:Type} {l:List α} {f:α->List β} {j:Nat} {x:α} (h:l[j]? = some x):(l.take (j+1)).flatMap f=(l.take j).flatMap f++f x:=by
 obtain ⟨hl,rfl⟩:=List.getElem?_eq_some_iff.1 h;rw [List.take_succ_eq_append_getElem hl,List.flatMap_append];simp
theorem filter_take {α β:Type} {l:List α} {f:α->Option β} {j:Nat} {x:α} (h:l[j]? = some x):(l.take (j+1)).filterMap f=(l.take j).filterMap f++(f x).toList:=by
 obtain ⟨hl,rfl⟩:=List.getElem?_eq_some_iff.1 h;rw [List.take_succ_eq_append_getElem hl,List.filterMap_append];cases e:f l[j]<;>simp [e]
theorem cuts_length {α β:Type} {f:α->List β} {c:Nat} (hf:∀ x,(f x).length<=c) {l:List α} {i:Nat} (hl:l.length<=i):(l.flatMap f).length<=i*c:=by
 refine Nat.le_trans ?_ (Nat.mul_le_mul_right c hl);induction l generalizing i with
 | nil=>simp
 | cons x l ih=>
   have h1:=ih (Nat.le_refl _);have h2:=hf x;rw [List.flatMap_cons,List.length_append,List.length_cons,Nat.succ_mul];omega
set_option maxRecDepth 100000 in
set_option maxHeartbeats 16000000 in
theorem shortMake_any (HW:WriteSaid) (h:NetIn w0 w pb db n o d L gb gen N ob ib vb es) (ha:AvOk w o av A K) (v:UInt32) (hv:v.toNat < N) (hdeg:(inM es v.toNat).length*(outM es v.toNat).length<=100000) :
 Calls Tryz.prog 142 #[outFn gb,inFn gb,av, .int .u32 (v.toNat:Int)] w (CutsPost n pb db w o d L (cutsM (outM es) A (inM es v.toNat) v)):=by
 have H:=Lib.hid h;obtain ⟨f,cs,rfl,-⟩:=ha.ex;have HA:=Lib.hid ha;have HDG:=Lib.hid hdeg;have HLT:Hid (v.toNat < 4294967296):=Lib.hid v.toNat_lt;clear h ha hdeg;obtain ⟨R,HR⟩:∃ R,Hid (cutsM (outM es) A (inM es v.toNat) v=R):=⟨_,Lib.hid rfl⟩;rw [HR.out];have hn1:=run_fn_nil Tryz.underlying53 (.func 21) #[.pointer (some ⟨gb,0,none⟩)] #[];have hn2:=run_fn_nil Tryz.underlying53 (.func 22) #[.pointer (some ⟨gb,0,none⟩)] #[];have hn3:=run_fn_nil Tryz.underlying234 (.func f) #[] cs;have HB1:Hid (Below w.heap.size w ((w.alloc (.cells #[.func (.func f) #[] cs] 234)).alloc (.cells #[.int .u32 (v.toNat:Int)] 26))):=Lib.hid (((Below.refl _ _).alloc (Nat.le_refl _) _).alloc (by simp) _);have HS1:Hid (((w.alloc (.cells #[.func (.func f) #[] cs] 234)).alloc (.cells #[.int .u32 (v.toNat:Int)] 26)).heap[w.heap.size]? = some (.cells #[.func (.func f) #[] cs] 234)/\((w.alloc (.cells #[.func (.func f) #[] cs] 234)).alloc (.cells #[.int .u32 (v.toNat:Int)] 26)).heap[w.heap.size+1]? = some (.cells #[.int .u32 (v.toNat:Int)] 26)/\((w.alloc (.cells #[.func (.func f) #[] cs] 234)).alloc (.cells #[.int .u32 (v.toNat:Int)] 26)).heap.size=w.heap.size+2):=Lib.hid (by
  refine ⟨?_,?_,by simp⟩
  ·rw [(MapKept.heap_alloc _ _).2 _ (by simp)];exact heap_alloc_new _ _
  ·have:=heap_alloc_new (w.alloc (.cells #[.func (.func f) #[] cs] 234)) (.cells #[.int .u32 (v.toNat:Int)] 26);simpa using this)
 have hb:=Lib.hid (both_any HW (H.out.moved (Moved.ofBelow H.out.held.pool HB1.out)) hv);have HFIND:Hid (∀ W o' d',Moved (fun _=>False) n pb db w o d W o' d' L->NetIn w0 W pb db n o' d' L gb gen N ob ib vb es/\AvOk W o' (.func (.func f) #[] cs) A K):=Lib.hid (fun W o' d' hm=>⟨H.out.moved hm,HA.out.moved hm⟩);unfold BothPost outFn inFn at *;unfold ptrTo at *;go_enter Tryz.func142,Tryz.ntmps142
 go_wp2_with fail
 refine hb.out.mono ?_;rintro e w2 ⟨iv,ov,d2,o2,rfl,hm2,hi2,ho2,hf2⟩;obtain ⟨ia,ic,rfl⟩:=ownsRow_slice hi2;obtain ⟨oa,oc,rfl⟩:=ownsRow_slice ho2;obtain ⟨M1,hM1⟩:∃ M,M=(inM es v.toNat).length:=⟨_,rfl⟩;obtain ⟨M2,hM2⟩:∃ M,M=(outM es v.toNat).length:=⟨_,rfl⟩;rw [<- hM1] at hi2 hf2 ⊢;rw [<- hM2] at ho2 hf2 ⊢;have HM:Hid (M1=(inM es v.toNat).length/\M2=(outM es v.toNat).length/\M1<=1000/\M2<=1000):=Lib.hid ⟨hM1,hM2,by rw [hM1];exact Nat.le_trans (inM_length _ _) H.out.len,by rw [hM2];exact Nat.le_trans (outM_length _ _) H.out.len⟩;clear hM1 hM2;rw [HS1.out.2.2] at hi2 ho2;obtain ⟨sv,hsv⟩:∃ x,x=w.heap.size+1:=⟨_,rfl⟩;obtain ⟨ab,hab⟩:∃ x,x=w.heap.size:=⟨_,rfl⟩;have HM2:Hid (MSt n pb db w o d L w2 (fun b=>b=sv\/b=ab\/(Value.slice ia M1 ic).ownBlock=some b\/(Value.slice oa M2 oc).ownBlock=some b) (.slice none 0 0) [] w2 o2 d2):=Lib.hid (by
  have hz:=HS1.out.2.2;have hz2:=hm2.size;have hfr:∀ b,w.heap.size<=b->o b=none:=fun b hb=>H.out.held.pool.fresh hb;refine ⟨(Moved.ofBelow H.out.held.pool HB1.out).trans hm2 (fun _ _ e=>e),fun b hb=>⟨rfl,?_⟩,World.ownsRow_nil _ _ _ _,fun b hb=>by cases hb⟩;rcases hb with rfl | rfl | e | e
  ·exact ⟨by omega,by omega,hm2.free (by omega) (hfr _ (by omega))⟩
  ·exact ⟨by omega,by omega,hm2.free (by omega) (hfr _ (by omega))⟩
  ·have:=ownBlock_old hi2 b e;exact ⟨this.1,by omega,hf2 b (.inl e)⟩
  ·have:=ownBlock_old ho2 b e;exact ⟨this.1,by omega,hf2 b (.inr e)⟩)
 have HK:Hid (ownsEdges w2 (w.heap.size+2) (.slice ia M1 ic) (inM es v.toNat)/\ownsEdges w2 (w.heap.size+2) (.slice oa M2 oc) (outM es v.toNat)/\w2.heap[sv]? = some (.cells #[.int .u32 (v.toNat:Int)] 26)/\w2.heap[ab]? = some (.cells #[.func (.func f) #[] cs] 234)):=Lib.hid (by
  have hfr:∀ b,w.heap.size<=b->o b=none:=fun b hb=>H.out.held.pool.fresh hb;exact ⟨hi2,ho2,by rw [hsv];exact hm2.heap HS1.out.2.1 (hfr _ (by omega)) (fun e=>e),by rw [hab];exact hm2.heap HS1.out.1 (hfr _ (by omega)) (fun e=>e)⟩)
 clear hm2 hi2 ho2 hf2 HB1 HS1 hb hn1 hn2 hn3;go_wp2;rw [<- hsv,<- hab];clear hsv hab;go_loopw [8,50] (fun vl vi wr=>∃ (i:Nat) (acc:List Edg) (d':Dsk) (o':Owner),vi=.int .i64 (i:Int)/\i<=M1/\Hid (MSt n pb db w o d L w2 (fun b=>b=sv\/b=ab\/(Value.slice ia M1 ic).ownBlock=some b\/(Value.slice oa M2 oc).ownBlock=some b) vl acc wr o' d')/\Hid (acc=((inM es v.toNat).take i).flatMap (fun a=>(outM es v.toNat).filterMap (cutF (outM es) A v a)))) (fun _ vi _=>M1 - (intOf vi).toNat)
 case atStart=>exact ⟨0,[],d2,o2,rfl,Nat.zero_le _,HM2,Lib.hid rfl⟩
 case round=>
  obtain ⟨i,acc,d3,o3,rfl,hi,HS3,HA3⟩:=hrel;clear HM2;generalize wr=W3 at *;obtain ⟨la,lc,rfl⟩:=ownsRow_slice HS3.out.row;by_cases hlt:i < M1
  ·have hiz:(i:Int) < (M1:Int):=by omega
   have wi:IntKind.i64.wrap ((i:Int)+1)=((i+1:Nat):Int):=by have:=HM.out;rw [wrap_in]<;>omega
   obtain ⟨a,ha⟩:∃ x,(inM es v.toNat)[i]? = some x:=⟨_,List.getElem?_eq_getElem (by have:=HM.out;omega)⟩;have HIA:=Lib.hid ha;have HAN:Hid (a.t.toNat < N/\a.t.toNat < 4294967296/\a.x.toNat < 18446744073709551616):=Lib.hid ⟨(H.out.ends a (inM_sub (List.mem_of_getElem? ha)).1).1,a.t.toNat_lt,a.x.toNat_lt⟩;obtain ⟨gi,rfl⟩:∃ g,ia=some ⟨g,0,none⟩:=by
    obtain ⟨-,⟨h1,h2⟩ | ⟨g,_,_,h1,_⟩⟩:=HK.out.1
    ·have:=HM.out;omega
    ·cases h1;exact ⟨g,rfl⟩
   have hrow:ownsEdges W3 (w.heap.size+2) (.slice (some ⟨gi,0,none⟩) (inM es v.toNat).length ic) (inM es v.toNat):=by rw [<- HM.out.1];exact ownsRow_heap HK.out.1 (fun b hb=>(HS3.out.keep b (.inr (.inr (.inl hb)))).1)
   obtain ⟨q0,q1,q2,q3⟩:=ownsEdges_cells hrow ha;have HS4:=Lib.hid (HS3.out.below ((Below.refl _ _).alloc (Nat.le_refl _) (.cells #[.int .u32 (a.t.toNat:Int), .int .u32 (a.h.toNat:Int), .int .u64 (a.x.toNat:Int), .int .u32 (a.m.toNat:Int)] 64)));have HXA:Hid ((W3.alloc (.cells #[.int .u32 (a.t.toNat:Int), .int .u32 (a.h.toNat:Int), .int .u64 (a.x.toNat:Int), .int .u32 (a.m.toNat:Int)] 64)).heap[W3.heap.size]? = some (.cells #[.int .u32 (a.t.toNat:Int), .int .u32 (a.h.toNat:Int), .int .u64 (a.x.toNat:Int), .int .u32 (a.m.toNat:Int)] 64)):=Lib.hid (heap_alloc_new _ _);obtain ⟨xa,hxa⟩:∃ x,x=W3.heap.size:=⟨_,rfl⟩;have HS5:Hid (MSt n pb db w o d L (W3.alloc (.cells #[.int .u32 (a.t.toNat:Int), .int .u32 (a.h.toNat:Int), .int .u64 (a.x.toNat:Int), .int .u32 (a.m.toNat:Int)] 64)) (fun b=>(b=sv\/b=ab\/(Value.slice (some ⟨gi,0,none⟩) M1 ic).ownBlock=some b\/(Value.slice oa M2 oc).ownBlock=some b)\/b=xa) (.slice la acc.length lc) acc (W3.alloc (.cells #[.int .u32 (a.t.toNat:Int), .int .u32 (a.h.toNat:Int), .int .u64 (a.x.toNat:Int), .int .u32 (a.m.toNat:Int)] 64)) o3 d3):=Lib.hid (HS4.out.widen xa (by rw [hxa];simp) (by rw [hxa];exact HS3.out.mv.size) (HS3.out.mv.pool.fresh (by omega)) (fun e=>by have:=(ownBlock_old HS3.out.row _ e).1;omega));rw [<- hxa] at HXA;have HLA:Hid (W3.heap.size=xa):=Lib.hid hxa.symm;clear hrow ha;go_wp2_with fail
   rw [<- hxa];clear q0 q1 q2 q3 hxa;generalize W3.alloc (.cells #[.int .u32 (a.t.toNat:Int), .int .u32 (a.h.toNat:Int), .int .u64 (a.x.toNat:Int), .int .u32 (a.m.toNat:Int)] 64)=W4 at *;have x0:W4.cell? ⟨xa,0,none⟩=some (.int .u32 (a.t.toNat:Int)):=by rw [cells_cell HXA.out];rfl
   have x1:=(Array.getElem?_eq_some_iff.1 HXA.out).1;go_step3
   go_wp2_with fail
   go_step3
   go_wp2_with fail
   clear x0 x1;have HSVW:Hid (∀ lv acc W o' d',MSt n pb db w o d L W4 (fun b=>(b=sv\/b=ab\/(Value.slice (some ⟨gi,0,none⟩) M1 ic).ownBlock=some b\/(Value.slice oa M2 oc).ownBlock=some b)\/b=xa) lv acc W o' d'->(W.heap[sv]? = some (.cells #[.int .u32 (v.toNat:Int)] 26)/\W.heap[ab]? = some (.cells #[.func (.func f) #[] cs] 234))/\W.heap[xa]? = some (.cells #[.int .u32 (a.t.toNat:Int), .int .u32 (a.h.toNat:Int), .int .u64 (a.x.toNat:Int), .int .u32 (a.m.toNat:Int)] 64)/\ownsEdges W (w.heap.size+2) (.slice oa M2 oc) (outM es v.toNat)/\∀ x:Nat,x < 4294967296->Calls Tryz.prog 200 #[.int .u32 (x:Int), .pointer (some ⟨sv,0,none⟩), .pointer (some ⟨ab,0,none⟩)] W fun e W'=>e=.returned (.bool (x == v.toNat || A x))/\Below W.heap.size W W'):=Lib.hid (fun lv acc W o' d' hs=>by
    have k1:=(hs.keep sv (.inl (.inl rfl))).1.trans ((HS4.out.keep sv (.inl rfl)).1.trans HK.out.2.2.1);have k2:=(hs.keep ab (.inl (.inr (.inl rfl)))).1.trans ((HS4.out.keep ab (.inr (.inl rfl))).1.trans HK.out.2.2.2);exact ⟨⟨k1,k2⟩,(hs.keep xa (.inr rfl)).1.trans HXA.out,ownsRow_heap HK.out.2.1 (fun b hb=>(hs.keep b (.inl (.inr (.inr (.inr hb))))).1.trans (HS4.out.keep b (.inr (.inr (.inr hb)))).1),fun x hx=>mk1_any (HFIND.out _ _ _ hs.mv).2 v.toNat x hx (fun _ _=>rfl) (Nat.le_refl _) k1 k2⟩)
   go_loopw [8,58] (fun vl vk wr=>∃ (k:Nat) (acc':List Edg) (d':Dsk) (o':Owner),vk=.int .i64 (k:Int)/\k<=M2/\Hid (MSt n pb db w o d L W4 (fun b=>(b=sv\/b=ab\/(Value.slice (some ⟨gi,0,none⟩) M1 ic).ownBlock=some b\/(Value.slice oa M2 oc).ownBlock=some b)\/b=xa) vl acc' wr o' d')/\Hid (acc'=acc++((outM es v.toNat).take k).filterMap (cutF (outM es) A v a))) (fun _ vk _=>M2 - (intOf vk).toNat)
   case atStart=>exact ⟨0,acc,d3,o3,rfl,Nat.zero_le _,HS5,Lib.hid (by simp)⟩
   case round=>
    obtain ⟨k,acc',d6,o6,rfl,hk,HS6,HA6⟩:=hrel;clear HS5;generalize wr=W6 at *;obtain ⟨ma,mc,rfl⟩:=ownsRow_slice HS6.out.row;by_cases hkt:k < M2
    ·have hkz:(k:Int) < (M2:Int):=by omega
     have wk:IntKind.i64.wrap ((k:Int)+1)=((k+1:Nat):Int):=by have:=HM.out;rw [wrap_in]<;>omega
     obtain ⟨b,hb⟩:∃ x,(outM es v.toNat)[k]? = some x:=⟨_,List.getElem?_eq_getElem (by have:=HM.out;omega)⟩;have HIB:=Lib.hid hb;have HBN:Hid (b.h.toNat < N/\b.h.toNat < 4294967296/\b.x.toNat < 18446744073709551616):=Lib.hid ⟨(H.out.ends b (outM_sub (List.mem_of_getElem? hb)).1).2,b.h.toNat_lt,b.x.toNat_lt⟩;obtain ⟨gg,rfl⟩:∃ g,oa=some ⟨g,0,none⟩:=by
      obtain ⟨-,⟨h1,h2⟩ | ⟨g,_,_,h1,_⟩⟩:=HK.out.2.1
      ·have:=HM.out;omega
      ·cases h1;exact ⟨g,rfl⟩
     have hrow:ownsEdges W6 (w.heap.size+2) (.slice (some ⟨gg,0,none⟩) (outM es v.toNat).length oc) (outM es v.toNat):=by rw [<- HM.out.2.1];exact (HSVW.out _ _ _ _ _ HS6.out).2.2.1
     obtain ⟨q0,q1,q2,q3⟩:=ownsEdges_cells hrow hb;have HS7:=Lib.hid (HS6.out.below ((Below.refl _ _).alloc (Nat.le_refl _) (.cells #[.int .u32 (b.t.toNat:Int), .int .u32 (b.h.toNat:Int), .int .u64 (b.x.toNat:Int), .int .u32 (b.m.toNat:Int)] 64)));have HXB:Hid ((W6.alloc (.cells #[.int .u32 (b.t.toNat:Int), .int .u32 (b.h.toNat:Int), .int .u64 (b.x.toNat:Int), .int .u32 (b.m.toNat:Int)] 64)).heap[W6.heap.size]? = some (.cells #[.int .u32 (b.t.toNat:Int), .int .u32 (b.h.toNat:Int), .int .u64 (b.x.toNat:Int), .int .u32 (b.m.toNat:Int)] 64)):=Lib.hid (heap_alloc_new _ _);clear hrow hb;by_cases c1:a.t.toNat=b.h.toNat
     ·have c1z:(a.t.toNat:Int)=(b.h.toNat:Int):=by omega
      have C1:=Lib.hid c1;clear c1;have HN:cutF (outM es) A v a b=none:=by unfold cutF;exact if_pos (.inl C1.out)
      have HA9:Hid (acc'=acc++((outM es v.toNat).take (k+1)).filterMap (cutF (outM es) A v a)):=Lib.hid (by rw [filter_take HIB.out,HN,HA6.out];simp);clear HN;go_wp2;go_roundw
      case rel=>exact ⟨k+1,acc',d6,o6,by go_num,by omega,HS7,HA9⟩
      case measure=>simp [intOf];omega
     ·have c1z:¬ (a.t.toNat:Int)=(b.h.toNat:Int):=by omega
      have C1:=Lib.hid c1;clear c1;have hs1:=Lib.hid ((HSVW.out _ _ _ _ _ HS7.out).2.2.2 _ HAN.out.2.1);go_wp2_with fail
      refine hs1.out.mono ?_;rintro e w8 ⟨rfl,hb8⟩;have HS8:=Lib.hid (HS7.out.below hb8);have HXB8:=Lib.hid ((hb8.block _ (Array.getElem?_eq_some_iff.1 HXB.out).1).trans HXB.out);clear q0 q1 q2 q3 hs1 hb8 HS7 HXB;by_cases c2:(a.t.toNat == v.toNat || A a.t.toNat)=true
      ·rw [c2];have C2:=Lib.hid c2;clear c2;have HN:cutF (outM es) A v a b=none:=by unfold cutF;exact if_pos (.inr (.inl C2.out))
       have HA9:Hid (acc'=acc++((outM es v.toNat).take (k+1)).filterMap (cutF (outM es) A v a)):=Lib.hid (by rw [filter_take HIB.out,HN,HA6.out];simp);clear HN;go_wp2;go_roundw
       case rel=>exact ⟨k+1,acc',d6,o6,by go_num,by omega,HS8,HA9⟩
       case measure=>simp [intOf];omega
      ·have c2f:(a.t.toNat == v.toNat || A a.t.toNat)=false:=by simpa using c2
       rw [c2f];have C2:=Lib.hid c2;clear c2 c2f;have hs2:=Lib.hid ((HSVW.out _ _ _ _ _ HS8.out).2.2.2 _ HBN.out.2.1);go_wp2_with fail
       refine hs2.out.mono ?_;rintro e w9 ⟨rfl,hb9⟩;have HS9:=Lib.hid (HS8.out.below hb9);have HXB9:=Lib.hid ((hb9.block _ (Array.getElem?_eq_some_iff.1 HXB8.out).1).trans HXB8.out);clear hs2 hb9 HS8 HXB8;by_cases c3:(b.h.toNat == v.toNat || A b.h.toNat)=true
       ·rw [c3];have C3:=Lib.hid c3;clear c3;have HN:cutF (outM es) A v a b=none:=by unfold cutF;exact if_pos (.inr (.inr (.inl C3.out)))
        have HA9:Hid (acc'=acc++((outM es v.toNat).take (k+1)).filterMap (cutF (outM es) A v a)):=Lib.hid (by rw [filter_take HIB.out,HN,HA6.out];simp);clear HN;go_wp2;go_roundw
        case rel=>exact ⟨k+1,acc',d6,o6,by go_num,by omega,HS9,HA9⟩
        case measure=>simp [intOf];omega
       ·have c3f:(b.h.toNat == v.toNat || A b.h.toNat)=false:=by simpa using c3
        rw [c3f];have C3:=Lib.hid c3;clear c3 c3f;generalize hxb:W6.heap.size=xb at *;clear hxb;have y2:w9.cell? ⟨xb,2,none⟩=some (.int .u64 (b.x.toNat:Int)):=by rw [cells_cell HXB9.out];rfl
        have y3:w9.cell? ⟨xa,2,none⟩=some (.int .u64 (a.x.toNat:Int)):=by rw [cells_cell (HSVW.out _ _ _ _ _ HS9.out).2.1];rfl
        have hadd:=Lib.hid (wAdd_any a.x.toNat b.x.toNat HAN.out.2.2 HBN.out.2.2 w9);go_wp2_with fail
        refine hadd.out.mono ?_;rintro e w10 ⟨rfl,rfl⟩;clear y2 y3 hadd;by_cases hfit:a.x.toNat+b.x.toNat < 9223372036854775808
        ·obtain ⟨X,hX⟩:∃ X:UInt64,X.toNat=a.x.toNat+b.x.toNat:=⟨UInt64.ofNat (a.x.toNat+b.x.toNat),by rw [UInt64.toNat_ofNat'];omega⟩;have hav:addV a.x.toNat b.x.toNat=.tuple #[.int .u64 (X.toNat:Int), .bool true]:=by rw [hX];exact if_pos hfit
         rw [hav];have HXS:=Lib.hid hX;have HFT:=Lib.hid hfit;clear hav hfit hX;have hout:=Lib.hid ((HFIND.out _ _ _ HS9.out.mv).1.out HW HAN.out.1);unfold HeldOf ptrTo at hout;go_wp2_with fail
         refine hout.out.mono ?_;rintro e w11 ⟨ev,d11,o11,rfl,hm11,hown,-⟩;obtain ⟨ea,ec,rfl⟩:=ownsRow_slice hown;obtain ⟨M3,hM3⟩:∃ M,M=(outM es a.t.toNat).length:=⟨_,rfl⟩;rw [<- hM3] at hown ⊢;have HS11:=Lib.hid (HS9.out.moved hm11);have HOW11:=Lib.hid hown;have HM3:Hid (M3=(outM es a.t.toNat).length/\M3<=1000):=Lib.hid ⟨hM3,by rw [hM3];exact Nat.le_trans (outM_length _ _) H.out.len⟩;clear hm11 hown hM3 hout HS9 HXB9;go_wp2_with fail
         go_loopw [98] (fun vq wr=>∃ q:Nat,vq=.int .i64 (q:Int)/\q<=M3/\Hid (MSt n pb db w o d L W4 (fun b=>(b=sv\/b=ab\/(Value.slice (some ⟨gi,0,none⟩) M1 ic).ownBlock=some b\/(Value.slice (some ⟨gg,0,none⟩) M2 oc).ownBlock=some b)\/b=xa) (.slice ma acc'.length mc) acc' wr o11 d11)/\Hid (ownsEdges wr w10.heap.size (.slice ea M3 ec) (outM es a.t.toNat))/\Hid (∀ y∈(outM es a.t.toNat).take q,¬ (y.h.toNat=b.h.toNat/\y.x.toNat<=X.toNat))) (fun vq _=>M3 - (intOf vq).toNat)
         case atStart=>exact ⟨0,rfl,Nat.zero_le _,HS11,HOW11,Lib.hid (by simp)⟩
         case round=>
          obtain ⟨q,rfl,hq,HS12,HOW12,HE12⟩:=hrel;clear HS11 HOW11;generalize wr=Wq at *;by_cases hqt:q < M3
          ·have hqz:(q:Int) < (M3:Int):=by omega
           have wq:IntKind.i64.wrap ((q:Int)+1)=((q+1:Nat):Int):=by have:=HM3.out;rw [wrap_in]<;>omega
           obtain ⟨y,hy⟩:∃ x,(outM es a.t.toNat)[q]? = some x:=⟨_,List.getElem?_eq_getElem (by have:=HM3.out;omega)⟩;have HY:=Lib.hid hy;obtain ⟨ge,rfl⟩:∃ g,ea=some ⟨g,0,none⟩:=by
            obtain ⟨-,⟨h1,h2⟩ | ⟨g,_,_,h1,_⟩⟩:=HOW12.out
            ·have:=HM3.out;omega
            ·cases h1;exact ⟨g,rfl⟩
           have hrow:ownsEdges Wq w10.heap.size (.slice (some ⟨ge,0,none⟩) (outM es a.t.toNat).length ec) (outM es a.t.toNat):=by rw [<- HM3.out.1];exact HOW12.out
           obtain ⟨q0,q1,q2,q3⟩:=ownsEdges_cells hrow hy;have HB13:Hid (Below Wq.heap.size Wq (Wq.alloc (.cells #[.int .u32 (y.t.toNat:Int), .int .u32 (y.h.toNat:Int), .int .u64 (y.x.toNat:Int), .int .u32 (y.m.toNat:Int)] 64))):=Lib.hid ((Below.refl _ _).alloc (Nat.le_refl _) _);have HS13:=Lib.hid (HS12.out.below HB13.out);have HOW13:=Lib.hid (ownsRow_below HOW12.out HB13.out);clear hrow hy;by_cases e1:y.h.toNat=b.h.toNat/\y.x.toNat<=X.toNat
           ·have z1:((y.h.toNat:Int) == (b.h.toNat:Int))=true:=by rw [beq_iff_eq];omega
            have z2:(y.x.toNat:Int)<=(X.toNat:Int):=by omega
            have HE1:Hid (∃ x∈outM es a.t.toNat,x.h.toNat=b.h.toNat/\x.x.toNat<=a.x.toNat+b.x.toNat):=Lib.hid ⟨y,List.mem_of_getElem? HY.out,e1.1,by rw [<- HXS.out];exact e1.2⟩;clear e1;have HN:cutF (outM es) A v a b=none:=by unfold cutF;exact if_pos (.inr (.inr (.inr (.inr (.inl HE1.out)))))
            have HA9:Hid (acc'=acc++((outM es v.toNat).take (k+1)).filterMap (cutF (outM es) A v a)):=Lib.hid (by rw [filter_take HIB.out,HN,HA6.out];simp);clear HN;go_wp2;go_roundw
            case rel=>exact ⟨k+1,acc',d11,o11,by go_num,by omega,HS13,HA9⟩
            case measure=>simp [intOf];omega
           ·have HE13:Hid (∀ y∈(outM es a.t.toNat).take (q+1),¬ (y.h.toNat=b.h.toNat/\y.x.toNat<=X.toNat)):=Lib.hid (fun z hz=>by
             obtain ⟨hl,hyy⟩:=List.getElem?_eq_some_iff.1 HY.out;rw [List.take_succ_eq_append_getElem hl,List.mem_append,List.mem_singleton] at hz;rcases hz with hz | rfl
             ·exact HE12.out z hz
             ·rw [hyy];exact e1)
            by_cases z0:y.h.toNat=b.h.toNat
            ·have z2:¬ (y.x.toNat:Int)<=(X.toNat:Int):=fun h=>e1 ⟨by omega,by omega⟩;have z1:((y.h.toNat:Int) == (b.h.toNat:Int))=true:=by rw [beq_iff_eq];omega
             clear e1 z0;go_wp2;go_roundw
             case rel=>exact ⟨q+1,by go_num,by omega,HS13,HOW13,HE13⟩
             case measure=>simp [intOf];omega
            ·have z1:¬ (y.h.toNat:Int)=(b.h.toNat:Int):=by omega
             clear e1 z0;go_wp2;go_roundw
             case rel=>exact ⟨q+1,by go_num,by omega,HS13,HOW13,HE13⟩
             case measure=>simp [intOf];omega
          ·have hqz:¬ (q:Int) < (M3:Int):=by omega
           have HNE:Hid (¬ ∃ x∈outM es a.t.toNat,x.h.toNat=b.h.toNat/\x.x.toNat<=a.x.toNat+b.x.toNat):=Lib.hid (fun ⟨y,h1,h2⟩=>HE12.out y (by rw [List.take_of_length_le (by have:=HM3.out;omega)];exact h1) (by rw [HXS.out];exact h2));have hfi:FindIn w0 Wq pb db n o11 d11 L gb gen N ob ib vb es (fun x=>x == v.toNat || A x) sv ab (fun x=>K x\/x=sv\/x=ab):=by
            obtain ⟨hn,hv'⟩:=HFIND.out _ _ _ HS12.out.mv;obtain ⟨⟨k1,k2⟩,-,-,-⟩:=HSVW.out _ _ _ _ _ HS12.out;refine ⟨hn.held,hn.need,hn.gr,hn.file,hn.len,hn.top,hn.ends,fun x hx=>?_,fun W x hk hs hx=>mk1_any hv' v.toNat x hx (fun b hb=>hk b (.inl hb)) hs ((hk sv (.inr (.inl rfl))).trans k1) ((hk ab (.inr (.inr rfl))).trans k2)⟩;rcases hx with hx | rfl | rfl
            ·exact hv'.old x hx
            ·exact ⟨(HS12.out.keep _ (.inl (.inl rfl))).2.1,(HS12.out.keep _ (.inl (.inl rfl))).2.2.2⟩
            ·exact ⟨(HS12.out.keep _ (.inl (.inr (.inl rfl)))).2.1,(HS12.out.keep _ (.inl (.inr (.inl rfl)))).2.2.2⟩
           have hf:=Lib.hid (witFind_any HW hfi a.t.toNat b.h.toNat X.toNat HAN.out.1);unfold FindPost ptrTo at hf;clear hfi HOW12 HE12;go_wp2_with fail
           refine hf.out.mono ?_;rintro e w13 ⟨d13,o13,rfl,hm13⟩;have HS13:=Lib.hid (HS12.out.moved hm13);clear hf hm13 HS12;by_cases hfd:findM (outM es) (fun x=>x == v.toNat || A x) b.h.toNat X.toNat 16 [(a.t.toNat,0)] []=true
           ·rw [hfd];have HFD:Hid (findM (outM es) (fun x=>x == v.toNat || A x) b.h.toNat (a.x.toNat+b.x.toNat) 16 [(a.t.toNat,0)] []=true):=Lib.hid (by rw [<- HXS.out];exact hfd);clear hfd;have HN:cutF (outM es) A v a b=none:=by unfold cutF;exact if_pos (.inr (.inr (.inr (.inr (.inr HFD.out)))))
            have HA9:Hid (acc'=acc++((outM es v.toNat).take (k+1)).filterMap (cutF (outM es) A v a)):=Lib.hid (by rw [filter_take HIB.out,HN,HA6.out];simp);clear HN;go_wp2;go_roundw
            case rel=>exact ⟨k+1,acc',d13,o13,by go_num,by omega,HS13,HA9⟩
            case measure=>simp [intOf];omega
           ·have hff:findM (outM es) (fun x=>x == v.toNat || A x) b.h.toNat X.toNat 16 [(a.t.toNat,0)] []=false:=by simpa using hfd
            rw [hff];have HFD:Hid (¬ findM (outM es) (fun x=>x == v.toNat || A x) b.h.toNat (a.x.toNat+b.x.toNat) 16 [(a.t.toNat,0)] []=true):=Lib.hid (by rw [<- HXS.out];exact hfd);have HCF:Hid (cutF (outM es) A v a b=some ⟨a.t,b.h,X,v⟩):=Lib.hid (by
             have e0:UInt64.ofNat (a.x.toNat+b.x.toNat)=X:=by rw [<- HXS.out];simp
             unfold cutF;dsimp only;rw [if_neg,e0];rintro (h | h | h | h | h | h)
             ·exact C1.out h
             ·exact C2.out h
             ·exact C3.out h
             ·exact h HFT.out
             ·exact HNE.out h
             ·exact HFD.out h)
            have HLN:Hid (acc'.length<=100000):=Lib.hid (by
             have h1:acc.length<=i*M2:=by rw [HA3.out];exact cuts_length (fun x=>by have:=List.length_filterMap_le (cutF (outM es) A v x) (outM es v.toNat);have:=HM.out;omega) (by rw [List.length_take];omega)
             have h2:(((outM es v.toNat).take k).filterMap (cutF (outM es) A v a)).length<=k:=Nat.le_trans (List.length_filterMap_le _ _) (by rw [List.length_take];omega);have h3:(i+1)*M2<=M1*M2:=Nat.mul_le_mul_right _ (by omega);rw [Nat.succ_mul] at h3;have h4:=HDG.out;rw [HA6.out,List.length_append];have:=HM.out;rw [<- this.1,<- this.2.1] at h4;omega)
            have HSZ:Hid (w.heap.size<=w13.heap.size):=Lib.hid HS13.out.mv.size;have k5:w13.cell? ⟨sv,0,none⟩=some (.int .u32 (v.toNat:Int)):=by rw [cells_cell (HSVW.out _ _ _ _ _ HS13.out).1.1];rfl
            clear hfd hff HNE;go_wp2_with (at_builtin;refine wpList_append_edge rfl _ _ rfl w.heap.size _ acc' rfl HS13.out.row ⟨a.t,b.h,X,v⟩ 1 rfl HLN.out HSZ.out ?_)
            intro l14 w14 hl14 ha14;have HS14:=Lib.hid (HS13.out.appd hl14 ha14);have HA14:Hid (acc'++[⟨a.t,b.h,X,v⟩]=acc++((outM es v.toNat).take (k+1)).filterMap (cutF (outM es) A v a)):=Lib.hid (by rw [filter_take HIB.out,HCF.out,HA6.out];simp);clear hl14 ha14 HS13;go_wp2;go_roundw
            case rel=>exact ⟨k+1,_,d13,o13,by go_num,by omega,HS14,HA14⟩
            case measure=>simp [intOf];omega
        ·have hav:addV a.x.toNat b.x.toNat=.tuple #[.int .u64 0, .bool false]:=if_neg hfit;rw [hav];have HFT:=Lib.hid hfit;clear hav hfit;have HN:cutF (outM es) A v a b=none:=by unfold cutF;exact if_pos (.inr (.inr (.inr (.inl HFT.out))))
         have HA9:Hid (acc'=acc++((outM es v.toNat).take (k+1)).filterMap (cutF (outM es) A v a)):=Lib.hid (by rw [filter_take HIB.out,HN,HA6.out];simp);clear HN;go_wp2;go_roundw
         case rel=>exact ⟨k+1,acc',d6,o6,by go_num,by omega,HS9,HA9⟩
         case measure=>simp [intOf];omega
    ·have hkz:¬ (k:Int) < (M2:Int):=by omega
     have HS7:=Lib.hid (HS4.out.narrow HS6.out);have HA7:Hid (acc'=((inM es v.toNat).take (i+1)).flatMap (fun a=>(outM es v.toNat).filterMap (cutF (outM es) A v a))):=Lib.hid (by
      rw [flat_take HIA.out,HA6.out,HA3.out,List.take_of_length_le (l:=outM es v.toNat) (by have:=HM.out;omega)])
     clear HS6 HA6;go_wp2;go_roundw
     case rel=>exact ⟨i+1,acc',d6,o6,by go_num,by omega,HS7,HA7⟩
     case measure=>simp [intOf];omega
  ·have hiz:¬ (i:Int) < (M1:Int):=by omega
   have hcap:acc.length<=lc:=by
    obtain ⟨-,⟨h1,h2⟩ | ⟨_,_,_,h1,-,-,h7,-⟩⟩:=HS3.out.row
    ·omega
    ·cases h1;exact h7
   have HQ:Hid (CutsPost n pb db w o d L R (.returned (.tuple #[.slice la acc.length acc.length, .int .i64 0])) W3):=Lib.hid ⟨_,d3,o3,rfl,HS3.out.mv,by
    have e:acc=R:=by rw [HA3.out,<- HR.out,List.take_of_length_le (by have:=HM.out;omega)];rfl
    subst e;exact clip_row HS3.out.row,fun x hx=>by
    cases la with
    | none=>cases hx
    | some p=>exact ⟨(HS3.out.own x hx).2,(ownBlock_old HS3.out.row x hx).2,(ownBlock_old HS3.out.row x hx).1⟩⟩
   have hcl:=Lib.hid (clip_any (a:=la) hcap W3);clear hcap;go_wp2_with fail
   refine hcl.out.mono ?_;rintro e w4 ⟨rfl,rfl⟩;clear hcl;go_wp2;go_returns
   exact HQ.out
end
end
section
open Go.RowKit Go.Maps
set_option maxRecDepth 100000 in
theorem run_count1 (args:Array Value) (w:World):Sem.run Tryz.prog (callFunc 143 args) w=.ok (.enter 143 args) w:=by go_simp
set_option maxHeartbeats 1000000 in
theorem count1_any (x:Nat) (w:World):Calls Tryz.prog 143 #[.int .u32 (x:Int)] w fun e w'=>e=.returned (.bool false)/\w'=w:=by
 go_enter Tryz.func143,Tryz.ntmps143
 go_wp2;go_ret;exact ⟨rfl,rfl⟩
theorem avNone (w:World) (o:Owner):AvOk w o (.func (.func 143) #[] #[]) (fun _=>false) (fun _=>False):=
 ⟨⟨_,_,rfl,run_count1,fun W x _ _ _=>(count1_any x W).mono fun _ _ ⟨h1,h2⟩=>⟨h1,h2 ▸ Below.refl _ _⟩⟩,fun _ h=>h.elim⟩
section
variable {w0 w w' W:World} {pb db n gb gen N ob ib vb:Nat} {o o':Owner} {d d':Dsk} {L:Logic} {es:List Edg}
def CountPost (n pb db:Nat) (w:World) (o:Owner) (d:Dsk) (L:Logic) (i k c:Nat) (e:Ending) (w':World):Prop:=
 ∃ d' o',e=.returned (.tuple #[.int .i64 (i:Int), .int .i64 (k:Int), .int .i64 (c:Int), .int .i64 0])/\Moved (fun _=>False) n pb db w o d w' o' d' L
set_option maxRecDepth 100000 in
set_option maxHeartbeats 4000000 in
theorem count_any18 (HW:WriteSaid) (h:NetIn w0 w pb db n o d L gb gen N ob ib vb es) (v:UInt32) (hv:v.toNat < N) (hdeg:(inM es v.toNat).length*(outM es v.toNat).length<=100000) :
 Calls Tryz.prog 97 #[outFn gb,inFn gb, .int .u32 (v.toNat:Int)] w (CountPost n pb db w o d L (inM es v.toNat).length (outM es v.toNat).length (cutsM (outM es) (fun _=>false) (inM es v.toNat) v).length):=by
 have hmk:=Lib.hid (shortMake_any HW h (avNone w o) v hv hdeg);have HB:Hid (∀ W o' d',Moved (fun _=>False) n pb db w o d W o' d' L->Calls Tryz.prog 144 #[outFn gb,inFn gb, .int .u32 (v.toNat:Int)] W (BothPost n pb db W o' d' L es v.toNat)):=Lib.hid (fun W o' d' hm=>both_any HW (h.moved hm) hv);clear h;generalize cutsM (outM es) (fun _=>false) (inM es v.toNat) v=C at *;unfold outFn inFn at *;unfold ptrTo CutsPost BothPost at *;go_enter Tryz.func97,Tryz.ntmps97
 go_wp2_with fail
 refine hmk.out.mono ?_;rintro e w1 ⟨cv,d1,o1,rfl,hm1,⟨ca,cc,rfl,-⟩,-⟩;have HM1:=Lib.hid hm1;have hb:=Lib.hid (HB.out _ _ _ hm1);clear hm1 hmk;go_wp2_with fail
 refine hb.out.mono ?_;rintro e w2 ⟨iv,ov,d2,o2,rfl,hm2,hi2,ho2,-⟩;obtain ⟨ia,ic,rfl⟩:=ownsRow_slice hi2;obtain ⟨oa,oc,rfl⟩:=ownsRow_slice ho2;have HQ:Hid (CountPost n pb db w o d L (inM es v.toNat).length (outM es v.toNat).length C.length (.returned (.tuple #[.int .i64 ((inM es v.toNat).length:Int), .int .i64 ((outM es v.toNat).length:Int), .int .i64 (C.length:Int), .int .i64 0])) w2):=Lib.hid ⟨d2,o2,rfl,HM1.out.trans hm2 (fun _ _ e=>e)⟩;clear hm2 hi2 ho2 hb;go_wp2;go_returns
 exact HQ.out
end
end
section
open Go.RowKit Go.Maps
open Go.ChangeMaps (setBlock)
theorem set_get (S:List Nat) (x:Nat):mget (S.map fun x=>(x,())) x=if x∈S then some () else none:=by
 have h:=set_has S x;unfold mhas at h;cases e:mget (S.map fun x=>(x,())) x with
 | none=>
   rw [e] at h;have:¬ x∈S:=of_decide_eq_false h.symm;rw [if_neg this]
 | some u=>
   rw [e] at h;have:x∈S:=of_decide_eq_true h.symm;rw [if_pos this]
abbrev ownsNums (w:World) (base:Nat) (v:Value) (l:List Nat):Prop:=w.ownsRow base 26 1 v l.length (l.map u32V)
theorem info_u32:(Tryz.prog.info? 26).map (fun i=>(i.zero,i.size,i.bytes))=some (some (.int .u32 0),1,4):=by kernel_rfl
theorem ownsNums_cell {w:World} {base g cap:Nat} {l:List Nat} {i x:Nat} (h:ownsNums w base (.slice (some ⟨g,0,none⟩) l.length cap) l) (hi:l[i]? = some x):w.cell? ⟨g,i,none⟩=some (.int .u32 (x:Int)):=by
 have:=World.ownsRow.cells h (g:=g) rfl i (u32V x) (by rw [List.getElem?_map,hi];rfl);rwa [Addr_add,Nat.zero_add] at this
section
variable {w:World} {ops:Array Oper} {rest:List Oper} {op:Oper} {a:Act} {Q:Exit->Act->World->Prop}
theorem wpList_append_num (hgd:op.guard=none) (s x:Operand) (ho:op.op=.call { callee:=.builtin .append,args:=#[s,x],argTypes:=#[88,88] }) (base:Nat) (v:Value) (l:List Nat) (hs:a.eval s=v) (hown:ownsNums w base v l)
 (y c:Nat) (hx:a.eval x=.slice (some ⟨w.heap.size,0,none⟩) 1 c) (hl:l.length<=100000) (hbase:base<=w.heap.size)
 (k:∀ v' w',ownsNums w' base v' (l++[y])->Appd v (w.alloc (.cells #[.int .u32 (y:Int)] 26)) w' v'->wpList Tryz.prog ops Q rest (a.put op.dst v') w') :
 wpList Tryz.prog ops Q (op::rest) a (w.alloc (.cells #[.int .u32 (y:Int)] 26)):=by
 refine wpList_append_at hgd s x 88 ho base 26 _ 1 4 Tryz.underlying88 info_u32 rfl (by decide) v l.length (l.map u32V) hs (World.ownsRow.alloc hown _) ⟨w.heap.size,0,none⟩ 1 c [u32V y] hx rfl (fun j u hj=>?_) (by simp [Value.oneCell']) (by unfold maxLen;omega) (by omega) (by simp;omega) (fun v' w' h1 h2=>k v' w' ?_ h2)
 ·rw [Addr_add,Nat.zero_add];match j,hj with
  | 0,hj=>cases hj;simp
  | j+1,hj=>cases hj
 ·unfold ownsNums;rw [List.map_append,List.length_append];exact h1
end
abbrev SeenAt (w:World) (b:Nat) (S:List Nat):Prop:=MapAt Tryz.prog 26 u32V (fun _:Unit=>Value.int .i64 1) w b (S.map fun x=>(x,()))
structure NearSt (W:World) (base mc lc mb:Nat) (lv:Value) (acc:List Nat):Prop where
 c1:W.heap[mc]? = some (.cells #[.map (some mb)] 237)
 c2:W.heap[lc]? = some (.cells #[lv] 88)
 mp:SeenAt W mb acc.reverse
 row:ownsNums W base lv acc
 n1:mc≠lc
 n2:mc≠mb
 n3:lc≠mb
 n4:∀ b,lv.ownBlock=some b->b≠mc/\b≠lc/\b≠mb
section
variable {W W':World} {base mc lc mb:Nat} {lv:Value} {acc:List Nat}
theorem NearSt.lt (h:NearSt W base mc lc mb lv acc):mc < W.heap.size/\lc < W.heap.size/\mb < W.heap.size/\∀ b,lv.ownBlock=some b->b < W.heap.size:=
 ⟨(Array.getElem?_eq_some_iff.1 h.c1).1,(Array.getElem?_eq_some_iff.1 h.c2).1,h.mp.lt,fun b hb=>(ownBlock_old h.row b hb).1⟩
theorem NearSt.kept (h:NearSt W base mc lc mb lv acc) (hk:∀ b,b=mc\/b=lc\/b=mb\/lv.ownBlock=some b->W'.heap[b]? = W.heap[b]?):NearSt W' base mc lc mb lv acc:=
 ⟨(hk _ (.inl rfl)).trans h.c1,(hk _ (.inr (.inl rfl))).trans h.c2,h.mp.kept (hk _ (.inr (.inr (.inl rfl)))),ownsRow_heap h.row (fun b hb=>hk b (.inr (.inr (.inr hb)))),h.n1,h.n2,h.n3,h.n4⟩
theorem NearSt.below (h:NearSt W base mc lc mb lv acc) (hb:Below W.heap.size W W'):NearSt W' base mc lc mb lv acc:=by
 obtain ⟨l1,l2,l3,l4⟩:=h.lt;refine h.kept fun b e=>hb.block b ?_;rcases e with rfl | rfl | rfl | e
 ·exact l1
 ·exact l2
 ·exact l3
 ·exact l4 b e
def onceA (acc:List Nat) (x:Nat):List Nat:=if x∈acc then acc else acc++[x]
def AddPost (W:World) (base mc lc mb:Nat) (lv:Value) (acc:List Nat) (x:Nat) (e:Ending) (W':World):Prop:=
 ∃ lv',e=.returned (.tuple #[])/\NearSt W' base mc lc mb lv' (onceA acc x)/\Turn (fun b=>b=mb\/b=lc\/lv.ownBlock=some b) W W'/\∀ b,lv'.ownBlock=some b->lv.ownBlock=some b\/W.heap.size<=b
theorem NearSt.added (h:NearSt W base mc lc mb lv acc) {x:Nat} {ob1 ob2:Obj} {w5:World} {v5:Value} (hm:SeenAt (setBlock W mb ob1) mb (acc++[x]).reverse) (ha:Appd lv ((setBlock W mb ob1).alloc ob2) w5 v5) (h5:ownsNums w5 base v5 (acc++[x])) :
 w5.heap[lc]? = some (.cells #[lv] 88)/\NearSt (w5.setCell ⟨lc,0,none⟩ v5) base mc lc mb v5 (acc++[x])/\Turn (fun b=>b=mb\/b=lc\/lv.ownBlock=some b) W (w5.setCell ⟨lc,0,none⟩ v5)/\∀ b,v5.ownBlock=some b->lv.ownBlock=some b\/W.heap.size<=b:=by
 obtain ⟨l1,l2,l3,l4⟩:=h.lt;obtain ⟨hg,hv⟩:=ha;have hs:(setBlock W mb ob1).heap.size=W.heap.size:=by unfold setBlock;simp
 have ht1:Turn (fun b=>b=mb\/b=lc\/lv.ownBlock=some b) W ((setBlock W mb ob1).alloc ob2):=((Turn.refl _ W).setBlock _ _ (.inl (.inl rfl))).alloc _;have ht2:Turn (fun b=>lv.ownBlock=some b) ((setBlock W mb ob1).alloc ob2) w5:=⟨hg.os,hg.tape,hg.output,hg.size,fun k hk hn=>hg.block k hk (fun e=>hn e.symm)⟩;have hz:∀ b,b < W.heap.size->b < ((setBlock W mb ob1).alloc ob2).heap.size:=fun b hb=>by simp;omega
 have hk:∀ b,b < W.heap.size->b≠mb->lv.ownBlock≠some b->w5.heap[b]? = W.heap[b]? := fun b hb h1 h2=>by
  rw [ht2.block b (hz b hb) h2,(MapKept.heap_alloc _ _).2 b (by omega),heap_setBlock_none _ h1]
 have e5:=(hk lc l2 h.n3 (fun e=>(h.n4 lc e).2.1 rfl)).trans h.c2;have hnb:∀ b,v5.ownBlock=some b->lv.ownBlock=some b\/W.heap.size<=b:=fun b hb=>by
  rcases hv with e | e
  ·exact .inl (e ▸ hb)
  ·rw [e] at hb;cases hb;exact .inr (by simp;omega)
 have hne:∀ b,v5.ownBlock=some b->b≠mc/\b≠lc/\b≠mb:=fun b hb=>by
  rcases hnb b hb with e | e
  ·exact h.n4 b e
  ·omega
 have hmb:w5.heap[mb]? = (setBlock W mb ob1).heap[mb]? := by
  rw [ht2.block mb (hz mb l3) (fun e=>(h.n4 mb e).2.2 rfl),(MapKept.heap_alloc _ _).2 mb (by omega)]
 refine ⟨e5,⟨?_,cells_set e5 0 v5,?_,?_,h.n1,h.n2,h.n3,hne⟩,(ht1.trans ht2 (fun b _ e=>.inr (.inr e))).setCell _ _ (.inl (.inr (.inl rfl))),hnb⟩
 ·rw [Below.heap_setCell _ _ _ _ h.n1];exact (hk mc l1 h.n2 (fun e=>(h.n4 mc e).1 rfl)).trans h.c1
 ·exact hm.kept (by rw [Below.heap_setCell _ _ _ _ h.n3.symm];exact hmb)
 ·exact ownsRow_heap h5 (fun b hb=>Below.heap_setCell _ _ _ _ (hne b hb).2.1)
set_option maxRecDepth 100000 in
set_option maxHeartbeats 4000000 in
theorem near1_any (h:NearSt W base mc lc mb lv acc) (x:Nat) (hx:x < 4294967296) (hl:acc.length<=100000) (hbase:base<=W.heap.size) :
 Calls Tryz.prog 145 #[.int .u32 (x:Int), .pointer (some ⟨mc,0,none⟩), .pointer (some ⟨lc,0,none⟩)] W (AddPost W base mc lc mb lv acc x):=by
 obtain ⟨la,lk,rfl⟩:=ownsRow_slice h.row;have H:=Lib.hid h;have HG:=Lib.hid (good_u32 hx);have HZ:Hid (∀ W,(zeroValue 3).run Tryz.prog W=.ok (.int .i64 0) W):=Lib.hid (fun W=>Tryz.zeroValue3 W);have c0:W.cell? ⟨mc,0,none⟩=some (.map (some mb)):=by rw [cells_cell h.c1];rfl
 have c1:W.cell? ⟨lc,0,none⟩=some (.slice la acc.length lk):=by rw [cells_cell h.c2];rfl
 have HL:=Lib.hid hl;have HBA:=Lib.hid hbase;clear h hl hbase;by_cases hin:x∈acc
 ·have HM:Hid (mget (acc.reverse.map fun x=>(x,())) x=some ()):=Lib.hid (by rw [set_get,if_pos (by simpa using hin)]);have HO:Hid (onceA acc x=acc):=Lib.hid (if_pos hin);clear hin;go_enter Tryz.func145,Tryz.ntmps145
  go_wp2_with (at_lookup;refine wpList_look _ rfl _ _ _ _ rfl 3 keyed_u32 u32_inj Tryz.underlying237 (HZ.out _) mb _ rfl H.out.mp x rfl HG.out ?_;rw [HM.out];simp only [Option.map_some,Option.getD_some,Bool.false_eq_true,if_false])
  go_returns
  exact ⟨_,rfl,by rw [HO.out];exact H.out,Turn.refl _ _,fun b hb=>.inl hb⟩
 ·have HM:Hid (mget (acc.reverse.map fun x=>(x,())) x=none):=Lib.hid (by rw [set_get,if_neg (by simpa using hin)]);have HO:Hid (onceA acc x=acc++[x]):=Lib.hid (if_neg hin);have HPUT:Hid (mput (acc.reverse.map fun x=>(x,())) x ()=(acc++[x]).reverse.map fun x=>(x,())):=Lib.hid (by rw [set_put (by simpa using hin)];simp);clear hin;go_enter Tryz.func145,Tryz.ntmps145
  go_wp2_with (first | (at_lookup;refine wpList_look _ rfl _ _ _ _ rfl 3 keyed_u32 u32_inj Tryz.underlying237 (HZ.out _) mb _ rfl H.out.mp x rfl HG.out ?_;rw [HM.out];simp only [Option.map_none,Option.getD_none,Bool.false_eq_true,if_false]) | (at_mapUpdate;refine wpList_put _ rfl _ _ _ _ rfl 3 keyed_u32 u32_inj Tryz.underlying237 mb _ rfl H.out.mp x () rfl rfl HG.out ?_;intro es clock hm2;rw [HPUT.out] at hm2;have HM2:=Lib.hid hm2;clear hm2;have d1:(setBlock W mb (.map es clock)).cell? ⟨lc,0,none⟩=some (.slice la acc.length lk):=(by rw [World.cell?_of_block (a:=⟨lc,0,none⟩) (heap_setBlock_none (w:=W) (b:=mb) (.map es clock) H.out.n3)];exact c1);have HROW:Hid (ownsNums (setBlock W mb (.map es clock)) base (.slice la acc.length lk) acc):=Lib.hid (ownsRow_heap H.out.row (fun b hb=>heap_setBlock_none _ (H.out.n4 b hb).2.2));have HB2:Hid (base<=(setBlock W mb (.map es clock)).heap.size):=Lib.hid (by unfold setBlock;simp;exact HBA.out)) | (at_builtin;refine wpList_append_num rfl _ _ rfl base _ acc rfl HROW.out x 1 rfl HL.out HB2.out ?_;intro v5 w5 h5 ha;obtain ⟨e5,hst,htn,hob⟩:=H.out.added HM2.out ha h5;obtain ⟨a5,k5,rfl⟩:=ownsRow_slice h5;have HQ:=Lib.hid (show _/\_/\_ from ⟨hst,htn,hob⟩);have d5:w5.cell? ⟨lc,0,none⟩=some (.slice la acc.length lk):=(by rw [cells_cell e5];rfl);have f5:∀ k,w5.frozen? ⟨lc,k,none⟩=false:=fun k=>cells_frozen e5 k;clear hst htn hob h5 ha e5))
  rw [show (acc++[x]).length=acc.length+1 by simp] at HQ;go_returns
  exact ⟨_,rfl,by rw [HO.out];exact HQ.out.1,HQ.out.2.1,HQ.out.2.2⟩
theorem onceA_sub (acc:List Nat) (x y:Nat) (h:y∈onceA acc x):y∈acc\/y=x:=by
 unfold onceA at h;split at h
 ·exact .inl h
 ·simpa using h
theorem onceA_length (acc:List Nat) (x:Nat):(onceA acc x).length<=acc.length+1:=by
 unfold onceA;split
 ·omega
 ·simp
end
section
variable {w0 w w' W:World} {pb db n gb gen N ob ib vb rb:Nat} {o o':Owner} {d d':Dsk} {L:Logic} {es:List Edg}
def NearPost (n pb db:Nat) (w:World) (o:Owner) (d:Dsk) (L:Logic) (l:List Nat) (e:Ending) (w':World):Prop:=
 ∃ v d' o',e=.returned (.tuple #[v, .int .i64 0])/\Moved (fun _=>False) n pb db w o d w' o' d' L/\ownsNums w' w.heap.size v l/\∀ x,v.ownBlock=some x->o' x=none
theorem once_take {l:List Nat} {acc:List Nat} {j x:Nat} (h:l[j]? = some x):(l.take (j+1)).foldl onceA acc=onceA ((l.take j).foldl onceA acc) x:=by
 obtain ⟨hl,rfl⟩:=List.getElem?_eq_some_iff.1 h;rw [List.take_succ_eq_append_getElem hl,List.foldl_append];rfl
theorem once_length {l:List Nat} {acc:List Nat}:(l.foldl onceA acc).length<=acc.length+l.length:=by
 induction l generalizing acc with
 | nil=>simp
 | cons x l ih=>
   have h1:=ih (acc:=onceA acc x);have h2:=onceA_length acc x;rw [List.foldl_cons,List.length_cons];omega
theorem nearM_eq (es:List Edg) (v:Nat):nearM es v=((inM es v).map (·.t.toNat)).foldl onceA (((outM es v).map (·.h.toNat)).foldl onceA []):=by
 unfold nearM onceL;rw [List.foldl_append];rfl
structure NearLp (n pb db:Nat) (w:World) (o:Owner) (d:Dsk) (L:Logic) (W0:World) (mc lc mb:Nat) (r1 r2:Value) (acc:List Nat) (W:World) (o':Owner) (d':Dsk):Prop where
 mv:Moved (fun _=>False) n pb db w o d W o' d' L
 st:∃ lv,NearSt W w.heap.size mc lc mb lv acc/\∀ b,b=mc\/b=lc\/b=mb\/lv.ownBlock=some b->w.heap.size<=b/\o' b=none/\r1.ownBlock≠some b/\r2.ownBlock≠some b
 rw1:∀ b,r1.ownBlock=some b\/r2.ownBlock=some b->W.heap[b]? = W0.heap[b]? /\ b < W.heap.size
variable {W0 W':World} {mc lc mb:Nat} {r1 r2:Value} {acc:List Nat}
theorem NearLp.below (h:NearLp n pb db w o d L W0 mc lc mb r1 r2 acc W o' d') (hb:Below W.heap.size W W'):NearLp n pb db w o d L W0 mc lc mb r1 r2 acc W' o' d':=by
 obtain ⟨lv,h1,h2⟩:=h.st;exact ⟨h.mv.below hb,⟨lv,h1.below hb,h2⟩,fun b hr=>⟨(hb.block b (h.rw1 b hr).2).trans (h.rw1 b hr).1,Nat.lt_of_lt_of_le (h.rw1 b hr).2 hb.size⟩⟩
theorem NearLp.add (h:NearLp n pb db w o d L W0 mc lc mb r1 r2 acc W o' d') (x:Nat) (hx:x < 4294967296) (hl:acc.length<=100000) :
 Calls Tryz.prog 145 #[.int .u32 (x:Int), .pointer (some ⟨mc,0,none⟩), .pointer (some ⟨lc,0,none⟩)] W fun e W'=>e=.returned (.tuple #[])/\NearLp n pb db w o d L W0 mc lc mb r1 r2 (onceA acc x) W' o' d':=by
 obtain ⟨lv,h1,h2⟩:=h.st;refine (near1_any h1 x hx hl h.mv.size).mono ?_;rintro e W' ⟨lv',rfl,hst,htn,hob⟩;have hB:∀ b,(b=mb\/b=lc\/lv.ownBlock=some b)->(b=mc\/b=lc\/b=mb\/lv.ownBlock=some b):=fun b e=>by
  rcases e with e | e | e
  ·exact .inr (.inr (.inl e))
  ·exact .inr (.inl e)
  ·exact .inr (.inr (.inr e))
 refine ⟨rfl,h.mv.turnedS (fun b _ e=>⟨(h2 b (hB b e)).2.1, .inr (h2 b (hB b e)).1⟩) htn,⟨lv',hst,fun b e=>?_⟩,fun b hr=>⟨(htn.block b (h.rw1 b hr).2 (fun e=>?_)).trans (h.rw1 b hr).1,Nat.lt_of_lt_of_le (h.rw1 b hr).2 htn.size⟩⟩
 ·have old:∀ b,(b=mc\/b=lc\/b=mb\/lv.ownBlock=some b)->w.heap.size<=b/\o' b=none/\r1.ownBlock≠some b/\r2.ownBlock≠some b:=h2;rcases e with e | e | e | e
  ·exact old b (.inl e)
  ·exact old b (.inr (.inl e))
  ·exact old b (.inr (.inr (.inl e)))
  ·rcases hob b e with e | e
   ·exact old b (.inr (.inr (.inr e)))
   ·exact ⟨Nat.le_trans h.mv.size e,h.mv.pool.fresh e,fun e'=>by have:=(h.rw1 b (.inl e')).2;omega,fun e'=>by have:=(h.rw1 b (.inr e')).2;omega⟩
 ·have:=h2 b (hB b e);rcases hr with hr | hr
  ·exact this.2.2.1 hr
  ·exact this.2.2.2 hr
end
end
end Go.Proofs.YthkkgdpomhhjjaaGreatDoor
