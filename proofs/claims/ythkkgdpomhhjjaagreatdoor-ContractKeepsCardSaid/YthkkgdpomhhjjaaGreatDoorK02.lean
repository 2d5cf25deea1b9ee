/-
  Joined.
-/
import Derived.Test.YthkkgdpomhhjjaaGreatDoorK01
import Derived.Laws.CopyOwn
import Derived.Orders
set_option maxRecDepth 100000
set_option maxHeartbeats 8000000
namespace Go.Proofs.YthkkgdpomhhjjaaGreatDoor
open Go.Proofs.Tryz
section
open Go.RowKit Go.Maps Go.MapKept
open Go.ChangeMaps (setBlock heap_setBlock_same heap_setBlock_other)
abbrev Name:=ByteArray
structure bT where
 now:List UInt8
 gZ:List UInt8
structure Dsk where
 files:List (Name×bT)
 loose:List ((Name×Nat)×Unit)
 bO:Nat
 dP:Nat
 dead:Bool
namespace Dsk
def tick(d:Dsk):Dsk:=if 0<d.dP then { d with dP:=d.dP-1,dead:=d.dead || d.dP-1 == 0 } else d
def err(d:Dsk):Nat:=if d.dead then 6 else 0
end Dsk
def gG(n:Nat):Nat:=(n+63)/64
def er(fs:List (Name×bT)):Nat:=(fs.map (fun p=>gG p.2.now.length)).sum
structure Dsk.Ok(d:Dsk):Prop where
 bO:d.bO<=1048576
 dP:d.dP<9223372036854775808
 used:er d.files<=1048576
theorem Gz{a b:List (Name×bT)}(h:a.Perm b):er a=er b:=(h.map _).sum_nat
theorem r8(fs:List (Name×bT))(name:Name):er (bX fs name)<=er fs:=by
 unfold er bX;induction fs with
 |nil=>simp
 |cons p fs ih=>
   grind
theorem jT(fs:List (Name×bT))(name:Name)(f:bT):er (aS fs name f)=gG f.now.length+er (bX fs name):=by
 rfl
theorem sW{fs:List (Name×bT)}{name:Name}{f:bT}(hk:(fs.map (·.1)).Nodup)(h:aB fs name=some f):er fs=gG f.now.length+er (bX fs name):=by
 rw[<- jT fs name f];obtain⟨j,hj⟩:=List.mem_iff_getElem?.1 (eK h);grind [set_perm,List.set_getElem_self,Gz]
def jl(b:UInt8):Bool:=(decide (97<=b.toNat) && decide (b.toNat<=122)) || (decide (48<=b.toNat) && decide (b.toNat<=57)) || b.toNat == 46 || b.toNat == 45
def bM(s:Name):Bool:=s.data.toList.all jl && decide (1<=s.size) && decide (s.size<=24)
theorem GA{s:Name}(h:bM s=true):s.size<=24:=by
 grind [bM]
def ptrTo(b:Nat):Value:=.pointer (some ⟨b,0,none⟩)
theorem ar{w:World}{b:Nat}{cs:Array Value}{t:TypeId}(h:w.heap[b]? = some (.cells cs t))(i:Nat):w.cell? ⟨b,i,none⟩=cs[i]? := by
 simp[World.cell?,h]
theorem aO{w:World}{b:Nat}{cs:Array Value}{t:TypeId}(h:w.heap[b]? = some (.cells cs t))(i:Nat):w.frozen? ⟨b,i,none⟩=false:=by
 simp[World.frozen?,h]
theorem aT{w:World}{b:Nat}{cs:Array Value}{t:TypeId}(h:w.heap[b]? = some (.cells cs t))(i:Nat)(u:Value):(w.setCell ⟨b,i,none⟩ u).heap[b]? = some (.cells (cs.setIfInBounds i u) t):=by
 grind [World.setCell]
def pD(c:Nat):Prop:=c<6
structure dw(w:World)(o:au)(pf:Nat)(f:bT):Prop where
 own:o pf=some (3,0)
 rows:∃t v u,w.heap[pf]? = some (.cells #[v,u] t)/\w.ownsRow 0 5 1 v f.now.length (f.now.map bv)/\(∀b,v.ownBlock=some b->o b=some (4,pf)) /\
  w.ownsRow 0 5 1 u f.gZ.length (f.gZ.map bv)/\∀b,u.ownBlock=some b->o b=some (5,pf)
 most:f.now.length<=16777216/\f.gZ.length<=16777216
def iy(w:World)(db mf ml:Nat)(bO dP:Nat)(dead:Bool):Prop:=
 ∃t,w.heap[db]? = some (.cells #[.map (some mf),.map (some ml),.int .i64 (bO:Int),.int .i64 (dP:Int),.bool dead] t)
abbrev FileMap:=bS prog 9 Value.string (fun x:Nat×bT=>ptrTo x.1)
abbrev zP:=bS prog 116 eD (fun _:Unit=>.bool true)
structure cH(w:World)(db:Nat)(o:au)(mf ml:Nat)(l:List (Name×(Nat×bT)))(d:Dsk):Prop where
 Cg:o db=some (0,0)
 Ch:o mf=some (1,0)
 Ci:o ml=some (2,0)
 head:iy w db mf ml d.bO d.dP d.dead
 files:FileMap w mf l
 strip:l.map (fun p=>(p.1,p.2.2))=d.files
 apart:(l.map (·.2.1)).Nodup
 each:∀p∈l,dw w o p.2.1 p.2.2
 loose:zP w ml d.loose
 owned:∀x t,o x=some t->x<w.heap.size
 ok:d.Ok
def cI(w:World)(db:Nat)(o:au)(d:Dsk):Prop:=∃mf ml l,cH w db o mf ml l d
section
variable {S:Nat->Prop} {w w':World} {o o':au} {db mf ml pf:Nat} {l:List (Name×(Nat×bT))} {d:Dsk} {f:bT}
theorem aG.heap(ht:aG S w w'){b:Nat}{x:Obj}(h:w.heap[b]? = some x)(hs:¬S b):w'.heap[b]? = some x:=
 (ht.block b (by grind) hs).trans h
theorem dw.kept'(h:dw w o pf f)(ht:aG S w w')(hp:¬S pf)(h4:∀x,o x=some (4,pf)->¬S x)(h5:∀x,o x=some (5,pf)->¬S x)(ho:∀x t,o x=some t->o' x=some t):dw w' o' pf f:=by
 obtain⟨h1,⟨t,v,u,h2,h3,k4,h6,h7⟩,h8⟩:=h;exact⟨ho _ _ h1,⟨t,v,u,ht.heap h2 hp,ht.ownsRow h3 (by grind),(by grind),ht.ownsRow h6 (by grind),(by grind)⟩,h8⟩
theorem dw.kept(h:dw w o pf f)(ht:aG S w w')(hs:∀x t,o x=some t->3<=t.1->t.1<6->¬S x)(ho:∀x t,o x=some t->o' x=some t):dw w' o' pf f:=
 h.kept' ht (hs _ _ h.own ag ag) (by grind) (by grind) ho
theorem iy.kept{q a:Nat}{b:Bool}(h:iy w db mf ml q a b)(ht:aG S w w')(hs:¬S db):iy w' db mf ml q a b:=by
 obtain⟨t,h⟩:=h;exact⟨t,ht.heap h hs⟩
theorem iy.cells{q a:Nat}{b:Bool}(h:iy w db mf ml q a b) :
 (w.cell? ⟨db,0,none⟩=some (.map (some mf))/\w.cell? ⟨db,1,none⟩=some (.map (some ml))/\w.cell? ⟨db,2,none⟩=some (.int .i64 (q:Int))/\w.cell? ⟨db,3,none⟩=some (.int .i64 (a:Int))/\w.cell? ⟨db,4,none⟩=some (.bool b)) /\
   w.frozen? ⟨db,2,none⟩=false/\w.frozen? ⟨db,3,none⟩=false/\w.frozen? ⟨db,4,none⟩=false:=by
 obtain⟨t,h⟩:=h;refine⟨⟨?_,?_,?_,?_,?_⟩,aO h _,aO h _,aO h _⟩<;>rw[ar h]<;>rfl
theorem iy.set{q a:Nat}{b:Bool}(h:iy w db mf ml q a b)(a':Nat)(b':Bool):iy ((w.setCell ⟨db,3,none⟩ (.int .i64 (a':Int))).setCell ⟨db,4,none⟩ (.bool b')) db mf ml q a' b':=by
 obtain⟨t,h⟩:=h;exact⟨t,by rw[aT (aT h _ _)];rfl⟩
theorem bS.turn{κ υ:Type}{P:Program}{kt:TypeId}{ek:κ->Value}{ev:υ->Value}{b:Nat}{m:List (κ×υ)}(h:bS P kt ek ev w b m)(ht:aG S w w')(hs:¬S b):bS P kt ek ev w' b m:=
 h.kept (ht.block b h.lt hs)
theorem cH.kept(h:cH w db o mf ml l d)(ht:aG S w w')(hs:∀x t,o x=some t->t.1<6->¬S x)(ho:∀x t,o x=some t->o' x=some t)(hb:∀x t,o' x=some t->x<w'.heap.size):cH w' db o' mf ml l d where
 Cg:=ho _ _ h.Cg
 Ch:=ho _ _ h.Ch
 Ci:=ho _ _ h.Ci
 head:=h.head.kept ht (hs _ _ h.Cg ag)
 files:=h.files.turn ht (hs _ _ h.Ch ag)
 strip:=h.strip
 apart:=h.apart
 each:=fun p hp=>(h.each p hp).kept ht (by grind) ho
 loose:=h.loose.turn ht (hs _ _ h.Ci ag)
 owned:=hb
 ok:=h.ok
theorem cI.kept(h:cI w db o d)(ht:aG S w w')(hs:∀x t,o x=some t->t.1<6->¬S x)(ho:∀x t,o x=some t->o' x=some t)(hb:∀x t,o' x=some t->x<w'.heap.size):cI w' db o' d:=by
 obtain⟨mf,ml,l,h⟩:=h;exact⟨mf,ml,l,h.kept ht hs ho hb⟩
theorem cH.below(h:cH w db o mf ml l d)(hb:Below w.heap.size w w'):cH w' db o mf ml l d:=
 h.kept (S:=fun _=>False) (aG.aV hb) (by grind) (by grind) (fun x t hx=>Nat.lt_of_lt_of_le (h.owned x t hx) hb.size)
theorem cI.below(h:cI w db o d)(hb:Below w.heap.size w w'):cI w' db o d:=by
 obtain⟨mf,ml,l,h⟩:=h;exact⟨mf,ml,l,h.below hb⟩
theorem cH.vW(h:cH w db o mf ml l d)(ht:aG (·=db) w w'){q a:Nat}{b:Bool}(hh:iy w' db mf ml q a b)(hq:q<=1048576)(ha:a<9223372036854775808):cH w' db o mf ml l { d with bO:=q,dP:=a,dead:=b } where
 Cg:=h.Cg
 Ch:=h.Ch
 Ci:=h.Ci
 head:=hh
 files:=h.files.turn ht (au.ne h.Ch h.Cg ag)
 strip:=h.strip
 apart:=h.apart
 each:=fun p hp=>(h.each p hp).kept ht (fun x t hx h3 _=>au.ne hx h.Cg (by grind)) (by grind)
 loose:=h.loose.turn ht (au.ne h.Ci h.Cg ag)
 owned:=fun x t hx=>Nat.lt_of_lt_of_le (h.owned x t hx) ht.size
 ok:=⟨hq,ha,h.ok.used⟩
theorem cH.Ev(h:cH w db o mf ml l d)(ht:aG S w w')(hS:∀x,S x->x=mf\/∃t,o x=some t/\3<=t.1)(hk:∀x t,o x=some t->o' x=some t){l':List (Name×(Nat×bT))}(Zf:FileMap w' mf l')(Zg:(l'.map (·.2.1)).Nodup)(Di:∀p∈l',dw w' o' p.2.1 p.2.2)(zQ:∀x t,o' x=some t->x<w'.heap.size)(GC:er (l'.map (fun p=>(p.1,p.2.2)))<=1048576) :
 cH w' db o' mf ml l' { d with files:=l'.map (fun p=>(p.1,p.2.2)) }:=by
 have hn:∀x t,o x=some t->t.1<3->x≠mf->¬S x:=(by grind);exact {
  Cg:=hk _ _ h.Cg
  Ch:=hk _ _ h.Ch
  Ci:=hk _ _ h.Ci
  head:=h.head.kept ht (hn _ _ h.Cg ag (au.ne h.Cg h.Ch ag))
  files:=Zf
  strip:=rfl
  apart:=Zg
  each:=Di
  loose:=h.loose.turn ht (hn _ _ h.Ci ag (au.ne h.Ci h.Ch ag))
  owned:=zQ
  ok:=⟨h.ok.bO,h.ok.dP,GC⟩ }
end
section
variable {l:List (Name×(Nat×bT))} {name:Name}
def bare(l:List (Name×(Nat×bT))):List (Name×bT):=l.map (fun p=>(p.1,p.2.2))
theorem vX:aB (bare l) name=(aB l name).map (·.2):=by
 unfold bare aB;induction l with
 |nil=>rfl
 |cons p l ih=>
   grind
theorem Dj:bare (bX l name)=bX (bare l) name:=by
 unfold bare bX;rw[List.filter_map];rfl
theorem Dk{x:Nat×bT}:bare (aS l name x)=aS (bare l) name x.2:=by
 unfold aS;rw[<- Dj];rfl
theorem Kk(h:(l.map (·.2.1)).Nodup):((bX l name).map (·.2.1)).Nodup:=(List.filter_sublist.map _).nodup h
theorem QH(h:(l.map (·.2.1)).Nodup){p q:Name×(Nat×bT)}(hp:p∈l)(hq:q∈l)(e:p.2.1=q.2.1):p=q:=by
 induction l with
 |nil=>cases hp
 |cons x l ih=>
   grind
theorem Zh(h:(l.map (·.2.1)).Nodup){x:Nat×bT}(hx:aB l name=some x)(f:bT):((aS l name (x.1,f)).map (·.2.1)).Nodup:=by
 unfold aS;rw[List.map_cons,List.nodup_cons];refine⟨fun hm=>?_,Kk h⟩;obtain⟨q,hq,e⟩:=List.mem_map.1 hm;obtain⟨hq,hne⟩:=gF.1 hq;have:=QH h hq (eK hx) e;grind
theorem N1{κ υ:Type}[DecidableEq κ]{m:List (κ×υ)}(hk:(m.map (·.1)).Nodup){k:κ}{v:υ}(h:aB m k=some v):(aS m k v).Perm m:=by
 obtain⟨j,hj⟩:=List.mem_iff_getElem?.1 (eK h);refine(set_perm hk hj v).symm.trans ?_;have:m.set j (k,v)=m:=by
  grind [List.set_getElem_self]
 rw[this]
theorem N2{α β:Type}{g:α->β}{L X:List β}(h:L.Perm X):∀{m:List α},X=m.map g->∃l:List α,l.Perm m/\L=l.map g:=by
 induction h with
 |nil=>simp
 |cons x _ ih=>
   intro m e;cases m with
   |nil=>cases e
   |cons p m=>
     rw[List.map_cons,List.cons.injEq]at e;obtain⟨l,hl,e2⟩:=ih e.2;exact⟨p::l,hl.cons p,by grind⟩
 |swap x y l=>
   intro m e;match m,e with
   |p::q::m,e=>
     rw[List.map_cons,List.map_cons,List.cons.injEq,List.cons.injEq]at e;exact⟨q::p::m,.swap _ _ _,by grind⟩
 |trans _ _ ih1 ih2=>
   intro m e;obtain⟨l2,h2,e2⟩:=ih2 e;obtain⟨l1,h1,e1⟩:=ih1 e2;grind [List.Perm.trans]
theorem bS.acZ{κ υ:Type}{P:Program}{kt:TypeId}{ek:κ->Value}{ev:υ->Value}{w:World}{b:Nat}{m m':List (κ×υ)}(h:bS P kt ek ev w b m)(he:m.map (fun p=>(ek p.1,ev p.2))=m'.map (fun p=>(ek p.1,ev p.2))):bS P kt ek ev w b m':=by
 obtain⟨es,clock,l,hb,hp,h1,h2,h3⟩:=h;have mH:(l.map (fun p=>(ek p.1,ev p.2))).Perm (m'.map (fun p=>(ek p.1,ev p.2))):=(by grind);rw[<- h2]at mH;obtain⟨l',hl',e⟩:∃l':List (κ×υ),l'.Perm m'/\es.toList.map (fun e=>(e.key,e.val))=l'.map (fun p=>(ek p.1,ev p.2)):=by
  exact N2 mH rfl
 refine⟨es,clock,l',hb,hl',h1,e,fun p Qx=>?_⟩;have mI:(ek p.1,ev p.2)∈m.map (fun p=>(ek p.1,ev p.2)):=by
  grind
 grind
end
theorem iY{w:World}{db:Nat}{o:au}{d:Dsk}(h:cI w db o d) :
 Calls prog 138 #[ptrTo db] w fun e w'=>e=.returned (.int .i64 (d.tick.err:Int))/\cI w' db o d.tick/\aG (o.In pD) w w':=by
 obtain⟨mf,ml,l,h⟩:=h;obtain⟨⟨hc0,hc1,hc2,hc3,iz⟩,hf2,hf3,F9⟩:=h.head.cells;have HD:=ae h;have ha:=h.ok.dP;have HA:=ae ha;clear h ha;unfold ptrTo;by_cases h0:0<d.dP
 ·have g0:((d.dP:Int)>0):=by omega
  have e1:wrap64 ((d.dP:Int)-1)=((d.dP-1:Nat):Int):=by
   grind [Hid.out,wrap64]
  have HE :=fun a' b' ha'=>
   HD.out.vW (((aG.refl (·=db) w).setCell _ _ (.inl rfl)).setCell _ _ (.inl rfl)) (HD.out.head.set a' b') HD.out.ok.bO ha'
  have HT:∀u v,aG (o.In pD) w ((w.setCell ⟨db,3,none⟩ u).setCell ⟨db,4,none⟩ v):=fun u v=>
   ((aG.refl _ _).setCell _ _ (.inl ⟨_,HD.out.Cg,by show 0<6;decide⟩)).setCell _ _ (.inl ⟨_,HD.out.Cg,by show 0<6;decide⟩)
  have HE:=ae HE;have HT:=ae HT;have et:d.tick={ d with dP:=d.dP-1,dead:=d.dead || d.dP-1 == 0 }:=by grind [Dsk.tick]
  unfold Dsk.err;rw[et];clear et;by_cases h1:d.dP=1
  ·have e3:d.dP-1=0:=by omega
   rw[h1]at hc3;clear e1 g0;have hx:(d.dP-1 == 0)=true:=by grind
   rw[hx,Bool.or_true,e3];clear hx e3 h1 h0;cases hd:d.dead with
   |true=>
     rw[hd]at iz;go_enter func138,ntmps138;go_wp2;go_ret;exact⟨rfl,⟨mf,ml,l,HE.out 0 true af⟩,HT.out _ _⟩
   |false=>
     rw[hd]at iz;go_enter func138,ntmps138;go_wp2;go_ret;exact⟨rfl,⟨mf,ml,l,HE.out 0 true af⟩,HT.out _ _⟩
  ·have g2:(d.dP-1 == 0)=false:=by grind
   rw[g2,Bool.or_false];cases hd:d.dead with
   |true=>
     rw[hd]at iz;go_enter func138,ntmps138;go_wp2;go_ret;exact⟨rfl,⟨mf,ml,l,HE.out _ _ (by grind [Hid.out])⟩,HT.out _ _⟩
   |false=>
     rw[hd]at iz;go_enter func138,ntmps138;go_wp2;go_ret;exact⟨rfl,⟨mf,ml,l,HE.out _ _ (by grind [Hid.out])⟩,HT.out _ _⟩
 ·have et:d.tick=d:=by grind [Dsk.tick]
  rw[et];unfold Dsk.err;cases hd:d.dead with
  |true=>
    rw[hd]at iz;go_enter func138,ntmps138;go_wp2;go_ret;exact⟨rfl,⟨mf,ml,l,HD.out⟩,aG.refl _ _⟩
  |false=>
    rw[hd]at iz;go_enter func138,ntmps138;go_wp2;go_ret;exact⟨rfl,⟨mf,ml,l,HD.out⟩,aG.refl _ _⟩
end
section
open Go.RowKit Go.Maps Go.MapKept
open Go.ChangeMaps (setBlock heap_setBlock_same heap_setBlock_other)
theorem tW{w:World}{db:Nat}{o:au}{d:Dsk}(h:cI w db o d) :
 Calls prog 263 #[ptrTo db] w fun e w'=>e=.returned (.int .i64 (d.err:Int))/\w=w':=by
 obtain⟨mf,ml,l,h⟩:=h;obtain⟨⟨hc0,hc1,hc2,hc3,iz⟩,hf2,hf3,F9⟩:=h.head.cells;clear h;unfold ptrTo Dsk.err;cases hd:d.dead with
 |true=>
   rw[hd]at iz;go_enter func263,ntmps263;go_wp2;go_ret;simp
 |false=>
   rw[hd]at iz;go_enter func263,ntmps263;go_wp2;go_ret;simp
theorem xW(n:Nat)(w:World)(h':n<=1099511627776) :
 Calls prog 266 #[.int .i64 (n:Int)] w fun e w'=>e=.returned (.int .i64 (((n+63)/64:Nat):Int))/\w=w':=by
 go_enter func266,ntmps266;go_wp2;go_ret;refine⟨?_,rfl⟩;simp;omega
theorem Ew{s:Name}{j:Nat}(hj:j<s.data.toList.length)(h:jl s.data.toList[j]=false):bM s=false:=by
 grind [bM]
def Vj(s:Name)(j:Nat):Prop:=∀k(h:k<s.data.toList.length),k<j->jl s.data.toList[k]=true
theorem Vj.all{s:Name}(h:Vj s s.size):s.data.toList.all jl=true:=by
 rw[List.all_eq_true];intro b hb;obtain⟨k,hk,rfl⟩:=List.getElem_of_mem hb;exact h k hk (by assumption)
set_option linter.unusedSimpArgs false in
theorem rA(s:Name)(w:World)(hs:s.size<=1000) :
 Calls prog 199 #[.string s] w fun e w'=>e=.returned (.bool (bM s))/\Below w.heap.size w w':=by
 have hr:=ae (r7 w s hs);have hb:=ae (Joins.below_bytesWorld w.heap.size w 5 s (Nat.le_refl _));have hcv:=fun W=>Lib.run_convert_string_bytes (P:=prog) W 9 39 5 s Tryz.underlying9 Tryz.underlying39 Tryz.underlying5;go_enter func199,ntmps199;go_wp2;clear hcv;have hlen:s.data.toList.length=s.size:=by rfl
 have hl:=ae hlen;clear hlen;obtain⟨a,cap,hv,_,_,hc⟩:=hr.out;simp only[Value.slice.injEq]at hv;obtain⟨rfl,hv2,_⟩:=hv;have HC:=ae hc;clear hc hv2 hr;go_loop [8] (fun i=>∃j:Nat,j<=s.size/\i=.int .i64 j/\Vj s j) (fun i=>s.size-(intOf i).toNat)
 case atStart=>exact⟨0,af,rfl,fun k _ h=>by omega⟩
 case round=>
  obtain⟨j,hj,rfl,fe⟩:=hrel;by_cases hlt:j<s.size
  ·have lQ:j<s.data.toList.length:=by simp_all
   rcases HC.out with hc |⟨b,off,hbo,hc⟩
   ·omega
   simp only[Option.some.injEq,Addr.mk.injEq]at hbo;obtain⟨rfl,rfl,_⟩:=hbo;have hcell:=hc j lQ;rw[Nat.zero_add]at hcell;clear hc;unfold bv at hcell;have hby:=(s.data.toList[j]).toNat_lt;generalize hB:s.data.toList[j]=B at hcell hby
   have HB:=ae hB;clear hB;generalize hN:B.toNat=N at hcell hby
   have HN:=ae hN;clear hN;have Vk:Hid (jl B=false->bM s=false):=ae (fun h=>Ew lQ (by grind [Hid.out]));have QI:Hid (jl B=true->Vj s (j+1)):=ae (fun h k hk hkj=>by
    by_cases e:k=j
    ·grind [Hid.out]
    ·exact fe k hk af)
   have aoK:Hid (jl B=((decide (97<=N) && decide (N<=122)) || (decide (48<=N) && decide (N<=57)) || N == 46 || N == 45)):=ae (by grind [jl,Hid.out]);clear HB HN;go_wp2;all_goals first
    | (go_ret
       have hz:bM s=false:=Vk.out (by grind [Hid.out]);rw[hz];exact⟨rfl,hb.out⟩)
    | (go_round
       case rel=>
        refine⟨_,_,_,⟨j+1,af,?_,QI.out ?_⟩,rfl,rfl,rfl⟩
        ·go_num
        grind [Hid.out]
       grind [intOf])
  ·obtain rfl:j=s.size:=by omega
   have hall:=ae fe.all;clear fe;by_cases h1:1<=s.size
   ·by_cases h2:s.size<=24
    ·go_wp2;go_ret;refine⟨?_,hb.out⟩;unfold bM;rw[hall.out];simp[h1,h2];omega
    ·go_wp2;go_ret;refine⟨?_,hb.out⟩;unfold bM;rw[hall.out];simp[h1,h2];omega
   ·go_wp2;go_ret;refine⟨?_,hb.out⟩;unfold bM;simp_all
def jn(l:List (Name×(Nat×bT)))(name:Name)(fine:Bool):Value×Nat:=
 if bM name && fine then (match aB l name with | some x=>(ptrTo x.1,0) | none=>(.pointer none,3)) else (.pointer none,1)
theorem oI{w:World}{db mf ml:Nat}{o:au}{l:List (Name×(Nat×bT))}{d:Dsk}(h:cH w db o mf ml l d)(name:Name)(fine:Bool)(hs:name.size<=1000) :
 Calls prog 139 #[ptrTo db,.string name,.bool fine] w fun e w'=>e=.returned (.tuple #[(jn l name fine).1,.int .i64 ((jn l name fine).2:Int)])/\Below w.heap.size w w':=by
 have HD:=ae h;clear h;unfold ptrTo;cases fe:bM name with
 |false=>
   have e1:jn l name fine=(.pointer none,1):=by grind [jn]
   rw[e1];have P7:=ae fe;clear fe;go_enter func139,ntmps139;go_wp2_with fail;refine(rA _ _ hs).mono ?_;rintro e w1⟨rfl,hb1⟩;rw[P7.out];go_wp2;go_returns;simp_all
 |true=>
   have P7:=ae fe;cases fine with
   |false=>
     have e1:jn l name false=(.pointer none,1):=by grind [jn]
     rw[e1];clear fe;go_enter func139,ntmps139;go_wp2_with fail;refine(rA _ _ hs).mono ?_;rintro e w1⟨rfl,hb1⟩;rw[P7.out];go_wp2;go_returns;simp_all
   |true=>
     have hg:=qC (s:=name) (by grind [maxLen]);have hz:∀W:World,(zeroValue 109).run prog W=.ok (.pointer none) W:=fun W=>by rfl
     cases hm:aB l name with
     |none=>
       have e1:jn l name true=(.pointer none,3):=by grind [jn]
       rw[e1];have HM:=ae hm;clear hm fe e1;go_enter func139,ntmps139;go_wp2_with fail;refine(rA _ _ hs).mono ?_;rintro e w1⟨rfl,hb1⟩;rw[P7.out];have vG:=ae (HD.out.below hb1);obtain⟨⟨hc0,hc1,hc2,hc3,iz⟩,hf2,hf3,F9⟩:=vG.out.head.cells;go_wp2_with (at_lookup;refine bY _ rfl _ _ _ _ rfl 109 lr pC Tryz.underlying110 (hz _) mf l rfl vG.out.files name rfl hg ?_;rw[HM.out]);go_returns;simp_all
     |some x=>
       have e1:jn l name true=(ptrTo x.1,0):=by grind [jn]
       rw[e1];have HM:=ae hm;clear hm fe e1;go_enter func139,ntmps139;go_wp2_with fail;refine(rA _ _ hs).mono ?_;rintro e w1⟨rfl,hb1⟩;rw[P7.out];have vG:=ae (HD.out.below hb1);obtain⟨⟨hc0,hc1,hc2,hc3,iz⟩,hf2,hf3,F9⟩:=vG.out.head.cells;go_wp2_with (at_lookup;refine bY _ rfl _ _ _ _ rfl 109 lr pC Tryz.underlying110 (hz _) mf l rfl vG.out.files name rfl hg ?_;rw[HM.out];simp only[Option.map_some,Option.getD_some,ptrTo]);go_returns;exact⟨rfl,hb1⟩
namespace Dsk
def settle(d:Dsk)(name:Name):Dsk:={ d with loose:=d.loose.filter (fun p=>decide (p.1.1≠name)) }
end Dsk
def jo(L:List ((Name×Nat)×Unit))(name:Name)(m todo:List ((Name×Nat)×Unit)):Prop:=
 (∀p,p∈m↔p∈L/\(p.1.1≠name\/p∈todo))/\∀p∈todo,p∈L
theorem jo.struck{L m todo rs:List ((Name×Nat)×Unit)}{name:Name}{p:(Name×Nat)×Unit}(h:jo L name m todo)(hp:todo.Perm (p::rs))(hn:∀q∈rs,q.1≠p.1)(hpn:p.1.1=name):jo L name (bX m p.1) rs:=by
 refine⟨fun q=>?_,fun q hq=>h.2 q (hp.mem_iff.2 (by grind))⟩;rw[gF,h.1 q,hp.mem_iff,List.mem_cons];grind
theorem jo.passed{L m todo rs:List ((Name×Nat)×Unit)}{name:Name}{p:(Name×Nat)×Unit}(h:jo L name m todo)(hp:todo.Perm (p::rs))(hpn:p.1.1≠name):jo L name m rs:=by
 refine⟨fun q=>?_,fun q hq=>h.2 q (hp.mem_iff.2 (by grind))⟩;rw[h.1 q,hp.mem_iff,List.mem_cons];grind
theorem jo.done{L m:List ((Name×Nat)×Unit)}{name:Name}(h:jo L name m [])(hm:(m.map (·.1)).Nodup)(hl:(L.map (·.1)).Nodup):m.Perm (L.filter (fun p=>decide (p.1.1≠name))):=by
 have n1:m.Nodup:=List.Pairwise.of_map _ (fun _ _ h e=>h (by rw[e])) hm;have n2:L.Nodup:=List.Pairwise.of_map _ (fun _ _ h e=>h (by rw[e])) hl;refine(List.perm_ext_iff_of_nodup n1 (n2.filter _)).2 fun q=>?_;rw[h.1 q,List.mem_filter];simp
theorem cH.MN{w w':World}{db mf ml:Nat}{o:au}{l:List (Name×(Nat×bT))}{d:Dsk}(h:cH w db o mf ml l d)(ht:aG (·=ml) w w'){s:List ((Name×Nat)×Unit)}(hl:zP w' ml s):cH w' db o mf ml l { d with loose:=s } where
 Cg:=h.Cg
 Ch:=h.Ch
 Ci:=h.Ci
 head:=h.head.kept ht (au.ne h.Cg h.Ci ag)
 files:=h.files.turn ht (au.ne h.Ch h.Ci ag)
 strip:=h.strip
 apart:=h.apart
 each:=fun p hp=>(h.each p hp).kept ht (fun x t hx h3 _=>au.ne hx h.Ci (fun e=>by grind)) (fun _ _ h=>h)
 loose:=hl
 owned:=fun x t hx=>Nat.lt_of_lt_of_le (h.owned x t hx) ht.size
 ok:=⟨h.ok.bO,h.ok.dP,h.ok.used⟩
theorem zR{w:World}{db mf ml:Nat}{o:au}{l:List (Name×(Nat×bT))}{d:Dsk}(h:cH w db o mf ml l d)(name:Name) :
 Calls prog 140 #[ptrTo db,.string name,.func (.func 141) #[] #[]] w fun e w'=>e=.returned (.tuple #[])/\cH w' db o mf ml l (d.settle name)/\aG (·=ml) w w':=by
 have HD:=ae h;obtain⟨⟨hc0,hc1,hc2,hc3,iz⟩,hf2,hf3,F9⟩:=h.head.cells;clear h hc0 hc2 hc3 iz hf2 hf3 F9;unfold ptrTo;go_enter func140,ntmps140;go_wp2_with (at_range;refine pz _ rfl _ _ rfl 4 Tryz.underlying111 ml d.loose rfl HD.out.loose ?_;intro ob tK);go_frame
 go_loopw [] (fun wr=>∃m todo,cw prog 116 eD (fun _:Unit=>.bool true) wr ml w.heap.size m todo/\aG (·=ml) w wr/\jo d.loose name m todo) (fun wr=>wr.rangeLeft ml w.heap.size)
 case atStart=>exact⟨_,_,tK,(aG.refl _ _).alloc _,fun p=>⟨fun hp=>⟨hp,.inr hp⟩,fun hp=>hp.1⟩,fun p hp=>hp⟩
 case round=>
  obtain⟨m,todo,hi,ht,hs⟩:=hrel;go_wp2_with (at_next;refine pA _ rfl _ rfl ml w.heap.size m todo rfl hi ?_ ?_)
  ·rintro rfl;go_wp2;go_end0
   refine⟨rfl,HD.out.MN ht (hi.map.perm (hs.done hi.map.keys HD.out.loose.keys)),ht⟩
  ·intro nm n u rs w1 r9 hp pZ se hen;have mJ:aG (·=ml) w (setBlock w1 w.heap.size r9):=by
    grind [aG.setBlock,aG.drew]
   have zS:(setBlock w1 w.heap.size r9).cell? ⟨db,1,none⟩=some (.map (some ml)):=mJ.cell hc1 (au.ne HD.out.Cg HD.out.Ci ag);have hpt:((nm,n),u)∈todo:=hp.mem_iff.2 ai;have Qx:((nm,n),u)∈m:=(hs.1 _).2 ⟨hs.2 _ hpt,.inr hpt⟩;have QI:Hid (Good prog 116 (eD (nm,n))):=ae (hi.map.good _ Qx);have Kb:Hid (∀p∈rs,p.1≠(nm,n)):=ae (by
    have h1:=(hp.map (·.1)).nodup_iff.1 hi.keys;grind)
   clear hpt Qx;have HP:=ae hp;have HI:=ae hi;have HS:=ae hs;have HT:=ae mJ;have HL:=ae pZ;clear hp hi hs mJ pZ ht;unfold eD at hen;generalize hW:setBlock w1 w.heap.size r9=W at hen zS HT se;clear hW tK HL r9 w1;go_wp2
   ·rename_i heq
    obtain rfl:nm=name:=WideShapes.bytes_inj (by grind [ByteArray.toList_eq]);clear heq;have oJ:aG (·=ml) w (W.alloc (.cells #[.string nm,.int .i64 n] 116)):=HT.out.alloc _;have hlt:∀{b},b<W.heap.size->(W.alloc (.cells #[.string nm,.int .i64 n] 116)).heap[b]? = W.heap[b]? := fun h=>(MapKept.heap_alloc W _).2 _ h;have Dl:=se.kept (hlt se.map.lt) (hlt se.lt);have k0:(W.alloc (.cells #[.string nm,.int .i64 n] 116)).cell? ⟨W.heap.size,0,none⟩=some (.string nm):=by simp
    have k1:(W.alloc (.cells #[.string nm,.int .i64 n] 116)).cell? ⟨W.heap.size,1,none⟩=some (.int .i64 n):=by simp
    have k2:(W.alloc (.cells #[.string nm,.int .i64 n] 116)).cell? ⟨db,1,none⟩=some (.map (some ml)):=oJ.cell hc1 (au.ne HD.out.Cg HD.out.Ci ag);have aoL:=HI.out.left;clear se hlt;generalize hW2:W.alloc (.cells #[.string nm,.int .i64 n] 116)=W2 at oJ Dl k0 k1 k2 ⊢;generalize hX:W.heap.size=X at k0 k1 ⊢;clear hW2 hX hen zS HT;refine cr (fun w'=>∃n,w'=W2.drewN n) 5 (by rfl) ah ⟨1,rfl⟩ ?_;simp only[List.take_succ_cons,List.take_zero,List.drop_succ_cons,List.drop_zero];repeat go_big_quiet_step (fail)
    refine wpQuiet_nil ?_;rintro _⟨nq,rfl⟩;have hi3:cw prog 116 eD (fun _:Unit=>.bool true) (W2.drewN nq) ml w.heap.size m rs:=Dl.kept rfl rfl;clear Dl k0 k1 k2;go_wp2_with (at_delete;refine zI _ rfl _ _ 111 rfl 4 zO fM Tryz.underlying111 ml w.heap.size m rs rfl hi3 (nm,n) rfl QI.out Kb.out ?_;intro es clock xX;go_frame);go_roundw
    case rel=>exact⟨_,_,xX,(oJ.drewN nq).setBlock _ _ (.inl rfl),HS.out.struck HP.out Kb.out rfl⟩
    case measure=>
     have e1:=xX.left;have e2:=HP.out.length_eq;grind
   ·rename_i hne
    have hlt:∀{b},b<W.heap.size->(W.alloc (.cells #[.string nm,.int .i64 n] 116)).heap[b]? = W.heap[b]? := fun h=>(MapKept.heap_alloc W _).2 _ h;have Dl:=se.kept (hlt se.map.lt) (hlt se.lt);go_roundw
    case rel=>exact⟨_,_,Dl,HT.out.alloc _,HS.out.passed HP.out (fun e=>hne (congrArg ByteArray.toList e))⟩
    case measure=>
     have e1:=Dl.left;have e2:=HP.out.length_eq;rw[List.length_cons]at e2;rw[e1,HI.out.left];omega
def cy(w:World)(db:Nat)(o:au)(d':Dsk)(w':World):Prop:=
 ∃o',cI w' db o' d'/\aG (o.In pD) w w'/\cF w.heap.size o o'
theorem cy.of{w w':World}{db:Nat}{o:au}{d':Dsk}(h:cI w' db o d')(ht:aG (o.In pD) w w'):cy w db o d' w':=⟨o,h,ht,cF.refl _ _⟩
theorem jU{w:World}{db mf ml:Nat}{o:au}{l:List (Name×(Nat×bT))}{d:Dsk}(h:cH w db o mf ml l d)(name:Name)(fine:Bool) :
 ((bM name && fine)=false/\jn l name fine=(.pointer none,1)) \/
 ((bM name && fine)=true/\aB d.files name=none/\aB l name=none/\jn l name fine=(.pointer none,3)) \/
 ∃pf f,(bM name && fine)=true/\aB d.files name=some f/\aB l name=some (pf,f)/\jn l name fine=(.pointer (some ⟨pf,0,none⟩),0):=by
 have hg:aB d.files name=(aB l name).map (·.2):=by rw[<- h.strip];exact vX
 unfold jn;cases fe:(bM name && fine) with
 |false=>simp
 |true=>
   cases hm:aB l name with
   |none=>grind
   |some x=>exact .inr (.inr ⟨x.1,x.2,rfl,by grind,rfl,rfl⟩)
theorem cH.get{w:World}{db mf ml:Nat}{o:au}{l:List (Name×(Nat×bT))}{d:Dsk}(h:cH w db o mf ml l d){name:Name}{pf:Nat}{f:bT}(hg:aB l name=some (pf,f)):aB d.files name=some f:=by
 have e:aB (bare l) name=(aB l name).map (·.2):=vX;grind [strip,bare]
theorem cH.GD{w:World}{db mf ml:Nat}{o:au}{l:List (Name×(Nat×bT))}{d:Dsk}(h:cH w db o mf ml l d):(d.files.map (·.1)).Nodup:=by
 rw[<- h.strip,List.map_map];exact h.files.keys
theorem cH.XM{w:World}{db mf ml:Nat}{o:au}{l:List (Name×(Nat×bT))}{d:Dsk}(h:cH w db o mf ml l d):o.In pD ml:=⟨_,h.Ci,by show 2<6;decide⟩
namespace Dsk
def create(d:Dsk)(name:Name):Dsk×Nat:=
 if d.tick.dead then (d.tick,6) else if bM name=false then (d.tick,1) else if (aB d.files name).isSome then (d.tick,4) else ({ d.tick with files:=aS d.files name ⟨[],[]⟩ },0)
theorem dy(d:Dsk):d.tick.files=d.files:=by grind [tick]
theorem lT(d:Dsk):d.tick.loose=d.loose:=by grind [tick]
theorem sX(d:Dsk):d.tick.bO=d.bO:=by grind [tick]
end Dsk
theorem cH.Vl{w w1:World}{db mf ml:Nat}{o:au}{l:List (Name×(Nat×bT))}{d:Dsk}(h:cH w db o mf ml l d)(name:Name){t:TypeId}{ob:Obj}(hw:w1=setBlock (w.alloc (.cells #[.slice none 0 0,.slice none 0 0] t)) mf ob)(hf:FileMap w1 mf (aS l name (w.heap.size,⟨[],[]⟩))) :
 cH w1 db (o.set w.heap.size (3,0)) mf ml (aS l name (w.heap.size,⟨[],[]⟩)) { d with files:=aS d.files name ⟨[],[]⟩ }:=by
 have ht:aG (·=mf) w w1:=by
  rw[hw];exact((aG.refl (·=mf) w).alloc _).setBlock _ _ (.inl rfl)
 have Zi:mf<w.heap.size:=h.files.lt;have hN:∀x,o x=none\/x<w.heap.size:=fun x=>by
  cases hx:o x with
  |none=>simp
  |some t=>exact .inr (h.owned x t hx)
 have ho:∀x t,o x=some t->(o.set w.heap.size (3,0)) x=some t:=fun x t hx=>by
  grind [au.fg]
 have hsz:w.heap.size<w1.heap.size:=by
  rw[hw];simp[setBlock]
 have e1:aS d.files name ⟨[],[]⟩=(aS l name (w.heap.size,⟨[],[]⟩)).map (fun p=>(p.1,p.2.2)):=by
  rw[<- h.strip];exact(Dk (x:=(w.heap.size,(⟨[],[]⟩:bT)))).symm
 rw[e1];refine h.Ev ht (fun x hx=>.inl hx) ho hf ?_ ?_ ?_ (by rw[<- e1,jT];have:=r8 d.files name;have:=h.ok.used;grind [gG])
 ·unfold aS;rw[List.map_cons,List.nodup_cons];refine⟨fun hm=>?_,Kk h.apart⟩;obtain⟨q,hq,e⟩:=List.mem_map.1 hm;have:=h.owned _ _ (h.each q (gF.1 hq).1).own;grind
 ·intro p hp;rcases List.mem_cons.1 hp with rfl | hp
  ·refine⟨ai,⟨t,.slice none 0 0,.slice none 0 0,?_,ownsRow_nil _ _ _,fun b hb=>by grind [Value.ownBlock],ownsRow_nil _ _ _,fun b hb=>by grind [Value.ownBlock]⟩,ai⟩;grind [bg,heap_alloc_new]
  ·have Ga:=(gF.1 hp).1;exact(h.each p Ga).kept ht (fun x t hx h3 _=>au.ne hx h.Ch (fun e=>by grind)) ho
 grind [au.fg]
theorem Kl{w:World}{db:Nat}{o:au}{d:Dsk}(h:cI w db o d)(name:Name)(hs:name.size<=1000) :
 Calls prog 153 #[ptrTo db,.string name] w fun e w'=>e=.returned (.int .i64 ((d.create name).2:Int))/\cy w db o (d.create name).1 w':=by
 have H:=ae h;clear h;unfold ptrTo;cases hd:d.tick.dead with
 |true=>
   have e1:d.create name=(d.tick,6):=by grind [Dsk.create]
   have e2:d.tick.err=6:=by grind [Dsk.err]
   have E2:=ae e2;rw[e1];clear hd e1 e2;go_enter func153,ntmps153;go_wp2_with fail;refine(iY H.out).mono ?_;rintro e w1⟨rfl,mO,mJ⟩;rw[E2.out];go_wp2;go_ret;exact⟨rfl,.of mO mJ⟩
 |false=>
   have e2:d.tick.err=0:=by grind [Dsk.err]
   have E2:=ae e2;have vH:=ae hd;clear hd e2;go_enter func153,ntmps153;go_wp2_with fail;refine(iY H.out).mono ?_;rintro e w1⟨rfl,⟨mf,ml,l,mO⟩,mJ⟩;rw[E2.out];have vG:=ae mO;have QJ:=ae mJ;have Cc:=jU mO name true;rw[Dsk.dy]at Cc;clear mO mJ;go_wp2_with fail;refine(oI vG.out name true hs).mono ?_;rintro e w2⟨rfl,hb2⟩;have pn:=ae (vG.out.below hb2);have mP:=ae (QJ.out.bN hb2);clear hb2;rcases Cc with⟨q1,q2⟩|⟨q1,q2,q3,q4⟩|⟨pf,f,q1,q2,q3,q4⟩
   ·have e1:d.create name=(d.tick,1):=by
     grind [Dsk.create,Hid.out]
    rw[q2];have E1:=ae e1;clear e1 q2 q1;go_wp2;go_ret;rw[E1.out];exact⟨rfl,.of ⟨_,_,_,pn.out⟩ mP.out⟩
   ·have e1:d.create name=({ d.tick with files:=aS d.files name ⟨[],[]⟩ },0):=by
     grind [Dsk.create,Hid.out]
    rw[q4];have E1:=ae e1;have hg:=qC (s:=name) (by grind [maxLen]);clear e1 q4 q3 q2 q1;obtain⟨⟨hc0,hc1,hc2,hc3,iz⟩,hf2,hf3,F9⟩:=pn.out.head.cells;clear hc1 hc2 hc3 iz hf2 hf3 F9;have hfm:Hid (FileMap (w2.alloc (.cells #[.slice none 0 0,.slice none 0 0] 108)) mf l):=ae (pn.out.files.kept ((MapKept.heap_alloc _ _).2 _ pn.out.files.lt));go_wp2_with (at_mapUpdate;refine eL _ rfl _ _ _ _ rfl 109 lr pC Tryz.underlying110 mf l rfl hfm.out name (w2.heap.size,⟨[],[]⟩) rfl rfl hg ?_;intro es clock hm;have HM:=ae hm;clear hm);go_ret;rw[E1.out];have hN:=pn.out.Vl name rfl HM.out;rw[Dsk.dy]at hN;exact⟨rfl,_,⟨_,_,_,hN⟩,(mP.out.alloc _).setBlock _ _ (.inl ⟨_,pn.out.Ch,by show 1<6;decide⟩),(cF.refl _ _).set mP.out.size _⟩
   ·have e1:d.create name=(d.tick,4):=by
     grind [Dsk.create,Hid.out]
    rw[q4];have E1:=ae e1;clear e1 q4 q3 q2 q1;go_wp2;go_ret;rw[E1.out];exact⟨rfl,.of ⟨_,_,_,pn.out⟩ mP.out⟩
namespace Dsk
def remove(d:Dsk)(name:Name):Dsk×Nat:=
 if d.tick.dead then (d.tick,6) else if bM name=false then (d.tick,1) else match aB d.files name with
  |none=>(d.tick,3)
  |some _=>({ d.tick with files:=bX d.files name,loose:=d.loose.filter (fun p=>decide (p.1.1≠name)) },0)
def sync(d:Dsk)(name:Name):Dsk×Nat:=
 if d.tick.dead then (d.tick,6) else if bM name=false then (d.tick,1) else match aB d.files name with
  |none=>(d.tick,3)
  |some f=>({ d.tick with files:=aS d.files name ⟨f.now,f.now⟩,loose:=d.loose.filter (fun p=>decide (p.1.1≠name)) },0)
end Dsk
theorem cH.QK{w w1:World}{db mf ml:Nat}{o:au}{l:List (Name×(Nat×bT))}{d:Dsk}(h:cH w db o mf ml l d)(name:Name){ob:Obj}(hw:w1=setBlock w mf ob)(hf:FileMap w1 mf (bX l name)):cH w1 db o mf ml (bX l name) { d with files:=bX d.files name }:=by
 have ht:aG (·=mf) w w1:=by
  rw[hw];exact(aG.refl (·=mf) w).setBlock _ _ (.inl rfl)
 have e1:bX d.files name=(bX l name).map (fun p=>(p.1,p.2.2)):=by
  rw[<- h.strip];exact Dj.symm
 rw[e1];refine h.Ev ht (fun x hx=>.inl hx) (fun _ _ h=>h) hf (Kk h.apart) ?_ (fun x t hx=>Nat.lt_of_lt_of_le (h.owned x t hx) ht.size) (by rw[<- e1];exact Nat.le_trans (r8 _ _) h.ok.used);intro p hp;exact(h.each p (gF.1 hp).1).kept ht (fun x t hx h3 _=>au.ne hx h.Ch (fun e=>by grind)) (fun _ _ h=>h)
theorem Km{w:World}{db:Nat}{o:au}{d:Dsk}(h:cI w db o d)(name:Name)(hs:name.size<=1000) :
 Calls prog 96 #[ptrTo db,.string name] w fun e w'=>e=.returned (.int .i64 ((d.remove name).2:Int))/\cy w db o (d.remove name).1 w':=by
 have H:=ae h;clear h;unfold ptrTo;cases hd:d.tick.dead with
 |true=>
   have e1:d.remove name=(d.tick,6):=by grind [Dsk.remove]
   have e2:d.tick.err=6:=by grind [Dsk.err]
   have E2:=ae e2;rw[e1];clear hd e1 e2;go_enter func96,ntmps96;go_wp2_with fail;refine(iY H.out).mono ?_;rintro e w1⟨rfl,mO,mJ⟩;rw[E2.out];go_wp2;go_ret;exact⟨rfl,.of mO mJ⟩
 |false=>
   have e2:d.tick.err=0:=by grind [Dsk.err]
   have E2:=ae e2;have vH:=ae hd;clear hd e2;go_enter func96,ntmps96;go_wp2_with fail;refine(iY H.out).mono ?_;rintro e w1⟨rfl,⟨mf,ml,l,mO⟩,mJ⟩;rw[E2.out];have vG:=ae mO;have QJ:=ae mJ;have Cc:=jU mO name true;rw[Dsk.dy]at Cc;clear mO mJ;go_wp2_with fail;refine(oI vG.out name true hs).mono ?_;rintro e w2⟨rfl,hb2⟩;have pn:=ae (vG.out.below hb2);have mP:=ae (QJ.out.bN hb2);clear hb2;rcases Cc with⟨q1,q2⟩|⟨q1,q2,q3,q4⟩|⟨pf,f,q1,q2,q3,q4⟩
   ·have e1:d.remove name=(d.tick,1):=by
     grind [Dsk.remove,Hid.out]
    rw[q2];have E1:=ae e1;clear e1 q2 q1;go_wp2;go_ret;rw[E1.out];exact⟨rfl,.of ⟨_,_,_,pn.out⟩ mP.out⟩
   ·have e1:d.remove name=(d.tick,3):=by
     grind [Dsk.remove,Hid.out]
    rw[q4];have E1:=ae e1;clear e1 q4 q3 q2 q1;go_wp2;go_ret;rw[E1.out];exact⟨rfl,.of ⟨_,_,_,pn.out⟩ mP.out⟩
   ·have e1:d.remove name=({ d.tick with files:=bX d.files name,loose:=d.loose.filter (fun p=>decide (p.1.1≠name)) },0):=by
     grind [Dsk.remove,Hid.out]
    rw[q4];have E1:=ae e1;have hg:=qC (s:=name) (by grind [maxLen]);clear e1 q4 q3 q2 q1;obtain⟨⟨hc0,hc1,hc2,hc3,iz⟩,hf2,hf3,F9⟩:=pn.out.head.cells;clear hc1 hc2 hc3 iz hf2 hf3 F9;go_wp2_with (at_delete;refine sR _ rfl _ _ _ rfl 109 lr pC Tryz.underlying110 mf l rfl pn.out.files name rfl hg ?_;intro es clock hm;have HM:=ae hm;clear hm);have MO:=ae (pn.out.QK name rfl HM.out);have rB:=ae (mP.out.setBlock mf (.map es clock) (.inl ⟨_,pn.out.Ch,by show 1<6;decide⟩));clear HM hc0;refine(zR MO.out name).mono ?_;rintro e w4⟨rfl,P3,tX⟩;have QL:=ae P3;have vI:=ae (rB.out.trans tX (fun x _ e=>e▸MO.out.XM));clear P3 tX;go_wp2;go_ret;rw[E1.out];have hN:=QL.out;unfold Dsk.settle at hN;dsimp only at hN;rw[Dsk.dy,Dsk.lT]at hN;exact⟨rfl,.of ⟨_,_,_,hN⟩ vI.out⟩
def lU(o:au)(pf x:Nat):Prop:=x=pf\/o x=some (4,pf)\/o x=some (5,pf)
theorem lU.in{o:au}{pf x:Nat}(h:lU o pf x)(hp:o pf=some (3,0)):o.In pD x:=by
 rcases h with rfl | h | h
 ·exact⟨_,hp,by show 3<6;decide⟩
 ·exact⟨_,h,by show 4<6;decide⟩
 ·exact⟨_,h,by show 5<6;decide⟩
theorem cH.Kn{w w':World}{db mf ml:Nat}{o o':au}{l:List (Name×(Nat×bT))}{d:Dsk}(h:cH w db o mf ml l d){name:Name}{pf:Nat}{f f':bT}(hg:aB l name=some (pf,f))(ht:aG (lU o pf) w w')(ho:∀x t,o x=some t->o' x=some t)(hf:dw w' o' pf f')(zQ:∀x t,o' x=some t->x<w'.heap.size)(GC:er (aS d.files name f')<=1048576) :
 cH w' db o' mf ml (aS l name (pf,f')) { d with files:=aS d.files name f' }:=by
 have hown:=(h.each _ (eK hg)).own;have e1:aS d.files name f'=(aS l name (pf,f')).map (fun p=>(p.1,p.2.2)):=by
  rw[<- h.strip];exact(Dk (x:=(pf,f'))).symm
 rw[e1];have Zi:¬lU o pf mf:=by
  rintro(e | e | e)
  ·grind [Ch]
  ·grind [Ch]
  grind [Ch]
 refine h.Ev ht (fun x hx=>.inr ?_) ho ?_ (Zh h.apart hg f') ?_ zQ (by grind)
 ·rcases hx with rfl | hx | hx
  ·grind
  ·grind
  grind
 ·have h1:FileMap w mf (aS l name (pf,f)):=h.files.perm (N1 h.files.keys hg).symm;exact(h1.acZ (m':=aS l name (pf,f')) rfl).turn ht Zi
 ·intro p hp;rcases List.mem_cons.1 hp with rfl | hp
  ·exact hf
  ·obtain⟨Ga,hne⟩:=gF.1 hp;have Ko:p.2.1≠pf:=fun e=>hne (by rw[QH h.apart Ga (eK hg) e]);have Cj:=(h.each p Ga).own;refine(h.each p Ga).kept' ht ?_ ?_ ?_ ho
   ·rintro(e | e | e)
    ·omega
    ·grind
    grind
   ·rintro x hx (e | e | e)
    ·grind
    ·grind
    grind
   ·rintro x hx (e | e | e)
    ·grind
    ·grind
    grind
theorem dw.cells{w:World}{o:au}{pf:Nat}{f:bT}(h:dw w o pf f):∃v u,(w.cell? ⟨pf,0,none⟩=some v/\w.cell? ⟨pf,1,none⟩=some u)/\(w.frozen? ⟨pf,0,none⟩=false/\w.frozen? ⟨pf,1,none⟩=false) /\
 w.ownsRow 0 5 1 v f.now.length (f.now.map bv)/\(∀b,v.ownBlock=some b->o b=some (4,pf))/\w.ownsRow 0 5 1 u f.gZ.length (f.gZ.map bv)/\∀b,u.ownBlock=some b->o b=some (5,pf):=by
 obtain⟨_,⟨t,v,u,h2,h3⟩,_⟩:=h;exact⟨v,u,⟨by rw[ar h2];rfl,by rw[ar h2];rfl⟩,⟨aO h2 _,aO h2 _⟩,h3⟩
theorem aA{w:World}{base:Nat}{e:TypeId}{size:Nat}{v:Value}{n:Nat}{xs:List Value}(h:w.ownsRow base e size v n xs):∃a cap,v=.slice a n cap:=by
 obtain⟨_,h⟩:=h;grind
theorem eM{o:au}{n b:Nat}(ho:∀x t,o x=some t->x<n)(hb:n<=b):o b=none:=by
 cases h:o b with
 |none=>rfl
 |some t=>grind
theorem aL{w:World}{base:Nat}{e:TypeId}{size:Nat}{v:Value}{n:Nat}{xs:List Value}(h:w.ownsRow base e size v n xs):∀b,v.ownBlock=some b->b<w.heap.size/\base<=b:=by
 rintro b hb;obtain⟨_,h⟩:=h;rcases h with⟨rfl,_⟩|⟨g,cap,cur,rfl,hg,hh,_⟩
 ·cases hb
 ·cases hb;grind
def au.put(o:au)(v:Value)(t:Tag):au:=match v.ownBlock with | some b=>o.set b t | none=>o
theorem au.zT{o:au}{v:Value}{t:Tag}{b:Nat}(h:v.ownBlock=some b):(o.put v t) b=some t:=by
 unfold au.put;simp_all
theorem au.tY{o:au}{v:Value}{t:Tag}{n:Nat}(h:∀b,v.ownBlock=some b->n<=b):cF n o (o.put v t):=by
 intro x hx;unfold au.put;cases hv:v.ownBlock with
 |none=>rfl
 |some b=>grind [au.fg]
theorem au.tZ{o:au}{v:Value}{s:Tag}(hb:∀b,v.ownBlock=some b->o b=none):∀x r,o x=some r->(o.put v s) x=some r:=fun x r hx=>by
 unfold au.put;cases e:v.ownBlock with
 |none=>exact hx
 |some b=>
   grind [au.fg]
theorem au.vY{o:au}{v:Value}{t:Tag}{n:Nat}(ho:∀x t,o x=some t->x<n)(h:∀b,v.ownBlock=some b->b<n):∀x s,(o.put v t) x=some s->x<n:=by
 intro x s hx;unfold au.put at hx;cases hv:v.ownBlock with
 |none=>rw[hv]at hx;grind
 |some b=>
   rw[hv]at hx;grind [au.fg]
theorem dw.store{w:World}{o:au}{pf:Nat}{f:bT}(h:dw w o pf f){v:Value}{bs:List UInt8}{base:Nat}(hv:w.ownsRow base 5 1 v bs.length (bs.map bv))(hb:∀b,v.ownBlock=some b->o b=none)(hl:bs.length<=16777216) :
 dw (w.setCell ⟨pf,0,none⟩ v) (o.put v (4,pf)) pf { f with now:=bs }/\dw (w.setCell ⟨pf,1,none⟩ v) (o.put v (5,pf)) pf { f with gZ:=bs }:=by
 obtain⟨h1,⟨t,a,c,h2,h3,h4,h5,h6⟩,h7⟩:=h;have hne:∀b,v.ownBlock=some b->b≠pf:=fun b h e=>by
  grind
 have hold:∀(s:Tag)x r,o x=some r->(o.put v s) x=some r:=fun s=>au.tZ hb;have hrow:∀(i:Nat)(u z:Value)(xs:List Value)(n base:Nat),w.ownsRow base 5 1 z n xs->(∀b,z.ownBlock=some b->b≠pf)->(w.setCell ⟨pf,i,none⟩ u).ownsRow 0 5 1 z n xs:=fun i u z xs n base hz hn=>by
  have ht:aG (·=pf) w (w.setCell ⟨pf,i,none⟩ u):=(aG.refl (·=pf) w).setCell _ _ (.inl rfl);grind [aU,aG.ownsRow]
 have ahY:∀b,a.ownBlock=some b->b≠pf:=fun b hb e=>by grind
 have ahZ:∀b,c.ownBlock=some b->b≠pf:=fun b hb e=>by grind
 refine⟨⟨hold _ _ _ h1,⟨t,v,c,?_,hrow _ _ _ _ _ _ hv hne,fun b hb=>au.zT hb,hrow _ _ _ _ _ _ h5 ahZ,fun b hb=>hold _ _ _ (h6 b hb)⟩,hl,h7.2⟩,
  ⟨hold _ _ _ h1,⟨t,a,v,?_,hrow _ _ _ _ _ _ h3 ahY,fun b hb=>hold _ _ _ (h4 b hb),hrow _ _ _ _ _ _ hv hne,fun b hb=>au.zT hb⟩,h7.1,hl⟩⟩
 ·rw[aT h2];rfl
 ·rw[aT h2];rfl
theorem QM{w:World}{db:Nat}{o:au}{d:Dsk}(h:cI w db o d)(name:Name)(hs:name.size<=1000) :
 Calls prog 185 #[ptrTo db,.string name] w fun e w'=>e=.returned (.int .i64 ((d.sync name).2:Int))/\cy w db o (d.sync name).1 w':=by
 have H:=ae h;clear h;unfold ptrTo;cases hd:d.tick.dead with
 |true=>
   have e1:d.sync name=(d.tick,6):=by grind [Dsk.sync]
   have e2:d.tick.err=6:=by grind [Dsk.err]
   have E2:=ae e2;rw[e1];clear hd e1 e2;go_enter func185,ntmps185;go_wp2_with fail;refine(iY H.out).mono ?_;rintro e w1⟨rfl,mO,mJ⟩;rw[E2.out];go_wp2;go_ret;exact⟨rfl,.of mO mJ⟩
 |false=>
   have e2:d.tick.err=0:=by grind [Dsk.err]
   have E2:=ae e2;have vH:=ae hd;clear hd e2;go_enter func185,ntmps185;go_wp2_with fail;refine(iY H.out).mono ?_;rintro e w1⟨rfl,⟨mf,ml,l,mO⟩,mJ⟩;rw[E2.out];have vG:=ae mO;have QJ:=ae mJ;have Cc:=jU mO name true;rw[Dsk.dy]at Cc;clear mO mJ;go_wp2_with fail;refine(oI vG.out name true hs).mono ?_;rintro e w2⟨rfl,hb2⟩;have pn:=ae (vG.out.below hb2);have mP:=ae (QJ.out.bN hb2);clear hb2;rcases Cc with⟨q1,q2⟩|⟨q1,q2,q3,q4⟩|⟨pf,f,q1,q2,q3,q4⟩
   ·have e1:d.sync name=(d.tick,1):=by
     grind [Dsk.sync,Hid.out]
    rw[q2];have E1:=ae e1;clear e1 q2 q1;go_wp2;go_ret;rw[E1.out];exact⟨rfl,.of ⟨_,_,_,pn.out⟩ mP.out⟩
   ·have e1:d.sync name=(d.tick,3):=by
     grind [Dsk.sync,Hid.out]
    rw[q4];have E1:=ae e1;clear e1 q4 q3 q2 q1;go_wp2;go_ret;rw[E1.out];exact⟨rfl,.of ⟨_,_,_,pn.out⟩ mP.out⟩
   ·have e1:d.sync name=({ d.tick with files:=aS d.files name ⟨f.now,f.now⟩,loose:=d.loose.filter (fun p=>decide (p.1.1≠name)) },0):=by
     grind [Dsk.sync,Hid.out]
    rw[q4];have E1:=ae e1;have Dm:=pn.out.each _ (eK q3);have HQ:=ae q3;clear e1 q4 q3 q2 q1;obtain⟨v,u,⟨QN,zU⟩,⟨hz0,hz1⟩,hrow,hown,-,-⟩:=Dm.cells;have GF:=ae hrow;have jq:=ae Dm.most.1;clear hrow hown Dm zU;go_wp2_with fail;refine(fX v f.now _ (fH GF.out) (by grind [Hid.out])).mono ?_;rintro e w3⟨v3,rfl,iW,hb3⟩;have MO:=ae (pn.out.below hb3);have rB:=ae (mP.out.bN hb3);have Zj:=MO.out.each _ (eK HQ.out);have ac1:=ae Zj;obtain⟨v4,u4,⟨-,zU⟩,⟨-,ko⟩,-⟩:=Zj.cells;clear Zj;obtain⟨a3,c3,rfl⟩:=aA iW;have mQ:=ae iW;clear iW hb3;go_wp2_with fail;have Ex:∀b,(Value.slice a3 f.now.length c3).ownBlock=some b->o b=none:=fun b hb=>eM pn.out.owned (aL mQ.out b hb).2;have QL:=ae (MO.out.Kn HQ.out ((aG.refl (lU o pf) w3).setCell ⟨pf,1,none⟩ (.slice a3 f.now.length c3) (.inl (.inl rfl))) (o':=o.put (.slice a3 f.now.length c3) (5,pf))
     (au.tZ Ex)
     (ac1.out.store mQ.out Ex jq.out).2 (fun x t hx=>by
       have:=au.vY MO.out.owned (fun b hb=>(aL mQ.out b hb).1) x t hx;simp_all) (by
       have h1:=sW MO.out.GD (MO.out.get HQ.out);rw[jT];have h2:=MO.out.ok.used;grind))
    have vI:=ae (rB.out.setCell ⟨pf,1,none⟩ (.slice a3 f.now.length c3) (.inl (lU.in (.inl rfl) ac1.out.own)));have HG:=ae (au.tY (o:=o) (t:=(5,pf)) (n:=w.heap.size) (fun b hb=>Nat.le_trans mP.out.size (aL mQ.out b hb).2));refine(zR QL.out name).mono ?_;rintro e w5⟨rfl,Zk,rU⟩;have HD5:=ae Zk;have Ey:=ae (vI.out.trans rU (fun x _ e=>e▸MO.out.XM));clear Zk rU;go_wp2;go_ret;rw[E1.out];have hN:=HD5.out;unfold Dsk.settle at hN;dsimp only at hN;rw[Dsk.dy,Dsk.lT]at hN;exact⟨rfl,_,⟨_,_,_,hN⟩,Ey.out,HG.out⟩
namespace Dsk
def sizeOf(d:Dsk)(name:Name):Nat×Nat:=
 if d.dead then (0,6) else if bM name=false then (0,1) else match aB d.files name with
  |none=>(0,3)
  |some f=>(f.now.length,0)
def read(d:Dsk)(name:Name)(off n:Nat):List UInt8×Nat:=
 if d.dead then ([],6) else if bM name=false then ([],1) else match aB d.files name with
  |none=>([],3)
  |some f=>((f.now.drop off).take n,0)
end Dsk
theorem GG{w:World}{db:Nat}{o:au}{d:Dsk}(h:cI w db o d)(name:Name)(hs:name.size<=1000) :
 Calls prog 228 #[ptrTo db,.string name] w fun e w'=>e=.returned (.tuple #[.int .i64 ((d.sizeOf name).1:Int),.int .i64 ((d.sizeOf name).2:Int)])/\Below w.heap.size w w':=by
 have H:=ae h;obtain⟨mf,ml,l,mO⟩:=h;have vG:=ae mO;have Cc:=jU mO name true;clear mO;unfold ptrTo;cases hd:d.dead with
 |true=>
   have e1:d.sizeOf name=(0,6):=by unfold Dsk.sizeOf;rw[hd];rfl
   have e2:d.err=6:=by unfold Dsk.err;rw[hd];rfl
   have E2:=ae e2;rw[e1];clear hd e1 e2 Cc;go_enter func228,ntmps228;go_wp2_with fail;refine(tW H.out).mono ?_;rintro e w1⟨rfl,rfl⟩;rw[E2.out];go_wp2;go_returns;exact⟨rfl,Below.refl _ _⟩
 |false=>
   have e2:d.err=0:=by unfold Dsk.err;rw[hd];rfl
   have E2:=ae e2;have vH:=ae hd;clear hd e2;go_enter func228,ntmps228;go_wp2_with fail;refine(tW H.out).mono ?_;rintro e w1⟨rfl,rfl⟩;rw[E2.out];go_wp2_with fail;refine(oI vG.out name true hs).mono ?_;rintro e w2⟨rfl,hb2⟩;have cY:=ae hb2;have pn:=ae (vG.out.below hb2);clear hb2;rcases Cc with⟨q1,q2⟩|⟨q1,q2,q3,q4⟩|⟨pf,f,q1,q2,q3,q4⟩
   ·have e1:d.sizeOf name=(0,1):=by
     unfold Dsk.sizeOf;rw[vH.out];rw[Bool.and_true]at q1;rw[q1];rfl
    rw[q2];have E1:=ae e1;clear e1 q2 q1;go_wp2;go_returns;rw[E1.out];exact⟨rfl,cY.out⟩
   ·have e1:d.sizeOf name=(0,3):=by
     unfold Dsk.sizeOf;rw[vH.out];rw[Bool.and_true]at q1;rw[q1,q2];rfl
    rw[q4];have E1:=ae e1;clear e1 q4 q3 q2 q1;go_wp2;go_returns;rw[E1.out];exact⟨rfl,cY.out⟩
   ·have e1:d.sizeOf name=(f.now.length,0):=by
     unfold Dsk.sizeOf;rw[vH.out];rw[Bool.and_true]at q1;rw[q1,q2];rfl
    rw[q4];have E1:=ae e1;have Dm:dw w2 o pf f:=pn.out.each _ (eK q3);clear e1 q4 q3 q2 q1;obtain⟨v,u,⟨QN,-⟩,-,hrow,-⟩:=Dm.cells;have jq:=Dm.most.1;obtain⟨a,c,rfl⟩:=aA hrow;have GF:=ae hrow;clear hrow Dm;go_wp2;go_returns;rw[E1.out];exact⟨rfl,cY.out⟩
def GH(w:World)(r:List UInt8×Nat)(e:Ending)(w':World):Prop:=
 ∃v,e=.returned (.tuple #[v,.int .i64 (r.2:Int)])/\w'.ownsRow w.heap.size 5 1 v r.1.length (r.1.map bv)/\Below w.heap.size w w'
theorem QO{w:World}{db:Nat}{o:au}{d:Dsk}(h:cI w db o d)(name:Name)(hs:name.size<=1000)(off n:Nat)(hn:n<=1099511627776) :
 Calls prog 237 #[ptrTo db,.string name,.int .i64 (off:Int),.int .i64 (n:Int)] w (GH w (d.read name off n)):=by
 have H:=ae h;obtain⟨mf,ml,l,mO⟩:=h;have vG:=ae mO;have Cc:=jU mO name true;clear mO;unfold ptrTo;cases hd:d.dead with
 |true=>
   have e1:d.read name off n=([],6):=by unfold Dsk.read;rw[hd];rfl
   have e2:d.err=6:=by unfold Dsk.err;rw[hd];rfl
   have E2:=ae e2;rw[e1];clear hd e1 e2 Cc;go_enter func237,ntmps237;go_wp2_with fail;refine(tW H.out).mono ?_;rintro e w1⟨rfl,rfl⟩;rw[E2.out];go_wp2;go_returns;exact⟨_,rfl,ownsRow_nil _ _ _,Below.refl _ _⟩
 |false=>
   have e2:d.err=0:=by unfold Dsk.err;rw[hd];rfl
   have E2:=ae e2;have vH:=ae hd;clear hd e2;go_enter func237,ntmps237;go_wp2_with fail;refine(tW H.out).mono ?_;rintro e w1⟨rfl,rfl⟩;rw[E2.out];go_wp2_with fail;refine(oI vG.out name true hs).mono ?_;rintro e w2⟨rfl,hb2⟩;have cY:=ae hb2;have pn:=ae (vG.out.below hb2);clear hb2;rcases Cc with⟨q1,q2⟩|⟨q1,q2,q3,q4⟩|⟨pf,f,q1,q2,q3,q4⟩
   ·have e1:d.read name off n=([],1):=by
     unfold Dsk.read;rw[vH.out];rw[Bool.and_true]at q1;rw[q1];rfl
    rw[q2];have E1:=ae e1;clear e1 q2 q1;go_wp2;go_returns;rw[E1.out];exact⟨_,rfl,ownsRow_nil _ _ _,cY.out⟩
   ·have e1:d.read name off n=([],3):=by
     unfold Dsk.read;rw[vH.out];rw[Bool.and_true]at q1;rw[q1,q2];rfl
    rw[q4];have E1:=ae e1;clear e1 q4 q3 q2 q1;go_wp2;go_returns;rw[E1.out];exact⟨_,rfl,ownsRow_nil _ _ _,cY.out⟩
   ·have e1:d.read name off n=((f.now.drop off).take n,0):=by
     unfold Dsk.read;rw[vH.out];rw[Bool.and_true]at q1;rw[q1,q2];rfl
    rw[q4];have E1:=ae e1;have Dm:dw w2 o pf f:=pn.out.each _ (eK q3);clear e1 q4 q3 q2 q1;obtain⟨v,u,⟨QN,-⟩,-,hrow,-⟩:=Dm.cells;have jq:=Dm.most.1;have BP:=fH hrow;obtain⟨a,cap,rfl,hlc,hcm,hc⟩:=id BP;have MP:=ae BP;unfold maxLen at hcm;clear hrow Dm hc BP;by_cases JQ:off<=f.now.length
    ·by_cases hnn:n<=f.now.length-off
     ·skip
      have hA:=ae (fun nq(e:cap=off)=>((((MP.out.drewN nq).from (k:=off) af).1 e).to (k:=n) (by rw[List.length_drop];omega)));have hB:=ae (fun nq=>((((MP.out.drewN nq).from (k:=off) af).2).to (k:=n) (by rw[List.length_drop];omega)));go_wp2_with fail;go_quiet (fail)
      go_wp2_with fail;all_goals
       refine(fX _ ((f.now.drop off).take n) _ (by first | exact hB.out _ | exact hA.out _ rfl | exact hA.out _ (by assumption) | (rw[QP];first | exact hB.out _ | exact hA.out _ rfl | exact hA.out _ (by assumption))) (by rw[List.length_take,List.length_drop];omega)).mono ?_;rintro e w3⟨v3,rfl,iW,hb3⟩;have mQ:=ae iW;have jJ:Hid (Below w2.heap.size w2 w3):=ae ⟨hb3.os,hb3.tape,hb3.output,hb3.size,hb3.block⟩;clear iW hb3;go_wp2_with fail;go_returns;rw[E1.out];exact⟨_,rfl,aU mQ.out cY.out.size,cY.out.trans (jJ.out.mono cY.out.size)⟩
     ·skip
      have Zl:(f.now.drop off).take n=(f.now.drop off).take (f.now.length-off):=by
       rw[List.take_of_length_le (by rw[List.length_drop];omega),List.take_of_length_le (by rw[List.length_drop];omega)]
      have EQ2:=ae Zl;clear Zl;have hA:=ae (fun nq(e:cap=off)=>((((MP.out.drewN nq).from (k:=off) af).1 e).to (k:=(f.now.length-off)) (by rw[List.length_drop];omega)));have hB:=ae (fun nq=>((((MP.out.drewN nq).from (k:=off) af).2).to (k:=(f.now.length-off)) (by rw[List.length_drop];omega)));go_wp2_with fail;go_quiet (fail)
      go_wp2_with fail;all_goals
       refine(fX _ ((f.now.drop off).take (f.now.length-off)) _ (by first | exact hB.out _ | exact hA.out _ rfl | exact hA.out _ (by assumption) | (rw[QP];first | exact hB.out _ | exact hA.out _ rfl | exact hA.out _ (by assumption))) (by rw[List.length_take,List.length_drop];omega)).mono ?_;rintro e w3⟨v3,rfl,iW,hb3⟩;have mQ:=ae iW;have jJ:Hid (Below w2.heap.size w2 w3):=ae ⟨hb3.os,hb3.tape,hb3.output,hb3.size,hb3.block⟩;clear iW hb3;go_wp2_with fail;go_returns;rw[E1.out];rw[EQ2.out];exact⟨_,rfl,aU mQ.out cY.out.size,cY.out.trans (jJ.out.mono cY.out.size)⟩
    ·rcases Nat.eq_zero_or_pos n with QP | QP;all_goals
      have Zl:(f.now.drop off).take n=(f.now.drop f.now.length).take 0:=by
       rw[List.drop_of_length_le af];simp
      have EQ2:=ae Zl;clear Zl;have hA:=ae (fun nq(e:cap=f.now.length)=>((((MP.out.drewN nq).from (k:=f.now.length) af).1 e).to (k:=0) (by rw[List.length_drop];omega)));have hB:=ae (fun nq=>((((MP.out.drewN nq).from (k:=f.now.length) af).2).to (k:=0) (by rw[List.length_drop];omega)));go_wp2_with fail;go_quiet (fail)
      go_wp2_with fail;all_goals
       refine(fX _ ((f.now.drop f.now.length).take 0) _ (by first | exact hB.out _ | exact hA.out _ rfl | exact hA.out _ (by assumption) | (rw[QP];first | exact hB.out _ | exact hA.out _ rfl | exact hA.out _ (by assumption))) (by rw[List.length_take,List.length_drop];omega)).mono ?_;rintro e w3⟨v3,rfl,iW,hb3⟩;have mQ:=ae iW;have jJ:Hid (Below w2.heap.size w2 w3):=ae ⟨hb3.os,hb3.tape,hb3.output,hb3.size,hb3.block⟩;clear iW hb3;go_wp2_with fail;go_returns;rw[E1.out];rw[EQ2.out];exact⟨_,rfl,aU mQ.out cY.out.size,cY.out.trans (jJ.out.mono cY.out.size)⟩
def kS(l:List (Name×(Nat×bT))):Nat:=(l.map (fun p=>gG p.2.2.now.length)).sum
theorem GI{a b:List (Name×(Nat×bT))}(h:a.Perm b):kS a=kS b:=(h.map _).sum_nat
theorem cH.kS{w:World}{db mf ml:Nat}{o:au}{l:List (Name×(Nat×bT))}{d:Dsk}(h:cH w db o mf ml l d):kS l=er d.files:=by
 rw[<- h.strip];unfold er Proofs.YthkkgdpomhhjjaaGreatDoor.kS;rw[List.map_map];rfl
theorem QQ{w:World}{db:Nat}{o:au}{d:Dsk}(h:cI w db o d) :
 Calls prog 267 #[ptrTo db] w fun e w'=>e=.returned (.int .i64 (er d.files:Int))/\Below w.heap.size w w':=by
 obtain⟨mf,ml,l,h⟩:=h;have HD:=ae h;have hu:=h.kS;have Zm:=h.ok.used;rw[<- hu]at Zm ⊢;have ah1:=ae Zm;clear hu Zm;obtain⟨⟨hc0,hc1,hc2,hc3,iz⟩,hf2,hf3,F9⟩:=h.head.cells;clear h hc1 hc2 hc3 iz hf2 hf3 F9;unfold ptrTo;go_enter func267,ntmps267;go_wp2_with (at_range;refine pz _ rfl _ _ rfl 109 Tryz.underlying110 mf l rfl HD.out.files ?_;intro ob tK);go_frame
 go_loopw [3] (fun n wr=>∃(todo:List (Name×(Nat×bT)))(k:Nat),n=.int .i64 (k:Int)/\cw prog 9 Value.string (fun x:Nat×bT=>ptrTo x.1) wr mf w.heap.size l todo/\Below w.heap.size w wr/\Hid (k+kS todo=kS l)) (fun _ wr=>wr.rangeLeft mf w.heap.size)
 case atStart=>exact⟨_,0,rfl,tK,ak.alloc (Nat.le_refl _) _,ae af⟩
 case round=>
  obtain⟨todo,k,rfl,hi,hb,hk⟩:=hrel;have HB:=ae hb;clear hb;go_wp2_with (at_next;refine pA _ rfl _ rfl mf w.heap.size l todo rfl hi ?_ ?_)
  ·rintro rfl;go_wp2;go_ret;refine⟨?_,HB.out⟩;have:=hk.out;unfold kS at this ⊢;simp at this;rw[<- this];rfl
  ·intro nm pf f rs w1 r9 hp pZ se hen;have hb1:Below w.heap.size w (setBlock w1 w.heap.size r9):=by
    have:aG (fun x=>w.heap.size<=x) w (setBlock w1 w.heap.size r9):=by
     have h0:aG (fun x=>w.heap.size<=x) w wr:=aG.aV HB.out;rcases pZ with rfl | rfl
     ·exact h0.setBlock _ _ (.inl (Nat.le_refl _))
     ·exact h0.drew.setBlock _ _ (.inl (Nat.le_refl _))
    exact this.below (Nat.le_refl _) (fun _ h=>h)
   have HP:=ae hp;have HI:=ae hi;have mI:(nm,pf,f)∈l:=hi.sub _ (hp.mem_iff.2 ai);have cO:=ae hb1;have Dm:dw (setBlock w1 w.heap.size r9) o pf f:=(HD.out.below hb1).each _ mI;obtain⟨v,u,⟨QN,-⟩,-,hrow,-⟩:=Dm.cells;have jq:=Dm.most.1;obtain⟨a,c,rfl⟩:=aA hrow;clear hp hi hb1 pZ Dm hrow mI;unfold ptrTo at hen;have ac2:k+gG f.now.length+kS rs=kS l:=by
    have h1:=hk.out;rw[GI HP.out]at h1;unfold kS at h1 ⊢;simp only[List.map_cons,List.sum_cons]at h1;omega
   have HS:=ae ac2;have hkk:k+gG f.now.length<=1048576:=by have:=ah1.out;omega
   have HKK:=ae hkk;have P0:k<=1048576:=by omega
   have hk2:gG f.now.length<=1048576:=by omega
   clear ac2 hkk;generalize hW:setBlock w1 w.heap.size r9=W at hen QN cO se;clear hW tK;go_wp2_with (go_at_call 266;refine(xW _ _ af).mono ?_;rintro e w2⟨rfl,rfl⟩);go_roundw
   case rel=>
    refine⟨rs,k+gG f.now.length,?_,se,cO.out,HS⟩;unfold gG;congr 1
   case measure=>
    have e1:=se.left;have e2:=HP.out.length_eq;rw[List.length_cons]at e2;rw[e1,HI.out.left];omega
def Dsk.new(bO:Nat):Dsk:=⟨[],[],bO,0,false⟩
theorem GJ(bO:Nat)(hq:bO<=1048576)(w:World) :
 Calls prog 69 #[.int .i64 (bO:Int)] w fun e w'=>∃db o,e=.returned (.tuple #[ptrTo db,.int .i64 0])/\cI w' db o (Dsk.new bO)/\Below w.heap.size w w'/\∀x t,o x=some t->w.heap.size<=x:=by
 have tL:∀(t:TypeId)(W:World),(Instr.makeMap t none).run prog W=.ok (.map (some W.heap.size)) (W.alloc (.map #[] 0)):=fun _ _=>rfl;go_enter func69,ntmps69;go_wp2;go_returns;let o:au:=fun x=>if x=w.heap.size then some (1,0) else if x=w.heap.size+1 then some (2,0) else if x=w.heap.size+1+1 then some (0,0) else none
 have ho:∀x t,o x=some t->w.heap.size<=x/\x<w.heap.size+3:=by
  intro x t hx;simp only[o]at hx;split at hx
  ·omega
  ·split at hx
   ·omega
   ·split at hx
    ·omega
    ·cases hx
 refine⟨w.heap.size+1+1,o,?_,⟨w.heap.size,w.heap.size+1,[],?_⟩,?_,fun x t hx=>(ho x t hx).1⟩
 ·rfl
 ·have s1:(w.alloc (.map #[] 0)).heap.size=w.heap.size+1:=by simp
  have s2:((w.alloc (.map #[] 0)).alloc (.map #[] 0)).heap.size=w.heap.size+1+1:=by simp
  have m0:bS prog 9 Value.string (fun x:Nat×bT=>ptrTo x.1) (w.alloc (.map #[] 0)) w.heap.size []:=bS.made w _ _ _ _;have m1:bS prog 116 eD (fun _:Unit=>.bool true) ((w.alloc (.map #[] 0)).alloc (.map #[] 0)) (w.heap.size+1) []:=by
   have:=bS.made (w.alloc (.map #[] 0)) prog 116 eD (fun _:Unit=>Value.bool true);rw[s1]at this;exact this
  have hh:∀(W:World)(ob:Obj)(b:Nat),b<W.heap.size->(W.alloc ob).heap[b]? = W.heap[b]? := fun W ob b hb=>(MapKept.heap_alloc W ob).2 b hb;refine { Cg:=?_,Ch:=?_,Ci:=?_,head:=⟨113,?_⟩,files:=?_,strip:=rfl,apart:=by simp,each:=by simp,loose:=?_,owned:=?_,ok:=⟨hq,by show 0<9223372036854775808;decide,by simp[er,Dsk.new]⟩ }
  ·simp[o];omega
  ·simp[o]
  ·simp[o]
  ·have:=heap_alloc_new ((w.alloc (.map #[] 0)).alloc (.map #[] 0)) (.cells #[.map (some w.heap.size),.map (some (w.heap.size+1)),.int .i64 (bO:Int),.int .i64 0,.bool false] 113);rw[s2]at this;exact this
  ·exact(m0.kept (hh _ _ _ ai)).kept (hh _ _ _ (by simp;omega))
  ·exact m1.kept (hh _ _ _ ai)
  ·intro x t hx;have:=(ho x t hx).2;simp;omega
 ·exact(aj.alloc ai _).alloc (by simp;omega) _
def over(xs:List UInt8)(off:Nat)(bs:List UInt8):List UInt8:=xs.take off++(bs++xs.drop (off+bs.length))
theorem xY{xs:List UInt8}{off:Nat}{bs:List UInt8}(h:off+bs.length<=xs.length):(over xs off bs).length=xs.length:=by
 grind [over]
theorem QR(xs:List UInt8)(off:Nat):over xs off []=xs:=by simp[over]
theorem N3{α:Type}(C B:List α)(n off:Nat)(h:off+B.length<=n)(hn:n<=C.length) :
 (C.take off++(B++C.drop (off+B.length))).take n=(C.take n).take off++(B++(C.take n).drop (off+B.length)):=by
 rw[List.take_append,List.take_append,List.length_take,List.take_take,List.take_take,List.drop_take,Nat.min_eq_left (show off<=C.length by omega),Nat.min_eq_right (show off<=n by omega),Nat.min_eq_left (show off<=n by omega),List.take_of_length_le (show B.length<=n-off by omega),show n-off-B.length=n-(off+B.length) by omega]
def lV(m:List ((Name×Nat)×Unit))(name:Name)(off:Nat):Nat->List ((Name×Nat)×Unit)
 |0=>m
 |n+1=>aS (lV m name off n) (name,(off+n)/64) ()
def bT.laid(f:bT)(off:Nat)(bs:List UInt8):bT:=
 ⟨over (f.now++List.replicate (max f.now.length (off+bs.length)-f.now.length) 0) off bs,f.gZ⟩
namespace Dsk
def write(d:Dsk)(name:Name)(off:Nat)(bs:List UInt8):Dsk×Nat:=
 if d.tick.dead then (d.tick,6) else if bM name=false then (d.tick,1) else match aB d.files name with
  |none=>(d.tick,3)
  |some f=>
    if f.now.length<off then (d.tick,1)
    else if 16777216<bs.length+off then (d.tick,9)
    else if gG f.now.length<gG (max f.now.length (off+bs.length))/\d.bO<er d.files+(gG (max f.now.length (off+bs.length))-gG f.now.length) then (d.tick,5)
    else ({ d.tick with files:=aS d.files name (f.laid off bs),loose:=lV d.loose name off bs.length },0)
end Dsk
theorem nL{P:Program}{w:World}{ops:Array Oper}{rest:List Oper}{o:Oper}{a:Act}{Q:Exit->Act->World->Prop}(hgd:o.guard=none)(x y:Operand)(t t':TypeId)(ho:o.op=.call { callee:=.builtin .max,args:=#[x,y],argTypes:=#[t,t'] })(m n:Nat){p q:Int}(hx:a.eval x=.int .i64 p)(hy:a.eval y=.int .i64 q)(hp:p=(m:Int))(hq:q=(n:Int))(h:∀E,E=max m n->wpList P ops Q rest (a.put o.dst (.int .i64 ((E:Nat):Int))) w):wpList P ops Q (o::rest) a w:=by
 refine wpList_plain hgd fun K hK=>?_;have hrun:=run_max_int2 (P:=P) (w:=w) #[t,t'] o.type .i64 .i64 p q;unfold Oper.wp;simp[execOp,ho,resolve,invoke,builtin,hx,hy,hrun,Result.andThen];refine hK _ _ ?_;have:(if q>p then q else p)=((max m n:Nat):Int):=by
  omega
 grind
end
section
open Go
section
variable {P:Program} {ops:Array Oper} {md:Region.Mode} {C:World->Prop}
def mR(md:Region.Mode)(ops:Array Oper)(n:Nat):Bool:=
 (List.range ops.size).all fun t=>decide (t<=n) || (List.range t).any fun s=>decide (n<=s) && Region.waitsFor md ops t s
theorem Dp{n:Nat}{listed:Array Bool}(hs:Region.sinkB md ops n=true)(hc:mR md ops n=true)(hn:n<ops.size)(inv:HeadInv md ops n listed) :
 ∀(d i:Nat),n-i=d->i<n->listed.getD i true=false->∀t,n<=t->t ∉ Region.ready md ops listed:=by
 intro d;induction d using Nat.strongRecOn with
 |_ d ih=>
   intro i hd hi oG t ht hr;obtain⟨_,ot,hot,hall⟩:=mem_ready.1 hr;have Zn:t<ops.size:=(Array.getElem?_eq_some_iff.1 hot).1;by_cases zr:t=n
   ·subst zr;have h1:=List.all_eq_true.1 hs i (List.mem_range.2 hi);grind [Region.waitsFor_spec,HeadInv.closed]
   ·have h1:=List.all_eq_true.1 hc t (List.mem_range.2 Zn);grind [Region.waitsFor_spec,HeadInv.tail]
theorem Ez{n i:Nat}{oi:Oper}{v:Value}{L:Array Bool->Act->Prop}(hi:ops[i]? = some oi)(lh:∀(j:Nat)(o:Oper)cs b,ops[j]? = some o->o.op≠.select cs b)(hs:Region.sinkB md ops n=true)(hc:mR md ops n=true)(hn:n<ops.size)(oC:i<n)(hdone:∀listed a,L listed a->∀j∈Region.ready md ops listed,n<=j)(f:Nat) :
 ∀(listed:Array Bool)(a:Act),HeadInv md ops n listed ->
  (∀j oj,ops[j]? = some oj->j≠i->listed.getD j true=false->(∀e∈oj.after,Region.binds md e=true->e.on≠i)->oi.apart ops oj=true) ->
  i∈Region.ready md ops listed->YieldsIn P ops C oi v a ->
  jh P md ops C n L f (listed.setIfInBounds i true) (a.put oi.dst v)->jh P md ops C n L (f+1) listed a:=by
 induction f with
 |zero=>
   intro listed a inv _ hr hy H;have oG:=(mem_ready.1 hr).1;refine⟨fun h=>(by grind),fun j hj=>?_⟩;have P2:j<n:=by
    rcases Nat.lt_or_ge j n with h | h
    ·exact h
    ·exact absurd hj (Dp hs hc hn inv _ i rfl oC oG j h)
   refine⟨P2,?_⟩;by_cases vQ:j=i
   ·grind [YieldsIn.qOp]
   ·have:=hdone _ _ H j (ready_mono hj vQ);omega
 |succ f ih=>
   intro listed a inv fR hr hy H;have oG:=(mem_ready.1 hr).1;refine⟨fun h=>(by grind),fun j hj=>?_⟩;have P2:j<n:=by
    rcases Nat.lt_or_ge j n with h | h
    ·exact h
    ·exact absurd hj (Dp hs hc hn inv _ i rfl oC oG j h)
   refine⟨P2,?_⟩;by_cases vQ:j=i
   ·grind [YieldsIn.qOp]
   ·have h1:=(H.2 j (ready_mono hj vQ)).2;obtain⟨Qy,oj,km,hall⟩:=mem_ready.1 hj;have vZ:∀e∈oj.after,Region.binds md e=true->e.on≠i:=fun e he hb heq=>by
     grind
    have h2:=qOp_put km (fR j oj km vQ Qy vZ) (fun cs b=>lh i oi cs b hi) (fun cs b=>lh j oj cs b km) hy h1;have Ke:∀k ok,ops[k]? = some ok->k≠i->(listed.setIfInBounds j true).getD k true=false ->
     (∀e∈ok.after,Region.binds md e=true->e.on≠i)->oi.apart ops ok=true:=fun k ok hk MG oG hno=>by
     refine fR k ok hk MG ?_ hno;by_cases hjk:j=k
     ·grind
     simp_all
    grind [qOp_mono,HeadInv.set,ready_mono,Array.setIfInBounds_comm]
def zV(md:Region.Mode)(ops:Array Oper)(g:Nat):Nat->Nat->Array Bool->Bool
 |0,k,listed=>decide (Region.ready md ops listed=[k]) && Region.lexFrom md ops g (k+1) (listed.setIfInBounds k true)
 |f+1,k,listed=>(Region.ready md ops listed).contains k && Region.free md ops listed k && zV md ops g f (k+1) (listed.setIfInBounds k true)
def ac4(md:Region.Mode)(ops:Array Oper)(n:Nat):Bool:=
 Region.noSelect ops && decide (n<ops.size) && Region.sinkB md ops n && mR md ops n && zV md ops (ops.size-(n+1)) n 0 (Array.replicate ops.size false)
def Vm(md:Region.Mode)(ops:Array Oper)(g n:Nat)(listed:Array Bool):Prop:=Region.ready md ops listed=[n]/\Region.lexFrom md ops g (n+1) (listed.setIfInBounds n true)=true
theorem Kp{n g:Nat}{Lq:Act->Prop}(lh:Region.noSelect ops=true)(hs:Region.sinkB md ops n=true)(hc:mR md ops n=true)(hn:n<ops.size)(l:List Oper) :
 ∀(k:Nat)(listed:Array Bool)(a:Act),(∀j,j<l.length->l[j]? = ops[k+j]?)->k+l.length=n->HeadInv md ops n listed ->
 zV md ops g l.length k listed=true->wpQuiet P ops C Lq l a ->
 jh P md ops C n (fun listed' a'=>Vm md ops g n listed'/\Lq a') l.length listed a:=by
 induction l with
 |nil=>
   intro k listed a _ hk _ hB h;have:k=n:=by omega
   subst this;simp only[List.length_nil,zV,Bool.and_eq_true,decide_eq_true_eq]at hB;exact⟨hB,h⟩
 |cons o l ih=>
   intro k listed a hl hk inv hB h;have h0:ops[k]? = some o:=by simpa using (hl 0 ai).symm
   simp only[List.length_cons,zV,Bool.and_eq_true]at hB;obtain⟨⟨hr,hf⟩,Vg⟩:=hB;have Kf:k<n:=by grind
   have MH:k∈Region.ready md ops listed:=by grind
   have hst:qOp P ops C k (wpQuiet P ops C Lq l) a:=by unfold qOp;simp only[h0];exact h
   obtain⟨v,hy,hK⟩:=yieldsIn_of_qOp h0 hst;exact Ez h0 (Region.noSelect_spec lh) hs hc hn Kf (fun listed' a' hL j hj=>by
    have h1:=hL.1.1;grind) l.length listed a inv (Region.free_spec h0 hf) MH hy
    (ih (k+1) _ _ (fun j hj=>by have:=hl (j+1) (by grind);grind) (by grind) (inv.set MH Kf) Vg hK)
def Vn(P:Program)(ops:Array Oper)(Q:Exit->Act->World->Prop)(o:Oper)(rest:List Oper)(a:Act)(w:World):Prop:=
 ∃f args,Region.wanted o (yielded ops a.tmps)=true/\(execOp a.eval o).run P w=.ok (.enter f args) w /\
  Calls P f args w fun e w'=>∃v,e=.returned v/\wpQuiet P ops (·=w') (fun a'=>Q .normal a' w') rest (a.put o.dst v)
theorem cE(C:World->Prop){id:Nat}{Q:Exit->Act->World->Prop}{a:Act}{w:World}{l:List Oper}(n:Nat){o:Oper}{rest:List Oper}(hl:l.drop n=o::rest)(hm:P.follows .mixedOrders=true)(hB:ac4 .any l.toArray n=true)(hC:C w.drew)(h:wpQuiet P l.toArray C (fun a'=>∀w',C w'->Vn P l.toArray Q o rest a' w') (l.take n) a):(Code.region id l.toArray true).wp P Q a w:=by
 simp only[ac4,Bool.and_eq_true,decide_eq_true_eq]at hB;obtain⟨⟨⟨⟨lh,hn⟩,hs⟩,hc⟩,Y9⟩:=hB;have hn':n<l.length:=by omega
 have zo:(l.take n).length=n:=by grind
 have zu:l[n]? = some o:=by
  have:=congrArg (fun x:List Oper=>x[0]?) hl;grind
 have ama:l.drop (n+1)=rest:=by
  have:=congrArg List.tail hl;simpa using this
 have JR:rest.length=l.toArray.size-(n+1):=by grind
 have Kg:HeadInv .any l.toArray n (Array.replicate l.toArray.size false):=
  ⟨ai,fun j oj _ hl=>(by grind [getD_replicate_false]),fun t _ ht=>getD_in (by grind) (getD_replicate_false _ _)⟩
 have H:=Kp (md:=.any) (C:=C) (g:=l.toArray.size-(n+1)) lh hs hc hn (l.take n) 0 _ a (fun j hj=>by
  grind) af Kg (by grind) h
 refine wp_region_any hm ?_;have:=qu (Q':=Q) (g:=rest.length+1) (fun listed a' w' hw' hL=>by
  obtain⟨⟨hr,hx⟩,hK⟩:=hL;refine⟨fun h0=>(by grind),fun i hi=>?_⟩;rw[hr]at hi;have:i=n:=by grind
  subst this;obtain⟨f,args,ac5,hrun,aM⟩:=hK w' hw';have h0:(l.toArray)[i]? = some o:=by grind
  unfold wpOp;simp only[h0];rw[if_pos ac5];left;unfold Oper.wp;rw[hrun,Oper.upon_enter];refine aM.mono ?_;rintro e w2⟨v,rfl,hq⟩;refine wpAny_of_quiet (Q:=fun a'=>Q .normal a' w2) (C:=(·=w2)) (fun a3 w3 hw3 h3=>by grind) _ _ _ _ rfl ?_;grind [wpAnyQ_lex]) _ _ _ _ hC H
 rw[zo,JR,show n+(l.toArray.size-(n+1)+1)=l.toArray.size by omega]at this;exact this
end
end
section
open Go
section
variable {P:Program} {ops:Array Oper} {md:Region.Mode} {C:World->Prop}
def XO(Q:Exit->Act->World->Prop):Exit->Act->World->Prop
 | .panic _,_,_=>False
 |e,a,w=>Q e a w
theorem XO.weaken{Q:Exit->Act->World->Prop}:∀e a w,XO Q e a w->Q e a w:=by
 intro e a w h;cases e<;>first | exact h | exact h.elim
def wm(P:Program)(ops:Array Oper)(Qp:Act->Prop):List Oper->Act->Prop
 | [],a=>Qp a
 |o::rest,a=>∃v,Yields P ops o v a/\wm P ops Qp rest (a.put o.dst v)
theorem p_op{Qp:Act->Prop}{a:Act}{o:Oper}{rest:List Oper}{v:Value}(hw:Region.wanted o (yielded ops a.tmps)=true)(h:∀w,(execOp a.eval o).run P w=.ok (.value v) w)(hk:∀K:Act->Prop,(∀a,wm P ops Qp rest a->K a)->K (a.put o.dst v)):wm P ops Qp (o::rest) a:=
 ⟨v,.inl ⟨hw,h⟩,hk _ fun _ h=>h⟩
theorem ac6{Qp:Act->Prop}{a:Act}(h:Qp a):wm P ops Qp [] a:=h
structure jr(md:Region.Mode)(ops:Array Oper)(lo n:Nat)(listed:Array Bool):Prop where
 head:HeadInv md ops n listed
 low:∀i,i<lo->listed.getD i true=true
theorem jr.set{lo n i:Nat}{listed:Array Bool}(inv:jr md ops lo n listed)(hi:i∈Region.ready md ops listed)(oC:i<n):jr md ops lo n (listed.setIfInBounds i true):=by
 refine⟨inv.head.set hi oC,fun j hj=>?_⟩;by_cases e:i=j
 ·subst e;have:=inv.low i hj;have h2:=(mem_ready.1 hi).1;rw[this]at h2;cases h2
 ·rw[getD_set_ne true e];exact inv.low j hj
def rC(md:Region.Mode)(ops:Array Oper)(lo n:Nat):Bool:=
 (List.range n).all fun i=>decide (i<lo) || (List.range (n+1)).any fun j=>decide (i<j) && Region.waitsFor md ops j i
theorem xZ{lo n:Nat}{listed:Array Bool}(hs:rC md ops lo n=true)(hc:mR md ops n=true)(hn:n<ops.size)(inv:jr md ops lo n listed) :
 ∀(d i:Nat),n-i=d->i<n->listed.getD i true=false->∀t,n<=t->t ∉ Region.ready md ops listed:=by
 intro d;induction d using Nat.strongRecOn with
 |_ d ih=>
   intro i hd hi oG t ht hr;obtain⟨_,ot,hot,hall⟩:=mem_ready.1 hr;have Zn:t<ops.size:=(Array.getElem?_eq_some_iff.1 hot).1;by_cases zr:t=n
   ·subst zr;have h1:=List.all_eq_true.1 hs i (List.mem_range.2 hi);simp only[Bool.or_eq_true,decide_eq_true_eq]at h1;rcases h1 with h1 | h1
    ·rw[inv.low i h1]at oG;cases oG
    obtain⟨j,hj,hj2⟩:=List.any_eq_true.1 h1;simp only[Bool.and_eq_true,decide_eq_true_eq]at hj2;obtain⟨oj,km,e,he,hb,zu⟩:=Region.waitsFor_spec hj2.2;have aoO:j<=t:=by have:=List.mem_range.1 hj;omega
    by_cases hjt:j=t
    ·subst hjt;have:oj=ot:=Option.some.inj (km.symm.trans hot);subst this;have h2:=hall e he hb;rw[zu,getD_both oG]at h2;cases h2
    ·cases hl:listed.getD j false with
     |true=>
       have h2:=inv.head.closed j oj km hl e he hb;rw[zu,getD_both oG]at h2;cases h2
     |false=>
       have hjs:j<listed.size:=by rw[inv.head.size];omega
       exact ih (t-j) af j rfl af (getD_in hjs hl) t (Nat.le_refl _) hr
   ·have h1:=List.all_eq_true.1 hc t (List.mem_range.2 Zn);simp only[Bool.or_eq_true,decide_eq_true_eq]at h1;rcases h1 with h1 | h1
    ·omega
    ·obtain⟨s,hsr,hs2⟩:=List.any_eq_true.1 h1;simp only[Bool.and_eq_true,decide_eq_true_eq]at hs2;have hst:=List.mem_range.1 hsr;obtain⟨o',jM,e,he,hb,zu⟩:=Region.waitsFor_spec hs2.2;have:o'=ot:=Option.some.inj (jM.symm.trans hot);subst this;have h2:=hall e he hb;rw[zu,getD_both (inv.head.tail s hs2.1 af)]at h2;cases h2
theorem zW{lo n i:Nat}{oi:Oper}{v:Value}{L:Array Bool->Act->Prop}(hi:ops[i]? = some oi)(lh:∀(j:Nat)(o:Oper)cs b,ops[j]? = some o->o.op≠.select cs b)(hs:rC md ops lo n=true)(hc:mR md ops n=true)(hn:n<ops.size)(oC:i<n)(hdone:∀listed a,L listed a->∀j∈Region.ready md ops listed,n<=j)(f:Nat) :
 ∀(listed:Array Bool)(a:Act),jr md ops lo n listed ->
  (∀j oj,ops[j]? = some oj->j≠i->listed.getD j true=false->(∀e∈oj.after,Region.binds md e=true->e.on≠i)->oi.apart ops oj=true) ->
  i∈Region.ready md ops listed->YieldsIn P ops C oi v a ->
  jh P md ops C n L f (listed.setIfInBounds i true) (a.put oi.dst v)->jh P md ops C n L (f+1) listed a:=by
 induction f with
 |zero=>
   intro listed a inv _ hr hy H;have oG:=(mem_ready.1 hr).1;refine⟨fun h=>(by rw[h]at hr;cases hr),fun j hj=>?_⟩;have P2:j<n:=by
    rcases Nat.lt_or_ge j n with h | h
    ·exact h
    ·exact absurd hj (xZ hs hc hn inv _ i rfl oC oG j h)
   refine⟨P2,?_⟩;by_cases vQ:j=i
   ·subst vQ;exact hy.qOp hi H
   ·have:=hdone _ _ H j (ready_mono hj vQ);omega
 |succ f ih=>
   intro listed a inv fR hr hy H;have oG:=(mem_ready.1 hr).1;refine⟨fun h=>(by rw[h]at hr;cases hr),fun j hj=>?_⟩;have P2:j<n:=by
    rcases Nat.lt_or_ge j n with h | h
    ·exact h
    ·exact absurd hj (xZ hs hc hn inv _ i rfl oC oG j h)
   refine⟨P2,?_⟩;by_cases vQ:j=i
   ·subst vQ;exact hy.qOp hi H
   ·have h1:=(H.2 j (ready_mono hj vQ)).2;obtain⟨Qy,oj,km,hall⟩:=mem_ready.1 hj;have vZ:∀e∈oj.after,Region.binds md e=true->e.on≠i:=fun e he hb heq=>by
     have h1:=hall e he hb;rw[heq,getD_both oG]at h1;cases h1
    have h2:=qOp_put km (fR j oj km vQ Qy vZ) (fun cs b=>lh i oi cs b hi) (fun cs b=>lh j oj cs b km) hy h1;have Ke:∀k ok,ops[k]? = some ok->k≠i->(listed.setIfInBounds j true).getD k true=false ->
     (∀e∈ok.after,Region.binds md e=true->e.on≠i)->oi.apart ops ok=true:=fun k ok hk MG oG hno=>by
     refine fR k ok hk MG ?_ hno;by_cases hjk:j=k
     ·subst hjk;exact Qy
     ·rw[getD_set_ne true hjk]at oG;exact oG
    refine qOp_mono (fun a' h3=>ih (listed.setIfInBounds j true) a' (inv.set hj P2) Ke (ready_mono hr (Ne.symm vQ)) h3.1 ?_) h2;rw[Array.setIfInBounds_comm _ _ vQ];exact h3.2
theorem EA{lo n g:Nat}{Lq:Act->Prop}(lh:Region.noSelect ops=true)(hs:rC md ops lo n=true)(hc:mR md ops n=true)(hn:n<ops.size)(l:List Oper) :
 ∀(k:Nat)(listed:Array Bool)(a:Act),(∀j,j<l.length->l[j]? = ops[k+j]?)->k+l.length=n->jr md ops lo n listed ->
 Region.lexHead md ops g l.length k listed=true->wpQuiet P ops C Lq l a ->
 jh P md ops C n (fun listed' a'=>Region.seqB md ops g n listed'=true/\Lq a') l.length listed a:=by
 induction l with
 |nil=>
   intro k listed a _ hk _ hB h;have:k=n:=by simpa using hk
   subst this;exact⟨by simpa[Region.lexHead]using hB,h⟩
 |cons o l ih=>
   intro k listed a hl hk inv hB h;have h0:ops[k]? = some o:=by simpa using (hl 0 ai).symm
   simp only[List.length_cons,Region.lexHead,Bool.and_eq_true]at hB;obtain⟨⟨hr,hf⟩,Vg⟩:=hB;have Kf:k<n:=by simp only[List.length_cons]at hk;omega
   have MH:k∈Region.ready md ops listed:=by simpa using hr
   have hst:qOp P ops C k (wpQuiet P ops C Lq l) a:=by unfold qOp;simp only[h0];exact h
   obtain⟨v,hy,hK⟩:=yieldsIn_of_qOp h0 hst;exact zW h0 (Region.noSelect_spec lh) hs hc hn Kf (fun listed' a' hL=>seqB_ready hL.1) l.length listed a inv (Region.free_spec h0 hf) MH hy
    (ih (k+1) _ _ (fun j hj=>by have:=hl (j+1) (by simp;omega);simpa[Nat.add_assoc,Nat.add_comm 1 j]using this) (by simp only[List.length_cons]at hk;omega) (inv.set MH Kf) Vg hK)
def uf(md:Region.Mode)(ops:Array Oper)(g h:Nat):Nat->Nat->Array Bool->Bool
 |0,k,listed=>Region.lexHead md ops g h k listed
 |f+1,k,listed=>(Region.ready md ops listed).contains k && Region.free md ops listed k && uf md ops g h f (k+1) (listed.setIfInBounds k true)
def QS(md:Region.Mode)(ops:Array Oper)(lo n:Nat):Bool:=
 Region.noSelect ops && decide (lo<=n) && decide (n<ops.size) && rC md ops lo n && mR md ops n && uf md ops (ops.size-n) (n-lo) lo 0 (Array.replicate ops.size false)
theorem Kq{lo n g h gf:Nat}{Q:Exit->Act->World->Prop}{Lp:Act->Prop}(lh:Region.noSelect ops=true)(hQ:∀c a w,¬Q (.panic c) a w)(ac7:lo<=n)(hn:n<ops.size)(l:List Oper) :
 ∀(k:Nat)(listed:Array Bool)(a:Act)(w:World),(∀j,j<l.length->l[j]? = ops[k+j]?)->k+l.length=lo->jr md ops k n listed ->
 uf md ops g h l.length k listed=true->wm P ops Lp l a ->
 (∀listed' a',jr md ops lo n listed'->Region.lexHead md ops g h lo listed'=true->Lp a'->wpAny P md ops Q gf listed' a' w) ->
 wpAny P md ops Q (l.length+gf) listed a w:=by
 induction l with
 |nil=>
   intro k listed a w _ hk inv hB h hg;have:k=lo:=by simpa using hk
   subst this;rw[List.length_nil,Nat.zero_add];exact hg listed a inv (by simpa[uf]using hB) h
 |cons o l ih=>
   intro k listed a w hl hk inv hB h hg;have h0:ops[k]? = some o:=by simpa using (hl 0 ai).symm
   simp only[List.length_cons,uf,Bool.and_eq_true]at hB;obtain⟨⟨hr,hf⟩,Vg⟩:=hB;obtain⟨v,hy,hK⟩:=h;have yS:k<lo:=by simp only[List.length_cons]at hk;omega
   have MH:k∈Region.ready md ops listed:=by simpa using hr
   rw[List.length_cons,show l.length+1+gf=(l.length+gf)+1 by omega];refine wpAny_take h0 lh hf hr (fun c a w hq=>absurd hq (hQ _ _ _)) hy ?_;refine ih (k+1) _ _ w (fun j hj=>by have:=hl (j+1) (by simp;omega);simpa[Nat.add_assoc,Nat.add_comm 1 j]using this) (by simp only[List.length_cons]at hk;omega) ?_ Vg hK hg;refine⟨inv.head.set MH af,fun i hi=>?_⟩;by_cases e:k=i
   ·subst e;exact zX (by have:=inv.head.size;omega)
   ·rw[getD_set_ne true e];exact inv.low i af
where
 zX {listed:Array Bool} {i:Nat} (h:i<listed.size):(listed.setIfInBounds i true).getD i true=true:=by
  rw[Array.getD_eq_getD_getElem?,Array.getElem?_setIfInBounds_self_of_lt h];rfl
theorem p7(C:World->Prop){id:Nat}{Q:Exit->Act->World->Prop}{a:Act}{w:World}{l:List Oper}(lo n:Nat)(hm:P.follows .mixedOrders=true)(hB:QS .any l.toArray lo n=true)(hC:C w.drew)(h:wm P l.toArray (wpQuiet P l.toArray C (fun a'=>∀w',C w'->wpList P l.toArray (XO Q) (l.drop n) a' w') ((l.drop lo).take (n-lo))) (l.take lo) a):(Code.region id l.toArray true).wp P Q a w:=by
 refine Code.wp_mono XO.weaken ?_;simp only[QS,Bool.and_eq_true,decide_eq_true_eq]at hB;obtain⟨⟨⟨⟨⟨lh,ac7⟩,hn⟩,hs⟩,hc⟩,Y9⟩:=hB;have hn':n<l.length:=by simpa using hn
 have zo:(l.take lo).length=lo:=by simp;omega
 have Cb:((l.drop lo).take (n-lo)).length=n-lo:=by simp;omega
 have UI:(l.drop n).length=l.toArray.size-n:=by simp
 have Kg:jr .any l.toArray 0 n (Array.replicate l.toArray.size false):=
  ⟨⟨ai,fun j oj _ hl=>(by rw[getD_replicate_false]at hl;cases hl),fun t _ ht=>getD_in (by simpa using ht) (getD_replicate_false _ _)⟩,fun i hi=>absurd hi (Nat.not_lt_zero i)⟩
 refine wp_region_any hm ?_;have:=Kq (P:=P) (md:=.any) (ops:=l.toArray) (lo:=lo) (n:=n) (g:=l.toArray.size-n) (h:=n-lo) (gf:=l.toArray.size-lo) (Q:=XO Q) lh (fun c a w h=>h) ac7 hn (l.take lo) 0 _ a w.drew (fun j hj=>by
  have hj':j<lo:=by rw[zo]at hj;exact hj
  simp[hj']) (by simpa using zo) Kg (by rw[zo];exact Y9) h (fun listed' a' ah2 hx hq=>by
   have H:=EA (md:=.any) (C:=C) (g:=l.toArray.size-n) lh hs hc hn ((l.drop lo).take (n-lo)) lo listed' a' (fun j hj=>by
    have hj':j<n-lo:=by rw[Cb]at hj;exact hj
    simp[hj',List.getElem?_drop]) (by rw[Cb];omega) ah2 (by rw[Cb];exact hx) hq
   have:=qu (Q':=XO Q) (g:=l.toArray.size-n) (fun listed a' w' hw' hL=>by
    have:=wpAny_of_seq (md:=.any) (Q':=XO Q) (l.drop n) n listed a' w' (fun j=>by simp[List.getElem?_drop]) (by rw[UI];exact hL.1) (hL.2 w' hw');rwa [UI]at this) _ _ _ _ hC H
   rw[Cb,show n-lo+(l.toArray.size-n)=l.toArray.size-lo by omega]at this;exact this)
 rw[zo,show lo+(l.toArray.size-lo)=l.toArray.size by omega]at this;exact this
end
end
section
open Go.RowKit Go.Maps Go.MapKept
open Go.ChangeMaps (setBlock heap_setBlock_same heap_setBlock_other)
theorem dw.extend{w w4:World}{o:au}{pf:Nat}{f:bT}(h:dw w o pf f){v v':Value}(hc:w.cell? ⟨pf,0,none⟩=some v)(hown:∀b,v.ownBlock=some b->o b=some (4,pf)){bs:List UInt8}(hv:w4.ownsRow 0 5 1 v' bs.length (bs.map bv))(hg:w.grownBy w4 v.ownBlock)(pZ:v'.ownBlock=v.ownBlock\/v'.ownBlock=some w.heap.size)(ho:∀x t,o x=some t->x<w.heap.size)(hl:bs.length<=16777216) :
 dw (w4.setCell ⟨pf,0,none⟩ v') (o.put v' (4,pf)) pf { f with now:=bs }/\(∀x r,o x=some r->(o.put v' (4,pf)) x=some r)/\aG (lU o pf) w (w4.setCell ⟨pf,0,none⟩ v')/\cF w.heap.size o (o.put v' (4,pf)) /\
  (∀x t,(o.put v' (4,pf)) x=some t->x<(w4.setCell ⟨pf,0,none⟩ v').heap.size)/\(w4.setCell ⟨pf,0,none⟩ v').cell? ⟨pf,0,none⟩=some v':=by
 have hput:∀b,v'.ownBlock=some b->o b=some (4,pf)\/b=w.heap.size:=fun b hb=>by
  rcases pZ with e | e
  ·exact .inl (hown b (by rw[<- e];exact hb))
  ·rw[e]at hb;exact .inr (Option.some.inj hb).symm
 have x7:∀x r,o x=some r->(o.put v' (4,pf)) x=some r:=fun x r hx=>by
  unfold au.put;cases e:v'.ownBlock with
  |none=>exact hx
  |some b=>
    dsimp only;by_cases ex:x=b
    ·subst ex;rcases hput x e with h1 | h1
     ·rw[h1]at hx;cases hx;simp
     ·have:=ho x r hx;omega
    ·rw[au.fg _ _ ex];exact hx
 have hgrow:cF w.heap.size o (o.put v' (4,pf)):=fun x hx=>by
  cases e:o x with
  |some r=>exact x7 x r e
  |none=>
    unfold au.put;cases e2:v'.ownBlock with
    |none=>exact e
    |some b=>
      dsimp only;have hne:x≠b:=by
       rintro rfl;rcases hput x e2 with h1 | h1
       ·rw[e]at h1;cases h1
       ·omega
      rw[au.fg _ _ hne];exact e
 have hT4:aG (lU o pf) w w4:=(aG.refl (lU o pf) w).grown hg (fun k hk=>.inl (.inr (.inl (hown k hk))));have hT5:=hT4.setCell ⟨pf,0,none⟩ v' (.inl (.inl rfl));have hsz:(w4.setCell ⟨pf,0,none⟩ v').heap.size=w4.heap.size:=by simp
 have ah3:∀b,v'.ownBlock=some b->b<w4.heap.size:=fun b hb=>(aL hv b hb).1;obtain⟨h1,⟨t,a,c,h2,h3,h4,h5,h6⟩,h7⟩:=h;have hva:a=v:=by
  rw[ar h2]at hc;simpa using hc
 subst hva;have ah5:∀b,v'.ownBlock=some b->b≠pf:=fun b hb e=>by
  rcases hput b hb with h | h
  ·rw[e,h1]at h;cases h
  ·have:=ho pf _ h1;omega
 have N4:w4.heap[pf]? = w.heap[pf]? := hg.block pf (ho _ _ h1) (fun e=>by have:=hown pf e.symm;rw[h1]at this;cases this);refine⟨⟨x7 _ _ h1,⟨t,v',c,?_,?_,fun b hb=>au.zT hb,?_,fun b hb=>x7 _ _ (h6 b hb)⟩,hl,h7.2⟩,x7,hT5,hgrow,?_,by rw[ar (aT (N4.trans h2) 0 v')];rfl⟩
 ·rw[aT (N4.trans h2)];rfl
 ·exact((aG.refl (·=pf) w4).setCell ⟨pf,0,none⟩ v' (.inl rfl)).ownsRow hv (fun b hb e=>ah5 b hb e)
 ·refine((aG.refl (fun x=>x=pf\/a.ownBlock=some x) w).grown hg (fun k hk=>.inl (.inr hk))).setCell ⟨pf,0,none⟩ v' (.inl (.inl rfl)) |>.ownsRow h5 (fun b hb e=>?_);have pj:=h6 b hb;rcases e with e | e
  ·rw[e,h1]at pj;cases pj
  ·have:=hown b e;rw[pj]at this;cases this
 ·intro x r hx;rw[hsz];unfold au.put at hx;cases e:v'.ownBlock with
  |none=>
    rw[e]at hx;exact Nat.lt_of_lt_of_le (ho x r hx) hg.size
  |some b=>
    rw[e]at hx;dsimp only at hx;by_cases ex:x=b
    ·rw[ex];exact ah3 b e
    ·rw[au.fg _ _ ex]at hx;exact Nat.lt_of_lt_of_le (ho x r hx) hg.size
theorem dw.Zo{w w':World}{o:au}{pf:Nat}{f:bT}(h:dw w o pf f){v:Value}(hc:w.cell? ⟨pf,0,none⟩=some v)(hown:∀b,v.ownBlock=some b->o b=some (4,pf)){bs:List UInt8}(hv:w'.ownsRow 0 5 1 v bs.length (bs.map bv))(ht:aG (fun x=>v.ownBlock=some x) w w')(hl:bs.length<=16777216):dw w' o pf { f with now:=bs }:=by
 obtain⟨h1,⟨t,a,c,h2,h3,h4,h5,h6⟩,h7⟩:=h;have hva:a=v:=by
  rw[ar h2]at hc;simpa using hc
 subst hva;refine⟨h1,⟨t,a,c,?_,hv,hown,?_,h6⟩,hl,h7.2⟩
 ·exact ht.heap h2 (fun e=>by have:=hown pf e;rw[h1]at this;cases this)
 ·exact ht.ownsRow h5 (fun b hb e=>by have:=hown b e;rw[h6 b hb]at this;cases this)
theorem Zp{n:Int}(h1:-9223372036854775808<=n)(h2:n<=9223372036854775807):IntKind.i64.wrap n=n:=by
 simp[IntKind.wrap,IntKind.bits,IntKind.signed];omega
theorem zY{n E:Nat}(h:n<=E):n+(E-n)=E:=by omega
theorem zZ{xs:List UInt8}{E:Nat}(h:xs.length<=E):(xs++List.replicate (E-xs.length) (0:UInt8)).length=E:=by simp;omega
theorem QT{w:World}{v:Value}{xs:List UInt8}{E:Nat}(h:w.ownsRow 0 5 1 v (xs.length+(E-xs.length)) (xs.map bv++(List.replicate (E-xs.length) (0:UInt8)).map bv))(hE:xs.length<=E) :
 w.ownsRow 0 5 1 v (xs++List.replicate (E-xs.length) (0:UInt8)).length ((xs++List.replicate (E-xs.length) (0:UInt8)).map bv):=by
 rw[zZ hE,List.map_append];rw[zY hE]at h;exact h
theorem Kr{w w':World}{row:Option Nat}(h:w.grownBy w' row){b i:Nat}(hb:some b≠row)(hl:b<w.heap.size):w'.cell? ⟨b,i,none⟩=w.cell? ⟨b,i,none⟩:=World.cell?_of_block (h.block b hl hb)
theorem EB{w w':World}{row:Option Nat}(h:w.grownBy w' row){b i:Nat}(hb:some b≠row)(hl:b<w.heap.size):w'.frozen? ⟨b,i,none⟩=w.frozen? ⟨b,i,none⟩:=World.frozen?_of_block (h.block b hl hb)
theorem dw.apart{w:World}{o:au}{pf:Nat}{f:bT}(h:dw w o pf f){v:Value}(hown:∀b,v.ownBlock=some b->o b=some (4,pf)):some pf≠v.ownBlock:=fun e=>by
 have:=hown pf e.symm;rw[h.own]at this;cases this
theorem N5{w:World}{base:Nat}{e:TypeId}{a:Option Addr}{n c:Nat}{xs:List Value}{m:Nat}(h:w.ownsRow base e 1 (.slice a m c) n xs):n<=c:=by
 obtain⟨_,h⟩:=h;rcases h with⟨h1,h2⟩|⟨g,cap,cur,h1,_,_,h2,_⟩
 ·omega
 ·cases h1;exact h2
theorem QU{w:World}{base:Nat}{e:TypeId}{a:Option Addr}{n c:Nat}{xs:List Value}{m g:Nat}(h:w.ownsRow base e 1 (.slice a m c) n xs)(hg:(Value.slice a m c).ownBlock=some g)(off:Nat):a.map (fun x=>x.add off)=some ⟨g,off,none⟩:=by
 obtain⟨_,h⟩:=h;rcases h with⟨h1,h2⟩|⟨g',cap,cur,h1,_⟩
 ·cases h1;cases hg
 ·cases h1;cases hg;rw[Option.map_some,bI,Nat.zero_add]
theorem iZ{κ υ:Type}[DecidableEq κ](m:List (κ×υ))(k:κ)(a b:υ):aS (aS m k a) k b=aS m k b:=by
 unfold aS bX;rw[List.filter_cons_of_neg ai,List.filter_filter];simp
theorem Ck{P:Program}{w:World}(dT sT ty elem:TypeId)(hu:P.underlying dT=some (.slice elem))(hsz:(P.info? elem).map (·.size)=some 1)(base:Nat)(v:Value)(xs bs:List UInt8)(hown:w.ownsRow base elem 1 v xs.length (xs.map bv))(off:Nat)(iA:off+bs.length<=xs.length)(Vo:Nat)(UI:Vo=xs.length-off)(sv:Value)(QV:Rd w sv bs) :
 ∃w',(∀(dp:Option Addr)(Ks:Nat),(0<bs.length->∀g,v.ownBlock=some g->dp=some ⟨g,off,none⟩)->(Builtin.copy_ #[dT,sT] ty #[.slice dp Vo Ks,sv]).run P w=.ok (goInt bs.length) w')/\w'.ownsRow base elem 1 v xs.length ((over xs off bs).map bv)/\aG (fun x=>v.ownBlock=some x) w w':=by
 obtain⟨sp,ac8,rfl,UM,hsc,lW⟩:=QV;by_cases h0:bs.length=0
 ·obtain rfl:bs=[]:=List.eq_nil_of_length_eq_zero h0;refine⟨w,fun dp Ks _=>run_copy_none (P:=P) w dT sT ty elem dp sp Vo Ks 0 ac8 hu hsz ai,?_,aG.refl _ _⟩;rw[QR];exact hown
 ·rcases lW with hc |⟨b,so,rfl,hc⟩
  ·exact absurd hc h0
  obtain⟨hl,⟨rfl,hz⟩|⟨g,cap,cur,rfl,hg,hh,hn,hm,hcs,hx⟩⟩:=hown
  ·omega
  have x9:cur.toList.length=cap*1:=by rw[Array.length_toList,hcs]
  have hx1:cur.toList.take xs.length=xs.map bv:=by rw[Nat.mul_one]at hx;exact hx
  have hrun:=fun Ks=>run_copy_row (P:=P) w dT sT ty elem g off Vo Ks ⟨b,so,none⟩ bs.length ac8 cur elem (bs.map bv) hu hsz hh (by
   rw[List.length_map,UI];exact(Nat.min_eq_left af).symm) (by
   intro j x hj;rw[List.getElem?_map]at hj;by_cases lQ:j<bs.length
   ·rw[List.getElem?_eq_getElem lQ]at hj;simp only[Option.map_some,Option.some.injEq]at hj;subst hj;rw[bI];exact hc j lQ
   ·rw[List.getElem?_eq_none af]at hj;simp at hj) (by
   rw[List.length_map,hcs];omega) (by simp[iO])
  simp only[List.length_map]at hrun;refine⟨_,fun dp Ks hdp=>(by rw[hdp af g rfl];exact hrun Ks),⟨?_,.inr ⟨g,cap,_,rfl,hg,setRow_heap w g _ _ elem _ hh,hn,hm,?_,?_⟩⟩,?_⟩
  ·rw[List.length_map,xY iA,Nat.mul_one]
  ·simp only[List.size_toArray,List.length_append,List.length_take,List.length_drop,List.length_map];omega
  ·rw[Nat.mul_one];unfold over;have h1:=N3 cur.toList (bs.map bv) xs.length off (by rw[List.length_map];exact iA) af;rw[List.length_map]at h1;rw[List.append_assoc,h1,hx1,List.map_append,List.map_append,List.map_take,List.map_drop]
  ·exact⟨rfl,rfl,rfl,by simp[World.setRow],fun k _ hk=>setRow_other w g k _ (fun e=>hk (by rw[e];rfl))⟩
theorem dw.lt{w:World}{o:au}{pf:Nat}{f:bT}(h:dw w o pf f):pf<w.heap.size:=by
 obtain⟨_,⟨t,v,u,h2,_⟩,_⟩:=h;exact(Array.getElem?_eq_some_iff.1 h2).1
theorem Da{w:World}{db:Nat}{o:au}{d:Dsk}(h:cI w db o d)(name:Name)(hs:name.size<=1000)(off:Nat)(aoU:off<=1099511627776)(sv:Value)(bs:List UInt8)(QV:Rd w sv bs)(hbl:bs.length<=1099511627776)(N6:∀b,sv.ownBlock=some b->o b=none) :
 Calls prog 230 #[ptrTo db,.string name,.int .i64 (off:Int),sv] w fun e w'=>e=.returned (.int .i64 ((d.write name off bs).2:Int))/\cy w db o (d.write name off bs).1 w':=by
 have H:=ae h;have HSV:=ae QV;have P8:=ae N6;obtain⟨sa,ah7,rfl,-⟩:=QV;clear h N6;unfold ptrTo;cases hd:d.tick.dead with
 |true=>
   have e1:d.write name off bs=(d.tick,6):=by unfold Dsk.write;rw[hd];rfl
   have e2:d.tick.err=6:=by unfold Dsk.err;rw[hd];rfl
   have E2:=ae e2;rw[e1];clear hd e1 e2;go_enter func230,ntmps230;go_wp2_with fail;refine(iY H.out).mono ?_;rintro e w1⟨rfl,mO,mJ⟩;rw[E2.out];go_wp2;go_ret;exact⟨rfl,.of mO mJ⟩
 |false=>
   have e2:d.tick.err=0:=by unfold Dsk.err;rw[hd];rfl
   have E2:=ae e2;have vH:=ae hd;clear hd e2;go_enter func230,ntmps230;go_wp2_with fail;refine(iY H.out).mono ?_;rintro e w1⟨rfl,⟨mf,ml,l,mO⟩,mJ⟩;rw[E2.out];have vG:=ae mO;have QJ:=ae mJ;have Cc:=jU mO name true;rw[Dsk.dy]at Cc;clear mO mJ;go_wp2_with fail;refine(oI vG.out name true hs).mono ?_;rintro e w2⟨rfl,hb2⟩;have pn:=ae (vG.out.below hb2);have mP:=ae (QJ.out.bN hb2);clear hb2;rcases Cc with⟨q1,q2⟩|⟨q1,q2,q3,q4⟩|⟨pf,f,q1,q2,q3,q4⟩
   ·have e1:d.write name off bs=(d.tick,1):=by
     unfold Dsk.write;rw[vH.out];rw[Bool.and_true]at q1;rw[q1];rfl
    rw[q2];have E1:=ae e1;clear e1 q2 q1;go_wp2;go_ret;rw[E1.out];exact⟨rfl,.of ⟨_,_,_,pn.out⟩ mP.out⟩
   ·have e1:d.write name off bs=(d.tick,3):=by
     unfold Dsk.write;rw[vH.out];rw[Bool.and_true]at q1;rw[q1,q2];rfl
    rw[q4];have E1:=ae e1;clear e1 q4 q3 q2 q1;go_wp2;go_ret;rw[E1.out];exact⟨rfl,.of ⟨_,_,_,pn.out⟩ mP.out⟩
   ·have e1:d.write name off bs=if f.now.length<off then (d.tick,1)
     else if 16777216<bs.length+off then (d.tick,9)
     else if gG f.now.length<gG (max f.now.length (off+bs.length))/\d.bO<er d.files+(gG (max f.now.length (off+bs.length))-gG f.now.length) then (d.tick,5)
     else ({ d.tick with files:=aS d.files name (f.laid off bs),loose:=lV d.loose name off bs.length },0):=by
     unfold Dsk.write;rw[vH.out];rw[Bool.and_true]at q1;rw[q1,q2];rfl
    rw[q4];have E1:=ae e1;have Dm:dw w2 o pf f:=pn.out.each _ (eK q3);have HFA:=ae Dm;have HQ:=ae q3;clear e1 q4 q3 q2 q1;obtain⟨v,u,⟨QN,-⟩,⟨hz0,-⟩,hrow,hown,-,-⟩:=Dm.cells;have jq:=Dm.most.1;obtain⟨va,vc,rfl⟩:=aA hrow;have GF:=ae hrow;have wy:=ae hown;clear hrow hown Dm;by_cases JQ:f.now.length<off
    ·go_wp2;go_ret;rw[E1.out,if_pos JQ];exact⟨rfl,.of ⟨_,_,_,pn.out⟩ mP.out⟩
    ·by_cases QW:16777216<bs.length+off
     ·go_wp2;go_ret;rw[E1.out,if_neg JQ,if_pos QW];exact⟨rfl,.of ⟨_,_,_,pn.out⟩ mP.out⟩
     ·go_wp2_with (refine nL rfl _ _ _ _ rfl f.now.length (off+bs.length) rfl rfl rfl af ?_;intro E hE;have HE:=ae hE;have hE1:f.now.length<=E:=(by omega);have hE2:off+bs.length<=E:=(by omega);have hE3:E<=16777216:=(by omega);clear hE);go_quiet ((go_at_call 266;exact Calls.quiet_of_same ((xW _ _ af).mono (fun e w' h=>⟨h.1,h.2.symm⟩))))
      go_wp2_with fail;obtain⟨M,hM⟩:∃M:Nat,M=gG E-gG f.now.length:=⟨_,rfl⟩;have hM':((E:Int)+63)/64-((f.now.length:Int)+63)/64=(M:Int):=by
       unfold gG at hM;omega
      rw[hM'];have hMb:M<=1048576:=by unfold gG at hM;omega
      have HM:=ae hM;clear hM hM';rcases Nat.lt_or_ge 0 M with Zq | ade;case' inl=>
       have amd:(0:Int)<(M:Int):=by omega
       have hu:=pn.out.ok.used;obtain⟨U,hU⟩:∃U:Nat,U=er d.tick.files:=⟨_,rfl⟩;rw[<- hU]at hu;have HU:=ae hU;clear hU;obtain⟨Q,hQ⟩:∃Q:Nat,Q=d.tick.bO:=⟨_,rfl⟩;have hQb:=pn.out.ok.bO;rw[<- hQ]at hQb;have HQQ:=ae hQ;clear hQ;have hwU:IntKind.i64.wrap ((U:Int)+(M:Int))=(U:Int)+(M:Int):=by
        simp[IntKind.wrap,IntKind.bits,IntKind.signed];omega
       refine cP (Below w2.heap.size w2) ah ah ((below_drewN ak _).drew) ?_;refine q_op rfl (fun w' hw'=>(by go_simp;rfl)) (fun K hK=>?_);go_simp;refine hK _ ?_;clear hK K;refine q_op rfl (fun w' hw'=>(by go_simp;rfl)) (fun K hK=>?_);go_simp;refine hK _ ?_;clear hK K;refine q_op rfl (fun w' hw'=>(by go_simp;rfl)) (fun K hK=>?_);go_simp;refine hK _ ?_;clear hK K;refine q_op rfl (fun w' hw'=>(by go_simp;rfl)) (fun K hK=>?_);go_simp;refine hK _ ?_;clear hK K;refine sS rfl (fun w' hw'=>(by go_simp;rfl)) (fun w' hw'=>((QQ (db:=db) (o:=o) (d:=d.tick) ⟨mf,ml,l,pn.out.below hw'⟩).mono (fun e w'' h=>⟨h.1,hw'.trans (h.2.mono hw'.size)⟩))) (fun K hK=>?_);go_simp;refine hK _ ?_;clear hK K;rw[<- HU.out];iterate 5 (refine q_op rfl (fun w' hw'=>(by go_simp;rfl)) (fun K hK=>?_);go_simp;refine hK _ ?_;clear hK K)
       refine q_op (v:=.int .i64 (Q:Int)) rfl (fun w' hw'=>(by have hcq:=(pn.out.below hw').head.cells.1.2.2.1;rw[<- HQQ.out]at hcq;go_simp)) (fun K hK=>?_);go_simp;refine hK _ ?_;clear hK K;iterate 2 (refine q_op rfl (fun w' hw'=>(by go_simp;rfl)) (fun K hK=>?_);go_simp;refine hK _ ?_;clear hK K)
       refine wpQuiet_nil ?_;intro w3 hw3;have MO:=ae (pn.out.below hw3);have rB:=ae (mP.out.bN hw3);have jJ:=ae hw3;clear hw3;by_cases fD:Q<U+M
       ·go_wp2;go_ret;rw[E1.out,if_neg JQ,if_neg QW,if_pos ⟨by have:=HM.out;rw[<- HE.out];omega,by
         have h1:=HM.out;have h2:=HE.out;have h3:=HU.out;have h4:=HQQ.out
         rw[Dsk.dy]at h3;rw[Dsk.sX]at h4;rw[<- h2,<- h3,<- h4,<- h1];exact fD⟩]
        exact⟨rfl,.of ⟨_,_,_,MO.out⟩ rB.out⟩
       have MQ:Hid (¬(gG f.now.length<gG (max f.now.length (off+bs.length))/\d.bO<er d.files+(gG (max f.now.length (off+bs.length))-gG f.now.length))):=ae (by
        have h1:=HM.out;have h2:=HE.out;have h3:=HU.out;have h4:=HQQ.out
        rw[Dsk.dy]at h3;rw[Dsk.sX]at h4;rw[<- h2,<- h3,<- h4,<- h1];exact fun h=>fD h.2)
       have hroom:Hid (er d.files+M<=1048576):=ae (by
        have h3:=HU.out;rw[Dsk.dy]at h3;rw[<- h3];omega)
       go_wp2;refine p7 (Below w2.heap.size w2) 1 12 ah ah ((jJ.out.drew)) ?_
      case' inr=>
       have MQ:Hid (¬(gG f.now.length<gG (max f.now.length (off+bs.length))/\d.bO<er d.files+(gG (max f.now.length (off+bs.length))-gG f.now.length))):=ae (by
        have h1:=HM.out;have h2:=HE.out
        rw[<- h2];exact fun h=>by omega)
       have hroom:Hid (er d.files+M<=1048576):=ae (by
        have h3:=pn.out.ok.used;rw[Dsk.dy]at h3;omega)
       have hdec:decide ((0:Int)<(M:Int))=false:=by
        have:M=0:=by omega
        simp[this]
       have ame:decide (0<M)=false:=by
        have:M=0:=by omega
        simp[this]
       have amf:¬0<M:=by omega
       clear ade hMb;go_quiet (fail)
       go_wp2;refine p7 (Below w2.heap.size w2) 1 12 ah ah (((below_drewN (below_drewN ak _) _).drew)) ?_
      all_goals
       simp only[List.take_succ_cons,List.take_zero,List.drop_succ_cons,List.drop_zero];refine p_op rfl (fun w'=>(by go_simp<;>rfl)) (fun K hK=>?_);go_simp;refine hK _ ?_;clear hK K;refine ac6 ?_;iterate 3 (refine qz ?_)
       refine qz ?_ (fun w' hw'=>by have hc:=hw'.cell (p:=⟨pf,0,none⟩) (HFA.out.lt);rw[QN]at hc;go_simp<;>rfl);iterate 4 (refine qz ?_)
       refine qz ?_ (fun w' hw'=>by have hc:=hw'.cell (p:=⟨pf,0,none⟩) (HFA.out.lt);rw[QN]at hc;go_simp<;>rfl);have hwE:IntKind.i64.wrap ((E:Int)-(f.now.length:Int))=(E:Int)-(f.now.length:Int):=Zp af af;iterate 2 (refine qz ?_)
       refine wpQuiet_nil ?_;intro w4 hw4;have QL:=ae (pn.out.below hw4);have vI:=ae (mP.out.bN hw4);have MR:=ae (aW GF.out hw4);have po:w4.cell? ⟨pf,0,none⟩=some (.slice va f.now.length vc):=by rw[hw4.cell (p:=⟨pf,0,none⟩) HFA.out.lt];exact QN
       have ye:=ae po;have vF:w4.frozen? ⟨pf,0,none⟩=false:=by rw[hw4.frozen (p:=⟨pf,0,none⟩) HFA.out.lt];exact hz0
       have N7:Hid (dw w4 o pf f):=ae (QL.out.each _ (eK HQ.out));clear hw4 QN hz0 HFA;refine kY rfl _ _ 39 3 .i64 rfl 0 5 Tryz.underlying39 Tryz.underlying3 ll _ f.now.length _ rfl MR.out (E-f.now.length) (by show Value.int .i64 _=Value.int .i64 _;congr 1;omega) af (Nat.zero_le _) ?_;intro v5 w5 XK P9 adf;rw[zY hE1]at XK;obtain⟨a5,c5,rfl⟩:=aA XK;have qE:=ae (N7.out.extend ye.out wy.out (QT (by rw[zY hE1];exact XK) hE1) P9 adf QL.out.owned (by rw[zZ hE1];exact hE3));have Gb:w5.cell? ⟨pf,0,none⟩=some (.slice va f.now.length vc):=by rw[Kr P9 (N7.out.apart wy.out) N7.out.lt];exact ye.out
       have UL:w5.frozen? ⟨pf,0,none⟩=false:=by rw[EB P9 (N7.out.apart wy.out) N7.out.lt];exact vF
       have Vp:=ae XK;clear XK P9 adf vF po;go_wp2;simp only[XO];have hE5:E<=c5:=N5 Vp.out;have sY:(f.now++List.replicate (E-f.now.length) (0:UInt8)).length=E:=zZ hE1;have HD6:=ae (QL.out.Kn HQ.out qE.out.2.2.1 qE.out.2.1 qE.out.1 qE.out.2.2.2.2.1 (by
        have h1:=sW QL.out.GD (QL.out.get HQ.out);rw[jT];dsimp only at h1 ⊢;rw[sY];have h2:=hroom.out;have h3:=HM.out;rw[Dsk.dy]at h1 ⊢;omega))
       have QX:=ae (vI.out.trans qE.out.2.2.1 (fun x _ hx=>lU.in hx N7.out.own));have Zr:=ae qE.out.1;have Zs:=ae qE.out.2.2.2.2.2;have HK6:=ae qE.out.2.1;have HG6:=ae qE.out.2.2.2.1;have GK:=ae sY;have hp6:=Zs.out;clear qE Vp Gb UL sY hwE;generalize w5.setCell ⟨pf,0,none⟩ (.slice a5 E c5)=w6 at *;generalize hxs:f.now++List.replicate (E-f.now.length) (0:UInt8)=xs at *;have adh:Hid (f.laid off bs=⟨over xs off bs,f.gZ⟩):=ae (by unfold bT.laid;rw[<- HE.out,hxs]);clear hxs;have gH:=ae (QX.out.rd HSV.out (fun b hb=>au.dE (P8.out b hb)));have XP:w6.ownsRow 0 5 1 (.slice a5 E c5) xs.length (xs.map bv)/\∀b,(Value.slice a5 E c5).ownBlock=some b->(o.put (.slice a5 E c5) (4,pf)) b=some (4,pf):=by
        obtain⟨v,u,⟨h0,-⟩,-,h1,h2,-⟩:=Zr.out.cells;obtain rfl:v=.slice a5 E c5:=Option.some.inj (h0.symm.trans Zs.out);exact⟨h1,h2⟩
       have Kt:=ae XP;clear XP;obtain⟨w7,QY,ho7,Qa⟩:=Ck (P:=prog) (w:=w6) 39 39 3 5 Tryz.underlying39 ah 0 (.slice a5 E c5) xs bs Kt.out.1 off (by rw[GK.out];exact hE2) (E-off) (by rw[GK.out]) (.slice sa bs.length ah7) gH.out;have adi:=QY (a5.map (fun x=>x.add off)) (c5-off) (fun _ g hg=>QU Kt.out.1 hg off);have XQ:c5=off->_:=fun hc=>QY a5 0 (fun h=>absurd h af);clear QY;have HO7:=ae ho7;have UN:=ae Qa;clear ho7 Qa;have hov:(over xs off bs).length=E:=by rw[xY (by rw[GK.out];exact hE2),GK.out]
       have HD7:=ae (HD6.out.Kn (f:={ f with now:=xs }) (by rw[ay,if_pos rfl]) (UN.out.mono (S':=lU (o.put (.slice a5 E c5) (4,pf)) pf) (fun x _ hx=>.inr (.inl (Kt.out.2 x hx)))) (fun _ _ h=>h) (Zr.out.Zo Zs.out Kt.out.2 (by rw[hov];have h:=HO7.out;rw[GK.out]at h;exact h) UN.out (by rw[hov];exact hE3)) (fun x t hx=>Nat.lt_of_lt_of_le (HD6.out.owned x t hx) UN.out.size) (by
        have h1:=HD6.out.ok.used;rw[iZ];dsimp only at h1 ⊢;rw[jT]at h1 ⊢;dsimp only at h1 ⊢;rw[hov];rw[GK.out]at h1;exact h1))
       have HT8:=ae (QX.out.trans UN.out (S':=fun x=>(Value.slice a5 E c5).ownBlock=some x) (fun x hx e=>by
        rcases Nat.lt_or_ge x w4.heap.size with h1 | h1
        ·have h2:=HG6.out x h1;have h3:=Kt.out.2 x e;rw[h2]at h3;exact⟨_,h3,by show 4<6;decide⟩
        ·have:=vI.out.size;omega))
       clear hov Zr Zs HO7 UN gH;obtain⟨⟨-,N8,-⟩,-⟩:=HD7.out.head.cells;have MS:bs.length<=16777216:=by omega
       by_cases GL:c5=off;case' pos=>
        have ami:=XQ GL;clear adi
       clear XQ;all_goals
        go_wp2;go_loopw [103] (fun i wr=>∃k:Nat,k<=bs.length/\i=.int .i64 (k:Int)/\aG (·=ml) w7 wr/\zP wr ml (lV d.loose name off k)) (fun i _=>bs.length-(intOf i).toNat)
        case atStart=>exact⟨0,Nat.zero_le _,rfl,aG.refl _ _,by have:=HD7.out.loose;dsimp only at this;rw[Dsk.lT]at this;exact this⟩
        case round=>
         obtain⟨k,hk,rfl,ht,hm⟩:=hrel;by_cases Vf:k<bs.length/\c5≠off
         ·first
          |exact absurd GL Vf.2
          | (obtain⟨hlt,-⟩:=Vf
             have hc8:wr.cell? ⟨db,1,none⟩=some (.map (some ml)):=ht.cell N8 (au.ne HD7.out.Cg HD7.out.Ci ag);have QZ:Hid (Good prog 116 (eD (name,(off+k)/64))):=ae (N0 (by unfold maxLen;omega) af);have sf:=ae hm;have HT9:=ae ht;clear hm ht;go_wp2_with (at_mapUpdate;refine eL _ rfl _ _ _ _ rfl 4 zO fM Tryz.underlying111 ml (lV d.loose name off k) rfl sf.out (name,(off+k)/64) () (by show Value.agg #[Value.string name,Value.int .i64 (((off:Int)+(k:Int))/64)]=eD (name,(off+k)/64);unfold eD;rw[show(((off+k)/64:Nat):Int)=((off:Int)+(k:Int))/64 by omega]) rfl QZ.out ?_;intro es clock XR);go_roundw
             case rel=>exact⟨k+1,af,by go_num,HT9.out.setBlock ml _ (.inl rfl),XR⟩
             case measure=>simp[intOf];omega)
         ·obtain rfl:k=bs.length:=by omega
          have HDF:=ae (HD7.out.MN ht hm);have HTF:=ae (HT8.out.trans ht (S':=fun x=>x=ml) (fun x _ e=>⟨_,e▸pn.out.Ci,by show 2<6;decide⟩));clear hm ht;go_wp2;go_ret;rw[E1.out,if_neg JQ,if_neg QW,if_neg MQ.out];have hN:=HDF.out;simp only[iZ,Dsk.dy]at hN;rw[adh.out];exact⟨rfl,_,⟨_,_,_,hN⟩,HTF.out,fun x hx=>HG6.out x (Nat.lt_of_lt_of_le hx vI.out.size)⟩
end
end Go.Proofs.YthkkgdpomhhjjaaGreatDoor
