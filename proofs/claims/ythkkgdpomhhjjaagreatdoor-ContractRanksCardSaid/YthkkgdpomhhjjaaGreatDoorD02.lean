/-
  Joined.
-/
import Derived.Test.YthkkgdpomhhjjaaGreatDoorD01
import Derived.Laws.CopyOwn
import Derived.Orders
set_option maxRecDepth 100000
set_option maxHeartbeats 8000000
namespace Go.Proofs.YthkkgdpomhhjjaaGreatDoor
open Go.Proofs.Tryz
section
open Go.RowKit Go.Maps Go.MapKept
open Go.ChangeMaps (setBlock heap_setBlock_same heap_setBlock_other)
abbrev Name:=ByteArray
structure bR where
 now:List UInt8
 gw:List UInt8
structure Dsk where
 files:List (Name×bR)
 loose:List ((Name×Nat)×Unit)
 bD:Nat
 cM:Nat
 dead:Bool
namespace Dsk
def tick(d:Dsk):Dsk:=if 0<d.cM then { d with cM:=d.cM-1,dead:=d.dead || d.cM-1 == 0 } else d
def err(d:Dsk):Nat:=if d.dead then 6 else 0
end Dsk
def gy(n:Nat):Nat:=(n+63)/64
def ep(fs:List (Name×bR)):Nat:=(fs.map (fun p=>gy p.2.now.length)).sum
structure Dsk.Ok(d:Dsk):Prop where
 bD:d.bD<=1048576
 cM:d.cM<9223372036854775808
 used:ep d.files<=1048576
theorem Gf{a b:List (Name×bR)}(h:a.Perm b):ep a=ep b:=(h.map _).sum_nat
theorem rU(fs:List (Name×bR))(name:Name):ep (b8 fs name)<=ep fs:=by
 unfold ep b8;induction fs with
 |nil=>simp
 |cons p fs ih=>
   grind
theorem jN(fs:List (Name×bR))(name:Name)(f:bR):ep (aS fs name f)=gy f.now.length+ep (b8 fs name):=by
 rfl
theorem sR{fs:List (Name×bR)}{name:Name}{f:bR}(hk:(fs.map (·.1)).Nodup)(h:aB fs name=some f):ep fs=gy f.now.length+ep (b8 fs name):=by
 rw[<- jN fs name f];obtain⟨j,hj⟩:=List.mem_iff_getElem?.1 (eM h);grind [set_perm,List.set_getElem_self,Gf]
def jd(b:UInt8):Bool:=(decide (97<=b.toNat) && decide (b.toNat<=122)) || (decide (48<=b.toNat) && decide (b.toNat<=57)) || b.toNat == 46 || b.toNat == 45
def bM(s:Name):Bool:=s.data.toList.all jd && decide (1<=s.size) && decide (s.size<=24)
theorem Gg{s:Name}(h:bM s=true):s.size<=24:=by
 grind [bM]
def ptrTo(b:Nat):Value:=.pointer (some ⟨b,0,none⟩)
theorem aq{w:World}{b:Nat}{cs:Array Value}{t:TypeId}(h:w.heap[b]? = some (.cells cs t))(i:Nat):w.cell? ⟨b,i,none⟩=cs[i]? := by
 simp[World.cell?,h]
theorem aO{w:World}{b:Nat}{cs:Array Value}{t:TypeId}(h:w.heap[b]? = some (.cells cs t))(i:Nat):w.frozen? ⟨b,i,none⟩=false:=by
 simp[World.frozen?,h]
theorem aT{w:World}{b:Nat}{cs:Array Value}{t:TypeId}(h:w.heap[b]? = some (.cells cs t))(i:Nat)(u:Value):(w.setCell ⟨b,i,none⟩ u).heap[b]? = some (.cells (cs.setIfInBounds i u) t):=by
 grind [World.setCell]
def po(c:Nat):Prop:=c<6
structure dy(w:World)(o:ar)(pf:Nat)(f:bR):Prop where
 own:o pf=some (3,0)
 rows:∃t v u,w.heap[pf]? = some (.cells #[v,u] t)/\w.ownsRow 0 5 1 v f.now.length (f.now.map bv)/\(∀b,v.ownBlock=some b->o b=some (4,pf)) /\
  w.ownsRow 0 5 1 u f.gw.length (f.gw.map bv)/\∀b,u.ownBlock=some b->o b=some (5,pf)
 most:f.now.length<=16777216/\f.gw.length<=16777216
def ij(w:World)(db mf ml:Nat)(bD cM:Nat)(dead:Bool):Prop:=
 ∃t,w.heap[db]? = some (.cells #[.map (some mf),.map (some ml),.int .i64 (bD:Int),.int .i64 (cM:Int),.bool dead] t)
abbrev FileMap:=bO prog 9 Value.string (fun x:Nat×bR=>ptrTo x.1)
abbrev zx:=bO prog 116 eE (fun _:Unit=>.bool true)
structure cJ(w:World)(db:Nat)(o:ar)(mf ml:Nat)(l:List (Name×(Nat×bR)))(d:Dsk):Prop where
 zy:o db=some (0,0)
 B0:o mf=some (1,0)
 B5:o ml=some (2,0)
 head:ij w db mf ml d.bD d.cM d.dead
 files:FileMap w mf l
 strip:l.map (fun p=>(p.1,p.2.2))=d.files
 apart:(l.map (·.2.1)).Nodup
 each:∀p∈l,dy w o p.2.1 p.2.2
 loose:zx w ml d.loose
 owned:∀x t,o x=some t->x<w.heap.size
 ok:d.Ok
def cK(w:World)(db:Nat)(o:ar)(d:Dsk):Prop:=∃mf ml l,cJ w db o mf ml l d
section
variable {S:Nat->Prop} {w w':World} {o o':ar} {db mf ml pf:Nat} {l:List (Name×(Nat×bR))} {d:Dsk} {f:bR}
theorem aH.heap(ht:aH S w w'){b:Nat}{x:Obj}(h:w.heap[b]? = some x)(hs:¬S b):w'.heap[b]? = some x:=
 (ht.block b (by grind) hs).trans h
theorem dy.kept'(h:dy w o pf f)(ht:aH S w w')(hp:¬S pf)(h4:∀x,o x=some (4,pf)->¬S x)(h5:∀x,o x=some (5,pf)->¬S x)(ho:∀x t,o x=some t->o' x=some t):dy w' o' pf f:=by
 obtain⟨h1,⟨t,v,u,h2,h3,k4,h6,h7⟩,h8⟩:=h;exact⟨ho _ _ h1,⟨t,v,u,ht.heap h2 hp,ht.ownsRow h3 (by grind),(by grind),ht.ownsRow h6 (by grind),(by grind)⟩,h8⟩
theorem dy.kept(h:dy w o pf f)(ht:aH S w w')(hs:∀x t,o x=some t->3<=t.1->t.1<6->¬S x)(ho:∀x t,o x=some t->o' x=some t):dy w' o' pf f:=
 h.kept' ht (hs _ _ h.own af af) (by grind) (by grind) ho
theorem ij.kept{q a:Nat}{b:Bool}(h:ij w db mf ml q a b)(ht:aH S w w')(hs:¬S db):ij w' db mf ml q a b:=by
 obtain⟨t,h⟩:=h;exact⟨t,ht.heap h hs⟩
theorem ij.cells{q a:Nat}{b:Bool}(h:ij w db mf ml q a b) :
 (w.cell? ⟨db,0,none⟩=some (.map (some mf))/\w.cell? ⟨db,1,none⟩=some (.map (some ml))/\w.cell? ⟨db,2,none⟩=some (.int .i64 (q:Int))/\w.cell? ⟨db,3,none⟩=some (.int .i64 (a:Int))/\w.cell? ⟨db,4,none⟩=some (.bool b)) /\
   w.frozen? ⟨db,2,none⟩=false/\w.frozen? ⟨db,3,none⟩=false/\w.frozen? ⟨db,4,none⟩=false:=by
 obtain⟨t,h⟩:=h;refine⟨⟨?_,?_,?_,?_,?_⟩,aO h _,aO h _,aO h _⟩<;>rw[aq h]<;>rfl
theorem ij.set{q a:Nat}{b:Bool}(h:ij w db mf ml q a b)(a':Nat)(b':Bool):ij ((w.setCell ⟨db,3,none⟩ (.int .i64 (a':Int))).setCell ⟨db,4,none⟩ (.bool b')) db mf ml q a' b':=by
 obtain⟨t,h⟩:=h;exact⟨t,by rw[aT (aT h _ _)];rfl⟩
theorem bO.turn{κ υ:Type}{P:Program}{kt:TypeId}{ek:κ->Value}{ev:υ->Value}{b:Nat}{m:List (κ×υ)}(h:bO P kt ek ev w b m)(ht:aH S w w')(hs:¬S b):bO P kt ek ev w' b m:=
 h.kept (ht.block b h.lt hs)
theorem cJ.kept(h:cJ w db o mf ml l d)(ht:aH S w w')(hs:∀x t,o x=some t->t.1<6->¬S x)(ho:∀x t,o x=some t->o' x=some t)(hb:∀x t,o' x=some t->x<w'.heap.size):cJ w' db o' mf ml l d where
 zy:=ho _ _ h.zy
 B0:=ho _ _ h.B0
 B5:=ho _ _ h.B5
 head:=h.head.kept ht (hs _ _ h.zy af)
 files:=h.files.turn ht (hs _ _ h.B0 af)
 strip:=h.strip
 apart:=h.apart
 each:=fun p hp=>(h.each p hp).kept ht (by grind) ho
 loose:=h.loose.turn ht (hs _ _ h.B5 af)
 owned:=hb
 ok:=h.ok
theorem cK.kept(h:cK w db o d)(ht:aH S w w')(hs:∀x t,o x=some t->t.1<6->¬S x)(ho:∀x t,o x=some t->o' x=some t)(hb:∀x t,o' x=some t->x<w'.heap.size):cK w' db o' d:=by
 obtain⟨mf,ml,l,h⟩:=h;exact⟨mf,ml,l,h.kept ht hs ho hb⟩
theorem cJ.below(h:cJ w db o mf ml l d)(hb:Below w.heap.size w w'):cJ w' db o mf ml l d:=
 h.kept (S:=fun _=>False) (aH.aW hb) (by grind) (by grind) (fun x t hx=>Nat.lt_of_lt_of_le (h.owned x t hx) hb.size)
theorem cK.below(h:cK w db o d)(hb:Below w.heap.size w w'):cK w' db o d:=by
 obtain⟨mf,ml,l,h⟩:=h;exact⟨mf,ml,l,h.below hb⟩
theorem cJ.vI(h:cJ w db o mf ml l d)(ht:aH (·=db) w w'){q a:Nat}{b:Bool}(hh:ij w' db mf ml q a b)(hq:q<=1048576)(ha:a<9223372036854775808):cJ w' db o mf ml l { d with bD:=q,cM:=a,dead:=b } where
 zy:=h.zy
 B0:=h.B0
 B5:=h.B5
 head:=hh
 files:=h.files.turn ht (ar.ne h.B0 h.zy af)
 strip:=h.strip
 apart:=h.apart
 each:=fun p hp=>(h.each p hp).kept ht (fun x t hx h3 _=>ar.ne hx h.zy (by grind)) (by grind)
 loose:=h.loose.turn ht (ar.ne h.B5 h.zy af)
 owned:=fun x t hx=>Nat.lt_of_lt_of_le (h.owned x t hx) ht.size
 ok:=⟨hq,ha,h.ok.used⟩
theorem cJ.Ee(h:cJ w db o mf ml l d)(ht:aH S w w')(hS:∀x,S x->x=mf\/∃t,o x=some t/\3<=t.1)(hk:∀x t,o x=some t->o' x=some t){l':List (Name×(Nat×bR))}(Yq:FileMap w' mf l')(Yr:(l'.map (·.2.1)).Nodup)(C6:∀p∈l',dy w' o' p.2.1 p.2.2)(zA:∀x t,o' x=some t->x<w'.heap.size)(Gh:ep (l'.map (fun p=>(p.1,p.2.2)))<=1048576) :
 cJ w' db o' mf ml l' { d with files:=l'.map (fun p=>(p.1,p.2.2)) }:=by
 have hn:∀x t,o x=some t->t.1<3->x≠mf->¬S x:=(by grind);exact {
  zy:=hk _ _ h.zy
  B0:=hk _ _ h.B0
  B5:=hk _ _ h.B5
  head:=h.head.kept ht (hn _ _ h.zy af (ar.ne h.zy h.B0 af))
  files:=Yq
  strip:=rfl
  apart:=Yr
  each:=C6
  loose:=h.loose.turn ht (hn _ _ h.B5 af (ar.ne h.B5 h.B0 af))
  owned:=zA
  ok:=⟨h.ok.bD,h.ok.cM,Gh⟩ }
end
section
variable {l:List (Name×(Nat×bR))} {name:Name}
def bare(l:List (Name×(Nat×bR))):List (Name×bR):=l.map (fun p=>(p.1,p.2.2))
theorem vJ:aB (bare l) name=(aB l name).map (·.2):=by
 unfold bare aB;induction l with
 |nil=>rfl
 |cons p l ih=>
   grind
theorem C7:bare (b8 l name)=b8 (bare l) name:=by
 unfold bare b8;rw[List.filter_map];rfl
theorem C8{x:Nat×bR}:bare (aS l name x)=aS (bare l) name x.2:=by
 unfold aS;rw[<- C7];rfl
theorem J1(h:(l.map (·.2.1)).Nodup):((b8 l name).map (·.2.1)).Nodup:=(List.filter_sublist.map _).nodup h
theorem Qi(h:(l.map (·.2.1)).Nodup){p q:Name×(Nat×bR)}(hp:p∈l)(hq:q∈l)(e:p.2.1=q.2.1):p=q:=by
 induction l with
 |nil=>cases hp
 |cons x l ih=>
   grind
theorem Ys(h:(l.map (·.2.1)).Nodup){x:Nat×bR}(hx:aB l name=some x)(f:bR):((aS l name (x.1,f)).map (·.2.1)).Nodup:=by
 unfold aS;rw[List.map_cons,List.nodup_cons];refine⟨fun hm=>?_,J1 h⟩;obtain⟨q,hq,e⟩:=List.mem_map.1 hm;obtain⟨hq,hne⟩:=gu.1 hq;have:=Qi h hq (eM hx) e;grind
theorem Nt{κ υ:Type}[DecidableEq κ]{m:List (κ×υ)}(hk:(m.map (·.1)).Nodup){k:κ}{v:υ}(h:aB m k=some v):(aS m k v).Perm m:=by
 obtain⟨j,hj⟩:=List.mem_iff_getElem?.1 (eM h);refine(set_perm hk hj v).symm.trans ?_;have:m.set j (k,v)=m:=by
  grind [List.set_getElem_self]
 rw[this]
theorem Nu{α β:Type}{g:α->β}{L X:List β}(h:L.Perm X):∀{m:List α},X=m.map g->∃l:List α,l.Perm m/\L=l.map g:=by
 induction h with
 |nil=>simp
 |cons x _ ih=>
   intro m e;cases m with
   |nil=>cases e
   |cons p m=>
     rw[List.map_cons,List.cons.injEq]at e;obtain⟨l,hl,e2⟩:=ih e.2;exact⟨p::l,hl.cons p,by grind⟩
 |swap x y l=>
   intro m e;match m,e with
   |p::q::m,e=>
     rw[List.map_cons,List.map_cons,List.cons.injEq,List.cons.injEq]at e;exact⟨q::p::m,.swap _ _ _,by grind⟩
 |trans _ _ ih1 ih2=>
   intro m e;obtain⟨l2,h2,e2⟩:=ih2 e;obtain⟨l1,h1,e1⟩:=ih1 e2;grind [List.Perm.trans]
theorem bO.abT{κ υ:Type}{P:Program}{kt:TypeId}{ek:κ->Value}{ev:υ->Value}{w:World}{b:Nat}{m m':List (κ×υ)}(h:bO P kt ek ev w b m)(he:m.map (fun p=>(ek p.1,ev p.2))=m'.map (fun p=>(ek p.1,ev p.2))):bO P kt ek ev w b m':=by
 obtain⟨es,clock,l,hb,hp,h1,h2,h3⟩:=h;have mz:(l.map (fun p=>(ek p.1,ev p.2))).Perm (m'.map (fun p=>(ek p.1,ev p.2))):=(by grind);rw[<- h2]at mz;obtain⟨l',hl',e⟩:∃l':List (κ×υ),l'.Perm m'/\es.toList.map (fun e=>(e.key,e.val))=l'.map (fun p=>(ek p.1,ev p.2)):=by
  exact Nu mz rfl
 refine⟨es,clock,l',hb,hl',h1,e,fun p P7=>?_⟩;have mA:(ek p.1,ev p.2)∈m.map (fun p=>(ek p.1,ev p.2)):=by
  grind
 grind
end
theorem iP{w:World}{db:Nat}{o:ar}{d:Dsk}(h:cK w db o d) :
 Calls prog 138 #[ptrTo db] w fun e w'=>e=.returned (.int .i64 (d.tick.err:Int))/\cK w' db o d.tick/\aH (o.In po) w w':=by
 obtain⟨mf,ml,l,h⟩:=h;obtain⟨⟨hc0,hc1,hc2,hc3,ik⟩,hf2,hf3,C9⟩:=h.head.cells;have HD:=aa h;have ha:=h.ok.cM;have HA:=aa ha;clear h ha;unfold ptrTo;by_cases h0:0<d.cM
 ·have g0:((d.cM:Int)>0):=by omega
  have e1:wrap64 ((d.cM:Int)-1)=((d.cM-1:Nat):Int):=by
   grind [Hid.out,wrap64]
  have HE :=fun a' b' ha'=>
   HD.o.vI (((aH.refl (·=db) w).setCell _ _ (.inl rfl)).setCell _ _ (.inl rfl)) (HD.o.head.set a' b') HD.o.ok.bD ha'
  have HT:∀u v,aH (o.In po) w ((w.setCell ⟨db,3,none⟩ u).setCell ⟨db,4,none⟩ v):=fun u v=>
   ((aH.refl _ _).setCell _ _ (.inl ⟨_,HD.o.zy,by show 0<6;decide⟩)).setCell _ _ (.inl ⟨_,HD.o.zy,by show 0<6;decide⟩)
  have HE:=aa HE;have HT:=aa HT;have et:d.tick={ d with cM:=d.cM-1,dead:=d.dead || d.cM-1 == 0 }:=by grind [Dsk.tick]
  unfold Dsk.err;rw[et];clear et;by_cases h1:d.cM=1
  ·have e3:d.cM-1=0:=by omega
   rw[h1]at hc3;clear e1 g0;have hx:(d.cM-1 == 0)=true:=by grind
   rw[hx,Bool.or_true,e3];clear hx e3 h1 h0;cases hd:d.dead with
   |true=>
     rw[hd]at ik;go_enter func138,ntmps138;go_wp2;go_ret;exact⟨rfl,⟨mf,ml,l,HE.o 0 true ae⟩,HT.o _ _⟩
   |false=>
     rw[hd]at ik;go_enter func138,ntmps138;go_wp2;go_ret;exact⟨rfl,⟨mf,ml,l,HE.o 0 true ae⟩,HT.o _ _⟩
  ·have g2:(d.cM-1 == 0)=false:=by grind
   rw[g2,Bool.or_false];cases hd:d.dead with
   |true=>
     rw[hd]at ik;go_enter func138,ntmps138;go_wp2;go_ret;exact⟨rfl,⟨mf,ml,l,HE.o _ _ (by grind [Hid.out])⟩,HT.o _ _⟩
   |false=>
     rw[hd]at ik;go_enter func138,ntmps138;go_wp2;go_ret;exact⟨rfl,⟨mf,ml,l,HE.o _ _ (by grind [Hid.out])⟩,HT.o _ _⟩
 ·have et:d.tick=d:=by grind [Dsk.tick]
  rw[et];unfold Dsk.err;cases hd:d.dead with
  |true=>
    rw[hd]at ik;go_enter func138,ntmps138;go_wp2;go_ret;exact⟨rfl,⟨mf,ml,l,HD.o⟩,aH.refl _ _⟩
  |false=>
    rw[hd]at ik;go_enter func138,ntmps138;go_wp2;go_ret;exact⟨rfl,⟨mf,ml,l,HD.o⟩,aH.refl _ _⟩
end
section
open Go.RowKit Go.Maps Go.MapKept
open Go.ChangeMaps (setBlock heap_setBlock_same heap_setBlock_other)
theorem tJ{w:World}{db:Nat}{o:ar}{d:Dsk}(h:cK w db o d) :
 Calls prog 263 #[ptrTo db] w fun e w'=>e=.returned (.int .i64 (d.err:Int))/\w=w':=by
 obtain⟨mf,ml,l,h⟩:=h;obtain⟨⟨hc0,hc1,hc2,hc3,ik⟩,hf2,hf3,C9⟩:=h.head.cells;clear h;unfold ptrTo Dsk.err;cases hd:d.dead with
 |true=>
   rw[hd]at ik;go_enter func263,ntmps263;go_wp2;go_ret;simp
 |false=>
   rw[hd]at ik;go_enter func263,ntmps263;go_wp2;go_ret;simp
theorem xF(n:Nat)(w:World)(h':n<=1099511627776) :
 Calls prog 266 #[.int .i64 (n:Int)] w fun e w'=>e=.returned (.int .i64 (((n+63)/64:Nat):Int))/\w=w':=by
 go_enter func266,ntmps266;go_wp2;go_ret;refine⟨?_,rfl⟩;simp;omega
theorem Ef{s:Name}{j:Nat}(hj:j<s.data.toList.length)(h:jd s.data.toList[j]=false):bM s=false:=by
 grind [bM]
def Ux(s:Name)(j:Nat):Prop:=∀k(h:k<s.data.toList.length),k<j->jd s.data.toList[k]=true
theorem Ux.all{s:Name}(h:Ux s s.size):s.data.toList.all jd=true:=by
 rw[List.all_eq_true];intro b hb;obtain⟨k,hk,rfl⟩:=List.getElem_of_mem hb;exact h k hk (by assumption)
set_option linter.unusedSimpArgs false in
theorem rh(s:Name)(w:World)(hs:s.size<=1000) :
 Calls prog 199 #[.string s] w fun e w'=>e=.returned (.bool (bM s))/\Below w.heap.size w w':=by
 have hr:=aa (rT w s hs);have hb:=aa (Joins.below_bytesWorld w.heap.size w 5 s (Nat.le_refl _));have hcv:=fun W=>Lib.run_convert_string_bytes (P:=prog) W 9 39 5 s Tryz.underlying9 Tryz.underlying39 Tryz.underlying5;go_enter func199,ntmps199;go_wp2;clear hcv;have hlen:s.data.toList.length=s.size:=by rfl
 have hl:=aa hlen;clear hlen;obtain⟨a,cap,hv,_,_,hc⟩:=hr.o;simp only[Value.slice.injEq]at hv;obtain⟨rfl,hv2,_⟩:=hv;have HC:=aa hc;clear hc hv2 hr;go_loop [8] (fun i=>∃j:Nat,j<=s.size/\i=.int .i64 j/\Ux s j) (fun i=>s.size-(intOf i).toNat)
 case atStart=>exact⟨0,ae,rfl,fun k _ h=>by omega⟩
 case round=>
  obtain⟨j,hj,rfl,eD⟩:=hrel;by_cases hlt:j<s.size
  ·have kY:j<s.data.toList.length:=by simp_all
   rcases HC.o with hc |⟨b,off,hbo,hc⟩
   ·omega
   simp only[Option.some.injEq,Addr.mk.injEq]at hbo;obtain⟨rfl,rfl,_⟩:=hbo;have hcell:=hc j kY;rw[Nat.zero_add]at hcell;clear hc;unfold bv at hcell;have hby:=(s.data.toList[j]).toNat_lt;generalize hB:s.data.toList[j]=B at hcell hby
   have HB:=aa hB;clear hB;generalize hN:B.toNat=N at hcell hby
   have HN:=aa hN;clear hN;have Uy:Hid (jd B=false->bM s=false):=aa (fun h=>Ef kY (by grind [Hid.out]));have Qj:Hid (jd B=true->Ux s (j+1)):=aa (fun h k hk hkj=>by
    by_cases e:k=j
    ·grind [Hid.out]
    ·exact eD k hk ae)
   have an6:Hid (jd B=((decide (97<=N) && decide (N<=122)) || (decide (48<=N) && decide (N<=57)) || N == 46 || N == 45)):=aa (by grind [jd,Hid.out]);clear HB HN;go_wp2;all_goals first
    | (go_ret
       have hz:bM s=false:=Uy.o (by grind [Hid.out]);rw[hz];exact⟨rfl,hb.o⟩)
    | (go_round
       case rel=>
        refine⟨_,_,_,⟨j+1,ae,?_,Qj.o ?_⟩,rfl,rfl,rfl⟩
        ·go_num
        grind [Hid.out]
       grind [intOf])
  ·obtain rfl:j=s.size:=by omega
   have hall:=aa eD.all;clear eD;by_cases h1:1<=s.size
   ·by_cases h2:s.size<=24
    ·go_wp2;go_ret;refine⟨?_,hb.o⟩;unfold bM;rw[hall.o];simp[h1,h2];omega
    ·go_wp2;go_ret;refine⟨?_,hb.o⟩;unfold bM;rw[hall.o];simp[h1,h2];omega
   ·go_wp2;go_ret;refine⟨?_,hb.o⟩;unfold bM;simp_all
def je(l:List (Name×(Nat×bR)))(name:Name)(fine:Bool):Value×Nat:=
 if bM name && fine then (match aB l name with | some x=>(ptrTo x.1,0) | none=>(.pointer none,3)) else (.pointer none,1)
theorem om{w:World}{db mf ml:Nat}{o:ar}{l:List (Name×(Nat×bR))}{d:Dsk}(h:cJ w db o mf ml l d)(name:Name)(fine:Bool)(hs:name.size<=1000) :
 Calls prog 139 #[ptrTo db,.string name,.bool fine] w fun e w'=>e=.returned (.tuple #[(je l name fine).1,.int .i64 ((je l name fine).2:Int)])/\Below w.heap.size w w':=by
 have HD:=aa h;clear h;unfold ptrTo;cases eD:bM name with
 |false=>
   have e1:je l name fine=(.pointer none,1):=by grind [je]
   rw[e1];have PE:=aa eD;clear eD;go_enter func139,ntmps139;go_wp2_with fail;refine(rh _ _ hs).mono ?_;rintro e w1⟨rfl,hb1⟩;rw[PE.o];go_wp2;go_returns;simp_all
 |true=>
   have PE:=aa eD;cases fine with
   |false=>
     have e1:je l name false=(.pointer none,1):=by grind [je]
     rw[e1];clear eD;go_enter func139,ntmps139;go_wp2_with fail;refine(rh _ _ hs).mono ?_;rintro e w1⟨rfl,hb1⟩;rw[PE.o];go_wp2;go_returns;simp_all
   |true=>
     have hg:=qs (s:=name) (by grind [maxLen]);have hz:∀W:World,(zeroValue 109).run prog W=.ok (.pointer none) W:=fun W=>by rfl
     cases hm:aB l name with
     |none=>
       have e1:je l name true=(.pointer none,3):=by grind [je]
       rw[e1];have HM:=aa hm;clear hm eD e1;go_enter func139,ntmps139;go_wp2_with fail;refine(rh _ _ hs).mono ?_;rintro e w1⟨rfl,hb1⟩;rw[PE.o];have uZ:=aa (HD.o.below hb1);obtain⟨⟨hc0,hc1,hc2,hc3,ik⟩,hf2,hf3,C9⟩:=uZ.o.head.cells;go_wp2_with (at_lookup;refine bY _ rfl _ _ _ _ rfl 109 lg pn Tryz.underlying110 (hz _) mf l rfl uZ.o.files name rfl hg ?_;rw[HM.o]);go_returns;simp_all
     |some x=>
       have e1:je l name true=(ptrTo x.1,0):=by grind [je]
       rw[e1];have HM:=aa hm;clear hm eD e1;go_enter func139,ntmps139;go_wp2_with fail;refine(rh _ _ hs).mono ?_;rintro e w1⟨rfl,hb1⟩;rw[PE.o];have uZ:=aa (HD.o.below hb1);obtain⟨⟨hc0,hc1,hc2,hc3,ik⟩,hf2,hf3,C9⟩:=uZ.o.head.cells;go_wp2_with (at_lookup;refine bY _ rfl _ _ _ _ rfl 109 lg pn Tryz.underlying110 (hz _) mf l rfl uZ.o.files name rfl hg ?_;rw[HM.o];simp only[Option.map_some,Option.getD_some,ptrTo]);go_returns;exact⟨rfl,hb1⟩
namespace Dsk
def settle(d:Dsk)(name:Name):Dsk:={ d with loose:=d.loose.filter (fun p=>decide (p.1.1≠name)) }
end Dsk
def jf(L:List ((Name×Nat)×Unit))(name:Name)(m todo:List ((Name×Nat)×Unit)):Prop:=
 (∀p,p∈m↔p∈L/\(p.1.1≠name\/p∈todo))/\∀p∈todo,p∈L
theorem jf.struck{L m todo rs:List ((Name×Nat)×Unit)}{name:Name}{p:(Name×Nat)×Unit}(h:jf L name m todo)(hp:todo.Perm (p::rs))(hn:∀q∈rs,q.1≠p.1)(hpn:p.1.1=name):jf L name (b8 m p.1) rs:=by
 refine⟨fun q=>?_,fun q hq=>h.2 q (hp.mem_iff.2 (by grind))⟩;rw[gu,h.1 q,hp.mem_iff,List.mem_cons];grind
theorem jf.passed{L m todo rs:List ((Name×Nat)×Unit)}{name:Name}{p:(Name×Nat)×Unit}(h:jf L name m todo)(hp:todo.Perm (p::rs))(hpn:p.1.1≠name):jf L name m rs:=by
 refine⟨fun q=>?_,fun q hq=>h.2 q (hp.mem_iff.2 (by grind))⟩;rw[h.1 q,hp.mem_iff,List.mem_cons];grind
theorem jf.done{L m:List ((Name×Nat)×Unit)}{name:Name}(h:jf L name m [])(hm:(m.map (·.1)).Nodup)(hl:(L.map (·.1)).Nodup):m.Perm (L.filter (fun p=>decide (p.1.1≠name))):=by
 have n1:m.Nodup:=List.Pairwise.of_map _ (fun _ _ h e=>h (by rw[e])) hm;have n2:L.Nodup:=List.Pairwise.of_map _ (fun _ _ h e=>h (by rw[e])) hl;refine(List.perm_ext_iff_of_nodup n1 (n2.filter _)).2 fun q=>?_;rw[h.1 q,List.mem_filter];simp
theorem cJ.Mn{w w':World}{db mf ml:Nat}{o:ar}{l:List (Name×(Nat×bR))}{d:Dsk}(h:cJ w db o mf ml l d)(ht:aH (·=ml) w w'){s:List ((Name×Nat)×Unit)}(hl:zx w' ml s):cJ w' db o mf ml l { d with loose:=s } where
 zy:=h.zy
 B0:=h.B0
 B5:=h.B5
 head:=h.head.kept ht (ar.ne h.zy h.B5 af)
 files:=h.files.turn ht (ar.ne h.B0 h.B5 af)
 strip:=h.strip
 apart:=h.apart
 each:=fun p hp=>(h.each p hp).kept ht (fun x t hx h3 _=>ar.ne hx h.B5 (fun e=>by grind)) (fun _ _ h=>h)
 loose:=hl
 owned:=fun x t hx=>Nat.lt_of_lt_of_le (h.owned x t hx) ht.size
 ok:=⟨h.ok.bD,h.ok.cM,h.ok.used⟩
theorem zB{w:World}{db mf ml:Nat}{o:ar}{l:List (Name×(Nat×bR))}{d:Dsk}(h:cJ w db o mf ml l d)(name:Name) :
 Calls prog 140 #[ptrTo db,.string name,.func (.func 141) #[] #[]] w fun e w'=>e=.returned (.tuple #[])/\cJ w' db o mf ml l (d.settle name)/\aH (·=ml) w w':=by
 have HD:=aa h;obtain⟨⟨hc0,hc1,hc2,hc3,ik⟩,hf2,hf3,C9⟩:=h.head.cells;clear h hc0 hc2 hc3 ik hf2 hf3 C9;unfold ptrTo;go_enter func140,ntmps140;go_wp2_with (at_range;refine pd _ rfl _ _ rfl 4 Tryz.underlying111 ml d.loose rfl HD.o.loose ?_;intro ob rV);go_frame
 go_loopw [] (fun wr=>∃m todo,cx prog 116 eE (fun _:Unit=>.bool true) wr ml w.heap.size m todo/\aH (·=ml) w wr/\jf d.loose name m todo) (fun wr=>wr.rangeLeft ml w.heap.size)
 case atStart=>exact⟨_,_,rV,(aH.refl _ _).alloc _,fun p=>⟨fun hp=>⟨hp,.inr hp⟩,fun hp=>hp.1⟩,fun p hp=>hp⟩
 case round=>
  obtain⟨m,todo,hi,ht,hs⟩:=hrel;go_wp2_with (at_next;refine pg _ rfl _ rfl ml w.heap.size m todo rfl hi ?_ ?_)
  ·rintro rfl;go_wp2;go_end0
   refine⟨rfl,HD.o.Mn ht (hi.map.perm (hs.done hi.map.keys HD.o.loose.keys)),ht⟩
  ·intro nm n u rs w1 rW hp qi rX hen;have mB:aH (·=ml) w (setBlock w1 w.heap.size rW):=by
    grind [aH.setBlock,aH.drew]
   have zC:(setBlock w1 w.heap.size rW).cell? ⟨db,1,none⟩=some (.map (some ml)):=mB.cell hc1 (ar.ne HD.o.zy HD.o.B5 af);have hpt:((nm,n),u)∈todo:=hp.mem_iff.2 ah;have P7:((nm,n),u)∈m:=(hs.1 _).2 ⟨hs.2 _ hpt,.inr hpt⟩;have Qj:Hid (Good prog 116 (eE (nm,n))):=aa (hi.map.good _ P7);have JQ:Hid (∀p∈rs,p.1≠(nm,n)):=aa (by
    have h1:=(hp.map (·.1)).nodup_iff.1 hi.keys;grind)
   clear hpt P7;have HP:=aa hp;have HI:=aa hi;have HS:=aa hs;have HT:=aa mB;have HL:=aa qi;clear hp hi hs mB qi ht;unfold eE at hen;generalize hW:setBlock w1 w.heap.size rW=W at hen zC HT rX;clear hW rV HL rW w1;go_wp2
   ·rename_i heq
    obtain rfl:nm=name:=WideShapes.bytes_inj (by grind [ByteArray.toList_eq]);clear heq;have oU:aH (·=ml) w (W.alloc (.cells #[.string nm,.int .i64 n] 116)):=HT.o.alloc _;have hlt:∀{b},b<W.heap.size->(W.alloc (.cells #[.string nm,.int .i64 n] 116)).heap[b]? = W.heap[b]? := fun h=>(MapKept.heap_alloc W _).2 _ h;have Da:=rX.kept (hlt rX.map.lt) (hlt rX.lt);have k0:(W.alloc (.cells #[.string nm,.int .i64 n] 116)).cell? ⟨W.heap.size,0,none⟩=some (.string nm):=by simp
    have k1:(W.alloc (.cells #[.string nm,.int .i64 n] 116)).cell? ⟨W.heap.size,1,none⟩=some (.int .i64 n):=by simp
    have k2:(W.alloc (.cells #[.string nm,.int .i64 n] 116)).cell? ⟨db,1,none⟩=some (.map (some ml)):=oU.cell hc1 (ar.ne HD.o.zy HD.o.B5 af);have an7:=HI.o.left;clear rX hlt;generalize hW2:W.alloc (.cells #[.string nm,.int .i64 n] 116)=W2 at oU Da k0 k1 k2 ⊢;generalize hX:W.heap.size=X at k0 k1 ⊢;clear hW2 hX hen zC HT;refine ct (fun w'=>∃n,w'=W2.drewN n) 5 (by rfl) ag ⟨1,rfl⟩ ?_;simp only[List.take_succ_cons,List.take_zero,List.drop_succ_cons,List.drop_zero];repeat go_big_quiet_step (fail)
    refine wpQuiet_nil ?_;rintro _⟨nq,rfl⟩;have hi3:cx prog 116 eE (fun _:Unit=>.bool true) (W2.drewN nq) ml w.heap.size m rs:=Da.kept rfl rfl;clear Da k0 k1 k2;go_wp2_with (at_delete;refine zm _ rfl _ _ 111 rfl 4 zw fG Tryz.underlying111 ml w.heap.size m rs rfl hi3 (nm,n) rfl Qj.o JQ.o ?_;intro es clock xG;go_frame);go_roundw
    case rel=>exact⟨_,_,xG,(oU.drewN nq).setBlock _ _ (.inl rfl),HS.o.struck HP.o JQ.o rfl⟩
    case measure=>
     have e1:=xG.left;have e2:=HP.o.length_eq;grind
   ·rename_i hne
    have hlt:∀{b},b<W.heap.size->(W.alloc (.cells #[.string nm,.int .i64 n] 116)).heap[b]? = W.heap[b]? := fun h=>(MapKept.heap_alloc W _).2 _ h;have Da:=rX.kept (hlt rX.map.lt) (hlt rX.lt);go_roundw
    case rel=>exact⟨_,_,Da,HT.o.alloc _,HS.o.passed HP.o (fun e=>hne (congrArg ByteArray.toList e))⟩
    case measure=>
     have e1:=Da.left;have e2:=HP.o.length_eq;rw[List.length_cons]at e2;rw[e1,HI.o.left];omega
def cz(w:World)(db:Nat)(o:ar)(d':Dsk)(w':World):Prop:=
 ∃o',cK w' db o' d'/\aH (o.In po) w w'/\cw w.heap.size o o'
theorem cz.of{w w':World}{db:Nat}{o:ar}{d':Dsk}(h:cK w' db o d')(ht:aH (o.In po) w w'):cz w db o d' w':=⟨o,h,ht,cw.refl _ _⟩
theorem jO{w:World}{db mf ml:Nat}{o:ar}{l:List (Name×(Nat×bR))}{d:Dsk}(h:cJ w db o mf ml l d)(name:Name)(fine:Bool) :
 ((bM name && fine)=false/\je l name fine=(.pointer none,1)) \/
 ((bM name && fine)=true/\aB d.files name=none/\aB l name=none/\je l name fine=(.pointer none,3)) \/
 ∃pf f,(bM name && fine)=true/\aB d.files name=some f/\aB l name=some (pf,f)/\je l name fine=(.pointer (some ⟨pf,0,none⟩),0):=by
 have hg:aB d.files name=(aB l name).map (·.2):=by rw[<- h.strip];exact vJ
 unfold je;cases eD:(bM name && fine) with
 |false=>simp
 |true=>
   cases hm:aB l name with
   |none=>grind
   |some x=>exact .inr (.inr ⟨x.1,x.2,rfl,by grind,rfl,rfl⟩)
theorem cJ.get{w:World}{db mf ml:Nat}{o:ar}{l:List (Name×(Nat×bR))}{d:Dsk}(h:cJ w db o mf ml l d){name:Name}{pf:Nat}{f:bR}(hg:aB l name=some (pf,f)):aB d.files name=some f:=by
 have e:aB (bare l) name=(aB l name).map (·.2):=vJ;grind [strip,bare]
theorem cJ.Gi{w:World}{db mf ml:Nat}{o:ar}{l:List (Name×(Nat×bR))}{d:Dsk}(h:cJ w db o mf ml l d):(d.files.map (·.1)).Nodup:=by
 rw[<- h.strip,List.map_map];exact h.files.keys
theorem cJ.WV{w:World}{db mf ml:Nat}{o:ar}{l:List (Name×(Nat×bR))}{d:Dsk}(h:cJ w db o mf ml l d):o.In po ml:=⟨_,h.B5,by show 2<6;decide⟩
namespace Dsk
def create(d:Dsk)(name:Name):Dsk×Nat:=
 if d.tick.dead then (d.tick,6) else if bM name=false then (d.tick,1) else if (aB d.files name).isSome then (d.tick,4) else ({ d.tick with files:=aS d.files name ⟨[],[]⟩ },0)
theorem dB(d:Dsk):d.tick.files=d.files:=by grind [tick]
theorem lK(d:Dsk):d.tick.loose=d.loose:=by grind [tick]
theorem sS(d:Dsk):d.tick.bD=d.bD:=by grind [tick]
end Dsk
theorem cJ.Uz{w w1:World}{db mf ml:Nat}{o:ar}{l:List (Name×(Nat×bR))}{d:Dsk}(h:cJ w db o mf ml l d)(name:Name){t:TypeId}{ob:Obj}(hw:w1=setBlock (w.alloc (.cells #[.slice none 0 0,.slice none 0 0] t)) mf ob)(hf:FileMap w1 mf (aS l name (w.heap.size,⟨[],[]⟩))) :
 cJ w1 db (o.set w.heap.size (3,0)) mf ml (aS l name (w.heap.size,⟨[],[]⟩)) { d with files:=aS d.files name ⟨[],[]⟩ }:=by
 have ht:aH (·=mf) w w1:=by
  rw[hw];exact((aH.refl (·=mf) w).alloc _).setBlock _ _ (.inl rfl)
 have Yt:mf<w.heap.size:=h.files.lt;have hN:∀x,o x=none\/x<w.heap.size:=fun x=>by
  cases hx:o x with
  |none=>simp
  |some t=>exact .inr (h.owned x t hx)
 have ho:∀x t,o x=some t->(o.set w.heap.size (3,0)) x=some t:=fun x t hx=>by
  grind [ar.e9]
 have hsz:w.heap.size<w1.heap.size:=by
  rw[hw];simp[setBlock]
 have e1:aS d.files name ⟨[],[]⟩=(aS l name (w.heap.size,⟨[],[]⟩)).map (fun p=>(p.1,p.2.2)):=by
  rw[<- h.strip];exact(C8 (x:=(w.heap.size,(⟨[],[]⟩:bR)))).symm
 rw[e1];refine h.Ee ht (fun x hx=>.inl hx) ho hf ?_ ?_ ?_ (by rw[<- e1,jN];have:=rU d.files name;have:=h.ok.used;grind [gy])
 ·unfold aS;rw[List.map_cons,List.nodup_cons];refine⟨fun hm=>?_,J1 h.apart⟩;obtain⟨q,hq,e⟩:=List.mem_map.1 hm;have:=h.owned _ _ (h.each q (gu.1 hq).1).own;grind
 ·intro p hp;rcases List.mem_cons.1 hp with rfl | hp
  ·refine⟨ah,⟨t,.slice none 0 0,.slice none 0 0,?_,ownsRow_nil _ _ _,fun b hb=>by grind [Value.ownBlock],ownsRow_nil _ _ _,fun b hb=>by grind [Value.ownBlock]⟩,ah⟩;grind [bg,heap_alloc_new]
  ·have FM:=(gu.1 hp).1;exact(h.each p FM).kept ht (fun x t hx h3 _=>ar.ne hx h.B0 (fun e=>by grind)) ho
 grind [ar.e9]
theorem J3{w:World}{db:Nat}{o:ar}{d:Dsk}(h:cK w db o d)(name:Name)(hs:name.size<=1000) :
 Calls prog 153 #[ptrTo db,.string name] w fun e w'=>e=.returned (.int .i64 ((d.create name).2:Int))/\cz w db o (d.create name).1 w':=by
 have H:=aa h;clear h;unfold ptrTo;cases hd:d.tick.dead with
 |true=>
   have e1:d.create name=(d.tick,6):=by grind [Dsk.create]
   have e2:d.tick.err=6:=by grind [Dsk.err]
   have E2:=aa e2;rw[e1];clear hd e1 e2;go_enter func153,ntmps153;go_wp2_with fail;refine(iP H.o).mono ?_;rintro e w1⟨rfl,nu,mB⟩;rw[E2.o];go_wp2;go_ret;exact⟨rfl,.of nu mB⟩
 |false=>
   have e2:d.tick.err=0:=by grind [Dsk.err]
   have E2:=aa e2;have u6:=aa hd;clear hd e2;go_enter func153,ntmps153;go_wp2_with fail;refine(iP H.o).mono ?_;rintro e w1⟨rfl,⟨mf,ml,l,nu⟩,mB⟩;rw[E2.o];have uZ:=aa nu;have Qk:=aa mB;have BW:=jO nu name true;rw[Dsk.dB]at BW;clear nu mB;go_wp2_with fail;refine(om uZ.o name true hs).mono ?_;rintro e w2⟨rfl,hb2⟩;have oV:=aa (uZ.o.below hb2);have nQ:=aa (Qk.o.bN hb2);clear hb2;rcases BW with⟨q1,q2⟩|⟨q1,q2,q3,q4⟩|⟨pf,f,q1,q2,q3,q4⟩
   ·have e1:d.create name=(d.tick,1):=by
     grind [Dsk.create,Hid.out]
    rw[q2];have E1:=aa e1;clear e1 q2 q1;go_wp2;go_ret;rw[E1.o];exact⟨rfl,.of ⟨_,_,_,oV.o⟩ nQ.o⟩
   ·have e1:d.create name=({ d.tick with files:=aS d.files name ⟨[],[]⟩ },0):=by
     grind [Dsk.create,Hid.out]
    rw[q4];have E1:=aa e1;have hg:=qs (s:=name) (by grind [maxLen]);clear e1 q4 q3 q2 q1;obtain⟨⟨hc0,hc1,hc2,hc3,ik⟩,hf2,hf3,C9⟩:=oV.o.head.cells;clear hc1 hc2 hc3 ik hf2 hf3 C9;have hfm:Hid (FileMap (w2.alloc (.cells #[.slice none 0 0,.slice none 0 0] 108)) mf l):=aa (oV.o.files.kept ((MapKept.heap_alloc _ _).2 _ oV.o.files.lt));go_wp2_with (at_mapUpdate;refine eO _ rfl _ _ _ _ rfl 109 lg pn Tryz.underlying110 mf l rfl hfm.o name (w2.heap.size,⟨[],[]⟩) rfl rfl hg ?_;intro es clock hm;have HM:=aa hm;clear hm);go_ret;rw[E1.o];have hN:=oV.o.Uz name rfl HM.o;rw[Dsk.dB]at hN;exact⟨rfl,_,⟨_,_,_,hN⟩,(nQ.o.alloc _).setBlock _ _ (.inl ⟨_,oV.o.B0,by show 1<6;decide⟩),(cw.refl _ _).set nQ.o.size _⟩
   ·have e1:d.create name=(d.tick,4):=by
     grind [Dsk.create,Hid.out]
    rw[q4];have E1:=aa e1;clear e1 q4 q3 q2 q1;go_wp2;go_ret;rw[E1.o];exact⟨rfl,.of ⟨_,_,_,oV.o⟩ nQ.o⟩
namespace Dsk
def remove(d:Dsk)(name:Name):Dsk×Nat:=
 if d.tick.dead then (d.tick,6) else if bM name=false then (d.tick,1) else match aB d.files name with
  |none=>(d.tick,3)
  |some _=>({ d.tick with files:=b8 d.files name,loose:=d.loose.filter (fun p=>decide (p.1.1≠name)) },0)
def sync(d:Dsk)(name:Name):Dsk×Nat:=
 if d.tick.dead then (d.tick,6) else if bM name=false then (d.tick,1) else match aB d.files name with
  |none=>(d.tick,3)
  |some f=>({ d.tick with files:=aS d.files name ⟨f.now,f.now⟩,loose:=d.loose.filter (fun p=>decide (p.1.1≠name)) },0)
end Dsk
theorem cJ.Ql{w w1:World}{db mf ml:Nat}{o:ar}{l:List (Name×(Nat×bR))}{d:Dsk}(h:cJ w db o mf ml l d)(name:Name){ob:Obj}(hw:w1=setBlock w mf ob)(hf:FileMap w1 mf (b8 l name)):cJ w1 db o mf ml (b8 l name) { d with files:=b8 d.files name }:=by
 have ht:aH (·=mf) w w1:=by
  rw[hw];exact(aH.refl (·=mf) w).setBlock _ _ (.inl rfl)
 have e1:b8 d.files name=(b8 l name).map (fun p=>(p.1,p.2.2)):=by
  rw[<- h.strip];exact C7.symm
 rw[e1];refine h.Ee ht (fun x hx=>.inl hx) (fun _ _ h=>h) hf (J1 h.apart) ?_ (fun x t hx=>Nat.lt_of_lt_of_le (h.owned x t hx) ht.size) (by rw[<- e1];exact Nat.le_trans (rU _ _) h.ok.used);intro p hp;exact(h.each p (gu.1 hp).1).kept ht (fun x t hx h3 _=>ar.ne hx h.B0 (fun e=>by grind)) (fun _ _ h=>h)
theorem J4{w:World}{db:Nat}{o:ar}{d:Dsk}(h:cK w db o d)(name:Name)(hs:name.size<=1000) :
 Calls prog 96 #[ptrTo db,.string name] w fun e w'=>e=.returned (.int .i64 ((d.remove name).2:Int))/\cz w db o (d.remove name).1 w':=by
 have H:=aa h;clear h;unfold ptrTo;cases hd:d.tick.dead with
 |true=>
   have e1:d.remove name=(d.tick,6):=by grind [Dsk.remove]
   have e2:d.tick.err=6:=by grind [Dsk.err]
   have E2:=aa e2;rw[e1];clear hd e1 e2;go_enter func96,ntmps96;go_wp2_with fail;refine(iP H.o).mono ?_;rintro e w1⟨rfl,nu,mB⟩;rw[E2.o];go_wp2;go_ret;exact⟨rfl,.of nu mB⟩
 |false=>
   have e2:d.tick.err=0:=by grind [Dsk.err]
   have E2:=aa e2;have u6:=aa hd;clear hd e2;go_enter func96,ntmps96;go_wp2_with fail;refine(iP H.o).mono ?_;rintro e w1⟨rfl,⟨mf,ml,l,nu⟩,mB⟩;rw[E2.o];have uZ:=aa nu;have Qk:=aa mB;have BW:=jO nu name true;rw[Dsk.dB]at BW;clear nu mB;go_wp2_with fail;refine(om uZ.o name true hs).mono ?_;rintro e w2⟨rfl,hb2⟩;have oV:=aa (uZ.o.below hb2);have nQ:=aa (Qk.o.bN hb2);clear hb2;rcases BW with⟨q1,q2⟩|⟨q1,q2,q3,q4⟩|⟨pf,f,q1,q2,q3,q4⟩
   ·have e1:d.remove name=(d.tick,1):=by
     grind [Dsk.remove,Hid.out]
    rw[q2];have E1:=aa e1;clear e1 q2 q1;go_wp2;go_ret;rw[E1.o];exact⟨rfl,.of ⟨_,_,_,oV.o⟩ nQ.o⟩
   ·have e1:d.remove name=(d.tick,3):=by
     grind [Dsk.remove,Hid.out]
    rw[q4];have E1:=aa e1;clear e1 q4 q3 q2 q1;go_wp2;go_ret;rw[E1.o];exact⟨rfl,.of ⟨_,_,_,oV.o⟩ nQ.o⟩
   ·have e1:d.remove name=({ d.tick with files:=b8 d.files name,loose:=d.loose.filter (fun p=>decide (p.1.1≠name)) },0):=by
     grind [Dsk.remove,Hid.out]
    rw[q4];have E1:=aa e1;have hg:=qs (s:=name) (by grind [maxLen]);clear e1 q4 q3 q2 q1;obtain⟨⟨hc0,hc1,hc2,hc3,ik⟩,hf2,hf3,C9⟩:=oV.o.head.cells;clear hc1 hc2 hc3 ik hf2 hf3 C9;go_wp2_with (at_delete;refine sN _ rfl _ _ _ rfl 109 lg pn Tryz.underlying110 mf l rfl oV.o.files name rfl hg ?_;intro es clock hm;have HM:=aa hm;clear hm);have Mo:=aa (oV.o.Ql name rfl HM.o);have rp:=aa (nQ.o.setBlock mf (.map es clock) (.inl ⟨_,oV.o.B0,by show 1<6;decide⟩));clear HM hc0;refine(zB Mo.o name).mono ?_;rintro e w4⟨rfl,PA,tK⟩;have Qm:=aa PA;have ve:=aa (rp.o.trans tK (fun x _ e=>e▸Mo.o.WV));clear PA tK;go_wp2;go_ret;rw[E1.o];have hN:=Qm.o;unfold Dsk.settle at hN;dsimp only at hN;rw[Dsk.dB,Dsk.lK]at hN;exact⟨rfl,.of ⟨_,_,_,hN⟩ ve.o⟩
def lL(o:ar)(pf x:Nat):Prop:=x=pf\/o x=some (4,pf)\/o x=some (5,pf)
theorem lL.in{o:ar}{pf x:Nat}(h:lL o pf x)(hp:o pf=some (3,0)):o.In po x:=by
 rcases h with rfl | h | h
 ·exact⟨_,hp,by show 3<6;decide⟩
 ·exact⟨_,h,by show 4<6;decide⟩
 ·exact⟨_,h,by show 5<6;decide⟩
theorem cJ.J6{w w':World}{db mf ml:Nat}{o o':ar}{l:List (Name×(Nat×bR))}{d:Dsk}(h:cJ w db o mf ml l d){name:Name}{pf:Nat}{f f':bR}(hg:aB l name=some (pf,f))(ht:aH (lL o pf) w w')(ho:∀x t,o x=some t->o' x=some t)(hf:dy w' o' pf f')(zA:∀x t,o' x=some t->x<w'.heap.size)(Gh:ep (aS d.files name f')<=1048576) :
 cJ w' db o' mf ml (aS l name (pf,f')) { d with files:=aS d.files name f' }:=by
 have hown:=(h.each _ (eM hg)).own;have e1:aS d.files name f'=(aS l name (pf,f')).map (fun p=>(p.1,p.2.2)):=by
  rw[<- h.strip];exact(C8 (x:=(pf,f'))).symm
 rw[e1];have Yt:¬lL o pf mf:=by
  rintro(e | e | e)
  ·grind [B0]
  ·grind [B0]
  grind [B0]
 refine h.Ee ht (fun x hx=>.inr ?_) ho ?_ (Ys h.apart hg f') ?_ zA (by grind)
 ·rcases hx with rfl | hx | hx
  ·grind
  ·grind
  grind
 ·have h1:FileMap w mf (aS l name (pf,f)):=h.files.perm (Nt h.files.keys hg).symm;exact(h1.abT (m':=aS l name (pf,f')) rfl).turn ht Yt
 ·intro p hp;rcases List.mem_cons.1 hp with rfl | hp
  ·exact hf
  ·obtain⟨FM,hne⟩:=gu.1 hp;have J7:p.2.1≠pf:=fun e=>hne (by rw[Qi h.apart FM (eM hg) e]);have B6:=(h.each p FM).own;refine(h.each p FM).kept' ht ?_ ?_ ?_ ho
   ·rintro(e | e | e)
    ·omega
    ·grind
    grind
   ·rintro x hx (e | e | e)
    ·grind
    ·grind
    grind
   ·rintro x hx (e | e | e)
    ·grind
    ·grind
    grind
theorem dy.cells{w:World}{o:ar}{pf:Nat}{f:bR}(h:dy w o pf f):∃v u,(w.cell? ⟨pf,0,none⟩=some v/\w.cell? ⟨pf,1,none⟩=some u)/\(w.frozen? ⟨pf,0,none⟩=false/\w.frozen? ⟨pf,1,none⟩=false) /\
 w.ownsRow 0 5 1 v f.now.length (f.now.map bv)/\(∀b,v.ownBlock=some b->o b=some (4,pf))/\w.ownsRow 0 5 1 u f.gw.length (f.gw.map bv)/\∀b,u.ownBlock=some b->o b=some (5,pf):=by
 obtain⟨_,⟨t,v,u,h2,h3⟩,_⟩:=h;exact⟨v,u,⟨by rw[aq h2];rfl,by rw[aq h2];rfl⟩,⟨aO h2 _,aO h2 _⟩,h3⟩
theorem az{w:World}{base:Nat}{e:TypeId}{size:Nat}{v:Value}{n:Nat}{xs:List Value}(h:w.ownsRow base e size v n xs):∃a cap,v=.slice a n cap:=by
 obtain⟨_,h⟩:=h;grind
theorem eP{o:ar}{n b:Nat}(ho:∀x t,o x=some t->x<n)(hb:n<=b):o b=none:=by
 cases h:o b with
 |none=>rfl
 |some t=>grind
theorem aL{w:World}{base:Nat}{e:TypeId}{size:Nat}{v:Value}{n:Nat}{xs:List Value}(h:w.ownsRow base e size v n xs):∀b,v.ownBlock=some b->b<w.heap.size/\base<=b:=by
 rintro b hb;obtain⟨_,h⟩:=h;rcases h with⟨rfl,_⟩|⟨g,cap,cur,rfl,hg,hh,_⟩
 ·cases hb
 ·cases hb;grind
def ar.put(o:ar)(v:Value)(t:Tag):ar:=match v.ownBlock with | some b=>o.set b t | none=>o
theorem ar.zD{o:ar}{v:Value}{t:Tag}{b:Nat}(h:v.ownBlock=some b):(o.put v t) b=some t:=by
 unfold ar.put;simp_all
theorem ar.tL{o:ar}{v:Value}{t:Tag}{n:Nat}(h:∀b,v.ownBlock=some b->n<=b):cw n o (o.put v t):=by
 intro x hx;unfold ar.put;cases hv:v.ownBlock with
 |none=>rfl
 |some b=>grind [ar.e9]
theorem ar.tM{o:ar}{v:Value}{s:Tag}(hb:∀b,v.ownBlock=some b->o b=none):∀x r,o x=some r->(o.put v s) x=some r:=fun x r hx=>by
 unfold ar.put;cases e:v.ownBlock with
 |none=>exact hx
 |some b=>
   grind [ar.e9]
theorem ar.vK{o:ar}{v:Value}{t:Tag}{n:Nat}(ho:∀x t,o x=some t->x<n)(h:∀b,v.ownBlock=some b->b<n):∀x s,(o.put v t) x=some s->x<n:=by
 intro x s hx;unfold ar.put at hx;cases hv:v.ownBlock with
 |none=>rw[hv]at hx;grind
 |some b=>
   rw[hv]at hx;grind [ar.e9]
theorem dy.store{w:World}{o:ar}{pf:Nat}{f:bR}(h:dy w o pf f){v:Value}{bs:List UInt8}{base:Nat}(hv:w.ownsRow base 5 1 v bs.length (bs.map bv))(hb:∀b,v.ownBlock=some b->o b=none)(hl:bs.length<=16777216) :
 dy (w.setCell ⟨pf,0,none⟩ v) (o.put v (4,pf)) pf { f with now:=bs }/\dy (w.setCell ⟨pf,1,none⟩ v) (o.put v (5,pf)) pf { f with gw:=bs }:=by
 obtain⟨h1,⟨t,a,c,h2,h3,h4,h5,h6⟩,h7⟩:=h;have hne:∀b,v.ownBlock=some b->b≠pf:=fun b h e=>by
  grind
 have hold:∀(s:Tag)x r,o x=some r->(o.put v s) x=some r:=fun s=>ar.tM hb;have hrow:∀(i:Nat)(u z:Value)(xs:List Value)(n base:Nat),w.ownsRow base 5 1 z n xs->(∀b,z.ownBlock=some b->b≠pf)->(w.setCell ⟨pf,i,none⟩ u).ownsRow 0 5 1 z n xs:=fun i u z xs n base hz hn=>by
  have ht:aH (·=pf) w (w.setCell ⟨pf,i,none⟩ u):=(aH.refl (·=pf) w).setCell _ _ (.inl rfl);grind [aU,aH.ownsRow]
 have ag6:∀b,a.ownBlock=some b->b≠pf:=fun b hb e=>by grind
 have ag7:∀b,c.ownBlock=some b->b≠pf:=fun b hb e=>by grind
 refine⟨⟨hold _ _ _ h1,⟨t,v,c,?_,hrow _ _ _ _ _ _ hv hne,fun b hb=>ar.zD hb,hrow _ _ _ _ _ _ h5 ag7,fun b hb=>hold _ _ _ (h6 b hb)⟩,hl,h7.2⟩,
  ⟨hold _ _ _ h1,⟨t,a,v,?_,hrow _ _ _ _ _ _ h3 ag6,fun b hb=>hold _ _ _ (h4 b hb),hrow _ _ _ _ _ _ hv hne,fun b hb=>ar.zD hb⟩,h7.1,hl⟩⟩
 ·rw[aT h2];rfl
 ·rw[aT h2];rfl
theorem Qn{w:World}{db:Nat}{o:ar}{d:Dsk}(h:cK w db o d)(name:Name)(hs:name.size<=1000) :
 Calls prog 185 #[ptrTo db,.string name] w fun e w'=>e=.returned (.int .i64 ((d.sync name).2:Int))/\cz w db o (d.sync name).1 w':=by
 have H:=aa h;clear h;unfold ptrTo;cases hd:d.tick.dead with
 |true=>
   have e1:d.sync name=(d.tick,6):=by grind [Dsk.sync]
   have e2:d.tick.err=6:=by grind [Dsk.err]
   have E2:=aa e2;rw[e1];clear hd e1 e2;go_enter func185,ntmps185;go_wp2_with fail;refine(iP H.o).mono ?_;rintro e w1⟨rfl,nu,mB⟩;rw[E2.o];go_wp2;go_ret;exact⟨rfl,.of nu mB⟩
 |false=>
   have e2:d.tick.err=0:=by grind [Dsk.err]
   have E2:=aa e2;have u6:=aa hd;clear hd e2;go_enter func185,ntmps185;go_wp2_with fail;refine(iP H.o).mono ?_;rintro e w1⟨rfl,⟨mf,ml,l,nu⟩,mB⟩;rw[E2.o];have uZ:=aa nu;have Qk:=aa mB;have BW:=jO nu name true;rw[Dsk.dB]at BW;clear nu mB;go_wp2_with fail;refine(om uZ.o name true hs).mono ?_;rintro e w2⟨rfl,hb2⟩;have oV:=aa (uZ.o.below hb2);have nQ:=aa (Qk.o.bN hb2);clear hb2;rcases BW with⟨q1,q2⟩|⟨q1,q2,q3,q4⟩|⟨pf,f,q1,q2,q3,q4⟩
   ·have e1:d.sync name=(d.tick,1):=by
     grind [Dsk.sync,Hid.out]
    rw[q2];have E1:=aa e1;clear e1 q2 q1;go_wp2;go_ret;rw[E1.o];exact⟨rfl,.of ⟨_,_,_,oV.o⟩ nQ.o⟩
   ·have e1:d.sync name=(d.tick,3):=by
     grind [Dsk.sync,Hid.out]
    rw[q4];have E1:=aa e1;clear e1 q4 q3 q2 q1;go_wp2;go_ret;rw[E1.o];exact⟨rfl,.of ⟨_,_,_,oV.o⟩ nQ.o⟩
   ·have e1:d.sync name=({ d.tick with files:=aS d.files name ⟨f.now,f.now⟩,loose:=d.loose.filter (fun p=>decide (p.1.1≠name)) },0):=by
     grind [Dsk.sync,Hid.out]
    rw[q4];have E1:=aa e1;have Db:=oV.o.each _ (eM q3);have HQ:=aa q3;clear e1 q4 q3 q2 q1;obtain⟨v,u,⟨Qo,zE⟩,⟨hz0,hz1⟩,hrow,hown,-,-⟩:=Db.cells;have Gj:=aa hrow;have jg:=aa Db.most.1;clear hrow hown Db zE;go_wp2_with fail;refine(fT v f.now _ (fw Gj.o) (by grind [Hid.out])).mono ?_;rintro e w3⟨v3,rfl,iN,hb3⟩;have Mo:=aa (oV.o.below hb3);have rp:=aa (nQ.o.bN hb3);have Yu:=Mo.o.each _ (eM HQ.o);have abV:=aa Yu;obtain⟨v4,u4,⟨-,zE⟩,⟨-,j7⟩,-⟩:=Yu.cells;clear Yu;obtain⟨a3,c3,rfl⟩:=az iN;have mG:=aa iN;clear iN hb3;go_wp2_with fail;have Eg:∀b,(Value.slice a3 f.now.length c3).ownBlock=some b->o b=none:=fun b hb=>eP oV.o.owned (aL mG.o b hb).2;have Qm:=aa (Mo.o.J6 HQ.o ((aH.refl (lL o pf) w3).setCell ⟨pf,1,none⟩ (.slice a3 f.now.length c3) (.inl (.inl rfl))) (o':=o.put (.slice a3 f.now.length c3) (5,pf))
     (ar.tM Eg)
     (abV.o.store mG.o Eg jg.o).2 (fun x t hx=>by
       have:=ar.vK Mo.o.owned (fun b hb=>(aL mG.o b hb).1) x t hx;simp_all) (by
       have h1:=sR Mo.o.Gi (Mo.o.get HQ.o);rw[jN];have h2:=Mo.o.ok.used;grind))
    have ve:=aa (rp.o.setCell ⟨pf,1,none⟩ (.slice a3 f.now.length c3) (.inl (lL.in (.inl rfl) abV.o.own)));have HG:=aa (ar.tL (o:=o) (t:=(5,pf)) (n:=w.heap.size) (fun b hb=>Nat.le_trans nQ.o.size (aL mG.o b hb).2));refine(zB Qm.o name).mono ?_;rintro e w5⟨rfl,Yv,rO⟩;have HD5:=aa Yv;have Eh:=aa (ve.o.trans rO (fun x _ e=>e▸Mo.o.WV));clear Yv rO;go_wp2;go_ret;rw[E1.o];have hN:=HD5.o;unfold Dsk.settle at hN;dsimp only at hN;rw[Dsk.dB,Dsk.lK]at hN;exact⟨rfl,_,⟨_,_,_,hN⟩,Eh.o,HG.o⟩
namespace Dsk
def sizeOf(d:Dsk)(name:Name):Nat×Nat:=
 if d.dead then (0,6) else if bM name=false then (0,1) else match aB d.files name with
  |none=>(0,3)
  |some f=>(f.now.length,0)
def read(d:Dsk)(name:Name)(off n:Nat):List UInt8×Nat:=
 if d.dead then ([],6) else if bM name=false then ([],1) else match aB d.files name with
  |none=>([],3)
  |some f=>((f.now.drop off).take n,0)
end Dsk
theorem Gk{w:World}{db:Nat}{o:ar}{d:Dsk}(h:cK w db o d)(name:Name)(hs:name.size<=1000) :
 Calls prog 228 #[ptrTo db,.string name] w fun e w'=>e=.returned (.tuple #[.int .i64 ((d.sizeOf name).1:Int),.int .i64 ((d.sizeOf name).2:Int)])/\Below w.heap.size w w':=by
 have H:=aa h;obtain⟨mf,ml,l,nu⟩:=h;have uZ:=aa nu;have BW:=jO nu name true;clear nu;unfold ptrTo;cases hd:d.dead with
 |true=>
   have e1:d.sizeOf name=(0,6):=by unfold Dsk.sizeOf;rw[hd];rfl
   have e2:d.err=6:=by unfold Dsk.err;rw[hd];rfl
   have E2:=aa e2;rw[e1];clear hd e1 e2 BW;go_enter func228,ntmps228;go_wp2_with fail;refine(tJ H.o).mono ?_;rintro e w1⟨rfl,rfl⟩;rw[E2.o];go_wp2;go_returns;exact⟨rfl,Below.refl _ _⟩
 |false=>
   have e2:d.err=0:=by unfold Dsk.err;rw[hd];rfl
   have E2:=aa e2;have u6:=aa hd;clear hd e2;go_enter func228,ntmps228;go_wp2_with fail;refine(tJ H.o).mono ?_;rintro e w1⟨rfl,rfl⟩;rw[E2.o];go_wp2_with fail;refine(om uZ.o name true hs).mono ?_;rintro e w2⟨rfl,hb2⟩;have cZ:=aa hb2;have oV:=aa (uZ.o.below hb2);clear hb2;rcases BW with⟨q1,q2⟩|⟨q1,q2,q3,q4⟩|⟨pf,f,q1,q2,q3,q4⟩
   ·have e1:d.sizeOf name=(0,1):=by
     unfold Dsk.sizeOf;rw[u6.o];rw[Bool.and_true]at q1;rw[q1];rfl
    rw[q2];have E1:=aa e1;clear e1 q2 q1;go_wp2;go_returns;rw[E1.o];exact⟨rfl,cZ.o⟩
   ·have e1:d.sizeOf name=(0,3):=by
     unfold Dsk.sizeOf;rw[u6.o];rw[Bool.and_true]at q1;rw[q1,q2];rfl
    rw[q4];have E1:=aa e1;clear e1 q4 q3 q2 q1;go_wp2;go_returns;rw[E1.o];exact⟨rfl,cZ.o⟩
   ·have e1:d.sizeOf name=(f.now.length,0):=by
     unfold Dsk.sizeOf;rw[u6.o];rw[Bool.and_true]at q1;rw[q1,q2];rfl
    rw[q4];have E1:=aa e1;have Db:dy w2 o pf f:=oV.o.each _ (eM q3);clear e1 q4 q3 q2 q1;obtain⟨v,u,⟨Qo,-⟩,-,hrow,-⟩:=Db.cells;have jg:=Db.most.1;obtain⟨a,c,rfl⟩:=az hrow;have Gj:=aa hrow;clear hrow Db;go_wp2;go_returns;rw[E1.o];exact⟨rfl,cZ.o⟩
def Gl(w:World)(r:List UInt8×Nat)(e:Ending)(w':World):Prop:=
 ∃v,e=.returned (.tuple #[v,.int .i64 (r.2:Int)])/\w'.ownsRow w.heap.size 5 1 v r.1.length (r.1.map bv)/\Below w.heap.size w w'
theorem Qq{w:World}{db:Nat}{o:ar}{d:Dsk}(h:cK w db o d)(name:Name)(hs:name.size<=1000)(off n:Nat)(hn:n<=1099511627776) :
 Calls prog 237 #[ptrTo db,.string name,.int .i64 (off:Int),.int .i64 (n:Int)] w (Gl w (d.read name off n)):=by
 have H:=aa h;obtain⟨mf,ml,l,nu⟩:=h;have uZ:=aa nu;have BW:=jO nu name true;clear nu;unfold ptrTo;cases hd:d.dead with
 |true=>
   have e1:d.read name off n=([],6):=by unfold Dsk.read;rw[hd];rfl
   have e2:d.err=6:=by unfold Dsk.err;rw[hd];rfl
   have E2:=aa e2;rw[e1];clear hd e1 e2 BW;go_enter func237,ntmps237;go_wp2_with fail;refine(tJ H.o).mono ?_;rintro e w1⟨rfl,rfl⟩;rw[E2.o];go_wp2;go_returns;exact⟨_,rfl,ownsRow_nil _ _ _,Below.refl _ _⟩
 |false=>
   have e2:d.err=0:=by unfold Dsk.err;rw[hd];rfl
   have E2:=aa e2;have u6:=aa hd;clear hd e2;go_enter func237,ntmps237;go_wp2_with fail;refine(tJ H.o).mono ?_;rintro e w1⟨rfl,rfl⟩;rw[E2.o];go_wp2_with fail;refine(om uZ.o name true hs).mono ?_;rintro e w2⟨rfl,hb2⟩;have cZ:=aa hb2;have oV:=aa (uZ.o.below hb2);clear hb2;rcases BW with⟨q1,q2⟩|⟨q1,q2,q3,q4⟩|⟨pf,f,q1,q2,q3,q4⟩
   ·have e1:d.read name off n=([],1):=by
     unfold Dsk.read;rw[u6.o];rw[Bool.and_true]at q1;rw[q1];rfl
    rw[q2];have E1:=aa e1;clear e1 q2 q1;go_wp2;go_returns;rw[E1.o];exact⟨_,rfl,ownsRow_nil _ _ _,cZ.o⟩
   ·have e1:d.read name off n=([],3):=by
     unfold Dsk.read;rw[u6.o];rw[Bool.and_true]at q1;rw[q1,q2];rfl
    rw[q4];have E1:=aa e1;clear e1 q4 q3 q2 q1;go_wp2;go_returns;rw[E1.o];exact⟨_,rfl,ownsRow_nil _ _ _,cZ.o⟩
   ·have e1:d.read name off n=((f.now.drop off).take n,0):=by
     unfold Dsk.read;rw[u6.o];rw[Bool.and_true]at q1;rw[q1,q2];rfl
    rw[q4];have E1:=aa e1;have Db:dy w2 o pf f:=oV.o.each _ (eM q3);clear e1 q4 q3 q2 q1;obtain⟨v,u,⟨Qo,-⟩,-,hrow,-⟩:=Db.cells;have jg:=Db.most.1;have Bx:=fw hrow;obtain⟨a,cap,rfl,hlc,hcm,hc⟩:=id Bx;have Mp:=aa Bx;unfold maxLen at hcm;clear hrow Db hc Bx;by_cases JA:off<=f.now.length
    ·by_cases hnn:n<=f.now.length-off
     ·skip
      have hA:=aa (fun nq(e:cap=off)=>((((Mp.o.drewN nq).from (k:=off) ae).1 e).to (k:=n) (by rw[List.length_drop];omega)));have hB:=aa (fun nq=>((((Mp.o.drewN nq).from (k:=off) ae).2).to (k:=n) (by rw[List.length_drop];omega)));go_wp2_with fail;go_quiet (fail)
      go_wp2_with fail;all_goals
       refine(fT _ ((f.now.drop off).take n) _ (by first | exact hB.o _ | exact hA.o _ rfl | exact hA.o _ (by assumption) | (rw[Qr];first | exact hB.o _ | exact hA.o _ rfl | exact hA.o _ (by assumption))) (by rw[List.length_take,List.length_drop];omega)).mono ?_;rintro e w3⟨v3,rfl,iN,hb3⟩;have mG:=aa iN;have jF:Hid (Below w2.heap.size w2 w3):=aa ⟨hb3.os,hb3.tape,hb3.output,hb3.size,hb3.block⟩;clear iN hb3;go_wp2_with fail;go_returns;rw[E1.o];exact⟨_,rfl,aU mG.o cZ.o.size,cZ.o.trans (jF.o.mono cZ.o.size)⟩
     ·skip
      have Yw:(f.now.drop off).take n=(f.now.drop off).take (f.now.length-off):=by
       rw[List.take_of_length_le (by rw[List.length_drop];omega),List.take_of_length_le (by rw[List.length_drop];omega)]
      have EQ2:=aa Yw;clear Yw;have hA:=aa (fun nq(e:cap=off)=>((((Mp.o.drewN nq).from (k:=off) ae).1 e).to (k:=(f.now.length-off)) (by rw[List.length_drop];omega)));have hB:=aa (fun nq=>((((Mp.o.drewN nq).from (k:=off) ae).2).to (k:=(f.now.length-off)) (by rw[List.length_drop];omega)));go_wp2_with fail;go_quiet (fail)
      go_wp2_with fail;all_goals
       refine(fT _ ((f.now.drop off).take (f.now.length-off)) _ (by first | exact hB.o _ | exact hA.o _ rfl | exact hA.o _ (by assumption) | (rw[Qr];first | exact hB.o _ | exact hA.o _ rfl | exact hA.o _ (by assumption))) (by rw[List.length_take,List.length_drop];omega)).mono ?_;rintro e w3⟨v3,rfl,iN,hb3⟩;have mG:=aa iN;have jF:Hid (Below w2.heap.size w2 w3):=aa ⟨hb3.os,hb3.tape,hb3.output,hb3.size,hb3.block⟩;clear iN hb3;go_wp2_with fail;go_returns;rw[E1.o];rw[EQ2.o];exact⟨_,rfl,aU mG.o cZ.o.size,cZ.o.trans (jF.o.mono cZ.o.size)⟩
    ·rcases Nat.eq_zero_or_pos n with Qr | Qr;all_goals
      have Yw:(f.now.drop off).take n=(f.now.drop f.now.length).take 0:=by
       rw[List.drop_of_length_le ae];simp
      have EQ2:=aa Yw;clear Yw;have hA:=aa (fun nq(e:cap=f.now.length)=>((((Mp.o.drewN nq).from (k:=f.now.length) ae).1 e).to (k:=0) (by rw[List.length_drop];omega)));have hB:=aa (fun nq=>((((Mp.o.drewN nq).from (k:=f.now.length) ae).2).to (k:=0) (by rw[List.length_drop];omega)));go_wp2_with fail;go_quiet (fail)
      go_wp2_with fail;all_goals
       refine(fT _ ((f.now.drop f.now.length).take 0) _ (by first | exact hB.o _ | exact hA.o _ rfl | exact hA.o _ (by assumption) | (rw[Qr];first | exact hB.o _ | exact hA.o _ rfl | exact hA.o _ (by assumption))) (by rw[List.length_take,List.length_drop];omega)).mono ?_;rintro e w3⟨v3,rfl,iN,hb3⟩;have mG:=aa iN;have jF:Hid (Below w2.heap.size w2 w3):=aa ⟨hb3.os,hb3.tape,hb3.output,hb3.size,hb3.block⟩;clear iN hb3;go_wp2_with fail;go_returns;rw[E1.o];rw[EQ2.o];exact⟨_,rfl,aU mG.o cZ.o.size,cZ.o.trans (jF.o.mono cZ.o.size)⟩
def kM(l:List (Name×(Nat×bR))):Nat:=(l.map (fun p=>gy p.2.2.now.length)).sum
theorem Gm{a b:List (Name×(Nat×bR))}(h:a.Perm b):kM a=kM b:=(h.map _).sum_nat
theorem cJ.kM{w:World}{db mf ml:Nat}{o:ar}{l:List (Name×(Nat×bR))}{d:Dsk}(h:cJ w db o mf ml l d):kM l=ep d.files:=by
 rw[<- h.strip];unfold ep Proofs.YthkkgdpomhhjjaaGreatDoor.kM;rw[List.map_map];rfl
theorem Qs{w:World}{db:Nat}{o:ar}{d:Dsk}(h:cK w db o d) :
 Calls prog 267 #[ptrTo db] w fun e w'=>e=.returned (.int .i64 (ep d.files:Int))/\Below w.heap.size w w':=by
 obtain⟨mf,ml,l,h⟩:=h;have HD:=aa h;have hu:=h.kM;have Yx:=h.ok.used;rw[<- hu]at Yx ⊢;have ag9:=aa Yx;clear hu Yx;obtain⟨⟨hc0,hc1,hc2,hc3,ik⟩,hf2,hf3,C9⟩:=h.head.cells;clear h hc1 hc2 hc3 ik hf2 hf3 C9;unfold ptrTo;go_enter func267,ntmps267;go_wp2_with (at_range;refine pd _ rfl _ _ rfl 109 Tryz.underlying110 mf l rfl HD.o.files ?_;intro ob rV);go_frame
 go_loopw [3] (fun n wr=>∃(todo:List (Name×(Nat×bR)))(k:Nat),n=.int .i64 (k:Int)/\cx prog 9 Value.string (fun x:Nat×bR=>ptrTo x.1) wr mf w.heap.size l todo/\Below w.heap.size w wr/\Hid (k+kM todo=kM l)) (fun _ wr=>wr.rangeLeft mf w.heap.size)
 case atStart=>exact⟨_,0,rfl,rV,aj.alloc (Nat.le_refl _) _,aa ae⟩
 case round=>
  obtain⟨todo,k,rfl,hi,hb,hk⟩:=hrel;have HB:=aa hb;clear hb;go_wp2_with (at_next;refine pg _ rfl _ rfl mf w.heap.size l todo rfl hi ?_ ?_)
  ·rintro rfl;go_wp2;go_ret;refine⟨?_,HB.o⟩;have:=hk.out;unfold kM at this ⊢;simp at this;rw[<- this];rfl
  ·intro nm pf f rs w1 rW hp qi rX hen;have hb1:Below w.heap.size w (setBlock w1 w.heap.size rW):=by
    have:aH (fun x=>w.heap.size<=x) w (setBlock w1 w.heap.size rW):=by
     have h0:aH (fun x=>w.heap.size<=x) w wr:=aH.aW HB.o;rcases qi with rfl | rfl
     ·exact h0.setBlock _ _ (.inl (Nat.le_refl _))
     ·exact h0.drew.setBlock _ _ (.inl (Nat.le_refl _))
    exact this.below (Nat.le_refl _) (fun _ h=>h)
   have HP:=aa hp;have HI:=aa hi;have mA:(nm,pf,f)∈l:=hi.sub _ (hp.mem_iff.2 ah);have cT:=aa hb1;have Db:dy (setBlock w1 w.heap.size rW) o pf f:=(HD.o.below hb1).each _ mA;obtain⟨v,u,⟨Qo,-⟩,-,hrow,-⟩:=Db.cells;have jg:=Db.most.1;obtain⟨a,c,rfl⟩:=az hrow;clear hp hi hb1 qi Db hrow mA;unfold ptrTo at hen;have abW:k+gy f.now.length+kM rs=kM l:=by
    have h1:=hk.out;rw[Gm HP.o]at h1;unfold kM at h1 ⊢;simp only[List.map_cons,List.sum_cons]at h1;omega
   have HS:=aa abW;have hkk:k+gy f.now.length<=1048576:=by have:=ag9.o;omega
   have HKK:=aa hkk;have Nv:k<=1048576:=by omega
   have hk2:gy f.now.length<=1048576:=by omega
   clear abW hkk;generalize hW:setBlock w1 w.heap.size rW=W at hen Qo cT rX;clear hW rV;go_wp2_with (go_at_call 266;refine(xF _ _ ae).mono ?_;rintro e w2⟨rfl,rfl⟩);go_roundw
   case rel=>
    refine⟨rs,k+gy f.now.length,?_,rX,cT.o,HS⟩;unfold gy;congr 1
   case measure=>
    have e1:=rX.left;have e2:=HP.o.length_eq;rw[List.length_cons]at e2;rw[e1,HI.o.left];omega
def Dsk.new(bD:Nat):Dsk:=⟨[],[],bD,0,false⟩
theorem Gn(bD:Nat)(hq:bD<=1048576)(w:World) :
 Calls prog 69 #[.int .i64 (bD:Int)] w fun e w'=>∃db o,e=.returned (.tuple #[ptrTo db,.int .i64 0])/\cK w' db o (Dsk.new bD)/\Below w.heap.size w w'/\∀x t,o x=some t->w.heap.size<=x:=by
 have vL:∀(t:TypeId)(W:World),(Instr.makeMap t none).run prog W=.ok (.map (some W.heap.size)) (W.alloc (.map #[] 0)):=fun _ _=>rfl;go_enter func69,ntmps69;go_wp2;go_returns;let o:ar:=fun x=>if x=w.heap.size then some (1,0) else if x=w.heap.size+1 then some (2,0) else if x=w.heap.size+1+1 then some (0,0) else none
 have ho:∀x t,o x=some t->w.heap.size<=x/\x<w.heap.size+3:=by
  intro x t hx;simp only[o]at hx;split at hx
  ·omega
  ·split at hx
   ·omega
   ·split at hx
    ·omega
    ·cases hx
 refine⟨w.heap.size+1+1,o,?_,⟨w.heap.size,w.heap.size+1,[],?_⟩,?_,fun x t hx=>(ho x t hx).1⟩
 ·rfl
 ·have s1:(w.alloc (.map #[] 0)).heap.size=w.heap.size+1:=by simp
  have s2:((w.alloc (.map #[] 0)).alloc (.map #[] 0)).heap.size=w.heap.size+1+1:=by simp
  have m0:bO prog 9 Value.string (fun x:Nat×bR=>ptrTo x.1) (w.alloc (.map #[] 0)) w.heap.size []:=bO.made w _ _ _ _;have m1:bO prog 116 eE (fun _:Unit=>.bool true) ((w.alloc (.map #[] 0)).alloc (.map #[] 0)) (w.heap.size+1) []:=by
   have:=bO.made (w.alloc (.map #[] 0)) prog 116 eE (fun _:Unit=>Value.bool true);rw[s1]at this;exact this
  have hh:∀(W:World)(ob:Obj)(b:Nat),b<W.heap.size->(W.alloc ob).heap[b]? = W.heap[b]? := fun W ob b hb=>(MapKept.heap_alloc W ob).2 b hb;refine { zy:=?_,B0:=?_,B5:=?_,head:=⟨113,?_⟩,files:=?_,strip:=rfl,apart:=by simp,each:=by simp,loose:=?_,owned:=?_,ok:=⟨hq,by show 0<9223372036854775808;decide,by simp[ep,Dsk.new]⟩ }
  ·simp[o];omega
  ·simp[o]
  ·simp[o]
  ·have:=heap_alloc_new ((w.alloc (.map #[] 0)).alloc (.map #[] 0)) (.cells #[.map (some w.heap.size),.map (some (w.heap.size+1)),.int .i64 (bD:Int),.int .i64 0,.bool false] 113);rw[s2]at this;exact this
  ·exact(m0.kept (hh _ _ _ ah)).kept (hh _ _ _ (by simp;omega))
  ·exact m1.kept (hh _ _ _ ah)
  ·intro x t hx;have:=(ho x t hx).2;simp;omega
 ·exact(ai.alloc ah _).alloc (by simp;omega) _
def over(xs:List UInt8)(off:Nat)(bs:List UInt8):List UInt8:=xs.take off++(bs++xs.drop (off+bs.length))
theorem xH{xs:List UInt8}{off:Nat}{bs:List UInt8}(h:off+bs.length<=xs.length):(over xs off bs).length=xs.length:=by
 grind [over]
theorem Qt(xs:List UInt8)(off:Nat):over xs off []=xs:=by simp[over]
theorem Nw{α:Type}(C B:List α)(n off:Nat)(h:off+B.length<=n)(hn:n<=C.length) :
 (C.take off++(B++C.drop (off+B.length))).take n=(C.take n).take off++(B++(C.take n).drop (off+B.length)):=by
 rw[List.take_append,List.take_append,List.length_take,List.take_take,List.take_take,List.drop_take,Nat.min_eq_left (show off<=C.length by omega),Nat.min_eq_right (show off<=n by omega),Nat.min_eq_left (show off<=n by omega),List.take_of_length_le (show B.length<=n-off by omega),show n-off-B.length=n-(off+B.length) by omega]
def lM(m:List ((Name×Nat)×Unit))(name:Name)(off:Nat):Nat->List ((Name×Nat)×Unit)
 |0=>m
 |n+1=>aS (lM m name off n) (name,(off+n)/64) ()
def bR.laid(f:bR)(off:Nat)(bs:List UInt8):bR:=
 ⟨over (f.now++List.replicate (max f.now.length (off+bs.length)-f.now.length) 0) off bs,f.gw⟩
namespace Dsk
def write(d:Dsk)(name:Name)(off:Nat)(bs:List UInt8):Dsk×Nat:=
 if d.tick.dead then (d.tick,6) else if bM name=false then (d.tick,1) else match aB d.files name with
  |none=>(d.tick,3)
  |some f=>
    if f.now.length<off then (d.tick,1)
    else if 16777216<bs.length+off then (d.tick,9)
    else if gy f.now.length<gy (max f.now.length (off+bs.length))/\d.bD<ep d.files+(gy (max f.now.length (off+bs.length))-gy f.now.length) then (d.tick,5)
    else ({ d.tick with files:=aS d.files name (f.laid off bs),loose:=lM d.loose name off bs.length },0)
end Dsk
theorem nw{P:Program}{w:World}{ops:Array Oper}{rest:List Oper}{o:Oper}{a:Act}{Q:Exit->Act->World->Prop}(hgd:o.guard=none)(x y:Operand)(t t':TypeId)(ho:o.op=.call { callee:=.builtin .max,args:=#[x,y],argTypes:=#[t,t'] })(m n:Nat){p q:Int}(hx:a.eval x=.int .i64 p)(hy:a.eval y=.int .i64 q)(hp:p=(m:Int))(hq:q=(n:Int))(h:∀E,E=max m n->wpList P ops Q rest (a.put o.dst (.int .i64 ((E:Nat):Int))) w):wpList P ops Q (o::rest) a w:=by
 refine wpList_plain hgd fun K hK=>?_;have hrun:=run_max_int2 (P:=P) (w:=w) #[t,t'] o.type .i64 .i64 p q;unfold Oper.wp;simp[execOp,ho,resolve,invoke,builtin,hx,hy,hrun,Result.andThen];refine hK _ _ ?_;have:(if q>p then q else p)=((max m n:Nat):Int):=by
  omega
 grind
end
section
open Go
section
variable {P:Program} {ops:Array Oper} {md:Region.Mode} {C:World->Prop}
def mH(md:Region.Mode)(ops:Array Oper)(n:Nat):Bool:=
 (List.range ops.size).all fun t=>decide (t<=n) || (List.range t).any fun s=>decide (n<=s) && Region.waitsFor md ops t s
theorem Dc{n:Nat}{listed:Array Bool}(hs:Region.sinkB md ops n=true)(hc:mH md ops n=true)(hn:n<ops.size)(inv:HeadInv md ops n listed) :
 ∀(d i:Nat),n-i=d->i<n->listed.getD i true=false->∀t,n<=t->t ∉ Region.ready md ops listed:=by
 intro d;induction d using Nat.strongRecOn with
 |_ d ih=>
   intro i hd hi vA t ht hr;obtain⟨_,ot,hot,hall⟩:=mem_ready.1 hr;have Yy:t<ops.size:=(Array.getElem?_eq_some_iff.1 hot).1;by_cases y8:t=n
   ·subst y8;have h1:=List.all_eq_true.1 hs i (List.mem_range.2 hi);grind [Region.waitsFor_spec,HeadInv.closed]
   ·have h1:=List.all_eq_true.1 hc t (List.mem_range.2 Yy);grind [Region.waitsFor_spec,HeadInv.tail]
theorem Ei{n i:Nat}{oi:Oper}{v:Value}{L:Array Bool->Act->Prop}(hi:ops[i]? = some oi)(kZ:∀(j:Nat)(o:Oper)cs b,ops[j]? = some o->o.op≠.select cs b)(hs:Region.sinkB md ops n=true)(hc:mH md ops n=true)(hn:n<ops.size)(qh:i<n)(hdone:∀listed a,L listed a->∀j∈Region.ready md ops listed,n<=j)(f:Nat) :
 ∀(listed:Array Bool)(a:Act),HeadInv md ops n listed ->
  (∀j oj,ops[j]? = some oj->j≠i->listed.getD j true=false->(∀e∈oj.after,Region.binds md e=true->e.on≠i)->oi.apart ops oj=true) ->
  i∈Region.ready md ops listed->YieldsIn P ops C oi v a ->
  iZ P md ops C n L f (listed.setIfInBounds i true) (a.put oi.dst v)->iZ P md ops C n L (f+1) listed a:=by
 induction f with
 |zero=>
   intro listed a inv _ hr hy H;have vA:=(mem_ready.1 hr).1;refine⟨fun h=>(by grind),fun j hj=>?_⟩;have Pz:j<n:=by
    rcases Nat.lt_or_ge j n with h | h
    ·exact h
    ·exact absurd hj (Dc hs hc hn inv _ i rfl qh vA j h)
   refine⟨Pz,?_⟩;by_cases vB:j=i
   ·grind [YieldsIn.qOp]
   ·have:=hdone _ _ H j (ready_mono hj vB);omega
 |succ f ih=>
   intro listed a inv fO hr hy H;have vA:=(mem_ready.1 hr).1;refine⟨fun h=>(by grind),fun j hj=>?_⟩;have Pz:j<n:=by
    rcases Nat.lt_or_ge j n with h | h
    ·exact h
    ·exact absurd hj (Dc hs hc hn inv _ i rfl qh vA j h)
   refine⟨Pz,?_⟩;by_cases vB:j=i
   ·grind [YieldsIn.qOp]
   ·have h1:=(H.2 j (ready_mono hj vB)).2;obtain⟨P8,oj,lI,hall⟩:=mem_ready.1 hj;have vM:∀e∈oj.after,Region.binds md e=true->e.on≠i:=fun e he hb heq=>by
     grind
    have h2:=qOp_put lI (fO j oj lI vB P8 vM) (fun cs b=>kZ i oi cs b hi) (fun cs b=>kZ j oj cs b lI) hy h1;have JT:∀k ok,ops[k]? = some ok->k≠i->(listed.setIfInBounds j true).getD k true=false ->
     (∀e∈ok.after,Region.binds md e=true->e.on≠i)->oi.apart ops ok=true:=fun k ok hk TZ vA hno=>by
     refine fO k ok hk TZ ?_ hno;by_cases hjk:j=k
     ·grind
     simp_all
    grind [qOp_mono,HeadInv.set,ready_mono,Array.setIfInBounds_comm]
def zF(md:Region.Mode)(ops:Array Oper)(g:Nat):Nat->Nat->Array Bool->Bool
 |0,k,listed=>decide (Region.ready md ops listed=[k]) && Region.lexFrom md ops g (k+1) (listed.setIfInBounds k true)
 |f+1,k,listed=>(Region.ready md ops listed).contains k && Region.free md ops listed k && zF md ops g f (k+1) (listed.setIfInBounds k true)
def abY(md:Region.Mode)(ops:Array Oper)(n:Nat):Bool:=
 Region.noSelect ops && decide (n<ops.size) && Region.sinkB md ops n && mH md ops n && zF md ops (ops.size-(n+1)) n 0 (Array.replicate ops.size false)
def UA(md:Region.Mode)(ops:Array Oper)(g n:Nat)(listed:Array Bool):Prop:=Region.ready md ops listed=[n]/\Region.lexFrom md ops g (n+1) (listed.setIfInBounds n true)=true
theorem J8{n g:Nat}{Lq:Act->Prop}(kZ:Region.noSelect ops=true)(hs:Region.sinkB md ops n=true)(hc:mH md ops n=true)(hn:n<ops.size)(l:List Oper) :
 ∀(k:Nat)(listed:Array Bool)(a:Act),(∀j,j<l.length->l[j]? = ops[k+j]?)->k+l.length=n->HeadInv md ops n listed ->
 zF md ops g l.length k listed=true->wpQuiet P ops C Lq l a ->
 iZ P md ops C n (fun listed' a'=>UA md ops g n listed'/\Lq a') l.length listed a:=by
 induction l with
 |nil=>
   intro k listed a _ hk _ hB h;have:k=n:=by omega
   subst this;simp only[List.length_nil,zF,Bool.and_eq_true,decide_eq_true_eq]at hB;exact⟨hB,h⟩
 |cons o l ih=>
   intro k listed a hl hk inv hB h;have h0:ops[k]? = some o:=by simpa using (hl 0 ah).symm
   simp only[List.length_cons,zF,Bool.and_eq_true]at hB;obtain⟨⟨hr,hf⟩,Uu⟩:=hB;have JU:k<n:=by grind
   have Mi:k∈Region.ready md ops listed:=by grind
   have hst:qOp P ops C k (wpQuiet P ops C Lq l) a:=by unfold qOp;simp only[h0];exact h
   obtain⟨v,hy,hK⟩:=yieldsIn_of_qOp h0 hst;exact Ei h0 (Region.noSelect_spec kZ) hs hc hn JU (fun listed' a' hL j hj=>by
    have h1:=hL.1.1;grind) l.length listed a inv (Region.free_spec h0 hf) Mi hy
    (ih (k+1) _ _ (fun j hj=>by have:=hl (j+1) (by grind);grind) (by grind) (inv.set Mi JU) Uu hK)
def UB(P:Program)(ops:Array Oper)(Q:Exit->Act->World->Prop)(o:Oper)(rest:List Oper)(a:Act)(w:World):Prop:=
 ∃f args,Region.wanted o (yielded ops a.tmps)=true/\(execOp a.eval o).run P w=.ok (.enter f args) w /\
  Calls P f args w fun e w'=>∃v,e=.returned v/\wpQuiet P ops (·=w') (fun a'=>Q .normal a' w') rest (a.put o.dst v)
theorem cG(C:World->Prop){id:Nat}{Q:Exit->Act->World->Prop}{a:Act}{w:World}{l:List Oper}(n:Nat){o:Oper}{rest:List Oper}(hl:l.drop n=o::rest)(hm:P.follows .mixedOrders=true)(hB:abY .any l.toArray n=true)(hC:C w.drew)(h:wpQuiet P l.toArray C (fun a'=>∀w',C w'->UB P l.toArray Q o rest a' w') (l.take n) a):(Code.region id l.toArray true).wp P Q a w:=by
 simp only[abY,Bool.and_eq_true,decide_eq_true_eq]at hB;obtain⟨⟨⟨⟨kZ,hn⟩,hs⟩,hc⟩,Yk⟩:=hB;have hn':n<l.length:=by omega
 have JV:(l.take n).length=n:=by grind
 have yD:l[n]? = some o:=by
  have:=congrArg (fun x:List Oper=>x[0]?) hl;grind
 have alu:l.drop (n+1)=rest:=by
  have:=congrArg List.tail hl;simpa using this
 have Gp:rest.length=l.toArray.size-(n+1):=by grind
 have P9:HeadInv .any l.toArray n (Array.replicate l.toArray.size false):=
  ⟨ah,fun j oj _ hl=>(by grind [getD_replicate_false]),fun t _ ht=>getD_in (by grind) (getD_replicate_false _ _)⟩
 have H:=J8 (md:=.any) (C:=C) (g:=l.toArray.size-(n+1)) kZ hs hc hn (l.take n) 0 _ a (fun j hj=>by
  grind) ae P9 (by grind) h
 refine wp_region_any hm ?_;have:=qj (Q':=Q) (g:=rest.length+1) (fun listed a' w' hw' hL=>by
  obtain⟨⟨hr,hx⟩,hK⟩:=hL;refine⟨fun h0=>(by grind),fun i hi=>?_⟩;rw[hr]at hi;have:i=n:=by grind
  subst this;obtain⟨f,args,abZ,hrun,aN⟩:=hK w' hw';have h0:(l.toArray)[i]? = some o:=by grind
  unfold wpOp;simp only[h0];rw[if_pos abZ];left;unfold Oper.wp;rw[hrun,Oper.upon_enter];refine aN.mono ?_;rintro e w2⟨v,rfl,hq⟩;refine wpAny_of_quiet (Q:=fun a'=>Q .normal a' w2) (C:=(·=w2)) (fun a3 w3 hw3 h3=>by grind) _ _ _ _ rfl ?_;grind [wpAnyQ_lex]) _ _ _ _ hC H
 rw[JV,Gp,show n+(l.toArray.size-(n+1)+1)=l.toArray.size by omega]at this;exact this
end
end
section
open Go
section
variable {P:Program} {ops:Array Oper} {md:Region.Mode} {C:World->Prop}
def WW(Q:Exit->Act->World->Prop):Exit->Act->World->Prop
 | .panic _,_,_=>False
 |e,a,w=>Q e a w
theorem WW.weaken{Q:Exit->Act->World->Prop}:∀e a w,WW Q e a w->Q e a w:=by
 intro e a w h;cases e<;>first | exact h | exact h.elim
def vO(P:Program)(ops:Array Oper)(Qp:Act->Prop):List Oper->Act->Prop
 | [],a=>Qp a
 |o::rest,a=>∃v,Yields P ops o v a/\vO P ops Qp rest (a.put o.dst v)
theorem p_op{Qp:Act->Prop}{a:Act}{o:Oper}{rest:List Oper}{v:Value}(hw:Region.wanted o (yielded ops a.tmps)=true)(h:∀w,(execOp a.eval o).run P w=.ok (.value v) w)(hk:∀K:Act->Prop,(∀a,vO P ops Qp rest a->K a)->K (a.put o.dst v)):vO P ops Qp (o::rest) a:=
 ⟨v,.inl ⟨hw,h⟩,hk _ fun _ h=>h⟩
theorem ab0{Qp:Act->Prop}{a:Act}(h:Qp a):vO P ops Qp [] a:=h
structure jh(md:Region.Mode)(ops:Array Oper)(lo n:Nat)(listed:Array Bool):Prop where
 head:HeadInv md ops n listed
 low:∀i,i<lo->listed.getD i true=true
theorem jh.set{lo n i:Nat}{listed:Array Bool}(inv:jh md ops lo n listed)(hi:i∈Region.ready md ops listed)(qh:i<n):jh md ops lo n (listed.setIfInBounds i true):=by
 refine⟨inv.head.set hi qh,fun j hj=>?_⟩;by_cases e:i=j
 ·subst e;have:=inv.low i hj;have h2:=(mem_ready.1 hi).1;rw[this]at h2;cases h2
 ·rw[getD_set_ne true e];exact inv.low j hj
def rq(md:Region.Mode)(ops:Array Oper)(lo n:Nat):Bool:=
 (List.range n).all fun i=>decide (i<lo) || (List.range (n+1)).any fun j=>decide (i<j) && Region.waitsFor md ops j i
theorem xI{lo n:Nat}{listed:Array Bool}(hs:rq md ops lo n=true)(hc:mH md ops n=true)(hn:n<ops.size)(inv:jh md ops lo n listed) :
 ∀(d i:Nat),n-i=d->i<n->listed.getD i true=false->∀t,n<=t->t ∉ Region.ready md ops listed:=by
 intro d;induction d using Nat.strongRecOn with
 |_ d ih=>
   intro i hd hi vA t ht hr;obtain⟨_,ot,hot,hall⟩:=mem_ready.1 hr;have Yy:t<ops.size:=(Array.getElem?_eq_some_iff.1 hot).1;by_cases y8:t=n
   ·subst y8;have h1:=List.all_eq_true.1 hs i (List.mem_range.2 hi);simp only[Bool.or_eq_true,decide_eq_true_eq]at h1;rcases h1 with h1 | h1
    ·rw[inv.low i h1]at vA;cases vA
    obtain⟨j,hj,hj2⟩:=List.any_eq_true.1 h1;simp only[Bool.and_eq_true,decide_eq_true_eq]at hj2;obtain⟨oj,lI,e,he,hb,yD⟩:=Region.waitsFor_spec hj2.2;have aoa:j<=t:=by have:=List.mem_range.1 hj;omega
    by_cases hjt:j=t
    ·subst hjt;have:oj=ot:=Option.some.inj (lI.symm.trans hot);subst this;have h2:=hall e he hb;rw[yD,getD_both vA]at h2;cases h2
    ·cases hl:listed.getD j false with
     |true=>
       have h2:=inv.head.closed j oj lI hl e he hb;rw[yD,getD_both vA]at h2;cases h2
     |false=>
       have hjs:j<listed.size:=by rw[inv.head.size];omega
       exact ih (t-j) ae j rfl ae (getD_in hjs hl) t (Nat.le_refl _) hr
   ·have h1:=List.all_eq_true.1 hc t (List.mem_range.2 Yy);simp only[Bool.or_eq_true,decide_eq_true_eq]at h1;rcases h1 with h1 | h1
    ·omega
    ·obtain⟨s,hsr,hs2⟩:=List.any_eq_true.1 h1;simp only[Bool.and_eq_true,decide_eq_true_eq]at hs2;have hst:=List.mem_range.1 hsr;obtain⟨o',kN,e,he,hb,yD⟩:=Region.waitsFor_spec hs2.2;have:o'=ot:=Option.some.inj (kN.symm.trans hot);subst this;have h2:=hall e he hb;rw[yD,getD_both (inv.head.tail s hs2.1 ae)]at h2;cases h2
theorem zG{lo n i:Nat}{oi:Oper}{v:Value}{L:Array Bool->Act->Prop}(hi:ops[i]? = some oi)(kZ:∀(j:Nat)(o:Oper)cs b,ops[j]? = some o->o.op≠.select cs b)(hs:rq md ops lo n=true)(hc:mH md ops n=true)(hn:n<ops.size)(qh:i<n)(hdone:∀listed a,L listed a->∀j∈Region.ready md ops listed,n<=j)(f:Nat) :
 ∀(listed:Array Bool)(a:Act),jh md ops lo n listed ->
  (∀j oj,ops[j]? = some oj->j≠i->listed.getD j true=false->(∀e∈oj.after,Region.binds md e=true->e.on≠i)->oi.apart ops oj=true) ->
  i∈Region.ready md ops listed->YieldsIn P ops C oi v a ->
  iZ P md ops C n L f (listed.setIfInBounds i true) (a.put oi.dst v)->iZ P md ops C n L (f+1) listed a:=by
 induction f with
 |zero=>
   intro listed a inv _ hr hy H;have vA:=(mem_ready.1 hr).1;refine⟨fun h=>(by rw[h]at hr;cases hr),fun j hj=>?_⟩;have Pz:j<n:=by
    rcases Nat.lt_or_ge j n with h | h
    ·exact h
    ·exact absurd hj (xI hs hc hn inv _ i rfl qh vA j h)
   refine⟨Pz,?_⟩;by_cases vB:j=i
   ·subst vB;exact hy.qOp hi H
   ·have:=hdone _ _ H j (ready_mono hj vB);omega
 |succ f ih=>
   intro listed a inv fO hr hy H;have vA:=(mem_ready.1 hr).1;refine⟨fun h=>(by rw[h]at hr;cases hr),fun j hj=>?_⟩;have Pz:j<n:=by
    rcases Nat.lt_or_ge j n with h | h
    ·exact h
    ·exact absurd hj (xI hs hc hn inv _ i rfl qh vA j h)
   refine⟨Pz,?_⟩;by_cases vB:j=i
   ·subst vB;exact hy.qOp hi H
   ·have h1:=(H.2 j (ready_mono hj vB)).2;obtain⟨P8,oj,lI,hall⟩:=mem_ready.1 hj;have vM:∀e∈oj.after,Region.binds md e=true->e.on≠i:=fun e he hb heq=>by
     have h1:=hall e he hb;rw[heq,getD_both vA]at h1;cases h1
    have h2:=qOp_put lI (fO j oj lI vB P8 vM) (fun cs b=>kZ i oi cs b hi) (fun cs b=>kZ j oj cs b lI) hy h1;have JT:∀k ok,ops[k]? = some ok->k≠i->(listed.setIfInBounds j true).getD k true=false ->
     (∀e∈ok.after,Region.binds md e=true->e.on≠i)->oi.apart ops ok=true:=fun k ok hk TZ vA hno=>by
     refine fO k ok hk TZ ?_ hno;by_cases hjk:j=k
     ·subst hjk;exact P8
     ·rw[getD_set_ne true hjk]at vA;exact vA
    refine qOp_mono (fun a' h3=>ih (listed.setIfInBounds j true) a' (inv.set hj Pz) JT (ready_mono hr (Ne.symm vB)) h3.1 ?_) h2;rw[Array.setIfInBounds_comm _ _ vB];exact h3.2
theorem Ej{lo n g:Nat}{Lq:Act->Prop}(kZ:Region.noSelect ops=true)(hs:rq md ops lo n=true)(hc:mH md ops n=true)(hn:n<ops.size)(l:List Oper) :
 ∀(k:Nat)(listed:Array Bool)(a:Act),(∀j,j<l.length->l[j]? = ops[k+j]?)->k+l.length=n->jh md ops lo n listed ->
 Region.lexHead md ops g l.length k listed=true->wpQuiet P ops C Lq l a ->
 iZ P md ops C n (fun listed' a'=>Region.seqB md ops g n listed'=true/\Lq a') l.length listed a:=by
 induction l with
 |nil=>
   intro k listed a _ hk _ hB h;have:k=n:=by simpa using hk
   subst this;exact⟨by simpa[Region.lexHead]using hB,h⟩
 |cons o l ih=>
   intro k listed a hl hk inv hB h;have h0:ops[k]? = some o:=by simpa using (hl 0 ah).symm
   simp only[List.length_cons,Region.lexHead,Bool.and_eq_true]at hB;obtain⟨⟨hr,hf⟩,Uu⟩:=hB;have JU:k<n:=by simp only[List.length_cons]at hk;omega
   have Mi:k∈Region.ready md ops listed:=by simpa using hr
   have hst:qOp P ops C k (wpQuiet P ops C Lq l) a:=by unfold qOp;simp only[h0];exact h
   obtain⟨v,hy,hK⟩:=yieldsIn_of_qOp h0 hst;exact zG h0 (Region.noSelect_spec kZ) hs hc hn JU (fun listed' a' hL=>seqB_ready hL.1) l.length listed a inv (Region.free_spec h0 hf) Mi hy
    (ih (k+1) _ _ (fun j hj=>by have:=hl (j+1) (by simp;omega);simpa[Nat.add_assoc,Nat.add_comm 1 j]using this) (by simp only[List.length_cons]at hk;omega) (inv.set Mi JU) Uu hK)
def tN(md:Region.Mode)(ops:Array Oper)(g h:Nat):Nat->Nat->Array Bool->Bool
 |0,k,listed=>Region.lexHead md ops g h k listed
 |f+1,k,listed=>(Region.ready md ops listed).contains k && Region.free md ops listed k && tN md ops g h f (k+1) (listed.setIfInBounds k true)
def Qu(md:Region.Mode)(ops:Array Oper)(lo n:Nat):Bool:=
 Region.noSelect ops && decide (lo<=n) && decide (n<ops.size) && rq md ops lo n && mH md ops n && tN md ops (ops.size-n) (n-lo) lo 0 (Array.replicate ops.size false)
theorem J9{lo n g h gf:Nat}{Q:Exit->Act->World->Prop}{Lp:Act->Prop}(kZ:Region.noSelect ops=true)(hQ:∀c a w,¬Q (.panic c) a w)(ab1:lo<=n)(hn:n<ops.size)(l:List Oper) :
 ∀(k:Nat)(listed:Array Bool)(a:Act)(w:World),(∀j,j<l.length->l[j]? = ops[k+j]?)->k+l.length=lo->jh md ops k n listed ->
 tN md ops g h l.length k listed=true->vO P ops Lp l a ->
 (∀listed' a',jh md ops lo n listed'->Region.lexHead md ops g h lo listed'=true->Lp a'->wpAny P md ops Q gf listed' a' w) ->
 wpAny P md ops Q (l.length+gf) listed a w:=by
 induction l with
 |nil=>
   intro k listed a w _ hk inv hB h hg;have:k=lo:=by simpa using hk
   subst this;rw[List.length_nil,Nat.zero_add];exact hg listed a inv (by simpa[tN]using hB) h
 |cons o l ih=>
   intro k listed a w hl hk inv hB h hg;have h0:ops[k]? = some o:=by simpa using (hl 0 ah).symm
   simp only[List.length_cons,tN,Bool.and_eq_true]at hB;obtain⟨⟨hr,hf⟩,Uu⟩:=hB;obtain⟨v,hy,hK⟩:=h;have yE:k<lo:=by simp only[List.length_cons]at hk;omega
   have Mi:k∈Region.ready md ops listed:=by simpa using hr
   rw[List.length_cons,show l.length+1+gf=(l.length+gf)+1 by omega];refine wpAny_take h0 kZ hf hr (fun c a w hq=>absurd hq (hQ _ _ _)) hy ?_;refine ih (k+1) _ _ w (fun j hj=>by have:=hl (j+1) (by simp;omega);simpa[Nat.add_assoc,Nat.add_comm 1 j]using this) (by simp only[List.length_cons]at hk;omega) ?_ Uu hK hg;refine⟨inv.head.set Mi ae,fun i hi=>?_⟩;by_cases e:k=i
   ·subst e;exact zH (by have:=inv.head.size;omega)
   ·rw[getD_set_ne true e];exact inv.low i ae
where
 zH {listed:Array Bool} {i:Nat} (h:i<listed.size):(listed.setIfInBounds i true).getD i true=true:=by
  rw[Array.getD_eq_getD_getElem?,Array.getElem?_setIfInBounds_self_of_lt h];rfl
theorem pT(C:World->Prop){id:Nat}{Q:Exit->Act->World->Prop}{a:Act}{w:World}{l:List Oper}(lo n:Nat)(hm:P.follows .mixedOrders=true)(hB:Qu .any l.toArray lo n=true)(hC:C w.drew)(h:vO P l.toArray (wpQuiet P l.toArray C (fun a'=>∀w',C w'->wpList P l.toArray (WW Q) (l.drop n) a' w') ((l.drop lo).take (n-lo))) (l.take lo) a):(Code.region id l.toArray true).wp P Q a w:=by
 refine Code.wp_mono WW.weaken ?_;simp only[Qu,Bool.and_eq_true,decide_eq_true_eq]at hB;obtain⟨⟨⟨⟨⟨kZ,ab1⟩,hn⟩,hs⟩,hc⟩,Yk⟩:=hB;have hn':n<l.length:=by simpa using hn
 have JV:(l.take lo).length=lo:=by simp;omega
 have BV:((l.drop lo).take (n-lo)).length=n-lo:=by simp;omega
 have Mj:(l.drop n).length=l.toArray.size-n:=by simp
 have P9:jh .any l.toArray 0 n (Array.replicate l.toArray.size false):=
  ⟨⟨ah,fun j oj _ hl=>(by rw[getD_replicate_false]at hl;cases hl),fun t _ ht=>getD_in (by simpa using ht) (getD_replicate_false _ _)⟩,fun i hi=>absurd hi (Nat.not_lt_zero i)⟩
 refine wp_region_any hm ?_;have:=J9 (P:=P) (md:=.any) (ops:=l.toArray) (lo:=lo) (n:=n) (g:=l.toArray.size-n) (h:=n-lo) (gf:=l.toArray.size-lo) (Q:=WW Q) kZ (fun c a w h=>h) ab1 hn (l.take lo) 0 _ a w.drew (fun j hj=>by
  have hj':j<lo:=by rw[JV]at hj;exact hj
  simp[hj']) (by simpa using JV) P9 (by rw[JV];exact Yk) h (fun listed' a' aha hx hq=>by
   have H:=Ej (md:=.any) (C:=C) (g:=l.toArray.size-n) kZ hs hc hn ((l.drop lo).take (n-lo)) lo listed' a' (fun j hj=>by
    have hj':j<n-lo:=by rw[BV]at hj;exact hj
    simp[hj',List.getElem?_drop]) (by rw[BV];omega) aha (by rw[BV];exact hx) hq
   have:=qj (Q':=WW Q) (g:=l.toArray.size-n) (fun listed a' w' hw' hL=>by
    have:=wpAny_of_seq (md:=.any) (Q':=WW Q) (l.drop n) n listed a' w' (fun j=>by simp[List.getElem?_drop]) (by rw[Mj];exact hL.1) (hL.2 w' hw');rwa [Mj]at this) _ _ _ _ hC H
   rw[BV,show n-lo+(l.toArray.size-n)=l.toArray.size-lo by omega]at this;exact this)
 rw[JV,show lo+(l.toArray.size-lo)=l.toArray.size by omega]at this;exact this
end
end
section
open Go.RowKit Go.Maps Go.MapKept
open Go.ChangeMaps (setBlock heap_setBlock_same heap_setBlock_other)
theorem dy.extend{w w4:World}{o:ar}{pf:Nat}{f:bR}(h:dy w o pf f){v v':Value}(hc:w.cell? ⟨pf,0,none⟩=some v)(hown:∀b,v.ownBlock=some b->o b=some (4,pf)){bs:List UInt8}(hv:w4.ownsRow 0 5 1 v' bs.length (bs.map bv))(hg:w.grownBy w4 v.ownBlock)(qi:v'.ownBlock=v.ownBlock\/v'.ownBlock=some w.heap.size)(ho:∀x t,o x=some t->x<w.heap.size)(hl:bs.length<=16777216) :
 dy (w4.setCell ⟨pf,0,none⟩ v') (o.put v' (4,pf)) pf { f with now:=bs }/\(∀x r,o x=some r->(o.put v' (4,pf)) x=some r)/\aH (lL o pf) w (w4.setCell ⟨pf,0,none⟩ v')/\cw w.heap.size o (o.put v' (4,pf)) /\
  (∀x t,(o.put v' (4,pf)) x=some t->x<(w4.setCell ⟨pf,0,none⟩ v').heap.size)/\(w4.setCell ⟨pf,0,none⟩ v').cell? ⟨pf,0,none⟩=some v':=by
 have hput:∀b,v'.ownBlock=some b->o b=some (4,pf)\/b=w.heap.size:=fun b hb=>by
  rcases qi with e | e
  ·exact .inl (hown b (by rw[<- e];exact hb))
  ·rw[e]at hb;exact .inr (Option.some.inj hb).symm
 have xJ:∀x r,o x=some r->(o.put v' (4,pf)) x=some r:=fun x r hx=>by
  unfold ar.put;cases e:v'.ownBlock with
  |none=>exact hx
  |some b=>
    dsimp only;by_cases ex:x=b
    ·subst ex;rcases hput x e with h1 | h1
     ·rw[h1]at hx;cases hx;simp
     ·have:=ho x r hx;omega
    ·rw[ar.e9 _ _ ex];exact hx
 have hgrow:cw w.heap.size o (o.put v' (4,pf)):=fun x hx=>by
  cases e:o x with
  |some r=>exact xJ x r e
  |none=>
    unfold ar.put;cases e2:v'.ownBlock with
    |none=>exact e
    |some b=>
      dsimp only;have hne:x≠b:=by
       rintro rfl;rcases hput x e2 with h1 | h1
       ·rw[e]at h1;cases h1
       ·omega
      rw[ar.e9 _ _ hne];exact e
 have hT4:aH (lL o pf) w w4:=(aH.refl (lL o pf) w).grown hg (fun k hk=>.inl (.inr (.inl (hown k hk))));have hT5:=hT4.setCell ⟨pf,0,none⟩ v' (.inl (.inl rfl));have hsz:(w4.setCell ⟨pf,0,none⟩ v').heap.size=w4.heap.size:=by simp
 have ahb:∀b,v'.ownBlock=some b->b<w4.heap.size:=fun b hb=>(aL hv b hb).1;obtain⟨h1,⟨t,a,c,h2,h3,h4,h5,h6⟩,h7⟩:=h;have hva:a=v:=by
  rw[aq h2]at hc;simpa using hc
 subst hva;have ahd:∀b,v'.ownBlock=some b->b≠pf:=fun b hb e=>by
  rcases hput b hb with h | h
  ·rw[e,h1]at h;cases h
  ·have:=ho pf _ h1;omega
 have Nx:w4.heap[pf]? = w.heap[pf]? := hg.block pf (ho _ _ h1) (fun e=>by have:=hown pf e.symm;rw[h1]at this;cases this);refine⟨⟨xJ _ _ h1,⟨t,v',c,?_,?_,fun b hb=>ar.zD hb,?_,fun b hb=>xJ _ _ (h6 b hb)⟩,hl,h7.2⟩,xJ,hT5,hgrow,?_,by rw[aq (aT (Nx.trans h2) 0 v')];rfl⟩
 ·rw[aT (Nx.trans h2)];rfl
 ·exact((aH.refl (·=pf) w4).setCell ⟨pf,0,none⟩ v' (.inl rfl)).ownsRow hv (fun b hb e=>ahd b hb e)
 ·refine((aH.refl (fun x=>x=pf\/a.ownBlock=some x) w).grown hg (fun k hk=>.inl (.inr hk))).setCell ⟨pf,0,none⟩ v' (.inl (.inl rfl)) |>.ownsRow h5 (fun b hb e=>?_);have oh:=h6 b hb;rcases e with e | e
  ·rw[e,h1]at oh;cases oh
  ·have:=hown b e;rw[oh]at this;cases this
 ·intro x r hx;rw[hsz];unfold ar.put at hx;cases e:v'.ownBlock with
  |none=>
    rw[e]at hx;exact Nat.lt_of_lt_of_le (ho x r hx) hg.size
  |some b=>
    rw[e]at hx;dsimp only at hx;by_cases ex:x=b
    ·rw[ex];exact ahb b e
    ·rw[ar.e9 _ _ ex]at hx;exact Nat.lt_of_lt_of_le (ho x r hx) hg.size
theorem dy.Yz{w w':World}{o:ar}{pf:Nat}{f:bR}(h:dy w o pf f){v:Value}(hc:w.cell? ⟨pf,0,none⟩=some v)(hown:∀b,v.ownBlock=some b->o b=some (4,pf)){bs:List UInt8}(hv:w'.ownsRow 0 5 1 v bs.length (bs.map bv))(ht:aH (fun x=>v.ownBlock=some x) w w')(hl:bs.length<=16777216):dy w' o pf { f with now:=bs }:=by
 obtain⟨h1,⟨t,a,c,h2,h3,h4,h5,h6⟩,h7⟩:=h;have hva:a=v:=by
  rw[aq h2]at hc;simpa using hc
 subst hva;refine⟨h1,⟨t,a,c,?_,hv,hown,?_,h6⟩,hl,h7.2⟩
 ·exact ht.heap h2 (fun e=>by have:=hown pf e;rw[h1]at this;cases this)
 ·exact ht.ownsRow h5 (fun b hb e=>by have:=hown b e;rw[h6 b hb]at this;cases this)
theorem YA{n:Int}(h1:-9223372036854775808<=n)(h2:n<=9223372036854775807):IntKind.i64.wrap n=n:=by
 simp[IntKind.wrap,IntKind.bits,IntKind.signed];omega
theorem zI{n E:Nat}(h:n<=E):n+(E-n)=E:=by omega
theorem zJ{xs:List UInt8}{E:Nat}(h:xs.length<=E):(xs++List.replicate (E-xs.length) (0:UInt8)).length=E:=by simp;omega
theorem Qv{w:World}{v:Value}{xs:List UInt8}{E:Nat}(h:w.ownsRow 0 5 1 v (xs.length+(E-xs.length)) (xs.map bv++(List.replicate (E-xs.length) (0:UInt8)).map bv))(hE:xs.length<=E) :
 w.ownsRow 0 5 1 v (xs++List.replicate (E-xs.length) (0:UInt8)).length ((xs++List.replicate (E-xs.length) (0:UInt8)).map bv):=by
 rw[zJ hE,List.map_append];rw[zI hE]at h;exact h
theorem Ka{w w':World}{row:Option Nat}(h:w.grownBy w' row){b i:Nat}(hb:some b≠row)(hl:b<w.heap.size):w'.cell? ⟨b,i,none⟩=w.cell? ⟨b,i,none⟩:=World.cell?_of_block (h.block b hl hb)
theorem Ek{w w':World}{row:Option Nat}(h:w.grownBy w' row){b i:Nat}(hb:some b≠row)(hl:b<w.heap.size):w'.frozen? ⟨b,i,none⟩=w.frozen? ⟨b,i,none⟩:=World.frozen?_of_block (h.block b hl hb)
theorem dy.apart{w:World}{o:ar}{pf:Nat}{f:bR}(h:dy w o pf f){v:Value}(hown:∀b,v.ownBlock=some b->o b=some (4,pf)):some pf≠v.ownBlock:=fun e=>by
 have:=hown pf e.symm;rw[h.own]at this;cases this
theorem Ny{w:World}{base:Nat}{e:TypeId}{a:Option Addr}{n c:Nat}{xs:List Value}{m:Nat}(h:w.ownsRow base e 1 (.slice a m c) n xs):n<=c:=by
 obtain⟨_,h⟩:=h;rcases h with⟨h1,h2⟩|⟨g,cap,cur,h1,_,_,h2,_⟩
 ·omega
 ·cases h1;exact h2
theorem Qw{w:World}{base:Nat}{e:TypeId}{a:Option Addr}{n c:Nat}{xs:List Value}{m g:Nat}(h:w.ownsRow base e 1 (.slice a m c) n xs)(hg:(Value.slice a m c).ownBlock=some g)(off:Nat):a.map (fun x=>x.add off)=some ⟨g,off,none⟩:=by
 obtain⟨_,h⟩:=h;rcases h with⟨h1,h2⟩|⟨g',cap,cur,h1,_⟩
 ·cases h1;cases hg
 ·cases h1;cases hg;rw[Option.map_some,bG,Nat.zero_add]
theorem iQ{κ υ:Type}[DecidableEq κ](m:List (κ×υ))(k:κ)(a b:υ):aS (aS m k a) k b=aS m k b:=by
 unfold aS b8;rw[List.filter_cons_of_neg ah,List.filter_filter];simp
theorem B7{P:Program}{w:World}(dT sT ty elem:TypeId)(hu:P.underlying dT=some (.slice elem))(hsz:(P.info? elem).map (·.size)=some 1)(base:Nat)(v:Value)(xs bs:List UInt8)(hown:w.ownsRow base elem 1 v xs.length (xs.map bv))(off:Nat)(il:off+bs.length<=xs.length)(UC:Nat)(Mj:UC=xs.length-off)(sv:Value)(Qx:Rd w sv bs) :
 ∃w',(∀(dp:Option Addr)(Kb:Nat),(0<bs.length->∀g,v.ownBlock=some g->dp=some ⟨g,off,none⟩)->(Builtin.copy_ #[dT,sT] ty #[.slice dp UC Kb,sv]).run P w=.ok (goInt bs.length) w')/\w'.ownsRow base elem 1 v xs.length ((over xs off bs).map bv)/\aH (fun x=>v.ownBlock=some x) w w':=by
 obtain⟨sp,ab2,rfl,T4,hsc,lN⟩:=Qx;by_cases h0:bs.length=0
 ·obtain rfl:bs=[]:=List.eq_nil_of_length_eq_zero h0;refine⟨w,fun dp Kb _=>run_copy_none (P:=P) w dT sT ty elem dp sp UC Kb 0 ab2 hu hsz ah,?_,aH.refl _ _⟩;rw[Qt];exact hown
 ·rcases lN with hc |⟨b,so,rfl,hc⟩
  ·exact absurd hc h0
  obtain⟨hl,⟨rfl,hz⟩|⟨g,cap,cur,rfl,hg,hh,hn,hm,hcs,hx⟩⟩:=hown
  ·omega
  have zK:cur.toList.length=cap*1:=by rw[Array.length_toList,hcs]
  have hx1:cur.toList.take xs.length=xs.map bv:=by rw[Nat.mul_one]at hx;exact hx
  have hrun:=fun Kb=>run_copy_row (P:=P) w dT sT ty elem g off UC Kb ⟨b,so,none⟩ bs.length ab2 cur elem (bs.map bv) hu hsz hh (by
   rw[List.length_map,Mj];exact(Nat.min_eq_left ae).symm) (by
   intro j x hj;rw[List.getElem?_map]at hj;by_cases kY:j<bs.length
   ·rw[List.getElem?_eq_getElem kY]at hj;simp only[Option.map_some,Option.some.injEq]at hj;subst hj;rw[bG];exact hc j kY
   ·rw[List.getElem?_eq_none ae]at hj;simp at hj) (by
   rw[List.length_map,hcs];omega) (by simp[iF])
  simp only[List.length_map]at hrun;refine⟨_,fun dp Kb hdp=>(by rw[hdp ae g rfl];exact hrun Kb),⟨?_,.inr ⟨g,cap,_,rfl,hg,setRow_heap w g _ _ elem _ hh,hn,hm,?_,?_⟩⟩,?_⟩
  ·rw[List.length_map,xH il,Nat.mul_one]
  ·simp only[List.size_toArray,List.length_append,List.length_take,List.length_drop,List.length_map];omega
  ·rw[Nat.mul_one];unfold over;have h1:=Nw cur.toList (bs.map bv) xs.length off (by rw[List.length_map];exact il) ae;rw[List.length_map]at h1;rw[List.append_assoc,h1,hx1,List.map_append,List.map_append,List.map_take,List.map_drop]
  ·exact⟨rfl,rfl,rfl,by simp[World.setRow],fun k _ hk=>setRow_other w g k _ (fun e=>hk (by rw[e];rfl))⟩
theorem dy.lt{w:World}{o:ar}{pf:Nat}{f:bR}(h:dy w o pf f):pf<w.heap.size:=by
 obtain⟨_,⟨t,v,u,h2,_⟩,_⟩:=h;exact(Array.getElem?_eq_some_iff.1 h2).1
theorem CT{w:World}{db:Nat}{o:ar}{d:Dsk}(h:cK w db o d)(name:Name)(hs:name.size<=1000)(off:Nat)(aog:off<=1099511627776)(sv:Value)(bs:List UInt8)(Qx:Rd w sv bs)(hbl:bs.length<=1099511627776)(Nz:∀b,sv.ownBlock=some b->o b=none) :
 Calls prog 230 #[ptrTo db,.string name,.int .i64 (off:Int),sv] w fun e w'=>e=.returned (.int .i64 ((d.write name off bs).2:Int))/\cz w db o (d.write name off bs).1 w':=by
 have H:=aa h;have HSV:=aa Qx;have PF:=aa Nz;obtain⟨sa,ahf,rfl,-⟩:=Qx;clear h Nz;unfold ptrTo;cases hd:d.tick.dead with
 |true=>
   have e1:d.write name off bs=(d.tick,6):=by unfold Dsk.write;rw[hd];rfl
   have e2:d.tick.err=6:=by unfold Dsk.err;rw[hd];rfl
   have E2:=aa e2;rw[e1];clear hd e1 e2;go_enter func230,ntmps230;go_wp2_with fail;refine(iP H.o).mono ?_;rintro e w1⟨rfl,nu,mB⟩;rw[E2.o];go_wp2;go_ret;exact⟨rfl,.of nu mB⟩
 |false=>
   have e2:d.tick.err=0:=by unfold Dsk.err;rw[hd];rfl
   have E2:=aa e2;have u6:=aa hd;clear hd e2;go_enter func230,ntmps230;go_wp2_with fail;refine(iP H.o).mono ?_;rintro e w1⟨rfl,⟨mf,ml,l,nu⟩,mB⟩;rw[E2.o];have uZ:=aa nu;have Qk:=aa mB;have BW:=jO nu name true;rw[Dsk.dB]at BW;clear nu mB;go_wp2_with fail;refine(om uZ.o name true hs).mono ?_;rintro e w2⟨rfl,hb2⟩;have oV:=aa (uZ.o.below hb2);have nQ:=aa (Qk.o.bN hb2);clear hb2;rcases BW with⟨q1,q2⟩|⟨q1,q2,q3,q4⟩|⟨pf,f,q1,q2,q3,q4⟩
   ·have e1:d.write name off bs=(d.tick,1):=by
     unfold Dsk.write;rw[u6.o];rw[Bool.and_true]at q1;rw[q1];rfl
    rw[q2];have E1:=aa e1;clear e1 q2 q1;go_wp2;go_ret;rw[E1.o];exact⟨rfl,.of ⟨_,_,_,oV.o⟩ nQ.o⟩
   ·have e1:d.write name off bs=(d.tick,3):=by
     unfold Dsk.write;rw[u6.o];rw[Bool.and_true]at q1;rw[q1,q2];rfl
    rw[q4];have E1:=aa e1;clear e1 q4 q3 q2 q1;go_wp2;go_ret;rw[E1.o];exact⟨rfl,.of ⟨_,_,_,oV.o⟩ nQ.o⟩
   ·have e1:d.write name off bs=if f.now.length<off then (d.tick,1)
     else if 16777216<bs.length+off then (d.tick,9)
     else if gy f.now.length<gy (max f.now.length (off+bs.length))/\d.bD<ep d.files+(gy (max f.now.length (off+bs.length))-gy f.now.length) then (d.tick,5)
     else ({ d.tick with files:=aS d.files name (f.laid off bs),loose:=lM d.loose name off bs.length },0):=by
     unfold Dsk.write;rw[u6.o];rw[Bool.and_true]at q1;rw[q1,q2];rfl
    rw[q4];have E1:=aa e1;have Db:dy w2 o pf f:=oV.o.each _ (eM q3);have HFA:=aa Db;have HQ:=aa q3;clear e1 q4 q3 q2 q1;obtain⟨v,u,⟨Qo,-⟩,⟨hz0,-⟩,hrow,hown,-,-⟩:=Db.cells;have jg:=Db.most.1;obtain⟨va,vc,rfl⟩:=az hrow;have Gj:=aa hrow;have vP:=aa hown;clear hrow hown Db;by_cases JA:f.now.length<off
    ·go_wp2;go_ret;rw[E1.o,if_pos JA];exact⟨rfl,.of ⟨_,_,_,oV.o⟩ nQ.o⟩
    ·by_cases Qy:16777216<bs.length+off
     ·go_wp2;go_ret;rw[E1.o,if_neg JA,if_pos Qy];exact⟨rfl,.of ⟨_,_,_,oV.o⟩ nQ.o⟩
     ·go_wp2_with (refine nw rfl _ _ _ _ rfl f.now.length (off+bs.length) rfl rfl rfl ae ?_;intro E hE;have HE:=aa hE;have hE1:f.now.length<=E:=(by omega);have hE2:off+bs.length<=E:=(by omega);have hE3:E<=16777216:=(by omega);clear hE);go_quiet ((go_at_call 266;exact Calls.quiet_of_same ((xF _ _ ae).mono (fun e w' h=>⟨h.1,h.2.symm⟩))))
      go_wp2_with fail;obtain⟨M,hM⟩:∃M:Nat,M=gy E-gy f.now.length:=⟨_,rfl⟩;have hM':((E:Int)+63)/64-((f.now.length:Int)+63)/64=(M:Int):=by
       unfold gy at hM;omega
      rw[hM'];have hMb:M<=1048576:=by unfold gy at hM;omega
      have HM:=aa hM;clear hM hM';rcases Nat.lt_or_ge 0 M with YB | ab6;case' inl=>
       have alx:(0:Int)<(M:Int):=by omega
       have hu:=oV.o.ok.used;obtain⟨U,hU⟩:∃U:Nat,U=ep d.tick.files:=⟨_,rfl⟩;rw[<- hU]at hu;have HU:=aa hU;clear hU;obtain⟨Q,hQ⟩:∃Q:Nat,Q=d.tick.bD:=⟨_,rfl⟩;have hQb:=oV.o.ok.bD;rw[<- hQ]at hQb;have HQQ:=aa hQ;clear hQ;have hwU:IntKind.i64.wrap ((U:Int)+(M:Int))=(U:Int)+(M:Int):=by
        simp[IntKind.wrap,IntKind.bits,IntKind.signed];omega
       refine cR (Below w2.heap.size w2) ag ag ((below_drewN aj _).drew) ?_;refine q_op rfl (fun w' hw'=>(by go_simp;rfl)) (fun K hK=>?_);go_simp;refine hK _ ?_;clear hK K;refine q_op rfl (fun w' hw'=>(by go_simp;rfl)) (fun K hK=>?_);go_simp;refine hK _ ?_;clear hK K;refine q_op rfl (fun w' hw'=>(by go_simp;rfl)) (fun K hK=>?_);go_simp;refine hK _ ?_;clear hK K;refine q_op rfl (fun w' hw'=>(by go_simp;rfl)) (fun K hK=>?_);go_simp;refine hK _ ?_;clear hK K;refine sO rfl (fun w' hw'=>(by go_simp;rfl)) (fun w' hw'=>((Qs (db:=db) (o:=o) (d:=d.tick) ⟨mf,ml,l,oV.o.below hw'⟩).mono (fun e w'' h=>⟨h.1,hw'.trans (h.2.mono hw'.size)⟩))) (fun K hK=>?_);go_simp;refine hK _ ?_;clear hK K;rw[<- HU.o];iterate 5 (refine q_op rfl (fun w' hw'=>(by go_simp;rfl)) (fun K hK=>?_);go_simp;refine hK _ ?_;clear hK K)
       refine q_op (v:=.int .i64 (Q:Int)) rfl (fun w' hw'=>(by have hcq:=(oV.o.below hw').head.cells.1.2.2.1;rw[<- HQQ.o]at hcq;go_simp)) (fun K hK=>?_);go_simp;refine hK _ ?_;clear hK K;iterate 2 (refine q_op rfl (fun w' hw'=>(by go_simp;rfl)) (fun K hK=>?_);go_simp;refine hK _ ?_;clear hK K)
       refine wpQuiet_nil ?_;intro w3 hw3;have Mo:=aa (oV.o.below hw3);have rp:=aa (nQ.o.bN hw3);have jF:=aa hw3;clear hw3;by_cases fy:Q<U+M
       ·go_wp2;go_ret;rw[E1.o,if_neg JA,if_neg Qy,if_pos ⟨by have:=HM.o;rw[<- HE.o];omega,by
         have h1:=HM.o;have h2:=HE.o;have h3:=HU.o;have h4:=HQQ.o
         rw[Dsk.dB]at h3;rw[Dsk.sS]at h4;rw[<- h2,<- h3,<- h4,<- h1];exact fy⟩]
        exact⟨rfl,.of ⟨_,_,_,Mo.o⟩ rp.o⟩
       have Mq:Hid (¬(gy f.now.length<gy (max f.now.length (off+bs.length))/\d.bD<ep d.files+(gy (max f.now.length (off+bs.length))-gy f.now.length))):=aa (by
        have h1:=HM.o;have h2:=HE.o;have h3:=HU.o;have h4:=HQQ.o
        rw[Dsk.dB]at h3;rw[Dsk.sS]at h4;rw[<- h2,<- h3,<- h4,<- h1];exact fun h=>fy h.2)
       have hroom:Hid (ep d.files+M<=1048576):=aa (by
        have h3:=HU.o;rw[Dsk.dB]at h3;rw[<- h3];omega)
       go_wp2;refine pT (Below w2.heap.size w2) 1 12 ag ag ((jF.o.drew)) ?_
      case' inr=>
       have Mq:Hid (¬(gy f.now.length<gy (max f.now.length (off+bs.length))/\d.bD<ep d.files+(gy (max f.now.length (off+bs.length))-gy f.now.length))):=aa (by
        have h1:=HM.o;have h2:=HE.o
        rw[<- h2];exact fun h=>by omega)
       have hroom:Hid (ep d.files+M<=1048576):=aa (by
        have h3:=oV.o.ok.used;rw[Dsk.dB]at h3;omega)
       have hdec:decide ((0:Int)<(M:Int))=false:=by
        have:M=0:=by omega
        simp[this]
       have aly:decide (0<M)=false:=by
        have:M=0:=by omega
        simp[this]
       have alz:¬0<M:=by omega
       clear ab6 hMb;go_quiet (fail)
       go_wp2;refine pT (Below w2.heap.size w2) 1 12 ag ag (((below_drewN (below_drewN aj _) _).drew)) ?_
      all_goals
       simp only[List.take_succ_cons,List.take_zero,List.drop_succ_cons,List.drop_zero];refine p_op rfl (fun w'=>(by go_simp<;>rfl)) (fun K hK=>?_);go_simp;refine hK _ ?_;clear hK K;refine ab0 ?_;iterate 3 (refine qz ?_)
       refine qz ?_ (fun w' hw'=>by have hc:=hw'.cell (p:=⟨pf,0,none⟩) (HFA.o.lt);rw[Qo]at hc;go_simp<;>rfl);iterate 4 (refine qz ?_)
       refine qz ?_ (fun w' hw'=>by have hc:=hw'.cell (p:=⟨pf,0,none⟩) (HFA.o.lt);rw[Qo]at hc;go_simp<;>rfl);have hwE:IntKind.i64.wrap ((E:Int)-(f.now.length:Int))=(E:Int)-(f.now.length:Int):=YA ae ae;iterate 2 (refine qz ?_)
       refine wpQuiet_nil ?_;intro w4 hw4;have Qm:=aa (oV.o.below hw4);have ve:=aa (nQ.o.bN hw4);have Mr:=aa (aV Gj.o hw4);have oW:w4.cell? ⟨pf,0,none⟩=some (.slice va f.now.length vc):=by rw[hw4.cell (p:=⟨pf,0,none⟩) HFA.o.lt];exact Qo
       have tO:=aa oW;have uY:w4.frozen? ⟨pf,0,none⟩=false:=by rw[hw4.frozen (p:=⟨pf,0,none⟩) HFA.o.lt];exact hz0
       have NA:Hid (dy w4 o pf f):=aa (Qm.o.each _ (eM HQ.o));clear hw4 Qo hz0 HFA;refine kU rfl _ _ 39 3 .i64 rfl 0 5 Tryz.underlying39 Tryz.underlying3 k8 _ f.now.length _ rfl Mr.o (E-f.now.length) (by show Value.int .i64 _=Value.int .i64 _;congr 1;omega) ae (Nat.zero_le _) ?_;intro v5 w5 WT PG ab7;rw[zI hE1]at WT;obtain⟨a5,c5,rfl⟩:=az WT;have Bz:=aa (NA.o.extend tO.o vP.o (Qv (by rw[zI hE1];exact WT) hE1) PG ab7 Qm.o.owned (by rw[zJ hE1];exact hE3));have FN:w5.cell? ⟨pf,0,none⟩=some (.slice va f.now.length vc):=by rw[Ka PG (NA.o.apart vP.o) NA.o.lt];exact tO.o
       have T3:w5.frozen? ⟨pf,0,none⟩=false:=by rw[Ek PG (NA.o.apart vP.o) NA.o.lt];exact uY
       have UD:=aa WT;clear WT PG ab7 uY oW;go_wp2;simp only[WW];have hE5:E<=c5:=Ny UD.o;have tP:(f.now++List.replicate (E-f.now.length) (0:UInt8)).length=E:=zJ hE1;have HD6:=aa (Qm.o.J6 HQ.o Bz.o.2.2.1 Bz.o.2.1 Bz.o.1 Bz.o.2.2.2.2.1 (by
        have h1:=sR Qm.o.Gi (Qm.o.get HQ.o);rw[jN];dsimp only at h1 ⊢;rw[tP];have h2:=hroom.o;have h3:=HM.o;rw[Dsk.dB]at h1 ⊢;omega))
       have Qz:=aa (ve.o.trans Bz.o.2.2.1 (fun x _ hx=>lL.in hx NA.o.own));have YC:=aa Bz.o.1;have YD:=aa Bz.o.2.2.2.2.2;have HK6:=aa Bz.o.2.1;have HG6:=aa Bz.o.2.2.2.1;have Gq:=aa tP;have hp6:=YD.o;clear Bz UD FN T3 tP hwE;generalize w5.setCell ⟨pf,0,none⟩ (.slice a5 E c5)=w6 at *;generalize hxs:f.now++List.replicate (E-f.now.length) (0:UInt8)=xs at *;have ab9:Hid (f.laid off bs=⟨over xs off bs,f.gw⟩):=aa (by unfold bR.laid;rw[<- HE.o,hxs]);clear hxs;have gA:=aa (Qz.o.rd HSV.o (fun b hb=>ar.dI (PF.o b hb)));have WX:w6.ownsRow 0 5 1 (.slice a5 E c5) xs.length (xs.map bv)/\∀b,(Value.slice a5 E c5).ownBlock=some b->(o.put (.slice a5 E c5) (4,pf)) b=some (4,pf):=by
        obtain⟨v,u,⟨h0,-⟩,-,h1,h2,-⟩:=YC.o.cells;obtain rfl:v=.slice a5 E c5:=Option.some.inj (h0.symm.trans YD.o);exact⟨h1,h2⟩
       have BA:=aa WX;clear WX;obtain⟨w7,QA,ho7,PH⟩:=B7 (P:=prog) (w:=w6) 39 39 3 5 Tryz.underlying39 ag 0 (.slice a5 E c5) xs bs BA.o.1 off (by rw[Gq.o];exact hE2) (E-off) (by rw[Gq.o]) (.slice sa bs.length ahf) gA.o;have aca:=QA (a5.map (fun x=>x.add off)) (c5-off) (fun _ g hg=>Qw BA.o.1 hg off);have WY:c5=off->_:=fun hc=>QA a5 0 (fun h=>absurd h ae);clear QA;have HO7:=aa ho7;have T5:=aa PH;clear ho7 PH;have hov:(over xs off bs).length=E:=by rw[xH (by rw[Gq.o];exact hE2),Gq.o]
       have HD7:=aa (HD6.o.J6 (f:={ f with now:=xs }) (by rw[ay,if_pos rfl]) (T5.o.mono (S':=lL (o.put (.slice a5 E c5) (4,pf)) pf) (fun x _ hx=>.inr (.inl (BA.o.2 x hx)))) (fun _ _ h=>h) (YC.o.Yz YD.o BA.o.2 (by rw[hov];have h:=HO7.o;rw[Gq.o]at h;exact h) T5.o (by rw[hov];exact hE3)) (fun x t hx=>Nat.lt_of_lt_of_le (HD6.o.owned x t hx) T5.o.size) (by
        have h1:=HD6.o.ok.used;rw[iQ];dsimp only at h1 ⊢;rw[jN]at h1 ⊢;dsimp only at h1 ⊢;rw[hov];rw[Gq.o]at h1;exact h1))
       have HT8:=aa (Qz.o.trans T5.o (S':=fun x=>(Value.slice a5 E c5).ownBlock=some x) (fun x hx e=>by
        rcases Nat.lt_or_ge x w4.heap.size with h1 | h1
        ·have h2:=HG6.o x h1;have h3:=BA.o.2 x e;rw[h2]at h3;exact⟨_,h3,by show 4<6;decide⟩
        ·have:=ve.o.size;omega))
       clear hov YC YD HO7 T5 gA;obtain⟨⟨-,NB,-⟩,-⟩:=HD7.o.head.cells;have Ms:bs.length<=16777216:=by omega
       by_cases Gr:c5=off;case' pos=>
        have alC:=WY Gr;clear aca
       clear WY;all_goals
        go_wp2;go_loopw [103] (fun i wr=>∃k:Nat,k<=bs.length/\i=.int .i64 (k:Int)/\aH (·=ml) w7 wr/\zx wr ml (lM d.loose name off k)) (fun i _=>bs.length-(intOf i).toNat)
        case atStart=>exact⟨0,Nat.zero_le _,rfl,aH.refl _ _,by have:=HD7.o.loose;dsimp only at this;rw[Dsk.lK]at this;exact this⟩
        case round=>
         obtain⟨k,hk,rfl,ht,hm⟩:=hrel;by_cases Ut:k<bs.length/\c5≠off
         ·first
          |exact absurd Gr Ut.2
          | (obtain⟨hlt,-⟩:=Ut
             have hc8:wr.cell? ⟨db,1,none⟩=some (.map (some ml)):=ht.cell NB (ar.ne HD7.o.zy HD7.o.B5 af);have QB:Hid (Good prog 116 (eE (name,(off+k)/64))):=aa (Ns (by unfold maxLen;omega) ae);have rY:=aa hm;have HT9:=aa ht;clear hm ht;go_wp2_with (at_mapUpdate;refine eO _ rfl _ _ _ _ rfl 4 zw fG Tryz.underlying111 ml (lM d.loose name off k) rfl rY.o (name,(off+k)/64) () (by show Value.agg #[Value.string name,Value.int .i64 (((off:Int)+(k:Int))/64)]=eE (name,(off+k)/64);unfold eE;rw[show(((off+k)/64:Nat):Int)=((off:Int)+(k:Int))/64 by omega]) rfl QB.o ?_;intro es clock QC);go_roundw
             case rel=>exact⟨k+1,ae,by go_num,HT9.o.setBlock ml _ (.inl rfl),QC⟩
             case measure=>simp[intOf];omega)
         ·obtain rfl:k=bs.length:=by omega
          have HDF:=aa (HD7.o.Mn ht hm);have HTF:=aa (HT8.o.trans ht (S':=fun x=>x=ml) (fun x _ e=>⟨_,e▸oV.o.B5,by show 2<6;decide⟩));clear hm ht;go_wp2;go_ret;rw[E1.o,if_neg JA,if_neg Qy,if_neg Mq.o];have hN:=HDF.o;simp only[iQ,Dsk.dB]at hN;rw[ab9.o];exact⟨rfl,_,⟨_,_,_,hN⟩,HTF.o,fun x hx=>HG6.o x (Nat.lt_of_lt_of_le hx ve.o.size)⟩
end
end Go.Proofs.YthkkgdpomhhjjaaGreatDoor
