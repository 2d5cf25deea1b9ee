/-
  Joined.
-/
import Derived.Test.YthkkgdpomhhjjaaGreatDoorD02
import Derived.StillTailTactics
import Derived.Shelf.SlSortCmp.Whole1
import Derived.Ground.SlsfProg
import Derived.Shelf.SlGeneric
import Derived.Test.YthkkgdpomhhjjaaGreatDoorProg
import Derived.Sort.OwnSortedInts
set_option maxRecDepth 100000
set_option maxHeartbeats 4000000
namespace Go.Proofs.YthkkgdpomhhjjaaGreatDoor
open Go.Proofs.Tryz
section
open Go.RowKit
abbrev Pg:=List UInt8
def ji(n:Name):Nat:=ig n.data.toList
theorem Gs(n:Name):ji n<4294967296:=tI _
def bX(tag:Nat):Nat->List Pg->List UInt8
 |_,[]=>[]
 |k,b::r=>dx tag k b++bX tag (k+1) r
def im(ps:List Pg):Prop:=∀b∈ps,b.length<=240
theorem im.cons{b:Pg}{r:List Pg}(h:im (b::r)):b.length<=240/\im r:=⟨h b ah,fun x hx=>h x (by grind)⟩
theorem dQ{tag:Nat}(ps:List Pg)(h:im ps):∀k,(bX tag k ps).length=256*ps.length:=by
 induction ps with
 |nil=>intro k;rfl
 |cons b r ih=>
   grind [bX,dU,im.cons]
theorem jP{tag:Nat}(a b:List Pg):∀k,bX tag k (a++b)=bX tag k a++bX tag (k+a.length) b:=by
 induction a with
 |nil=>intro k;rfl
 |cons x a ih=>
   grind [bX]
theorem tQ{α:Type}{l:List α}{j:Nat}(h:j<l.length):l=l.take j++l[j]::l.drop (j+1):=by
 simp
theorem im.take{ps:List Pg}(h:im ps)(n:Nat):im (ps.take n):=fun b hb=>h b (List.mem_of_mem_take hb)
theorem im.drop{ps:List Pg}(h:im ps)(n:Nat):im (ps.drop n):=fun b hb=>h b (List.mem_of_mem_drop hb)
theorem B8{tag k j:Nat}{ps:List Pg}(h:im ps)(hj:j<ps.length):((bX tag k ps).drop (256*j)).take 256=dx tag (k+j) ps[j]:=by
 have e:bX tag k ps=bX tag k (ps.take j)++(dx tag (k+j) ps[j]++bX tag (k+j+1) (ps.drop (j+1))):=by
  conv=>lhs;rw[tQ hj,jP,List.length_take,Nat.min_eq_left ae]
  rfl
 have hl:(bX tag k (ps.take j)).length=256*j:=by
  grind [dQ,im.take]
 rw[e,ku _ _ _ hl,qu _ _ _ (dU _ _ _ (h _ (List.getElem_mem hj)))]
theorem zL{tag k j:Nat}{ps:List Pg}{b:Pg}(h:im ps)(hb:b.length<=240)(hj:j<ps.length):over (bX tag k ps) (256*j) (dx tag (k+j) b)=bX tag k (ps.set j b):=by
 have e:∀x:Pg,bX tag k (ps.take j++x::ps.drop (j+1))=bX tag k (ps.take j)++(dx tag (k+j) x++bX tag (k+j+1) (ps.drop (j+1))):=fun x=>by
  rw[jP,List.length_take,Nat.min_eq_left ae];rfl
 have hl:(bX tag k (ps.take j)).length=256*j:=by
  grind [dQ,im.take]
 have zk:ps.set j b=ps.take j++b::ps.drop (j+1):=List.set_eq_take_append_cons_drop.trans (by grind);rw[zk,e b];unfold over;rw[dU _ _ _ hb];conv=>lhs;rw[tQ hj,e ps[j]]
 rw[qu _ _ _ hl,show 256*j+256=256*j+256 from rfl,<- List.drop_drop,ku _ _ _ hl,ku _ _ _ (dU _ _ _ (h _ (List.getElem_mem hj)))]
def dr(ps:List Pg)(j:Nat)(b:Pg):List Pg:=if j<ps.length then ps.set j b else ps++[b]
theorem fD(ps:List Pg)(j:Nat)(b:Pg)(h:j<=ps.length):(dr ps j b).length=max ps.length (j+1):=by
 grind [dr]
theorem rZ{ps:List Pg}{j:Nat}{b:Pg}(h:im ps)(hb:b.length<=240):im (dr ps j b):=by
 unfold dr;split
 ·intro x hx;rcases List.mem_or_eq_of_mem_set hx with hx | rfl
  ·exact h x hx
  omega
 ·intro x hx;rcases List.mem_append.1 hx with hx | hx
  ·exact h x hx
  grind
theorem kx(ps:List Pg)(j:Nat)(b:Pg)(h:j<=ps.length)(i:Nat):(dr ps j b)[i]? = if i=j then some b else ps[i]? := by
 grind [dr]
theorem Dd{tag j:Nat}{ps:List Pg}{b:Pg}(h:im ps)(hb:b.length<=240)(hj:j<=ps.length){f:bR}(hf:f.now=bX tag 0 ps):f.laid (256*j) (dx tag j b)=⟨bX tag 0 (dr ps j b),f.gw⟩:=by
 have hl:f.now.length=256*ps.length:=by grind [dQ]
 unfold bR.laid;rw[dU _ _ _ hb];congr 1;by_cases hlt:j<ps.length
 ·have e:max f.now.length (256*j+256)-f.now.length=0:=by omega
  rw[e,List.replicate_zero,List.append_nil,hf];have:=zL (tag:=tag) (k:=0) h hb hlt;grind [dr]
 ·obtain rfl:j=ps.length:=by omega
  have e:max f.now.length (256*ps.length+256)-f.now.length=256:=by omega
  rw[e];unfold dr over;rw[if_neg ae,jP,hf,dU _ _ _ hb];grind [bX]
abbrev gT:=(List Pg×Bool) ⊕ (bR×(Nat->Prop))
abbrev aD:=List (Name×gT)
structure bZ where
 full:Bool
 name:Name
 k:Nat
 bytes:Pg
 bS:Bool
 used:Bool
def bZ.none:bZ:=⟨false,ByteArray.empty,0,[],false,false⟩
def gT.need:gT->Nat
 | .inl x=>4*x.1.length
 | .inr x=>gy x.1.now.length
def need(L:aD):Nat:=(L.map (fun p=>p.2.need)).sum
def eW(fs:List bZ)(n:Name)(k:Nat):Prop:=∃(j:Nat)(fr:bZ),fs[j]? = some fr/\fr.full=true/\fr.bS=true/\fr.name=n/\fr.k=k
structure dC(d:Dsk)(fs:List bZ)(n:Name)(ps:List Pg)(fl:Bool)(f:bR)(dp:List Pg):Prop where
 get:aB d.files n=some f
 now:f.now=bX (ji n) 0 dp
 le:dp.length<=ps.length
 most:ps.length<=65536
 short:im ps
 B9:im dp
 each:∀k,k<ps.length->(k<dp.length/\dp[k]? = ps[k]?)\/eW fs n k
 gw:fl=true->dp=ps/\f.gw=f.now/\(∀s,((n,s),()) ∉ d.loose)/\∀k,¬eW fs n k
 ky:∀s,((n,s),())∈d.loose->s<4*dp.length
structure Sound(d:Dsk)(fs:List bZ)(L:aD):Prop where
 keys:(L.map (·.1)).Nodup
 fH:(d.files.map (·.1)).Nodup
 names:∀n,(aB d.files n).isSome=(aB L n).isSome
 ok:∀n,(aB L n).isSome=true->bM n=true
 dJ:∀n ps fl,aB L n=some (.inl (ps,fl))->∃f dp,dC d fs n ps fl f dp
 lQ:∀n f ls,aB L n=some (.inr (f,ls))->aB d.files n=some f/\∀s,((n,s),())∈d.loose↔ls s
 frames:∀fr∈fs,fr.full=true->∃ps fl,aB L fr.name=some (.inl (ps,fl))/\ps[fr.k]? = some fr.bytes
 blank:∀fr∈fs,fr.full=false->fr=bZ.none
 once:∀(i j:Nat)(fi fj:bZ),fs[i]? = some fi->fs[j]? = some fj->fi.full=true->fj.full=true->fi.name=fj.name->fi.k=fj.k->i=j
 dt:∀n s,((n,s),())∈d.loose->(aB L n).isSome=true
structure bK(d d':Dsk):Prop where
 bD:d'.bD=d.bD
 calm:d.cM=0->d'.cM=0/\(d.dead=false->d'.dead=false)
 dead:d.dead=true->d'.dead=true
theorem bK.refl(d:Dsk):bK d d:=⟨rfl,fun h=>⟨h,id⟩,id⟩
theorem bK.trans{d d' gB:Dsk}(h:bK d d')(k:bK d' gB):bK d gB:=
 ⟨k.bD.trans h.bD,fun h0=>⟨(k.calm (h.calm h0).1).1,fun hd=>(k.calm (h.calm h0).1).2 ((h.calm h0).2 hd)⟩,fun hd=>k.dead (h.dead hd)⟩
theorem bK.tick(d:Dsk):bK d d.tick:=by
 refine⟨Dsk.sS d,fun h=>?_,fun h=>?_⟩
 ·grind [Dsk.tick]
 grind [Dsk.tick]
theorem bK.of{d d' e:Dsk}(h:bK d d')(hq:e.bD=d'.bD)(ha:e.cM=d'.cM)(hd:e.dead=d'.dead):bK d e:=
 ⟨hq.trans h.bD,fun h0=>⟨ha.trans (h.calm h0).1,fun h1=>hd.trans ((h.calm h0).2 h1)⟩,fun h1=>hd.trans (h.dead h1)⟩
theorem Sound.lS{d d':Dsk}{fs:List bZ}{L:aD}(h:Sound d fs L)(hf:d'.files=d.files)(hl:d'.loose=d.loose):Sound d' fs L where
 keys:=h.keys
 fH:=by grind [fH]
 names:=by grind [names]
 ok:=h.ok
 dJ:=fun n ps fl hg=>by
  obtain⟨f,dp,k⟩:=h.dJ n ps fl hg;exact⟨f,dp,by rw[hf];exact k.get,k.now,k.le,k.most,k.short,k.B9,k.each,fun e=>by grind [dC.gw],by rw[hl];exact k.ky⟩
 lQ:=by grind [lQ]
 frames:=h.frames
 blank:=h.blank
 once:=h.once
 dt:=by grind [dt]
theorem Sound.tick{d:Dsk}{fs:List bZ}{L:aD}(h:Sound d fs L):Sound d.tick fs L:=h.lS (Dsk.dB d) (Dsk.lK d)
theorem Gt{κ υ:Type}[DecidableEq κ]{m:List (κ×υ)}{k:κ}{v:υ}{p:κ×υ}:p∈aS m k v↔p=(k,v)\/p∈m/\p.1≠k:=by
 grind [aS,gu]
theorem pq{m:List ((Name×Nat)×Unit)}{name:Name}{off c:Nat}{n:Name}{s:Nat}(hn:n≠name):((n,s),())∈lM m name off c↔((n,s),())∈m:=by
 induction c with
 |zero=>rfl
 |succ c ih=>
   grind [lM,Gt]
theorem Gu{m:List ((Name×Nat)×Unit)}{name:Name}{off c:Nat}{s:Nat}:((name,s),())∈lM m name off c->((name,s),())∈m\/s<=(off+c-1)/64:=by
 induction c with
 |zero=>exact fun h=>.inl h
 |succ c ih=>
   grind [lM,Gt]
theorem cI{κ υ:Type}[DecidableEq κ](m:List (κ×υ))(k:κ)(v:υ)(k':κ):(aB (aS m k v) k').isSome=(decide (k'=k) || (aB m k').isSome):=by
 grind [ay]
theorem qx{κ υ:Type}[DecidableEq κ](m:List (κ×υ))(k:κ)(k':κ):(aB (b8 m k) k').isSome=(decide (k'≠k) && (aB m k').isSome):=by
 grind [cP]
theorem tR{κ:Type}[DecidableEq κ]{a b:List κ}(ha:a.Nodup)(hb:b.Nodup)(h:∀k,k∈a↔k∈b):a.Perm b:=(List.perm_ext_iff_of_nodup ha hb).2 h
theorem mem_keys{κ υ:Type}[DecidableEq κ]{m:List (κ×υ)}{k:κ}:k∈m.map (·.1)↔(aB m k).isSome=true:=by
 grind [aB]
theorem tS{κ υ:Type}[DecidableEq κ]{m:List (κ×υ)}(hn:(m.map (·.1)).Nodup)(g:υ->Nat):(m.map (fun p=>g p.2)).sum=((m.map (·.1)).map (fun k=>((aB m k).map g).getD 0)).sum:=by
 rw[List.map_map];congr 1;apply List.map_congr_left;intro p hp;have:aB m p.1=some p.2:=ko hn hp;grind
theorem YE{α:Type}(l:List α)(f g:α->Nat)(h:∀x∈l,f x<=g x):(l.map f).sum<=(l.map g).sum:=by
 induction l with
 |nil=>simp
 |cons x l ih=>
   grind
theorem Sound.QD{d:Dsk}{fs:List bZ}{L:aD}(h:Sound d fs L):(d.files.map (·.1)).Perm (L.map (·.1)):=
 tR h.fH h.keys fun n=>by grind [mem_keys,names]
theorem Sound.UE{d:Dsk}{fs:List bZ}{L:aD}(h:Sound d fs L):ep d.files<=need L:=by
 have e1:ep d.files=((d.files.map (·.1)).map (fun k=>((aB d.files k).map (fun f:bR=>gy f.now.length)).getD 0)).sum:=tS h.fH (fun f=>gy f.now.length);have e2:need L=((L.map (·.1)).map (fun k=>((aB L k).map gT.need).getD 0)).sum:=tS h.keys gT.need;have e3:((L.map (·.1)).map (fun k=>((aB L k).map gT.need).getD 0)).sum=((d.files.map (·.1)).map (fun k=>((aB L k).map gT.need).getD 0)).sum:=((h.QD.map _).sum_nat).symm;rw[e1,e2,e3];refine YE _ _ _ fun n hn=>?_;rw[mem_keys,h.names]at hn;cases e:aB L n with
 |none=>grind
 |some x=>
   rcases x with⟨ps,fl⟩|⟨f,ls⟩
   ·obtain⟨f,dp,k⟩:=h.dJ n ps fl e;rw[k.get];show gy f.now.length<=4*ps.length;rw[k.now,dQ _ k.B9];have:=k.le;grind [gy]
   ·rw[(h.lQ n f ls e).1];exact Nat.le_refl _
theorem fc{α:Type}{fs:List α}{j:Nat}{x:α}(hj:j<fs.length)(i:Nat):(fs.set j x)[i]? = if i=j then some x else fs[i]? := by
 grind
theorem aM{α:Type}{fs:List α}{j:Nat}{x:α}(h:fs[j]? = some x):j<fs.length:=(List.getElem?_eq_some_iff.1 h).1
theorem kA{fs:List bZ}{j:Nat}{fr x:bZ}(hj:fs[j]? = some fr){n:Name}{k:Nat}(h:eW fs n k)(hne:¬(fr.full=true/\fr.bS=true/\fr.name=n/\fr.k=k)):eW (fs.set j x) n k:=by
 obtain⟨i,fi,hi,h1,h2,h3,h4⟩:=h;refine⟨i,fi,?_,h1,h2,h3,h4⟩;grind
theorem jk{fs:List bZ}{j:Nat}{fr x:bZ}(hj:fs[j]? = some fr){n:Name}{k:Nat}(h:eW (fs.set j x) n k):eW fs n k\/(x.full=true/\x.bS=true/\x.name=n/\x.k=k):=by
 obtain⟨i,fi,hi,h1,h2,h3,h4⟩:=h;rw[fc (aM hj)]at hi;by_cases e:i=j
 ·grind
 ·rw[if_neg e]at hi;exact .inl ⟨i,fi,hi,h1,h2,h3,h4⟩
theorem Ca{fs:List bZ}{j:Nat}{x fr:bZ}(h:fr∈fs.set j x):fr∈fs\/fr=x:=List.mem_or_eq_of_mem_set h
theorem zM{fs:List bZ}(h:∀(i j:Nat)(fi fj:bZ),fs[i]? = some fi->fs[j]? = some fj->fi.full=true->fj.full=true->fi.name=fj.name->fi.k=fj.k->i=j){j:Nat}{x:bZ}(hj:j<fs.length)(hx:x.full=true->∀(i:Nat)(fi:bZ),i≠j->fs[i]? = some fi->fi.full=true->fi.name=x.name->fi.k=x.k->False) :
 ∀(i j':Nat)(fi fj:bZ),(fs.set j x)[i]? = some fi->(fs.set j x)[j']? = some fj->fi.full=true->fj.full=true->fi.name=fj.name->fi.k=fj.k->i=j':=by
 grind
theorem Sound.alone{d:Dsk}{fs:List bZ}{L:aD}(h:Sound d fs L){j:Nat}{fr:bZ}(hj:fs[j]? = some fr)(hf:fr.full=true):∀(i:Nat)(fi:bZ),i≠j->fs[i]? = some fi->fi.full=true->fi.name=fr.name->fi.k=fr.k->False:=
 fun i fi hne hi h1 h2 h3=>hne (h.once i j fi fr hi hj h1 hf h2 h3)
theorem Sound.reset{d:Dsk}{fs:List bZ}{L:aD}(h:Sound d fs L){j:Nat}{fr x:bZ}(hj:fs[j]? = some fr)(hd:fr.bS=false)(hxd:x.bS=false)(hx:x=bZ.none\/(x.full=true/\(∃ps fl,aB L x.name=some (.inl (ps,fl))/\ps[x.k]? = some x.bytes)/\∀(i:Nat)(fi:bZ),i≠j->fs[i]? = some fi->fi.full=true->fi.name=x.name->fi.k=x.k->False)) :
 Sound d (fs.set j x) L where
 keys:=h.keys
 fH:=h.fH
 names:=h.names
 ok:=h.ok
 dJ:=fun n ps fl hg=>by
  obtain⟨f,dp,k⟩:=h.dJ n ps fl hg;refine⟨f,dp,k.get,k.now,k.le,k.most,k.short,k.B9,fun i hi=>?_,fun e=>?_,k.ky⟩
  ·grind [dC.each,kA]
  ·obtain⟨h1,h2,h3,h4⟩:=k.gw e;refine⟨h1,h2,h3,fun i hi=>?_⟩;rcases jk hj hi with h5 | h5
   ·grind
   grind
 lQ:=h.lQ
 frames:=fun y hy hf=>by
  rcases Ca hy with hy | rfl
  ·grind [frames]
  ·rcases hx with rfl | hx
   ·cases hf
   grind
 blank:=fun y hy hf=>by
  grind [blank]
 once:=zM h.once (aM hj) (fun hf=>by
  rcases hx with rfl | hx
  ·cases hf
  grind)
 dt:=h.dt
theorem Sound.used{d:Dsk}{fs qb:List bZ}{L:aD}(h:Sound d fs L)(hs:qb.length=fs.length)(he:∀(i:Nat)(f f':bZ),fs[i]? = some f->qb[i]? = some f'->(f'.full,f'.name,f'.k,f'.bytes,f'.bS)=(f.full,f.name,f.k,f.bytes,f.bS)/\(f.full=false->f'=f)):Sound d qb L:=by
 have back:∀(i:Nat)(f':bZ),qb[i]? = some f'->∃f,fs[i]? = some f/\f'.full=f.full/\f'.name=f.name/\f'.k=f.k/\f'.bytes=f.bytes/\f'.bS=f.bS/\(f.full=false->f'=f):=fun i f' hi=>by
  grind
 have ace:∀(i:Nat)(f:bZ),fs[i]? = some f->∃f',qb[i]? = some f'/\f'.full=f.full/\f'.name=f.name/\f'.k=f.k/\f'.bytes=f.bytes/\f'.bS=f.bS:=fun i f hi=>by
  grind
 have fV:∀n k,eW qb n k↔eW fs n k:=fun n k=>by
  constructor
  ·rintro⟨i,f',hi,a,b,c,e⟩;obtain⟨f,hf,q1,q2,q3,q4,q5,_⟩:=back i f' hi;exact⟨i,f,hf,by grind,by grind,by grind,ae⟩
  ·rintro⟨i,f,hi,a,b,c,e⟩;obtain⟨f',hf,q1,q2,q3,q4,q5⟩:=ace i f hi;exact⟨i,f',hf,by grind,by grind,by grind,ae⟩
 exact {
  keys:=h.keys
  fH:=h.fH
  names:=h.names
  ok:=h.ok
  dJ:=fun n ps fl hg=>by
   obtain⟨f,dp,k⟩:=h.dJ n ps fl hg;exact⟨f,dp,k.get,k.now,k.le,k.most,k.short,k.B9,fun i hi=>by grind [dC.each],fun e=>by
    grind [dC.gw],k.ky⟩
  lQ:=h.lQ
  frames:=fun y hy hf=>by
   obtain⟨i,hi⟩:=List.mem_iff_getElem?.1 hy;obtain⟨f,hg,q1,q2,q3,q4,q5,_⟩:=back i y hi;rw[q2,q3,q4];exact h.frames f (List.mem_of_getElem? hg) (by grind)
  blank:=fun y hy hf=>by
   obtain⟨i,hi⟩:=List.mem_iff_getElem?.1 hy;obtain⟨f,hg,q1,q2,q3,q4,q5,q6⟩:=back i y hi;rw[q6 (by grind)];exact h.blank f (List.mem_of_getElem? hg) (by grind)
  once:=fun i j fi fj hi hj h1 h2 h3 h4=>by
   grind [once]
  dt:=h.dt }
theorem Sound.write{d:Dsk}{fs:List bZ}{L:aD}(h:Sound d fs L){j:Nat}{fr:bZ}(hj:fs[j]? = some fr){name:Name}{ps:List Pg}{fl:Bool}(hL:aB L name=some (.inl (ps,fl))){k:Nat}{b:Pg}{u:Bool}(hk:k<=ps.length)(BX:k<65536)(hb:b.length<=240)(hx:fr.full=true/\fr.name=name/\fr.k=k\/fr.bS=false/\∀(i:Nat)(fi:bZ),i≠j->fs[i]? = some fi->fi.full=true->fi.name=name->fi.k=k->False) :
 Sound d (fs.set j ⟨true,name,k,b,true,u⟩) (aS L name (.inl (dr ps k b,false))):=by
 have YF:∀(i:Nat)(fi:bZ),i≠j->fs[i]? = some fi->fi.full=true->fi.name=name->fi.k=k->False:=by
  grind [alone]
 exact {
  keys:=cF h.keys
  fH:=h.fH
  names:=fun n=>by
   grind [cI,names]
  ok:=fun n hn=>by
   grind [cI,ok]
  dJ:=fun n Gv kO hg=>by
   rw[ay]at hg;by_cases e:n=name
   ·rw[if_pos e]at hg;subst e;simp only[Option.some.injEq,Sum.inl.injEq,Prod.mk.injEq]at hg;obtain⟨rfl,rfl⟩:=hg;obtain⟨f,dp,q⟩:=h.dJ n ps fl hL;have hle:=q.le;have hmo:=q.most;refine⟨f,dp,q.get,q.now,by grind [fD],by grind [fD],rZ q.short hb,q.B9,fun i hi=>?_,fun e=>(by cases e),q.ky⟩;by_cases ei:i=k
    ·exact .inr ⟨j,⟨true,n,k,b,true,u⟩,by grind,rfl,rfl,rfl,ei.symm⟩
    grind [kx,dC.each,kA]
   ·rw[if_neg e]at hg;obtain⟨f,dp,q⟩:=h.dJ n Gv kO hg;refine⟨f,dp,q.get,q.now,q.le,q.most,q.short,q.B9,fun i hi=>?_,fun e1=>?_,q.ky⟩
    ·grind [dC.each,kA]
    ·obtain⟨h1,h2,h3,h4⟩:=q.gw e1;refine⟨h1,h2,h3,fun i hi=>?_⟩;rcases jk hj hi with h5 | h5
     ·grind
     grind
  lQ:=fun n f ls hg=>by
   grind [ay,lQ]
  frames:=fun y hy hf=>by
   obtain⟨i,hi⟩:=List.mem_iff_getElem?.1 hy;rw[fc (aM hj)]at hi;grind [ay,kx,frames]
  blank:=fun y hy hf=>by
   grind [blank]
  once:=zM h.once (aM hj) (fun _=>YF)
  dt:=fun n s hs=>by
   grind [cI,dt] }
theorem Sound.create{d d':Dsk}{fs:List bZ}{L:aD}(h:Sound d fs L){name:Name}(eD:bM name=true)(hn:aB L name=none)(hf:d'.files=aS d.files name ⟨[],[]⟩)(hl:d'.loose=d.loose):Sound d' fs (aS L name (.inl ([],true))) where
 keys:=cF h.keys
 fH:=by grind [cF,fH]
 names:=fun n=>by grind [cI,names]
 ok:=fun n hs=>by
  grind [cI,ok]
 dJ:=fun n ps fl hg=>by
  rw[ay]at hg;by_cases e:n=name
  ·subst e;rw[if_pos rfl]at hg;simp only[Option.some.injEq,Sum.inl.injEq,Prod.mk.injEq]at hg;obtain⟨rfl,rfl⟩:=hg;refine⟨⟨[],[]⟩,[],by grind [ay],rfl,Nat.le_refl _,Nat.zero_le _,(fun _ h=>nomatch h),(fun _ h=>nomatch h),(fun k hk=>absurd hk (Nat.not_lt_zero k)),fun _=>⟨rfl,rfl,fun s hs=>?_,fun k hk=>?_⟩,fun s hs=>?_⟩
   ·grind [dt]
   ·obtain⟨i,fi,hi,h1,h2,h3,h4⟩:=hk;obtain⟨ps,fl,h5,_⟩:=h.frames fi (List.mem_of_getElem? hi) h1;grind
   grind [dt]
  ·rw[if_neg e]at hg;obtain⟨f,dp,q⟩:=h.dJ n ps fl hg;exact⟨f,dp,by grind [ay,dC.get],q.now,q.le,q.most,q.short,q.B9,q.each,by rw[hl];exact q.gw,by rw[hl];exact q.ky⟩
 lQ:=fun n f ls hg=>by
  grind [ay,lQ]
 frames:=fun y hy QE=>by
  grind [frames,ay]
 blank:=h.blank
 once:=h.once
 dt:=fun n s hs=>by
  grind [cI,dt]
theorem Sound.drop{d d':Dsk}{fs:List bZ}{L:aD}(h:Sound d fs L){name:Name}(hno:∀fr∈fs,fr.full=true->fr.name≠name)(hf:d'.files=b8 d.files name)(hl:d'.loose=d.loose.filter (fun p=>decide (p.1.1≠name))):Sound d' fs (b8 L name):=by
 have T6:∀n s,((n,s),())∈d'.loose↔((n,s),())∈d.loose/\n≠name:=fun n s=>by grind
 exact {
  keys:=CV h.keys
  fH:=by grind [CV,fH]
  names:=fun n=>by grind [qx,names]
  ok:=fun n hs=>by
   grind [qx,ok]
  dJ:=fun n ps fl hg=>by
   rw[cP]at hg;by_cases e:n=name
   ·grind
   ·rw[if_neg e]at hg;obtain⟨f,dp,q⟩:=h.dJ n ps fl hg;refine⟨f,dp,by grind [cP,dC.get],q.now,q.le,q.most,q.short,q.B9,q.each,fun e1=>?_,fun s hs=>q.ky s ((T6 n s).1 hs).1⟩;grind [dC.gw]
  lQ:=fun n f ls hg=>by
   grind [cP,lQ]
  frames:=fun y hy QE=>by
   grind [frames,cP]
  blank:=h.blank
  once:=h.once
  dt:=fun n s hs=>by
   grind [qx,dt] }
theorem Sound.sync{d d':Dsk}{fs:List bZ}{L:aD}(h:Sound d fs L){name:Name}{ps:List Pg}{fl:Bool}(hL:aB L name=some (.inl (ps,fl)))(hno:∀k,¬eW fs name k){f:bR}(hg:aB d.files name=some f)(hf:d'.files=aS d.files name ⟨f.now,f.now⟩)(hl:d'.loose=d.loose.filter (fun p=>decide (p.1.1≠name))):Sound d' fs (aS L name (.inl (ps,true))):=by
 have T6:∀n s,((n,s),())∈d'.loose↔((n,s),())∈d.loose/\n≠name:=fun n s=>by grind
 exact {
  keys:=cF h.keys
  fH:=by grind [cF,fH]
  names:=fun n=>by grind [cI,names]
  ok:=fun n hs=>by
   grind [cI,ok]
  dJ:=fun n Gv kO Mt=>by
   rw[ay]at Mt;by_cases e:n=name
   ·subst e;rw[if_pos rfl]at Mt;simp only[Option.some.injEq,Sum.inl.injEq,Prod.mk.injEq]at Mt;obtain⟨rfl,rfl⟩:=Mt;obtain⟨f',dp,q⟩:=h.dJ n ps fl hL;have:f'=f:=by have:=q.get;grind
    subst this;have hdp:dp=ps:=by
     apply List.ext_getElem?;intro i;by_cases hi:i<ps.length
     ·rcases q.each i hi with h1 | h1
      ·grind
      grind
     ·have:=q.le;grind
    refine⟨⟨f'.now,f'.now⟩,dp,by grind [ay],q.now,q.le,q.most,q.short,q.B9,q.each,fun _=>⟨hdp,rfl,fun s hs=>((T6 n s).1 hs).2 rfl,hno⟩,fun s hs=>absurd rfl ((T6 n s).1 hs).2⟩
   ·rw[if_neg e]at Mt;obtain⟨f',dp,q⟩:=h.dJ n Gv kO Mt;refine⟨f',dp,by grind [ay,dC.get],q.now,q.le,q.most,q.short,q.B9,q.each,fun e1=>?_,fun s hs=>q.ky s ((T6 n s).1 hs).1⟩;grind [dC.gw]
  lQ:=fun n f' ls Mt=>by
   grind [ay,lQ]
  frames:=fun y hy QE=>by
   grind [frames,ay]
  blank:=h.blank
  once:=h.once
  dt:=fun n s hs=>by
   grind [cI,dt] }
theorem Sound.back{d d':Dsk}{fs:List bZ}{L:aD}(h:Sound d fs L){j:Nat}{fr:bZ}(hj:fs[j]? = some fr)(fy:fr.full=true)(fV:fr.bS=true){ps:List Pg}{fl:Bool}(hL:aB L fr.name=some (.inl (ps,fl))){f:bR}{dp:List Pg}(q:dC d fs fr.name ps fl f dp)(hk:fr.k<=dp.length)(hf:d'.files=aS d.files fr.name (f.laid (256*fr.k) (dx (ji fr.name) fr.k fr.bytes)))(hl:d'.loose=lM d.loose fr.name (256*fr.k) 256) :
 Sound d' (fs.set j { fr with bS:=false }) L/\∃f',dC d' (fs.set j { fr with bS:=false }) fr.name ps fl f' (dr dp fr.k fr.bytes):=by
 have Mu:fl=false:=by
  cases e:fl with
  |false=>rfl
  |true=>exact absurd ⟨j,fr,hj,fy,fV,rfl,rfl⟩ ((q.gw e).2.2.2 fr.k)
 obtain⟨Gv,kO,BB,Py⟩:=h.frames fr (List.mem_of_getElem? hj) fy;rw[hL]at BB;simp only[Option.some.injEq,Sum.inl.injEq,Prod.mk.injEq]at BB;obtain⟨rfl,rfl⟩:=BB;have YG:fr.k<ps.length:=aM Py;have hb:fr.bytes.length<=240:=q.short _ (List.mem_of_getElem? Py);have acf:=Dd q.B9 hb hk q.now;rw[acf]at hf;have hle:=q.le;have hq':dC d' (fs.set j { fr with bS:=false }) fr.name ps fl ⟨bX (ji fr.name) 0 (dr dp fr.k fr.bytes),f.gw⟩ (dr dp fr.k fr.bytes):=by
  refine⟨by grind [ay],rfl,by grind [fD],q.most,q.short,rZ q.B9 hb,fun i hi=>?_,fun e=>(by grind),fun s hs=>?_⟩;rotate_left
  ·rw[hl]at hs;rw[fD _ _ _ hk];rcases Gu hs with h1 | h1
   ·have:=q.ky s h1;omega
   ·omega
  grind [kx,dC.each,kA]
 refine⟨?_,_,hq'⟩;exact {
  keys:=h.keys
  fH:=by grind [cF,fH]
  names:=fun n=>by
   grind [cI,names]
  ok:=h.ok
  dJ:=fun n Gv kO hg=>by
   by_cases e:n=fr.name
   ·grind
   ·obtain⟨f',dp',q'⟩:=h.dJ n Gv kO hg;refine⟨f',dp',by grind [ay,dC.get],q'.now,q'.le,q'.most,q'.short,q'.B9,fun i hi=>?_,fun e1=>?_,fun s hs=>q'.ky s (by grind [pq])⟩
    ·grind [dC.each,kA]
    ·obtain⟨h1,h2,h3,h4⟩:=q'.gw e1;refine⟨h1,h2,fun s hs=>?_,fun i hi=>?_⟩
     ·grind [pq]
     ·rcases jk hj hi with h5 | h5
      ·grind
      grind
  lQ:=fun n f' ls hg=>by
   grind [lQ,ay,pq]
  frames:=fun y hy QE=>by
   grind [frames]
  blank:=fun y hy QE=>by
   grind [blank]
  once:=zM h.once (aM hj) (fun _ i fi hne hi h1 h2 h3=>h.alone hj fy i fi hne hi h1 h2 h3)
  dt:=fun n s hs=>by
   grind [pq,dt] }
def dD(d:Dsk)(name:Name)(k:Nat)(b:Pg):Dsk×Nat:=
 if (d.sizeOf name).2≠0 then (d,(d.sizeOf name).2)
 else if (d.sizeOf name).1/256<k then (d,1)
 else d.write name (256*k) (dx (ji name) k b)
def kI(d d':Dsk)(L:aD)(e:Nat):Prop:=e=5/\d.bD<need L\/e=6/\d'.dead=true
theorem kI.ne{d d':Dsk}{L:aD}{e:Nat}(h:kI d d' L e):e≠0:=by
 rcases h with h | h<;>omega
theorem Dsk.De{d:Dsk}{n:Name}{f:bR}(eD:bM n=true)(hg:aB d.files n=some f):d.sizeOf n=if d.dead=true then (0,6) else (f.now.length,0):=by
 grind [Dsk.sizeOf]
theorem Sound.acg{d:Dsk}{fs:List bZ}{L:aD}(h:Sound d fs L){j:Nat}{fr:bZ}(hj:fs[j]? = some fr)(fy:fr.full=true)(fV:fr.bS=true){ps:List Pg}{fl:Bool}(hL:aB L fr.name=some (.inl (ps,fl))){f:bR}{dp:List Pg}(q:dC d fs fr.name ps fl f dp)(hk:fr.k<=dp.length) :
 bK d (dD d fr.name fr.k fr.bytes).1 /\
 ((dD d fr.name fr.k fr.bytes).2=0/\Sound (dD d fr.name fr.k fr.bytes).1 (fs.set j { fr with bS:=false }) L/\(∃f',dC (dD d fr.name fr.k fr.bytes).1 (fs.set j { fr with bS:=false }) fr.name ps fl f' (dr dp fr.k fr.bytes)) \/
   kI d (dD d fr.name fr.k fr.bytes).1 L (dD d fr.name fr.k fr.bytes).2/\Sound (dD d fr.name fr.k fr.bytes).1 fs L):=by
 have eD:bM fr.name=true:=h.ok _ (by grind);obtain⟨Gv,kO,BB,Py⟩:=h.frames fr (List.mem_of_getElem? hj) fy;rw[hL]at BB;simp only[Option.some.injEq,Sum.inl.injEq,Prod.mk.injEq]at BB;obtain⟨rfl,rfl⟩:=BB;have YG:fr.k<ps.length:=aM Py;have jg:=q.most;have hb:fr.bytes.length<=240:=q.short _ (List.mem_of_getElem? Py);have aop:f.now.length=256*dp.length:=by rw[q.now,dQ _ q.B9]
 have BV:(dx (ji fr.name) fr.k fr.bytes).length=256:=dU _ _ _ hb;unfold dD;rw[Dsk.De eD q.get];cases hd:d.dead with
 |true=>
   simp only[if_true];exact⟨bK.refl d,.inr ⟨.inr ⟨rfl,hd⟩,h⟩⟩
 |false=>
   simp only[Bool.false_eq_true,if_false,ne_eq,not_true_eq_false];rw[if_neg (show ¬f.now.length/256<fr.k by omega)];unfold Dsk.write;by_cases ht:d.tick.dead=true
   ·rw[if_pos ht];exact⟨bK.tick d,.inr ⟨.inr ⟨rfl,ht⟩,h.tick⟩⟩
   ·rw[if_neg ht,if_neg (by grind),q.get];dsimp only;rw[if_neg (show ¬f.now.length<256*fr.k by omega),BV,if_neg (show ¬16777216<256+256*fr.k by omega)];have zN:=Sound.back (d':={ d.tick with files:=aS d.files fr.name (f.laid (256*fr.k) (dx (ji fr.name) fr.k fr.bytes)),loose:=lM d.loose fr.name (256*fr.k) 256 }) h hj fy fV hL q hk rfl rfl;split
    ·rename_i ahl
     refine⟨bK.tick d,.inr ⟨.inl ⟨rfl,?_⟩,h.tick⟩⟩;have h1:=zN.1.UE;grind [sR,fH,dC.get,jN,Dd,dC.B9,dC.now,dQ,fD]
    ·refine⟨(bK.tick d).of rfl rfl rfl,.inl ⟨rfl,zN.1,zN.2⟩⟩
def lT(name:Name):List Nat->Dsk->List bZ->(Dsk×List bZ)×Nat
 | [],d,fs=>((d,fs),0)
 |i::l,d,fs=>
   if (dD d name (fs.getD i bZ.none).k (fs.getD i bZ.none).bytes).2≠0 then (((dD d name (fs.getD i bZ.none).k (fs.getD i bZ.none).bytes).1,fs),(dD d name (fs.getD i bZ.none).k (fs.getD i bZ.none).bytes).2)
   else lT name l (dD d name (fs.getD i bZ.none).k (fs.getD i bZ.none).bytes).1 (fs.set i { fs.getD i bZ.none with bS:=false })
def xK(fs:List bZ)(i:Nat):Nat:=(fs.getD i bZ.none).k
structure QF(fs:List bZ)(name:Name)(n:Nat)(l:List Nat):Prop where
 each:∀i∈l,∃fr,fs[i]? = some fr/\fr.full=true/\fr.bS=true/\fr.name=name
 gC:l.Pairwise (fun a b=>xK fs a<xK fs b)
 all:∀p,eW fs name p->p<n\/(∃i∈l,xK fs i=p)\/∀i∈l,xK fs i<p
theorem pw{fs:List bZ}{i:Nat}{fr:bZ}(h:fs[i]? = some fr):fs.getD i bZ.none=fr:=by
 grind
theorem El{fs:List bZ}{i:Nat}{fr x:bZ}(h:fs[i]? = some fr)(hk:x.k=fr.k)(j:Nat):xK (fs.set i x) j=xK fs j:=by
 grind [xK]
theorem Sound.UF{L:aD}{name:Name}{ps:List Pg}{fl:Bool}(hL:aB L name=some (.inl (ps,fl)))(l:List Nat) :
 ∀(d:Dsk)(fs:List bZ)(f:bR)(dp:List Pg),Sound d fs L->dC d fs name ps fl f dp->QF fs name dp.length l ->
 ∃d' qb e,lT name l d fs=((d',qb),e)/\Sound d' qb L/\bK d d'/\qb.length=fs.length/\(∀i fr,fs[i]? = some fr->∃dd,qb[i]? = some { fr with bS:=dd }/\(dd=true->fr.bS=true)/\(fr.bS=false\/i ∉ l->dd=fr.bS)/\(e=0->i∈l->dd=false))/\(e=0\/kI d d' L e):=by
 induction l with
 |nil=>
   intro d fs f dp h q hp;exact⟨d,fs,0,rfl,h,bK.refl d,rfl,fun i fr hi=>⟨fr.bS,hi,id,fun _=>rfl,fun _ hm=>by cases hm⟩,.inl rfl⟩
 |cons i l ih=>
   intro d fs f dp h q hp;obtain⟨fr,hi,h1,h2,h3⟩:=hp.each i ah;have alD:=List.pairwise_cons.1 hp.gC;have TZ:xK fs i=fr.k:=by grind [xK]
   have Py:ps[fr.k]? = some fr.bytes:=by
    obtain⟨Gv,kO,BB,Py⟩:=h.frames fr (List.mem_of_getElem? hi) h1;grind
   have hk:fr.k<=dp.length:=by
    rcases Nat.lt_or_ge dp.length fr.k with hlt | vG
    ·exfalso
     have YG:=aM Py;rcases q.each dp.length ae with g | g
     ·omega
     ·rcases hp.all _ g with g |⟨i',hm,g⟩| g
      ·omega
      ·grind
      grind
    omega
   rw[lT,pw hi];subst h3;obtain⟨yD,⟨he,hg,f',q'⟩|⟨he,hg⟩⟩:=h.acg hi h1 h2 hL q hk
   ·rw[if_neg ae];have FM:QF (fs.set i { fr with bS:=false }) fr.name (dr dp fr.k fr.bytes).length l:=by
     refine⟨fun j hj=>?_,?_,fun p hd=>?_⟩
     ·grind [QF.each]
     ·grind [El]
     ·rw[fD _ _ _ hk];have hd':eW fs fr.name p:=by
       rcases jk hi hd with hd | hd
       ·exact hd
       grind
      have hne:p≠fr.k:=by
       rintro rfl;obtain⟨j,fj,g1,g2,g3,g4,g5⟩:=hd;grind [alone]
      rcases hp.all p hd' with g |⟨i',hm,g⟩| g
      ·omega
      ·grind [El]
      grind [El]
    obtain⟨d2,fs2,e2,r1,r2,r3,r4,r5,r6⟩:=ih _ _ f' _ hg q' FM;refine⟨d2,fs2,e2,r1,r2,yD.trans r3,by grind,fun j fj hj=>?_,?_⟩
    ·grind [aM]
    ·rcases r6 with r6 | r6 | r6
     ·omega
     ·exact .inr (.inl ⟨r6.1,by grind [bK.bD]⟩)
     ·exact .inr (.inr r6)
   ·rw[if_pos he.ne];exact⟨_,fs,_,rfl,hg,yD,rfl,fun j fj hj=>⟨fj.bS,hj,id,fun _=>rfl,fun e=>absurd e he.ne⟩,.inr he⟩
def iB(name:Name)(lo hi:Nat)(fr:bZ):Bool:=fr.full && fr.bS && decide (fr.name=name) && decide (lo<=fr.k) && decide (fr.k<hi)
structure Told(fs:List bZ)(name:Name)(lo hi:Nat)(l:List Nat):Prop where
 mem:∀i,i∈l ↔ ∃fr,fs[i]? = some fr/\iB name lo hi fr=true
 gC:l.Pairwise (fun a b=>xK fs a<=xK fs b)
 nodup:l.Nodup
theorem gD{name:Name}{lo hi:Nat}{fr:bZ}:iB name lo hi fr=true↔fr.full=true/\fr.bS=true/\fr.name=name/\lo<=fr.k/\fr.k<hi:=by
 grind [iB]
theorem Told.strict{d:Dsk}{fs:List bZ}{L:aD}(h:Sound d fs L){name:Name}{lo hi:Nat}{l:List Nat}(t:Told fs name lo hi l):l.Pairwise (fun a b=>xK fs a<xK fs b):=by
 have h1:=t.gC.and (show l.Pairwise (fun a b=>a≠b) from t.nodup);grind [List.Pairwise.imp_of_mem,xK,mem,gD,Sound.once]
theorem Told.UF{d:Dsk}{fs:List bZ}{L:aD}(h:Sound d fs L){name:Name}{hi n:Nat}{l:List Nat}(t:Told fs name 0 hi l)(hhi:∀p,eW fs name p->p<hi):QF fs name n l:=by
 refine⟨fun i hm=>?_,t.strict h,fun p hp=>.inr (.inl ?_)⟩
 ·grind [mem,gD]
 ·obtain⟨j,fj,g1,g2,g3,g4,g5⟩:=hp;have hlt:p<hi:=hhi p ⟨j,fj,g1,g2,g3,g4,g5⟩;refine⟨j,(t.mem j).2 ⟨fj,g1,gD.2 ⟨g2,g3,g4,Nat.zero_le _,ae⟩⟩,?_⟩;grind [xK]
theorem Told.QG{d:Dsk}{fs:List bZ}{L:aD}(h:Sound d fs L){j:Nat}{fr:bZ}(hj:fs[j]? = some fr)(fy:fr.full=true)(fV:fr.bS=true){n:Nat}{l:List Nat}(t:Told fs fr.name n fr.k l):QF fs fr.name n (l++[j]):=by
 have hkj:xK fs j=fr.k:=by grind [xK]
 refine⟨fun i hm=>?_,?_,fun p hp=>?_⟩
 ·grind [mem,gD]
 ·grind [strict,mem,gD,xK]
 ·obtain⟨i,fi,g1,g2,g3,g4,g5⟩:=id hp;by_cases hn:p<n
  ·omega
  ·right;have TZ:xK fs i=p:=by grind [xK]
   grind [mem,gD,xK]
abbrev Rec:=List UInt8
def gF(sz:Nat)(rs:List Rec):Prop:=∀r∈rs,r.length=sz
theorem gF.cons{sz:Nat}{r:Rec}{rs:List Rec}(h:gF sz (r::rs)):r.length=sz/\gF sz rs:=⟨h r ah,fun x hx=>h x (by grind)⟩
theorem gF.take{sz:Nat}{rs:List Rec}(h:gF sz rs)(n:Nat):gF sz (rs.take n):=fun b hb=>h b (List.mem_of_mem_take hb)
theorem gF.drop{sz:Nat}{rs:List Rec}(h:gF sz rs)(n:Nat):gF sz (rs.drop n):=fun b hb=>h b (List.mem_of_mem_drop hb)
theorem qy{sz:Nat}{rs:List Rec}(h:gF sz rs):rs.flatten.length=sz*rs.length:=by
 induction rs with
 |nil=>simp
 |cons r rs ih=>
   grind [gF.cons]
theorem QH{sz:Nat}{rs:List Rec}(h:gF sz rs){j:Nat}(hj:j<rs.length):(rs.flatten.drop (sz*j)).take sz=rs[j]:=by
 have e:rs.flatten=(rs.take j).flatten++(rs[j]++(rs.drop (j+1)).flatten):=by
  grind [tQ]
 have hl:(rs.take j).flatten.length=sz*j:=by
  rw[qy (h.take j),List.length_take,Nat.min_eq_left ae]
 rw[e,ku _ _ _ hl,qu _ _ _ (h _ (List.getElem_mem hj))]
def eQ(sz:Nat):Nat:=240/sz
theorem ru{sz:Nat}(h1:1<=sz)(h2:sz<=240):1<=eQ sz:=by
 unfold eQ;exact(Nat.one_le_div_iff ae).2 h2
theorem tT(sz:Nat):sz*eQ sz<=240:=Nat.mul_div_le 240 sz
theorem QI{sz:Nat}(h1:1<=sz):240<sz*(eQ sz+1):=by
 unfold eQ;have:=Nat.lt_mul_div_succ 240 (show 0<sz by omega);omega
def cA(p n:Nat):Nat:=(n+p-1)/p
theorem fe{p n k:Nat}(hp:1<=p):k<cA p n↔p*k<n:=by
 grind [cA,Nat.le_div_iff_mul_le]
def bz(p:Nat)(rs:List Rec):List Pg:=(List.range (cA p rs.length)).map fun k=>((rs.drop (p*k)).take p).flatten
theorem dW(p:Nat)(rs:List Rec):(bz p rs).length=cA p rs.length:=by simp[bz]
theorem iR{p:Nat}{rs:List Rec}(hp:1<=p)(k:Nat):(bz p rs)[k]? = if p*k<rs.length then some ((rs.drop (p*k)).take p).flatten else none:=by
 grind [bz,fe]
theorem qA{p sz:Nat}{rs:List Rec}(hs:gF sz rs)(k:Nat):((rs.drop (p*k)).take p).flatten.length=sz*min p (rs.length-p*k):=by
 rw[qy ((hs.drop _).take _),List.length_take,List.length_drop]
theorem Em{p:Nat}{rs:List Rec}(hp:1<=p)(r:Rec){k:Nat}(h1:p*k<rs.length)(h2:rs.length<p*k+p):bz p (rs++[r])=dr (bz p rs) k (((rs.drop (p*k)).take p).flatten++r):=by
 apply List.ext_getElem?;intro i;have hk:k<=(bz p rs).length:=by rw[dW];exact Nat.le_of_lt ((fe hp).2 h1)
 rw[kx _ _ _ hk,iR hp,iR hp,List.length_append,List.length_singleton];by_cases e:i=k
 ·grind [List.take_of_length_le]
 ·rw[if_neg e];rcases Nat.lt_or_gt_of_ne e with hlt | xL
  ·have:p*i+p<=p*k:=by rw[<- Nat.mul_succ];exact Nat.mul_le_mul_left _ hlt
   grind
  ·have:p*k+p<=p*i:=by rw[<- Nat.mul_succ];exact Nat.mul_le_mul_left _ xL
   grind
theorem xM{p:Nat}{rs:List Rec}(hp:1<=p)(r:Rec){k:Nat}(h:rs.length=p*k):bz p (rs++[r])=dr (bz p rs) k r/\(bz p rs).length=k:=by
 have hk:(bz p rs).length=k:=by
  rw[dW,h];have a:¬k<cA p (p*k):=fun e=>by grind [fe]
  rcases Nat.eq_zero_or_pos k with rfl | hk
  ·omega
  ·have b:k-1<cA p (p*k):=(fe hp).2 (by
    have:p*(k-1)+p=p*k:=by rw[<- Nat.mul_succ,show(k-1).succ=k by omega]
    omega)
   omega
 refine⟨?_,hk⟩;apply List.ext_getElem?;intro i;rw[kx _ _ _ ae,iR hp,iR hp,List.length_append,List.length_singleton];by_cases e:i=k
 ·grind [List.take_of_length_le]
 ·rw[if_neg e];rcases Nat.lt_or_gt_of_ne e with hlt | xL
  ·have:p*i+p<=p*k:=by rw[<- Nat.mul_succ];exact Nat.mul_le_mul_left _ hlt
   grind
  ·have:p*k+p<=p*i:=by rw[<- Nat.mul_succ];exact Nat.mul_le_mul_left _ xL
   grind
theorem NC{p n:Nat}(hp:1<=p)(h:0<n):p*(cA p n-1)<n/\n<=p*(cA p n-1)+p/\1<=cA p n:=by
 have h1:0<cA p n:=(fe hp).2 ae;have h2:cA p n-1<cA p n:=by omega
 have h3:¬cA p n<cA p n:=Nat.lt_irrefl _;refine⟨(fe hp).1 h2,?_,h1⟩;rw[fe hp]at h3;have:p*(cA p n-1)+p=p*cA p n:=by rw[<- Nat.mul_succ,show(cA p n-1).succ=cA p n by omega]
 omega
theorem QJ{p sz:Nat}{rs:List Rec}(hs:gF sz rs)(hp:1<=p){i:Nat}(hi:i<rs.length) :
 p*(i/p)<rs.length/\((((rs.drop (p*(i/p))).take p).flatten).drop (sz*(i%p))).take sz=rs[i]/\sz*(i%p)+sz<=(((rs.drop (p*(i/p))).take p).flatten).length:=by
 have h1:=Nat.div_add_mod i p;have h2:=Nat.mod_lt i (show 0<p by omega);have hl:i%p<((rs.drop (p*(i/p))).take p).length:=by grind
 refine⟨ae,?_,?_⟩
 ·rw[QH ((hs.drop _).take _) hl];grind
 ·rw[qy ((hs.drop _).take _)];have:=Nat.mul_le_mul_left sz (show i%p+1<=_ from hl);omega
structure aJ where
 t:UInt32
 h:UInt32
 x:UInt64
 m:UInt32
theorem aJ.ext'{a b:aJ}(h1:a.t=b.t)(h2:a.h=b.h)(h3:a.x=b.x)(h4:a.m=b.m):a=b:=by
 cases a;simp_all
def pk(by':Bool)(e:aJ):Nat:=if by' then e.h.toNat*4294967296+e.t.toNat else e.t.toNat*4294967296+e.h.toNat
def rk(e:aJ):Nat:=e.x.toNat*4294967296+(e.m.toNat+1)%4294967296
def same(a b:aJ):Prop:=a.t=b.t/\a.h=b.h
theorem iC{b:Bool}{x y:aJ}:pk b x=pk b y↔same x y:=by
 have h1:=x.t.toNat_lt;have h2:=x.h.toNat_lt;have h3:=y.t.toNat_lt;have h4:=y.h.toNat_lt;grind [pk,same,UInt32.toNat_inj]
theorem QK{x y:aJ}(h:rk x=rk y):x.x=y.x/\x.m=y.m:=by
 have h1:=x.m.toNat_lt;have h2:=y.m.toNat_lt;grind [rk,UInt64.toNat_inj,UInt32.toNat_inj]
def dE(b:Bool)(x y:aJ):Prop:=pk b x<pk b y\/pk b x=pk b y/\rk x<=rk y
theorem dE.refl(b:Bool)(x:aJ):dE b x x:=.inr ⟨rfl,Nat.le_refl _⟩
theorem dE.trans{b:Bool}{x y z:aJ}(h:dE b x y)(k:dE b y z):dE b x z:=by grind [dE]
structure dM(b:Bool)(l out:List aJ):Prop where
 gC:out.Pairwise (fun x y=>pk b x<pk b y)
 mem:∀e∈out,e∈l/\e.t≠e.h/\∀x∈l,same x e->rk e<=rk x
 all:∀x∈l,x.t≠x.h->∃e∈out,same e x
theorem Gw{α:Type}{f:α->Nat}{a c:List α}(ha:a.Pairwise (fun x y=>f x<f y))(hc:c.Pairwise (fun x y=>f x<f y))(h:∀x,x∈a↔x∈c):a=c:=by
 induction a generalizing c with
 |nil=>
   cases c with
   |nil=>rfl
   |cons y c=>have:=(h y).2 ah;grind
 |cons x a ih=>
   cases c with
   |nil=>grind
   |cons y c=>
     grind [List.pairwise_cons]
theorem same.symm{x y:aJ}(h:same x y):same y x:=⟨h.1.symm,h.2.symm⟩
theorem same.trans{x y z:aJ}(h:same x y)(k:same y z):same x z:=⟨h.1.trans k.1,h.2.trans k.2⟩
theorem same.loop{x y:aJ}(h:same x y)(hx:x.t≠x.h):y.t≠y.h:=by rw[<- h.1,<- h.2];exact hx
theorem dM.sub{b:Bool}{l a c:List aJ}(ha:dM b l a)(hc:dM b l c):∀x∈a,x∈c:=fun x hx=>by
 obtain⟨h1,h2,h3⟩:=ha.mem x hx;obtain⟨e,he,hs⟩:=hc.all x h1 h2;obtain⟨g1,g2,g3⟩:=hc.mem e he;have h4:=h3 e g1 hs;have h5:=g3 x h1 hs.symm;have h6:=QK (Nat.le_antisymm h4 h5);rw[aJ.ext' hs.symm.1 hs.symm.2 h6.1 h6.2];exact he
theorem dM.unique{b:Bool}{l a c:List aJ}(ha:dM b l a)(hc:dM b l c):a=c:=Gw ha.gC hc.gC fun x=>⟨ha.sub hc x,hc.sub ha x⟩
theorem dM.congr{b:Bool}{l l' out:List aJ}(h:dM b l out)(hm:∀x,x∈l↔x∈l'):dM b l' out:=
 ⟨h.gC,fun e he=>⟨(hm e).1 (h.mem e he).1,(h.mem e he).2.1,fun x hx=>(h.mem e he).2.2 x ((hm x).2 hx)⟩,fun x hx=>h.all x ((hm x).2 hx)⟩
theorem dM.nil(b:Bool):dM b [] []:=⟨List.Pairwise.nil,(fun _ h=>nomatch h),(fun _ h=>nomatch h)⟩
theorem dM.trans{b b':Bool}{l m out:List aJ}(h:dM b' l m)(k:dM b m out):dM b l out:=
 ⟨k.gC,fun e he=>by
  grind [mem],fun x hx hn=>by
  obtain⟨e,he,hs⟩:=h.all x hx hn;obtain⟨e',he',hs'⟩:=k.all e he (hs.symm.loop hn);grind [same.trans]⟩
theorem dM.both{b:Bool}{l1 l2 m1 m2 out:List aJ}(h1:dM b l1 m1)(h2:dM b l2 m2)(k:dM b (m1++m2) out):dM b (l1++l2) out:=by
 refine⟨k.gC,fun e he=>?_,fun x hx hn=>?_⟩
 ·obtain⟨g1,g2,g3⟩:=k.mem e he;refine⟨?_,g2,fun x hx hs=>?_⟩
  ·grind [mem]
  ·have hn:x.t≠x.h:=hs.symm.loop g2;rcases List.mem_append.1 hx with hx | hx
   ·obtain⟨y,hy,PI⟩:=h1.all x hx hn;have:=(h1.mem y hy).2.2 x hx PI.symm;grind [same.trans]
   ·obtain⟨y,hy,PI⟩:=h2.all x hx hn;have:=(h2.mem y hy).2.2 x hx PI.symm;grind [same.trans]
 ·rcases List.mem_append.1 hx with hx | hx
  ·obtain⟨y,hy,PI⟩:=h1.all x hx hn;obtain⟨e,he,hs⟩:=k.all y (List.mem_append_left _ hy) (PI.symm.loop hn);grind [same.trans]
  ·obtain⟨y,hy,PI⟩:=h2.all x hx hn;obtain⟨e,he,hs⟩:=k.all y (List.mem_append_right _ hy) (PI.symm.loop hn);grind [same.trans]
def Gx(out:List aJ)(e:aJ):Prop:=e.t=e.h\/∃y,out.getLast? = some y/\same y e
open Classical in
noncomputable def sU(out:List aJ)(e:aJ):List aJ:=if Gx out e then out else out++[e]
noncomputable def fF(xs:List aJ):List aJ:=xs.foldl sU []
theorem vQ(xs:List aJ)(e:aJ):fF (xs++[e])=sU (fF xs) e:=by grind [fF]
theorem vR{out:List aJ}{e:aJ}(h:Gx out e):sU out e=out:=by grind [sU]
theorem zO{out:List aJ}{e:aJ}(h:¬Gx out e):sU out e=out++[e]:=by grind [sU]
theorem Gy(out:List aJ)(e:aJ):(sU out e).length<=out.length+1:=by
 grind [Gx,vR,zO]
theorem mI(xs:List aJ):(fF xs).length<=xs.length:=by
 suffices h:∀(xs ys:List aJ),(xs.foldl sU ys).length<=ys.length+xs.length by grind [fF]
 intro xs;induction xs with
 |nil=>simp
 |cons x xs ih=>
   grind [Gy]
theorem dM.put{b:Bool}{xs out:List aJ}{e:aJ}(h:dM b xs out)(hs:∀x∈xs,dE b x e):dM b (xs++[e]) (sU out e):=by
 by_cases hsk:Gx out e
 ·rw[vR hsk];refine⟨h.gC,fun o ho=>⟨List.mem_append_left _ (h.mem o ho).1,(h.mem o ho).2.1,fun x hx QL=>?_⟩,fun x hx hn=>?_⟩
  ·rcases List.mem_append.1 hx with hx | hx
   ·exact(h.mem o ho).2.2 x hx QL
   ·rw[List.mem_singleton.1 hx]at QL ⊢;have h1:=hs o (h.mem o ho).1;grind [iC,dE]
  ·rcases List.mem_append.1 hx with hx | hx
   ·grind [all]
   ·rw[List.mem_singleton.1 hx]at hn ⊢;rcases hsk with hl |⟨y,hy,hye⟩
    ·grind
    grind
 ·rw[zO hsk];have hn:e.t≠e.h:=fun h=>hsk (.inl h);have xL:∀o∈out,pk b o<pk b e:=fun o ho=>by
   have h1:=hs o (h.mem o ho).1;rcases Nat.lt_or_ge (pk b o) (pk b e) with hlt | vG
   ·omega
   ·exfalso
    have h2:pk b o=pk b e:=by grind [dE]
    rcases List.eq_nil_or_concat out with rfl |⟨r,y,hr⟩
    ·cases ho
    ·have hy:out.getLast? = some y:=by grind
     have hyo:pk b y<=pk b e:=by
      have h3:=hs y (h.mem y (by grind)).1;grind [dE]
     have hoy:o=y\/pk b o<pk b y:=by
      have h4:=h.gC;rw[hr,List.concat_eq_append,List.pairwise_append]at h4;rw[hr,List.concat_eq_append]at ho;rcases List.mem_append.1 ho with ho | ho
      ·exact .inr (h4.2.2 o ho y ah)
      grind
     rcases hoy with rfl | hoy
     ·exact hsk (.inr ⟨o,hy,iC.1 h2⟩)
     ·omega
  refine⟨?_,fun o ho=>?_,fun x hx hxn=>?_⟩
  ·grind [gC]
  ·rcases List.mem_append.1 ho with ho | ho
   ·grind [mem,iC]
   ·rw[List.mem_singleton.1 ho];refine⟨ah,hn,fun x hx QL=>?_⟩;rcases List.mem_append.1 hx with hx | hx
    ·obtain⟨o',kN,hs'⟩:=h.all x hx (QL.symm.loop hn);grind [iC,same.trans]
    grind
  ·rcases List.mem_append.1 hx with hx | hx
   ·grind [all]
   ·rw[List.mem_singleton.1 hx];exact⟨e,ah,rfl,rfl⟩
theorem vS{b:Bool}{xs:List aJ}(h:xs.Pairwise (dE b)):dM b xs (fF xs):=by
 suffices g:∀(n:Nat)(xs:List aJ),xs.length=n->xs.Pairwise (dE b)->dM b xs (fF xs) from g _ xs rfl h
 intro n;induction n with
 |zero=>
   intro xs hl _;obtain rfl:=List.eq_nil_of_length_eq_zero hl;exact dM.nil b
 |succ n ih=>
   intro xs hl hp;rcases List.eq_nil_or_concat xs with rfl |⟨r,y,hr⟩
   ·grind
   ·rw[List.concat_eq_append]at hr;subst hr;rw[vQ];rw[List.pairwise_append]at hp;exact(ih r (by grind) hp.1).put fun x hx=>hp.2.2 x hx y ah
noncomputable def aK(b:Bool)(l:List aJ):List aJ:=open Classical in fF (l.mergeSort (fun x y=>decide (dE b x y)))
theorem bU(b:Bool)(l:List aJ):dM b l (aK b l):=by
 unfold aK;refine(vS ?_).congr fun x=>List.mem_mergeSort;grind [List.pairwise_mergeSort,dE]
theorem dM.eq{b:Bool}{l out:List aJ}(h:dM b l out):out=aK b l:=h.unique (bU b l)
end
section
open Go.RowKit Go.Maps Go.MapKept
open Go.ChangeMaps (setBlock heap_setBlock_same heap_setBlock_other)
abbrev iD:=Value×bZ
def bJ(v:Value)(f:bZ):List Value:=[.bool f.full,.string f.name,.int .i64 (f.k:Int),v,.int .i64 0,.bool f.bS,.bool f.used]
def rowOf:List iD->List Value
 | []=>[]
 |p::l=>bJ p.1 p.2++rowOf l
theorem tU(l:List iD):(rowOf l).length=7*l.length:=by
 induction l with
 |nil=>rfl
 |cons p l ih=>grind [rowOf,List.length_cons,bJ]
theorem Df{l:List iD}{i:Nat}{p:iD}(h:l[i]? = some p){j:Nat}(hj:j<7):(rowOf l)[7*i+j]? = (bJ p.1 p.2)[j]? := by
 induction l generalizing i with
 |nil=>cases h
 |cons q l ih=>
   rw[rowOf];cases i with
   |zero=>
     grind [bJ]
   |succ i=>
     rw[List.getElem?_append_right (by simp[bJ];omega),<- ih (i:=i) (by grind)];congr 1;simp[bJ];omega
theorem ND{l:List iD}{i:Nat}{p q:iD}(h:l[i]? = some p){j:Nat}(hj:j<7){v:Value}(hv:(bJ p.1 p.2).set j v=bJ q.1 q.2):(rowOf l).set (7*i+j) v=rowOf (l.set i q):=by
 induction l generalizing i with
 |nil=>cases h
 |cons r l ih=>
   cases i with
   |zero=>
     cases h;rw[rowOf,List.set_cons_zero,rowOf,List.set_append_left _ _ (by grind [bJ])];grind
   |succ i=>
     rw[rowOf,List.set_cons_succ,rowOf,<- ih (i:=i) (by grind),List.set_append_right _ _ (by simp[bJ];omega)];congr 2;simp[bJ];omega
theorem zP{b:Nat}{t:TypeId}(vs:List Value):∀{w:World}{o:Nat}{cs:List Value},w.heap[b]? = some (.cells cs.toArray t)->o+vs.length<=cs.length ->
 (w.setCells b o vs).heap[b]? = some (.cells (cs.take o++(vs++cs.drop (o+vs.length))).toArray t):=by
 induction vs with
 |nil=>intro w o cs h _;simp[World.setCells,h]
 |cons v vs ih=>
   intro w o cs h ho;rw[List.length_cons]at ho;have h1:=aT h o v;rw[List.setIfInBounds_toArray]at h1;rw[World.setCells,ih h1 (by grind)];congr 3;have zk:cs.set o v=cs.take o++v::cs.drop (o+1):=List.set_eq_take_append_cons_drop.trans (by grind);have e1:(cs.set o v).take (o+1)=cs.take o++[v]:=by
    grind
   have e2:(cs.set o v).drop (o+1+vs.length)=cs.drop (o+(vs.length+1)):=by
    grind [List.drop_set_of_lt]
   simp_all
theorem Gz{l:List iD}{i:Nat}(h:i<l.length)(q:iD):(rowOf l).take (7*i)++(bJ q.1 q.2++(rowOf l).drop (7*i+7))=rowOf (l.set i q):=by
 induction l generalizing i with
 |nil=>grind
 |cons r l ih=>
   cases i with
   |zero=>
     rfl
   |succ i=>
     have t1:(bJ r.1 r.2++rowOf l).take (7*(i+1))=bJ r.1 r.2++(rowOf l).take (7*i):=by
      rfl
     have t2:(bJ r.1 r.2++rowOf l).drop (7*(i+1)+7)=(rowOf l).drop (7*i+7):=by
      rfl
     grind [rowOf]
section
variable {w w':World} {fb:Nat} {l:List iD}
def dK(w:World)(fb:Nat)(l:List iD):Prop:=∃t,w.heap[fb]? = some (.cells (rowOf l).toArray t)
theorem dK.range(h:dK w fb l){i:Nat}{p:iD}(hi:l[i]? = some p):w.rangeAt fb (7*i) (bJ p.1 p.2):=fun j v hv=>by
 obtain⟨t,h⟩:=h;have hj:j<7:=aM hv;rw[aq h,List.getElem?_toArray,Df hi hj];exact hv
theorem dK.cell(h:dK w fb l){i:Nat}{p:iD}(hi:l[i]? = some p){j:Nat}{v:Value}(hv:(bJ p.1 p.2)[j]? = some v):w.cell? ⟨fb,7*i+j,none⟩=some v:=h.range hi j v hv
theorem dK.free(h:dK w fb l)(i:Nat):w.frozen? ⟨fb,i,none⟩=false:=by
 obtain⟨t,h⟩:=h;exact aO h i
theorem dK.lt(h:dK w fb l):fb<w.heap.size:=by
 obtain⟨t,h⟩:=h;grind
theorem dK.set(h:dK w fb l){i:Nat}{p q:iD}(hi:l[i]? = some p){j:Nat}(hj:j<7){v:Value}(hv:(bJ p.1 p.2).set j v=bJ q.1 q.2):dK (w.setCell ⟨fb,7*i+j,none⟩ v) fb (l.set i q):=by
 obtain⟨t,h⟩:=h;refine⟨t,?_⟩;rw[aT h,List.setIfInBounds_toArray,ND hi hj hv]
theorem dK.YH(h:dK w fb l){i:Nat}(hi:i<l.length)(q:iD):dK (w.setCells fb (7*i) (bJ q.1 q.2)) fb (l.set i q):=by
 obtain⟨t,h⟩:=h;refine⟨t,?_⟩;rw[zP _ h (by rw[tU];show 7*i+7<=_;omega)];congr 3;exact Gz hi q
theorem dK.kept{S:Nat->Prop}(h:dK w fb l)(ht:aH S w w')(hs:¬S fb):dK w' fb l:=by
 obtain⟨t,h⟩:=h;exact⟨t,ht.heap h hs⟩
end
theorem aH.setCells{S:Nat->Prop}{w w':World}(h:aH S w w')(b o:Nat)(vs:List Value)(hb:S b\/w.heap.size<=b):aH S w (w'.setCells b o vs):=by
 induction vs generalizing w' o with
 |nil=>exact h
 |cons v vs ih=>exact ih (h.setCell ⟨b,o,none⟩ v hb) (o+1)
abbrev jl:=bO prog 170 eE (fun i:Nat=>.int .i64 (i:Int))
def fX(fs:List bZ)(m:List ((Name×Nat)×Nat)):Prop:=∀n k i,aB m (n,k)=some i ↔ ∃fr,fs[i]? = some fr/\fr.full=true/\fr.name=n/\fr.k=k
theorem QM:(170:TypeId)<prog.types.size:=of_decide_eq_true ag
theorem NF:(match prog.underlying 170 with | some (.array _ _) | some (.struct _)=>true | _=>false)=true:=by rw[Tryz.underlying170]
theorem jQ:Keyed prog 170:=Keyed.of_law (deep_law_laid Tryz.Gd (m:=2) ae QM ag NF)
theorem ry{s:ByteArray}{n:Nat}(h:s.size<=maxLen)(hn:n<9223372036854775808):Good prog 170 (eE (s,n)):=by
 have h1:prog.keyType 170=true:=by kernel_rfl
 have h2:prog.cellsOf 170=2:=by rfl
 have h3:prog.cellsOf 9=1:=by rfl
 have h4:prog.cellsOf 3=1:=by rfl
 have h5:(Lit.int .i64 (n:Int)).wf=true:=by
  have:(Lit.int .i64 (n:Int)).wf=(decide (-9223372036854775808<=(n:Int)) && decide ((n:Int)<=9223372036854775807)):=by rfl
  grind
 have hk:∀d,prog.keyLits (d+2) 170 [.string s,.int .i64 (n:Int)]=some [.string s.data.toList,.int .i64 (n:Int)]:=by
  intro d;simp[Program.keyLits,Tryz.underlying170,Tryz.underlying9,Tryz.underlying3,h2,h3,h4,h,h5]
 unfold Good eE keyOf;rw[Tryz.underlying170];simp only[h1,Value.formed,Tryz.underlying170,h2];have BX:prog.keyLits (prog.types.size+1) 170 (Value.agg #[.string s,.int .i64 (n:Int)]).cells.toList=some [.string s.data.toList,.int .i64 (n:Int)]:=hk (prog.types.size-1);simp_all
def cB(c:Nat):Prop:=c<10
theorem GA{o:ar}{x:Nat}(h:o.In po x):o.In cB x:=by
 obtain⟨t,h1,h2⟩:=h;have h2:t.1<6:=h2;exact⟨t,h1,show t.1<10 by omega⟩
def dN(w:World)(pb db fb mb n hand mf:Nat):Prop:=
 ∃t,w.heap[pb]? = some (.cells #[ptrTo db,.slice (some ⟨fb,0,none⟩) n n,.map (some mb),.int .i64 (hand:Int),.int .i64 (mf:Int),.int .i64 0] t)
structure br(w:World)(pb db fb mb:Nat)(o:ar)(l:List iD)(hand mf:Nat)(d:Dsk):Prop where
 lS:cK w db o d
 yF:o pb=some (6,0)
 r7:o fb=some (7,0)
 oq:o mb=some (8,0)
 head:dN w pb db fb mb l.length hand mf
 row:dK w fb l
 tV:∃m,jl w mb m/\fX (l.map (·.2)) m
 each:∀p∈l,w.ownsRow 0 5 1 p.1 p.2.bytes.length (p.2.bytes.map bv)/\∀b,p.1.ownBlock=some b->o b=some (9,0)
 hand:hand<l.length
 most:l.length<=4096
 full:mf<=l.length
def aQ(w:World)(pb db n:Nat)(o:ar)(d:Dsk)(L:aD):Prop:=
 ∃fb mb l hand mf,br w pb db fb mb o l hand mf d/\l.length=n/\Sound d (l.map (·.2)) L
section
variable {S:Nat->Prop} {w w':World} {o o':ar} {pb db fb mb:Nat} {l:List iD} {hand mf:Nat} {d d':Dsk} {L:aD}
theorem dN.kept{n:Nat}(h:dN w pb db fb mb n hand mf)(ht:aH S w w')(hs:¬S pb):dN w' pb db fb mb n hand mf:=by
 obtain⟨t,h⟩:=h;exact⟨t,ht.heap h hs⟩
theorem dN.cells{n:Nat}(h:dN w pb db fb mb n hand mf) :
 (w.cell? ⟨pb,0,none⟩=some (ptrTo db)/\w.cell? ⟨pb,1,none⟩=some (.slice (some ⟨fb,0,none⟩) n n)/\w.cell? ⟨pb,2,none⟩=some (.map (some mb))/\w.cell? ⟨pb,3,none⟩=some (.int .i64 (hand:Int))/\w.cell? ⟨pb,4,none⟩=some (.int .i64 (mf:Int))/\w.cell? ⟨pb,5,none⟩=some (.int .i64 0)) /\
   w.frozen? ⟨pb,3,none⟩=false/\w.frozen? ⟨pb,4,none⟩=false/\w.frozen? ⟨pb,5,none⟩=false:=by
 obtain⟨t,h⟩:=h;refine⟨⟨?_,?_,?_,?_,?_,?_⟩,aO h _,aO h _,aO h _⟩<;>rw[aq h]<;>rfl
theorem dN.En{n:Nat}(h:dN w pb db fb mb n hand mf)(a:Nat):dN (w.setCell ⟨pb,3,none⟩ (.int .i64 (a:Int))) pb db fb mb n a mf:=by
 obtain⟨t,h⟩:=h;exact⟨t,by rw[aT h];rfl⟩
theorem dN.UG{n:Nat}(h:dN w pb db fb mb n hand mf)(a:Nat):dN (w.setCell ⟨pb,4,none⟩ (.int .i64 (a:Int))) pb db fb mb n hand a:=by
 obtain⟨t,h⟩:=h;exact⟨t,by rw[aT h];rfl⟩
theorem dN.UH{n:Nat}(h:dN w pb db fb mb n hand mf):dN (w.setCell ⟨pb,5,none⟩ (.int .i64 0)) pb db fb mb n hand mf:=by
 obtain⟨t,h⟩:=h;exact⟨t,by rw[aT h];rfl⟩
theorem dN.lt{n:Nat}(h:dN w pb db fb mb n hand mf):pb<w.heap.size:=by
 obtain⟨t,h⟩:=h;grind
theorem br.owned(h:br w pb db fb mb o l hand mf d):∀x t,o x=some t->x<w.heap.size:=by
 obtain⟨_,_,_,hd⟩:=h.lS;exact hd.owned
theorem br.zy(h:br w pb db fb mb o l hand mf d):o db=some (0,0):=by
 obtain⟨_,_,_,hd⟩:=h.lS;exact hd.zy
theorem br.kept(h:br w pb db fb mb o l hand mf d)(ht:aH S w w')(hs:∀x,o.In cB x->¬S x)(ho:∀x t,o x=some t->o' x=some t)(hb:∀x t,o' x=some t->x<w'.heap.size):br w' pb db fb mb o' l hand mf d where
 lS:=h.lS.kept ht (fun x t hx hl=>hs x ⟨t,hx,show t.1<10 by omega⟩) ho hb
 yF:=ho _ _ h.yF
 r7:=ho _ _ h.r7
 oq:=ho _ _ h.oq
 head:=h.head.kept ht (hs _ ⟨_,h.yF,show 6<10 by decide⟩)
 row:=h.row.kept ht (hs _ ⟨_,h.r7,show 7<10 by decide⟩)
 tV:=by
  obtain⟨m,h1,h2⟩:=h.tV;exact⟨m,h1.turn ht (hs _ ⟨_,h.oq,show 8<10 by decide⟩),h2⟩
 each:=fun p hp=>⟨ht.ownsRow (h.each p hp).1 (fun b hb=>hs b ⟨_,(h.each p hp).2 b hb,show 9<10 by decide⟩),fun b hb=>ho _ _ ((h.each p hp).2 b hb)⟩
 hand:=h.hand
 most:=h.most
 full:=h.full
theorem aQ.kept{n:Nat}(h:aQ w pb db n o d L)(ht:aH S w w')(hs:∀x,o.In cB x->¬S x)(ho:∀x t,o x=some t->o' x=some t)(hb:∀x t,o' x=some t->x<w'.heap.size):aQ w' pb db n o' d L:=by
 obtain⟨fb,mb,l,hand,mf,h,hl,g⟩:=h;exact⟨fb,mb,l,hand,mf,h.kept ht hs ho hb,hl,g⟩
theorem br.below(h:br w pb db fb mb o l hand mf d)(hb:Below w.heap.size w w'):br w' pb db fb mb o l hand mf d:=
 h.kept (S:=fun _=>False) (aH.aW hb) (fun _ _ h=>h) (fun _ _ h=>h) (fun x t hx=>Nat.lt_of_lt_of_le (h.owned x t hx) hb.size)
theorem aQ.below{n:Nat}(h:aQ w pb db n o d L)(hb:Below w.heap.size w w'):aQ w' pb db n o d L:=by
 obtain⟨fb,mb,l,hand,mf,h,hl,g⟩:=h;exact⟨fb,mb,l,hand,mf,h.below hb,hl,g⟩
theorem cw.keep{n:Nat}(hg:cw n o o')(hb:∀x t,o x=some t->x<n):∀x t,o x=some t->o' x=some t:=fun x t hx=>by rw[hg x (hb x t hx)];exact hx
theorem br.zQ(h:br w pb db fb mb o l hand mf d)(hd:cK w' db o' d')(ht:aH (o.In po) w w')(hg:cw w.heap.size o o'):br w' pb db fb mb o' l hand mf d' where
 lS:=hd
 yF:=hg.keep h.owned _ _ h.yF
 r7:=hg.keep h.owned _ _ h.r7
 oq:=hg.keep h.owned _ _ h.oq
 head:=h.head.kept ht (ar.Ec h.yF (show ¬6<6 by decide))
 row:=h.row.kept ht (ar.Ec h.r7 (show ¬7<6 by decide))
 tV:=by
  obtain⟨m,h1,h2⟩:=h.tV;exact⟨m,h1.turn ht (ar.Ec h.oq (show ¬8<6 by decide)),h2⟩
 each:=fun p hp=>⟨ht.ownsRow (h.each p hp).1 (fun b hb=>ar.Ec ((h.each p hp).2 b hb) (show ¬9<6 by decide)),fun b hb=>hg.keep h.owned _ _ ((h.each p hp).2 b hb)⟩
 hand:=h.hand
 most:=h.most
 full:=h.full
theorem br.vI(h:br w pb db fb mb o l hand mf d)(ht:aH (·=pb) w w'){a c:Nat}(hh:dN w' pb db fb mb l.length a c)(ha:a<l.length)(hc:c<=l.length):br w' pb db fb mb o l a c d where
 lS:=h.lS.kept ht (fun x t hx hl=>ar.ne hx h.yF (fun e=>by grind)) (fun _ _ h=>h) (fun x t hx=>Nat.lt_of_lt_of_le (h.owned x t hx) ht.size)
 yF:=h.yF
 r7:=h.r7
 oq:=h.oq
 head:=hh
 row:=h.row.kept ht (ar.ne h.r7 h.yF af)
 tV:=by
  obtain⟨m,h1,h2⟩:=h.tV;grind [bO.turn,oq,yF]
 each:=fun p hp=>⟨ht.ownsRow (h.each p hp).1 (fun b hb=>ar.ne ((h.each p hp).2 b hb) h.yF af),(h.each p hp).2⟩
 hand:=ha
 most:=h.most
 full:=hc
theorem br.ach(h:br w pb db fb mb o l hand mf d)(ht:aH (fun x=>x=fb\/x=mb) w w'){l':List iD}(hl:l'.length=l.length)(hr:dK w' fb l')(ho:∀x t,o x=some t->o' x=some t)(hb:∀x t,o' x=some t->x<w'.heap.size)(hm:∃m,jl w' mb m/\fX (l'.map (·.2)) m)(he:∀p∈l',p∈l\/(w'.ownsRow 0 5 1 p.1 p.2.bytes.length (p.2.bytes.map bv)/\∀b,p.1.ownBlock=some b->o' b=some (9,0))):br w' pb db fb mb o' l' hand mf d where
 lS:=h.lS.kept ht (fun x t hx hl e=>by
  grind [r7,oq]) ho hb
 yF:=ho _ _ h.yF
 r7:=ho _ _ h.r7
 oq:=ho _ _ h.oq
 head:=by
  rw[hl];exact h.head.kept ht (fun e=>by
   grind [yF,r7,oq])
 row:=hr
 tV:=hm
 each:=fun p hp=>by
  grind [aH.ownsRow,each,r7,oq]
 hand:=by rw[hl];exact h.hand
 most:=by grind [most]
 full:=by rw[hl];exact h.full
def GC(w:World)(pb db n:Nat)(o:ar)(d':Dsk)(L':aD)(w':World):Prop:=
 ∃o',aQ w' pb db n o' d' L'/\aH (o.In cB) w w'/\cw w.heap.size o o'
theorem GC.of{n:Nat}(h:aQ w' pb db n o d' L)(ht:aH (o.In cB) w w'):GC w pb db n o d' L w':=⟨o,h,ht,cw.refl _ _⟩
theorem aH.aX(h:aH (o.In po) w w'):aH (o.In cB) w w':=h.mono fun _ _ hx=>GA hx
end
end
section
open Go.RowKit Go.Maps Go.MapKept
open Go.ChangeMaps (setBlock heap_setBlock_same heap_setBlock_other)
def nx(w:World)(pf db:Nat)(name:Name):Prop:=∃t,w.heap[pf]? = some (.cells #[ptrTo db,.string name,.int .u32 (ji name:Int)] t)
theorem nx.cells{w:World}{pf db:Nat}{name:Name}(h:nx w pf db name):w.cell? ⟨pf,0,none⟩=some (ptrTo db)/\w.cell? ⟨pf,1,none⟩=some (.string name)/\w.cell? ⟨pf,2,none⟩=some (.int .u32 (ji name:Int)):=by
 obtain⟨t,h⟩:=h;refine⟨?_,?_,?_⟩<;>rw[aq h]<;>rfl
theorem nx.lt{w:World}{pf db:Nat}{name:Name}(h:nx w pf db name):pf<w.heap.size:=by
 obtain⟨t,h⟩:=h;exact(Array.getElem?_eq_some_iff.1 h).1
theorem nx.kept{S:Nat->Prop}{w w':World}{pf db:Nat}{name:Name}(h:nx w pf db name)(ht:aH S w w')(hs:¬S pf):nx w' pf db name:=by
 obtain⟨t,h⟩:=h;exact⟨t,ht.heap h hs⟩
theorem nx.below{w w':World}{pf db:Nat}{name:Name}(h:nx w pf db name)(hb:Below w.heap.size w w'):nx w' pf db name:=h.kept (S:=fun _=>False) (aH.aW hb) (fun h=>h)
theorem GD(db:Nat)(name:Name)(w:World)(hs:name.size<=1000) :
 Calls prog 154 #[ptrTo db,.string name] w fun e w'=>∃pf,e=.returned (ptrTo pf)/\nx w' pf db name/\Below w.heap.size w w'/\w.heap.size<=pf:=by
 unfold ptrTo;go_enter func154,ntmps154;go_wp2_with fail;refine(Uw name _ hs).mono ?_;rintro e w1⟨rfl,hb1⟩;go_wp2;go_ret;exact⟨w1.heap.size,rfl,⟨_,heap_alloc_new _ _⟩,hb1.alloc hb1.size _,hb1.size⟩
def YI(w:World)(db:Nat)(name:Name)(c:Nat)(e:Ending)(w':World):Prop:=
 ∃v,e=.returned (.tuple #[v,.int .i64 (c:Int)])/\Below w.heap.size w w'/\(c=0->∃pf,v=ptrTo pf/\nx w' pf db name/\w.heap.size<=pf)/\(c≠0->v=.pointer none)
def cC(d:Dsk)(name:Name):Nat:=if (d.sizeOf name).2≠0 then (d.sizeOf name).2 else if (d.sizeOf name).1%256≠0 then 7 else 0
theorem jR{w:World}{db:Nat}{o:ar}{d:Dsk}(h:cK w db o d)(name:Name):(d.sizeOf name).1<=16777216/\(d.sizeOf name).2<=6:=by
 obtain⟨mf,ml,l,h⟩:=h;unfold Dsk.sizeOf;split
 ·exact⟨ah,ah⟩
 ·split
  ·exact⟨ah,ah⟩
  ·split
   ·exact⟨ah,ah⟩
   ·rename_i f hf
    refine⟨?_,ah⟩;have hg:aB d.files name=(aB l name).map (·.2):=by rw[<- h.strip];exact vJ
    rw[hg]at hf;cases hm:aB l name with
    |none=>rw[hm]at hf;cases hf
    |some x=>
      rw[hm]at hf;cases hf;exact(h.each _ (eM hm)).most.1
theorem zR{w:World}{db:Nat}{o:ar}{d:Dsk}(h:cK w db o d)(name:Name)(hs:name.size<=1000) :
 Calls prog 180 #[ptrTo db,.string name] w (YI w db name (cC d name)):=by
 have H:=aa h;have hb:=jR h name;obtain⟨hb1,hb2⟩:=hb;have hc:=aa (show cC d name=if (d.sizeOf name).2≠0 then (d.sizeOf name).2 else if (d.sizeOf name).1%256≠0 then 7 else 0 from rfl);clear h;unfold ptrTo;have aN:=aa (Gk H.o name hs);generalize (d.sizeOf name).1=n at *;generalize (d.sizeOf name).2=c at *;generalize cC d name=r at *;by_cases h0:c=0
 ·subst h0;by_cases h1:n%256=0
  ·have h1':(n:Int)%256=0:=by omega
   have hr:r=0:=by rw[hc.o,if_neg ah,if_neg (by simp[h1])]
   have HR:=aa hr;have H1:=aa h1;clear hr h1;go_enter func180,ntmps180;go_wp2_with fail;refine aN.o.mono ?_;rintro e w1⟨rfl,hb3⟩;go_wp2_with fail;refine(GD db name _ hs).mono ?_;rintro e w2⟨pf,rfl,hp,hb4,hl⟩;unfold ptrTo;go_wp2;go_ret2;rw[HR.o];exact⟨_,rfl,hb3.trans (hb4.mono hb3.size),fun _=>⟨pf,rfl,hp,Nat.le_trans hb3.size hl⟩,fun h=>absurd rfl h⟩
  ·have h1':¬(n:Int)%256=0:=by omega
   have hr:r=7:=by rw[hc.o,if_neg ah,if_pos h1]
   have HR:=aa hr;clear hr h1;go_enter func180,ntmps180;go_wp2_with fail;refine aN.o.mono ?_;rintro e w1⟨rfl,hb3⟩;go_wp2;go_ret2;rw[HR.o];exact⟨_,rfl,hb3,fun h=>absurd h af,fun _=>rfl⟩
 ·have h0':¬(c:Int)=0:=by omega
  have hr:r=c:=by rw[hc.o,if_pos h0]
  have HR:=aa hr;have H0:=aa h0;clear hr h0;go_enter func180,ntmps180;go_wp2_with fail;refine aN.o.mono ?_;rintro e w1⟨rfl,hb3⟩;go_wp2;go_ret2;rw[HR.o];exact⟨_,rfl,hb3,fun h=>absurd h H0.o,fun _=>rfl⟩
theorem ax{n:Int}(h1:-9223372036854775808<=n)(h2:n<=9223372036854775807):IntKind.i64.wrap n=n:=by
 simp[IntKind.wrap,IntKind.bits,IntKind.signed];omega
theorem qB{w:World}{db pf:Nat}{o:ar}{d:Dsk}{name:Name}(h:cK w db o d)(hp:nx w pf db name)(hs:name.size<=1000) :
 Calls prog 181 #[ptrTo pf] w fun e w'=>e=.returned (.tuple #[.int .i64 (((d.sizeOf name).1/256:Nat):Int),.int .i64 ((d.sizeOf name).2:Int)])/\Below w.heap.size w w':=by
 have H:=aa h;have HP:=aa hp;obtain⟨hb1,hb2⟩:=jR h name;have aN:Hid (∀W,cK W db o d->Calls prog 228 #[ptrTo db,.string name] W fun e w'=>e=.returned (.tuple #[.int .i64 ((d.sizeOf name).1:Int),.int .i64 ((d.sizeOf name).2:Int)])/\Below W.heap.size W w'):=aa (fun W hW=>Gk hW name hs);clear h hp;unfold ptrTo at aN ⊢;generalize (d.sizeOf name).1=n at *;generalize (d.sizeOf name).2=c at *;go_enter func181,ntmps181;go_wp2;refine cR (Below w.heap.size w) ag ag (aj.drew) ?_;iterate 3 (refine qz ?_)
 refine qz ?_ (fun w' hw'=>by have hc:=(HP.o.below hw').cells.1;unfold ptrTo at hc;go_simp<;>rfl);iterate 3 (refine qz ?_)
 refine qz ?_ (fun w' hw'=>by have hc:=(HP.o.below hw').cells.2.1;go_simp<;>rfl);refine qw (fun w' hw'=>(aN.o w' (H.o.below hw')).mono (fun e w'' h=>⟨h.1,hw'.trans (h.2.mono hw'.size)⟩)) ?_;iterate 5 (refine qz ?_)
 refine wpQuiet_nil ?_;intro w3 hw3;go_wp2;go_ret2;exact⟨ah,hw3⟩
def aP:Prop:=∀{w:World}{db:Nat}{o:ar}{d:Dsk},cK w db o d->∀(name:Name),name.size<=1000->∀(off:Nat),off<=1099511627776->∀(sv:Value)(bs:List UInt8),Rd w sv bs->bs.length<=1099511627776->(∀b,sv.ownBlock=some b->o b=none) ->
    Calls prog 230 #[ptrTo db,.string name,.int .i64 (off:Int),sv] w fun e w'=>e=.returned (.int .i64 ((d.write name off bs).2:Int))/\cz w db o (d.write name off bs).1 w'
theorem cz.after{w w1 w2:World}{db:Nat}{o:ar}{d:Dsk}(hb:Below w.heap.size w w1)(h:cz w1 db o d w2):cz w db o d w2:=by
 obtain⟨o',h1,h2,h3⟩:=h;exact⟨o',h1,(aH.aW hb).trans h2 (fun _ _ hx=>hx),fun x hx=>h3 x (Nat.lt_of_lt_of_le hx hb.size)⟩
theorem cz.then{w w1 w2:World}{db:Nat}{o:ar}{d:Dsk}(h:cz w db o d w1)(hb:Below w1.heap.size w1 w2):cz w db o d w2:=by
 obtain⟨o',h1,h2,h3⟩:=h;exact⟨o',h1.below hb,h2.bN hb,h3⟩
theorem Eo{w:World}{db:Nat}{o:ar}{d:Dsk}(h:cK w db o d)(name:Name)(hs:name.size<=1000) :
 Calls prog 105 #[ptrTo db,.string name] w fun e w'=>(∃v,e=.returned (.tuple #[v,.int .i64 ((d.create name).2:Int)]))/\cz w db o (d.create name).1 w':=by
 have aN:=aa (J3 h name hs);clear h;generalize (d.create name).1=d' at *;generalize (d.create name).2=c at *;unfold ptrTo at *;by_cases h0:c=0
 ·subst h0;go_enter func105,ntmps105;go_wp2_with fail;refine aN.o.mono ?_;rintro e w1⟨rfl,hp⟩;go_wp2_with fail;refine(GD db name _ hs).mono ?_;rintro e w2⟨pf,rfl,-,hb,-⟩;unfold ptrTo;go_wp2;go_ret2;exact⟨⟨_,rfl⟩,hp.then hb⟩
 ·have h0':¬(c:Int)=0:=by omega
  clear h0;go_enter func105,ntmps105;go_wp2_with fail;refine aN.o.mono ?_;rintro e w1⟨rfl,hp⟩;go_wp2;go_ret2;exact⟨⟨_,rfl⟩,hp⟩
theorem NG{w:World}{db pf:Nat}{o:ar}{d:Dsk}{name:Name}(h:cK w db o d)(hp:nx w pf db name)(hs:name.size<=1000)(k n:Nat)(b:Pg)(hz:d.sizeOf name=(n,0))(hk:k<n/256)(hn:n<=16777216)(hr:d.read name (256*k) 256=(dx (ji name) k b,0))(hb:b.length<=240) :
 Calls prog 196 #[ptrTo pf,.int .i64 (k:Int)] w (sQ w b):=by
 have aN:=aa (qB h hp hs);rw[hz]at aN;have H:=aa h;have HP:=aa hp;have UI:=Gs name;have gU:Hid (∀W,cK W db o d->Calls prog 237 #[ptrTo db,.string name,.int .i64 ((k:Int)*256),.int .i64 256] W (Gl W (dx (ji name) k b,0))):=aa (fun W hW=>by
  have:=Qq hW name hs (256*k) 256 ae;rw[hr,show((256*k:Nat):Int)=(k:Int)*256 by omega]at this;exact this)
 have YJ:=aa (Ed (ji name) k b hb UI ae);clear h hp hz hr;unfold ptrTo at *;generalize hT:ji name=tag at *;have HT:=aa hT;clear hT;generalize dx tag k b=p at *;obtain⟨q,hq⟩:∃q,q=n/256:=⟨_,rfl⟩;rw[<- hq]at hk aN;have hqb:q<=65536:=by omega
 clear hq hn;dsimp only at aN;have BX:¬((k:Int) >= (q:Int)):=by omega
 go_enter func196,ntmps196;go_wp2_with fail;refine aN.o.mono ?_;rintro e w1⟨rfl,hb1⟩;have H1:=aa (H.o.below hb1);have Kc:=aa (HP.o.below hb1);have cT:=aa hb1;clear hb1;obtain⟨hc0,hc1,hc2⟩:=Kc.o.cells;unfold ptrTo at hc0;go_wp2;have QN:IntKind.i64.wrap ((k:Int)*256)=(k:Int)*256:=ax ae ae;refine cG (Below w1.heap.size w1) 10 rfl ag ag (aj.drew) ?_;simp only[List.take_succ_cons,List.take_zero];iterate 3 (refine qz ?_)
 refine qz ?_ (fun w' hw'=>by have hc:=(Kc.o.below hw').cells.1;unfold ptrTo at hc;go_simp<;>rfl);iterate 3 (refine qz ?_)
 refine qz ?_ (fun w' hw'=>by have hc:=(Kc.o.below hw').cells.2.1;go_simp<;>rfl);iterate 2 (refine qz ?_)
 refine wpQuiet_nil ?_;intro w2 hw2;refine⟨_,_,rfl,(by go_simp<;>exact⟨rfl,rfl⟩),?_⟩;refine(gU.o _ (H1.o.below hw2)).mono ?_;rintro e w3⟨v3,rfl,iN,hb3⟩;obtain⟨a3,c3,rfl⟩:=az iN;refine⟨_,rfl,?_⟩;go_simp;iterate 5 (refine qz ?_)
 refine wpQuiet_nil ?_;have cZ:Hid (Below w.heap.size w w2):=aa (cT.o.trans (hw2.mono cT.o.size));have jF:Hid (Below w.heap.size w w3):=aa (cZ.o.trans (hb3.mono cZ.o.size));have mG:=aa iN;have hc3:w3.cell? ⟨pf,2,none⟩=some (.int .u32 (tag:Int)):=by
  have:=((Kc.o.below hw2).below hb3).cells.2.2;rw[HT.o]at this;exact this
 have Ym:k<4294967296:=by omega
 clear hw2 hb3 iN hc0 hc1 hc2 QN;go_wp2_with fail;refine(Qh tag k _ b p _ (fw mG.o) YJ.o hb UI ae).mono ?_;rintro e w4⟨v4,rfl,Bw,hb4⟩;go_wp2;go_ret2;exact⟨v4,rfl,aU Bw jF.o.size,jF.o.trans (hb4.mono jF.o.size)⟩
theorem Ep(d:Dsk)(name:Name)(k:Nat)(b:Pg)(n c:Nat)(h:d.sizeOf name=(n,c)):dD d name k b=if c≠0 then (d,c) else if n/256<k then (d,1) else d.write name (256*k) (dx (ji name) k b):=by
 unfold dD;rw[h]
theorem GF(HW:aP){w:World}{db pf:Nat}{o:ar}{d:Dsk}{name:Name}(h:cK w db o d)(hp:nx w pf db name)(hs:name.size<=1000)(k:Nat)(hk:k<65536)(sv:Value)(b:Pg)(hb:b.length<=240)(hv:Rd w sv b) :
 Calls prog 182 #[ptrTo pf,.int .i64 (k:Int),sv] w fun e w'=>e=.returned (.int .i64 ((dD d name k b).2:Int))/\cz w db o (dD d name k b).1 w':=by
 have aN:=aa (qB h hp hs);obtain⟨hn,hc6⟩:=jR h name;obtain⟨n,c,hz⟩:∃n c,d.sizeOf name=(n,c):=⟨_,_,rfl⟩;have YK:=aa (Ep d name k b n c hz);rw[hz]at aN hn hc6;have H:=aa h;have HP:=aa hp;have HV:=aa hv;obtain⟨a0,c0,rfl,-⟩:=hv;have UI:=Gs name;have gU:Hid (∀W sv p,p.length=256->cK W db o d->Rd W sv p->(∀b,sv.ownBlock=some b->o b=none)->Calls prog 230 #[ptrTo db,.string name,.int .i64 ((k:Int)*256),sv] W fun e w'=>e=.returned (.int .i64 ((d.write name (256*k) p).2:Int))/\cz W db o (d.write name (256*k) p).1 w'):=aa (fun W sv p hp hW hv Nz=>by
  have:=HW hW name hs (256*k) ae sv p hv ae Nz;rw[show((256*k:Nat):Int)=(k:Int)*256 by omega]at this;exact this)
 have BV:=aa (dU (ji name) k b hb);clear h hp hz;unfold ptrTo at *;generalize hT:ji name=tag at *;have HT:=aa hT;clear hT;obtain⟨q,hq⟩:∃q,q=n/256:=⟨_,rfl⟩;rw[<- hq]at aN YK;have hqb:q<=65536:=by omega
 clear hq hn;dsimp only at aN hc6;by_cases h0:c=0
 ·subst h0;by_cases hkq:q<k
  ·have hr:dD d name k b=(d,1):=by rw[YK.o,if_neg ah,if_pos hkq]
   have HR:=aa hr;clear hr YK BV;go_enter func182,ntmps182;go_wp2_with fail;refine aN.o.mono ?_;rintro e w1⟨rfl,hb1⟩;go_wp2;go_ret;rw[HR.o];exact⟨rfl,.of (H.o.below hb1) (aH.aW hb1)⟩
  ·have hr:dD d name k b=d.write name (256*k) (dx tag k b):=by rw[YK.o,if_neg ah,if_neg hkq]
   have HR:=aa hr;have Ym:k<4294967296:=by omega
   clear hr YK;go_enter func182,ntmps182;go_wp2_with fail;refine aN.o.mono ?_;rintro e w1⟨rfl,hb1⟩;have cT:=aa hb1;have hc2:=(HP.o.below hb1).cells.2.2;rw[HT.o]at hc2;clear hb1;go_wp2_with fail;refine(Qf tag k _ b _ (HV.o.below cT.o) hb UI ae).mono ?_;rintro e w2⟨v2,rfl,kr,hb2⟩;have cZ:Hid (Below w.heap.size w w2):=aa (cT.o.trans (hb2.mono cT.o.size));have qd:=aa (aU kr cT.o.size);have pU:=aa (HP.o.below cZ.o);generalize hP:dx tag k b=p at *;obtain⟨a2,c2,rfl⟩:=az kr;clear hP kr hb2 hc2;go_wp2;have QN:IntKind.i64.wrap ((k:Int)*256)=(k:Int)*256:=ax ae ae;refine cG (Below w2.heap.size w2) 11 rfl ag ag (aj.drew) ?_;simp only[List.take_succ_cons,List.take_zero];iterate 3 (refine qz ?_)
   refine qz ?_ (fun w' hw'=>by have hc:=(pU.o.below hw').cells.1;unfold ptrTo at hc;go_simp<;>rfl);iterate 3 (refine qz ?_)
   refine qz ?_ (fun w' hw'=>by have hc:=(pU.o.below hw').cells.2.1;go_simp<;>rfl);iterate 3 (refine qz ?_)
   refine wpQuiet_nil ?_;intro w3 hw3;refine⟨_,_,rfl,(by go_simp<;>exact⟨rfl,rfl⟩),?_⟩;have jF:Hid (Below w.heap.size w w3):=aa (cZ.o.trans (hw3.mono cZ.o.size));have mG:Hid (w3.ownsRow w.heap.size 5 1 (.slice a2 p.length c2) p.length (p.map bv)):=aa (aU (aV qd.o hw3) (Nat.le_refl _));clear hw3 QN;refine(gU.o _ _ p BV.o (H.o.below jF.o) (fw mG.o) (fun b hb=>eP (fun x t hx=>by
    obtain⟨_,_,_,hd⟩:=H.o;exact hd.owned x t hx) (aL mG.o b hb).2)).mono ?_
   rintro e w4⟨rfl,oW⟩;have tO:=aa (cz.after jF.o oW);clear oW;refine⟨_,rfl,?_⟩;go_simp;refine qz ?_;refine wpQuiet_nil ?_;go_wp2;go_ret;rw[HR.o];exact⟨rfl,tO.o⟩
 ·have h0':¬(c:Int)=0:=by omega
  have hr:dD d name k b=(d,c):=by rw[YK.o,if_pos h0]
  have HR:=aa hr;clear hr YK h0 BV;go_enter func182,ntmps182;go_wp2_with fail;refine aN.o.mono ?_;rintro e w1⟨rfl,hb1⟩;go_wp2;go_ret;rw[HR.o];exact⟨rfl,.of (H.o.below hb1) (aH.aW hb1)⟩
theorem Kd{w:World}{db pf:Nat}{o:ar}{d:Dsk}{name:Name}(h:cK w db o d)(hp:nx w pf db name)(hs:name.size<=1000) :
 Calls prog 122 #[ptrTo pf] w fun e w'=>e=.returned (.int .i64 ((d.sync name).2:Int))/\cz w db o (d.sync name).1 w':=by
 have H:=aa h;have HP:=aa hp;have aN:Hid (∀W,cK W db o d->Calls prog 185 #[ptrTo db,.string name] W fun e w'=>e=.returned (.int .i64 ((d.sync name).2:Int))/\cz W db o (d.sync name).1 w'):=aa (fun W hW=>Qn hW name hs);clear h hp;unfold ptrTo at *;generalize (d.sync name).1=d' at *;generalize (d.sync name).2=c at *;go_enter func122,ntmps122;go_wp2;refine cG (Below w.heap.size w) 8 rfl ag ag (aj.drew) ?_;simp only[List.take_succ_cons,List.take_zero];iterate 3 (refine qz ?_)
 refine qz ?_ (fun w' hw'=>by have hc:=(HP.o.below hw').cells.1;unfold ptrTo at hc;go_simp<;>rfl);iterate 3 (refine qz ?_)
 refine qz ?_ (fun w' hw'=>by have hc:=(HP.o.below hw').cells.2.1;go_simp<;>rfl);refine wpQuiet_nil ?_;intro w3 hw3;refine⟨_,_,rfl,(by go_simp<;>exact⟨rfl,rfl⟩),?_⟩;refine(aN.o _ (H.o.below hw3)).mono ?_;rintro e w4⟨rfl,oW⟩;have tO:=aa (cz.after hw3 oW);clear oW hw3;refine⟨_,rfl,?_⟩;go_simp;refine qz ?_;refine wpQuiet_nil ?_;go_wp2;go_ret;exact⟨rfl,tO.o⟩
theorem dK.seven{w:World}{fb:Nat}{l:List iD}(h:dK w fb l){k:Nat}{v:Value}{f:bZ}(hi:l[k]? = some (v,f)) :
 w.cell? ⟨fb,k*7,none⟩=some (.bool f.full)/\w.cell? ⟨fb,k*7+1,none⟩=some (.string f.name)/\w.cell? ⟨fb,k*7+2,none⟩=some (.int .i64 (f.k:Int))/\w.cell? ⟨fb,k*7+3,none⟩=some v /\
  w.cell? ⟨fb,k*7+4,none⟩=some (.int .i64 0)/\w.cell? ⟨fb,k*7+5,none⟩=some (.bool f.bS)/\w.cell? ⟨fb,k*7+6,none⟩=some (.bool f.used):=by
 rw[Nat.mul_comm k 7];exact⟨h.cell (j:=0) hi rfl,h.cell (j:=1) hi rfl,h.cell (j:=2) hi rfl,h.cell (j:=3) hi rfl,h.cell (j:=4) hi rfl,h.cell (j:=5) hi rfl,h.cell (j:=6) hi rfl⟩
def Shaped(l:List iD):Prop:=∀p∈l,∃a c,p.1=.slice a p.2.bytes.length c
theorem br.shaped{w:World}{pb db fb mb:Nat}{o:ar}{l:List iD}{hand mf:Nat}{d:Dsk}(h:br w pb db fb mb o l hand mf d):Shaped l:=fun p hp=>az (h.each p hp).1
theorem Shaped.get{l:List iD}(h:Shaped l){n k:Nat}(hn:l.length=n)(hk:k<n):∃a c f,l[k]? = some (.slice a f.bytes.length c,f):=by
 have yE:k<l.length:=by omega
 obtain⟨a,c,e⟩:=h l[k] (List.getElem_mem yE);exact⟨a,c,l[k].2,by rw[List.getElem?_eq_getElem yE,<- e]⟩
theorem dK.below{w w':World}{fb:Nat}{l:List iD}(h:dK w fb l)(hb:Below w.heap.size w w'):dK w' fb l:=h.kept (S:=fun _=>False) (aH.aW hb) (fun h=>h)
def QO(n:Nat)(w:World)(e:Ending)(w':World):Prop:=∃r dd:Nat,r<=n/\e=.returned (.tuple #[.int .i64 (r:Int),.int .i64 0,.int .i64 (dd:Int)])/\Below w.heap.size w w'
theorem QP{w:World}{pb db fb mb:Nat}{o:ar}{l:List iD}{hand mf:Nat}{d:Dsk}(h:br w pb db fb mb o l hand mf d) :
 Calls prog 281 #[ptrTo pb] w (QO l.length w):=by
 have vT:=aa h.row;have hn:=h.most;have HS:=aa h.shaped;obtain⟨⟨-,hc1,-⟩,-⟩:=h.head.cells;clear h;generalize hN:l.length=n at *;have HN:=aa hN;clear hN;unfold ptrTo;go_enter func281,ntmps281;go_wp2;go_loopw [2,3,4,14] (fun a b c i wr=>∃k r dd:Nat,k<=n/\r<=k/\dd<=k/\a=.int .i64 (r:Int)/\b=.int .i64 0/\c=.int .i64 (dd:Int)/\i=.int .i64 (k:Int)/\Below w.heap.size w wr) (fun _ _ _ i _=>n-(intOf i).toNat)
 case atStart=>exact⟨0,0,0,ae,ae,ae,rfl,rfl,rfl,rfl,Below.refl _ _⟩
 case round=>
  obtain⟨k,r,dd,hk,hr,hd,rfl,rfl,rfl,rfl,hb⟩:=hrel;by_cases hlt:k<n
  ·obtain⟨a,c,f,hi⟩:=HS.o.get HN.o hlt;obtain⟨h0,h1,h2,h3,h4,h5,h6⟩:=(vT.o.below hb).seven hi;have zC:wr.cell? ⟨pb,1,none⟩=some (.slice (some ⟨fb,0,none⟩) n n):=by rw[hb.cell (p:=⟨pb,1,none⟩) (World.block_lt_of_cell? _ _ hc1)];exact hc1
   have HB:=aa hb;clear hi hb;cases fy:f.full<;>cases fV:f.bS<;>rw[fy]at h0<;>rw[fV]at h5<;>clear fy fV;all_goals
    go_wp2;go_roundw
    case rel=>first
     |exact⟨k+1,r,dd,ae,ae,ae,rfl,rfl,rfl,by go_num,HB.o.alloc HB.o.size _⟩
     |exact⟨k+1,r+1,dd,ae,ae,ae,by go_num,rfl,rfl,by go_num,HB.o.alloc HB.o.size _⟩
     |exact⟨k+1,r,dd+1,ae,ae,ae,rfl,rfl,by go_num,by go_num,HB.o.alloc HB.o.size _⟩
     |exact⟨k+1,r+1,dd+1,ae,ae,ae,by go_num,rfl,by go_num,by go_num,HB.o.alloc HB.o.size _⟩
    case measure=>simp[intOf];omega
  ·obtain rfl:k=n:=by omega
   go_wp2;go_ret3
   exact⟨r,dd,hr,rfl,hb⟩
theorem QQ{w:World}{pb db fb mb:Nat}{o:ar}{l:List iD}{hand mf:Nat}{d:Dsk}(h:br w pb db fb mb o l hand mf d) :
 Calls prog 240 #[ptrTo pb] w fun e w'=>e=.returned (.tuple #[])/\(∃YL,br w' pb db fb mb o l hand YL d)/\aH (·=pb) w w':=by
 have aN:=aa (QP h);have H:=aa h;have Yt:=h.full;have hn:=h.most;clear h;unfold ptrTo at *;go_enter func240,ntmps240;go_wp2_with fail;refine aN.o.mono ?_;rintro e w1⟨r,dd,hr,rfl,hb⟩;have H1:=aa (H.o.below hb);obtain⟨⟨-,-,-,-,ik,BC⟩,-,C9,hf5⟩:=H1.o.head.cells;have HB:=aa hb;clear hb;have Nx:=aa H1.o.head.lt;obtain⟨m,hm⟩:∃m:Nat,m=max mf r:=⟨_,rfl⟩;have BV:m<=l.length:=by omega
 have HM:=aa hm;clear hm;go_wp2_with (refine nw rfl _ _ _ _ rfl mf r rfl rfl rfl rfl ?_;intro E hE;rw[<- HM.o]at hE;subst hE);go_end0
 exact⟨rfl,⟨E,H1.o.vI (((aH.refl (·=pb) w1).setCell _ _ (.inl rfl)).setCell _ _ (.inl rfl)) ((H1.o.head.UG E).UH) H1.o.hand BV⟩,(((aH.aW (S:=(·=pb)) HB.o).setCell ⟨pb,4,none⟩ _ (.inl rfl)).setCell ⟨pb,5,none⟩ _ (.inl rfl))⟩
theorem map_set{l:List iD}{i:Nat}{q:iD}:(l.set i q).map (·.2)=(l.map (·.2)).set i q.2:=by simp
theorem cu{l:List iD}{i:Nat}{p:iD}(h:l[i]? = some p):(l.map (·.2))[i]? = some p.2:=by grind
theorem fX.del{fs:List bZ}{m:List ((Name×Nat)×Nat)}(h:fX fs m){i:Nat}{fr:bZ}(hi:fs[i]? = some fr)(hf:fr.full=true):fX (fs.set i bZ.none) (b8 m (fr.name,fr.k)):=by
 intro n k j;rw[cP,fc (aM hi)];have hme:=(h fr.name fr.k i).2 ⟨fr,hi,hf,rfl,rfl⟩;constructor
 ·intro hj;by_cases e:(n,k)=(fr.name,fr.k)
  ·grind
  ·rw[if_neg e]at hj;obtain⟨fj,h1,h2,h3,h4⟩:=(h n k j).1 hj;grind
 ·rintro⟨fj,h1,h2,h3,h4⟩;by_cases hne:j=i
  ·rw[if_pos hne]at h1;cases h1;cases h2
  ·rw[if_neg hne]at h1;have hj:=(h n k j).2 ⟨fj,h1,h2,h3,h4⟩;grind
theorem fX.put{fs:List bZ}{m:List ((Name×Nat)×Nat)}(h:fX fs m){i:Nat}{fr x:bZ}(hi:fs[i]? = some fr)(hf:fr.full=false)(hx:x.full=true)(hn:aB m (x.name,x.k)=none):fX (fs.set i x) (aS m (x.name,x.k) i):=by
 intro n k j;rw[ay,fc (aM hi)];constructor
 ·intro hj;by_cases e:(n,k)=(x.name,x.k)
  ·grind
  ·rw[if_neg e]at hj;obtain⟨fj,h1,h2,h3,h4⟩:=(h n k j).1 hj;grind
 ·rintro⟨fj,h1,h2,h3,h4⟩;by_cases hne:j=i
  ·grind
  ·rw[if_neg hne]at h1;have hj:=(h n k j).2 ⟨fj,h1,h2,h3,h4⟩;grind
theorem fX.same{fs:List bZ}{m:List ((Name×Nat)×Nat)}(h:fX fs m){i:Nat}{fr x:bZ}(hi:fs[i]? = some fr)(h1:x.full=fr.full)(h2:x.name=fr.name)(h3:x.k=fr.k):fX (fs.set i x) m:=by
 intro n k j;rw[h n k j,fc (aM hi)];grind
theorem dK.Mv{w:World}{fb:Nat}{l:List iD}(h:dK w fb l){i:Nat}(hi:i<l.length)(q:iD):dK (w.setCells fb (i*7) (bJ q.1 q.2)) fb (l.set i q):=by
 grind [YH]
theorem br.tW{w w':World}{pb db fb mb:Nat}{o o':ar}{l:List iD}{hand mf:Nat}{d:Dsk}(h:br w pb db fb mb o l hand mf d){i:Nat}{q:iD}(hr:dK w' fb (l.set i q))(ht:aH (fun x=>x=fb\/x=mb) w w')(ho:∀x t,o x=some t->o' x=some t)(hb:∀x t,o' x=some t->x<w'.heap.size)(hm:∃m,jl w' mb m/\fX ((l.map (·.2)).set i q.2) m)(hq:w'.ownsRow 0 5 1 q.1 q.2.bytes.length (q.2.bytes.map bv)/\∀b,q.1.ownBlock=some b->o' b=some (9,0)) :
 br w' pb db fb mb o' (l.set i q) hand mf d:=
 h.ach ht (List.length_set) hr ho hb (by simp_all) (fun p hp=>by
  grind)
theorem vU{w:World}{pb db fb mb:Nat}{o:ar}{l:List iD}{hand mf:Nat}{d:Dsk}(h:br w pb db fb mb o l hand mf d){i:Nat}{v:Value}{f:bZ}(hi:l[i]? = some (v,f))(hf:f.full=true)(hs:f.name.size<=1000)(hk:f.k<9223372036854775808) :
 Calls prog 95 #[ptrTo pb,.int .i64 (i:Int)] w fun e w'=>e=.returned (.tuple #[])/\br w' pb db fb mb o (l.set i (.slice none 0 0,bZ.none)) hand mf d/\aH (fun x=>x=fb\/x=mb) w w':=by
 have H:=aa h;have HI:=aa hi;have kB:i<l.length:=aM hi;have vT:=aa h.row;obtain⟨⟨-,hc1,hc2,-⟩,-⟩:=h.head.cells;obtain⟨h0,h1,h2,h3,h4,h5,h6⟩:=h.row.seven hi;obtain⟨m,ee,cQ⟩:=h.tV;have eu:=aa ee;have eB:=aa cQ;have hg:=aa (ry (s:=f.name) (n:=f.k) (by grind [maxLen]) hk);have HF:=aa hf;clear h hi ee cQ h0 h3 h4 h5 h6 hf;unfold ptrTo;generalize hN:l.length=n at *;have HN:=aa hN;clear hN;go_enter func95,ntmps95;go_wp2;go_still_tail 12,(by rfl)
 refine sN _ rfl _ _ _ rfl 3 jQ fG Tryz.underlying148 mb m rfl eu.o (f.name,f.k) rfl hg.o ?_;intro es clock hm;have hT:aH (·=mb) w (setBlock { w with drawn:=w.drawn+1 } mb (.map es clock)):=(aH.refl (·=mb) w).drew.setBlock mb _ (.inl rfl);have eC:=aa hm;have rp:=aa hT;clear hm hT;generalize setBlock { w with drawn:=w.drawn+1 } mb (.map es clock)=w3 at *;have BD:=aa (vT.o.kept rp.o (ar.ne H.o.r7 H.o.oq af));have zC:w3.cell? ⟨pb,1,none⟩=some (.slice (some ⟨fb,0,none⟩) n n):=rp.o.cell hc1 (ar.ne H.o.yF H.o.oq af);clear hc1 hc2 h1 h2;obtain⟨k0,k1,k2,k3,k4,k5,k6⟩:=BD.o.seven HI.o;have kz:∀j,w3.frozen? ⟨fb,j,none⟩=false:=BD.o.free;go_wp2;go_end0
 have hrow:dK (w3.setCells fb (i*7) (bJ (.slice none 0 0) bZ.none)) fb (l.set i (.slice none 0 0,bZ.none)):=BD.o.Mv (by grind [Hid.out]) (.slice none 0 0,bZ.none);have hturn:aH (fun x=>x=fb\/x=mb) w (w3.setCells fb (i*7) (bJ (.slice none 0 0) bZ.none)):=(rp.o.mono (fun x _ e=>.inr e)).setCells fb _ _ (.inl (.inl rfl));have hmap:jl (w3.setCells fb (i*7) (bJ (.slice none 0 0) bZ.none)) mb (b8 m (f.name,f.k)):=eC.o.turn ((aH.refl (·=fb) w3).setCells fb _ _ (.inl rfl)) (ar.ne H.o.oq H.o.r7 af);exact⟨rfl,H.o.tW hrow hturn (fun _ _ h=>h) (fun x t hx=>Nat.lt_of_lt_of_le (H.o.owned x t hx) hturn.size) ⟨_,hmap,eB.o.del (cu HI.o) HF.o⟩ ⟨ownsRow_nil _ _ _,fun b hb=>by grind [Value.ownBlock]⟩,hturn⟩
theorem dK.drew{w:World}{fb:Nat}{l:List iD}(h:dK w fb l):dK w.drew fb l:=h
theorem fX.none{fs:List bZ}{m:List ((Name×Nat)×Nat)}(h:fX fs m){n:Name}{k:Nat}(hn:∀(j:Nat)(fj:bZ),fs[j]? = some fj->fj.full=true->fj.name=n->fj.k=k->False):aB m (n,k)=none:=by
 cases e:aB m (n,k) with
 |none=>rfl
 |some j=>
   obtain⟨fj,h1,h2,h3,h4⟩:=(h n k j).1 e;grind
theorem GG{w:World}{pb db fb mb:Nat}{o:ar}{l:List iD}{hand mf:Nat}{d:Dsk}(h:br w pb db fb mb o l hand mf d){i:Nat}{p:iD}(hi:l[i]? = some p)(hf:p.2.full=false)(f:bZ){a:Option Addr}{c base:Nat}(hv:w.ownsRow base 5 1 (.slice a f.bytes.length c) f.bytes.length (f.bytes.map bv))(my:∀b,(Value.slice a f.bytes.length c).ownBlock=some b->o b=none)(zN:∀(j:Nat)(fj:bZ),(l.map (·.2))[j]? = some fj->fj.full=true->fj.name=f.name->fj.k=f.k->False)(hs:f.name.size<=1000)(hk:f.k<9223372036854775808)(b0:Bool) :
 Calls prog 198 #[ptrTo pb,.int .i64 (i:Int),.agg #[.bool b0,.string f.name,.int .i64 (f.k:Int),.slice a f.bytes.length c,.int .i64 0,.bool f.bS,.bool f.used]] w fun e w'=>e=.returned (.tuple #[]) /\
  (∃YL,br w' pb db fb mb (o.put (.slice a f.bytes.length c) (9,0)) (l.set i (.slice a f.bytes.length c,{ f with full:=true })) hand YL d)/\aH (fun x=>x=fb\/x=mb\/x=pb) w w':=by
 have H:=aa h;have HI:=aa hi;have kB:i<l.length:=aM hi;have vT:=aa h.row;obtain⟨⟨-,hc1,hc2,-⟩,-⟩:=h.head.cells;obtain⟨m,ee,cQ⟩:=h.tV;have eu:=aa ee;have eB:=aa cQ;have HV:=aa hv;have vV:=aa my;have YM:=aa zN;have hg:=aa (ry (s:=f.name) (n:=f.k) (by grind [maxLen]) hk);have HF:=aa hf;have HOW:=aa h.owned;have NH:=h.head.lt;have ahp:=h.row.lt;have ahq:=ee.lt;have zE:pb≠fb:=ar.ne h.yF h.r7 af;have j7:pb≠mb:=ar.ne h.yF h.oq af;have PJ:mb≠fb:=ar.ne h.oq h.r7 af;have Kc:=aa zE;have HP3:=aa PJ;clear h hi ee cQ hf hv my zN zE j7 PJ;unfold ptrTo;generalize hN:l.length=n at *;have HN:=aa hN;clear hN;go_enter func198,ntmps198;go_wp2;have rS:Below w.heap.size w (w.alloc (.cells #[.bool true,.string f.name,.int .i64 (f.k:Int),.slice a f.bytes.length c,.int .i64 0,.bool f.bS,.bool f.used] 172)):=aj.alloc (Nat.le_refl _) _;have hx:=heap_alloc_new w (.cells #[.bool true,.string f.name,.int .i64 (f.k:Int),.slice a f.bytes.length c,.int .i64 0,.bool f.bS,.bool f.used] 172);generalize w.alloc (.cells #[.bool true,.string f.name,.int .i64 (f.k:Int),.slice a f.bytes.length c,.int .i64 0,.bool f.bS,.bool f.used] 172)=W1 at *;obtain⟨bx,FO⟩:∃bx,bx=w.heap.size:=⟨_,rfl⟩;rw[<- FO]at hx;have hxf:bx≠fb:=by omega
 have hxm:bx≠mb:=by omega
 have PK:bx≠pb:=by omega
 have x0:W1.cell? ⟨bx,0,none⟩=some (.bool true):=by rw[aq hx];rfl
 have x1:W1.cell? ⟨bx,1,none⟩=some (.string f.name):=by rw[aq hx];rfl
 have x2:W1.cell? ⟨bx,2,none⟩=some (.int .i64 (f.k:Int)):=by rw[aq hx];rfl
 have x3:W1.cell? ⟨bx,3,none⟩=some (.slice a f.bytes.length c):=by rw[aq hx];rfl
 have x4:W1.cell? ⟨bx,4,none⟩=some (.int .i64 0):=by rw[aq hx];rfl
 have x5:W1.cell? ⟨bx,5,none⟩=some (.bool f.bS):=by rw[aq hx];rfl
 have x6:W1.cell? ⟨bx,6,none⟩=some (.bool f.used):=by rw[aq hx];rfl
 have cT:=aa rS;have ny:=aa (vT.o.below rS);have nu:W1.cell? ⟨pb,1,none⟩=some (.slice (some ⟨fb,0,none⟩) n n):=by grind [Below.cell]
 have Mw:W1.cell? ⟨pb,2,none⟩=some (.map (some mb)):=by grind [Below.cell]
 rw[<- FO];have UJ:=aa hxf;obtain⟨q,hq⟩:∃q:iD,l[i]? = some q:=⟨_,HI.o⟩;obtain⟨qv,qf⟩:=q;obtain⟨k0,k1,k2,k3,k4,k5,k6⟩:=ny.o.seven hq;have kz:∀j,W1.frozen? ⟨fb,j,none⟩=false:=ny.o.free;clear hx rS FO hxf hxm PK hc1 hc2 hq;go_still_tail 7,(by rfl)
 go_wp2;change Code.wp _ _ _ _ (World.drew (World.setCells W1 fb (i*7) (bJ (.slice a f.bytes.length c) { f with full:=true })));have hrow:dK (World.drew (W1.setCells fb (i*7) (bJ (.slice a f.bytes.length c) { f with full:=true }))) fb (l.set i (.slice a f.bytes.length c,{ f with full:=true })):=(ny.o.Mv (by grind [Hid.out]) (.slice a f.bytes.length c,{ f with full:=true })).drew;have mB:aH (·=fb) W1 (World.drew (W1.setCells fb (i*7) (bJ (.slice a f.bytes.length c) { f with full:=true }))):=((aH.refl (·=fb) W1).setCells fb _ _ (.inl rfl)).drew;generalize World.drew (W1.setCells fb (i*7) (bJ (.slice a f.bytes.length c) { f with full:=true }))=W2 at *;have e2:W2.cell? ⟨pb,2,none⟩=some (.map (some mb)):=mB.cell Mw Kc.o;have y1:W2.cell? ⟨bx,1,none⟩=some (.string f.name):=mB.cell x1 UJ.o;have y2:W2.cell? ⟨bx,2,none⟩=some (.int .i64 (f.k:Int)):=mB.cell x2 UJ.o;have Ke:Hid (jl W2 mb m):=aa ((eu.o.kept (cT.o.block mb ahq)).turn mB HP3.o);have HRW:=aa hrow;have nQ:Hid (aH (fun x=>x=fb\/x=mb) w W2):=aa ((aH.aW cT.o).trans mB (fun x _ e=>.inl e));have T7:Hid (W2.ownsRow 0 5 1 (.slice a f.bytes.length c) f.bytes.length (f.bytes.map bv)):=aa (mB.ownsRow (aU (aV HV.o cT.o) (Nat.zero_le _)) (fun b hb e=>by
  have h1:=vV.o b hb;rw[e,H.o.r7]at h1;cases h1))
 clear hrow mB x0 x1 x2 x3 x4 x5 x6 k0 k1 k2 k3 k4 k5 k6 kz nu Mw;go_still_tail 7,(by rfl)
 refine eO _ rfl _ _ _ _ rfl 3 jQ fG Tryz.underlying148 mb m rfl Ke.o (f.name,f.k) i rfl rfl hg.o ?_;intro es clock hm;have hT:aH (·=mb) W2 (setBlock { W2 with drawn:=W2.drawn+1 } mb (.map es clock)):=(aH.refl (·=mb) W2).drew.setBlock mb _ (.inl rfl);have eC:=aa hm;have rp:=aa hT;clear hm hT;generalize setBlock { W2 with drawn:=W2.drawn+1 } mb (.map es clock)=W3 at *;have ve:Hid (aH (fun x=>x=fb\/x=mb) w W3):=aa (nQ.o.trans rp.o (fun x _ e=>.inr e));have HP:Hid (br W3 pb db fb mb (o.put (.slice a f.bytes.length c) (9,0)) (l.set i (.slice a f.bytes.length c,{ f with full:=true })) hand mf d):=aa (H.o.tW (HRW.o.kept rp.o (fun e=>HP3.o e.symm)) ve.o
  (ar.tM vV.o) (ar.vK (fun x t hx=>Nat.lt_of_lt_of_le (HOW.o x t hx) ve.o.size) (fun b hb=>Nat.lt_of_lt_of_le (aL T7.o b hb).1 rp.o.size))
  ⟨_,eC.o,eB.o.put (x:={ f with full:=true }) (cu HI.o) HF.o rfl (eB.o.none YM.o)⟩
  ⟨rp.o.ownsRow T7.o (fun b hb e=>by
   have h1:=vV.o b hb;rw[e,H.o.oq]at h1;cases h1),fun b hb=>ar.zD hb⟩)
 have aN:=aa (QQ HP.o);unfold ptrTo at aN;clear e2 y1 y2;go_wp2_with fail;refine aN.o.mono ?_;rintro e W4⟨rfl,⟨YL,oW⟩,tK⟩;have tO:=aa oW;have Eh:=aa tK;clear oW tK;go_wp2;go_end0
 exact⟨rfl,⟨YL,tO.o⟩,(ve.o.mono (fun x _ e=>e.elim .inl (fun e=>.inr (.inl e)))).trans Eh.o (fun x _ e=>.inr (.inr e))⟩
def zS(w:World)(db:Nat)(d:Dsk)(name:Name)(e:Ending)(w':World):Prop:=
 ∃(v:Value)(n:Nat),e=.returned (.tuple #[v,.int .i64 (n:Int),.int .i64 (cC d name:Int)])/\Below w.heap.size w w' /\
  (cC d name=0->n=(d.sizeOf name).1/256/\∃pf,v=ptrTo pf/\nx w' pf db name/\w.heap.size<=pf)
theorem GH{d:Dsk}{name:Name}(h:cC d name=0):(d.sizeOf name).2=0:=by
 unfold cC at h;split at h
 ·exact h
 ·rename_i h2;omega
theorem sV{w:World}{pb db fb mb:Nat}{o:ar}{l:List iD}{hand mf:Nat}{d:Dsk}(h:br w pb db fb mb o l hand mf d)(name:Name)(hs:name.size<=1000) :
 Calls prog 119 #[ptrTo pb,.string name] w (zS w db d name):=by
 have H:=aa h;obtain⟨⟨hc0,-⟩,-⟩:=h.head.cells;have aN:=aa (zR h.lS name hs);have hsz:=jR h.lS name;obtain⟨ahs,-⟩:=hsz;clear h;unfold ptrTo at *;by_cases hz:cC d name=0
 ·have hz2:=GH hz;have HZ:=aa hz;have HZ2:=aa hz2;rw[hz]at aN;clear hz hz2;go_enter func119,ntmps119;go_wp2_with fail;refine aN.o.mono ?_;rintro e w1⟨v,rfl,hb1,hy,-⟩;obtain⟨pf,rfl,hp,hl⟩:=hy rfl;have cT:=aa hb1;have HP:=aa hp;have gU:=aa (qB (H.o.below hb1).lS hp hs);rw[HZ2.o]at gU;have WZ:=aa (show pf=pf from rfl);clear hb1 hp hy;unfold ptrTo at *;generalize hq:(d.sizeOf name).1/256=q at *;have HQ:=aa hq;clear hq;go_wp2_with fail;refine gU.o.mono ?_;rintro e w2⟨rfl,hb2⟩;go_wp2;go_ret3
  refine⟨_,q,?_,cT.o.trans (hb2.mono cT.o.size),fun _=>⟨HQ.o.symm,pf,rfl,HP.o.below hb2,hl⟩⟩;rw[HZ.o];rfl
 ·have hz':¬(cC d name:Int)=0:=by omega
  have HZ:=aa hz;generalize hq:cC d name=q at *;have HQ:=aa hq;clear hz hq;go_enter func119,ntmps119;go_wp2_with fail;refine aN.o.mono ?_;rintro e w1⟨v,rfl,hb1,-,hy⟩;obtain rfl:=hy HZ.o;go_wp2;go_ret3
  exact⟨_,0,by rw[HQ.o];rfl,hb1,fun h=>absurd (HQ.o.symm.trans h) HZ.o⟩
theorem zT{w:World}{pb db fb mb:Nat}{o:ar}{l:List iD}{hand mf:Nat}{d:Dsk}(h:br w pb db fb mb o l hand mf d)(name:Name)(hs:name.size<=1000) :
 Calls prog 71 #[ptrTo pb,.string name] w fun e w'=>e=.returned (.int .i64 ((d.create name).2:Int))/\cz w db o (d.create name).1 w':=by
 obtain⟨⟨hc0,-⟩,-⟩:=h.head.cells;have aN:=aa (Eo h.lS name hs);clear h;unfold ptrTo at *;generalize (d.create name).1=d' at *;generalize (d.create name).2=c at *;go_enter func71,ntmps71;go_wp2_with fail;refine aN.o.mono ?_;rintro e w1⟨⟨v,rfl⟩,hp⟩;have HP:=aa hp;clear hp;go_wp2;go_ret;exact⟨rfl,HP.o⟩
def gQ(name:Name)(n:Nat)(f:bZ):Nat:=if f.full=true/\f.bS=true/\f.name=name then max n (f.k+1) else n
def eX(name:Name)(n0:Nat)(fs:List bZ):Nat:=fs.foldl (gQ name) n0
theorem Er(name:Name)(n0:Nat){fs:List bZ}{k:Nat}{f:bZ}(h:fs[k]? = some f):eX name n0 (fs.take (k+1))=gQ name (eX name n0 (fs.take k)) f:=by
 have hk:=aM h;have e:fs[k]=f:=by
  rw[List.getElem?_eq_getElem hk]at h;exact Option.some.inj h
 unfold eX;rw[List.take_succ_eq_append_getElem hk,List.foldl_append,e];rfl
theorem Kf(name:Name){B:Nat}(fs:List bZ)(h:∀f∈fs,f.k<B):∀n0,n0<=B->eX name n0 fs<=B:=by
 induction fs with
 |nil=>intro n0 hn;exact hn
 |cons f fs ih=>
   intro n0 hn;have hf:=h f ah;unfold eX at ih ⊢;rw[List.foldl_cons];refine ih (fun g hg=>h g (by simp[hg])) _ ?_;unfold gQ;split<;>omega
theorem qC{a b:ByteArray}(h:a≠b):(a.toList == b.toList)=false:=by
 cases e:(a.toList == b.toList) with
 |false=>rfl
 |true=>exact absurd (WideShapes.bytes_inj (by rw[<- ByteArray.toList_eq,<- ByteArray.toList_eq];exact eq_of_beq e)) h
theorem Dg{w:World}{pb db fb mb:Nat}{o:ar}{l:List iD}{hand mf:Nat}{d:Dsk}(h:br w pb db fb mb o l hand mf d)(hks:∀p∈l,p.2.k<65536)(name:Name)(hs:name.size<=1000) :
 Calls prog 92 #[ptrTo pb,.string name] w fun e w'=>e=.returned (.tuple #[.int .i64 ((if cC d name=0 then eX name ((d.sizeOf name).1/256) (l.map (·.2)) else 0:Nat):Int),.int .i64 (cC d name:Int)])/\Below w.heap.size w w':=by
 have H:=aa h;have vT:=aa h.row;have hn:=h.most;have HS:=aa h.shaped;have HKS:=aa hks;obtain⟨⟨-,hc1,-⟩,-⟩:=h.head.cells;have aN:=aa (sV h name hs);obtain⟨hsz,-⟩:=jR h.lS name;clear h hks;unfold ptrTo at *;generalize hN:l.length=n at *;have HN:=aa hN;clear hN;by_cases hz:cC d name=0
 ·rw[if_pos hz];have HZ:=aa hz;clear hz;go_enter func92,ntmps92;go_wp2_with fail;refine aN.o.mono ?_;rintro e w1⟨v,q,rfl,hb1,hy⟩;obtain⟨hq,pf,rfl,-,-⟩:=hy HZ.o;have Yw:q<=65536:=by omega
  have HQ:=aa hq;rw[HZ.o];have cT:=aa hb1;have nu:w1.cell? ⟨pb,1,none⟩=some (.slice (some ⟨fb,0,none⟩) n n):=by rw[hb1.cell (p:=⟨pb,1,none⟩) (World.block_lt_of_cell? _ _ hc1)];exact hc1
  have ny:=aa (vT.o.below hb1);clear hb1 hy hq hc1 aN;unfold ptrTo;have hbound:Hid (∀k,eX name q ((l.map (·.2)).take k)<=65536):=aa fun k=>Kf name _ (fun f hf=>by
   obtain⟨p,hp,rfl⟩:=List.mem_map.1 (List.mem_of_mem_take hf);exact HKS.o p hp) q Yw
  go_wp2;go_loopw [7,28] (fun a i wr=>∃k:Nat,k<=n/\i=.int .i64 (k:Int)/\a=.int .i64 ((eX name q ((l.map (·.2)).take k):Nat):Int)/\Below w1.heap.size w1 wr) (fun _ i _=>n-(intOf i).toNat)
  case atStart=>exact⟨0,Nat.zero_le _,rfl,rfl,Below.refl _ _⟩
  case round=>
   obtain⟨k,hk,rfl,rfl,hb⟩:=hrel;by_cases hlt:k<n
   ·obtain⟨a,c,f,hi⟩:=HS.o.get HN.o hlt;obtain⟨h0,h1,h2,h3,h4,h5,h6⟩:=(ny.o.below hb).seven hi;have UK:wr.cell? ⟨pb,1,none⟩=some (.slice (some ⟨fb,0,none⟩) n n):=by rw[hb.cell (p:=⟨pb,1,none⟩) (World.block_lt_of_cell? _ _ nu)];exact nu
    have UL:f.k<65536:=HKS.o _ (List.mem_of_getElem? hi);have HST:=aa (Er name q (cu hi));have YN:=hbound.o k;have HB:=aa hb;clear hi hb;obtain⟨t,ht⟩:∃t,t=eX name q ((l.map (·.2)).take k):=⟨_,rfl⟩;rw[<- ht]at HST YN ⊢;clear ht;obtain⟨full,nm,fk,bs,bS,used⟩:=f;dsimp only at *;by_cases vh:nm=name;case' pos=>have Xa:(nm.toList == name.toList)=true:=by rw[vh];exact beq_self_eq_true _
    case' neg=>have Xa:(nm.toList == name.toList)=false:=qC vh
    all_goals
     have GI:=aa vh;clear vh;cases full<;>cases bS
    all_goals
     go_wp2_with (refine nw rfl _ _ _ _ rfl t (fk+1) rfl rfl rfl rfl ?_;intro E hE;have HE:=aa hE;clear hE);go_roundw
     case rel=>
      refine⟨k+1,ae,by go_num,?_,HB.o.alloc HB.o.size _⟩;have vh:=GI.o;rw[HST.o];first
       | (simp[gQ];done)
       | (simp[gQ,vh];done)
       | (rw[HE.o];simp[gQ,vh];done)
     case measure=>simp[intOf];omega
   ·obtain rfl:k=n:=by omega
    go_wp2;go_ret2;refine⟨?_,cT.o.trans (hb.mono cT.o.size)⟩;rw[List.take_of_length_le (by rw[List.length_map,HN.o];exact Nat.le_refl _),HZ.o,<- HQ.o];rfl
 ·rw[if_neg hz];have hz':¬(cC d name:Int)=0:=by omega
  go_enter func92,ntmps92;go_wp2_with fail;refine aN.o.mono ?_;rintro e w1⟨v,q2,rfl,hb1,-⟩;go_wp2;go_ret2;exact⟨rfl,hb1⟩
end
end Go.Proofs.YthkkgdpomhhjjaaGreatDoor
namespace Go.Proofs
open Go.Shelf
def Tryz.tX:Go.Shelf.Ren:=⟨fun | 6=>183 | 15=>87 | 14=>231 | 28=>135 | 29=>136 | 20=>268 | 21=>269 | 22=>270 | 23=>271 | 24=>272 | 25=>273 | 26=>274 | 27=>275 | 46=>295 | 47=>192 | 48=>193 | 49=>296 | 50=>297 | 57=>314 | n=>n,fun | 22=>214 | 24=>3 | 25=>272 | 3=>3 | 39=>159 | 0=>0 | 53=>26 | 55=>62 | 4=>4 | 46=>221 | 45=>220 | 50=>225 | 5=>5 | 9=>9 | 66=>280 | 70=>284 | 76=>313 | 77=>98 | n=>n,fun | n=>n⟩
theorem Tryz.GJ:Go.Proofs.SlLaysF.n6 prog Tryz.tX:={
 mixed:=by kernel_rfl
 f6:=⟨Tryz.f183.name,af,func183.trans ak⟩
 f14:=⟨Tryz.f231.name,af,func231.trans ak⟩
 f15:=func87.trans ak
 f20:=⟨Tryz.f268.name,af,func268.trans ak⟩
 f21:=⟨Tryz.f269.name,af,func269.trans ak⟩
 f22:=⟨Tryz.f270.name,af,func270.trans ak⟩
 f23:=⟨Tryz.f271.name,af,func271.trans ak⟩
 f24:=⟨Tryz.f272.name,af,func272.trans ak⟩
 f25:=⟨Tryz.f273.name,af,func273.trans ak⟩
 f26:=⟨Tryz.f274.name,af,func274.trans ak⟩
 f27:=⟨Tryz.f275.name,af,func275.trans ak⟩
 f28:=func135.trans ak
 f29:=func136.trans ak
 f46:=⟨Tryz.f295.name,af,func295.trans ak⟩
 f47:=func192.trans ak
 f48:=func193.trans ak
 f49:=⟨Tryz.f296.name,af,func296.trans ak⟩
 f50:=⟨Tryz.f297.name,af,func297.trans ak⟩
 f57:=⟨Tryz.f314.name,af,func314.trans ak⟩
 t0:=Tryz.underlying0
 a0:=Tryz.isAgg0
 z0:=Tryz.sizeOf0
 v0:=Tryz.zeroValue0
 t3:=Tryz.underlying3
 a3:=Tryz.isAgg3
 z3:=Tryz.sizeOf3
 v3:=Tryz.zeroValue3
 t4:=Tryz.underlying4
 a4:=Tryz.isAgg4
 z4:=Tryz.sizeOf4
 v4:=Tryz.zeroValue4
 t5:=Tryz.underlying5
 a5:=Tryz.isAgg5
 z5:=Tryz.sizeOf5
 v5:=Tryz.zeroValue5
 t9:=Tryz.underlying9
 a9:=Tryz.isAgg9
 z9:=Tryz.sizeOf9
 v9:=Tryz.zeroValue9
 t22:=Tryz.underlying214
 a22:=Tryz.isAgg214
 z22:=Tryz.sizeOf214
 v22:=Tryz.zeroValue214
 a24:=Tryz.isAgg3
 z24:=Tryz.sizeOf3
 t25:=Tryz.underlying272
 a25:=Tryz.isAgg272
 z25:=Tryz.sizeOf272
 v25:=Tryz.zeroValue272
 t39:=Tryz.underlying159
 a39:=Tryz.isAgg159
 z39:=Tryz.sizeOf159
 v39:=Tryz.zeroValue159
 t45:=Tryz.underlying220
 a45:=Tryz.isAgg220
 z45:=Tryz.sizeOf220
 v45:=Tryz.zeroValue220
 t46:=Tryz.underlying221
 a46:=Tryz.isAgg221
 z46:=Tryz.sizeOf221
 v46:=Tryz.zeroValue221
 t50:=Tryz.underlying225
 a50:=Tryz.isAgg225
 z50:=Tryz.sizeOf225
 v50:=Tryz.zeroValue225
 t53:=Tryz.underlying26
 a53:=Tryz.isAgg26
 z53:=Tryz.sizeOf26
 v53:=Tryz.zeroValue26
 t55:=Tryz.underlying62
 a55:=Tryz.isAgg62
 z55:=Tryz.sizeOf62
 v55:=Tryz.zeroValue62
 t66:=Tryz.underlying280
 a66:=Tryz.isAgg280
 z66:=Tryz.sizeOf280
 v66:=Tryz.zeroValue280
 t70:=Tryz.underlying284
 a70:=Tryz.isAgg284
 z70:=Tryz.sizeOf284
 v70:=Tryz.zeroValue284
 t76:=Tryz.underlying313
 a76:=Tryz.isAgg313
 z76:=Tryz.sizeOf313
 v76:=Tryz.zeroValue313
 t77:=Tryz.underlying98
 a77:=Tryz.isAgg98
 z77:=Tryz.sizeOf98
 v77:=Tryz.zeroValue98 }
end Go.Proofs
namespace Go.Proofs.YthkkgdpomhhjjaaGreatDoor
open Go.Proofs.Tryz
section
open Go.RowKit
section
variable {α:Type} [Inhabited α]
theorem holds_of_block(enc:α->Value){w:World}{g:Nat}{cur:Array Value}{e:TypeId}{ss:List α}(hb:w.heap[g]? = some (.cells cur e (0,0)))(ht:cur.toList.take ss.length=ss.map enc):Go.Sort.Holds enc w g 0 ss.toArray:=by
 intro j hj;have hj':j<ss.length:=by omega
 refine⟨?_,by grind [World.frozen?]⟩;have h1:(cur.toList.take ss.length)[j]? = (ss.map enc)[j]? := by rw[ht]
 grind [World.cell?]
theorem heap_sorted(enc:α->Value){w:World}{g n:Nat}{os:Array Obj}{cur:Array Value}{e:TypeId}{fr:Nat×Nat}(d:Array α)(hb:w.heap[g]? = some (.cells cur e fr)) :
 (Go.Sort.grow (Go.Sort.putRow enc (Go.Sort.ahead w n) g 0 d) os).heap[g]? = some (.cells (Go.Sort.putCells enc 0 d cur) e fr):=by
 grind [Go.Sort.heap_grow_old,Go.Sort.putRow,Go.Sort.mapBlock,Go.Sort.ahead,Go.Sort.onCells]
theorem xN(enc:α->Value){w:World}{g n:Nat}{os:Array Obj}(d:Array α):aH (·=g) w (Go.Sort.grow (Go.Sort.putRow enc (Go.Sort.ahead w n) g 0 d) os):=by
 refine⟨rfl,rfl,rfl,ah,fun k hk hne=>?_⟩;grind [Go.Sort.heap_grow_old,Go.Sort.putRow,Go.Sort.mapBlock,Go.Sort.ahead]
theorem take_putCells(enc:α->Value)(cur:Array Value)(ts:List α)(h:ts.length<=cur.size):(Go.Sort.putCells enc 0 ts.toArray cur).toList.take ts.length=ts.map enc:=by
 apply List.ext_getElem?;grind [Go.Sort.putCells]
theorem ownsRow_sorted(enc:α->Value){w:World}{base g cap n:Nat}{e:TypeId}{os:Array Obj}{cur:Array Value}{ss ts:List α}(hl:ts.length=ss.length)(hbase:base<=g)(hb:w.heap[g]? = some (.cells cur e (0,0)))(h1:ss.length<=cap)(h2:cap<=maxLen)(h3:cur.size=cap*1) :
 (Go.Sort.grow (Go.Sort.putRow enc (Go.Sort.ahead w n) g 0 ts.toArray) os).ownsRow base e 1 (.slice (some ⟨g,0,none⟩) ss.length cap) ss.length (ts.map enc):=
 ⟨by grind,.inr ⟨g,cap,_,rfl,hbase,heap_sorted enc _ hb,h1,h2,by grind [Go.Sort.putCells],by grind [take_putCells]⟩⟩
end
def QR{α:Type}[Inhabited α](enc:α->Value)(cf:α->α->Int)(w:World)(base:Nat)(elem:TypeId)(g len cap:Nat)(ss:List α)(e:Ending)(w':World):Prop:=
 e=.returned (.tuple #[])/\∃ts:List α,ts.Perm ss/\ts.Pairwise (fun x y=>¬cf y x<0)/\w'.ownsRow base elem 1 (.slice (some ⟨g,0,none⟩) len cap) len (ts.map enc)/\aH (·=g) w w'
theorem Es{α:Type}[Inhabited α](enc:α->Value)(h1:OneCell enc)(cf:α->α->Int)(hO:Go.Sort.SWO (ltOf cf))(f:Nat)(cb:Array Value){w:World}{base g len cap:Nat}{elem:TypeId}{ss:List α}(hl:ss.length=len)(aou:len<4611686018427387904)(hown:w.ownsRow base elem 1 (.slice (some ⟨g,0,none⟩) len cap) len (ss.map enc))(eg:∀args w,(callFunc f args).run prog w=.ok (.enter f args) w)(yG:CmpLays1 prog f cb enc cf g 0 len w) :
 Calls prog 183 #[.slice (some ⟨g,0,none⟩) len cap,.func (.func f) #[] cb] w (QR enc cf w base elem g len cap ss):=by
 obtain⟨hlen,⟨h0,_⟩|⟨g',cap',cur,hv,hg,hh,hn,hm,hcs,hx⟩⟩:=hown
 ·cases h0
 cases hv;rw[Nat.mul_one]at hx;have hH:=holds_of_block enc (ss:=ss) hh (by grind);have hsz:ss.toArray.size=len:=by omega
 have hcon:=Any.slices_SortFunc Tryz.GJ enc h1 cf hO f cb g 0 cap ss.toArray w eg (by grind) hH (Array.getElem?_eq_some_iff.1 hh).1 ae;rw[hsz]at hcon;refine hcon.mono ?_;rintro e w'⟨rfl,d',n,os,hp,hs,rfl⟩;obtain⟨zE,_,PJ⟩:=hp;rw[hsz]at zE;have Mj:d'.toList.length=ss.length:=by grind
 refine⟨rfl,d'.toList,?_,?_,?_,xN enc d'⟩
 ·have e1:(d'.extract 0 len).toList=d'.toList:=by rw[<- zE];simp
  grind
 ·rw[List.pairwise_iff_getElem];intro i j hi hj fg;have h2:=hs i j (Nat.zero_le _) fg ae;grind [ltOf]
 ·have:=ownsRow_sorted enc (w:=w) (base:=base) (g:=g) (cap:=cap) (n:=n) (os:=os) (ss:=ss) (ts:=d'.toList) Mj hg hh ae hm hcs;rw[hl]at this;assumption
end
end Go.Proofs.YthkkgdpomhhjjaaGreatDoor
