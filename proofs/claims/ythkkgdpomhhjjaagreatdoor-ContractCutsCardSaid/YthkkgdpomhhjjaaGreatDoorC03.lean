/-
  Joined.
-/
import Derived.Test.YthkkgdpomhhjjaaGreatDoorC02
import Derived.StillTailTactics
import Derived.Shelf.SlSortCmp.Whole1
import Derived.Ground.SlsfProg
import Derived.Shelf.SlGeneric
import Derived.Test.YthkkgdpomhhjjaaGreatDoorProg
import Derived.Sort.OwnSortedInts
set_option maxRecDepth 100000
set_option maxHeartbeats 4000000
namespace Go.Proofs.YthkkgdpomhhjjaaGreatDoor
open Go.Proofs.Tryz
section
open Go.RowKit
abbrev Pg:=List UInt8
def je(n:Name):Nat:=gX n.data.toList
theorem Ge(n:Name):je n<4294967296:=tE _
def bW(tag:Nat):Nat->List Pg->List UInt8
 |_,[]=>[]
 |k,b::r=>dt tag k b++bW tag (k+1) r
def ij(ps:List Pg):Prop:=∀b∈ps,b.length<=240
theorem ij.cons{b:Pg}{r:List Pg}(h:ij (b::r)):b.length<=240/\ij r:=⟨h b ah,fun x hx=>h x (by grind)⟩
theorem dN{tag:Nat}(ps:List Pg)(h:ij ps):∀k,(bW tag k ps).length=256*ps.length:=by
 induction ps with
 |nil=>intro k;rfl
 |cons b r ih=>
   grind [bW,dR,ij.cons]
theorem jL{tag:Nat}(a b:List Pg):∀k,bW tag k (a++b)=bW tag k a++bW tag (k+a.length) b:=by
 induction a with
 |nil=>intro k;rfl
 |cons x a ih=>
   grind [bW]
theorem tL{α:Type}{l:List α}{j:Nat}(h:j<l.length):l=l.take j++l[j]::l.drop (j+1):=by
 simp
theorem ij.take{ps:List Pg}(h:ij ps)(n:Nat):ij (ps.take n):=fun b hb=>h b (List.mem_of_mem_take hb)
theorem ij.drop{ps:List Pg}(h:ij ps)(n:Nat):ij (ps.drop n):=fun b hb=>h b (List.mem_of_mem_drop hb)
theorem BR{tag k j:Nat}{ps:List Pg}(h:ij ps)(hj:j<ps.length):((bW tag k ps).drop (256*j)).take 256=dt tag (k+j) ps[j]:=by
 have e:bW tag k ps=bW tag k (ps.take j)++(dt tag (k+j) ps[j]++bW tag (k+j+1) (ps.drop (j+1))):=by
  conv=>lhs;rw[tL hj,jL,List.length_take,Nat.min_eq_left ae]
  rfl
 have hl:(bW tag k (ps.take j)).length=256*j:=by
  grind [dN,ij.take]
 rw[e,kr _ _ _ hl,ql _ _ _ (dR _ _ _ (h _ (List.getElem_mem hj)))]
theorem zB{tag k j:Nat}{ps:List Pg}{b:Pg}(h:ij ps)(hb:b.length<=240)(hj:j<ps.length):over (bW tag k ps) (256*j) (dt tag (k+j) b)=bW tag k (ps.set j b):=by
 have e:∀x:Pg,bW tag k (ps.take j++x::ps.drop (j+1))=bW tag k (ps.take j)++(dt tag (k+j) x++bW tag (k+j+1) (ps.drop (j+1))):=fun x=>by
  rw[jL,List.length_take,Nat.min_eq_left ae];rfl
 have hl:(bW tag k (ps.take j)).length=256*j:=by
  grind [dN,ij.take]
 have y7:ps.set j b=ps.take j++b::ps.drop (j+1):=List.set_eq_take_append_cons_drop.trans (by grind);rw[y7,e b];unfold over;rw[dR _ _ _ hb];conv=>lhs;rw[tL hj,e ps[j]]
 rw[ql _ _ _ hl,show 256*j+256=256*j+256 from rfl,<- List.drop_drop,kr _ _ _ hl,kr _ _ _ (dR _ _ _ (h _ (List.getElem_mem hj)))]
def dh(ps:List Pg)(j:Nat)(b:Pg):List Pg:=if j<ps.length then ps.set j b else ps++[b]
theorem fA(ps:List Pg)(j:Nat)(b:Pg)(h:j<=ps.length):(dh ps j b).length=max ps.length (j+1):=by
 grind [dh]
theorem rZ{ps:List Pg}{j:Nat}{b:Pg}(h:ij ps)(hb:b.length<=240):ij (dh ps j b):=by
 unfold dh;split
 ·intro x hx;rcases List.mem_or_eq_of_mem_set hx with hx | rfl
  ·exact h x hx
  omega
 ·intro x hx;rcases List.mem_append.1 hx with hx | hx
  ·exact h x hx
  grind
theorem ku(ps:List Pg)(j:Nat)(b:Pg)(h:j<=ps.length)(i:Nat):(dh ps j b)[i]? = if i=j then some b else ps[i]? := by
 grind [dh]
theorem CZ{tag j:Nat}{ps:List Pg}{b:Pg}(h:ij ps)(hb:b.length<=240)(hj:j<=ps.length){f:bR}(hf:f.now=bW tag 0 ps):f.laid (256*j) (dt tag j b)=⟨bW tag 0 (dh ps j b),f.gp⟩:=by
 have hl:f.now.length=256*ps.length:=by grind [dN]
 unfold bR.laid;rw[dR _ _ _ hb];congr 1;by_cases hlt:j<ps.length
 ·have e:max f.now.length (256*j+256)-f.now.length=0:=by omega
  rw[e,List.replicate_zero,List.append_nil,hf];have:=zB (tag:=tag) (k:=0) h hb hlt;grind [dh]
 ·obtain rfl:j=ps.length:=by omega
  have e:max f.now.length (256*ps.length+256)-f.now.length=256:=by omega
  rw[e];unfold dh over;rw[if_neg ae,jL,hf,dR _ _ _ hb];grind [bW]
abbrev gR:=(List Pg×Bool) ⊕ (bR×(Nat->Prop))
abbrev aC:=List (Name×gR)
structure bY where
 full:Bool
 name:Name
 k:Nat
 bytes:Pg
 bS:Bool
 used:Bool
def bY.none:bY:=⟨false,ByteArray.empty,0,[],false,false⟩
def gR.need:gR->Nat
 | .inl x=>4*x.1.length
 | .inr x=>gq x.1.now.length
def need(L:aC):Nat:=(L.map (fun p=>p.2.need)).sum
def eR(fs:List bY)(n:Name)(k:Nat):Prop:=∃(j:Nat)(fr:bY),fs[j]? = some fr/\fr.full=true/\fr.bS=true/\fr.name=n/\fr.k=k
structure dz(d:Dsk)(fs:List bY)(n:Name)(ps:List Pg)(fl:Bool)(f:bR)(dp:List Pg):Prop where
 get:aA d.files n=some f
 now:f.now=bW (je n) 0 dp
 le:dp.length<=ps.length
 most:ps.length<=65536
 short:ij ps
 BS:ij dp
 each:∀k,k<ps.length->(k<dp.length/\dp[k]? = ps[k]?)\/eR fs n k
 gp:fl=true->dp=ps/\f.gp=f.now/\(∀s,((n,s),()) ∉ d.loose)/\∀k,¬eR fs n k
 kx:∀s,((n,s),())∈d.loose->s<4*dp.length
structure Sound(d:Dsk)(fs:List bY)(L:aC):Prop where
 keys:(L.map (·.1)).Nodup
 fG:(d.files.map (·.1)).Nodup
 names:∀n,(aA d.files n).isSome=(aA L n).isSome
 ok:∀n,(aA L n).isSome=true->bM n=true
 dG:∀n ps fl,aA L n=some (.inl (ps,fl))->∃f dp,dz d fs n ps fl f dp
 lJ:∀n f ls,aA L n=some (.inr (f,ls))->aA d.files n=some f/\∀s,((n,s),())∈d.loose↔ls s
 frames:∀fr∈fs,fr.full=true->∃ps fl,aA L fr.name=some (.inl (ps,fl))/\ps[fr.k]? = some fr.bytes
 blank:∀fr∈fs,fr.full=false->fr=bY.none
 once:∀(i j:Nat)(fi fj:bY),fs[i]? = some fi->fs[j]? = some fj->fi.full=true->fj.full=true->fi.name=fj.name->fi.k=fj.k->i=j
 di:∀n s,((n,s),())∈d.loose->(aA L n).isSome=true
structure bK(d d':Dsk):Prop where
 bD:d'.bD=d.bD
 calm:d.cL=0->d'.cL=0/\(d.dead=false->d'.dead=false)
 dead:d.dead=true->d'.dead=true
theorem bK.refl(d:Dsk):bK d d:=⟨rfl,fun h=>⟨h,id⟩,id⟩
theorem bK.trans{d d' gw:Dsk}(h:bK d d')(k:bK d' gw):bK d gw:=
 ⟨k.bD.trans h.bD,fun h0=>⟨(k.calm (h.calm h0).1).1,fun hd=>(k.calm (h.calm h0).1).2 ((h.calm h0).2 hd)⟩,fun hd=>k.dead (h.dead hd)⟩
theorem bK.tick(d:Dsk):bK d d.tick:=by
 refine⟨Dsk.sP d,fun h=>?_,fun h=>?_⟩
 ·grind [Dsk.tick]
 grind [Dsk.tick]
theorem bK.of{d d' e:Dsk}(h:bK d d')(hq:e.bD=d'.bD)(ha:e.cL=d'.cL)(hd:e.dead=d'.dead):bK d e:=
 ⟨hq.trans h.bD,fun h0=>⟨ha.trans (h.calm h0).1,fun h1=>hd.trans ((h.calm h0).2 h1)⟩,fun h1=>hd.trans (h.dead h1)⟩
theorem Sound.lK{d d':Dsk}{fs:List bY}{L:aC}(h:Sound d fs L)(hf:d'.files=d.files)(hl:d'.loose=d.loose):Sound d' fs L where
 keys:=h.keys
 fG:=by grind [fG]
 names:=by grind [names]
 ok:=h.ok
 dG:=fun n ps fl hg=>by
  obtain⟨f,dp,k⟩:=h.dG n ps fl hg;exact⟨f,dp,by rw[hf];exact k.get,k.now,k.le,k.most,k.short,k.BS,k.each,fun e=>by grind [dz.gp],by rw[hl];exact k.kx⟩
 lJ:=by grind [lJ]
 frames:=h.frames
 blank:=h.blank
 once:=h.once
 di:=by grind [di]
theorem Sound.tick{d:Dsk}{fs:List bY}{L:aC}(h:Sound d fs L):Sound d.tick fs L:=h.lK (Dsk.dy d) (Dsk.lF d)
theorem Gf{κ υ:Type}[DecidableEq κ]{m:List (κ×υ)}{k:κ}{v:υ}{p:κ×υ}:p∈aS m k v↔p=(k,v)\/p∈m/\p.1≠k:=by
 grind [aS,gl]
theorem pd{m:List ((Name×Nat)×Unit)}{name:Name}{off c:Nat}{n:Name}{s:Nat}(hn:n≠name):((n,s),())∈lH m name off c↔((n,s),())∈m:=by
 induction c with
 |zero=>rfl
 |succ c ih=>
   grind [lH,Gf]
theorem Gg{m:List ((Name×Nat)×Unit)}{name:Name}{off c:Nat}{s:Nat}:((name,s),())∈lH m name off c->((name,s),())∈m\/s<=(off+c-1)/64:=by
 induction c with
 |zero=>exact fun h=>.inl h
 |succ c ih=>
   grind [lH,Gf]
theorem cH{κ υ:Type}[DecidableEq κ](m:List (κ×υ))(k:κ)(v:υ)(k':κ):(aA (aS m k v) k').isSome=(decide (k'=k) || (aA m k').isSome):=by
 grind [ay]
theorem qm{κ υ:Type}[DecidableEq κ](m:List (κ×υ))(k:κ)(k':κ):(aA (b7 m k) k').isSome=(decide (k'≠k) && (aA m k').isSome):=by
 grind [cO]
theorem tM{κ:Type}[DecidableEq κ]{a b:List κ}(ha:a.Nodup)(hb:b.Nodup)(h:∀k,k∈a↔k∈b):a.Perm b:=(List.perm_ext_iff_of_nodup ha hb).2 h
theorem mem_keys{κ υ:Type}[DecidableEq κ]{m:List (κ×υ)}{k:κ}:k∈m.map (·.1)↔(aA m k).isSome=true:=by
 grind [aA]
theorem tN{κ υ:Type}[DecidableEq κ]{m:List (κ×υ)}(hn:(m.map (·.1)).Nodup)(g:υ->Nat):(m.map (fun p=>g p.2)).sum=((m.map (·.1)).map (fun k=>((aA m k).map g).getD 0)).sum:=by
 rw[List.map_map];congr 1;apply List.map_congr_left;intro p hp;have:aA m p.1=some p.2:=km hn hp;grind
theorem Ym{α:Type}(l:List α)(f g:α->Nat)(h:∀x∈l,f x<=g x):(l.map f).sum<=(l.map g).sum:=by
 induction l with
 |nil=>simp
 |cons x l ih=>
   grind
theorem Sound.Qo{d:Dsk}{fs:List bY}{L:aC}(h:Sound d fs L):(d.files.map (·.1)).Perm (L.map (·.1)):=
 tM h.fG h.keys fun n=>by grind [mem_keys,names]
theorem Sound.Uu{d:Dsk}{fs:List bY}{L:aC}(h:Sound d fs L):ej d.files<=need L:=by
 have e1:ej d.files=((d.files.map (·.1)).map (fun k=>((aA d.files k).map (fun f:bR=>gq f.now.length)).getD 0)).sum:=tN h.fG (fun f=>gq f.now.length);have e2:need L=((L.map (·.1)).map (fun k=>((aA L k).map gR.need).getD 0)).sum:=tN h.keys gR.need;have e3:((L.map (·.1)).map (fun k=>((aA L k).map gR.need).getD 0)).sum=((d.files.map (·.1)).map (fun k=>((aA L k).map gR.need).getD 0)).sum:=((h.Qo.map _).sum_nat).symm;rw[e1,e2,e3];refine Ym _ _ _ fun n hn=>?_;rw[mem_keys,h.names]at hn;cases e:aA L n with
 |none=>grind
 |some x=>
   rcases x with⟨ps,fl⟩|⟨f,ls⟩
   ·obtain⟨f,dp,k⟩:=h.dG n ps fl e;rw[k.get];show gq f.now.length<=4*ps.length;rw[k.now,dN _ k.BS];have:=k.le;grind [gq]
   ·rw[(h.lJ n f ls e).1];exact Nat.le_refl _
theorem eY{α:Type}{fs:List α}{j:Nat}{x:α}(hj:j<fs.length)(i:Nat):(fs.set j x)[i]? = if i=j then some x else fs[i]? := by
 grind
theorem aN{α:Type}{fs:List α}{j:Nat}{x:α}(h:fs[j]? = some x):j<fs.length:=(List.getElem?_eq_some_iff.1 h).1
theorem ky{fs:List bY}{j:Nat}{fr x:bY}(hj:fs[j]? = some fr){n:Name}{k:Nat}(h:eR fs n k)(hne:¬(fr.full=true/\fr.bS=true/\fr.name=n/\fr.k=k)):eR (fs.set j x) n k:=by
 obtain⟨i,fi,hi,h1,h2,h3,h4⟩:=h;refine⟨i,fi,?_,h1,h2,h3,h4⟩;grind
theorem jf{fs:List bY}{j:Nat}{fr x:bY}(hj:fs[j]? = some fr){n:Name}{k:Nat}(h:eR (fs.set j x) n k):eR fs n k\/(x.full=true/\x.bS=true/\x.name=n/\x.k=k):=by
 obtain⟨i,fi,hi,h1,h2,h3,h4⟩:=h;rw[eY (aN hj)]at hi;by_cases e:i=j
 ·grind
 ·rw[if_neg e]at hi;exact .inl ⟨i,fi,hi,h1,h2,h3,h4⟩
theorem BU{fs:List bY}{j:Nat}{x fr:bY}(h:fr∈fs.set j x):fr∈fs\/fr=x:=List.mem_or_eq_of_mem_set h
theorem zC{fs:List bY}(h:∀(i j:Nat)(fi fj:bY),fs[i]? = some fi->fs[j]? = some fj->fi.full=true->fj.full=true->fi.name=fj.name->fi.k=fj.k->i=j){j:Nat}{x:bY}(hj:j<fs.length)(hx:x.full=true->∀(i:Nat)(fi:bY),i≠j->fs[i]? = some fi->fi.full=true->fi.name=x.name->fi.k=x.k->False) :
 ∀(i j':Nat)(fi fj:bY),(fs.set j x)[i]? = some fi->(fs.set j x)[j']? = some fj->fi.full=true->fj.full=true->fi.name=fj.name->fi.k=fj.k->i=j':=by
 grind
theorem Sound.alone{d:Dsk}{fs:List bY}{L:aC}(h:Sound d fs L){j:Nat}{fr:bY}(hj:fs[j]? = some fr)(hf:fr.full=true):∀(i:Nat)(fi:bY),i≠j->fs[i]? = some fi->fi.full=true->fi.name=fr.name->fi.k=fr.k->False:=
 fun i fi hne hi h1 h2 h3=>hne (h.once i j fi fr hi hj h1 hf h2 h3)
theorem Sound.reset{d:Dsk}{fs:List bY}{L:aC}(h:Sound d fs L){j:Nat}{fr x:bY}(hj:fs[j]? = some fr)(hd:fr.bS=false)(hxd:x.bS=false)(hx:x=bY.none\/(x.full=true/\(∃ps fl,aA L x.name=some (.inl (ps,fl))/\ps[x.k]? = some x.bytes)/\∀(i:Nat)(fi:bY),i≠j->fs[i]? = some fi->fi.full=true->fi.name=x.name->fi.k=x.k->False)) :
 Sound d (fs.set j x) L where
 keys:=h.keys
 fG:=h.fG
 names:=h.names
 ok:=h.ok
 dG:=fun n ps fl hg=>by
  obtain⟨f,dp,k⟩:=h.dG n ps fl hg;refine⟨f,dp,k.get,k.now,k.le,k.most,k.short,k.BS,fun i hi=>?_,fun e=>?_,k.kx⟩
  ·grind [dz.each,ky]
  ·obtain⟨h1,h2,h3,h4⟩:=k.gp e;refine⟨h1,h2,h3,fun i hi=>?_⟩;rcases jf hj hi with h5 | h5
   ·grind
   grind
 lJ:=h.lJ
 frames:=fun y hy hf=>by
  rcases BU hy with hy | rfl
  ·grind [frames]
  ·rcases hx with rfl | hx
   ·cases hf
   grind
 blank:=fun y hy hf=>by
  grind [blank]
 once:=zC h.once (aN hj) (fun hf=>by
  rcases hx with rfl | hx
  ·cases hf
  grind)
 di:=h.di
theorem Sound.used{d:Dsk}{fs pZ:List bY}{L:aC}(h:Sound d fs L)(hs:pZ.length=fs.length)(he:∀(i:Nat)(f f':bY),fs[i]? = some f->pZ[i]? = some f'->(f'.full,f'.name,f'.k,f'.bytes,f'.bS)=(f.full,f.name,f.k,f.bytes,f.bS)/\(f.full=false->f'=f)):Sound d pZ L:=by
 have back:∀(i:Nat)(f':bY),pZ[i]? = some f'->∃f,fs[i]? = some f/\f'.full=f.full/\f'.name=f.name/\f'.k=f.k/\f'.bytes=f.bytes/\f'.bS=f.bS/\(f.full=false->f'=f):=fun i f' hi=>by
  grind
 have abO:∀(i:Nat)(f:bY),fs[i]? = some f->∃f',pZ[i]? = some f'/\f'.full=f.full/\f'.name=f.name/\f'.k=f.k/\f'.bytes=f.bytes/\f'.bS=f.bS:=fun i f hi=>by
  grind
 have fS:∀n k,eR pZ n k↔eR fs n k:=fun n k=>by
  constructor
  ·rintro⟨i,f',hi,a,b,c,e⟩;obtain⟨f,hf,q1,q2,q3,q4,q5,_⟩:=back i f' hi;exact⟨i,f,hf,by grind,by grind,by grind,ae⟩
  ·rintro⟨i,f,hi,a,b,c,e⟩;obtain⟨f',hf,q1,q2,q3,q4,q5⟩:=abO i f hi;exact⟨i,f',hf,by grind,by grind,by grind,ae⟩
 exact {
  keys:=h.keys
  fG:=h.fG
  names:=h.names
  ok:=h.ok
  dG:=fun n ps fl hg=>by
   obtain⟨f,dp,k⟩:=h.dG n ps fl hg;exact⟨f,dp,k.get,k.now,k.le,k.most,k.short,k.BS,fun i hi=>by grind [dz.each],fun e=>by
    grind [dz.gp],k.kx⟩
  lJ:=h.lJ
  frames:=fun y hy hf=>by
   obtain⟨i,hi⟩:=List.mem_iff_getElem?.1 hy;obtain⟨f,hg,q1,q2,q3,q4,q5,_⟩:=back i y hi;rw[q2,q3,q4];exact h.frames f (List.mem_of_getElem? hg) (by grind)
  blank:=fun y hy hf=>by
   obtain⟨i,hi⟩:=List.mem_iff_getElem?.1 hy;obtain⟨f,hg,q1,q2,q3,q4,q5,q6⟩:=back i y hi;rw[q6 (by grind)];exact h.blank f (List.mem_of_getElem? hg) (by grind)
  once:=fun i j fi fj hi hj h1 h2 h3 h4=>by
   grind [once]
  di:=h.di }
theorem Sound.write{d:Dsk}{fs:List bY}{L:aC}(h:Sound d fs L){j:Nat}{fr:bY}(hj:fs[j]? = some fr){name:Name}{ps:List Pg}{fl:Bool}(hL:aA L name=some (.inl (ps,fl))){k:Nat}{b:Pg}{u:Bool}(hk:k<=ps.length)(BK:k<65536)(hb:b.length<=240)(hx:fr.full=true/\fr.name=name/\fr.k=k\/fr.bS=false/\∀(i:Nat)(fi:bY),i≠j->fs[i]? = some fi->fi.full=true->fi.name=name->fi.k=k->False) :
 Sound d (fs.set j ⟨true,name,k,b,true,u⟩) (aS L name (.inl (dh ps k b,false))):=by
 have Yn:∀(i:Nat)(fi:bY),i≠j->fs[i]? = some fi->fi.full=true->fi.name=name->fi.k=k->False:=by
  grind [alone]
 exact {
  keys:=cD h.keys
  fG:=h.fG
  names:=fun n=>by
   grind [cH,names]
  ok:=fun n hn=>by
   grind [cH,ok]
  dG:=fun n Gh kO hg=>by
   rw[ay]at hg;by_cases e:n=name
   ·rw[if_pos e]at hg;subst e;simp only[Option.some.injEq,Sum.inl.injEq,Prod.mk.injEq]at hg;obtain⟨rfl,rfl⟩:=hg;obtain⟨f,dp,q⟩:=h.dG n ps fl hL;have hle:=q.le;have hmo:=q.most;refine⟨f,dp,q.get,q.now,by grind [fA],by grind [fA],rZ q.short hb,q.BS,fun i hi=>?_,fun e=>(by cases e),q.kx⟩;by_cases ei:i=k
    ·exact .inr ⟨j,⟨true,n,k,b,true,u⟩,by grind,rfl,rfl,rfl,ei.symm⟩
    grind [ku,dz.each,ky]
   ·rw[if_neg e]at hg;obtain⟨f,dp,q⟩:=h.dG n Gh kO hg;refine⟨f,dp,q.get,q.now,q.le,q.most,q.short,q.BS,fun i hi=>?_,fun e1=>?_,q.kx⟩
    ·grind [dz.each,ky]
    ·obtain⟨h1,h2,h3,h4⟩:=q.gp e1;refine⟨h1,h2,h3,fun i hi=>?_⟩;rcases jf hj hi with h5 | h5
     ·grind
     grind
  lJ:=fun n f ls hg=>by
   grind [ay,lJ]
  frames:=fun y hy hf=>by
   obtain⟨i,hi⟩:=List.mem_iff_getElem?.1 hy;rw[eY (aN hj)]at hi;grind [ay,ku,frames]
  blank:=fun y hy hf=>by
   grind [blank]
  once:=zC h.once (aN hj) (fun _=>Yn)
  di:=fun n s hs=>by
   grind [cH,di] }
theorem Sound.create{d d':Dsk}{fs:List bY}{L:aC}(h:Sound d fs L){name:Name}(fw:bM name=true)(hn:aA L name=none)(hf:d'.files=aS d.files name ⟨[],[]⟩)(hl:d'.loose=d.loose):Sound d' fs (aS L name (.inl ([],true))) where
 keys:=cD h.keys
 fG:=by grind [cD,fG]
 names:=fun n=>by grind [cH,names]
 ok:=fun n hs=>by
  grind [cH,ok]
 dG:=fun n ps fl hg=>by
  rw[ay]at hg;by_cases e:n=name
  ·subst e;rw[if_pos rfl]at hg;simp only[Option.some.injEq,Sum.inl.injEq,Prod.mk.injEq]at hg;obtain⟨rfl,rfl⟩:=hg;refine⟨⟨[],[]⟩,[],by grind [ay],rfl,Nat.le_refl _,Nat.zero_le _,(fun _ h=>nomatch h),(fun _ h=>nomatch h),(fun k hk=>absurd hk (Nat.not_lt_zero k)),fun _=>⟨rfl,rfl,fun s hs=>?_,fun k hk=>?_⟩,fun s hs=>?_⟩
   ·grind [di]
   ·obtain⟨i,fi,hi,h1,h2,h3,h4⟩:=hk;obtain⟨ps,fl,h5,_⟩:=h.frames fi (List.mem_of_getElem? hi) h1;grind
   grind [di]
  ·rw[if_neg e]at hg;obtain⟨f,dp,q⟩:=h.dG n ps fl hg;exact⟨f,dp,by grind [ay,dz.get],q.now,q.le,q.most,q.short,q.BS,q.each,by rw[hl];exact q.gp,by rw[hl];exact q.kx⟩
 lJ:=fun n f ls hg=>by
  grind [ay,lJ]
 frames:=fun y hy Qq=>by
  grind [frames,ay]
 blank:=h.blank
 once:=h.once
 di:=fun n s hs=>by
  grind [cH,di]
theorem Sound.drop{d d':Dsk}{fs:List bY}{L:aC}(h:Sound d fs L){name:Name}(hno:∀fr∈fs,fr.full=true->fr.name≠name)(hf:d'.files=b7 d.files name)(hl:d'.loose=d.loose.filter (fun p=>decide (p.1.1≠name))):Sound d' fs (b7 L name):=by
 have TU:∀n s,((n,s),())∈d'.loose↔((n,s),())∈d.loose/\n≠name:=fun n s=>by grind
 exact {
  keys:=CL h.keys
  fG:=by grind [CL,fG]
  names:=fun n=>by grind [qm,names]
  ok:=fun n hs=>by
   grind [qm,ok]
  dG:=fun n ps fl hg=>by
   rw[cO]at hg;by_cases e:n=name
   ·grind
   ·rw[if_neg e]at hg;obtain⟨f,dp,q⟩:=h.dG n ps fl hg;refine⟨f,dp,by grind [cO,dz.get],q.now,q.le,q.most,q.short,q.BS,q.each,fun e1=>?_,fun s hs=>q.kx s ((TU n s).1 hs).1⟩;grind [dz.gp]
  lJ:=fun n f ls hg=>by
   grind [cO,lJ]
  frames:=fun y hy Qq=>by
   grind [frames,cO]
  blank:=h.blank
  once:=h.once
  di:=fun n s hs=>by
   grind [qm,di] }
theorem Sound.sync{d d':Dsk}{fs:List bY}{L:aC}(h:Sound d fs L){name:Name}{ps:List Pg}{fl:Bool}(hL:aA L name=some (.inl (ps,fl)))(hno:∀k,¬eR fs name k){f:bR}(hg:aA d.files name=some f)(hf:d'.files=aS d.files name ⟨f.now,f.now⟩)(hl:d'.loose=d.loose.filter (fun p=>decide (p.1.1≠name))):Sound d' fs (aS L name (.inl (ps,true))):=by
 have TU:∀n s,((n,s),())∈d'.loose↔((n,s),())∈d.loose/\n≠name:=fun n s=>by grind
 exact {
  keys:=cD h.keys
  fG:=by grind [cD,fG]
  names:=fun n=>by grind [cH,names]
  ok:=fun n hs=>by
   grind [cH,ok]
  dG:=fun n Gh kO Mb=>by
   rw[ay]at Mb;by_cases e:n=name
   ·subst e;rw[if_pos rfl]at Mb;simp only[Option.some.injEq,Sum.inl.injEq,Prod.mk.injEq]at Mb;obtain⟨rfl,rfl⟩:=Mb;obtain⟨f',dp,q⟩:=h.dG n ps fl hL;have:f'=f:=by have:=q.get;grind
    subst this;have hdp:dp=ps:=by
     apply List.ext_getElem?;intro i;by_cases hi:i<ps.length
     ·rcases q.each i hi with h1 | h1
      ·grind
      grind
     ·have:=q.le;grind
    refine⟨⟨f'.now,f'.now⟩,dp,by grind [ay],q.now,q.le,q.most,q.short,q.BS,q.each,fun _=>⟨hdp,rfl,fun s hs=>((TU n s).1 hs).2 rfl,hno⟩,fun s hs=>absurd rfl ((TU n s).1 hs).2⟩
   ·rw[if_neg e]at Mb;obtain⟨f',dp,q⟩:=h.dG n Gh kO Mb;refine⟨f',dp,by grind [ay,dz.get],q.now,q.le,q.most,q.short,q.BS,q.each,fun e1=>?_,fun s hs=>q.kx s ((TU n s).1 hs).1⟩;grind [dz.gp]
  lJ:=fun n f' ls Mb=>by
   grind [ay,lJ]
  frames:=fun y hy Qq=>by
   grind [frames,ay]
  blank:=h.blank
  once:=h.once
  di:=fun n s hs=>by
   grind [cH,di] }
theorem Sound.back{d d':Dsk}{fs:List bY}{L:aC}(h:Sound d fs L){j:Nat}{fr:bY}(hj:fs[j]? = some fr)(fq:fr.full=true)(fS:fr.bS=true){ps:List Pg}{fl:Bool}(hL:aA L fr.name=some (.inl (ps,fl))){f:bR}{dp:List Pg}(q:dz d fs fr.name ps fl f dp)(hk:fr.k<=dp.length)(hf:d'.files=aS d.files fr.name (f.laid (256*fr.k) (dt (je fr.name) fr.k fr.bytes)))(hl:d'.loose=lH d.loose fr.name (256*fr.k) 256) :
 Sound d' (fs.set j { fr with bS:=false }) L/\∃f',dz d' (fs.set j { fr with bS:=false }) fr.name ps fl f' (dh dp fr.k fr.bytes):=by
 have Mc:fl=false:=by
  cases e:fl with
  |false=>rfl
  |true=>exact absurd ⟨j,fr,hj,fq,fS,rfl,rfl⟩ ((q.gp e).2.2.2 fr.k)
 obtain⟨Gh,kO,Bp,Pk⟩:=h.frames fr (List.mem_of_getElem? hj) fq;rw[hL]at Bp;simp only[Option.some.injEq,Sum.inl.injEq,Prod.mk.injEq]at Bp;obtain⟨rfl,rfl⟩:=Bp;have Yo:fr.k<ps.length:=aN Pk;have hb:fr.bytes.length<=240:=q.short _ (List.mem_of_getElem? Pk);have abP:=CZ q.BS hb hk q.now;rw[abP]at hf;have hle:=q.le;have hq':dz d' (fs.set j { fr with bS:=false }) fr.name ps fl ⟨bW (je fr.name) 0 (dh dp fr.k fr.bytes),f.gp⟩ (dh dp fr.k fr.bytes):=by
  refine⟨by grind [ay],rfl,by grind [fA],q.most,q.short,rZ q.BS hb,fun i hi=>?_,fun e=>(by grind),fun s hs=>?_⟩;rotate_left
  ·rw[hl]at hs;rw[fA _ _ _ hk];rcases Gg hs with h1 | h1
   ·have:=q.kx s h1;omega
   ·omega
  grind [ku,dz.each,ky]
 refine⟨?_,_,hq'⟩;exact {
  keys:=h.keys
  fG:=by grind [cD,fG]
  names:=fun n=>by
   grind [cH,names]
  ok:=h.ok
  dG:=fun n Gh kO hg=>by
   by_cases e:n=fr.name
   ·grind
   ·obtain⟨f',dp',q'⟩:=h.dG n Gh kO hg;refine⟨f',dp',by grind [ay,dz.get],q'.now,q'.le,q'.most,q'.short,q'.BS,fun i hi=>?_,fun e1=>?_,fun s hs=>q'.kx s (by grind [pd])⟩
    ·grind [dz.each,ky]
    ·obtain⟨h1,h2,h3,h4⟩:=q'.gp e1;refine⟨h1,h2,fun s hs=>?_,fun i hi=>?_⟩
     ·grind [pd]
     ·rcases jf hj hi with h5 | h5
      ·grind
      grind
  lJ:=fun n f' ls hg=>by
   grind [lJ,ay,pd]
  frames:=fun y hy Qq=>by
   grind [frames]
  blank:=fun y hy Qq=>by
   grind [blank]
  once:=zC h.once (aN hj) (fun _ i fi hne hi h1 h2 h3=>h.alone hj fq i fi hne hi h1 h2 h3)
  di:=fun n s hs=>by
   grind [pd,di] }
def dA(d:Dsk)(name:Name)(k:Nat)(b:Pg):Dsk×Nat:=
 if (d.sizeOf name).2≠0 then (d,(d.sizeOf name).2)
 else if (d.sizeOf name).1/256<k then (d,1)
 else d.write name (256*k) (dt (je name) k b)
def kJ(d d':Dsk)(L:aC)(e:Nat):Prop:=e=5/\d.bD<need L\/e=6/\d'.dead=true
theorem kJ.ne{d d':Dsk}{L:aC}{e:Nat}(h:kJ d d' L e):e≠0:=by
 rcases h with h | h<;>omega
theorem Dsk.C0{d:Dsk}{n:Name}{f:bR}(fw:bM n=true)(hg:aA d.files n=some f):d.sizeOf n=if d.dead=true then (0,6) else (f.now.length,0):=by
 grind [Dsk.sizeOf]
theorem Sound.abQ{d:Dsk}{fs:List bY}{L:aC}(h:Sound d fs L){j:Nat}{fr:bY}(hj:fs[j]? = some fr)(fq:fr.full=true)(fS:fr.bS=true){ps:List Pg}{fl:Bool}(hL:aA L fr.name=some (.inl (ps,fl))){f:bR}{dp:List Pg}(q:dz d fs fr.name ps fl f dp)(hk:fr.k<=dp.length) :
 bK d (dA d fr.name fr.k fr.bytes).1 /\
 ((dA d fr.name fr.k fr.bytes).2=0/\Sound (dA d fr.name fr.k fr.bytes).1 (fs.set j { fr with bS:=false }) L/\(∃f',dz (dA d fr.name fr.k fr.bytes).1 (fs.set j { fr with bS:=false }) fr.name ps fl f' (dh dp fr.k fr.bytes)) \/
   kJ d (dA d fr.name fr.k fr.bytes).1 L (dA d fr.name fr.k fr.bytes).2/\Sound (dA d fr.name fr.k fr.bytes).1 fs L):=by
 have fw:bM fr.name=true:=h.ok _ (by grind);obtain⟨Gh,kO,Bp,Pk⟩:=h.frames fr (List.mem_of_getElem? hj) fq;rw[hL]at Bp;simp only[Option.some.injEq,Sum.inl.injEq,Prod.mk.injEq]at Bp;obtain⟨rfl,rfl⟩:=Bp;have Yo:fr.k<ps.length:=aN Pk;have jc:=q.most;have hb:fr.bytes.length<=240:=q.short _ (List.mem_of_getElem? Pk);have anE:f.now.length=256*dp.length:=by rw[q.now,dN _ q.BS]
 have BI:(dt (je fr.name) fr.k fr.bytes).length=256:=dR _ _ _ hb;unfold dA;rw[Dsk.C0 fw q.get];cases hd:d.dead with
 |true=>
   simp only[if_true];exact⟨bK.refl d,.inr ⟨.inr ⟨rfl,hd⟩,h⟩⟩
 |false=>
   simp only[Bool.false_eq_true,if_false,ne_eq,not_true_eq_false];rw[if_neg (show ¬f.now.length/256<fr.k by omega)];unfold Dsk.write;by_cases ht:d.tick.dead=true
   ·rw[if_pos ht];exact⟨bK.tick d,.inr ⟨.inr ⟨rfl,ht⟩,h.tick⟩⟩
   ·rw[if_neg ht,if_neg (by grind),q.get];dsimp only;rw[if_neg (show ¬f.now.length<256*fr.k by omega),BI,if_neg (show ¬16777216<256+256*fr.k by omega)];have Gi:=Sound.back (d':={ d.tick with files:=aS d.files fr.name (f.laid (256*fr.k) (dt (je fr.name) fr.k fr.bytes)),loose:=lH d.loose fr.name (256*fr.k) 256 }) h hj fq fS hL q hk rfl rfl;split
    ·rename_i agT
     refine⟨bK.tick d,.inr ⟨.inl ⟨rfl,?_⟩,h.tick⟩⟩;have h1:=Gi.1.Uu;grind [sO,fG,dz.get,jJ,CZ,dz.BS,dz.now,dN,fA]
    ·refine⟨(bK.tick d).of rfl rfl rfl,.inl ⟨rfl,Gi.1,Gi.2⟩⟩
def lL(name:Name):List Nat->Dsk->List bY->(Dsk×List bY)×Nat
 | [],d,fs=>((d,fs),0)
 |i::l,d,fs=>
   if (dA d name (fs.getD i bY.none).k (fs.getD i bY.none).bytes).2≠0 then (((dA d name (fs.getD i bY.none).k (fs.getD i bY.none).bytes).1,fs),(dA d name (fs.getD i bY.none).k (fs.getD i bY.none).bytes).2)
   else lL name l (dA d name (fs.getD i bY.none).k (fs.getD i bY.none).bytes).1 (fs.set i { fs.getD i bY.none with bS:=false })
def xE(fs:List bY)(i:Nat):Nat:=(fs.getD i bY.none).k
structure Qr(fs:List bY)(name:Name)(n:Nat)(l:List Nat):Prop where
 each:∀i∈l,∃fr,fs[i]? = some fr/\fr.full=true/\fr.bS=true/\fr.name=name
 gy:l.Pairwise (fun a b=>xE fs a<xE fs b)
 all:∀p,eR fs name p->p<n\/(∃i∈l,xE fs i=p)\/∀i∈l,xE fs i<p
theorem pg{fs:List bY}{i:Nat}{fr:bY}(h:fs[i]? = some fr):fs.getD i bY.none=fr:=by
 grind
theorem D9{fs:List bY}{i:Nat}{fr x:bY}(h:fs[i]? = some fr)(hk:x.k=fr.k)(j:Nat):xE (fs.set i x) j=xE fs j:=by
 grind [xE]
theorem Sound.Uv{L:aC}{name:Name}{ps:List Pg}{fl:Bool}(hL:aA L name=some (.inl (ps,fl)))(l:List Nat) :
 ∀(d:Dsk)(fs:List bY)(f:bR)(dp:List Pg),Sound d fs L->dz d fs name ps fl f dp->Qr fs name dp.length l ->
 ∃d' pZ e,lL name l d fs=((d',pZ),e)/\Sound d' pZ L/\bK d d'/\pZ.length=fs.length/\(∀i fr,fs[i]? = some fr->∃dd,pZ[i]? = some { fr with bS:=dd }/\(dd=true->fr.bS=true)/\(fr.bS=false\/i ∉ l->dd=fr.bS)/\(e=0->i∈l->dd=false))/\(e=0\/kJ d d' L e):=by
 induction l with
 |nil=>
   intro d fs f dp h q hp;exact⟨d,fs,0,rfl,h,bK.refl d,rfl,fun i fr hi=>⟨fr.bS,hi,id,fun _=>rfl,fun _ hm=>by cases hm⟩,.inl rfl⟩
 |cons i l ih=>
   intro d fs f dp h q hp;obtain⟨fr,hi,h1,h2,h3⟩:=hp.each i ah;have akQ:=List.pairwise_cons.1 hp.gy;have TL:xE fs i=fr.k:=by grind [xE]
   have Pk:ps[fr.k]? = some fr.bytes:=by
    obtain⟨Gh,kO,Bp,Pk⟩:=h.frames fr (List.mem_of_getElem? hi) h1;grind
   have hk:fr.k<=dp.length:=by
    rcases Nat.lt_or_ge dp.length fr.k with hlt | zb
    ·exfalso
     have Yo:=aN Pk;rcases q.each dp.length ae with g | g
     ·omega
     ·rcases hp.all _ g with g |⟨i',hm,g⟩| g
      ·omega
      ·grind
      grind
    omega
   rw[lL,pg hi];subst h3;obtain⟨yl,⟨he,hg,f',q'⟩|⟨he,hg⟩⟩:=h.abQ hi h1 h2 hL q hk
   ·rw[if_neg ae];have FB:Qr (fs.set i { fr with bS:=false }) fr.name (dh dp fr.k fr.bytes).length l:=by
     refine⟨fun j hj=>?_,?_,fun p hd=>?_⟩
     ·grind [Qr.each]
     ·grind [D9]
     ·rw[fA _ _ _ hk];have hd':eR fs fr.name p:=by
       rcases jf hi hd with hd | hd
       ·exact hd
       grind
      have hne:p≠fr.k:=by
       rintro rfl;obtain⟨j,fj,g1,g2,g3,g4,g5⟩:=hd;grind [alone]
      rcases hp.all p hd' with g |⟨i',hm,g⟩| g
      ·omega
      ·grind [D9]
      grind [D9]
    obtain⟨d2,fs2,e2,r1,r2,r3,r4,r5,r6⟩:=ih _ _ f' _ hg q' FB;refine⟨d2,fs2,e2,r1,r2,yl.trans r3,by grind,fun j fj hj=>?_,?_⟩
    ·grind [aN]
    ·rcases r6 with r6 | r6 | r6
     ·omega
     ·exact .inr (.inl ⟨r6.1,by grind [bK.bD]⟩)
     ·exact .inr (.inr r6)
   ·rw[if_pos he.ne];exact⟨_,fs,_,rfl,hg,yl,rfl,fun j fj hj=>⟨fj.bS,hj,id,fun _=>rfl,fun e=>absurd e he.ne⟩,.inr he⟩
def iz(name:Name)(lo hi:Nat)(fr:bY):Bool:=fr.full && fr.bS && decide (fr.name=name) && decide (lo<=fr.k) && decide (fr.k<hi)
structure Told(fs:List bY)(name:Name)(lo hi:Nat)(l:List Nat):Prop where
 mem:∀i,i∈l ↔ ∃fr,fs[i]? = some fr/\iz name lo hi fr=true
 gy:l.Pairwise (fun a b=>xE fs a<=xE fs b)
 nodup:l.Nodup
theorem gA{name:Name}{lo hi:Nat}{fr:bY}:iz name lo hi fr=true↔fr.full=true/\fr.bS=true/\fr.name=name/\lo<=fr.k/\fr.k<hi:=by
 grind [iz]
theorem Told.strict{d:Dsk}{fs:List bY}{L:aC}(h:Sound d fs L){name:Name}{lo hi:Nat}{l:List Nat}(t:Told fs name lo hi l):l.Pairwise (fun a b=>xE fs a<xE fs b):=by
 have h1:=t.gy.and (show l.Pairwise (fun a b=>a≠b) from t.nodup);grind [List.Pairwise.imp_of_mem,xE,mem,gA,Sound.once]
theorem Told.Uv{d:Dsk}{fs:List bY}{L:aC}(h:Sound d fs L){name:Name}{hi n:Nat}{l:List Nat}(t:Told fs name 0 hi l)(hhi:∀p,eR fs name p->p<hi):Qr fs name n l:=by
 refine⟨fun i hm=>?_,t.strict h,fun p hp=>.inr (.inl ?_)⟩
 ·grind [mem,gA]
 ·obtain⟨j,fj,g1,g2,g3,g4,g5⟩:=hp;have hlt:p<hi:=hhi p ⟨j,fj,g1,g2,g3,g4,g5⟩;refine⟨j,(t.mem j).2 ⟨fj,g1,gA.2 ⟨g2,g3,g4,Nat.zero_le _,ae⟩⟩,?_⟩;grind [xE]
theorem Told.Qs{d:Dsk}{fs:List bY}{L:aC}(h:Sound d fs L){j:Nat}{fr:bY}(hj:fs[j]? = some fr)(fq:fr.full=true)(fS:fr.bS=true){n:Nat}{l:List Nat}(t:Told fs fr.name n fr.k l):Qr fs fr.name n (l++[j]):=by
 have hkj:xE fs j=fr.k:=by grind [xE]
 refine⟨fun i hm=>?_,?_,fun p hp=>?_⟩
 ·grind [mem,gA]
 ·grind [strict,mem,gA,xE]
 ·obtain⟨i,fi,g1,g2,g3,g4,g5⟩:=id hp;by_cases hn:p<n
  ·omega
  ·right;have TL:xE fs i=p:=by grind [xE]
   grind [mem,gA,xE]
abbrev Rec:=List UInt8
def gB(sz:Nat)(rs:List Rec):Prop:=∀r∈rs,r.length=sz
theorem gB.cons{sz:Nat}{r:Rec}{rs:List Rec}(h:gB sz (r::rs)):r.length=sz/\gB sz rs:=⟨h r ah,fun x hx=>h x (by grind)⟩
theorem gB.take{sz:Nat}{rs:List Rec}(h:gB sz rs)(n:Nat):gB sz (rs.take n):=fun b hb=>h b (List.mem_of_mem_take hb)
theorem gB.drop{sz:Nat}{rs:List Rec}(h:gB sz rs)(n:Nat):gB sz (rs.drop n):=fun b hb=>h b (List.mem_of_mem_drop hb)
theorem qo{sz:Nat}{rs:List Rec}(h:gB sz rs):rs.flatten.length=sz*rs.length:=by
 induction rs with
 |nil=>simp
 |cons r rs ih=>
   grind [gB.cons]
theorem Qt{sz:Nat}{rs:List Rec}(h:gB sz rs){j:Nat}(hj:j<rs.length):(rs.flatten.drop (sz*j)).take sz=rs[j]:=by
 have e:rs.flatten=(rs.take j).flatten++(rs[j]++(rs.drop (j+1)).flatten):=by
  grind [tL]
 have hl:(rs.take j).flatten.length=sz*j:=by
  rw[qo (h.take j),List.length_take,Nat.min_eq_left ae]
 rw[e,kr _ _ _ hl,ql _ _ _ (h _ (List.getElem_mem hj))]
def eL(sz:Nat):Nat:=240/sz
theorem rp{sz:Nat}(h1:1<=sz)(h2:sz<=240):1<=eL sz:=by
 unfold eL;exact(Nat.one_le_div_iff ae).2 h2
theorem tO(sz:Nat):sz*eL sz<=240:=Nat.mul_div_le 240 sz
theorem Qu{sz:Nat}(h1:1<=sz):240<sz*(eL sz+1):=by
 unfold eL;have:=Nat.lt_mul_div_succ 240 (show 0<sz by omega);omega
def cy(p n:Nat):Nat:=(n+p-1)/p
theorem eZ{p n k:Nat}(hp:1<=p):k<cy p n↔p*k<n:=by
 grind [cy,Nat.le_div_iff_mul_le]
def bz(p:Nat)(rs:List Rec):List Pg:=(List.range (cy p rs.length)).map fun k=>((rs.drop (p*k)).take p).flatten
theorem dU(p:Nat)(rs:List Rec):(bz p rs).length=cy p rs.length:=by simp[bz]
theorem iN{p:Nat}{rs:List Rec}(hp:1<=p)(k:Nat):(bz p rs)[k]? = if p*k<rs.length then some ((rs.drop (p*k)).take p).flatten else none:=by
 grind [bz,eZ]
theorem qp{p sz:Nat}{rs:List Rec}(hs:gB sz rs)(k:Nat):((rs.drop (p*k)).take p).flatten.length=sz*min p (rs.length-p*k):=by
 rw[qo ((hs.drop _).take _),List.length_take,List.length_drop]
theorem Ea{p:Nat}{rs:List Rec}(hp:1<=p)(r:Rec){k:Nat}(h1:p*k<rs.length)(h2:rs.length<p*k+p):bz p (rs++[r])=dh (bz p rs) k (((rs.drop (p*k)).take p).flatten++r):=by
 apply List.ext_getElem?;intro i;have hk:k<=(bz p rs).length:=by rw[dU];exact Nat.le_of_lt ((eZ hp).2 h1)
 rw[ku _ _ _ hk,iN hp,iN hp,List.length_append,List.length_singleton];by_cases e:i=k
 ·grind [List.take_of_length_le]
 ·rw[if_neg e];rcases Nat.lt_or_gt_of_ne e with hlt | yS
  ·have:p*i+p<=p*k:=by rw[<- Nat.mul_succ];exact Nat.mul_le_mul_left _ hlt
   grind
  ·have:p*k+p<=p*i:=by rw[<- Nat.mul_succ];exact Nat.mul_le_mul_left _ yS
   grind
theorem xF{p:Nat}{rs:List Rec}(hp:1<=p)(r:Rec){k:Nat}(h:rs.length=p*k):bz p (rs++[r])=dh (bz p rs) k r/\(bz p rs).length=k:=by
 have hk:(bz p rs).length=k:=by
  rw[dU,h];have a:¬k<cy p (p*k):=fun e=>by grind [eZ]
  rcases Nat.eq_zero_or_pos k with rfl | hk
  ·omega
  ·have b:k-1<cy p (p*k):=(eZ hp).2 (by
    have:p*(k-1)+p=p*k:=by rw[<- Nat.mul_succ,show(k-1).succ=k by omega]
    omega)
   omega
 refine⟨?_,hk⟩;apply List.ext_getElem?;intro i;rw[ku _ _ _ ae,iN hp,iN hp,List.length_append,List.length_singleton];by_cases e:i=k
 ·grind [List.take_of_length_le]
 ·rw[if_neg e];rcases Nat.lt_or_gt_of_ne e with hlt | yS
  ·have:p*i+p<=p*k:=by rw[<- Nat.mul_succ];exact Nat.mul_le_mul_left _ hlt
   grind
  ·have:p*k+p<=p*i:=by rw[<- Nat.mul_succ];exact Nat.mul_le_mul_left _ yS
   grind
theorem Nq{p n:Nat}(hp:1<=p)(h:0<n):p*(cy p n-1)<n/\n<=p*(cy p n-1)+p/\1<=cy p n:=by
 have h1:0<cy p n:=(eZ hp).2 ae;have h2:cy p n-1<cy p n:=by omega
 have h3:¬cy p n<cy p n:=Nat.lt_irrefl _;refine⟨(eZ hp).1 h2,?_,h1⟩;rw[eZ hp]at h3;have:p*(cy p n-1)+p=p*cy p n:=by rw[<- Nat.mul_succ,show(cy p n-1).succ=cy p n by omega]
 omega
theorem Qv{p sz:Nat}{rs:List Rec}(hs:gB sz rs)(hp:1<=p){i:Nat}(hi:i<rs.length) :
 p*(i/p)<rs.length/\((((rs.drop (p*(i/p))).take p).flatten).drop (sz*(i%p))).take sz=rs[i]/\sz*(i%p)+sz<=(((rs.drop (p*(i/p))).take p).flatten).length:=by
 have h1:=Nat.div_add_mod i p;have h2:=Nat.mod_lt i (show 0<p by omega);have hl:i%p<((rs.drop (p*(i/p))).take p).length:=by grind
 refine⟨ae,?_,?_⟩
 ·rw[Qt ((hs.drop _).take _) hl];grind
 ·rw[qo ((hs.drop _).take _)];have:=Nat.mul_le_mul_left sz (show i%p+1<=_ from hl);omega
structure aF where
 t:UInt32
 h:UInt32
 x:UInt64
 m:UInt32
theorem aF.ext'{a b:aF}(h1:a.t=b.t)(h2:a.h=b.h)(h3:a.x=b.x)(h4:a.m=b.m):a=b:=by
 cases a;simp_all
def pk(by':Bool)(e:aF):Nat:=if by' then e.h.toNat*4294967296+e.t.toNat else e.t.toNat*4294967296+e.h.toNat
def rk(e:aF):Nat:=e.x.toNat*4294967296+(e.m.toNat+1)%4294967296
def same(a b:aF):Prop:=a.t=b.t/\a.h=b.h
theorem iA{b:Bool}{x y:aF}:pk b x=pk b y↔same x y:=by
 have h1:=x.t.toNat_lt;have h2:=x.h.toNat_lt;have h3:=y.t.toNat_lt;have h4:=y.h.toNat_lt;grind [pk,same,UInt32.toNat_inj]
theorem JW{x y:aF}(h:rk x=rk y):x.x=y.x/\x.m=y.m:=by
 have h1:=x.m.toNat_lt;have h2:=y.m.toNat_lt;grind [rk,UInt64.toNat_inj,UInt32.toNat_inj]
def dB(b:Bool)(x y:aF):Prop:=pk b x<pk b y\/pk b x=pk b y/\rk x<=rk y
theorem dB.refl(b:Bool)(x:aF):dB b x x:=.inr ⟨rfl,Nat.le_refl _⟩
theorem dB.trans{b:Bool}{x y z:aF}(h:dB b x y)(k:dB b y z):dB b x z:=by grind [dB]
structure dJ(b:Bool)(l out:List aF):Prop where
 gy:out.Pairwise (fun x y=>pk b x<pk b y)
 mem:∀e∈out,e∈l/\e.t≠e.h/\∀x∈l,same x e->rk e<=rk x
 all:∀x∈l,x.t≠x.h->∃e∈out,same e x
theorem Gj{α:Type}{f:α->Nat}{a c:List α}(ha:a.Pairwise (fun x y=>f x<f y))(hc:c.Pairwise (fun x y=>f x<f y))(h:∀x,x∈a↔x∈c):a=c:=by
 induction a generalizing c with
 |nil=>
   cases c with
   |nil=>rfl
   |cons y c=>have:=(h y).2 ah;grind
 |cons x a ih=>
   cases c with
   |nil=>grind
   |cons y c=>
     grind [List.pairwise_cons]
theorem same.symm{x y:aF}(h:same x y):same y x:=⟨h.1.symm,h.2.symm⟩
theorem same.trans{x y z:aF}(h:same x y)(k:same y z):same x z:=⟨h.1.trans k.1,h.2.trans k.2⟩
theorem same.loop{x y:aF}(h:same x y)(hx:x.t≠x.h):y.t≠y.h:=by rw[<- h.1,<- h.2];exact hx
theorem dJ.sub{b:Bool}{l a c:List aF}(ha:dJ b l a)(hc:dJ b l c):∀x∈a,x∈c:=fun x hx=>by
 obtain⟨h1,h2,h3⟩:=ha.mem x hx;obtain⟨e,he,hs⟩:=hc.all x h1 h2;obtain⟨g1,g2,g3⟩:=hc.mem e he;have h4:=h3 e g1 hs;have h5:=g3 x h1 hs.symm;have h6:=JW (Nat.le_antisymm h4 h5);rw[aF.ext' hs.symm.1 hs.symm.2 h6.1 h6.2];exact he
theorem dJ.unique{b:Bool}{l a c:List aF}(ha:dJ b l a)(hc:dJ b l c):a=c:=Gj ha.gy hc.gy fun x=>⟨ha.sub hc x,hc.sub ha x⟩
theorem dJ.congr{b:Bool}{l l' out:List aF}(h:dJ b l out)(hm:∀x,x∈l↔x∈l'):dJ b l' out:=
 ⟨h.gy,fun e he=>⟨(hm e).1 (h.mem e he).1,(h.mem e he).2.1,fun x hx=>(h.mem e he).2.2 x ((hm x).2 hx)⟩,fun x hx=>h.all x ((hm x).2 hx)⟩
theorem dJ.nil(b:Bool):dJ b [] []:=⟨List.Pairwise.nil,(fun _ h=>nomatch h),(fun _ h=>nomatch h)⟩
theorem dJ.trans{b b':Bool}{l m out:List aF}(h:dJ b' l m)(k:dJ b m out):dJ b l out:=
 ⟨k.gy,fun e he=>by
  grind [mem],fun x hx hn=>by
  obtain⟨e,he,hs⟩:=h.all x hx hn;obtain⟨e',he',hs'⟩:=k.all e he (hs.symm.loop hn);grind [same.trans]⟩
theorem dJ.both{b:Bool}{l1 l2 m1 m2 out:List aF}(h1:dJ b l1 m1)(h2:dJ b l2 m2)(k:dJ b (m1++m2) out):dJ b (l1++l2) out:=by
 refine⟨k.gy,fun e he=>?_,fun x hx hn=>?_⟩
 ·obtain⟨g1,g2,g3⟩:=k.mem e he;refine⟨?_,g2,fun x hx hs=>?_⟩
  ·grind [mem]
  ·have hn:x.t≠x.h:=hs.symm.loop g2;rcases List.mem_append.1 hx with hx | hx
   ·obtain⟨y,hy,Pu⟩:=h1.all x hx hn;have:=(h1.mem y hy).2.2 x hx Pu.symm;grind [same.trans]
   ·obtain⟨y,hy,Pu⟩:=h2.all x hx hn;have:=(h2.mem y hy).2.2 x hx Pu.symm;grind [same.trans]
 ·rcases List.mem_append.1 hx with hx | hx
  ·obtain⟨y,hy,Pu⟩:=h1.all x hx hn;obtain⟨e,he,hs⟩:=k.all y (List.mem_append_left _ hy) (Pu.symm.loop hn);grind [same.trans]
  ·obtain⟨y,hy,Pu⟩:=h2.all x hx hn;obtain⟨e,he,hs⟩:=k.all y (List.mem_append_right _ hy) (Pu.symm.loop hn);grind [same.trans]
def Gk(out:List aF)(e:aF):Prop:=e.t=e.h\/∃y,out.getLast? = some y/\same y e
open Classical in
noncomputable def sQ(out:List aF)(e:aF):List aF:=if Gk out e then out else out++[e]
noncomputable def fE(xs:List aF):List aF:=xs.foldl sQ []
theorem vK(xs:List aF)(e:aF):fE (xs++[e])=sQ (fE xs) e:=by grind [fE]
theorem vL{out:List aF}{e:aF}(h:Gk out e):sQ out e=out:=by grind [sQ]
theorem zD{out:List aF}{e:aF}(h:¬Gk out e):sQ out e=out++[e]:=by grind [sQ]
theorem Gl(out:List aF)(e:aF):(sQ out e).length<=out.length+1:=by
 grind [Gk,vL,zD]
theorem mD(xs:List aF):(fE xs).length<=xs.length:=by
 suffices h:∀(xs ys:List aF),(xs.foldl sQ ys).length<=ys.length+xs.length by grind [fE]
 intro xs;induction xs with
 |nil=>simp
 |cons x xs ih=>
   grind [Gl]
theorem dJ.put{b:Bool}{xs out:List aF}{e:aF}(h:dJ b xs out)(hs:∀x∈xs,dB b x e):dJ b (xs++[e]) (sQ out e):=by
 by_cases hsk:Gk out e
 ·rw[vL hsk];refine⟨h.gy,fun o ho=>⟨List.mem_append_left _ (h.mem o ho).1,(h.mem o ho).2.1,fun x hx Qw=>?_⟩,fun x hx hn=>?_⟩
  ·rcases List.mem_append.1 hx with hx | hx
   ·exact(h.mem o ho).2.2 x hx Qw
   ·rw[List.mem_singleton.1 hx]at Qw ⊢;have h1:=hs o (h.mem o ho).1;grind [iA,dB]
  ·rcases List.mem_append.1 hx with hx | hx
   ·grind [all]
   ·rw[List.mem_singleton.1 hx]at hn ⊢;rcases hsk with hl |⟨y,hy,hye⟩
    ·grind
    grind
 ·rw[zD hsk];have hn:e.t≠e.h:=fun h=>hsk (.inl h);have yS:∀o∈out,pk b o<pk b e:=fun o ho=>by
   have h1:=hs o (h.mem o ho).1;rcases Nat.lt_or_ge (pk b o) (pk b e) with hlt | zb
   ·omega
   ·exfalso
    have h2:pk b o=pk b e:=by grind [dB]
    rcases List.eq_nil_or_concat out with rfl |⟨r,y,hr⟩
    ·cases ho
    ·have hy:out.getLast? = some y:=by grind
     have hyo:pk b y<=pk b e:=by
      have h3:=hs y (h.mem y (by grind)).1;grind [dB]
     have hoy:o=y\/pk b o<pk b y:=by
      have h4:=h.gy;rw[hr,List.concat_eq_append,List.pairwise_append]at h4;rw[hr,List.concat_eq_append]at ho;rcases List.mem_append.1 ho with ho | ho
      ·exact .inr (h4.2.2 o ho y ah)
      grind
     rcases hoy with rfl | hoy
     ·exact hsk (.inr ⟨o,hy,iA.1 h2⟩)
     ·omega
  refine⟨?_,fun o ho=>?_,fun x hx hxn=>?_⟩
  ·grind [gy]
  ·rcases List.mem_append.1 ho with ho | ho
   ·grind [mem,iA]
   ·rw[List.mem_singleton.1 ho];refine⟨ah,hn,fun x hx Qw=>?_⟩;rcases List.mem_append.1 hx with hx | hx
    ·obtain⟨o',kN,hs'⟩:=h.all x hx (Qw.symm.loop hn);grind [iA,same.trans]
    grind
  ·rcases List.mem_append.1 hx with hx | hx
   ·grind [all]
   ·rw[List.mem_singleton.1 hx];exact⟨e,ah,rfl,rfl⟩
theorem vM{b:Bool}{xs:List aF}(h:xs.Pairwise (dB b)):dJ b xs (fE xs):=by
 suffices g:∀(n:Nat)(xs:List aF),xs.length=n->xs.Pairwise (dB b)->dJ b xs (fE xs) from g _ xs rfl h
 intro n;induction n with
 |zero=>
   intro xs hl _;obtain rfl:=List.eq_nil_of_length_eq_zero hl;exact dJ.nil b
 |succ n ih=>
   intro xs hl hp;rcases List.eq_nil_or_concat xs with rfl |⟨r,y,hr⟩
   ·grind
   ·rw[List.concat_eq_append]at hr;subst hr;rw[vK];rw[List.pairwise_append]at hp;exact(ih r (by grind) hp.1).put fun x hx=>hp.2.2 x hx y ah
noncomputable def aK(b:Bool)(l:List aF):List aF:=open Classical in fE (l.mergeSort (fun x y=>decide (dB b x y)))
theorem bU(b:Bool)(l:List aF):dJ b l (aK b l):=by
 unfold aK;refine(vM ?_).congr fun x=>List.mem_mergeSort;grind [List.pairwise_mergeSort,dB]
theorem dJ.eq{b:Bool}{l out:List aF}(h:dJ b l out):out=aK b l:=h.unique (bU b l)
end
section
open Go.RowKit Go.Maps Go.MapKept
open Go.ChangeMaps (setBlock heap_setBlock_same heap_setBlock_other)
abbrev iB:=Value×bY
def bJ(v:Value)(f:bY):List Value:=[.bool f.full,.string f.name,.int .i64 (f.k:Int),v,.int .i64 0,.bool f.bS,.bool f.used]
def rowOf:List iB->List Value
 | []=>[]
 |p::l=>bJ p.1 p.2++rowOf l
theorem tP(l:List iB):(rowOf l).length=7*l.length:=by
 induction l with
 |nil=>rfl
 |cons p l ih=>grind [rowOf,List.length_cons,bJ]
theorem C5{l:List iB}{i:Nat}{p:iB}(h:l[i]? = some p){j:Nat}(hj:j<7):(rowOf l)[7*i+j]? = (bJ p.1 p.2)[j]? := by
 induction l generalizing i with
 |nil=>cases h
 |cons q l ih=>
   rw[rowOf];cases i with
   |zero=>
     grind [bJ]
   |succ i=>
     rw[List.getElem?_append_right (by simp[bJ];omega),<- ih (i:=i) (by grind)];congr 1;simp[bJ];omega
theorem Nr{l:List iB}{i:Nat}{p q:iB}(h:l[i]? = some p){j:Nat}(hj:j<7){v:Value}(hv:(bJ p.1 p.2).set j v=bJ q.1 q.2):(rowOf l).set (7*i+j) v=rowOf (l.set i q):=by
 induction l generalizing i with
 |nil=>cases h
 |cons r l ih=>
   cases i with
   |zero=>
     cases h;rw[rowOf,List.set_cons_zero,rowOf,List.set_append_left _ _ (by grind [bJ])];grind
   |succ i=>
     rw[rowOf,List.set_cons_succ,rowOf,<- ih (i:=i) (by grind),List.set_append_right _ _ (by simp[bJ];omega)];congr 2;simp[bJ];omega
theorem zE{b:Nat}{t:TypeId}(vs:List Value):∀{w:World}{o:Nat}{cs:List Value},w.heap[b]? = some (.cells cs.toArray t)->o+vs.length<=cs.length ->
 (w.setCells b o vs).heap[b]? = some (.cells (cs.take o++(vs++cs.drop (o+vs.length))).toArray t):=by
 induction vs with
 |nil=>intro w o cs h _;simp[World.setCells,h]
 |cons v vs ih=>
   intro w o cs h ho;rw[List.length_cons]at ho;have h1:=aT h o v;rw[List.setIfInBounds_toArray]at h1;rw[World.setCells,ih h1 (by grind)];congr 3;have y7:cs.set o v=cs.take o++v::cs.drop (o+1):=List.set_eq_take_append_cons_drop.trans (by grind);have e1:(cs.set o v).take (o+1)=cs.take o++[v]:=by
    grind
   have e2:(cs.set o v).drop (o+1+vs.length)=cs.drop (o+(vs.length+1)):=by
    grind [List.drop_set_of_lt]
   simp_all
theorem Gm{l:List iB}{i:Nat}(h:i<l.length)(q:iB):(rowOf l).take (7*i)++(bJ q.1 q.2++(rowOf l).drop (7*i+7))=rowOf (l.set i q):=by
 induction l generalizing i with
 |nil=>grind
 |cons r l ih=>
   cases i with
   |zero=>
     rfl
   |succ i=>
     have t1:(bJ r.1 r.2++rowOf l).take (7*(i+1))=bJ r.1 r.2++(rowOf l).take (7*i):=by
      rfl
     have t2:(bJ r.1 r.2++rowOf l).drop (7*(i+1)+7)=(rowOf l).drop (7*i+7):=by
      rfl
     grind [rowOf]
section
variable {w w':World} {fb:Nat} {l:List iB}
def dH(w:World)(fb:Nat)(l:List iB):Prop:=∃t,w.heap[fb]? = some (.cells (rowOf l).toArray t)
theorem dH.range(h:dH w fb l){i:Nat}{p:iB}(hi:l[i]? = some p):w.rangeAt fb (7*i) (bJ p.1 p.2):=fun j v hv=>by
 obtain⟨t,h⟩:=h;have hj:j<7:=aN hv;rw[aq h,List.getElem?_toArray,C5 hi hj];exact hv
theorem dH.cell(h:dH w fb l){i:Nat}{p:iB}(hi:l[i]? = some p){j:Nat}{v:Value}(hv:(bJ p.1 p.2)[j]? = some v):w.cell? ⟨fb,7*i+j,none⟩=some v:=h.range hi j v hv
theorem dH.free(h:dH w fb l)(i:Nat):w.frozen? ⟨fb,i,none⟩=false:=by
 obtain⟨t,h⟩:=h;exact aO h i
theorem dH.lt(h:dH w fb l):fb<w.heap.size:=by
 obtain⟨t,h⟩:=h;grind
theorem dH.set(h:dH w fb l){i:Nat}{p q:iB}(hi:l[i]? = some p){j:Nat}(hj:j<7){v:Value}(hv:(bJ p.1 p.2).set j v=bJ q.1 q.2):dH (w.setCell ⟨fb,7*i+j,none⟩ v) fb (l.set i q):=by
 obtain⟨t,h⟩:=h;refine⟨t,?_⟩;rw[aT h,List.setIfInBounds_toArray,Nr hi hj hv]
theorem dH.Yp(h:dH w fb l){i:Nat}(hi:i<l.length)(q:iB):dH (w.setCells fb (7*i) (bJ q.1 q.2)) fb (l.set i q):=by
 obtain⟨t,h⟩:=h;refine⟨t,?_⟩;rw[zE _ h (by rw[tP];show 7*i+7<=_;omega)];congr 3;exact Gm hi q
theorem dH.kept{S:Nat->Prop}(h:dH w fb l)(ht:aH S w w')(hs:¬S fb):dH w' fb l:=by
 obtain⟨t,h⟩:=h;exact⟨t,ht.heap h hs⟩
end
theorem aH.setCells{S:Nat->Prop}{w w':World}(h:aH S w w')(b o:Nat)(vs:List Value)(hb:S b\/w.heap.size<=b):aH S w (w'.setCells b o vs):=by
 induction vs generalizing w' o with
 |nil=>exact h
 |cons v vs ih=>exact ih (h.setCell ⟨b,o,none⟩ v hb) (o+1)
abbrev jg:=bO prog 170 ew (fun i:Nat=>.int .i64 (i:Int))
def fU(fs:List bY)(m:List ((Name×Nat)×Nat)):Prop:=∀n k i,aA m (n,k)=some i ↔ ∃fr,fs[i]? = some fr/\fr.full=true/\fr.name=n/\fr.k=k
theorem Qx:(170:TypeId)<prog.types.size:=of_decide_eq_true ag
theorem Ns:(match prog.underlying 170 with | some (.array _ _) | some (.struct _)=>true | _=>false)=true:=by rw[Tryz.underlying170]
theorem jM:Keyed prog 170:=Keyed.of_law (deep_law_laid Tryz.FW (m:=2) ae Qx ag Ns)
theorem rq{s:ByteArray}{n:Nat}(h:s.size<=maxLen)(hn:n<9223372036854775808):Good prog 170 (ew (s,n)):=by
 have h1:prog.keyType 170=true:=by kernel_rfl
 have h2:prog.cellsOf 170=2:=by rfl
 have h3:prog.cellsOf 9=1:=by rfl
 have h4:prog.cellsOf 3=1:=by rfl
 have h5:(Lit.int .i64 (n:Int)).wf=true:=by
  have:(Lit.int .i64 (n:Int)).wf=(decide (-9223372036854775808<=(n:Int)) && decide ((n:Int)<=9223372036854775807)):=by rfl
  grind
 have hk:∀d,prog.keyLits (d+2) 170 [.string s,.int .i64 (n:Int)]=some [.string s.data.toList,.int .i64 (n:Int)]:=by
  intro d;simp[Program.keyLits,Tryz.underlying170,Tryz.underlying9,Tryz.underlying3,h2,h3,h4,h,h5]
 unfold Good ew keyOf;rw[Tryz.underlying170];simp only[h1,Value.formed,Tryz.underlying170,h2];have BK:prog.keyLits (prog.types.size+1) 170 (Value.agg #[.string s,.int .i64 (n:Int)]).cells.toList=some [.string s.data.toList,.int .i64 (n:Int)]:=hk (prog.types.size-1);simp_all
def cz(c:Nat):Prop:=c<10
theorem Gn{o:ar}{x:Nat}(h:o.In oZ x):o.In cz x:=by
 obtain⟨t,h1,h2⟩:=h;have h2:t.1<6:=h2;exact⟨t,h1,show t.1<10 by omega⟩
def dK(w:World)(pb db fb mb n hand mf:Nat):Prop:=
 ∃t,w.heap[pb]? = some (.cells #[ptrTo db,.slice (some ⟨fb,0,none⟩) n n,.map (some mb),.int .i64 (hand:Int),.int .i64 (mf:Int),.int .i64 0] t)
structure br(w:World)(pb db fb mb:Nat)(o:ar)(l:List iB)(hand mf:Nat)(d:Dsk):Prop where
 lK:cJ w db o d
 yq:o pb=some (6,0)
 r7:o fb=some (7,0)
 nY:o mb=some (8,0)
 head:dK w pb db fb mb l.length hand mf
 row:dH w fb l
 tQ:∃m,jg w mb m/\fU (l.map (·.2)) m
 each:∀p∈l,w.ownsRow 0 5 1 p.1 p.2.bytes.length (p.2.bytes.map bv)/\∀b,p.1.ownBlock=some b->o b=some (9,0)
 hand:hand<l.length
 most:l.length<=4096
 full:mf<=l.length
def aP(w:World)(pb db n:Nat)(o:ar)(d:Dsk)(L:aC):Prop:=
 ∃fb mb l hand mf,br w pb db fb mb o l hand mf d/\l.length=n/\Sound d (l.map (·.2)) L
section
variable {S:Nat->Prop} {w w':World} {o o':ar} {pb db fb mb:Nat} {l:List iB} {hand mf:Nat} {d d':Dsk} {L:aC}
theorem dK.kept{n:Nat}(h:dK w pb db fb mb n hand mf)(ht:aH S w w')(hs:¬S pb):dK w' pb db fb mb n hand mf:=by
 obtain⟨t,h⟩:=h;exact⟨t,ht.heap h hs⟩
theorem dK.cells{n:Nat}(h:dK w pb db fb mb n hand mf) :
 (w.cell? ⟨pb,0,none⟩=some (ptrTo db)/\w.cell? ⟨pb,1,none⟩=some (.slice (some ⟨fb,0,none⟩) n n)/\w.cell? ⟨pb,2,none⟩=some (.map (some mb))/\w.cell? ⟨pb,3,none⟩=some (.int .i64 (hand:Int))/\w.cell? ⟨pb,4,none⟩=some (.int .i64 (mf:Int))/\w.cell? ⟨pb,5,none⟩=some (.int .i64 0)) /\
   w.frozen? ⟨pb,3,none⟩=false/\w.frozen? ⟨pb,4,none⟩=false/\w.frozen? ⟨pb,5,none⟩=false:=by
 obtain⟨t,h⟩:=h;refine⟨⟨?_,?_,?_,?_,?_,?_⟩,aO h _,aO h _,aO h _⟩<;>rw[aq h]<;>rfl
theorem dK.Eb{n:Nat}(h:dK w pb db fb mb n hand mf)(a:Nat):dK (w.setCell ⟨pb,3,none⟩ (.int .i64 (a:Int))) pb db fb mb n a mf:=by
 obtain⟨t,h⟩:=h;exact⟨t,by rw[aT h];rfl⟩
theorem dK.Uw{n:Nat}(h:dK w pb db fb mb n hand mf)(a:Nat):dK (w.setCell ⟨pb,4,none⟩ (.int .i64 (a:Int))) pb db fb mb n hand a:=by
 obtain⟨t,h⟩:=h;exact⟨t,by rw[aT h];rfl⟩
theorem dK.Ux{n:Nat}(h:dK w pb db fb mb n hand mf):dK (w.setCell ⟨pb,5,none⟩ (.int .i64 0)) pb db fb mb n hand mf:=by
 obtain⟨t,h⟩:=h;exact⟨t,by rw[aT h];rfl⟩
theorem dK.lt{n:Nat}(h:dK w pb db fb mb n hand mf):pb<w.heap.size:=by
 obtain⟨t,h⟩:=h;grind
theorem br.owned(h:br w pb db fb mb o l hand mf d):∀x t,o x=some t->x<w.heap.size:=by
 obtain⟨_,_,_,hd⟩:=h.lK;exact hd.owned
theorem br.zn(h:br w pb db fb mb o l hand mf d):o db=some (0,0):=by
 obtain⟨_,_,_,hd⟩:=h.lK;exact hd.zn
theorem br.kept(h:br w pb db fb mb o l hand mf d)(ht:aH S w w')(hs:∀x,o.In cz x->¬S x)(ho:∀x t,o x=some t->o' x=some t)(hb:∀x t,o' x=some t->x<w'.heap.size):br w' pb db fb mb o' l hand mf d where
 lK:=h.lK.kept ht (fun x t hx hl=>hs x ⟨t,hx,show t.1<10 by omega⟩) ho hb
 yq:=ho _ _ h.yq
 r7:=ho _ _ h.r7
 nY:=ho _ _ h.nY
 head:=h.head.kept ht (hs _ ⟨_,h.yq,show 6<10 by decide⟩)
 row:=h.row.kept ht (hs _ ⟨_,h.r7,show 7<10 by decide⟩)
 tQ:=by
  obtain⟨m,h1,h2⟩:=h.tQ;exact⟨m,h1.turn ht (hs _ ⟨_,h.nY,show 8<10 by decide⟩),h2⟩
 each:=fun p hp=>⟨ht.ownsRow (h.each p hp).1 (fun b hb=>hs b ⟨_,(h.each p hp).2 b hb,show 9<10 by decide⟩),fun b hb=>ho _ _ ((h.each p hp).2 b hb)⟩
 hand:=h.hand
 most:=h.most
 full:=h.full
theorem aP.kept{n:Nat}(h:aP w pb db n o d L)(ht:aH S w w')(hs:∀x,o.In cz x->¬S x)(ho:∀x t,o x=some t->o' x=some t)(hb:∀x t,o' x=some t->x<w'.heap.size):aP w' pb db n o' d L:=by
 obtain⟨fb,mb,l,hand,mf,h,hl,g⟩:=h;exact⟨fb,mb,l,hand,mf,h.kept ht hs ho hb,hl,g⟩
theorem br.below(h:br w pb db fb mb o l hand mf d)(hb:Below w.heap.size w w'):br w' pb db fb mb o l hand mf d:=
 h.kept (S:=fun _=>False) (aH.aU hb) (fun _ _ h=>h) (fun _ _ h=>h) (fun x t hx=>Nat.lt_of_lt_of_le (h.owned x t hx) hb.size)
theorem aP.below{n:Nat}(h:aP w pb db n o d L)(hb:Below w.heap.size w w'):aP w' pb db n o d L:=by
 obtain⟨fb,mb,l,hand,mf,h,hl,g⟩:=h;exact⟨fb,mb,l,hand,mf,h.below hb,hl,g⟩
theorem ct.keep{n:Nat}(hg:ct n o o')(hb:∀x t,o x=some t->x<n):∀x t,o x=some t->o' x=some t:=fun x t hx=>by rw[hg x (hb x t hx)];exact hx
theorem br.zF(h:br w pb db fb mb o l hand mf d)(hd:cJ w' db o' d')(ht:aH (o.In oZ) w w')(hg:ct w.heap.size o o'):br w' pb db fb mb o' l hand mf d' where
 lK:=hd
 yq:=hg.keep h.owned _ _ h.yq
 r7:=hg.keep h.owned _ _ h.r7
 nY:=hg.keep h.owned _ _ h.nY
 head:=h.head.kept ht (ar.DW h.yq (show ¬6<6 by decide))
 row:=h.row.kept ht (ar.DW h.r7 (show ¬7<6 by decide))
 tQ:=by
  obtain⟨m,h1,h2⟩:=h.tQ;exact⟨m,h1.turn ht (ar.DW h.nY (show ¬8<6 by decide)),h2⟩
 each:=fun p hp=>⟨ht.ownsRow (h.each p hp).1 (fun b hb=>ar.DW ((h.each p hp).2 b hb) (show ¬9<6 by decide)),fun b hb=>hg.keep h.owned _ _ ((h.each p hp).2 b hb)⟩
 hand:=h.hand
 most:=h.most
 full:=h.full
theorem br.vD(h:br w pb db fb mb o l hand mf d)(ht:aH (·=pb) w w'){a c:Nat}(hh:dK w' pb db fb mb l.length a c)(ha:a<l.length)(hc:c<=l.length):br w' pb db fb mb o l a c d where
 lK:=h.lK.kept ht (fun x t hx hl=>ar.ne hx h.yq (fun e=>by grind)) (fun _ _ h=>h) (fun x t hx=>Nat.lt_of_lt_of_le (h.owned x t hx) ht.size)
 yq:=h.yq
 r7:=h.r7
 nY:=h.nY
 head:=hh
 row:=h.row.kept ht (ar.ne h.r7 h.yq af)
 tQ:=by
  obtain⟨m,h1,h2⟩:=h.tQ;grind [bO.turn,nY,yq]
 each:=fun p hp=>⟨ht.ownsRow (h.each p hp).1 (fun b hb=>ar.ne ((h.each p hp).2 b hb) h.yq af),(h.each p hp).2⟩
 hand:=ha
 most:=h.most
 full:=hc
theorem br.abR(h:br w pb db fb mb o l hand mf d)(ht:aH (fun x=>x=fb\/x=mb) w w'){l':List iB}(hl:l'.length=l.length)(hr:dH w' fb l')(ho:∀x t,o x=some t->o' x=some t)(hb:∀x t,o' x=some t->x<w'.heap.size)(hm:∃m,jg w' mb m/\fU (l'.map (·.2)) m)(he:∀p∈l',p∈l\/(w'.ownsRow 0 5 1 p.1 p.2.bytes.length (p.2.bytes.map bv)/\∀b,p.1.ownBlock=some b->o' b=some (9,0))):br w' pb db fb mb o' l' hand mf d where
 lK:=h.lK.kept ht (fun x t hx hl e=>by
  grind [r7,nY]) ho hb
 yq:=ho _ _ h.yq
 r7:=ho _ _ h.r7
 nY:=ho _ _ h.nY
 head:=by
  rw[hl];exact h.head.kept ht (fun e=>by
   grind [yq,r7,nY])
 row:=hr
 tQ:=hm
 each:=fun p hp=>by
  grind [aH.ownsRow,each,r7,nY]
 hand:=by rw[hl];exact h.hand
 most:=by grind [most]
 full:=by rw[hl];exact h.full
def Gp(w:World)(pb db n:Nat)(o:ar)(d':Dsk)(L':aC)(w':World):Prop:=
 ∃o',aP w' pb db n o' d' L'/\aH (o.In cz) w w'/\ct w.heap.size o o'
theorem Gp.of{n:Nat}(h:aP w' pb db n o d' L)(ht:aH (o.In cz) w w'):Gp w pb db n o d' L w':=⟨o,h,ht,ct.refl _ _⟩
theorem aH.aX(h:aH (o.In oZ) w w'):aH (o.In cz) w w':=h.mono fun _ _ hx=>Gn hx
end
end
section
open Go.RowKit Go.Maps Go.MapKept
open Go.ChangeMaps (setBlock heap_setBlock_same heap_setBlock_other)
def nr(w:World)(pf db:Nat)(name:Name):Prop:=∃t,w.heap[pf]? = some (.cells #[ptrTo db,.string name,.int .u32 (je name:Int)] t)
theorem nr.cells{w:World}{pf db:Nat}{name:Name}(h:nr w pf db name):w.cell? ⟨pf,0,none⟩=some (ptrTo db)/\w.cell? ⟨pf,1,none⟩=some (.string name)/\w.cell? ⟨pf,2,none⟩=some (.int .u32 (je name:Int)):=by
 obtain⟨t,h⟩:=h;refine⟨?_,?_,?_⟩<;>rw[aq h]<;>rfl
theorem nr.lt{w:World}{pf db:Nat}{name:Name}(h:nr w pf db name):pf<w.heap.size:=by
 obtain⟨t,h⟩:=h;exact(Array.getElem?_eq_some_iff.1 h).1
theorem nr.kept{S:Nat->Prop}{w w':World}{pf db:Nat}{name:Name}(h:nr w pf db name)(ht:aH S w w')(hs:¬S pf):nr w' pf db name:=by
 obtain⟨t,h⟩:=h;exact⟨t,ht.heap h hs⟩
theorem nr.below{w w':World}{pf db:Nat}{name:Name}(h:nr w pf db name)(hb:Below w.heap.size w w'):nr w' pf db name:=h.kept (S:=fun _=>False) (aH.aU hb) (fun h=>h)
theorem Gq(db:Nat)(name:Name)(w:World)(hs:name.size<=1000) :
 Calls prog 154 #[ptrTo db,.string name] w fun e w'=>∃pf,e=.returned (ptrTo pf)/\nr w' pf db name/\Below w.heap.size w w'/\w.heap.size<=pf:=by
 unfold ptrTo;go_enter func154,ntmps154;go_wp2_with fail;refine(Uk name _ hs).mono ?_;rintro e w1⟨rfl,hb1⟩;go_wp2;go_ret;exact⟨w1.heap.size,rfl,⟨_,heap_alloc_new _ _⟩,hb1.alloc hb1.size _,hb1.size⟩
def Yq(w:World)(db:Nat)(name:Name)(c:Nat)(e:Ending)(w':World):Prop:=
 ∃v,e=.returned (.tuple #[v,.int .i64 (c:Int)])/\Below w.heap.size w w'/\(c=0->∃pf,v=ptrTo pf/\nr w' pf db name/\w.heap.size<=pf)/\(c≠0->v=.pointer none)
def cA(d:Dsk)(name:Name):Nat:=if (d.sizeOf name).2≠0 then (d.sizeOf name).2 else if (d.sizeOf name).1%256≠0 then 7 else 0
theorem jN{w:World}{db:Nat}{o:ar}{d:Dsk}(h:cJ w db o d)(name:Name):(d.sizeOf name).1<=16777216/\(d.sizeOf name).2<=6:=by
 obtain⟨mf,ml,l,h⟩:=h;unfold Dsk.sizeOf;split
 ·exact⟨ah,ah⟩
 ·split
  ·exact⟨ah,ah⟩
  ·split
   ·exact⟨ah,ah⟩
   ·rename_i f hf
    refine⟨?_,ah⟩;have hg:aA d.files name=(aA l name).map (·.2):=by rw[<- h.strip];exact vE
    rw[hg]at hf;cases hm:aA l name with
    |none=>rw[hm]at hf;cases hf
    |some x=>
      rw[hm]at hf;cases hf;exact(h.each _ (eI hm)).most.1
theorem zG{w:World}{db:Nat}{o:ar}{d:Dsk}(h:cJ w db o d)(name:Name)(hs:name.size<=1000) :
 Calls prog 180 #[ptrTo db,.string name] w (Yq w db name (cA d name)):=by
 have H:=aa h;have hb:=jN h name;obtain⟨hb1,hb2⟩:=hb;have hc:=aa (show cA d name=if (d.sizeOf name).2≠0 then (d.sizeOf name).2 else if (d.sizeOf name).1%256≠0 then 7 else 0 from rfl);clear h;unfold ptrTo;have aM:=aa (F8 H.o name hs);generalize (d.sizeOf name).1=n at *;generalize (d.sizeOf name).2=c at *;generalize cA d name=r at *;by_cases h0:c=0
 ·subst h0;by_cases h1:n%256=0
  ·have h1':(n:Int)%256=0:=by omega
   have hr:r=0:=by rw[hc.o,if_neg ah,if_neg (by simp[h1])]
   have HR:=aa hr;have H1:=aa h1;clear hr h1;go_enter func180,ntmps180;go_wp2_with fail;refine aM.o.mono ?_;rintro e w1⟨rfl,hb3⟩;go_wp2_with fail;refine(Gq db name _ hs).mono ?_;rintro e w2⟨pf,rfl,hp,hb4,hl⟩;unfold ptrTo;go_wp2;go_ret2;rw[HR.o];exact⟨_,rfl,hb3.trans (hb4.mono hb3.size),fun _=>⟨pf,rfl,hp,Nat.le_trans hb3.size hl⟩,fun h=>absurd rfl h⟩
  ·have h1':¬(n:Int)%256=0:=by omega
   have hr:r=7:=by rw[hc.o,if_neg ah,if_pos h1]
   have HR:=aa hr;clear hr h1;go_enter func180,ntmps180;go_wp2_with fail;refine aM.o.mono ?_;rintro e w1⟨rfl,hb3⟩;go_wp2;go_ret2;rw[HR.o];exact⟨_,rfl,hb3,fun h=>absurd h af,fun _=>rfl⟩
 ·have h0':¬(c:Int)=0:=by omega
  have hr:r=c:=by rw[hc.o,if_pos h0]
  have HR:=aa hr;have H0:=aa h0;clear hr h0;go_enter func180,ntmps180;go_wp2_with fail;refine aM.o.mono ?_;rintro e w1⟨rfl,hb3⟩;go_wp2;go_ret2;rw[HR.o];exact⟨_,rfl,hb3,fun h=>absurd h H0.o,fun _=>rfl⟩
theorem ax{n:Int}(h1:-9223372036854775808<=n)(h2:n<=9223372036854775807):IntKind.i64.wrap n=n:=by
 simp[IntKind.wrap,IntKind.bits,IntKind.signed];omega
theorem qs{w:World}{db pf:Nat}{o:ar}{d:Dsk}{name:Name}(h:cJ w db o d)(hp:nr w pf db name)(hs:name.size<=1000) :
 Calls prog 181 #[ptrTo pf] w fun e w'=>e=.returned (.tuple #[.int .i64 (((d.sizeOf name).1/256:Nat):Int),.int .i64 ((d.sizeOf name).2:Int)])/\Below w.heap.size w w':=by
 have H:=aa h;have HP:=aa hp;obtain⟨hb1,hb2⟩:=jN h name;have aM:Hid (∀W,cJ W db o d->Calls prog 228 #[ptrTo db,.string name] W fun e w'=>e=.returned (.tuple #[.int .i64 ((d.sizeOf name).1:Int),.int .i64 ((d.sizeOf name).2:Int)])/\Below W.heap.size W w'):=aa (fun W hW=>F8 hW name hs);clear h hp;unfold ptrTo at aM ⊢;generalize (d.sizeOf name).1=n at *;generalize (d.sizeOf name).2=c at *;go_enter func181,ntmps181;go_wp2;refine cQ (Below w.heap.size w) ag ag (aj.drew) ?_;iterate 3 (refine qz ?_)
 refine qz ?_ (fun w' hw'=>by have hc:=(HP.o.below hw').cells.1;unfold ptrTo at hc;go_simp<;>rfl);iterate 3 (refine qz ?_)
 refine qz ?_ (fun w' hw'=>by have hc:=(HP.o.below hw').cells.2.1;go_simp<;>rfl);refine qw (fun w' hw'=>(aM.o w' (H.o.below hw')).mono (fun e w'' h=>⟨h.1,hw'.trans (h.2.mono hw'.size)⟩)) ?_;iterate 5 (refine qz ?_)
 refine wpQuiet_nil ?_;intro w3 hw3;go_wp2;go_ret2;exact⟨ah,hw3⟩
def aQ:Prop:=∀{w:World}{db:Nat}{o:ar}{d:Dsk},cJ w db o d->∀(name:Name),name.size<=1000->∀(off:Nat),off<=1099511627776->∀(sv:Value)(bs:List UInt8),Rd w sv bs->bs.length<=1099511627776->(∀b,sv.ownBlock=some b->o b=none) ->
    Calls prog 230 #[ptrTo db,.string name,.int .i64 (off:Int),sv] w fun e w'=>e=.returned (.int .i64 ((d.write name off bs).2:Int))/\cx w db o (d.write name off bs).1 w'
theorem cx.after{w w1 w2:World}{db:Nat}{o:ar}{d:Dsk}(hb:Below w.heap.size w w1)(h:cx w1 db o d w2):cx w db o d w2:=by
 obtain⟨o',h1,h2,h3⟩:=h;exact⟨o',h1,(aH.aU hb).trans h2 (fun _ _ hx=>hx),fun x hx=>h3 x (Nat.lt_of_lt_of_le hx hb.size)⟩
theorem cx.then{w w1 w2:World}{db:Nat}{o:ar}{d:Dsk}(h:cx w db o d w1)(hb:Below w1.heap.size w1 w2):cx w db o d w2:=by
 obtain⟨o',h1,h2,h3⟩:=h;exact⟨o',h1.below hb,h2.bN hb,h3⟩
theorem Ec{w:World}{db:Nat}{o:ar}{d:Dsk}(h:cJ w db o d)(name:Name)(hs:name.size<=1000) :
 Calls prog 105 #[ptrTo db,.string name] w fun e w'=>(∃v,e=.returned (.tuple #[v,.int .i64 ((d.create name).2:Int)]))/\cx w db o (d.create name).1 w':=by
 have aM:=aa (JN h name hs);clear h;generalize (d.create name).1=d' at *;generalize (d.create name).2=c at *;unfold ptrTo at *;by_cases h0:c=0
 ·subst h0;go_enter func105,ntmps105;go_wp2_with fail;refine aM.o.mono ?_;rintro e w1⟨rfl,hp⟩;go_wp2_with fail;refine(Gq db name _ hs).mono ?_;rintro e w2⟨pf,rfl,-,hb,-⟩;unfold ptrTo;go_wp2;go_ret2;exact⟨⟨_,rfl⟩,hp.then hb⟩
 ·have h0':¬(c:Int)=0:=by omega
  clear h0;go_enter func105,ntmps105;go_wp2_with fail;refine aM.o.mono ?_;rintro e w1⟨rfl,hp⟩;go_wp2;go_ret2;exact⟨⟨_,rfl⟩,hp⟩
theorem Nt{w:World}{db pf:Nat}{o:ar}{d:Dsk}{name:Name}(h:cJ w db o d)(hp:nr w pf db name)(hs:name.size<=1000)(k n:Nat)(b:Pg)(hz:d.sizeOf name=(n,0))(hk:k<n/256)(hn:n<=16777216)(hr:d.read name (256*k) 256=(dt (je name) k b,0))(hb:b.length<=240) :
 Calls prog 196 #[ptrTo pf,.int .i64 (k:Int)] w (sN w b):=by
 have aM:=aa (qs h hp hs);rw[hz]at aM;have H:=aa h;have HP:=aa hp;have Uy:=Ge name;have gS:Hid (∀W,cJ W db o d->Calls prog 237 #[ptrTo db,.string name,.int .i64 ((k:Int)*256),.int .i64 256] W (F9 W (dt (je name) k b,0))):=aa (fun W hW=>by
  have:=Qb hW name hs (256*k) 256 ae;rw[hr,show((256*k:Nat):Int)=(k:Int)*256 by omega]at this;exact this)
 have Yr:=aa (DX (je name) k b hb Uy ae);clear h hp hz hr;unfold ptrTo at *;generalize hT:je name=tag at *;have HT:=aa hT;clear hT;generalize dt tag k b=p at *;obtain⟨q,hq⟩:∃q,q=n/256:=⟨_,rfl⟩;rw[<- hq]at hk aM;have hqb:q<=65536:=by omega
 clear hq hn;dsimp only at aM;have BK:¬((k:Int) >= (q:Int)):=by omega
 go_enter func196,ntmps196;go_wp2_with fail;refine aM.o.mono ?_;rintro e w1⟨rfl,hb1⟩;have H1:=aa (H.o.below hb1);have JX:=aa (HP.o.below hb1);have cS:=aa hb1;clear hb1;obtain⟨hc0,hc1,hc2⟩:=JX.o.cells;unfold ptrTo at hc0;go_wp2;have Qy:IntKind.i64.wrap ((k:Int)*256)=(k:Int)*256:=ax ae ae;refine cE (Below w1.heap.size w1) 10 rfl ag ag (aj.drew) ?_;simp only[List.take_succ_cons,List.take_zero];iterate 3 (refine qz ?_)
 refine qz ?_ (fun w' hw'=>by have hc:=(JX.o.below hw').cells.1;unfold ptrTo at hc;go_simp<;>rfl);iterate 3 (refine qz ?_)
 refine qz ?_ (fun w' hw'=>by have hc:=(JX.o.below hw').cells.2.1;go_simp<;>rfl);iterate 2 (refine qz ?_)
 refine wpQuiet_nil ?_;intro w2 hw2;refine⟨_,_,rfl,(by go_simp<;>exact⟨rfl,rfl⟩),?_⟩;refine(gS.o _ (H1.o.below hw2)).mono ?_;rintro e w3⟨v3,rfl,iJ,hb3⟩;obtain⟨a3,c3,rfl⟩:=az iJ;refine⟨_,rfl,?_⟩;go_simp;iterate 5 (refine qz ?_)
 refine wpQuiet_nil ?_;have cX:Hid (Below w.heap.size w w2):=aa (cS.o.trans (hw2.mono cS.o.size));have jC:Hid (Below w.heap.size w w3):=aa (cX.o.trans (hb3.mono cX.o.size));have mB:=aa iJ;have hc3:w3.cell? ⟨pf,2,none⟩=some (.int .u32 (tag:Int)):=by
  have:=((JX.o.below hw2).below hb3).cells.2.2;rw[HT.o]at this;exact this
 have X4:k<4294967296:=by omega
 clear hw2 hb3 iJ hc0 hc1 hc2 Qy;go_wp2_with fail;refine(P3 tag k _ b p _ (fp mB.o) Yr.o hb Uy ae).mono ?_;rintro e w4⟨v4,rfl,Bl,hb4⟩;go_wp2;go_ret2;exact⟨v4,rfl,aV Bl jC.o.size,jC.o.trans (hb4.mono jC.o.size)⟩
theorem Ed(d:Dsk)(name:Name)(k:Nat)(b:Pg)(n c:Nat)(h:d.sizeOf name=(n,c)):dA d name k b=if c≠0 then (d,c) else if n/256<k then (d,1) else d.write name (256*k) (dt (je name) k b):=by
 unfold dA;rw[h]
theorem Gr(HW:aQ){w:World}{db pf:Nat}{o:ar}{d:Dsk}{name:Name}(h:cJ w db o d)(hp:nr w pf db name)(hs:name.size<=1000)(k:Nat)(hk:k<65536)(sv:Value)(b:Pg)(hb:b.length<=240)(hv:Rd w sv b) :
 Calls prog 182 #[ptrTo pf,.int .i64 (k:Int),sv] w fun e w'=>e=.returned (.int .i64 ((dA d name k b).2:Int))/\cx w db o (dA d name k b).1 w':=by
 have aM:=aa (qs h hp hs);obtain⟨hn,hc6⟩:=jN h name;obtain⟨n,c,hz⟩:∃n c,d.sizeOf name=(n,c):=⟨_,_,rfl⟩;have Ys:=aa (Ed d name k b n c hz);rw[hz]at aM hn hc6;have H:=aa h;have HP:=aa hp;have HV:=aa hv;obtain⟨a0,c0,rfl,-⟩:=hv;have Uy:=Ge name;have gS:Hid (∀W sv p,p.length=256->cJ W db o d->Rd W sv p->(∀b,sv.ownBlock=some b->o b=none)->Calls prog 230 #[ptrTo db,.string name,.int .i64 ((k:Int)*256),sv] W fun e w'=>e=.returned (.int .i64 ((d.write name (256*k) p).2:Int))/\cx W db o (d.write name (256*k) p).1 w'):=aa (fun W sv p hp hW hv Nl=>by
  have:=HW hW name hs (256*k) ae sv p hv ae Nl;rw[show((256*k:Nat):Int)=(k:Int)*256 by omega]at this;exact this)
 have BI:=aa (dR (je name) k b hb);clear h hp hz;unfold ptrTo at *;generalize hT:je name=tag at *;have HT:=aa hT;clear hT;obtain⟨q,hq⟩:∃q,q=n/256:=⟨_,rfl⟩;rw[<- hq]at aM Ys;have hqb:q<=65536:=by omega
 clear hq hn;dsimp only at aM hc6;by_cases h0:c=0
 ·subst h0;by_cases hkq:q<k
  ·have hr:dA d name k b=(d,1):=by rw[Ys.o,if_neg ah,if_pos hkq]
   have HR:=aa hr;clear hr Ys BI;go_enter func182,ntmps182;go_wp2_with fail;refine aM.o.mono ?_;rintro e w1⟨rfl,hb1⟩;go_wp2;go_ret;rw[HR.o];exact⟨rfl,.of (H.o.below hb1) (aH.aU hb1)⟩
  ·have hr:dA d name k b=d.write name (256*k) (dt tag k b):=by rw[Ys.o,if_neg ah,if_neg hkq]
   have HR:=aa hr;have X4:k<4294967296:=by omega
   clear hr Ys;go_enter func182,ntmps182;go_wp2_with fail;refine aM.o.mono ?_;rintro e w1⟨rfl,hb1⟩;have cS:=aa hb1;have hc2:=(HP.o.below hb1).cells.2.2;rw[HT.o]at hc2;clear hb1;go_wp2_with fail;refine(P1 tag k _ b _ (HV.o.below cS.o) hb Uy ae).mono ?_;rintro e w2⟨v2,rfl,ko,hb2⟩;have cX:Hid (Below w.heap.size w w2):=aa (cS.o.trans (hb2.mono cS.o.size));have p7:=aa (aV ko cS.o.size);have pP:=aa (HP.o.below cX.o);generalize hP:dt tag k b=p at *;obtain⟨a2,c2,rfl⟩:=az ko;clear hP ko hb2 hc2;go_wp2;have Qy:IntKind.i64.wrap ((k:Int)*256)=(k:Int)*256:=ax ae ae;refine cE (Below w2.heap.size w2) 11 rfl ag ag (aj.drew) ?_;simp only[List.take_succ_cons,List.take_zero];iterate 3 (refine qz ?_)
   refine qz ?_ (fun w' hw'=>by have hc:=(pP.o.below hw').cells.1;unfold ptrTo at hc;go_simp<;>rfl);iterate 3 (refine qz ?_)
   refine qz ?_ (fun w' hw'=>by have hc:=(pP.o.below hw').cells.2.1;go_simp<;>rfl);iterate 3 (refine qz ?_)
   refine wpQuiet_nil ?_;intro w3 hw3;refine⟨_,_,rfl,(by go_simp<;>exact⟨rfl,rfl⟩),?_⟩;have jC:Hid (Below w.heap.size w w3):=aa (cX.o.trans (hw3.mono cX.o.size));have mB:Hid (w3.ownsRow w.heap.size 5 1 (.slice a2 p.length c2) p.length (p.map bv)):=aa (aV (aW p7.o hw3) (Nat.le_refl _));clear hw3 Qy;refine(gS.o _ _ p BI.o (H.o.below jC.o) (fp mB.o) (fun b hb=>eK (fun x t hx=>by
    obtain⟨_,_,_,hd⟩:=H.o;exact hd.owned x t hx) (aL mB.o b hb).2)).mono ?_
   rintro e w4⟨rfl,oO⟩;have xD:=aa (cx.after jC.o oO);clear oO;refine⟨_,rfl,?_⟩;go_simp;refine qz ?_;refine wpQuiet_nil ?_;go_wp2;go_ret;rw[HR.o];exact⟨rfl,xD.o⟩
 ·have h0':¬(c:Int)=0:=by omega
  have hr:dA d name k b=(d,c):=by rw[Ys.o,if_pos h0]
  have HR:=aa hr;clear hr Ys h0 BI;go_enter func182,ntmps182;go_wp2_with fail;refine aM.o.mono ?_;rintro e w1⟨rfl,hb1⟩;go_wp2;go_ret;rw[HR.o];exact⟨rfl,.of (H.o.below hb1) (aH.aU hb1)⟩
theorem JY{w:World}{db pf:Nat}{o:ar}{d:Dsk}{name:Name}(h:cJ w db o d)(hp:nr w pf db name)(hs:name.size<=1000) :
 Calls prog 122 #[ptrTo pf] w fun e w'=>e=.returned (.int .i64 ((d.sync name).2:Int))/\cx w db o (d.sync name).1 w':=by
 have H:=aa h;have HP:=aa hp;have aM:Hid (∀W,cJ W db o d->Calls prog 185 #[ptrTo db,.string name] W fun e w'=>e=.returned (.int .i64 ((d.sync name).2:Int))/\cx W db o (d.sync name).1 w'):=aa (fun W hW=>P9 hW name hs);clear h hp;unfold ptrTo at *;generalize (d.sync name).1=d' at *;generalize (d.sync name).2=c at *;go_enter func122,ntmps122;go_wp2;refine cE (Below w.heap.size w) 8 rfl ag ag (aj.drew) ?_;simp only[List.take_succ_cons,List.take_zero];iterate 3 (refine qz ?_)
 refine qz ?_ (fun w' hw'=>by have hc:=(HP.o.below hw').cells.1;unfold ptrTo at hc;go_simp<;>rfl);iterate 3 (refine qz ?_)
 refine qz ?_ (fun w' hw'=>by have hc:=(HP.o.below hw').cells.2.1;go_simp<;>rfl);refine wpQuiet_nil ?_;intro w3 hw3;refine⟨_,_,rfl,(by go_simp<;>exact⟨rfl,rfl⟩),?_⟩;refine(aM.o _ (H.o.below hw3)).mono ?_;rintro e w4⟨rfl,oO⟩;have xD:=aa (cx.after hw3 oO);clear oO hw3;refine⟨_,rfl,?_⟩;go_simp;refine qz ?_;refine wpQuiet_nil ?_;go_wp2;go_ret;exact⟨rfl,xD.o⟩
theorem dH.seven{w:World}{fb:Nat}{l:List iB}(h:dH w fb l){k:Nat}{v:Value}{f:bY}(hi:l[k]? = some (v,f)) :
 w.cell? ⟨fb,k*7,none⟩=some (.bool f.full)/\w.cell? ⟨fb,k*7+1,none⟩=some (.string f.name)/\w.cell? ⟨fb,k*7+2,none⟩=some (.int .i64 (f.k:Int))/\w.cell? ⟨fb,k*7+3,none⟩=some v /\
  w.cell? ⟨fb,k*7+4,none⟩=some (.int .i64 0)/\w.cell? ⟨fb,k*7+5,none⟩=some (.bool f.bS)/\w.cell? ⟨fb,k*7+6,none⟩=some (.bool f.used):=by
 rw[Nat.mul_comm k 7];exact⟨h.cell (j:=0) hi rfl,h.cell (j:=1) hi rfl,h.cell (j:=2) hi rfl,h.cell (j:=3) hi rfl,h.cell (j:=4) hi rfl,h.cell (j:=5) hi rfl,h.cell (j:=6) hi rfl⟩
def Shaped(l:List iB):Prop:=∀p∈l,∃a c,p.1=.slice a p.2.bytes.length c
theorem br.shaped{w:World}{pb db fb mb:Nat}{o:ar}{l:List iB}{hand mf:Nat}{d:Dsk}(h:br w pb db fb mb o l hand mf d):Shaped l:=fun p hp=>az (h.each p hp).1
theorem Shaped.get{l:List iB}(h:Shaped l){n k:Nat}(hn:l.length=n)(hk:k<n):∃a c f,l[k]? = some (.slice a f.bytes.length c,f):=by
 have yo:k<l.length:=by omega
 obtain⟨a,c,e⟩:=h l[k] (List.getElem_mem yo);exact⟨a,c,l[k].2,by rw[List.getElem?_eq_getElem yo,<- e]⟩
theorem dH.below{w w':World}{fb:Nat}{l:List iB}(h:dH w fb l)(hb:Below w.heap.size w w'):dH w' fb l:=h.kept (S:=fun _=>False) (aH.aU hb) (fun h=>h)
def Qz(n:Nat)(w:World)(e:Ending)(w':World):Prop:=∃r dd:Nat,r<=n/\e=.returned (.tuple #[.int .i64 (r:Int),.int .i64 0,.int .i64 (dd:Int)])/\Below w.heap.size w w'
theorem QA{w:World}{pb db fb mb:Nat}{o:ar}{l:List iB}{hand mf:Nat}{d:Dsk}(h:br w pb db fb mb o l hand mf d) :
 Calls prog 281 #[ptrTo pb] w (Qz l.length w):=by
 have vO:=aa h.row;have hn:=h.most;have HS:=aa h.shaped;obtain⟨⟨-,hc1,-⟩,-⟩:=h.head.cells;clear h;generalize hN:l.length=n at *;have HN:=aa hN;clear hN;unfold ptrTo;go_enter func281,ntmps281;go_wp2;go_loopw [2,3,4,14] (fun a b c i wr=>∃k r dd:Nat,k<=n/\r<=k/\dd<=k/\a=.int .i64 (r:Int)/\b=.int .i64 0/\c=.int .i64 (dd:Int)/\i=.int .i64 (k:Int)/\Below w.heap.size w wr) (fun _ _ _ i _=>n-(intOf i).toNat)
 case atStart=>exact⟨0,0,0,ae,ae,ae,rfl,rfl,rfl,rfl,Below.refl _ _⟩
 case round=>
  obtain⟨k,r,dd,hk,hr,hd,rfl,rfl,rfl,rfl,hb⟩:=hrel;by_cases hlt:k<n
  ·obtain⟨a,c,f,hi⟩:=HS.o.get HN.o hlt;obtain⟨h0,h1,h2,h3,h4,h5,h6⟩:=(vO.o.below hb).seven hi;have zr:wr.cell? ⟨pb,1,none⟩=some (.slice (some ⟨fb,0,none⟩) n n):=by rw[hb.cell (p:=⟨pb,1,none⟩) (World.block_lt_of_cell? _ _ hc1)];exact hc1
   have HB:=aa hb;clear hi hb;cases fq:f.full<;>cases fS:f.bS<;>rw[fq]at h0<;>rw[fS]at h5<;>clear fq fS;all_goals
    go_wp2;go_roundw
    case rel=>first
     |exact⟨k+1,r,dd,ae,ae,ae,rfl,rfl,rfl,by go_num,HB.o.alloc HB.o.size _⟩
     |exact⟨k+1,r+1,dd,ae,ae,ae,by go_num,rfl,rfl,by go_num,HB.o.alloc HB.o.size _⟩
     |exact⟨k+1,r,dd+1,ae,ae,ae,rfl,rfl,by go_num,by go_num,HB.o.alloc HB.o.size _⟩
     |exact⟨k+1,r+1,dd+1,ae,ae,ae,by go_num,rfl,by go_num,by go_num,HB.o.alloc HB.o.size _⟩
    case measure=>simp[intOf];omega
  ·obtain rfl:k=n:=by omega
   go_wp2;go_ret3
   exact⟨r,dd,hr,rfl,hb⟩
theorem QB{w:World}{pb db fb mb:Nat}{o:ar}{l:List iB}{hand mf:Nat}{d:Dsk}(h:br w pb db fb mb o l hand mf d) :
 Calls prog 240 #[ptrTo pb] w fun e w'=>e=.returned (.tuple #[])/\(∃Yt,br w' pb db fb mb o l hand Yt d)/\aH (·=pb) w w':=by
 have aM:=aa (QA h);have H:=aa h;have Yb:=h.full;have hn:=h.most;clear h;unfold ptrTo at *;go_enter func240,ntmps240;go_wp2_with fail;refine aM.o.mono ?_;rintro e w1⟨r,dd,hr,rfl,hb⟩;have H1:=aa (H.o.below hb);obtain⟨⟨-,-,-,-,gZ,Bq⟩,-,CU,hf5⟩:=H1.o.head.cells;have HB:=aa hb;clear hb;have Nj:=aa H1.o.head.lt;obtain⟨m,hm⟩:∃m:Nat,m=max mf r:=⟨_,rfl⟩;have BI:m<=l.length:=by omega
 have HM:=aa hm;clear hm;go_wp2_with (refine np rfl _ _ _ _ rfl mf r rfl rfl rfl rfl ?_;intro E hE;rw[<- HM.o]at hE;subst hE);go_end0
 exact⟨rfl,⟨E,H1.o.vD (((aH.refl (·=pb) w1).setCell _ _ (.inl rfl)).setCell _ _ (.inl rfl)) ((H1.o.head.Uw E).Ux) H1.o.hand BI⟩,(((aH.aU (S:=(·=pb)) HB.o).setCell ⟨pb,4,none⟩ _ (.inl rfl)).setCell ⟨pb,5,none⟩ _ (.inl rfl))⟩
theorem map_set{l:List iB}{i:Nat}{q:iB}:(l.set i q).map (·.2)=(l.map (·.2)).set i q.2:=by simp
theorem cq{l:List iB}{i:Nat}{p:iB}(h:l[i]? = some p):(l.map (·.2))[i]? = some p.2:=by grind
theorem fU.del{fs:List bY}{m:List ((Name×Nat)×Nat)}(h:fU fs m){i:Nat}{fr:bY}(hi:fs[i]? = some fr)(hf:fr.full=true):fU (fs.set i bY.none) (b7 m (fr.name,fr.k)):=by
 intro n k j;rw[cO,eY (aN hi)];have hme:=(h fr.name fr.k i).2 ⟨fr,hi,hf,rfl,rfl⟩;constructor
 ·intro hj;by_cases e:(n,k)=(fr.name,fr.k)
  ·grind
  ·rw[if_neg e]at hj;obtain⟨fj,h1,h2,h3,h4⟩:=(h n k j).1 hj;grind
 ·rintro⟨fj,h1,h2,h3,h4⟩;by_cases hne:j=i
  ·rw[if_pos hne]at h1;cases h1;cases h2
  ·rw[if_neg hne]at h1;have hj:=(h n k j).2 ⟨fj,h1,h2,h3,h4⟩;grind
theorem fU.put{fs:List bY}{m:List ((Name×Nat)×Nat)}(h:fU fs m){i:Nat}{fr x:bY}(hi:fs[i]? = some fr)(hf:fr.full=false)(hx:x.full=true)(hn:aA m (x.name,x.k)=none):fU (fs.set i x) (aS m (x.name,x.k) i):=by
 intro n k j;rw[ay,eY (aN hi)];constructor
 ·intro hj;by_cases e:(n,k)=(x.name,x.k)
  ·grind
  ·rw[if_neg e]at hj;obtain⟨fj,h1,h2,h3,h4⟩:=(h n k j).1 hj;grind
 ·rintro⟨fj,h1,h2,h3,h4⟩;by_cases hne:j=i
  ·grind
  ·rw[if_neg hne]at h1;have hj:=(h n k j).2 ⟨fj,h1,h2,h3,h4⟩;grind
theorem fU.same{fs:List bY}{m:List ((Name×Nat)×Nat)}(h:fU fs m){i:Nat}{fr x:bY}(hi:fs[i]? = some fr)(h1:x.full=fr.full)(h2:x.name=fr.name)(h3:x.k=fr.k):fU (fs.set i x) m:=by
 intro n k j;rw[h n k j,eY (aN hi)];grind
theorem dH.Md{w:World}{fb:Nat}{l:List iB}(h:dH w fb l){i:Nat}(hi:i<l.length)(q:iB):dH (w.setCells fb (i*7) (bJ q.1 q.2)) fb (l.set i q):=by
 grind [Yp]
theorem br.tR{w w':World}{pb db fb mb:Nat}{o o':ar}{l:List iB}{hand mf:Nat}{d:Dsk}(h:br w pb db fb mb o l hand mf d){i:Nat}{q:iB}(hr:dH w' fb (l.set i q))(ht:aH (fun x=>x=fb\/x=mb) w w')(ho:∀x t,o x=some t->o' x=some t)(hb:∀x t,o' x=some t->x<w'.heap.size)(hm:∃m,jg w' mb m/\fU ((l.map (·.2)).set i q.2) m)(hq:w'.ownsRow 0 5 1 q.1 q.2.bytes.length (q.2.bytes.map bv)/\∀b,q.1.ownBlock=some b->o' b=some (9,0)) :
 br w' pb db fb mb o' (l.set i q) hand mf d:=
 h.abR ht (List.length_set) hr ho hb (by simp_all) (fun p hp=>by
  grind)
theorem vP{w:World}{pb db fb mb:Nat}{o:ar}{l:List iB}{hand mf:Nat}{d:Dsk}(h:br w pb db fb mb o l hand mf d){i:Nat}{v:Value}{f:bY}(hi:l[i]? = some (v,f))(hf:f.full=true)(hs:f.name.size<=1000)(hk:f.k<9223372036854775808) :
 Calls prog 95 #[ptrTo pb,.int .i64 (i:Int)] w fun e w'=>e=.returned (.tuple #[])/\br w' pb db fb mb o (l.set i (.slice none 0 0,bY.none)) hand mf d/\aH (fun x=>x=fb\/x=mb) w w':=by
 have H:=aa h;have HI:=aa hi;have nZ:i<l.length:=aN hi;have vO:=aa h.row;obtain⟨⟨-,hc1,hc2,-⟩,-⟩:=h.head.cells;obtain⟨h0,h1,h2,h3,h4,h5,h6⟩:=h.row.seven hi;obtain⟨m,dY,cP⟩:=h.tQ;have eo:=aa dY;have eu:=aa cP;have hg:=aa (rq (s:=f.name) (n:=f.k) (by grind [maxLen]) hk);have HF:=aa hf;clear h hi dY cP h0 h3 h4 h5 h6 hf;unfold ptrTo;generalize hN:l.length=n at *;have HN:=aa hN;clear hN;go_enter func95,ntmps95;go_wp2;go_still_tail 12,(by rfl)
 refine sJ _ rfl _ _ _ rfl 3 jM fF Tryz.underlying148 mb m rfl eo.o (f.name,f.k) rfl hg.o ?_;intro es clock hm;have hT:aH (·=mb) w (setBlock { w with drawn:=w.drawn+1 } mb (.map es clock)):=(aH.refl (·=mb) w).drew.setBlock mb _ (.inl rfl);have eF:=aa hm;have q9:=aa hT;clear hm hT;generalize setBlock { w with drawn:=w.drawn+1 } mb (.map es clock)=w3 at *;have Br:=aa (vO.o.kept q9.o (ar.ne H.o.r7 H.o.nY af));have zr:w3.cell? ⟨pb,1,none⟩=some (.slice (some ⟨fb,0,none⟩) n n):=q9.o.cell hc1 (ar.ne H.o.yq H.o.nY af);clear hc1 hc2 h1 h2;obtain⟨k0,k1,k2,k3,k4,k5,k6⟩:=Br.o.seven HI.o;have kz:∀j,w3.frozen? ⟨fb,j,none⟩=false:=Br.o.free;go_wp2;go_end0
 have hrow:dH (w3.setCells fb (i*7) (bJ (.slice none 0 0) bY.none)) fb (l.set i (.slice none 0 0,bY.none)):=Br.o.Md (by grind [Hid.out]) (.slice none 0 0,bY.none);have hturn:aH (fun x=>x=fb\/x=mb) w (w3.setCells fb (i*7) (bJ (.slice none 0 0) bY.none)):=(q9.o.mono (fun x _ e=>.inr e)).setCells fb _ _ (.inl (.inl rfl));have hmap:jg (w3.setCells fb (i*7) (bJ (.slice none 0 0) bY.none)) mb (b7 m (f.name,f.k)):=eF.o.turn ((aH.refl (·=fb) w3).setCells fb _ _ (.inl rfl)) (ar.ne H.o.nY H.o.r7 af);exact⟨rfl,H.o.tR hrow hturn (fun _ _ h=>h) (fun x t hx=>Nat.lt_of_lt_of_le (H.o.owned x t hx) hturn.size) ⟨_,hmap,eu.o.del (cq HI.o) HF.o⟩ ⟨ownsRow_nil _ _ _,fun b hb=>by grind [Value.ownBlock]⟩,hturn⟩
theorem dH.drew{w:World}{fb:Nat}{l:List iB}(h:dH w fb l):dH w.drew fb l:=h
theorem fU.none{fs:List bY}{m:List ((Name×Nat)×Nat)}(h:fU fs m){n:Name}{k:Nat}(hn:∀(j:Nat)(fj:bY),fs[j]? = some fj->fj.full=true->fj.name=n->fj.k=k->False):aA m (n,k)=none:=by
 cases e:aA m (n,k) with
 |none=>rfl
 |some j=>
   obtain⟨fj,h1,h2,h3,h4⟩:=(h n k j).1 e;grind
theorem Gs{w:World}{pb db fb mb:Nat}{o:ar}{l:List iB}{hand mf:Nat}{d:Dsk}(h:br w pb db fb mb o l hand mf d){i:Nat}{p:iB}(hi:l[i]? = some p)(hf:p.2.full=false)(f:bY){a:Option Addr}{c base:Nat}(hv:w.ownsRow base 5 1 (.slice a f.bytes.length c) f.bytes.length (f.bytes.map bv))(mm:∀b,(Value.slice a f.bytes.length c).ownBlock=some b->o b=none)(Gi:∀(j:Nat)(fj:bY),(l.map (·.2))[j]? = some fj->fj.full=true->fj.name=f.name->fj.k=f.k->False)(hs:f.name.size<=1000)(hk:f.k<9223372036854775808)(b0:Bool) :
 Calls prog 198 #[ptrTo pb,.int .i64 (i:Int),.agg #[.bool b0,.string f.name,.int .i64 (f.k:Int),.slice a f.bytes.length c,.int .i64 0,.bool f.bS,.bool f.used]] w fun e w'=>e=.returned (.tuple #[]) /\
  (∃Yt,br w' pb db fb mb (o.put (.slice a f.bytes.length c) (9,0)) (l.set i (.slice a f.bytes.length c,{ f with full:=true })) hand Yt d)/\aH (fun x=>x=fb\/x=mb\/x=pb) w w':=by
 have H:=aa h;have HI:=aa hi;have nZ:i<l.length:=aN hi;have vO:=aa h.row;obtain⟨⟨-,hc1,hc2,-⟩,-⟩:=h.head.cells;obtain⟨m,dY,cP⟩:=h.tQ;have eo:=aa dY;have eu:=aa cP;have HV:=aa hv;have vQ:=aa mm;have Yu:=aa Gi;have hg:=aa (rq (s:=f.name) (n:=f.k) (by grind [maxLen]) hk);have HF:=aa hf;have HOW:=aa h.owned;have Nu:=h.head.lt;have agX:=h.row.lt;have agY:=dY.lt;have zu:pb≠fb:=ar.ne h.yq h.r7 af;have j5:pb≠mb:=ar.ne h.yq h.nY af;have Pv:mb≠fb:=ar.ne h.nY h.r7 af;have JX:=aa zu;have HP3:=aa Pv;clear h hi dY cP hf hv mm Gi zu j5 Pv;unfold ptrTo;generalize hN:l.length=n at *;have HN:=aa hN;clear hN;go_enter func198,ntmps198;go_wp2;have rT:Below w.heap.size w (w.alloc (.cells #[.bool true,.string f.name,.int .i64 (f.k:Int),.slice a f.bytes.length c,.int .i64 0,.bool f.bS,.bool f.used] 172)):=aj.alloc (Nat.le_refl _) _;have hx:=heap_alloc_new w (.cells #[.bool true,.string f.name,.int .i64 (f.k:Int),.slice a f.bytes.length c,.int .i64 0,.bool f.bS,.bool f.used] 172);generalize w.alloc (.cells #[.bool true,.string f.name,.int .i64 (f.k:Int),.slice a f.bytes.length c,.int .i64 0,.bool f.bS,.bool f.used] 172)=W1 at *;obtain⟨bx,Me⟩:∃bx,bx=w.heap.size:=⟨_,rfl⟩;rw[<- Me]at hx;have hxf:bx≠fb:=by omega
 have hxm:bx≠mb:=by omega
 have Pw:bx≠pb:=by omega
 have x0:W1.cell? ⟨bx,0,none⟩=some (.bool true):=by rw[aq hx];rfl
 have x1:W1.cell? ⟨bx,1,none⟩=some (.string f.name):=by rw[aq hx];rfl
 have x2:W1.cell? ⟨bx,2,none⟩=some (.int .i64 (f.k:Int)):=by rw[aq hx];rfl
 have x3:W1.cell? ⟨bx,3,none⟩=some (.slice a f.bytes.length c):=by rw[aq hx];rfl
 have x4:W1.cell? ⟨bx,4,none⟩=some (.int .i64 0):=by rw[aq hx];rfl
 have x5:W1.cell? ⟨bx,5,none⟩=some (.bool f.bS):=by rw[aq hx];rfl
 have x6:W1.cell? ⟨bx,6,none⟩=some (.bool f.used):=by rw[aq hx];rfl
 have cS:=aa rT;have nu:=aa (vO.o.below rT);have ni:W1.cell? ⟨pb,1,none⟩=some (.slice (some ⟨fb,0,none⟩) n n):=by grind [Below.cell]
 have Mf:W1.cell? ⟨pb,2,none⟩=some (.map (some mb)):=by grind [Below.cell]
 rw[<- Me];have HXF:=aa hxf;obtain⟨q,hq⟩:∃q:iB,l[i]? = some q:=⟨_,HI.o⟩;obtain⟨qv,qf⟩:=q;obtain⟨k0,k1,k2,k3,k4,k5,k6⟩:=nu.o.seven hq;have kz:∀j,W1.frozen? ⟨fb,j,none⟩=false:=nu.o.free;clear hx rT Me hxf hxm Pw hc1 hc2 hq;go_still_tail 7,(by rfl)
 go_wp2;change Code.wp _ _ _ _ (World.drew (World.setCells W1 fb (i*7) (bJ (.slice a f.bytes.length c) { f with full:=true })));have hrow:dH (World.drew (W1.setCells fb (i*7) (bJ (.slice a f.bytes.length c) { f with full:=true }))) fb (l.set i (.slice a f.bytes.length c,{ f with full:=true })):=(nu.o.Md (by grind [Hid.out]) (.slice a f.bytes.length c,{ f with full:=true })).drew;have mq:aH (·=fb) W1 (World.drew (W1.setCells fb (i*7) (bJ (.slice a f.bytes.length c) { f with full:=true }))):=((aH.refl (·=fb) W1).setCells fb _ _ (.inl rfl)).drew;generalize World.drew (W1.setCells fb (i*7) (bJ (.slice a f.bytes.length c) { f with full:=true }))=W2 at *;have e2:W2.cell? ⟨pb,2,none⟩=some (.map (some mb)):=mq.cell Mf JX.o;have y1:W2.cell? ⟨bx,1,none⟩=some (.string f.name):=mq.cell x1 HXF.o;have y2:W2.cell? ⟨bx,2,none⟩=some (.int .i64 (f.k:Int)):=mq.cell x2 HXF.o;have JZ:Hid (jg W2 mb m):=aa ((eo.o.kept (cS.o.block mb agY)).turn mq HP3.o);have HRW:=aa hrow;have nM:Hid (aH (fun x=>x=fb\/x=mb) w W2):=aa ((aH.aU cS.o).trans mq (fun x _ e=>.inl e));have TV:Hid (W2.ownsRow 0 5 1 (.slice a f.bytes.length c) f.bytes.length (f.bytes.map bv)):=aa (mq.ownsRow (aV (aW HV.o cS.o) (Nat.zero_le _)) (fun b hb e=>by
  have h1:=vQ.o b hb;rw[e,H.o.r7]at h1;cases h1))
 clear hrow mq x0 x1 x2 x3 x4 x5 x6 k0 k1 k2 k3 k4 k5 k6 kz ni Mf;go_still_tail 7,(by rfl)
 refine eJ _ rfl _ _ _ _ rfl 3 jM fF Tryz.underlying148 mb m rfl JZ.o (f.name,f.k) i rfl rfl hg.o ?_;intro es clock hm;have hT:aH (·=mb) W2 (setBlock { W2 with drawn:=W2.drawn+1 } mb (.map es clock)):=(aH.refl (·=mb) W2).drew.setBlock mb _ (.inl rfl);have eF:=aa hm;have q9:=aa hT;clear hm hT;generalize setBlock { W2 with drawn:=W2.drawn+1 } mb (.map es clock)=W3 at *;have uX:Hid (aH (fun x=>x=fb\/x=mb) w W3):=aa (nM.o.trans q9.o (fun x _ e=>.inr e));have HP:Hid (br W3 pb db fb mb (o.put (.slice a f.bytes.length c) (9,0)) (l.set i (.slice a f.bytes.length c,{ f with full:=true })) hand mf d):=aa (H.o.tR (HRW.o.kept q9.o (fun e=>HP3.o e.symm)) uX.o
  (ar.tI vQ.o) (ar.vF (fun x t hx=>Nat.lt_of_lt_of_le (HOW.o x t hx) uX.o.size) (fun b hb=>Nat.lt_of_lt_of_le (aL TV.o b hb).1 q9.o.size))
  ⟨_,eF.o,eu.o.put (x:={ f with full:=true }) (cq HI.o) HF.o rfl (eu.o.none Yu.o)⟩
  ⟨q9.o.ownsRow TV.o (fun b hb e=>by
   have h1:=vQ.o b hb;rw[e,H.o.nY]at h1;cases h1),fun b hb=>ar.zt hb⟩)
 have aM:=aa (QB HP.o);unfold ptrTo at aM;clear e2 y1 y2;go_wp2_with fail;refine aM.o.mono ?_;rintro e W4⟨rfl,⟨Yt,oO⟩,tG⟩;have xD:=aa oO;have D4:=aa tG;clear oO tG;go_wp2;go_end0
 exact⟨rfl,⟨Yt,xD.o⟩,(uX.o.mono (fun x _ e=>e.elim .inl (fun e=>.inr (.inl e)))).trans D4.o (fun x _ e=>.inr (.inr e))⟩
def zH(w:World)(db:Nat)(d:Dsk)(name:Name)(e:Ending)(w':World):Prop:=
 ∃(v:Value)(n:Nat),e=.returned (.tuple #[v,.int .i64 (n:Int),.int .i64 (cA d name:Int)])/\Below w.heap.size w w' /\
  (cA d name=0->n=(d.sizeOf name).1/256/\∃pf,v=ptrTo pf/\nr w' pf db name/\w.heap.size<=pf)
theorem Gt{d:Dsk}{name:Name}(h:cA d name=0):(d.sizeOf name).2=0:=by
 unfold cA at h;split at h
 ·exact h
 ·rename_i h2;omega
theorem sR{w:World}{pb db fb mb:Nat}{o:ar}{l:List iB}{hand mf:Nat}{d:Dsk}(h:br w pb db fb mb o l hand mf d)(name:Name)(hs:name.size<=1000) :
 Calls prog 119 #[ptrTo pb,.string name] w (zH w db d name):=by
 have H:=aa h;obtain⟨⟨hc0,-⟩,-⟩:=h.head.cells;have aM:=aa (zG h.lK name hs);have hsz:=jN h.lK name;obtain⟨ag0,-⟩:=hsz;clear h;unfold ptrTo at *;by_cases hz:cA d name=0
 ·have hz2:=Gt hz;have HZ:=aa hz;have HZ2:=aa hz2;rw[hz]at aM;clear hz hz2;go_enter func119,ntmps119;go_wp2_with fail;refine aM.o.mono ?_;rintro e w1⟨v,rfl,hb1,hy,-⟩;obtain⟨pf,rfl,hp,hl⟩:=hy rfl;have cS:=aa hb1;have HP:=aa hp;have gS:=aa (qs (H.o.below hb1).lK hp hs);rw[HZ2.o]at gS;have WJ:=aa (show pf=pf from rfl);clear hb1 hp hy;unfold ptrTo at *;generalize hq:(d.sizeOf name).1/256=q at *;have HQ:=aa hq;clear hq;go_wp2_with fail;refine gS.o.mono ?_;rintro e w2⟨rfl,hb2⟩;go_wp2;go_ret3
  refine⟨_,q,?_,cS.o.trans (hb2.mono cS.o.size),fun _=>⟨HQ.o.symm,pf,rfl,HP.o.below hb2,hl⟩⟩;rw[HZ.o];rfl
 ·have hz':¬(cA d name:Int)=0:=by omega
  have HZ:=aa hz;generalize hq:cA d name=q at *;have HQ:=aa hq;clear hz hq;go_enter func119,ntmps119;go_wp2_with fail;refine aM.o.mono ?_;rintro e w1⟨v,rfl,hb1,-,hy⟩;obtain rfl:=hy HZ.o;go_wp2;go_ret3
  exact⟨_,0,by rw[HQ.o];rfl,hb1,fun h=>absurd (HQ.o.symm.trans h) HZ.o⟩
theorem zI{w:World}{pb db fb mb:Nat}{o:ar}{l:List iB}{hand mf:Nat}{d:Dsk}(h:br w pb db fb mb o l hand mf d)(name:Name)(hs:name.size<=1000) :
 Calls prog 71 #[ptrTo pb,.string name] w fun e w'=>e=.returned (.int .i64 ((d.create name).2:Int))/\cx w db o (d.create name).1 w':=by
 obtain⟨⟨hc0,-⟩,-⟩:=h.head.cells;have aM:=aa (Ec h.lK name hs);clear h;unfold ptrTo at *;generalize (d.create name).1=d' at *;generalize (d.create name).2=c at *;go_enter func71,ntmps71;go_wp2_with fail;refine aM.o.mono ?_;rintro e w1⟨⟨v,rfl⟩,hp⟩;have HP:=aa hp;clear hp;go_wp2;go_ret;exact⟨rfl,HP.o⟩
def gO(name:Name)(n:Nat)(f:bY):Nat:=if f.full=true/\f.bS=true/\f.name=name then max n (f.k+1) else n
def eT(name:Name)(n0:Nat)(fs:List bY):Nat:=fs.foldl (gO name) n0
theorem Ee(name:Name)(n0:Nat){fs:List bY}{k:Nat}{f:bY}(h:fs[k]? = some f):eT name n0 (fs.take (k+1))=gO name (eT name n0 (fs.take k)) f:=by
 have hk:=aN h;have e:fs[k]=f:=by
  rw[List.getElem?_eq_getElem hk]at h;exact Option.some.inj h
 unfold eT;rw[List.take_succ_eq_append_getElem hk,List.foldl_append,e];rfl
theorem J1(name:Name){B:Nat}(fs:List bY)(h:∀f∈fs,f.k<B):∀n0,n0<=B->eT name n0 fs<=B:=by
 induction fs with
 |nil=>intro n0 hn;exact hn
 |cons f fs ih=>
   intro n0 hn;have hf:=h f ah;unfold eT at ih ⊢;rw[List.foldl_cons];refine ih (fun g hg=>h g (by simp[hg])) _ ?_;unfold gO;split<;>omega
theorem qu{a b:ByteArray}(h:a≠b):(a.toList == b.toList)=false:=by
 cases e:(a.toList == b.toList) with
 |false=>rfl
 |true=>exact absurd (WideShapes.bytes_inj (by rw[<- ByteArray.toList_eq,<- ByteArray.toList_eq];exact eq_of_beq e)) h
theorem C6{w:World}{pb db fb mb:Nat}{o:ar}{l:List iB}{hand mf:Nat}{d:Dsk}(h:br w pb db fb mb o l hand mf d)(hks:∀p∈l,p.2.k<65536)(name:Name)(hs:name.size<=1000) :
 Calls prog 92 #[ptrTo pb,.string name] w fun e w'=>e=.returned (.tuple #[.int .i64 ((if cA d name=0 then eT name ((d.sizeOf name).1/256) (l.map (·.2)) else 0:Nat):Int),.int .i64 (cA d name:Int)])/\Below w.heap.size w w':=by
 have H:=aa h;have vO:=aa h.row;have hn:=h.most;have HS:=aa h.shaped;have HKS:=aa hks;obtain⟨⟨-,hc1,-⟩,-⟩:=h.head.cells;have aM:=aa (sR h name hs);obtain⟨hsz,-⟩:=jN h.lK name;clear h hks;unfold ptrTo at *;generalize hN:l.length=n at *;have HN:=aa hN;clear hN;by_cases hz:cA d name=0
 ·rw[if_pos hz];have HZ:=aa hz;clear hz;go_enter func92,ntmps92;go_wp2_with fail;refine aM.o.mono ?_;rintro e w1⟨v,q,rfl,hb1,hy⟩;obtain⟨hq,pf,rfl,-,-⟩:=hy HZ.o;have Ye:q<=65536:=by omega
  have HQ:=aa hq;rw[HZ.o];have cS:=aa hb1;have ni:w1.cell? ⟨pb,1,none⟩=some (.slice (some ⟨fb,0,none⟩) n n):=by rw[hb1.cell (p:=⟨pb,1,none⟩) (World.block_lt_of_cell? _ _ hc1)];exact hc1
  have nu:=aa (vO.o.below hb1);clear hb1 hy hq hc1 aM;unfold ptrTo;have hbound:Hid (∀k,eT name q ((l.map (·.2)).take k)<=65536):=aa fun k=>J1 name _ (fun f hf=>by
   obtain⟨p,hp,rfl⟩:=List.mem_map.1 (List.mem_of_mem_take hf);exact HKS.o p hp) q Ye
  go_wp2;go_loopw [7,28] (fun a i wr=>∃k:Nat,k<=n/\i=.int .i64 (k:Int)/\a=.int .i64 ((eT name q ((l.map (·.2)).take k):Nat):Int)/\Below w1.heap.size w1 wr) (fun _ i _=>n-(intOf i).toNat)
  case atStart=>exact⟨0,Nat.zero_le _,rfl,rfl,Below.refl _ _⟩
  case round=>
   obtain⟨k,hk,rfl,rfl,hb⟩:=hrel;by_cases hlt:k<n
   ·obtain⟨a,c,f,hi⟩:=HS.o.get HN.o hlt;obtain⟨h0,h1,h2,h3,h4,h5,h6⟩:=(nu.o.below hb).seven hi;have Uz:wr.cell? ⟨pb,1,none⟩=some (.slice (some ⟨fb,0,none⟩) n n):=by rw[hb.cell (p:=⟨pb,1,none⟩) (World.block_lt_of_cell? _ _ ni)];exact ni
    have UA:f.k<65536:=HKS.o _ (List.mem_of_getElem? hi);have HST:=aa (Ee name q (cq hi));have Yv:=hbound.o k;have HB:=aa hb;clear hi hb;obtain⟨t,ht⟩:∃t,t=eT name q ((l.map (·.2)).take k):=⟨_,rfl⟩;rw[<- ht]at HST Yv ⊢;clear ht;obtain⟨full,nm,fk,bs,bS,used⟩:=f;dsimp only at *;by_cases uZ:nm=name;case' pos=>have WK:(nm.toList == name.toList)=true:=by rw[uZ];exact beq_self_eq_true _
    case' neg=>have WK:(nm.toList == name.toList)=false:=qu uZ
    all_goals
     have Gu:=aa uZ;clear uZ;cases full<;>cases bS
    all_goals
     go_wp2_with (refine np rfl _ _ _ _ rfl t (fk+1) rfl rfl rfl rfl ?_;intro E hE;have HE:=aa hE;clear hE);go_roundw
     case rel=>
      refine⟨k+1,ae,by go_num,?_,HB.o.alloc HB.o.size _⟩;have uZ:=Gu.o;rw[HST.o];first
       | (simp[gO];done)
       | (simp[gO,uZ];done)
       | (rw[HE.o];simp[gO,uZ];done)
     case measure=>simp[intOf];omega
   ·obtain rfl:k=n:=by omega
    go_wp2;go_ret2;refine⟨?_,cS.o.trans (hb.mono cS.o.size)⟩;rw[List.take_of_length_le (by rw[List.length_map,HN.o];exact Nat.le_refl _),HZ.o,<- HQ.o];rfl
 ·rw[if_neg hz];have hz':¬(cA d name:Int)=0:=by omega
  go_enter func92,ntmps92;go_wp2_with fail;refine aM.o.mono ?_;rintro e w1⟨v,q2,rfl,hb1,-⟩;go_wp2;go_ret2;exact⟨rfl,hb1⟩
end
end Go.Proofs.YthkkgdpomhhjjaaGreatDoor
namespace Go.Proofs
open Go.Shelf
def Tryz.tS:Go.Shelf.Ren:=⟨fun | 6=>183 | 15=>87 | 14=>231 | 28=>135 | 29=>136 | 20=>268 | 21=>269 | 22=>270 | 23=>271 | 24=>272 | 25=>273 | 26=>274 | 27=>275 | 46=>295 | 47=>192 | 48=>193 | 49=>296 | 50=>297 | 57=>314 | n=>n,fun | 22=>214 | 24=>3 | 25=>272 | 3=>3 | 39=>159 | 0=>0 | 53=>26 | 55=>62 | 4=>4 | 46=>221 | 45=>220 | 50=>225 | 5=>5 | 9=>9 | 66=>280 | 70=>284 | 76=>313 | 77=>98 | n=>n,fun | n=>n⟩
theorem Tryz.Gv:Go.Proofs.SlLaysF.n6 prog Tryz.tS:={
 mixed:=by kernel_rfl
 f6:=⟨Tryz.f183.name,af,func183.trans ak⟩
 f14:=⟨Tryz.f231.name,af,func231.trans ak⟩
 f15:=func87.trans ak
 f20:=⟨Tryz.f268.name,af,func268.trans ak⟩
 f21:=⟨Tryz.f269.name,af,func269.trans ak⟩
 f22:=⟨Tryz.f270.name,af,func270.trans ak⟩
 f23:=⟨Tryz.f271.name,af,func271.trans ak⟩
 f24:=⟨Tryz.f272.name,af,func272.trans ak⟩
 f25:=⟨Tryz.f273.name,af,func273.trans ak⟩
 f26:=⟨Tryz.f274.name,af,func274.trans ak⟩
 f27:=⟨Tryz.f275.name,af,func275.trans ak⟩
 f28:=func135.trans ak
 f29:=func136.trans ak
 f46:=⟨Tryz.f295.name,af,func295.trans ak⟩
 f47:=func192.trans ak
 f48:=func193.trans ak
 f49:=⟨Tryz.f296.name,af,func296.trans ak⟩
 f50:=⟨Tryz.f297.name,af,func297.trans ak⟩
 f57:=⟨Tryz.f314.name,af,func314.trans ak⟩
 t0:=Tryz.underlying0
 a0:=Tryz.isAgg0
 z0:=Tryz.sizeOf0
 v0:=Tryz.zeroValue0
 t3:=Tryz.underlying3
 a3:=Tryz.isAgg3
 z3:=Tryz.sizeOf3
 v3:=Tryz.zeroValue3
 t4:=Tryz.underlying4
 a4:=Tryz.isAgg4
 z4:=Tryz.sizeOf4
 v4:=Tryz.zeroValue4
 t5:=Tryz.underlying5
 a5:=Tryz.isAgg5
 z5:=Tryz.sizeOf5
 v5:=Tryz.zeroValue5
 t9:=Tryz.underlying9
 a9:=Tryz.isAgg9
 z9:=Tryz.sizeOf9
 v9:=Tryz.zeroValue9
 t22:=Tryz.underlying214
 a22:=Tryz.isAgg214
 z22:=Tryz.sizeOf214
 v22:=Tryz.zeroValue214
 a24:=Tryz.isAgg3
 z24:=Tryz.sizeOf3
 t25:=Tryz.underlying272
 a25:=Tryz.isAgg272
 z25:=Tryz.sizeOf272
 v25:=Tryz.zeroValue272
 t39:=Tryz.underlying159
 a39:=Tryz.isAgg159
 z39:=Tryz.sizeOf159
 v39:=Tryz.zeroValue159
 t45:=Tryz.underlying220
 a45:=Tryz.isAgg220
 z45:=Tryz.sizeOf220
 v45:=Tryz.zeroValue220
 t46:=Tryz.underlying221
 a46:=Tryz.isAgg221
 z46:=Tryz.sizeOf221
 v46:=Tryz.zeroValue221
 t50:=Tryz.underlying225
 a50:=Tryz.isAgg225
 z50:=Tryz.sizeOf225
 v50:=Tryz.zeroValue225
 t53:=Tryz.underlying26
 a53:=Tryz.isAgg26
 z53:=Tryz.sizeOf26
 v53:=Tryz.zeroValue26
 t55:=Tryz.underlying62
 a55:=Tryz.isAgg62
 z55:=Tryz.sizeOf62
 v55:=Tryz.zeroValue62
 t66:=Tryz.underlying280
 a66:=Tryz.isAgg280
 z66:=Tryz.sizeOf280
 v66:=Tryz.zeroValue280
 t70:=Tryz.underlying284
 a70:=Tryz.isAgg284
 z70:=Tryz.sizeOf284
 v70:=Tryz.zeroValue284
 t76:=Tryz.underlying313
 a76:=Tryz.isAgg313
 z76:=Tryz.sizeOf313
 v76:=Tryz.zeroValue313
 t77:=Tryz.underlying98
 a77:=Tryz.isAgg98
 z77:=Tryz.sizeOf98
 v77:=Tryz.zeroValue98 }
end Go.Proofs
namespace Go.Proofs.YthkkgdpomhhjjaaGreatDoor
open Go.Proofs.Tryz
section
open Go.RowKit
section
variable {α:Type} [Inhabited α]
theorem holds_of_block(enc:α->Value){w:World}{g:Nat}{cur:Array Value}{e:TypeId}{ss:List α}(hb:w.heap[g]? = some (.cells cur e (0,0)))(ht:cur.toList.take ss.length=ss.map enc):Go.Sort.Holds enc w g 0 ss.toArray:=by
 intro j hj;have hj':j<ss.length:=by omega
 refine⟨?_,by grind [World.frozen?]⟩;have h1:(cur.toList.take ss.length)[j]? = (ss.map enc)[j]? := by rw[ht]
 grind [World.cell?]
theorem heap_sorted(enc:α->Value){w:World}{g n:Nat}{os:Array Obj}{cur:Array Value}{e:TypeId}{fr:Nat×Nat}(d:Array α)(hb:w.heap[g]? = some (.cells cur e fr)) :
 (Go.Sort.grow (Go.Sort.putRow enc (Go.Sort.ahead w n) g 0 d) os).heap[g]? = some (.cells (Go.Sort.putCells enc 0 d cur) e fr):=by
 grind [Go.Sort.heap_grow_old,Go.Sort.putRow,Go.Sort.mapBlock,Go.Sort.ahead,Go.Sort.onCells]
theorem xG(enc:α->Value){w:World}{g n:Nat}{os:Array Obj}(d:Array α):aH (·=g) w (Go.Sort.grow (Go.Sort.putRow enc (Go.Sort.ahead w n) g 0 d) os):=by
 refine⟨rfl,rfl,rfl,ah,fun k hk hne=>?_⟩;grind [Go.Sort.heap_grow_old,Go.Sort.putRow,Go.Sort.mapBlock,Go.Sort.ahead]
theorem take_putCells(enc:α->Value)(cur:Array Value)(ts:List α)(h:ts.length<=cur.size):(Go.Sort.putCells enc 0 ts.toArray cur).toList.take ts.length=ts.map enc:=by
 apply List.ext_getElem?;grind [Go.Sort.putCells]
theorem ownsRow_sorted(enc:α->Value){w:World}{base g cap n:Nat}{e:TypeId}{os:Array Obj}{cur:Array Value}{ss ts:List α}(hl:ts.length=ss.length)(hbase:base<=g)(hb:w.heap[g]? = some (.cells cur e (0,0)))(h1:ss.length<=cap)(h2:cap<=maxLen)(h3:cur.size=cap*1) :
 (Go.Sort.grow (Go.Sort.putRow enc (Go.Sort.ahead w n) g 0 ts.toArray) os).ownsRow base e 1 (.slice (some ⟨g,0,none⟩) ss.length cap) ss.length (ts.map enc):=
 ⟨by grind,.inr ⟨g,cap,_,rfl,hbase,heap_sorted enc _ hb,h1,h2,by grind [Go.Sort.putCells],by grind [take_putCells]⟩⟩
end
def QC{α:Type}[Inhabited α](enc:α->Value)(cf:α->α->Int)(w:World)(base:Nat)(elem:TypeId)(g len cap:Nat)(ss:List α)(e:Ending)(w':World):Prop:=
 e=.returned (.tuple #[])/\∃ts:List α,ts.Perm ss/\ts.Pairwise (fun x y=>¬cf y x<0)/\w'.ownsRow base elem 1 (.slice (some ⟨g,0,none⟩) len cap) len (ts.map enc)/\aH (·=g) w w'
theorem Ef{α:Type}[Inhabited α](enc:α->Value)(h1:OneCell enc)(cf:α->α->Int)(hO:Go.Sort.SWO (ltOf cf))(f:Nat)(cb:Array Value){w:World}{base g len cap:Nat}{elem:TypeId}{ss:List α}(hl:ss.length=len)(anJ:len<4611686018427387904)(hown:w.ownsRow base elem 1 (.slice (some ⟨g,0,none⟩) len cap) len (ss.map enc))(eg:∀args w,(callFunc f args).run prog w=.ok (.enter f args) w)(yr:CmpLays1 prog f cb enc cf g 0 len w) :
 Calls prog 183 #[.slice (some ⟨g,0,none⟩) len cap,.func (.func f) #[] cb] w (QC enc cf w base elem g len cap ss):=by
 obtain⟨hlen,⟨h0,_⟩|⟨g',cap',cur,hv,hg,hh,hn,hm,hcs,hx⟩⟩:=hown
 ·cases h0
 cases hv;rw[Nat.mul_one]at hx;have hH:=holds_of_block enc (ss:=ss) hh (by grind);have hsz:ss.toArray.size=len:=by omega
 have hcon:=Any.slices_SortFunc Tryz.Gv enc h1 cf hO f cb g 0 cap ss.toArray w eg (by grind) hH (Array.getElem?_eq_some_iff.1 hh).1 ae;rw[hsz]at hcon;refine hcon.mono ?_;rintro e w'⟨rfl,d',n,os,hp,hs,rfl⟩;obtain⟨zu,_,Pv⟩:=hp;rw[hsz]at zu;have TM:d'.toList.length=ss.length:=by grind
 refine⟨rfl,d'.toList,?_,?_,?_,xG enc d'⟩
 ·have e1:(d'.extract 0 len).toList=d'.toList:=by rw[<- zu];simp
  grind
 ·rw[List.pairwise_iff_getElem];intro i j hi hj e9;have h2:=hs i j (Nat.zero_le _) e9 ae;grind [ltOf]
 ·have:=ownsRow_sorted enc (w:=w) (base:=base) (g:=g) (cap:=cap) (n:=n) (os:=os) (ss:=ss) (ts:=d'.toList) TM hg hh ae hm hcs;rw[hl]at this;assumption
end
end Go.Proofs.YthkkgdpomhhjjaaGreatDoor
