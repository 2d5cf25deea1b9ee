/-
  Joined.
-/
import Derived.Test.YthkkgdpomhhjjaaGreatDoorK02
import Derived.StillTailTactics
import Derived.Shelf.SlSortCmp.Whole1
import Derived.Ground.SlsfProg
import Derived.Shelf.SlGeneric
import Derived.Test.YthkkgdpomhhjjaaGreatDoorProg
import Derived.Sort.OwnSortedInts
set_option maxRecDepth 100000
set_option maxHeartbeats 4000000
namespace Go.Proofs.YthkkgdpomhhjjaaGreatDoor
open Go.Proofs.Tryz
section
open Go.RowKit
abbrev Pg:=List UInt8
def kF(n:Name):Nat:=ix n.data.toList
theorem GM(n:Name):kF n<4294967296:=tV _
def cm(tag:Nat):Nat->List Pg->List UInt8
 |_,[]=>[]
 |k,b::r=>dv tag k b++cm tag (k+1) r
def jN(ps:List Pg):Prop:=∀b∈ps,b.length<=240
theorem jN.cons{b:Pg}{r:List Pg}(h:jN (b::r)):b.length<=240/\jN r:=⟨h b ai,fun x hx=>h x (by grind)⟩
theorem dN{tag:Nat}(ps:List Pg)(h:jN ps):∀k,(cm tag k ps).length=256*ps.length:=by
 induction ps with
 |nil=>intro k;rfl
 |cons b r ih=>
   grind [cm,dR,jN.cons]
theorem jV{tag:Nat}(a b:List Pg):∀k,cm tag k (a++b)=cm tag k a++cm tag (k+a.length) b:=by
 induction a with
 |nil=>intro k;rfl
 |cons x a ih=>
   grind [cm]
theorem ug{α:Type}{l:List α}{j:Nat}(h:j<l.length):l=l.take j++l[j]::l.drop (j+1):=by
 simp
theorem jN.take{ps:List Pg}(h:jN ps)(n:Nat):jN (ps.take n):=fun b hb=>h b (List.mem_of_mem_take hb)
theorem Cl{tag k j:Nat}{ps:List Pg}(h:jN ps)(hj:j<ps.length):((cm tag k ps).drop (256*j)).take 256=dv tag (k+j) ps[j]:=by
 have e:cm tag k ps=cm tag k (ps.take j)++(dv tag (k+j) ps[j]++cm tag (k+j+1) (ps.drop (j+1))):=by
  conv=>lhs;rw[ug hj,jV,List.length_take,Nat.min_eq_left af]
  rfl
 have hl:(cm tag k (ps.take j)).length=256*j:=by
  grind [dN,jN.take]
 rw[e,kE _ _ _ hl,qD _ _ _ (dR _ _ _ (h _ (List.getElem_mem hj)))]
theorem z7{tag k j:Nat}{ps:List Pg}{b:Pg}(h:jN ps)(hb:b.length<=240)(hj:j<ps.length):over (cm tag k ps) (256*j) (dv tag (k+j) b)=cm tag k (ps.set j b):=by
 have e:∀x:Pg,cm tag k (ps.take j++x::ps.drop (j+1))=cm tag k (ps.take j)++(dv tag (k+j) x++cm tag (k+j+1) (ps.drop (j+1))):=fun x=>by
  rw[jV,List.length_take,Nat.min_eq_left af];rfl
 have hl:(cm tag k (ps.take j)).length=256*j:=by
  grind [dN,jN.take]
 have zH:ps.set j b=ps.take j++b::ps.drop (j+1):=List.set_eq_take_append_cons_drop.trans (by grind);rw[zH,e b];unfold over;rw[dR _ _ _ hb];conv=>lhs;rw[ug hj,e ps[j]]
 rw[qD _ _ _ hl,show 256*j+256=256*j+256 from rfl,<- List.drop_drop,kE _ _ _ hl,kE _ _ _ (dR _ _ _ (h _ (List.getElem_mem hj)))]
def di(ps:List Pg)(j:Nat)(b:Pg):List Pg:=if j<ps.length then ps.set j b else ps++[b]
theorem fI(ps:List Pg)(j:Nat)(b:Pg)(h:j<=ps.length):(di ps j b).length=max ps.length (j+1):=by
 grind [di]
theorem si{ps:List Pg}{j:Nat}{b:Pg}(h:jN ps)(hb:b.length<=240):jN (di ps j b):=by
 unfold di;split
 ·intro x hx;rcases List.mem_or_eq_of_mem_set hx with hx | rfl
  ·exact h x hx
  omega
 ·intro x hx;rcases List.mem_append.1 hx with hx | hx
  ·exact h x hx
  grind
theorem kG(ps:List Pg)(j:Nat)(b:Pg)(h:j<=ps.length)(i:Nat):(di ps j b)[i]? = if i=j then some b else ps[i]? := by
 grind [di]
theorem Dq{tag j:Nat}{ps:List Pg}{b:Pg}(h:jN ps)(hb:b.length<=240)(hj:j<=ps.length){f:bT}(hf:f.now=cm tag 0 ps):f.laid (256*j) (dv tag j b)=⟨cm tag 0 (di ps j b),f.gZ⟩:=by
 have hl:f.now.length=256*ps.length:=by grind [dN]
 unfold bT.laid;rw[dR _ _ _ hb];congr 1;by_cases hlt:j<ps.length
 ·have e:max f.now.length (256*j+256)-f.now.length=0:=by omega
  rw[e,List.replicate_zero,List.append_nil,hf];have:=z7 (tag:=tag) (k:=0) h hb hlt;grind [di]
 ·obtain rfl:j=ps.length:=by omega
  have e:max f.now.length (256*ps.length+256)-f.now.length=256:=by omega
  rw[e];unfold di over;rw[if_neg af,jV,hf,dR _ _ _ hb];grind [cm]
abbrev iB:=(List Pg×Bool) ⊕ (bT×(Nat->Prop))
abbrev aH:=List (Name×iB)
structure bZ where
 full:Bool
 name:Name
 k:Nat
 bytes:Pg
 bU:Bool
 used:Bool
def bZ.none:bZ:=⟨false,ByteArray.empty,0,[],false,false⟩
def iB.need:iB->Nat
 | .inl x=>4*x.1.length
 | .inr x=>gG x.1.now.length
def need(L:aH):Nat:=(L.map (fun p=>p.2.need)).sum
def eU(fs:List bZ)(n:Name)(k:Nat):Prop:=∃(j:Nat)(fr:bZ),fs[j]? = some fr/\fr.full=true/\fr.bU=true/\fr.name=n/\fr.k=k
structure dz(d:Dsk)(fs:List bZ)(n:Name)(ps:List Pg)(fl:Bool)(f:bT)(dp:List Pg):Prop where
 get:aB d.files n=some f
 now:f.now=cm (kF n) 0 dp
 le:dp.length<=ps.length
 most:ps.length<=65536
 short:jN ps
 Cm:jN dp
 each:∀k,k<ps.length->(k<dp.length/\dp[k]? = ps[k]?)\/eU fs n k
 gZ:fl=true->dp=ps/\f.gZ=f.now/\(∀s,((n,s),()) ∉ d.loose)/\∀k,¬eU fs n k
 lu:∀s,((n,s),())∈d.loose->s<4*dp.length
structure Sound(d:Dsk)(fs:List bZ)(L:aH):Prop where
 keys:(L.map (·.1)).Nodup
 fS:(d.files.map (·.1)).Nodup
 names:∀n,(aB d.files n).isSome=(aB L n).isSome
 ok:∀n,(aB L n).isSome=true->bM n=true
 dI:∀n ps fl,aB L n=some (.inl (ps,fl))->∃f dp,dz d fs n ps fl f dp
 lX:∀n f ls,aB L n=some (.inr (f,ls))->aB d.files n=some f/\∀s,((n,s),())∈d.loose↔ls s
 frames:∀fr∈fs,fr.full=true->∃ps fl,aB L fr.name=some (.inl (ps,fl))/\ps[fr.k]? = some fr.bytes
 blank:∀fr∈fs,fr.full=false->fr=bZ.none
 once:∀(i j:Nat)(fi fj:bZ),fs[i]? = some fi->fs[j]? = some fj->fi.full=true->fj.full=true->fi.name=fj.name->fi.k=fj.k->i=j
 dm:∀n s,((n,s),())∈d.loose->(aB L n).isSome=true
structure bR(d d':Dsk):Prop where
 bO:d'.bO=d.bO
 calm:d.dP=0->d'.dP=0/\(d.dead=false->d'.dead=false)
 dead:d.dead=true->d'.dead=true
theorem bR.refl(d:Dsk):bR d d:=⟨rfl,fun h=>⟨h,id⟩,id⟩
theorem bR.trans{d d' ig:Dsk}(h:bR d d')(k:bR d' ig):bR d ig:=
 ⟨k.bO.trans h.bO,fun h0=>⟨(k.calm (h.calm h0).1).1,fun hd=>(k.calm (h.calm h0).1).2 ((h.calm h0).2 hd)⟩,fun hd=>k.dead (h.dead hd)⟩
theorem bR.tick(d:Dsk):bR d d.tick:=by
 refine⟨Dsk.sX d,fun h=>?_,fun h=>?_⟩
 ·grind [Dsk.tick]
 grind [Dsk.tick]
theorem bR.of{d d' e:Dsk}(h:bR d d')(hq:e.bO=d'.bO)(ha:e.dP=d'.dP)(hd:e.dead=d'.dead):bR d e:=
 ⟨hq.trans h.bO,fun h0=>⟨ha.trans (h.calm h0).1,fun h1=>hd.trans ((h.calm h0).2 h1)⟩,fun h1=>hd.trans (h.dead h1)⟩
theorem Sound.mK{d d':Dsk}{fs:List bZ}{L:aH}(h:Sound d fs L)(hf:d'.files=d.files)(hl:d'.loose=d.loose):Sound d' fs L where
 keys:=h.keys
 fS:=by grind [fS]
 names:=by grind [names]
 ok:=h.ok
 dI:=fun n ps fl hg=>by
  obtain⟨f,dp,k⟩:=h.dI n ps fl hg;exact⟨f,dp,by rw[hf];exact k.get,k.now,k.le,k.most,k.short,k.Cm,k.each,fun e=>by grind [dz.gZ],by rw[hl];exact k.lu⟩
 lX:=by grind [lX]
 frames:=h.frames
 blank:=h.blank
 once:=h.once
 dm:=by grind [dm]
theorem Sound.tick{d:Dsk}{fs:List bZ}{L:aH}(h:Sound d fs L):Sound d.tick fs L:=h.mK (Dsk.dy d) (Dsk.lT d)
theorem GN{κ υ:Type}[DecidableEq κ]{m:List (κ×υ)}{k:κ}{v:υ}{p:κ×υ}:p∈aS m k v↔p=(k,v)\/p∈m/\p.1≠k:=by
 grind [aS,gF]
theorem pE{m:List ((Name×Nat)×Unit)}{name:Name}{off c:Nat}{n:Name}{s:Nat}(hn:n≠name):((n,s),())∈lV m name off c↔((n,s),())∈m:=by
 induction c with
 |zero=>rfl
 |succ c ih=>
   grind [lV,GN]
theorem GQ{m:List ((Name×Nat)×Unit)}{name:Name}{off c:Nat}{s:Nat}:((name,s),())∈lV m name off c->((name,s),())∈m\/s<=(off+c-1)/64:=by
 induction c with
 |zero=>exact fun h=>.inl h
 |succ c ih=>
   grind [lV,GN]
theorem cG{κ υ:Type}[DecidableEq κ](m:List (κ×υ))(k:κ)(v:υ)(k':κ):(aB (aS m k v) k').isSome=(decide (k'=k) || (aB m k').isSome):=by
 grind [ay]
theorem qF{κ υ:Type}[DecidableEq κ](m:List (κ×υ))(k:κ)(k':κ):(aB (bX m k) k').isSome=(decide (k'≠k) && (aB m k').isSome):=by
 grind [cD]
theorem uh{κ:Type}[DecidableEq κ]{a b:List κ}(ha:a.Nodup)(hb:b.Nodup)(h:∀k,k∈a↔k∈b):a.Perm b:=(List.perm_ext_iff_of_nodup ha hb).2 h
theorem mem_keys{κ υ:Type}[DecidableEq κ]{m:List (κ×υ)}{k:κ}:k∈m.map (·.1)↔(aB m k).isSome=true:=by
 grind [aB]
theorem ui{κ υ:Type}[DecidableEq κ]{m:List (κ×υ)}(hn:(m.map (·.1)).Nodup)(g:υ->Nat):(m.map (fun p=>g p.2)).sum=((m.map (·.1)).map (fun k=>((aB m k).map g).getD 0)).sum:=by
 rw[List.map_map];congr 1;apply List.map_congr_left;intro p hp;have:aB m p.1=some p.2:=iV hn hp;grind
theorem Zt{α:Type}(l:List α)(f g:α->Nat)(h:∀x∈l,f x<=g x):(l.map f).sum<=(l.map g).sum:=by
 induction l with
 |nil=>simp
 |cons x l ih=>
   grind
theorem Sound.Q5{d:Dsk}{fs:List bZ}{L:aH}(h:Sound d fs L):(d.files.map (·.1)).Perm (L.map (·.1)):=
 uh h.fS h.keys fun n=>by grind [mem_keys,names]
theorem Sound.Vq{d:Dsk}{fs:List bZ}{L:aH}(h:Sound d fs L):er d.files<=need L:=by
 have e1:er d.files=((d.files.map (·.1)).map (fun k=>((aB d.files k).map (fun f:bT=>gG f.now.length)).getD 0)).sum:=ui h.fS (fun f=>gG f.now.length);have e2:need L=((L.map (·.1)).map (fun k=>((aB L k).map iB.need).getD 0)).sum:=ui h.keys iB.need;have e3:((L.map (·.1)).map (fun k=>((aB L k).map iB.need).getD 0)).sum=((d.files.map (·.1)).map (fun k=>((aB L k).map iB.need).getD 0)).sum:=((h.Q5.map _).sum_nat).symm;rw[e1,e2,e3];refine Zt _ _ _ fun n hn=>?_;rw[mem_keys,h.names]at hn;cases e:aB L n with
 |none=>grind
 |some x=>
   rcases x with⟨ps,fl⟩|⟨f,ls⟩
   ·obtain⟨f,dp,k⟩:=h.dI n ps fl e;rw[k.get];show gG f.now.length<=4*ps.length;rw[k.now,dN _ k.Cm];have:=k.le;grind [gG]
   ·rw[(h.lX n f ls e).1];exact Nat.le_refl _
theorem fo{α:Type}{fs:List α}{j:Nat}{x:α}(hj:j<fs.length)(i:Nat):(fs.set j x)[i]? = if i=j then some x else fs[i]? := by
 grind
theorem aN{α:Type}{fs:List α}{j:Nat}{x:α}(h:fs[j]? = some x):j<fs.length:=(List.getElem?_eq_some_iff.1 h).1
theorem kH{fs:List bZ}{j:Nat}{fr x:bZ}(hj:fs[j]? = some fr){n:Name}{k:Nat}(h:eU fs n k)(hne:¬(fr.full=true/\fr.bU=true/\fr.name=n/\fr.k=k)):eU (fs.set j x) n k:=by
 obtain⟨i,fi,hi,h1,h2,h3,h4⟩:=h;refine⟨i,fi,?_,h1,h2,h3,h4⟩;grind
theorem js{fs:List bZ}{j:Nat}{fr x:bZ}(hj:fs[j]? = some fr){n:Name}{k:Nat}(h:eU (fs.set j x) n k):eU fs n k\/(x.full=true/\x.bU=true/\x.name=n/\x.k=k):=by
 obtain⟨i,fi,hi,h1,h2,h3,h4⟩:=h;rw[fo (aN hj)]at hi;by_cases e:i=j
 ·grind
 ·rw[if_neg e]at hi;exact .inl ⟨i,fi,hi,h1,h2,h3,h4⟩
theorem Cn{fs:List bZ}{j:Nat}{x fr:bZ}(h:fr∈fs.set j x):fr∈fs\/fr=x:=List.mem_or_eq_of_mem_set h
theorem z8{fs:List bZ}(h:∀(i j:Nat)(fi fj:bZ),fs[i]? = some fi->fs[j]? = some fj->fi.full=true->fj.full=true->fi.name=fj.name->fi.k=fj.k->i=j){j:Nat}{x:bZ}(hj:j<fs.length)(hx:x.full=true->∀(i:Nat)(fi:bZ),i≠j->fs[i]? = some fi->fi.full=true->fi.name=x.name->fi.k=x.k->False) :
 ∀(i j':Nat)(fi fj:bZ),(fs.set j x)[i]? = some fi->(fs.set j x)[j']? = some fj->fi.full=true->fj.full=true->fi.name=fj.name->fi.k=fj.k->i=j':=by
 grind
theorem Sound.alone{d:Dsk}{fs:List bZ}{L:aH}(h:Sound d fs L){j:Nat}{fr:bZ}(hj:fs[j]? = some fr)(hf:fr.full=true):∀(i:Nat)(fi:bZ),i≠j->fs[i]? = some fi->fi.full=true->fi.name=fr.name->fi.k=fr.k->False:=
 fun i fi hne hi h1 h2 h3=>hne (h.once i j fi fr hi hj h1 hf h2 h3)
theorem Sound.reset{d:Dsk}{fs:List bZ}{L:aH}(h:Sound d fs L){j:Nat}{fr x:bZ}(hj:fs[j]? = some fr)(hd:fr.bU=false)(hxd:x.bU=false)(hx:x=bZ.none\/(x.full=true/\(∃ps fl,aB L x.name=some (.inl (ps,fl))/\ps[x.k]? = some x.bytes)/\∀(i:Nat)(fi:bZ),i≠j->fs[i]? = some fi->fi.full=true->fi.name=x.name->fi.k=x.k->False)) :
 Sound d (fs.set j x) L where
 keys:=h.keys
 fS:=h.fS
 names:=h.names
 ok:=h.ok
 dI:=fun n ps fl hg=>by
  obtain⟨f,dp,k⟩:=h.dI n ps fl hg;refine⟨f,dp,k.get,k.now,k.le,k.most,k.short,k.Cm,fun i hi=>?_,fun e=>?_,k.lu⟩
  ·grind [dz.each,kH]
  ·obtain⟨h1,h2,h3,h4⟩:=k.gZ e;refine⟨h1,h2,h3,fun i hi=>?_⟩;rcases js hj hi with h5 | h5
   ·grind
   grind
 lX:=h.lX
 frames:=fun y hy hf=>by
  rcases Cn hy with hy | rfl
  ·grind [frames]
  ·rcases hx with rfl | hx
   ·cases hf
   grind
 blank:=fun y hy hf=>by
  grind [blank]
 once:=z8 h.once (aN hj) (fun hf=>by
  rcases hx with rfl | hx
  ·cases hf
  grind)
 dm:=h.dm
theorem Sound.used{d:Dsk}{fs qm:List bZ}{L:aH}(h:Sound d fs L)(hs:qm.length=fs.length)(he:∀(i:Nat)(f f':bZ),fs[i]? = some f->qm[i]? = some f'->(f'.full,f'.name,f'.k,f'.bytes,f'.bU)=(f.full,f.name,f.k,f.bytes,f.bU)/\(f.full=false->f'=f)):Sound d qm L:=by
 have back:∀(i:Nat)(f':bZ),qm[i]? = some f'->∃f,fs[i]? = some f/\f'.full=f.full/\f'.name=f.name/\f'.k=f.k/\f'.bytes=f.bytes/\f'.bU=f.bU/\(f.full=false->f'=f):=fun i f' hi=>by
  grind
 have adl:∀(i:Nat)(f:bZ),fs[i]? = some f->∃f',qm[i]? = some f'/\f'.full=f.full/\f'.name=f.name/\f'.k=f.k/\f'.bytes=f.bytes/\f'.bU=f.bU:=fun i f hi=>by
  grind
 have fZ:∀n k,eU qm n k↔eU fs n k:=fun n k=>by
  constructor
  ·rintro⟨i,f',hi,a,b,c,e⟩;obtain⟨f,hf,q1,q2,q3,q4,q5,_⟩:=back i f' hi;exact⟨i,f,hf,by grind,by grind,by grind,af⟩
  ·rintro⟨i,f,hi,a,b,c,e⟩;obtain⟨f',hf,q1,q2,q3,q4,q5⟩:=adl i f hi;exact⟨i,f',hf,by grind,by grind,by grind,af⟩
 exact {
  keys:=h.keys
  fS:=h.fS
  names:=h.names
  ok:=h.ok
  dI:=fun n ps fl hg=>by
   obtain⟨f,dp,k⟩:=h.dI n ps fl hg;exact⟨f,dp,k.get,k.now,k.le,k.most,k.short,k.Cm,fun i hi=>by grind [dz.each],fun e=>by
    grind [dz.gZ],k.lu⟩
  lX:=h.lX
  frames:=fun y hy hf=>by
   obtain⟨i,hi⟩:=List.mem_iff_getElem?.1 hy;obtain⟨f,hg,q1,q2,q3,q4,q5,_⟩:=back i y hi;rw[q2,q3,q4];exact h.frames f (List.mem_of_getElem? hg) (by grind)
  blank:=fun y hy hf=>by
   obtain⟨i,hi⟩:=List.mem_iff_getElem?.1 hy;obtain⟨f,hg,q1,q2,q3,q4,q5,q6⟩:=back i y hi;rw[q6 (by grind)];exact h.blank f (List.mem_of_getElem? hg) (by grind)
  once:=fun i j fi fj hi hj h1 h2 h3 h4=>by
   grind [once]
  dm:=h.dm }
theorem Sound.write{d:Dsk}{fs:List bZ}{L:aH}(h:Sound d fs L){j:Nat}{fr:bZ}(hj:fs[j]? = some fr){name:Name}{ps:List Pg}{fl:Bool}(hL:aB L name=some (.inl (ps,fl))){k:Nat}{b:Pg}{u:Bool}(hk:k<=ps.length)(Ce:k<65536)(hb:b.length<=240)(hx:fr.full=true/\fr.name=name/\fr.k=k\/fr.bU=false/\∀(i:Nat)(fi:bZ),i≠j->fs[i]? = some fi->fi.full=true->fi.name=name->fi.k=k->False) :
 Sound d (fs.set j ⟨true,name,k,b,true,u⟩) (aS L name (.inl (di ps k b,false))):=by
 have Zu:∀(i:Nat)(fi:bZ),i≠j->fs[i]? = some fi->fi.full=true->fi.name=name->fi.k=k->False:=by
  grind [alone]
 exact {
  keys:=ct h.keys
  fS:=h.fS
  names:=fun n=>by
   grind [cG,names]
  ok:=fun n hn=>by
   grind [cG,ok]
  dI:=fun n GR kT hg=>by
   rw[ay]at hg;by_cases e:n=name
   ·rw[if_pos e]at hg;subst e;simp only[Option.some.injEq,Sum.inl.injEq,Prod.mk.injEq]at hg;obtain⟨rfl,rfl⟩:=hg;obtain⟨f,dp,q⟩:=h.dI n ps fl hL;have hle:=q.le;have hmo:=q.most;refine⟨f,dp,q.get,q.now,by grind [fI],by grind [fI],si q.short hb,q.Cm,fun i hi=>?_,fun e=>(by cases e),q.lu⟩;by_cases ei:i=k
    ·exact .inr ⟨j,⟨true,n,k,b,true,u⟩,by grind,rfl,rfl,rfl,ei.symm⟩
    grind [kG,dz.each,kH]
   ·rw[if_neg e]at hg;obtain⟨f,dp,q⟩:=h.dI n GR kT hg;refine⟨f,dp,q.get,q.now,q.le,q.most,q.short,q.Cm,fun i hi=>?_,fun e1=>?_,q.lu⟩
    ·grind [dz.each,kH]
    ·obtain⟨h1,h2,h3,h4⟩:=q.gZ e1;refine⟨h1,h2,h3,fun i hi=>?_⟩;rcases js hj hi with h5 | h5
     ·grind
     grind
  lX:=fun n f ls hg=>by
   grind [ay,lX]
  frames:=fun y hy hf=>by
   obtain⟨i,hi⟩:=List.mem_iff_getElem?.1 hy;rw[fo (aN hj)]at hi;grind [ay,kG,frames]
  blank:=fun y hy hf=>by
   grind [blank]
  once:=z8 h.once (aN hj) (fun _=>Zu)
  dm:=fun n s hs=>by
   grind [cG,dm] }
theorem Sound.create{d d':Dsk}{fs:List bZ}{L:aH}(h:Sound d fs L){name:Name}(fe:bM name=true)(hn:aB L name=none)(hf:d'.files=aS d.files name ⟨[],[]⟩)(hl:d'.loose=d.loose):Sound d' fs (aS L name (.inl ([],true))) where
 keys:=ct h.keys
 fS:=by grind [ct,fS]
 names:=fun n=>by grind [cG,names]
 ok:=fun n hs=>by
  grind [cG,ok]
 dI:=fun n ps fl hg=>by
  rw[ay]at hg;by_cases e:n=name
  ·subst e;rw[if_pos rfl]at hg;simp only[Option.some.injEq,Sum.inl.injEq,Prod.mk.injEq]at hg;obtain⟨rfl,rfl⟩:=hg;refine⟨⟨[],[]⟩,[],by grind [ay],rfl,Nat.le_refl _,Nat.zero_le _,(fun _ h=>nomatch h),(fun _ h=>nomatch h),(fun k hk=>absurd hk (Nat.not_lt_zero k)),fun _=>⟨rfl,rfl,fun s hs=>?_,fun k hk=>?_⟩,fun s hs=>?_⟩
   ·grind [dm]
   ·obtain⟨i,fi,hi,h1,h2,h3,h4⟩:=hk;obtain⟨ps,fl,h5,_⟩:=h.frames fi (List.mem_of_getElem? hi) h1;grind
   grind [dm]
  ·rw[if_neg e]at hg;obtain⟨f,dp,q⟩:=h.dI n ps fl hg;exact⟨f,dp,by grind [ay,dz.get],q.now,q.le,q.most,q.short,q.Cm,q.each,by rw[hl];exact q.gZ,by rw[hl];exact q.lu⟩
 lX:=fun n f ls hg=>by
  grind [ay,lX]
 frames:=fun y hy XS=>by
  grind [frames,ay]
 blank:=h.blank
 once:=h.once
 dm:=fun n s hs=>by
  grind [cG,dm]
theorem Sound.drop{d d':Dsk}{fs:List bZ}{L:aH}(h:Sound d fs L){name:Name}(hno:∀fr∈fs,fr.full=true->fr.name≠name)(hf:d'.files=bX d.files name)(hl:d'.loose=d.loose.filter (fun p=>decide (p.1.1≠name))):Sound d' fs (bX L name):=by
 have UO:∀n s,((n,s),())∈d'.loose↔((n,s),())∈d.loose/\n≠name:=fun n s=>by grind
 exact {
  keys:=Dc h.keys
  fS:=by grind [Dc,fS]
  names:=fun n=>by grind [qF,names]
  ok:=fun n hs=>by
   grind [qF,ok]
  dI:=fun n ps fl hg=>by
   rw[cD]at hg;by_cases e:n=name
   ·grind
   ·rw[if_neg e]at hg;obtain⟨f,dp,q⟩:=h.dI n ps fl hg;refine⟨f,dp,by grind [cD,dz.get],q.now,q.le,q.most,q.short,q.Cm,q.each,fun e1=>?_,fun s hs=>q.lu s ((UO n s).1 hs).1⟩;grind [dz.gZ]
  lX:=fun n f ls hg=>by
   grind [cD,lX]
  frames:=fun y hy XS=>by
   grind [frames,cD]
  blank:=h.blank
  once:=h.once
  dm:=fun n s hs=>by
   grind [qF,dm] }
theorem Sound.sync{d d':Dsk}{fs:List bZ}{L:aH}(h:Sound d fs L){name:Name}{ps:List Pg}{fl:Bool}(hL:aB L name=some (.inl (ps,fl)))(hno:∀k,¬eU fs name k){f:bT}(hg:aB d.files name=some f)(hf:d'.files=aS d.files name ⟨f.now,f.now⟩)(hl:d'.loose=d.loose.filter (fun p=>decide (p.1.1≠name))):Sound d' fs (aS L name (.inl (ps,true))):=by
 have UO:∀n s,((n,s),())∈d'.loose↔((n,s),())∈d.loose/\n≠name:=fun n s=>by grind
 exact {
  keys:=ct h.keys
  fS:=by grind [ct,fS]
  names:=fun n=>by grind [cG,names]
  ok:=fun n hs=>by
   grind [cG,ok]
  dI:=fun n GR kT MT=>by
   rw[ay]at MT;by_cases e:n=name
   ·subst e;rw[if_pos rfl]at MT;simp only[Option.some.injEq,Sum.inl.injEq,Prod.mk.injEq]at MT;obtain⟨rfl,rfl⟩:=MT;obtain⟨f',dp,q⟩:=h.dI n ps fl hL;have:f'=f:=by have:=q.get;grind
    subst this;have hdp:dp=ps:=by
     apply List.ext_getElem?;intro i;by_cases hi:i<ps.length
     ·rcases q.each i hi with h1 | h1
      ·grind
      grind
     ·have:=q.le;grind
    refine⟨⟨f'.now,f'.now⟩,dp,by grind [ay],q.now,q.le,q.most,q.short,q.Cm,q.each,fun _=>⟨hdp,rfl,fun s hs=>((UO n s).1 hs).2 rfl,hno⟩,fun s hs=>absurd rfl ((UO n s).1 hs).2⟩
   ·rw[if_neg e]at MT;obtain⟨f',dp,q⟩:=h.dI n GR kT MT;refine⟨f',dp,by grind [ay,dz.get],q.now,q.le,q.most,q.short,q.Cm,q.each,fun e1=>?_,fun s hs=>q.lu s ((UO n s).1 hs).1⟩;grind [dz.gZ]
  lX:=fun n f' ls MT=>by
   grind [ay,lX]
  frames:=fun y hy XS=>by
   grind [frames,ay]
  blank:=h.blank
  once:=h.once
  dm:=fun n s hs=>by
   grind [cG,dm] }
theorem Sound.back{d d':Dsk}{fs:List bZ}{L:aH}(h:Sound d fs L){j:Nat}{fr:bZ}(hj:fs[j]? = some fr)(fD:fr.full=true)(fZ:fr.bU=true){ps:List Pg}{fl:Bool}(hL:aB L fr.name=some (.inl (ps,fl))){f:bT}{dp:List Pg}(q:dz d fs fr.name ps fl f dp)(hk:fr.k<=dp.length)(hf:d'.files=aS d.files fr.name (f.laid (256*fr.k) (dv (kF fr.name) fr.k fr.bytes)))(hl:d'.loose=lV d.loose fr.name (256*fr.k) 256) :
 Sound d' (fs.set j { fr with bU:=false }) L/\∃f',dz d' (fs.set j { fr with bU:=false }) fr.name ps fl f' (di dp fr.k fr.bytes):=by
 have MU:fl=false:=by
  cases e:fl with
  |false=>rfl
  |true=>exact absurd ⟨j,fr,hj,fD,fZ,rfl,rfl⟩ ((q.gZ e).2.2.2 fr.k)
 obtain⟨GR,kT,BQ,P1⟩:=h.frames fr (List.mem_of_getElem? hj) fD;rw[hL]at BQ;simp only[Option.some.injEq,Sum.inl.injEq,Prod.mk.injEq]at BQ;obtain⟨rfl,rfl⟩:=BQ;have Q6:fr.k<ps.length:=aN P1;have hb:fr.bytes.length<=240:=q.short _ (List.mem_of_getElem? P1);have adm:=Dq q.Cm hb hk q.now;rw[adm]at hf;have hle:=q.le;have hq':dz d' (fs.set j { fr with bU:=false }) fr.name ps fl ⟨cm (kF fr.name) 0 (di dp fr.k fr.bytes),f.gZ⟩ (di dp fr.k fr.bytes):=by
  refine⟨by grind [ay],rfl,by grind [fI],q.most,q.short,si q.Cm hb,fun i hi=>?_,fun e=>(by grind),fun s hs=>?_⟩;rotate_left
  ·rw[hl]at hs;rw[fI _ _ _ hk];rcases GQ hs with h1 | h1
   ·have:=q.lu s h1;omega
   ·omega
  grind [kG,dz.each,kH]
 refine⟨?_,_,hq'⟩;exact {
  keys:=h.keys
  fS:=by grind [ct,fS]
  names:=fun n=>by
   grind [cG,names]
  ok:=h.ok
  dI:=fun n GR kT hg=>by
   by_cases e:n=fr.name
   ·grind
   ·obtain⟨f',dp',q'⟩:=h.dI n GR kT hg;refine⟨f',dp',by grind [ay,dz.get],q'.now,q'.le,q'.most,q'.short,q'.Cm,fun i hi=>?_,fun e1=>?_,fun s hs=>q'.lu s (by grind [pE])⟩
    ·grind [dz.each,kH]
    ·obtain⟨h1,h2,h3,h4⟩:=q'.gZ e1;refine⟨h1,h2,fun s hs=>?_,fun i hi=>?_⟩
     ·grind [pE]
     ·rcases js hj hi with h5 | h5
      ·grind
      grind
  lX:=fun n f' ls hg=>by
   grind [lX,ay,pE]
  frames:=fun y hy XS=>by
   grind [frames]
  blank:=fun y hy XS=>by
   grind [blank]
  once:=z8 h.once (aN hj) (fun _ i fi hne hi h1 h2 h3=>h.alone hj fD i fi hne hi h1 h2 h3)
  dm:=fun n s hs=>by
   grind [pE,dm] }
def dA(d:Dsk)(name:Name)(k:Nat)(b:Pg):Dsk×Nat:=
 if (d.sizeOf name).2≠0 then (d,(d.sizeOf name).2)
 else if (d.sizeOf name).1/256<k then (d,1)
 else d.write name (256*k) (dv (kF name) k b)
def lK(d d':Dsk)(L:aH)(e:Nat):Prop:=e=5/\d.bO<need L\/e=6/\d'.dead=true
theorem lK.ne{d d':Dsk}{L:aH}{e:Nat}(h:lK d d' L e):e≠0:=by
 rcases h with h | h<;>omega
theorem Dsk.Dr{d:Dsk}{n:Name}{f:bT}(fe:bM n=true)(hg:aB d.files n=some f):d.sizeOf n=if d.dead=true then (0,6) else (f.now.length,0):=by
 grind [Dsk.sizeOf]
theorem Sound.adn{d:Dsk}{fs:List bZ}{L:aH}(h:Sound d fs L){j:Nat}{fr:bZ}(hj:fs[j]? = some fr)(fD:fr.full=true)(fZ:fr.bU=true){ps:List Pg}{fl:Bool}(hL:aB L fr.name=some (.inl (ps,fl))){f:bT}{dp:List Pg}(q:dz d fs fr.name ps fl f dp)(hk:fr.k<=dp.length) :
 bR d (dA d fr.name fr.k fr.bytes).1 /\
 ((dA d fr.name fr.k fr.bytes).2=0/\Sound (dA d fr.name fr.k fr.bytes).1 (fs.set j { fr with bU:=false }) L/\(∃f',dz (dA d fr.name fr.k fr.bytes).1 (fs.set j { fr with bU:=false }) fr.name ps fl f' (di dp fr.k fr.bytes)) \/
   lK d (dA d fr.name fr.k fr.bytes).1 L (dA d fr.name fr.k fr.bytes).2/\Sound (dA d fr.name fr.k fr.bytes).1 fs L):=by
 have fe:bM fr.name=true:=h.ok _ (by grind);obtain⟨GR,kT,BQ,P1⟩:=h.frames fr (List.mem_of_getElem? hj) fD;rw[hL]at BQ;simp only[Option.some.injEq,Sum.inl.injEq,Prod.mk.injEq]at BQ;obtain⟨rfl,rfl⟩:=BQ;have Q6:fr.k<ps.length:=aN P1;have jq:=q.most;have hb:fr.bytes.length<=240:=q.short _ (List.mem_of_getElem? P1);have Vr:f.now.length=256*dp.length:=by rw[q.now,dN _ q.Cm]
 have Cb:(dv (kF fr.name) fr.k fr.bytes).length=256:=dR _ _ _ hb;unfold dA;rw[Dsk.Dr fe q.get];cases hd:d.dead with
 |true=>
   simp only[if_true];exact⟨bR.refl d,.inr ⟨.inr ⟨rfl,hd⟩,h⟩⟩
 |false=>
   simp only[Bool.false_eq_true,if_false,ne_eq,not_true_eq_false];rw[if_neg (show ¬f.now.length/256<fr.k by omega)];unfold Dsk.write;by_cases ht:d.tick.dead=true
   ·rw[if_pos ht];exact⟨bR.tick d,.inr ⟨.inr ⟨rfl,ht⟩,h.tick⟩⟩
   ·rw[if_neg ht,if_neg (by grind),q.get];dsimp only;rw[if_neg (show ¬f.now.length<256*fr.k by omega),Cb,if_neg (show ¬16777216<256+256*fr.k by omega)];have GU:=Sound.back (d':={ d.tick with files:=aS d.files fr.name (f.laid (256*fr.k) (dv (kF fr.name) fr.k fr.bytes)),loose:=lV d.loose fr.name (256*fr.k) 256 }) h hj fD fZ hL q hk rfl rfl;split
    ·rename_i aid
     refine⟨bR.tick d,.inr ⟨.inl ⟨rfl,?_⟩,h.tick⟩⟩;have h1:=GU.1.Vq;grind [sW,fS,dz.get,jT,Dq,dz.Cm,dz.now,dN,fI]
    ·refine⟨(bR.tick d).of rfl rfl rfl,.inl ⟨rfl,GU.1,GU.2⟩⟩
def lY(name:Name):List Nat->Dsk->List bZ->(Dsk×List bZ)×Nat
 | [],d,fs=>((d,fs),0)
 |i::l,d,fs=>
   if (dA d name (fs.getD i bZ.none).k (fs.getD i bZ.none).bytes).2≠0 then (((dA d name (fs.getD i bZ.none).k (fs.getD i bZ.none).bytes).1,fs),(dA d name (fs.getD i bZ.none).k (fs.getD i bZ.none).bytes).2)
   else lY name l (dA d name (fs.getD i bZ.none).k (fs.getD i bZ.none).bytes).1 (fs.set i { fs.getD i bZ.none with bU:=false })
def yf(fs:List bZ)(i:Nat):Nat:=(fs.getD i bZ.none).k
structure Q7(fs:List bZ)(name:Name)(n:Nat)(l:List Nat):Prop where
 each:∀i∈l,∃fr,fs[i]? = some fr/\fr.full=true/\fr.bU=true/\fr.name=name
 gU:l.Pairwise (fun a b=>yf fs a<yf fs b)
 all:∀p,eU fs name p->p<n\/(∃i∈l,yf fs i=p)\/∀i∈l,yf fs i<p
theorem pF{fs:List bZ}{i:Nat}{fr:bZ}(h:fs[i]? = some fr):fs.getD i bZ.none=fr:=by
 grind
theorem EC{fs:List bZ}{i:Nat}{fr x:bZ}(h:fs[i]? = some fr)(hk:x.k=fr.k)(j:Nat):yf (fs.set i x) j=yf fs j:=by
 grind [yf]
theorem Sound.Vs{L:aH}{name:Name}{ps:List Pg}{fl:Bool}(hL:aB L name=some (.inl (ps,fl)))(l:List Nat) :
 ∀(d:Dsk)(fs:List bZ)(f:bT)(dp:List Pg),Sound d fs L->dz d fs name ps fl f dp->Q7 fs name dp.length l ->
 ∃d' qm e,lY name l d fs=((d',qm),e)/\Sound d' qm L/\bR d d'/\qm.length=fs.length/\(∀i fr,fs[i]? = some fr->∃dd,qm[i]? = some { fr with bU:=dd }/\(dd=true->fr.bU=true)/\(fr.bU=false\/i ∉ l->dd=fr.bU)/\(e=0->i∈l->dd=false))/\(e=0\/lK d d' L e):=by
 induction l with
 |nil=>
   intro d fs f dp h q hp;exact⟨d,fs,0,rfl,h,bR.refl d,rfl,fun i fr hi=>⟨fr.bU,hi,id,fun _=>rfl,fun _ hm=>by cases hm⟩,.inl rfl⟩
 |cons i l ih=>
   intro d fs f dp h q hp;obtain⟨fr,hi,h1,h2,h3⟩:=hp.each i ai;have amj:=List.pairwise_cons.1 hp.gU;have MG:yf fs i=fr.k:=by grind [yf]
   have P1:ps[fr.k]? = some fr.bytes:=by
    obtain⟨GR,kT,BQ,P1⟩:=h.frames fr (List.mem_of_getElem? hi) h1;grind
   have hk:fr.k<=dp.length:=by
    rcases Nat.lt_or_ge dp.length fr.k with hlt | yR
    ·exfalso
     have Q6:=aN P1;rcases q.each dp.length af with g | g
     ·omega
     ·rcases hp.all _ g with g |⟨i',hm,g⟩| g
      ·omega
      ·grind
      grind
    omega
   rw[lY,pF hi];subst h3;obtain⟨zu,⟨he,hg,f',q'⟩|⟨he,hg⟩⟩:=h.adn hi h1 h2 hL q hk
   ·rw[if_neg af];have Ga:Q7 (fs.set i { fr with bU:=false }) fr.name (di dp fr.k fr.bytes).length l:=by
     refine⟨fun j hj=>?_,?_,fun p hd=>?_⟩
     ·grind [Q7.each]
     ·grind [EC]
     ·rw[fI _ _ _ hk];have hd':eU fs fr.name p:=by
       rcases js hi hd with hd | hd
       ·exact hd
       grind
      have hne:p≠fr.k:=by
       rintro rfl;obtain⟨j,fj,g1,g2,g3,g4,g5⟩:=hd;grind [alone]
      rcases hp.all p hd' with g |⟨i',hm,g⟩| g
      ·omega
      ·grind [EC]
      grind [EC]
    obtain⟨d2,fs2,e2,r1,r2,r3,r4,r5,r6⟩:=ih _ _ f' _ hg q' Ga;refine⟨d2,fs2,e2,r1,r2,zu.trans r3,by grind,fun j fj hj=>?_,?_⟩
    ·grind [aN]
    ·rcases r6 with r6 | r6 | r6
     ·omega
     ·exact .inr (.inl ⟨r6.1,by grind [bR.bO]⟩)
     ·exact .inr (.inr r6)
   ·rw[if_pos he.ne];exact⟨_,fs,_,rfl,hg,zu,rfl,fun j fj hj=>⟨fj.bU,hj,id,fun _=>rfl,fun e=>absurd e he.ne⟩,.inr he⟩
def iK(name:Name)(lo hi:Nat)(fr:bZ):Bool:=fr.full && fr.bU && decide (fr.name=name) && decide (lo<=fr.k) && decide (fr.k<hi)
structure Told(fs:List bZ)(name:Name)(lo hi:Nat)(l:List Nat):Prop where
 mem:∀i,i∈l ↔ ∃fr,fs[i]? = some fr/\iK name lo hi fr=true
 gU:l.Pairwise (fun a b=>yf fs a<=yf fs b)
 nodup:l.Nodup
theorem gJ{name:Name}{lo hi:Nat}{fr:bZ}:iK name lo hi fr=true↔fr.full=true/\fr.bU=true/\fr.name=name/\lo<=fr.k/\fr.k<hi:=by
 grind [iK]
theorem Told.strict{d:Dsk}{fs:List bZ}{L:aH}(h:Sound d fs L){name:Name}{lo hi:Nat}{l:List Nat}(t:Told fs name lo hi l):l.Pairwise (fun a b=>yf fs a<yf fs b):=by
 have h1:=t.gU.and (show l.Pairwise (fun a b=>a≠b) from t.nodup);grind [List.Pairwise.imp_of_mem,yf,mem,gJ,Sound.once]
theorem Told.Vs{d:Dsk}{fs:List bZ}{L:aH}(h:Sound d fs L){name:Name}{hi n:Nat}{l:List Nat}(t:Told fs name 0 hi l)(hhi:∀p,eU fs name p->p<hi):Q7 fs name n l:=by
 refine⟨fun i hm=>?_,t.strict h,fun p hp=>.inr (.inl ?_)⟩
 ·grind [mem,gJ]
 ·obtain⟨j,fj,g1,g2,g3,g4,g5⟩:=hp;have hlt:p<hi:=hhi p ⟨j,fj,g1,g2,g3,g4,g5⟩;refine⟨j,(t.mem j).2 ⟨fj,g1,gJ.2 ⟨g2,g3,g4,Nat.zero_le _,af⟩⟩,?_⟩;grind [yf]
theorem Told.Q8{d:Dsk}{fs:List bZ}{L:aH}(h:Sound d fs L){j:Nat}{fr:bZ}(hj:fs[j]? = some fr)(fD:fr.full=true)(fZ:fr.bU=true){n:Nat}{l:List Nat}(t:Told fs fr.name n fr.k l):Q7 fs fr.name n (l++[j]):=by
 have hkj:yf fs j=fr.k:=by grind [yf]
 refine⟨fun i hm=>?_,?_,fun p hp=>?_⟩
 ·grind [mem,gJ]
 ·grind [strict,mem,gJ,yf]
 ·obtain⟨i,fi,g1,g2,g3,g4,g5⟩:=id hp;by_cases hn:p<n
  ·omega
  ·right;have MG:yf fs i=p:=by grind [yf]
   grind [mem,gJ,yf]
abbrev Rec:=List UInt8
def gK(sz:Nat)(rs:List Rec):Prop:=∀r∈rs,r.length=sz
theorem gK.cons{sz:Nat}{r:Rec}{rs:List Rec}(h:gK sz (r::rs)):r.length=sz/\gK sz rs:=⟨h r ai,fun x hx=>h x (by grind)⟩
theorem gK.take{sz:Nat}{rs:List Rec}(h:gK sz rs)(n:Nat):gK sz (rs.take n):=fun b hb=>h b (List.mem_of_mem_take hb)
theorem gK.drop{sz:Nat}{rs:List Rec}(h:gK sz rs)(n:Nat):gK sz (rs.drop n):=fun b hb=>h b (List.mem_of_mem_drop hb)
theorem qG{sz:Nat}{rs:List Rec}(h:gK sz rs):rs.flatten.length=sz*rs.length:=by
 induction rs with
 |nil=>simp
 |cons r rs ih=>
   grind [gK.cons]
theorem Q9{sz:Nat}{rs:List Rec}(h:gK sz rs){j:Nat}(hj:j<rs.length):(rs.flatten.drop (sz*j)).take sz=rs[j]:=by
 have e:rs.flatten=(rs.take j).flatten++(rs[j]++(rs.drop (j+1)).flatten):=by
  grind [ug]
 have hl:(rs.take j).flatten.length=sz*j:=by
  rw[qG (h.take j),List.length_take,Nat.min_eq_left af]
 rw[e,kE _ _ _ hl,qD _ _ _ (h _ (List.getElem_mem hj))]
def eO(sz:Nat):Nat:=240/sz
theorem rD{sz:Nat}(h1:1<=sz)(h2:sz<=240):1<=eO sz:=by
 unfold eO;exact(Nat.one_le_div_iff af).2 h2
theorem uj(sz:Nat):sz*eO sz<=240:=Nat.mul_div_le 240 sz
theorem Ra{sz:Nat}(h1:1<=sz):240<sz*(eO sz+1):=by
 unfold eO;have:=Nat.lt_mul_div_succ 240 (show 0<sz by omega);omega
def cz(p n:Nat):Nat:=(n+p-1)/p
theorem fp{p n k:Nat}(hp:1<=p):k<cz p n↔p*k<n:=by
 grind [cz,Nat.le_div_iff_mul_le]
def bC(p:Nat)(rs:List Rec):List Pg:=(List.range (cz p rs.length)).map fun k=>((rs.drop (p*k)).take p).flatten
theorem dV(p:Nat)(rs:List Rec):(bC p rs).length=cz p rs.length:=by simp[bC]
theorem ja{p:Nat}{rs:List Rec}(hp:1<=p)(k:Nat):(bC p rs)[k]? = if p*k<rs.length then some ((rs.drop (p*k)).take p).flatten else none:=by
 grind [bC,fp]
theorem qH{p sz:Nat}{rs:List Rec}(hs:gK sz rs)(k:Nat):((rs.drop (p*k)).take p).flatten.length=sz*min p (rs.length-p*k):=by
 rw[qG ((hs.drop _).take _),List.length_take,List.length_drop]
theorem ED{p:Nat}{rs:List Rec}(hp:1<=p)(r:Rec){k:Nat}(h1:p*k<rs.length)(h2:rs.length<p*k+p):bC p (rs++[r])=di (bC p rs) k (((rs.drop (p*k)).take p).flatten++r):=by
 apply List.ext_getElem?;intro i;have hk:k<=(bC p rs).length:=by rw[dV];exact Nat.le_of_lt ((fp hp).2 h1)
 rw[kG _ _ _ hk,ja hp,ja hp,List.length_append,List.length_singleton];by_cases e:i=k
 ·grind [List.take_of_length_le]
 ·rw[if_neg e];rcases Nat.lt_or_gt_of_ne e with hlt | zw
  ·have:p*i+p<=p*k:=by rw[<- Nat.mul_succ];exact Nat.mul_le_mul_left _ hlt
   grind
  ·have:p*k+p<=p*i:=by rw[<- Nat.mul_succ];exact Nat.mul_le_mul_left _ zw
   grind
theorem yg{p:Nat}{rs:List Rec}(hp:1<=p)(r:Rec){k:Nat}(h:rs.length=p*k):bC p (rs++[r])=di (bC p rs) k r/\(bC p rs).length=k:=by
 have hk:(bC p rs).length=k:=by
  rw[dV,h];have a:¬k<cz p (p*k):=fun e=>by grind [fp]
  rcases Nat.eq_zero_or_pos k with rfl | hk
  ·omega
  ·have b:k-1<cz p (p*k):=(fp hp).2 (by
    have:p*(k-1)+p=p*k:=by rw[<- Nat.mul_succ,show(k-1).succ=k by omega]
    omega)
   omega
 refine⟨?_,hk⟩;apply List.ext_getElem?;intro i;rw[kG _ _ _ af,ja hp,ja hp,List.length_append,List.length_singleton];by_cases e:i=k
 ·grind [List.take_of_length_le]
 ·rw[if_neg e];rcases Nat.lt_or_gt_of_ne e with hlt | zw
  ·have:p*i+p<=p*k:=by rw[<- Nat.mul_succ];exact Nat.mul_le_mul_left _ hlt
   grind
  ·have:p*k+p<=p*i:=by rw[<- Nat.mul_succ];exact Nat.mul_le_mul_left _ zw
   grind
theorem N9{p n:Nat}(hp:1<=p)(h:0<n):p*(cz p n-1)<n/\n<=p*(cz p n-1)+p/\1<=cz p n:=by
 have h1:0<cz p n:=(fp hp).2 af;have h2:cz p n-1<cz p n:=by omega
 have h3:¬cz p n<cz p n:=Nat.lt_irrefl _;refine⟨(fp hp).1 h2,?_,h1⟩;rw[fp hp]at h3;have:p*(cz p n-1)+p=p*cz p n:=by rw[<- Nat.mul_succ,show(cz p n-1).succ=cz p n by omega]
 omega
theorem Rb{p sz:Nat}{rs:List Rec}(hs:gK sz rs)(hp:1<=p){i:Nat}(hi:i<rs.length) :
 p*(i/p)<rs.length/\((((rs.drop (p*(i/p))).take p).flatten).drop (sz*(i%p))).take sz=rs[i]/\sz*(i%p)+sz<=(((rs.drop (p*(i/p))).take p).flatten).length:=by
 have h1:=Nat.div_add_mod i p;have h2:=Nat.mod_lt i (show 0<p by omega);have hl:i%p<((rs.drop (p*(i/p))).take p).length:=by grind
 refine⟨af,?_,?_⟩
 ·rw[Q9 ((hs.drop _).take _) hl];grind
 ·rw[qG ((hs.drop _).take _)];have:=Nat.mul_le_mul_left sz (show i%p+1<=_ from hl);omega
structure aD where
 t:UInt32
 h:UInt32
 x:UInt64
 m:UInt32
theorem aD.ext'{a b:aD}(h1:a.t=b.t)(h2:a.h=b.h)(h3:a.x=b.x)(h4:a.m=b.m):a=b:=by
 cases a;simp_all
def pk(by':Bool)(e:aD):Nat:=if by' then e.h.toNat*4294967296+e.t.toNat else e.t.toNat*4294967296+e.h.toNat
def rk(e:aD):Nat:=e.x.toNat*4294967296+(e.m.toNat+1)%4294967296
def same(a b:aD):Prop:=a.t=b.t/\a.h=b.h
theorem iL{b:Bool}{x y:aD}:pk b x=pk b y↔same x y:=by
 have h1:=x.t.toNat_lt;have h2:=x.h.toNat_lt;have h3:=y.t.toNat_lt;have h4:=y.h.toNat_lt;grind [pk,same,UInt32.toNat_inj]
theorem Rc{x y:aD}(h:rk x=rk y):x.x=y.x/\x.m=y.m:=by
 have h1:=x.m.toNat_lt;have h2:=y.m.toNat_lt;grind [rk,UInt64.toNat_inj,UInt32.toNat_inj]
def dB(b:Bool)(x y:aD):Prop:=pk b x<pk b y\/pk b x=pk b y/\rk x<=rk y
theorem dB.refl(b:Bool)(x:aD):dB b x x:=.inr ⟨rfl,Nat.le_refl _⟩
theorem dB.trans{b:Bool}{x y z:aD}(h:dB b x y)(k:dB b y z):dB b x z:=by grind [dB]
structure dJ(b:Bool)(l out:List aD):Prop where
 gU:out.Pairwise (fun x y=>pk b x<pk b y)
 mem:∀e∈out,e∈l/\e.t≠e.h/\∀x∈l,same x e->rk e<=rk x
 all:∀x∈l,x.t≠x.h->∃e∈out,same e x
theorem GV{α:Type}{f:α->Nat}{a c:List α}(ha:a.Pairwise (fun x y=>f x<f y))(hc:c.Pairwise (fun x y=>f x<f y))(h:∀x,x∈a↔x∈c):a=c:=by
 induction a generalizing c with
 |nil=>
   cases c with
   |nil=>rfl
   |cons y c=>have:=(h y).2 ai;grind
 |cons x a ih=>
   cases c with
   |nil=>grind
   |cons y c=>
     grind [List.pairwise_cons]
theorem same.symm{x y:aD}(h:same x y):same y x:=⟨h.1.symm,h.2.symm⟩
theorem same.trans{x y z:aD}(h:same x y)(k:same y z):same x z:=⟨h.1.trans k.1,h.2.trans k.2⟩
theorem same.loop{x y:aD}(h:same x y)(hx:x.t≠x.h):y.t≠y.h:=by rw[<- h.1,<- h.2];exact hx
theorem dJ.sub{b:Bool}{l a c:List aD}(ha:dJ b l a)(hc:dJ b l c):∀x∈a,x∈c:=fun x hx=>by
 obtain⟨h1,h2,h3⟩:=ha.mem x hx;obtain⟨e,he,hs⟩:=hc.all x h1 h2;obtain⟨g1,g2,g3⟩:=hc.mem e he;have h4:=h3 e g1 hs;have h5:=g3 x h1 hs.symm;have h6:=Rc (Nat.le_antisymm h4 h5);rw[aD.ext' hs.symm.1 hs.symm.2 h6.1 h6.2];exact he
theorem dJ.unique{b:Bool}{l a c:List aD}(ha:dJ b l a)(hc:dJ b l c):a=c:=GV ha.gU hc.gU fun x=>⟨ha.sub hc x,hc.sub ha x⟩
theorem dJ.congr{b:Bool}{l l' out:List aD}(h:dJ b l out)(hm:∀x,x∈l↔x∈l'):dJ b l' out:=
 ⟨h.gU,fun e he=>⟨(hm e).1 (h.mem e he).1,(h.mem e he).2.1,fun x hx=>(h.mem e he).2.2 x ((hm x).2 hx)⟩,fun x hx=>h.all x ((hm x).2 hx)⟩
theorem dJ.nil(b:Bool):dJ b [] []:=⟨List.Pairwise.nil,(fun _ h=>nomatch h),(fun _ h=>nomatch h)⟩
theorem dJ.trans{b b':Bool}{l m out:List aD}(h:dJ b' l m)(k:dJ b m out):dJ b l out:=
 ⟨k.gU,fun e he=>by
  grind [mem],fun x hx hn=>by
  obtain⟨e,he,hs⟩:=h.all x hx hn;obtain⟨e',he',hs'⟩:=k.all e he (hs.symm.loop hn);grind [same.trans]⟩
theorem dJ.both{b:Bool}{l1 l2 m1 m2 out:List aD}(h1:dJ b l1 m1)(h2:dJ b l2 m2)(k:dJ b (m1++m2) out):dJ b (l1++l2) out:=by
 refine⟨k.gU,fun e he=>?_,fun x hx hn=>?_⟩
 ·obtain⟨g1,g2,g3⟩:=k.mem e he;refine⟨?_,g2,fun x hx hs=>?_⟩
  ·grind [mem]
  ·have hn:x.t≠x.h:=hs.symm.loop g2;rcases List.mem_append.1 hx with hx | hx
   ·obtain⟨y,hy,Qb⟩:=h1.all x hx hn;have:=(h1.mem y hy).2.2 x hx Qb.symm;grind [same.trans]
   ·obtain⟨y,hy,Qb⟩:=h2.all x hx hn;have:=(h2.mem y hy).2.2 x hx Qb.symm;grind [same.trans]
 ·rcases List.mem_append.1 hx with hx | hx
  ·obtain⟨y,hy,Qb⟩:=h1.all x hx hn;obtain⟨e,he,hs⟩:=k.all y (List.mem_append_left _ hy) (Qb.symm.loop hn);grind [same.trans]
  ·obtain⟨y,hy,Qb⟩:=h2.all x hx hn;obtain⟨e,he,hs⟩:=k.all y (List.mem_append_right _ hy) (Qb.symm.loop hn);grind [same.trans]
def GX(out:List aD)(e:aD):Prop:=e.t=e.h\/∃y,out.getLast? = some y/\same y e
open Classical in
noncomputable def sZ(out:List aD)(e:aD):List aD:=if GX out e then out else out++[e]
noncomputable def fL(xs:List aD):List aD:=xs.foldl sZ []
theorem wz(xs:List aD)(e:aD):fL (xs++[e])=sZ (fL xs) e:=by grind [fL]
theorem wD{out:List aD}{e:aD}(h:GX out e):sZ out e=out:=by grind [sZ]
theorem Aa{out:List aD}{e:aD}(h:¬GX out e):sZ out e=out++[e]:=by grind [sZ]
theorem GY(out:List aD)(e:aD):(sZ out e).length<=out.length+1:=by
 grind [GX,wD,Aa]
theorem mS(xs:List aD):(fL xs).length<=xs.length:=by
 suffices h:∀(xs ys:List aD),(xs.foldl sZ ys).length<=ys.length+xs.length by grind [fL]
 intro xs;induction xs with
 |nil=>simp
 |cons x xs ih=>
   grind [GY]
theorem dJ.put{b:Bool}{xs out:List aD}{e:aD}(h:dJ b xs out)(hs:∀x∈xs,dB b x e):dJ b (xs++[e]) (sZ out e):=by
 by_cases hsk:GX out e
 ·rw[wD hsk];refine⟨h.gU,fun o ho=>⟨List.mem_append_left _ (h.mem o ho).1,(h.mem o ho).2.1,fun x hx Re=>?_⟩,fun x hx hn=>?_⟩
  ·rcases List.mem_append.1 hx with hx | hx
   ·exact(h.mem o ho).2.2 x hx Re
   ·rw[List.mem_singleton.1 hx]at Re ⊢;have h1:=hs o (h.mem o ho).1;grind [iL,dB]
  ·rcases List.mem_append.1 hx with hx | hx
   ·grind [all]
   ·rw[List.mem_singleton.1 hx]at hn ⊢;rcases hsk with hl |⟨y,hy,hye⟩
    ·grind
    grind
 ·rw[Aa hsk];have hn:e.t≠e.h:=fun h=>hsk (.inl h);have zw:∀o∈out,pk b o<pk b e:=fun o ho=>by
   have h1:=hs o (h.mem o ho).1;rcases Nat.lt_or_ge (pk b o) (pk b e) with hlt | yR
   ·omega
   ·exfalso
    have h2:pk b o=pk b e:=by grind [dB]
    rcases List.eq_nil_or_concat out with rfl |⟨r,y,hr⟩
    ·cases ho
    ·have hy:out.getLast? = some y:=by grind
     have hyo:pk b y<=pk b e:=by
      have h3:=hs y (h.mem y (by grind)).1;grind [dB]
     have hoy:o=y\/pk b o<pk b y:=by
      have h4:=h.gU;rw[hr,List.concat_eq_append,List.pairwise_append]at h4;rw[hr,List.concat_eq_append]at ho;rcases List.mem_append.1 ho with ho | ho
      ·exact .inr (h4.2.2 o ho y ai)
      grind
     rcases hoy with rfl | hoy
     ·exact hsk (.inr ⟨o,hy,iL.1 h2⟩)
     ·omega
  refine⟨?_,fun o ho=>?_,fun x hx hxn=>?_⟩
  ·grind [gU]
  ·rcases List.mem_append.1 ho with ho | ho
   ·grind [mem,iL]
   ·rw[List.mem_singleton.1 ho];refine⟨ai,hn,fun x hx Re=>?_⟩;rcases List.mem_append.1 hx with hx | hx
    ·obtain⟨o',jM,hs'⟩:=h.all x hx (Re.symm.loop hn);grind [iL,same.trans]
    grind
  ·rcases List.mem_append.1 hx with hx | hx
   ·grind [all]
   ·rw[List.mem_singleton.1 hx];exact⟨e,ai,rfl,rfl⟩
theorem wF{b:Bool}{xs:List aD}(h:xs.Pairwise (dB b)):dJ b xs (fL xs):=by
 suffices g:∀(n:Nat)(xs:List aD),xs.length=n->xs.Pairwise (dB b)->dJ b xs (fL xs) from g _ xs rfl h
 intro n;induction n with
 |zero=>
   intro xs hl _;obtain rfl:=List.eq_nil_of_length_eq_zero hl;exact dJ.nil b
 |succ n ih=>
   intro xs hl hp;rcases List.eq_nil_or_concat xs with rfl |⟨r,y,hr⟩
   ·grind
   ·rw[List.concat_eq_append]at hr;subst hr;rw[wz];rw[List.pairwise_append]at hp;exact(ih r (by grind) hp.1).put fun x hx=>hp.2.2 x hx y ai
noncomputable def aC(b:Bool)(l:List aD):List aD:=open Classical in fL (l.mergeSort (fun x y=>decide (dB b x y)))
theorem bL(b:Bool)(l:List aD):dJ b l (aC b l):=by
 unfold aC;refine(wF ?_).congr fun x=>List.mem_mergeSort;grind [List.pairwise_mergeSort,dB]
theorem dJ.eq{b:Bool}{l out:List aD}(h:dJ b l out):out=aC b l:=h.unique (bL b l)
end
section
open Go.RowKit Go.Maps Go.MapKept
open Go.ChangeMaps (setBlock heap_setBlock_same heap_setBlock_other)
abbrev iM:=Value×bZ
def bJ(v:Value)(f:bZ):List Value:=[.bool f.full,.string f.name,.int .i64 (f.k:Int),v,.int .i64 0,.bool f.bU,.bool f.used]
def rowOf:List iM->List Value
 | []=>[]
 |p::l=>bJ p.1 p.2++rowOf l
theorem uk(l:List iM):(rowOf l).length=7*l.length:=by
 induction l with
 |nil=>rfl
 |cons p l ih=>grind [rowOf,List.length_cons,bJ]
theorem Ds{l:List iM}{i:Nat}{p:iM}(h:l[i]? = some p){j:Nat}(hj:j<7):(rowOf l)[7*i+j]? = (bJ p.1 p.2)[j]? := by
 induction l generalizing i with
 |nil=>cases h
 |cons q l ih=>
   rw[rowOf];cases i with
   |zero=>
     grind [bJ]
   |succ i=>
     rw[List.getElem?_append_right (by simp[bJ];omega),<- ih (i:=i) (by grind)];congr 1;simp[bJ];omega
theorem Oa{l:List iM}{i:Nat}{p q:iM}(h:l[i]? = some p){j:Nat}(hj:j<7){v:Value}(hv:(bJ p.1 p.2).set j v=bJ q.1 q.2):(rowOf l).set (7*i+j) v=rowOf (l.set i q):=by
 induction l generalizing i with
 |nil=>cases h
 |cons r l ih=>
   cases i with
   |zero=>
     cases h;rw[rowOf,List.set_cons_zero,rowOf,List.set_append_left _ _ (by grind [bJ])];grind
   |succ i=>
     rw[rowOf,List.set_cons_succ,rowOf,<- ih (i:=i) (by grind),List.set_append_right _ _ (by simp[bJ];omega)];congr 2;simp[bJ];omega
theorem Ab{b:Nat}{t:TypeId}(vs:List Value):∀{w:World}{o:Nat}{cs:List Value},w.heap[b]? = some (.cells cs.toArray t)->o+vs.length<=cs.length ->
 (w.setCells b o vs).heap[b]? = some (.cells (cs.take o++(vs++cs.drop (o+vs.length))).toArray t):=by
 induction vs with
 |nil=>intro w o cs h _;simp[World.setCells,h]
 |cons v vs ih=>
   intro w o cs h ho;rw[List.length_cons]at ho;have h1:=aT h o v;rw[List.setIfInBounds_toArray]at h1;rw[World.setCells,ih h1 (by grind)];congr 3;have zH:cs.set o v=cs.take o++v::cs.drop (o+1):=List.set_eq_take_append_cons_drop.trans (by grind);have e1:(cs.set o v).take (o+1)=cs.take o++[v]:=by
    grind
   have e2:(cs.set o v).drop (o+1+vs.length)=cs.drop (o+(vs.length+1)):=by
    grind [List.drop_set_of_lt]
   simp_all
theorem GZ{l:List iM}{i:Nat}(h:i<l.length)(q:iM):(rowOf l).take (7*i)++(bJ q.1 q.2++(rowOf l).drop (7*i+7))=rowOf (l.set i q):=by
 induction l generalizing i with
 |nil=>grind
 |cons r l ih=>
   cases i with
   |zero=>
     rfl
   |succ i=>
     have t1:(bJ r.1 r.2++rowOf l).take (7*(i+1))=bJ r.1 r.2++(rowOf l).take (7*i):=by
      rfl
     have t2:(bJ r.1 r.2++rowOf l).drop (7*(i+1)+7)=(rowOf l).drop (7*i+7):=by
      rfl
     grind [rowOf]
section
variable {w w':World} {fb:Nat} {l:List iM}
def dF(w:World)(fb:Nat)(l:List iM):Prop:=∃t,w.heap[fb]? = some (.cells (rowOf l).toArray t)
theorem dF.range(h:dF w fb l){i:Nat}{p:iM}(hi:l[i]? = some p):w.rangeAt fb (7*i) (bJ p.1 p.2):=fun j v hv=>by
 obtain⟨t,h⟩:=h;have hj:j<7:=aN hv;rw[ar h,List.getElem?_toArray,Ds hi hj];exact hv
theorem dF.cell(h:dF w fb l){i:Nat}{p:iM}(hi:l[i]? = some p){j:Nat}{v:Value}(hv:(bJ p.1 p.2)[j]? = some v):w.cell? ⟨fb,7*i+j,none⟩=some v:=h.range hi j v hv
theorem dF.free(h:dF w fb l)(i:Nat):w.frozen? ⟨fb,i,none⟩=false:=by
 obtain⟨t,h⟩:=h;exact aO h i
theorem dF.lt(h:dF w fb l):fb<w.heap.size:=by
 obtain⟨t,h⟩:=h;grind
theorem dF.set(h:dF w fb l){i:Nat}{p q:iM}(hi:l[i]? = some p){j:Nat}(hj:j<7){v:Value}(hv:(bJ p.1 p.2).set j v=bJ q.1 q.2):dF (w.setCell ⟨fb,7*i+j,none⟩ v) fb (l.set i q):=by
 obtain⟨t,h⟩:=h;refine⟨t,?_⟩;rw[aT h,List.setIfInBounds_toArray,Oa hi hj hv]
theorem dF.Zv(h:dF w fb l){i:Nat}(hi:i<l.length)(q:iM):dF (w.setCells fb (7*i) (bJ q.1 q.2)) fb (l.set i q):=by
 obtain⟨t,h⟩:=h;refine⟨t,?_⟩;rw[Ab _ h (by rw[uk];show 7*i+7<=_;omega)];congr 3;exact GZ hi q
theorem dF.kept{S:Nat->Prop}(h:dF w fb l)(ht:aG S w w')(hs:¬S fb):dF w' fb l:=by
 obtain⟨t,h⟩:=h;exact⟨t,ht.heap h hs⟩
end
theorem aG.setCells{S:Nat->Prop}{w w':World}(h:aG S w w')(b o:Nat)(vs:List Value)(hb:S b\/w.heap.size<=b):aG S w (w'.setCells b o vs):=by
 induction vs generalizing w' o with
 |nil=>exact h
 |cons v vs ih=>exact ih (h.setCell ⟨b,o,none⟩ v hb) (o+1)
abbrev jt:=bS prog 170 eD (fun i:Nat=>.int .i64 (i:Int))
def gp(fs:List bZ)(m:List ((Name×Nat)×Nat)):Prop:=∀n k i,aB m (n,k)=some i ↔ ∃fr,fs[i]? = some fr/\fr.full=true/\fr.name=n/\fr.k=k
theorem Rf:(170:TypeId)<prog.types.size:=of_decide_eq_true ah
theorem Ob:(match prog.underlying 170 with | some (.array _ _) | some (.struct _)=>true | _=>false)=true:=by rw[Tryz.underlying170]
theorem jW:Keyed prog 170:=Keyed.of_law (deep_law_laid Tryz.Gx (m:=2) af Rf ah Ob)
theorem rE{s:ByteArray}{n:Nat}(h:s.size<=maxLen)(hn:n<9223372036854775808):Good prog 170 (eD (s,n)):=by
 have h1:prog.keyType 170=true:=by kernel_rfl
 have h2:prog.cellsOf 170=2:=by rfl
 have h3:prog.cellsOf 9=1:=by rfl
 have h4:prog.cellsOf 3=1:=by rfl
 have h5:(Lit.int .i64 (n:Int)).wf=true:=by
  have:(Lit.int .i64 (n:Int)).wf=(decide (-9223372036854775808<=(n:Int)) && decide ((n:Int)<=9223372036854775807)):=by rfl
  grind
 have hk:∀d,prog.keyLits (d+2) 170 [.string s,.int .i64 (n:Int)]=some [.string s.data.toList,.int .i64 (n:Int)]:=by
  intro d;simp[Program.keyLits,Tryz.underlying170,Tryz.underlying9,Tryz.underlying3,h2,h3,h4,h,h5]
 unfold Good eD keyOf;rw[Tryz.underlying170];simp only[h1,Value.formed,Tryz.underlying170,h2];have Ce:prog.keyLits (prog.types.size+1) 170 (Value.agg #[.string s,.int .i64 (n:Int)]).cells.toList=some [.string s.data.toList,.int .i64 (n:Int)]:=hk (prog.types.size-1);simp_all
def cM(c:Nat):Prop:=c<10
theorem G0{o:au}{x:Nat}(h:o.In pD x):o.In cM x:=by
 obtain⟨t,h1,h2⟩:=h;have h2:t.1<6:=h2;exact⟨t,h1,show t.1<10 by omega⟩
def dK(w:World)(pb db fb mb n hand mf:Nat):Prop:=
 ∃t,w.heap[pb]? = some (.cells #[ptrTo db,.slice (some ⟨fb,0,none⟩) n n,.map (some mb),.int .i64 (hand:Int),.int .i64 (mf:Int),.int .i64 0] t)
structure bz(w:World)(pb db fb mb:Nat)(o:au)(l:List iM)(hand mf:Nat)(d:Dsk):Prop where
 mK:cI w db o d
 yT:o pb=some (6,0)
 sj:o fb=some (7,0)
 oK:o mb=some (8,0)
 head:dK w pb db fb mb l.length hand mf
 row:dF w fb l
 um:∃m,jt w mb m/\gp (l.map (·.2)) m
 each:∀p∈l,w.ownsRow 0 5 1 p.1 p.2.bytes.length (p.2.bytes.map bv)/\∀b,p.1.ownBlock=some b->o b=some (9,0)
 hand:hand<l.length
 most:l.length<=4096
 full:mf<=l.length
def aR(w:World)(pb db n:Nat)(o:au)(d:Dsk)(L:aH):Prop:=
 ∃fb mb l hand mf,bz w pb db fb mb o l hand mf d/\l.length=n/\Sound d (l.map (·.2)) L
section
variable {S:Nat->Prop} {w w':World} {o o':au} {pb db fb mb:Nat} {l:List iM} {hand mf:Nat} {d d':Dsk} {L:aH}
theorem dK.kept{n:Nat}(h:dK w pb db fb mb n hand mf)(ht:aG S w w')(hs:¬S pb):dK w' pb db fb mb n hand mf:=by
 obtain⟨t,h⟩:=h;exact⟨t,ht.heap h hs⟩
theorem dK.cells{n:Nat}(h:dK w pb db fb mb n hand mf) :
 (w.cell? ⟨pb,0,none⟩=some (ptrTo db)/\w.cell? ⟨pb,1,none⟩=some (.slice (some ⟨fb,0,none⟩) n n)/\w.cell? ⟨pb,2,none⟩=some (.map (some mb))/\w.cell? ⟨pb,3,none⟩=some (.int .i64 (hand:Int))/\w.cell? ⟨pb,4,none⟩=some (.int .i64 (mf:Int))/\w.cell? ⟨pb,5,none⟩=some (.int .i64 0)) /\
   w.frozen? ⟨pb,3,none⟩=false/\w.frozen? ⟨pb,4,none⟩=false/\w.frozen? ⟨pb,5,none⟩=false:=by
 obtain⟨t,h⟩:=h;refine⟨⟨?_,?_,?_,?_,?_,?_⟩,aO h _,aO h _,aO h _⟩<;>rw[ar h]<;>rfl
theorem dK.EE{n:Nat}(h:dK w pb db fb mb n hand mf)(a:Nat):dK (w.setCell ⟨pb,3,none⟩ (.int .i64 (a:Int))) pb db fb mb n a mf:=by
 obtain⟨t,h⟩:=h;exact⟨t,by rw[aT h];rfl⟩
theorem dK.Vt{n:Nat}(h:dK w pb db fb mb n hand mf)(a:Nat):dK (w.setCell ⟨pb,4,none⟩ (.int .i64 (a:Int))) pb db fb mb n hand a:=by
 obtain⟨t,h⟩:=h;exact⟨t,by rw[aT h];rfl⟩
theorem dK.Vu{n:Nat}(h:dK w pb db fb mb n hand mf):dK (w.setCell ⟨pb,5,none⟩ (.int .i64 0)) pb db fb mb n hand mf:=by
 obtain⟨t,h⟩:=h;exact⟨t,by rw[aT h];rfl⟩
theorem dK.lt{n:Nat}(h:dK w pb db fb mb n hand mf):pb<w.heap.size:=by
 obtain⟨t,h⟩:=h;grind
theorem bz.owned(h:bz w pb db fb mb o l hand mf d):∀x t,o x=some t->x<w.heap.size:=by
 obtain⟨_,_,_,hd⟩:=h.mK;exact hd.owned
theorem bz.kept(h:bz w pb db fb mb o l hand mf d)(ht:aG S w w')(hs:∀x,o.In cM x->¬S x)(ho:∀x t,o x=some t->o' x=some t)(hb:∀x t,o' x=some t->x<w'.heap.size):bz w' pb db fb mb o' l hand mf d where
 mK:=h.mK.kept ht (fun x t hx hl=>hs x ⟨t,hx,show t.1<10 by omega⟩) ho hb
 yT:=ho _ _ h.yT
 sj:=ho _ _ h.sj
 oK:=ho _ _ h.oK
 head:=h.head.kept ht (hs _ ⟨_,h.yT,show 6<10 by decide⟩)
 row:=h.row.kept ht (hs _ ⟨_,h.sj,show 7<10 by decide⟩)
 um:=by
  obtain⟨m,h1,h2⟩:=h.um;exact⟨m,h1.turn ht (hs _ ⟨_,h.oK,show 8<10 by decide⟩),h2⟩
 each:=fun p hp=>⟨ht.ownsRow (h.each p hp).1 (fun b hb=>hs b ⟨_,(h.each p hp).2 b hb,show 9<10 by decide⟩),fun b hb=>ho _ _ ((h.each p hp).2 b hb)⟩
 hand:=h.hand
 most:=h.most
 full:=h.full
theorem aR.kept{n:Nat}(h:aR w pb db n o d L)(ht:aG S w w')(hs:∀x,o.In cM x->¬S x)(ho:∀x t,o x=some t->o' x=some t)(hb:∀x t,o' x=some t->x<w'.heap.size):aR w' pb db n o' d L:=by
 obtain⟨fb,mb,l,hand,mf,h,hl,g⟩:=h;exact⟨fb,mb,l,hand,mf,h.kept ht hs ho hb,hl,g⟩
theorem bz.below(h:bz w pb db fb mb o l hand mf d)(hb:Below w.heap.size w w'):bz w' pb db fb mb o l hand mf d:=
 h.kept (S:=fun _=>False) (aG.aV hb) (fun _ _ h=>h) (fun _ _ h=>h) (fun x t hx=>Nat.lt_of_lt_of_le (h.owned x t hx) hb.size)
theorem aR.below{n:Nat}(h:aR w pb db n o d L)(hb:Below w.heap.size w w'):aR w' pb db n o d L:=by
 obtain⟨fb,mb,l,hand,mf,h,hl,g⟩:=h;exact⟨fb,mb,l,hand,mf,h.below hb,hl,g⟩
theorem cF.keep{n:Nat}(hg:cF n o o')(hb:∀x t,o x=some t->x<n):∀x t,o x=some t->o' x=some t:=fun x t hx=>by rw[hg x (hb x t hx)];exact hx
theorem bz.Ac(h:bz w pb db fb mb o l hand mf d)(hd:cI w' db o' d')(ht:aG (o.In pD) w w')(hg:cF w.heap.size o o'):bz w' pb db fb mb o' l hand mf d' where
 mK:=hd
 yT:=hg.keep h.owned _ _ h.yT
 sj:=hg.keep h.owned _ _ h.sj
 oK:=hg.keep h.owned _ _ h.oK
 head:=h.head.kept ht (au.Et h.yT (show ¬6<6 by decide))
 row:=h.row.kept ht (au.Et h.sj (show ¬7<6 by decide))
 um:=by
  obtain⟨m,h1,h2⟩:=h.um;exact⟨m,h1.turn ht (au.Et h.oK (show ¬8<6 by decide)),h2⟩
 each:=fun p hp=>⟨ht.ownsRow (h.each p hp).1 (fun b hb=>au.Et ((h.each p hp).2 b hb) (show ¬9<6 by decide)),fun b hb=>hg.keep h.owned _ _ ((h.each p hp).2 b hb)⟩
 hand:=h.hand
 most:=h.most
 full:=h.full
theorem bz.vW(h:bz w pb db fb mb o l hand mf d)(ht:aG (·=pb) w w'){a c:Nat}(hh:dK w' pb db fb mb l.length a c)(ha:a<l.length)(hc:c<=l.length):bz w' pb db fb mb o l a c d where
 mK:=h.mK.kept ht (fun x t hx hl=>au.ne hx h.yT (fun e=>by grind)) (fun _ _ h=>h) (fun x t hx=>Nat.lt_of_lt_of_le (h.owned x t hx) ht.size)
 yT:=h.yT
 sj:=h.sj
 oK:=h.oK
 head:=hh
 row:=h.row.kept ht (au.ne h.sj h.yT ag)
 um:=by
  obtain⟨m,h1,h2⟩:=h.um;grind [bS.turn,oK,yT]
 each:=fun p hp=>⟨ht.ownsRow (h.each p hp).1 (fun b hb=>au.ne ((h.each p hp).2 b hb) h.yT ag),(h.each p hp).2⟩
 hand:=ha
 most:=h.most
 full:=hc
theorem bz.ado(h:bz w pb db fb mb o l hand mf d)(ht:aG (fun x=>x=fb\/x=mb) w w'){l':List iM}(hl:l'.length=l.length)(hr:dF w' fb l')(ho:∀x t,o x=some t->o' x=some t)(hb:∀x t,o' x=some t->x<w'.heap.size)(hm:∃m,jt w' mb m/\gp (l'.map (·.2)) m)(he:∀p∈l',p∈l\/(w'.ownsRow 0 5 1 p.1 p.2.bytes.length (p.2.bytes.map bv)/\∀b,p.1.ownBlock=some b->o' b=some (9,0))):bz w' pb db fb mb o' l' hand mf d where
 mK:=h.mK.kept ht (fun x t hx hl e=>by
  grind [sj,oK]) ho hb
 yT:=ho _ _ h.yT
 sj:=ho _ _ h.sj
 oK:=ho _ _ h.oK
 head:=by
  rw[hl];exact h.head.kept ht (fun e=>by
   grind [yT,sj,oK])
 row:=hr
 um:=hm
 each:=fun p hp=>by
  grind [aG.ownsRow,each,sj,oK]
 hand:=by rw[hl];exact h.hand
 most:=by grind [most]
 full:=by rw[hl];exact h.full
theorem aG.aY(h:aG (o.In pD) w w'):aG (o.In cM) w w':=h.mono fun _ _ hx=>G0 hx
end
end
section
open Go.RowKit Go.Maps Go.MapKept
open Go.ChangeMaps (setBlock heap_setBlock_same heap_setBlock_other)
def nM(w:World)(pf db:Nat)(name:Name):Prop:=∃t,w.heap[pf]? = some (.cells #[ptrTo db,.string name,.int .u32 (kF name:Int)] t)
theorem nM.cells{w:World}{pf db:Nat}{name:Name}(h:nM w pf db name):w.cell? ⟨pf,0,none⟩=some (ptrTo db)/\w.cell? ⟨pf,1,none⟩=some (.string name)/\w.cell? ⟨pf,2,none⟩=some (.int .u32 (kF name:Int)):=by
 obtain⟨t,h⟩:=h;refine⟨?_,?_,?_⟩<;>rw[ar h]<;>rfl
theorem nM.lt{w:World}{pf db:Nat}{name:Name}(h:nM w pf db name):pf<w.heap.size:=by
 obtain⟨t,h⟩:=h;exact(Array.getElem?_eq_some_iff.1 h).1
theorem nM.kept{S:Nat->Prop}{w w':World}{pf db:Nat}{name:Name}(h:nM w pf db name)(ht:aG S w w')(hs:¬S pf):nM w' pf db name:=by
 obtain⟨t,h⟩:=h;exact⟨t,ht.heap h hs⟩
theorem nM.below{w w':World}{pf db:Nat}{name:Name}(h:nM w pf db name)(hb:Below w.heap.size w w'):nM w' pf db name:=h.kept (S:=fun _=>False) (aG.aV hb) (fun h=>h)
theorem G1(db:Nat)(name:Name)(w:World)(hs:name.size<=1000) :
 Calls prog 154 #[ptrTo db,.string name] w fun e w'=>∃pf,e=.returned (ptrTo pf)/\nM w' pf db name/\Below w.heap.size w w'/\w.heap.size<=pf:=by
 unfold ptrTo;go_enter func154,ntmps154;go_wp2_with fail;refine(Vi name _ hs).mono ?_;rintro e w1⟨rfl,hb1⟩;go_wp2;go_ret;exact⟨w1.heap.size,rfl,⟨_,heap_alloc_new _ _⟩,hb1.alloc hb1.size _,hb1.size⟩
def Zw(w:World)(db:Nat)(name:Name)(c:Nat)(e:Ending)(w':World):Prop:=
 ∃v,e=.returned (.tuple #[v,.int .i64 (c:Int)])/\Below w.heap.size w w'/\(c=0->∃pf,v=ptrTo pf/\nM w' pf db name/\w.heap.size<=pf)/\(c≠0->v=.pointer none)
def cN(d:Dsk)(name:Name):Nat:=if (d.sizeOf name).2≠0 then (d.sizeOf name).2 else if (d.sizeOf name).1%256≠0 then 7 else 0
theorem jX{w:World}{db:Nat}{o:au}{d:Dsk}(h:cI w db o d)(name:Name):(d.sizeOf name).1<=16777216/\(d.sizeOf name).2<=6:=by
 obtain⟨mf,ml,l,h⟩:=h;unfold Dsk.sizeOf;split
 ·exact⟨ai,ai⟩
 ·split
  ·exact⟨ai,ai⟩
  ·split
   ·exact⟨ai,ai⟩
   ·rename_i f hf
    refine⟨?_,ai⟩;have hg:aB d.files name=(aB l name).map (·.2):=by rw[<- h.strip];exact vX
    rw[hg]at hf;cases hm:aB l name with
    |none=>rw[hm]at hf;cases hf
    |some x=>
      rw[hm]at hf;cases hf;exact(h.each _ (eK hm)).most.1
theorem Ad{w:World}{db:Nat}{o:au}{d:Dsk}(h:cI w db o d)(name:Name)(hs:name.size<=1000) :
 Calls prog 180 #[ptrTo db,.string name] w (Zw w db name (cN d name)):=by
 have H:=ae h;have hb:=jX h name;obtain⟨hb1,hb2⟩:=hb;have hc:=ae (show cN d name=if (d.sizeOf name).2≠0 then (d.sizeOf name).2 else if (d.sizeOf name).1%256≠0 then 7 else 0 from rfl);clear h;unfold ptrTo;have aM:=ae (GG H.out name hs);generalize (d.sizeOf name).1=n at *;generalize (d.sizeOf name).2=c at *;generalize cN d name=r at *;by_cases h0:c=0
 ·subst h0;by_cases h1:n%256=0
  ·have h1':(n:Int)%256=0:=by omega
   have hr:r=0:=by rw[hc.out,if_neg ai,if_neg (by simp[h1])]
   have HR:=ae hr;have H1:=ae h1;clear hr h1;go_enter func180,ntmps180;go_wp2_with fail;refine aM.out.mono ?_;rintro e w1⟨rfl,hb3⟩;go_wp2_with fail;refine(G1 db name _ hs).mono ?_;rintro e w2⟨pf,rfl,hp,hb4,hl⟩;unfold ptrTo;go_wp2;go_ret2;rw[HR.out];exact⟨_,rfl,hb3.trans (hb4.mono hb3.size),fun _=>⟨pf,rfl,hp,Nat.le_trans hb3.size hl⟩,fun h=>absurd rfl h⟩
  ·have h1':¬(n:Int)%256=0:=by omega
   have hr:r=7:=by rw[hc.out,if_neg ai,if_pos h1]
   have HR:=ae hr;clear hr h1;go_enter func180,ntmps180;go_wp2_with fail;refine aM.out.mono ?_;rintro e w1⟨rfl,hb3⟩;go_wp2;go_ret2;rw[HR.out];exact⟨_,rfl,hb3,fun h=>absurd h ag,fun _=>rfl⟩
 ·have h0':¬(c:Int)=0:=by omega
  have hr:r=c:=by rw[hc.out,if_pos h0]
  have HR:=ae hr;have H0:=ae h0;clear hr h0;go_enter func180,ntmps180;go_wp2_with fail;refine aM.out.mono ?_;rintro e w1⟨rfl,hb3⟩;go_wp2;go_ret2;rw[HR.out];exact⟨_,rfl,hb3,fun h=>absurd h H0.out,fun _=>rfl⟩
theorem aw{n:Int}(h1:-9223372036854775808<=n)(h2:n<=9223372036854775807):IntKind.i64.wrap n=n:=by
 simp[IntKind.wrap,IntKind.bits,IntKind.signed];omega
theorem qI{w:World}{db pf:Nat}{o:au}{d:Dsk}{name:Name}(h:cI w db o d)(hp:nM w pf db name)(hs:name.size<=1000) :
 Calls prog 181 #[ptrTo pf] w fun e w'=>e=.returned (.tuple #[.int .i64 (((d.sizeOf name).1/256:Nat):Int),.int .i64 ((d.sizeOf name).2:Int)])/\Below w.heap.size w w':=by
 have H:=ae h;have HP:=ae hp;obtain⟨hb1,hb2⟩:=jX h name;have aM:Hid (∀W,cI W db o d->Calls prog 228 #[ptrTo db,.string name] W fun e w'=>e=.returned (.tuple #[.int .i64 ((d.sizeOf name).1:Int),.int .i64 ((d.sizeOf name).2:Int)])/\Below W.heap.size W w'):=ae (fun W hW=>GG hW name hs);clear h hp;unfold ptrTo at aM ⊢;generalize (d.sizeOf name).1=n at *;generalize (d.sizeOf name).2=c at *;go_enter func181,ntmps181;go_wp2;refine cP (Below w.heap.size w) ah ah (ak.drew) ?_;iterate 3 (refine qz ?_)
 refine qz ?_ (fun w' hw'=>by have hc:=(HP.out.below hw').cells.1;unfold ptrTo at hc;go_simp<;>rfl);iterate 3 (refine qz ?_)
 refine qz ?_ (fun w' hw'=>by have hc:=(HP.out.below hw').cells.2.1;go_simp<;>rfl);refine qw (fun w' hw'=>(aM.out w' (H.out.below hw')).mono (fun e w'' h=>⟨h.1,hw'.trans (h.2.mono hw'.size)⟩)) ?_;iterate 5 (refine qz ?_)
 refine wpQuiet_nil ?_;intro w3 hw3;go_wp2;go_ret2;exact⟨ai,hw3⟩
def aP:Prop:=∀{w:World}{db:Nat}{o:au}{d:Dsk},cI w db o d->∀(name:Name),name.size<=1000->∀(off:Nat),off<=1099511627776->∀(sv:Value)(bs:List UInt8),Rd w sv bs->bs.length<=1099511627776->(∀b,sv.ownBlock=some b->o b=none) ->
    Calls prog 230 #[ptrTo db,.string name,.int .i64 (off:Int),sv] w fun e w'=>e=.returned (.int .i64 ((d.write name off bs).2:Int))/\cy w db o (d.write name off bs).1 w'
theorem cy.after{w w1 w2:World}{db:Nat}{o:au}{d:Dsk}(hb:Below w.heap.size w w1)(h:cy w1 db o d w2):cy w db o d w2:=by
 obtain⟨o',h1,h2,h3⟩:=h;exact⟨o',h1,(aG.aV hb).trans h2 (fun _ _ hx=>hx),fun x hx=>h3 x (Nat.lt_of_lt_of_le hx hb.size)⟩
theorem cy.then{w w1 w2:World}{db:Nat}{o:au}{d:Dsk}(h:cy w db o d w1)(hb:Below w1.heap.size w1 w2):cy w db o d w2:=by
 obtain⟨o',h1,h2,h3⟩:=h;exact⟨o',h1.below hb,h2.bN hb,h3⟩
theorem EF{w:World}{db:Nat}{o:au}{d:Dsk}(h:cI w db o d)(name:Name)(hs:name.size<=1000) :
 Calls prog 105 #[ptrTo db,.string name] w fun e w'=>(∃v,e=.returned (.tuple #[v,.int .i64 ((d.create name).2:Int)]))/\cy w db o (d.create name).1 w':=by
 have aM:=ae (Kl h name hs);clear h;generalize (d.create name).1=d' at *;generalize (d.create name).2=c at *;unfold ptrTo at *;by_cases h0:c=0
 ·subst h0;go_enter func105,ntmps105;go_wp2_with fail;refine aM.out.mono ?_;rintro e w1⟨rfl,hp⟩;go_wp2_with fail;refine(G1 db name _ hs).mono ?_;rintro e w2⟨pf,rfl,-,hb,-⟩;unfold ptrTo;go_wp2;go_ret2;exact⟨⟨_,rfl⟩,hp.then hb⟩
 ·have h0':¬(c:Int)=0:=by omega
  clear h0;go_enter func105,ntmps105;go_wp2_with fail;refine aM.out.mono ?_;rintro e w1⟨rfl,hp⟩;go_wp2;go_ret2;exact⟨⟨_,rfl⟩,hp⟩
theorem Oc{w:World}{db pf:Nat}{o:au}{d:Dsk}{name:Name}(h:cI w db o d)(hp:nM w pf db name)(hs:name.size<=1000)(k n:Nat)(b:Pg)(hz:d.sizeOf name=(n,0))(hk:k<n/256)(hn:n<=16777216)(hr:d.read name (256*k) 256=(dv (kF name) k b,0))(hb:b.length<=240) :
 Calls prog 196 #[ptrTo pf,.int .i64 (k:Int)] w (sV w b):=by
 have aM:=ae (qI h hp hs);rw[hz]at aM;have H:=ae h;have HP:=ae hp;have Vv:=GM name;have ij:Hid (∀W,cI W db o d->Calls prog 237 #[ptrTo db,.string name,.int .i64 ((k:Int)*256),.int .i64 256] W (GH W (dv (kF name) k b,0))):=ae (fun W hW=>by
  have:=QO hW name hs (256*k) 256 af;rw[hr,show((256*k:Nat):Int)=(k:Int)*256 by omega]at this;exact this)
 have Zx:=ae (Eu (kF name) k b hb Vv af);clear h hp hz hr;unfold ptrTo at *;generalize hT:kF name=tag at *;have HT:=ae hT;clear hT;generalize dv tag k b=p at *;obtain⟨q,hq⟩:∃q,q=n/256:=⟨_,rfl⟩;rw[<- hq]at hk aM;have hqb:q<=65536:=by omega
 clear hq hn;dsimp only at aM;have Ce:¬((k:Int) >= (q:Int)):=by omega
 go_enter func196,ntmps196;go_wp2_with fail;refine aM.out.mono ?_;rintro e w1⟨rfl,hb1⟩;have H1:=ae (H.out.below hb1);have Ku:=ae (HP.out.below hb1);have cO:=ae hb1;clear hb1;obtain⟨hc0,hc1,hc2⟩:=Ku.out.cells;unfold ptrTo at hc0;go_wp2;have Rg:IntKind.i64.wrap ((k:Int)*256)=(k:Int)*256:=aw af af;refine cE (Below w1.heap.size w1) 10 rfl ah ah (ak.drew) ?_;simp only[List.take_succ_cons,List.take_zero];iterate 3 (refine qz ?_)
 refine qz ?_ (fun w' hw'=>by have hc:=(Ku.out.below hw').cells.1;unfold ptrTo at hc;go_simp<;>rfl);iterate 3 (refine qz ?_)
 refine qz ?_ (fun w' hw'=>by have hc:=(Ku.out.below hw').cells.2.1;go_simp<;>rfl);iterate 2 (refine qz ?_)
 refine wpQuiet_nil ?_;intro w2 hw2;refine⟨_,_,rfl,(by go_simp<;>exact⟨rfl,rfl⟩),?_⟩;refine(ij.out _ (H1.out.below hw2)).mono ?_;rintro e w3⟨v3,rfl,iW,hb3⟩;obtain⟨a3,c3,rfl⟩:=aA iW;refine⟨_,rfl,?_⟩;go_simp;iterate 5 (refine qz ?_)
 refine wpQuiet_nil ?_;have cY:Hid (Below w.heap.size w w2):=ae (cO.out.trans (hw2.mono cO.out.size));have jJ:Hid (Below w.heap.size w w3):=ae (cY.out.trans (hb3.mono cY.out.size));have mQ:=ae iW;have hc3:w3.cell? ⟨pf,2,none⟩=some (.int .u32 (tag:Int)):=by
  have:=((Ku.out.below hw2).below hb3).cells.2.2;rw[HT.out]at this;exact this
 have Zb:k<4294967296:=by omega
 clear hw2 hb3 iW hc0 hc1 hc2 Rg;go_wp2_with fail;refine(QG tag k _ b p _ (fH mQ.out) Zx.out hb Vv af).mono ?_;rintro e w4⟨v4,rfl,Em,hb4⟩;go_wp2;go_ret2;exact⟨v4,rfl,aU Em jJ.out.size,jJ.out.trans (hb4.mono jJ.out.size)⟩
theorem EG(d:Dsk)(name:Name)(k:Nat)(b:Pg)(n c:Nat)(h:d.sizeOf name=(n,c)):dA d name k b=if c≠0 then (d,c) else if n/256<k then (d,1) else d.write name (256*k) (dv (kF name) k b):=by
 unfold dA;rw[h]
theorem G2(HW:aP){w:World}{db pf:Nat}{o:au}{d:Dsk}{name:Name}(h:cI w db o d)(hp:nM w pf db name)(hs:name.size<=1000)(k:Nat)(hk:k<65536)(sv:Value)(b:Pg)(hb:b.length<=240)(hv:Rd w sv b) :
 Calls prog 182 #[ptrTo pf,.int .i64 (k:Int),sv] w fun e w'=>e=.returned (.int .i64 ((dA d name k b).2:Int))/\cy w db o (dA d name k b).1 w':=by
 have aM:=ae (qI h hp hs);obtain⟨hn,hc6⟩:=jX h name;obtain⟨n,c,hz⟩:∃n c,d.sizeOf name=(n,c):=⟨_,_,rfl⟩;have Zy:=ae (EG d name k b n c hz);rw[hz]at aM hn hc6;have H:=ae h;have HP:=ae hp;have HV:=ae hv;obtain⟨a0,c0,rfl,-⟩:=hv;have Vv:=GM name;have ij:Hid (∀W sv p,p.length=256->cI W db o d->Rd W sv p->(∀b,sv.ownBlock=some b->o b=none)->Calls prog 230 #[ptrTo db,.string name,.int .i64 ((k:Int)*256),sv] W fun e w'=>e=.returned (.int .i64 ((d.write name (256*k) p).2:Int))/\cy W db o (d.write name (256*k) p).1 w'):=ae (fun W sv p hp hW hv N6=>by
  have:=HW hW name hs (256*k) af sv p hv af N6;rw[show((256*k:Nat):Int)=(k:Int)*256 by omega]at this;exact this)
 have Cb:=ae (dR (kF name) k b hb);clear h hp hz;unfold ptrTo at *;generalize hT:kF name=tag at *;have HT:=ae hT;clear hT;obtain⟨q,hq⟩:∃q,q=n/256:=⟨_,rfl⟩;rw[<- hq]at aM Zy;have hqb:q<=65536:=by omega
 clear hq hn;dsimp only at aM hc6;by_cases h0:c=0
 ·subst h0;by_cases hkq:q<k
  ·have hr:dA d name k b=(d,1):=by rw[Zy.out,if_neg ai,if_pos hkq]
   have HR:=ae hr;clear hr Zy Cb;go_enter func182,ntmps182;go_wp2_with fail;refine aM.out.mono ?_;rintro e w1⟨rfl,hb1⟩;go_wp2;go_ret;rw[HR.out];exact⟨rfl,.of (H.out.below hb1) (aG.aV hb1)⟩
  ·have hr:dA d name k b=d.write name (256*k) (dv tag k b):=by rw[Zy.out,if_neg ai,if_neg hkq]
   have HR:=ae hr;have Zb:k<4294967296:=by omega
   clear hr Zy;go_enter func182,ntmps182;go_wp2_with fail;refine aM.out.mono ?_;rintro e w1⟨rfl,hb1⟩;have cO:=ae hb1;have hc2:=(HP.out.below hb1).cells.2.2;rw[HT.out]at hc2;clear hb1;go_wp2_with fail;refine(QE tag k _ b _ (HV.out.below cO.out) hb Vv af).mono ?_;rintro e w2⟨v2,rfl,kD,hb2⟩;have cY:Hid (Below w.heap.size w w2):=ae (cO.out.trans (hb2.mono cO.out.size));have qo:=ae (aU kD cO.out.size);have p8:=ae (HP.out.below cY.out);generalize hP:dv tag k b=p at *;obtain⟨a2,c2,rfl⟩:=aA kD;clear hP kD hb2 hc2;go_wp2;have Rg:IntKind.i64.wrap ((k:Int)*256)=(k:Int)*256:=aw af af;refine cE (Below w2.heap.size w2) 11 rfl ah ah (ak.drew) ?_;simp only[List.take_succ_cons,List.take_zero];iterate 3 (refine qz ?_)
   refine qz ?_ (fun w' hw'=>by have hc:=(p8.out.below hw').cells.1;unfold ptrTo at hc;go_simp<;>rfl);iterate 3 (refine qz ?_)
   refine qz ?_ (fun w' hw'=>by have hc:=(p8.out.below hw').cells.2.1;go_simp<;>rfl);iterate 3 (refine qz ?_)
   refine wpQuiet_nil ?_;intro w3 hw3;refine⟨_,_,rfl,(by go_simp<;>exact⟨rfl,rfl⟩),?_⟩;have jJ:Hid (Below w.heap.size w w3):=ae (cY.out.trans (hw3.mono cY.out.size));have mQ:Hid (w3.ownsRow w.heap.size 5 1 (.slice a2 p.length c2) p.length (p.map bv)):=ae (aU (aW qo.out hw3) (Nat.le_refl _));clear hw3 Rg;refine(ij.out _ _ p Cb.out (H.out.below jJ.out) (fH mQ.out) (fun b hb=>eM (fun x t hx=>by
    obtain⟨_,_,_,hd⟩:=H.out;exact hd.owned x t hx) (aL mQ.out b hb).2)).mono ?_
   rintro e w4⟨rfl,po⟩;have ye:=ae (cy.after jJ.out po);clear po;refine⟨_,rfl,?_⟩;go_simp;refine qz ?_;refine wpQuiet_nil ?_;go_wp2;go_ret;rw[HR.out];exact⟨rfl,ye.out⟩
 ·have h0':¬(c:Int)=0:=by omega
  have hr:dA d name k b=(d,c):=by rw[Zy.out,if_pos h0]
  have HR:=ae hr;clear hr Zy h0 Cb;go_enter func182,ntmps182;go_wp2_with fail;refine aM.out.mono ?_;rintro e w1⟨rfl,hb1⟩;go_wp2;go_ret;rw[HR.out];exact⟨rfl,.of (H.out.below hb1) (aG.aV hb1)⟩
theorem Kv{w:World}{db pf:Nat}{o:au}{d:Dsk}{name:Name}(h:cI w db o d)(hp:nM w pf db name)(hs:name.size<=1000) :
 Calls prog 122 #[ptrTo pf] w fun e w'=>e=.returned (.int .i64 ((d.sync name).2:Int))/\cy w db o (d.sync name).1 w':=by
 have H:=ae h;have HP:=ae hp;have aM:Hid (∀W,cI W db o d->Calls prog 185 #[ptrTo db,.string name] W fun e w'=>e=.returned (.int .i64 ((d.sync name).2:Int))/\cy W db o (d.sync name).1 w'):=ae (fun W hW=>QM hW name hs);clear h hp;unfold ptrTo at *;generalize (d.sync name).1=d' at *;generalize (d.sync name).2=c at *;go_enter func122,ntmps122;go_wp2;refine cE (Below w.heap.size w) 8 rfl ah ah (ak.drew) ?_;simp only[List.take_succ_cons,List.take_zero];iterate 3 (refine qz ?_)
 refine qz ?_ (fun w' hw'=>by have hc:=(HP.out.below hw').cells.1;unfold ptrTo at hc;go_simp<;>rfl);iterate 3 (refine qz ?_)
 refine qz ?_ (fun w' hw'=>by have hc:=(HP.out.below hw').cells.2.1;go_simp<;>rfl);refine wpQuiet_nil ?_;intro w3 hw3;refine⟨_,_,rfl,(by go_simp<;>exact⟨rfl,rfl⟩),?_⟩;refine(aM.out _ (H.out.below hw3)).mono ?_;rintro e w4⟨rfl,po⟩;have ye:=ae (cy.after hw3 po);clear po hw3;refine⟨_,rfl,?_⟩;go_simp;refine qz ?_;refine wpQuiet_nil ?_;go_wp2;go_ret;exact⟨rfl,ye.out⟩
theorem dF.seven{w:World}{fb:Nat}{l:List iM}(h:dF w fb l){k:Nat}{v:Value}{f:bZ}(hi:l[k]? = some (v,f)) :
 w.cell? ⟨fb,k*7,none⟩=some (.bool f.full)/\w.cell? ⟨fb,k*7+1,none⟩=some (.string f.name)/\w.cell? ⟨fb,k*7+2,none⟩=some (.int .i64 (f.k:Int))/\w.cell? ⟨fb,k*7+3,none⟩=some v /\
  w.cell? ⟨fb,k*7+4,none⟩=some (.int .i64 0)/\w.cell? ⟨fb,k*7+5,none⟩=some (.bool f.bU)/\w.cell? ⟨fb,k*7+6,none⟩=some (.bool f.used):=by
 rw[Nat.mul_comm k 7];exact⟨h.cell (j:=0) hi rfl,h.cell (j:=1) hi rfl,h.cell (j:=2) hi rfl,h.cell (j:=3) hi rfl,h.cell (j:=4) hi rfl,h.cell (j:=5) hi rfl,h.cell (j:=6) hi rfl⟩
def Shaped(l:List iM):Prop:=∀p∈l,∃a c,p.1=.slice a p.2.bytes.length c
theorem bz.shaped{w:World}{pb db fb mb:Nat}{o:au}{l:List iM}{hand mf:Nat}{d:Dsk}(h:bz w pb db fb mb o l hand mf d):Shaped l:=fun p hp=>aA (h.each p hp).1
theorem Shaped.get{l:List iM}(h:Shaped l){n k:Nat}(hn:l.length=n)(hk:k<n):∃a c f,l[k]? = some (.slice a f.bytes.length c,f):=by
 have yS:k<l.length:=by omega
 obtain⟨a,c,e⟩:=h l[k] (List.getElem_mem yS);exact⟨a,c,l[k].2,by rw[List.getElem?_eq_getElem yS,<- e]⟩
theorem dF.below{w w':World}{fb:Nat}{l:List iM}(h:dF w fb l)(hb:Below w.heap.size w w'):dF w' fb l:=h.kept (S:=fun _=>False) (aG.aV hb) (fun h=>h)
def Rh(n:Nat)(w:World)(e:Ending)(w':World):Prop:=∃r dd:Nat,r<=n/\e=.returned (.tuple #[.int .i64 (r:Int),.int .i64 0,.int .i64 (dd:Int)])/\Below w.heap.size w w'
theorem Ri{w:World}{pb db fb mb:Nat}{o:au}{l:List iM}{hand mf:Nat}{d:Dsk}(h:bz w pb db fb mb o l hand mf d) :
 Calls prog 281 #[ptrTo pb] w (Rh l.length w):=by
 have wG:=ae h.row;have hn:=h.most;have HS:=ae h.shaped;obtain⟨⟨-,hc1,-⟩,-⟩:=h.head.cells;clear h;generalize hN:l.length=n at *;have HN:=ae hN;clear hN;unfold ptrTo;go_enter func281,ntmps281;go_wp2;go_loopw [2,3,4,14] (fun a b c i wr=>∃k r dd:Nat,k<=n/\r<=k/\dd<=k/\a=.int .i64 (r:Int)/\b=.int .i64 0/\c=.int .i64 (dd:Int)/\i=.int .i64 (k:Int)/\Below w.heap.size w wr) (fun _ _ _ i _=>n-(intOf i).toNat)
 case atStart=>exact⟨0,0,0,af,af,af,rfl,rfl,rfl,rfl,Below.refl _ _⟩
 case round=>
  obtain⟨k,r,dd,hk,hr,hd,rfl,rfl,rfl,rfl,hb⟩:=hrel;by_cases hlt:k<n
  ·obtain⟨a,c,f,hi⟩:=HS.out.get HN.out hlt;obtain⟨h0,h1,h2,h3,h4,h5,h6⟩:=(wG.out.below hb).seven hi;have zS:wr.cell? ⟨pb,1,none⟩=some (.slice (some ⟨fb,0,none⟩) n n):=by rw[hb.cell (p:=⟨pb,1,none⟩) (World.block_lt_of_cell? _ _ hc1)];exact hc1
   have HB:=ae hb;clear hi hb;cases fD:f.full<;>cases fZ:f.bU<;>rw[fD]at h0<;>rw[fZ]at h5<;>clear fD fZ;all_goals
    go_wp2;go_roundw
    case rel=>first
     |exact⟨k+1,r,dd,af,af,af,rfl,rfl,rfl,by go_num,HB.out.alloc HB.out.size _⟩
     |exact⟨k+1,r+1,dd,af,af,af,by go_num,rfl,rfl,by go_num,HB.out.alloc HB.out.size _⟩
     |exact⟨k+1,r,dd+1,af,af,af,rfl,rfl,by go_num,by go_num,HB.out.alloc HB.out.size _⟩
     |exact⟨k+1,r+1,dd+1,af,af,af,by go_num,rfl,by go_num,by go_num,HB.out.alloc HB.out.size _⟩
    case measure=>simp[intOf];omega
  ·obtain rfl:k=n:=by omega
   go_wp2;go_ret3
   exact⟨r,dd,hr,rfl,hb⟩
theorem Rj{w:World}{pb db fb mb:Nat}{o:au}{l:List iM}{hand mf:Nat}{d:Dsk}(h:bz w pb db fb mb o l hand mf d) :
 Calls prog 240 #[ptrTo pb] w fun e w'=>e=.returned (.tuple #[])/\(∃Zz,bz w' pb db fb mb o l hand Zz d)/\aG (·=pb) w w':=by
 have aM:=ae (Ri h);have H:=ae h;have Zi:=h.full;have hn:=h.most;clear h;unfold ptrTo at *;go_enter func240,ntmps240;go_wp2_with fail;refine aM.out.mono ?_;rintro e w1⟨r,dd,hr,rfl,hb⟩;have H1:=ae (H.out.below hb);obtain⟨⟨-,-,-,-,iz,BR⟩,-,F9,hf5⟩:=H1.out.head.cells;have HB:=ae hb;clear hb;have N4:=ae H1.out.head.lt;obtain⟨m,hm⟩:∃m:Nat,m=max mf r:=⟨_,rfl⟩;have Cb:m<=l.length:=by omega
 have HM:=ae hm;clear hm;go_wp2_with (refine nL rfl _ _ _ _ rfl mf r rfl rfl rfl rfl ?_;intro E hE;rw[<- HM.out]at hE;subst hE);go_end0
 exact⟨rfl,⟨E,H1.out.vW (((aG.refl (·=pb) w1).setCell _ _ (.inl rfl)).setCell _ _ (.inl rfl)) ((H1.out.head.Vt E).Vu) H1.out.hand Cb⟩,(((aG.aV (S:=(·=pb)) HB.out).setCell ⟨pb,4,none⟩ _ (.inl rfl)).setCell ⟨pb,5,none⟩ _ (.inl rfl))⟩
theorem map_set{l:List iM}{i:Nat}{q:iM}:(l.set i q).map (·.2)=(l.map (·.2)).set i q.2:=by simp
theorem cu{l:List iM}{i:Nat}{p:iM}(h:l[i]? = some p):(l.map (·.2))[i]? = some p.2:=by grind
theorem gp.del{fs:List bZ}{m:List ((Name×Nat)×Nat)}(h:gp fs m){i:Nat}{fr:bZ}(hi:fs[i]? = some fr)(hf:fr.full=true):gp (fs.set i bZ.none) (bX m (fr.name,fr.k)):=by
 intro n k j;rw[cD,fo (aN hi)];have hme:=(h fr.name fr.k i).2 ⟨fr,hi,hf,rfl,rfl⟩;constructor
 ·intro hj;by_cases e:(n,k)=(fr.name,fr.k)
  ·grind
  ·rw[if_neg e]at hj;obtain⟨fj,h1,h2,h3,h4⟩:=(h n k j).1 hj;grind
 ·rintro⟨fj,h1,h2,h3,h4⟩;by_cases hne:j=i
  ·rw[if_pos hne]at h1;cases h1;cases h2
  ·rw[if_neg hne]at h1;have hj:=(h n k j).2 ⟨fj,h1,h2,h3,h4⟩;grind
theorem gp.put{fs:List bZ}{m:List ((Name×Nat)×Nat)}(h:gp fs m){i:Nat}{fr x:bZ}(hi:fs[i]? = some fr)(hf:fr.full=false)(hx:x.full=true)(hn:aB m (x.name,x.k)=none):gp (fs.set i x) (aS m (x.name,x.k) i):=by
 intro n k j;rw[ay,fo (aN hi)];constructor
 ·intro hj;by_cases e:(n,k)=(x.name,x.k)
  ·grind
  ·rw[if_neg e]at hj;obtain⟨fj,h1,h2,h3,h4⟩:=(h n k j).1 hj;grind
 ·rintro⟨fj,h1,h2,h3,h4⟩;by_cases hne:j=i
  ·grind
  ·rw[if_neg hne]at h1;have hj:=(h n k j).2 ⟨fj,h1,h2,h3,h4⟩;grind
theorem gp.same{fs:List bZ}{m:List ((Name×Nat)×Nat)}(h:gp fs m){i:Nat}{fr x:bZ}(hi:fs[i]? = some fr)(h1:x.full=fr.full)(h2:x.name=fr.name)(h3:x.k=fr.k):gp (fs.set i x) m:=by
 intro n k j;rw[h n k j,fo (aN hi)];grind
theorem dF.MV{w:World}{fb:Nat}{l:List iM}(h:dF w fb l){i:Nat}(hi:i<l.length)(q:iM):dF (w.setCells fb (i*7) (bJ q.1 q.2)) fb (l.set i q):=by
 grind [Zv]
theorem bz.uo{w w':World}{pb db fb mb:Nat}{o o':au}{l:List iM}{hand mf:Nat}{d:Dsk}(h:bz w pb db fb mb o l hand mf d){i:Nat}{q:iM}(hr:dF w' fb (l.set i q))(ht:aG (fun x=>x=fb\/x=mb) w w')(ho:∀x t,o x=some t->o' x=some t)(hb:∀x t,o' x=some t->x<w'.heap.size)(hm:∃m,jt w' mb m/\gp ((l.map (·.2)).set i q.2) m)(hq:w'.ownsRow 0 5 1 q.1 q.2.bytes.length (q.2.bytes.map bv)/\∀b,q.1.ownBlock=some b->o' b=some (9,0)) :
 bz w' pb db fb mb o' (l.set i q) hand mf d:=
 h.ado ht (List.length_set) hr ho hb (by simp_all) (fun p hp=>by
  grind)
theorem wH{w:World}{pb db fb mb:Nat}{o:au}{l:List iM}{hand mf:Nat}{d:Dsk}(h:bz w pb db fb mb o l hand mf d){i:Nat}{v:Value}{f:bZ}(hi:l[i]? = some (v,f))(hf:f.full=true)(hs:f.name.size<=1000)(hk:f.k<9223372036854775808) :
 Calls prog 95 #[ptrTo pb,.int .i64 (i:Int)] w fun e w'=>e=.returned (.tuple #[])/\bz w' pb db fb mb o (l.set i (.slice none 0 0,bZ.none)) hand mf d/\aG (fun x=>x=fb\/x=mb) w w':=by
 have H:=ae h;have HI:=ae hi;have mU:i<l.length:=aN hi;have wG:=ae h.row;obtain⟨⟨-,hc1,hc2,-⟩,-⟩:=h.head.cells;obtain⟨h0,h1,h2,h3,h4,h5,h6⟩:=h.row.seven hi;obtain⟨m,ej,cT⟩:=h.um;have e9:=ae ej;have eV:=ae cT;have hg:=ae (rE (s:=f.name) (n:=f.k) (by grind [maxLen]) hk);have HF:=ae hf;clear h hi ej cT h0 h3 h4 h5 h6 hf;unfold ptrTo;generalize hN:l.length=n at *;have HN:=ae hN;clear hN;go_enter func95,ntmps95;go_wp2;go_still_tail 12,(by rfl)
 refine sR _ rfl _ _ _ rfl 3 jW fM Tryz.underlying148 mb m rfl e9.out (f.name,f.k) rfl hg.out ?_;intro es clock hm;have hT:aG (·=mb) w (setBlock { w with drawn:=w.drawn+1 } mb (.map es clock)):=(aG.refl (·=mb) w).drew.setBlock mb _ (.inl rfl);have eH:=ae hm;have rB:=ae hT;clear hm hT;generalize setBlock { w with drawn:=w.drawn+1 } mb (.map es clock)=w3 at *;have BS:=ae (wG.out.kept rB.out (au.ne H.out.sj H.out.oK ag));have zS:w3.cell? ⟨pb,1,none⟩=some (.slice (some ⟨fb,0,none⟩) n n):=rB.out.cell hc1 (au.ne H.out.yT H.out.oK ag);clear hc1 hc2 h1 h2;obtain⟨k0,k1,k2,k3,k4,k5,k6⟩:=BS.out.seven HI.out;have kz:∀j,w3.frozen? ⟨fb,j,none⟩=false:=BS.out.free;go_wp2;go_end0
 have hrow:dF (w3.setCells fb (i*7) (bJ (.slice none 0 0) bZ.none)) fb (l.set i (.slice none 0 0,bZ.none)):=BS.out.MV (by grind [Hid.out]) (.slice none 0 0,bZ.none);have hturn:aG (fun x=>x=fb\/x=mb) w (w3.setCells fb (i*7) (bJ (.slice none 0 0) bZ.none)):=(rB.out.mono (fun x _ e=>.inr e)).setCells fb _ _ (.inl (.inl rfl));have hmap:jt (w3.setCells fb (i*7) (bJ (.slice none 0 0) bZ.none)) mb (bX m (f.name,f.k)):=eH.out.turn ((aG.refl (·=fb) w3).setCells fb _ _ (.inl rfl)) (au.ne H.out.oK H.out.sj ag);exact⟨rfl,H.out.uo hrow hturn (fun _ _ h=>h) (fun x t hx=>Nat.lt_of_lt_of_le (H.out.owned x t hx) hturn.size) ⟨_,hmap,eV.out.del (cu HI.out) HF.out⟩ ⟨ownsRow_nil _ _ _,fun b hb=>by grind [Value.ownBlock]⟩,hturn⟩
theorem dF.drew{w:World}{fb:Nat}{l:List iM}(h:dF w fb l):dF w.drew fb l:=h
theorem gp.none{fs:List bZ}{m:List ((Name×Nat)×Nat)}(h:gp fs m){n:Name}{k:Nat}(hn:∀(j:Nat)(fj:bZ),fs[j]? = some fj->fj.full=true->fj.name=n->fj.k=k->False):aB m (n,k)=none:=by
 cases e:aB m (n,k) with
 |none=>rfl
 |some j=>
   obtain⟨fj,h1,h2,h3,h4⟩:=(h n k j).1 e;grind
theorem G3{w:World}{pb db fb mb:Nat}{o:au}{l:List iM}{hand mf:Nat}{d:Dsk}(h:bz w pb db fb mb o l hand mf d){i:Nat}{p:iM}(hi:l[i]? = some p)(hf:p.2.full=false)(f:bZ){a:Option Addr}{c base:Nat}(hv:w.ownsRow base 5 1 (.slice a f.bytes.length c) f.bytes.length (f.bytes.map bv))(mG:∀b,(Value.slice a f.bytes.length c).ownBlock=some b->o b=none)(GU:∀(j:Nat)(fj:bZ),(l.map (·.2))[j]? = some fj->fj.full=true->fj.name=f.name->fj.k=f.k->False)(hs:f.name.size<=1000)(hk:f.k<9223372036854775808)(b0:Bool) :
 Calls prog 198 #[ptrTo pb,.int .i64 (i:Int),.agg #[.bool b0,.string f.name,.int .i64 (f.k:Int),.slice a f.bytes.length c,.int .i64 0,.bool f.bU,.bool f.used]] w fun e w'=>e=.returned (.tuple #[]) /\
  (∃Zz,bz w' pb db fb mb (o.put (.slice a f.bytes.length c) (9,0)) (l.set i (.slice a f.bytes.length c,{ f with full:=true })) hand Zz d)/\aG (fun x=>x=fb\/x=mb\/x=pb) w w':=by
 have H:=ae h;have HI:=ae hi;have mU:i<l.length:=aN hi;have wG:=ae h.row;obtain⟨⟨-,hc1,hc2,-⟩,-⟩:=h.head.cells;obtain⟨m,ej,cT⟩:=h.um;have e9:=ae ej;have eV:=ae cT;have HV:=ae hv;have wN:=ae mG;have ZA:=ae GU;have hg:=ae (rE (s:=f.name) (n:=f.k) (by grind [maxLen]) hk);have HF:=ae hf;have HOW:=ae h.owned;have Od:=h.head.lt;have aii:=h.row.lt;have aij:=ej.lt;have zU:pb≠fb:=au.ne h.yT h.sj ag;have ko:pb≠mb:=au.ne h.yT h.oK ag;have Qc:mb≠fb:=au.ne h.oK h.sj ag;have Ku:=ae zU;have HP3:=ae Qc;clear h hi ej cT hf hv mG GU zU ko Qc;unfold ptrTo;generalize hN:l.length=n at *;have HN:=ae hN;clear hN;go_enter func198,ntmps198;go_wp2;have rT:Below w.heap.size w (w.alloc (.cells #[.bool true,.string f.name,.int .i64 (f.k:Int),.slice a f.bytes.length c,.int .i64 0,.bool f.bU,.bool f.used] 172)):=ak.alloc (Nat.le_refl _) _;have hx:=heap_alloc_new w (.cells #[.bool true,.string f.name,.int .i64 (f.k:Int),.slice a f.bytes.length c,.int .i64 0,.bool f.bU,.bool f.used] 172);generalize w.alloc (.cells #[.bool true,.string f.name,.int .i64 (f.k:Int),.slice a f.bytes.length c,.int .i64 0,.bool f.bU,.bool f.used] 172)=W1 at *;obtain⟨bx,Gc⟩:∃bx,bx=w.heap.size:=⟨_,rfl⟩;rw[<- Gc]at hx;have hxf:bx≠fb:=by omega
 have hxm:bx≠mb:=by omega
 have Qd:bx≠pb:=by omega
 have x0:W1.cell? ⟨bx,0,none⟩=some (.bool true):=by rw[ar hx];rfl
 have x1:W1.cell? ⟨bx,1,none⟩=some (.string f.name):=by rw[ar hx];rfl
 have x2:W1.cell? ⟨bx,2,none⟩=some (.int .i64 (f.k:Int)):=by rw[ar hx];rfl
 have x3:W1.cell? ⟨bx,3,none⟩=some (.slice a f.bytes.length c):=by rw[ar hx];rfl
 have x4:W1.cell? ⟨bx,4,none⟩=some (.int .i64 0):=by rw[ar hx];rfl
 have x5:W1.cell? ⟨bx,5,none⟩=some (.bool f.bU):=by rw[ar hx];rfl
 have x6:W1.cell? ⟨bx,6,none⟩=some (.bool f.used):=by rw[ar hx];rfl
 have cO:=ae rT;have nN:=ae (wG.out.below rT);have mO:W1.cell? ⟨pb,1,none⟩=some (.slice (some ⟨fb,0,none⟩) n n):=by grind [Below.cell]
 have Kw:W1.cell? ⟨pb,2,none⟩=some (.map (some mb)):=by grind [Below.cell]
 rw[<- Gc];have HXF:=ae hxf;obtain⟨q,hq⟩:∃q:iM,l[i]? = some q:=⟨_,HI.out⟩;obtain⟨qv,qf⟩:=q;obtain⟨k0,k1,k2,k3,k4,k5,k6⟩:=nN.out.seven hq;have kz:∀j,W1.frozen? ⟨fb,j,none⟩=false:=nN.out.free;clear hx rT Gc hxf hxm Qd hc1 hc2 hq;go_still_tail 7,(by rfl)
 go_wp2;change Code.wp _ _ _ _ (World.drew (World.setCells W1 fb (i*7) (bJ (.slice a f.bytes.length c) { f with full:=true })));have hrow:dF (World.drew (W1.setCells fb (i*7) (bJ (.slice a f.bytes.length c) { f with full:=true }))) fb (l.set i (.slice a f.bytes.length c,{ f with full:=true })):=(nN.out.MV (by grind [Hid.out]) (.slice a f.bytes.length c,{ f with full:=true })).drew;have mJ:aG (·=fb) W1 (World.drew (W1.setCells fb (i*7) (bJ (.slice a f.bytes.length c) { f with full:=true }))):=((aG.refl (·=fb) W1).setCells fb _ _ (.inl rfl)).drew;generalize World.drew (W1.setCells fb (i*7) (bJ (.slice a f.bytes.length c) { f with full:=true }))=W2 at *;have e2:W2.cell? ⟨pb,2,none⟩=some (.map (some mb)):=mJ.cell Kw Ku.out;have y1:W2.cell? ⟨bx,1,none⟩=some (.string f.name):=mJ.cell x1 HXF.out;have y2:W2.cell? ⟨bx,2,none⟩=some (.int .i64 (f.k:Int)):=mJ.cell x2 HXF.out;have Ky:Hid (jt W2 mb m):=ae ((e9.out.kept (cO.out.block mb aij)).turn mJ HP3.out);have HRW:=ae hrow;have mP:Hid (aG (fun x=>x=fb\/x=mb) w W2):=ae ((aG.aV cO.out).trans mJ (fun x _ e=>.inl e));have UQ:Hid (W2.ownsRow 0 5 1 (.slice a f.bytes.length c) f.bytes.length (f.bytes.map bv)):=ae (mJ.ownsRow (aU (aW HV.out cO.out) (Nat.zero_le _)) (fun b hb e=>by
  have h1:=wN.out b hb;rw[e,H.out.sj]at h1;cases h1))
 clear hrow mJ x0 x1 x2 x3 x4 x5 x6 k0 k1 k2 k3 k4 k5 k6 kz mO Kw;go_still_tail 7,(by rfl)
 refine eL _ rfl _ _ _ _ rfl 3 jW fM Tryz.underlying148 mb m rfl Ky.out (f.name,f.k) i rfl rfl hg.out ?_;intro es clock hm;have hT:aG (·=mb) W2 (setBlock { W2 with drawn:=W2.drawn+1 } mb (.map es clock)):=(aG.refl (·=mb) W2).drew.setBlock mb _ (.inl rfl);have eH:=ae hm;have rB:=ae hT;clear hm hT;generalize setBlock { W2 with drawn:=W2.drawn+1 } mb (.map es clock)=W3 at *;have vI:Hid (aG (fun x=>x=fb\/x=mb) w W3):=ae (mP.out.trans rB.out (fun x _ e=>.inr e));have HP:Hid (bz W3 pb db fb mb (o.put (.slice a f.bytes.length c) (9,0)) (l.set i (.slice a f.bytes.length c,{ f with full:=true })) hand mf d):=ae (H.out.uo (HRW.out.kept rB.out (fun e=>HP3.out e.symm)) vI.out
  (au.tZ wN.out) (au.vY (fun x t hx=>Nat.lt_of_lt_of_le (HOW.out x t hx) vI.out.size) (fun b hb=>Nat.lt_of_lt_of_le (aL UQ.out b hb).1 rB.out.size))
  ⟨_,eH.out,eV.out.put (x:={ f with full:=true }) (cu HI.out) HF.out rfl (eV.out.none ZA.out)⟩
  ⟨rB.out.ownsRow UQ.out (fun b hb e=>by
   have h1:=wN.out b hb;rw[e,H.out.oK]at h1;cases h1),fun b hb=>au.zT hb⟩)
 have aM:=ae (Rj HP.out);unfold ptrTo at aM;clear e2 y1 y2;go_wp2_with fail;refine aM.out.mono ?_;rintro e W4⟨rfl,⟨Zz,po⟩,tX⟩;have ye:=ae po;have Ey:=ae tX;clear po tX;go_wp2;go_end0
 exact⟨rfl,⟨Zz,ye.out⟩,(vI.out.mono (fun x _ e=>e.elim .inl (fun e=>.inr (.inl e)))).trans Ey.out (fun x _ e=>.inr (.inr e))⟩
def Ae(w:World)(db:Nat)(d:Dsk)(name:Name)(e:Ending)(w':World):Prop:=
 ∃(v:Value)(n:Nat),e=.returned (.tuple #[v,.int .i64 (n:Int),.int .i64 (cN d name:Int)])/\Below w.heap.size w w' /\
  (cN d name=0->n=(d.sizeOf name).1/256/\∃pf,v=ptrTo pf/\nM w' pf db name/\w.heap.size<=pf)
theorem G4{d:Dsk}{name:Name}(h:cN d name=0):(d.sizeOf name).2=0:=by
 unfold cN at h;split at h
 ·exact h
 ·rename_i h2;omega
theorem s5{w:World}{pb db fb mb:Nat}{o:au}{l:List iM}{hand mf:Nat}{d:Dsk}(h:bz w pb db fb mb o l hand mf d)(name:Name)(hs:name.size<=1000) :
 Calls prog 119 #[ptrTo pb,.string name] w (Ae w db d name):=by
 have H:=ae h;obtain⟨⟨hc0,-⟩,-⟩:=h.head.cells;have aM:=ae (Ad h.mK name hs);have hsz:=jX h.mK name;obtain⟨ail,-⟩:=hsz;clear h;unfold ptrTo at *;by_cases hz:cN d name=0
 ·have hz2:=G4 hz;have HZ:=ae hz;have HZ2:=ae hz2;rw[hz]at aM;clear hz hz2;go_enter func119,ntmps119;go_wp2_with fail;refine aM.out.mono ?_;rintro e w1⟨v,rfl,hb1,hy,-⟩;obtain⟨pf,rfl,hp,hl⟩:=hy rfl;have cO:=ae hb1;have HP:=ae hp;have ij:=ae (qI (H.out.below hb1).mK hp hs);rw[HZ2.out]at ij;have XT:=ae (show pf=pf from rfl);clear hb1 hp hy;unfold ptrTo at *;generalize hq:(d.sizeOf name).1/256=q at *;have HQ:=ae hq;clear hq;go_wp2_with fail;refine ij.out.mono ?_;rintro e w2⟨rfl,hb2⟩;go_wp2;go_ret3
  refine⟨_,q,?_,cO.out.trans (hb2.mono cO.out.size),fun _=>⟨HQ.out.symm,pf,rfl,HP.out.below hb2,hl⟩⟩;rw[HZ.out];rfl
 ·have hz':¬(cN d name:Int)=0:=by omega
  have HZ:=ae hz;generalize hq:cN d name=q at *;have HQ:=ae hq;clear hz hq;go_enter func119,ntmps119;go_wp2_with fail;refine aM.out.mono ?_;rintro e w1⟨v,rfl,hb1,-,hy⟩;obtain rfl:=hy HZ.out;go_wp2;go_ret3
  exact⟨_,0,by rw[HQ.out];rfl,hb1,fun h=>absurd (HQ.out.symm.trans h) HZ.out⟩
theorem Af{w:World}{pb db fb mb:Nat}{o:au}{l:List iM}{hand mf:Nat}{d:Dsk}(h:bz w pb db fb mb o l hand mf d)(name:Name)(hs:name.size<=1000) :
 Calls prog 71 #[ptrTo pb,.string name] w fun e w'=>e=.returned (.int .i64 ((d.create name).2:Int))/\cy w db o (d.create name).1 w':=by
 obtain⟨⟨hc0,-⟩,-⟩:=h.head.cells;have aM:=ae (EF h.mK name hs);clear h;unfold ptrTo at *;generalize (d.create name).1=d' at *;generalize (d.create name).2=c at *;go_enter func71,ntmps71;go_wp2_with fail;refine aM.out.mono ?_;rintro e w1⟨⟨v,rfl⟩,hp⟩;have HP:=ae hp;clear hp;go_wp2;go_ret;exact⟨rfl,HP.out⟩
def gV(name:Name)(n:Nat)(f:bZ):Nat:=if f.full=true/\f.bU=true/\f.name=name then max n (f.k+1) else n
def eW(name:Name)(n0:Nat)(fs:List bZ):Nat:=fs.foldl (gV name) n0
theorem EH(name:Name)(n0:Nat){fs:List bZ}{k:Nat}{f:bZ}(h:fs[k]? = some f):eW name n0 (fs.take (k+1))=gV name (eW name n0 (fs.take k)) f:=by
 have hk:=aN h;have e:fs[k]=f:=by
  rw[List.getElem?_eq_getElem hk]at h;exact Option.some.inj h
 unfold eW;rw[List.take_succ_eq_append_getElem hk,List.foldl_append,e];rfl
theorem Kz(name:Name){B:Nat}(fs:List bZ)(h:∀f∈fs,f.k<B):∀n0,n0<=B->eW name n0 fs<=B:=by
 induction fs with
 |nil=>intro n0 hn;exact hn
 |cons f fs ih=>
   intro n0 hn;have hf:=h f ai;unfold eW at ih ⊢;rw[List.foldl_cons];refine ih (fun g hg=>h g (by simp[hg])) _ ?_;unfold gV;split<;>omega
theorem qJ{a b:ByteArray}(h:a≠b):(a.toList == b.toList)=false:=by
 cases e:(a.toList == b.toList) with
 |false=>rfl
 |true=>exact absurd (WideShapes.bytes_inj (by rw[<- ByteArray.toList_eq,<- ByteArray.toList_eq];exact eq_of_beq e)) h
theorem Dt{w:World}{pb db fb mb:Nat}{o:au}{l:List iM}{hand mf:Nat}{d:Dsk}(h:bz w pb db fb mb o l hand mf d)(hks:∀p∈l,p.2.k<65536)(name:Name)(hs:name.size<=1000) :
 Calls prog 92 #[ptrTo pb,.string name] w fun e w'=>e=.returned (.tuple #[.int .i64 ((if cN d name=0 then eW name ((d.sizeOf name).1/256) (l.map (·.2)) else 0:Nat):Int),.int .i64 (cN d name:Int)])/\Below w.heap.size w w':=by
 have H:=ae h;have wG:=ae h.row;have hn:=h.most;have HS:=ae h.shaped;have HKS:=ae hks;obtain⟨⟨-,hc1,-⟩,-⟩:=h.head.cells;have aM:=ae (s5 h name hs);obtain⟨hsz,-⟩:=jX h.mK name;clear h hks;unfold ptrTo at *;generalize hN:l.length=n at *;have HN:=ae hN;clear hN;by_cases hz:cN d name=0
 ·rw[if_pos hz];have HZ:=ae hz;clear hz;go_enter func92,ntmps92;go_wp2_with fail;refine aM.out.mono ?_;rintro e w1⟨v,q,rfl,hb1,hy⟩;obtain⟨hq,pf,rfl,-,-⟩:=hy HZ.out;have Zl:q<=65536:=by omega
  have HQ:=ae hq;rw[HZ.out];have cO:=ae hb1;have mO:w1.cell? ⟨pb,1,none⟩=some (.slice (some ⟨fb,0,none⟩) n n):=by rw[hb1.cell (p:=⟨pb,1,none⟩) (World.block_lt_of_cell? _ _ hc1)];exact hc1
  have nN:=ae (wG.out.below hb1);clear hb1 hy hq hc1 aM;unfold ptrTo;have hbound:Hid (∀k,eW name q ((l.map (·.2)).take k)<=65536):=ae fun k=>Kz name _ (fun f hf=>by
   obtain⟨p,hp,rfl⟩:=List.mem_map.1 (List.mem_of_mem_take hf);exact HKS.out p hp) q Zl
  go_wp2;go_loopw [7,28] (fun a i wr=>∃k:Nat,k<=n/\i=.int .i64 (k:Int)/\a=.int .i64 ((eW name q ((l.map (·.2)).take k):Nat):Int)/\Below w1.heap.size w1 wr) (fun _ i _=>n-(intOf i).toNat)
  case atStart=>exact⟨0,Nat.zero_le _,rfl,rfl,Below.refl _ _⟩
  case round=>
   obtain⟨k,hk,rfl,rfl,hb⟩:=hrel;by_cases hlt:k<n
   ·obtain⟨a,c,f,hi⟩:=HS.out.get HN.out hlt;obtain⟨h0,h1,h2,h3,h4,h5,h6⟩:=(nN.out.below hb).seven hi;have Vw:wr.cell? ⟨pb,1,none⟩=some (.slice (some ⟨fb,0,none⟩) n n):=by rw[hb.cell (p:=⟨pb,1,none⟩) (World.block_lt_of_cell? _ _ mO)];exact mO
    have Vx:f.k<65536:=HKS.out _ (List.mem_of_getElem? hi);have HST:=ae (EH name q (cu hi));have ZB:=hbound.out k;have HB:=ae hb;clear hi hb;obtain⟨t,ht⟩:∃t,t=eW name q ((l.map (·.2)).take k):=⟨_,rfl⟩;rw[<- ht]at HST ZB ⊢;clear ht;obtain⟨full,nm,fk,bs,bU,used⟩:=f;dsimp only at *;by_cases vJ:nm=name;case' pos=>have XU:(nm.toList == name.toList)=true:=by rw[vJ];exact beq_self_eq_true _
    case' neg=>have XU:(nm.toList == name.toList)=false:=qJ vJ
    all_goals
     have G5:=ae vJ;clear vJ;cases full<;>cases bU
    all_goals
     go_wp2_with (refine nL rfl _ _ _ _ rfl t (fk+1) rfl rfl rfl rfl ?_;intro E hE;have HE:=ae hE;clear hE);go_roundw
     case rel=>
      refine⟨k+1,af,by go_num,?_,HB.out.alloc HB.out.size _⟩;have vJ:=G5.out;rw[HST.out];first
       | (simp[gV];done)
       | (simp[gV,vJ];done)
       | (rw[HE.out];simp[gV,vJ];done)
     case measure=>simp[intOf];omega
   ·obtain rfl:k=n:=by omega
    go_wp2;go_ret2;refine⟨?_,cO.out.trans (hb.mono cO.out.size)⟩;rw[List.take_of_length_le (by rw[List.length_map,HN.out];exact Nat.le_refl _),HZ.out,<- HQ.out];rfl
 ·rw[if_neg hz];have hz':¬(cN d name:Int)=0:=by omega
  go_enter func92,ntmps92;go_wp2_with fail;refine aM.out.mono ?_;rintro e w1⟨v,q2,rfl,hb1,-⟩;go_wp2;go_ret2;exact⟨rfl,hb1⟩
end
end Go.Proofs.YthkkgdpomhhjjaaGreatDoor
namespace Go.Proofs
open Go.Shelf
def Tryz.uq:Go.Shelf.Ren:=⟨fun | 6=>183 | 15=>87 | 14=>231 | 28=>135 | 29=>136 | 20=>268 | 21=>269 | 22=>270 | 23=>271 | 24=>272 | 25=>273 | 26=>274 | 27=>275 | 46=>295 | 47=>192 | 48=>193 | 49=>296 | 50=>297 | 57=>314 | n=>n,fun | 22=>214 | 24=>3 | 25=>272 | 3=>3 | 39=>159 | 0=>0 | 53=>26 | 55=>62 | 4=>4 | 46=>221 | 45=>220 | 50=>225 | 5=>5 | 9=>9 | 66=>280 | 70=>284 | 76=>313 | 77=>98 | n=>n,fun | n=>n⟩
theorem Tryz.G6:Go.Proofs.SlLaysF.n6 prog Tryz.uq:={
 mixed:=by kernel_rfl
 f6:=⟨Tryz.f183.name,ag,func183.trans aq⟩
 f14:=⟨Tryz.f231.name,ag,func231.trans aq⟩
 f15:=func87.trans aq
 f20:=⟨Tryz.f268.name,ag,func268.trans aq⟩
 f21:=⟨Tryz.f269.name,ag,func269.trans aq⟩
 f22:=⟨Tryz.f270.name,ag,func270.trans aq⟩
 f23:=⟨Tryz.f271.name,ag,func271.trans aq⟩
 f24:=⟨Tryz.f272.name,ag,func272.trans aq⟩
 f25:=⟨Tryz.f273.name,ag,func273.trans aq⟩
 f26:=⟨Tryz.f274.name,ag,func274.trans aq⟩
 f27:=⟨Tryz.f275.name,ag,func275.trans aq⟩
 f28:=func135.trans aq
 f29:=func136.trans aq
 f46:=⟨Tryz.f295.name,ag,func295.trans aq⟩
 f47:=func192.trans aq
 f48:=func193.trans aq
 f49:=⟨Tryz.f296.name,ag,func296.trans aq⟩
 f50:=⟨Tryz.f297.name,ag,func297.trans aq⟩
 f57:=⟨Tryz.f314.name,ag,func314.trans aq⟩
 t0:=Tryz.underlying0
 a0:=Tryz.isAgg0
 z0:=Tryz.sizeOf0
 v0:=Tryz.zeroValue0
 t3:=Tryz.underlying3
 a3:=Tryz.isAgg3
 z3:=Tryz.sizeOf3
 v3:=Tryz.zeroValue3
 t4:=Tryz.underlying4
 a4:=Tryz.isAgg4
 z4:=Tryz.sizeOf4
 v4:=Tryz.zeroValue4
 t5:=Tryz.underlying5
 a5:=Tryz.isAgg5
 z5:=Tryz.sizeOf5
 v5:=Tryz.zeroValue5
 t9:=Tryz.underlying9
 a9:=Tryz.isAgg9
 z9:=Tryz.sizeOf9
 v9:=Tryz.zeroValue9
 t22:=Tryz.underlying214
 a22:=Tryz.isAgg214
 z22:=Tryz.sizeOf214
 v22:=Tryz.zeroValue214
 a24:=Tryz.isAgg3
 z24:=Tryz.sizeOf3
 t25:=Tryz.underlying272
 a25:=Tryz.isAgg272
 z25:=Tryz.sizeOf272
 v25:=Tryz.zeroValue272
 t39:=Tryz.underlying159
 a39:=Tryz.isAgg159
 z39:=Tryz.sizeOf159
 v39:=Tryz.zeroValue159
 t45:=Tryz.underlying220
 a45:=Tryz.isAgg220
 z45:=Tryz.sizeOf220
 v45:=Tryz.zeroValue220
 t46:=Tryz.underlying221
 a46:=Tryz.isAgg221
 z46:=Tryz.sizeOf221
 v46:=Tryz.zeroValue221
 t50:=Tryz.underlying225
 a50:=Tryz.isAgg225
 z50:=Tryz.sizeOf225
 v50:=Tryz.zeroValue225
 t53:=Tryz.underlying26
 a53:=Tryz.isAgg26
 z53:=Tryz.sizeOf26
 v53:=Tryz.zeroValue26
 t55:=Tryz.underlying62
 a55:=Tryz.isAgg62
 z55:=Tryz.sizeOf62
 v55:=Tryz.zeroValue62
 t66:=Tryz.underlying280
 a66:=Tryz.isAgg280
 z66:=Tryz.sizeOf280
 v66:=Tryz.zeroValue280
 t70:=Tryz.underlying284
 a70:=Tryz.isAgg284
 z70:=Tryz.sizeOf284
 v70:=Tryz.zeroValue284
 t76:=Tryz.underlying313
 a76:=Tryz.isAgg313
 z76:=Tryz.sizeOf313
 v76:=Tryz.zeroValue313
 t77:=Tryz.underlying98
 a77:=Tryz.isAgg98
 z77:=Tryz.sizeOf98
 v77:=Tryz.zeroValue98 }
end Go.Proofs
namespace Go.Proofs.YthkkgdpomhhjjaaGreatDoor
open Go.Proofs.Tryz
section
open Go.RowKit
section
variable {α:Type} [Inhabited α]
theorem holds_of_block(enc:α->Value){w:World}{g:Nat}{cur:Array Value}{e:TypeId}{ss:List α}(hb:w.heap[g]? = some (.cells cur e (0,0)))(ht:cur.toList.take ss.length=ss.map enc):Go.Sort.Holds enc w g 0 ss.toArray:=by
 intro j hj;have hj':j<ss.length:=by omega
 refine⟨?_,by grind [World.frozen?]⟩;have h1:(cur.toList.take ss.length)[j]? = (ss.map enc)[j]? := by rw[ht]
 grind [World.cell?]
theorem heap_sorted(enc:α->Value){w:World}{g n:Nat}{os:Array Obj}{cur:Array Value}{e:TypeId}{fr:Nat×Nat}(d:Array α)(hb:w.heap[g]? = some (.cells cur e fr)) :
 (Go.Sort.grow (Go.Sort.putRow enc (Go.Sort.ahead w n) g 0 d) os).heap[g]? = some (.cells (Go.Sort.putCells enc 0 d cur) e fr):=by
 grind [Go.Sort.heap_grow_old,Go.Sort.putRow,Go.Sort.mapBlock,Go.Sort.ahead,Go.Sort.onCells]
theorem yj(enc:α->Value){w:World}{g n:Nat}{os:Array Obj}(d:Array α):aG (·=g) w (Go.Sort.grow (Go.Sort.putRow enc (Go.Sort.ahead w n) g 0 d) os):=by
 refine⟨rfl,rfl,rfl,ai,fun k hk hne=>?_⟩;grind [Go.Sort.heap_grow_old,Go.Sort.putRow,Go.Sort.mapBlock,Go.Sort.ahead]
theorem take_putCells(enc:α->Value)(cur:Array Value)(ts:List α)(h:ts.length<=cur.size):(Go.Sort.putCells enc 0 ts.toArray cur).toList.take ts.length=ts.map enc:=by
 apply List.ext_getElem?;grind [Go.Sort.putCells]
theorem ownsRow_sorted(enc:α->Value){w:World}{base g cap n:Nat}{e:TypeId}{os:Array Obj}{cur:Array Value}{ss ts:List α}(hl:ts.length=ss.length)(hbase:base<=g)(hb:w.heap[g]? = some (.cells cur e (0,0)))(h1:ss.length<=cap)(h2:cap<=maxLen)(h3:cur.size=cap*1) :
 (Go.Sort.grow (Go.Sort.putRow enc (Go.Sort.ahead w n) g 0 ts.toArray) os).ownsRow base e 1 (.slice (some ⟨g,0,none⟩) ss.length cap) ss.length (ts.map enc):=
 ⟨by grind,.inr ⟨g,cap,_,rfl,hbase,heap_sorted enc _ hb,h1,h2,by grind [Go.Sort.putCells],by grind [take_putCells]⟩⟩
end
def Rk{α:Type}[Inhabited α](enc:α->Value)(cf:α->α->Int)(w:World)(base:Nat)(elem:TypeId)(g len cap:Nat)(ss:List α)(e:Ending)(w':World):Prop:=
 e=.returned (.tuple #[])/\∃ts:List α,ts.Perm ss/\ts.Pairwise (fun x y=>¬cf y x<0)/\w'.ownsRow base elem 1 (.slice (some ⟨g,0,none⟩) len cap) len (ts.map enc)/\aG (·=g) w w'
theorem EI{α:Type}[Inhabited α](enc:α->Value)(h1:OneCell enc)(cf:α->α->Int)(hO:Go.Sort.SWO (ltOf cf))(f:Nat)(cb:Array Value){w:World}{base g len cap:Nat}{elem:TypeId}{ss:List α}(hl:ss.length=len)(ao8:len<4611686018427387904)(hown:w.ownsRow base elem 1 (.slice (some ⟨g,0,none⟩) len cap) len (ss.map enc))(eg:∀args w,(callFunc f args).run prog w=.ok (.enter f args) w)(yU:CmpLays1 prog f cb enc cf g 0 len w) :
 Calls prog 183 #[.slice (some ⟨g,0,none⟩) len cap,.func (.func f) #[] cb] w (Rk enc cf w base elem g len cap ss):=by
 obtain⟨hlen,⟨h0,_⟩|⟨g',cap',cur,hv,hg,hh,hn,hm,hcs,hx⟩⟩:=hown
 ·cases h0
 cases hv;rw[Nat.mul_one]at hx;have hH:=holds_of_block enc (ss:=ss) hh (by grind);have hsz:ss.toArray.size=len:=by omega
 have hcon:=Any.slices_SortFunc Tryz.G6 enc h1 cf hO f cb g 0 cap ss.toArray w eg (by grind) hH (Array.getElem?_eq_some_iff.1 hh).1 af;rw[hsz]at hcon;refine hcon.mono ?_;rintro e w'⟨rfl,d',n,os,hp,hs,rfl⟩;obtain⟨zU,_,Qc⟩:=hp;rw[hsz]at zU;have UI:d'.toList.length=ss.length:=by grind
 refine⟨rfl,d'.toList,?_,?_,?_,yj enc d'⟩
 ·have e1:(d'.extract 0 len).toList=d'.toList:=by rw[<- zU];simp
  grind
 ·rw[List.pairwise_iff_getElem];intro i j hi hj eY;have h2:=hs i j (Nat.zero_le _) eY af;grind [ltOf]
 ·have:=ownsRow_sorted enc (w:=w) (base:=base) (g:=g) (cap:=cap) (n:=n) (os:=os) (ss:=ss) (ts:=d'.toList) UI hg hh af hm hcs;rw[hl]at this;assumption
end
end Go.Proofs.YthkkgdpomhhjjaaGreatDoor
