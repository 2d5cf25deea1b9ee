/-
  Joined.
-/
import Derived.Test.YtofigggbapdfhaaGreatDoorR01
import Derived.StillTailTactics
import Derived.Shelf.SlSortCmp.Whole1
import Derived.Ground.SlsfProg
import Derived.Shelf.SlGeneric
import Derived.Test.YtofigggbapdfhaaGreatDoorProg
import Derived.Sort.OwnSortedInts
import Derived.Shelf.SlSortCmp.NoneTotal
import Derived.Shelf.SlSortCmp.Insertion
import Derived.Sort.Grow
import Derived.Deep.AppendSrc
import Derived.Shelf.Strconv.Itoa3
import Derived.Shelf.Strings.Prefix
import Derived.Shelf.SlicesE.Delete
import Derived.Ground.NamesProg
import Derived.Ground.SlgnProg
import Derived.Shelf.LaysM
set_option maxRecDepth 100000
set_option maxHeartbeats 8000000
open Option renaming some->IT,none->KK,map_some->ql,getD_some->FS,isSome_some->H4,isSome_none->H5
open Bool renaming true->Jd,false->J0,and_eq_true->j4
open List renaming getElem?_eq_getElem->bk,take_succ_cons->ii,take_zero->j2,mem_of_getElem?->cx,length_map->dj,length_append->eh,replicate->ei,take_of_length_le->ey,mem_map->gl,length_drop->ie,eq_nil_of_length_eq_zero->jJ,getElem?_map->j1,mem_range->j3,range->kk,length_filter_le->kq,length_set->k9,ext_getElem?->p5,map_map->rj,getElem_mem->rM,mem_filter->sR
open Nat renaming le_refl->cg,lt_of_lt_of_le->eg,zero_le->em,le_trans->cp,lt_or_ge->lb,mul_le_mul_left->pc,eq_zero_or_pos->qp,lt_trichotomy->sk,mul_one->sE,lt_irrefl->sT,mul_comm->vx,mul_succ->xi,le_of_lt->yi,not_lt_zero->Dc,div_le_self->DH,mod_eq_of_lt->DQ,mod_lt->Hc,mul_le_mul->IM
open Array renaming getElem?_eq_some_iff->ds
open Int renaming natCast_emod->vK,tdiv_eq_ediv_of_nonneg->D0,tmod_eq_emod_of_nonneg->Ev
namespace Go.Proofs.YtofigggbapdfhaaGreatDoor
open Go.RowKit Go.Maps Go.MapKept
open Go.Proofs.Tryz
open Go.ChangeMaps (setBlock heap_setBlock_same heap_setBlock_other)
open Go renaming World->KX,Value->J3,Calls->K1,heap_alloc_new->Lw
open Go.RowKit renaming Below->Lg,Hid->Lk,intOf->Lo
open Go.Value renaming int->Kx,tuple->Ly
open Go.Obj renaming cells->Mi
open Go.Ending renaming returned->Mk
open Go.IntKind renaming i64->Mm
open Go.IntKind renaming wrap->cf
open Go.World renaming block_lt_of_cell?->jK
open Go.RowKit.Below renaming refl->kp
variable {w w':KX}{db g k y u hand z i:Nat}{name:Name}{o:ay}{d:Dsk}{l:List j8}{f a x:cB}{fs:List cB}
def qG(w:KX)(a db:Nat)(name:Name):Prop:=∃t,w.heap[a]? = IT (Mi #[ptrTo db,.string name,Kx .u32 (fO name:Int)] t)
theorem qG.cells{a:Nat}(h:qG w a db name):w.cell? a=IT (ptrTo db)/\w.cell? ⟨a,1,KK⟩=IT (.string name)/\w.cell? ⟨a,2,KK⟩=IT (Kx .u32 (fO name:Int)):=by obtain⟨t,h⟩:=h;refine⟨?_,?_,?_⟩<;>rw[au h]<;>rfl
theorem qG.lt{a:Nat}(h:qG w a db name):a<w.heap.size:=by obtain⟨t,h⟩:=h;exact(Array.getElem?_eq_some_iff.1 h).1
theorem qG.kept{S:Nat->Prop}{a:Nat}(h:qG w a db name)(b:aN S w w')(c:¬S a):qG w' a db name:=by obtain⟨t,h⟩:=h;exact⟨t,b.heap h c⟩
theorem qG.below{a:Nat}(h:qG w a db name)(b:Lg w w w'):qG w' a db name:=h.kept (S:=λ_=>False) (aN.aZ b) (λh=>h)
theorem LZ(db:Nat)(name:Name)(w:KX)(b:name.size<=1000):K1 prog 146 #[ptrTo db,.string name] w λe w'=>∃a,e=Mk (ptrTo a)/\qG w' a db name/\Lg w w w'/\w.heap.size<=a:=by unfold ptrTo;go_enter func146,ntmps146;go_wp2_with fail;go_call(aaF name _ b) as e w1⟨rfl,hb1⟩;go_wp2;go_ret;exact⟨w1.heap.size,rfl,⟨_,Lw _ _⟩,hb1.alloc hb1.size _,hb1.size⟩
def ae6(w:KX)(db:Nat)(name:Name)(c:Nat)(e:Ending)(w':KX):Prop:=
 ∃v,e=Mk (Ly #[v,c])/\Lg w w w'/\(c=0->∃a,v=ptrTo a/\qG w' a db name/\w.heap.size<=a)/\(c≠0->v=.pointer KK)
def dw(d:Dsk)(name:Name):Nat:=if (d.sizeOf name).2≠0 then (d.sizeOf name).2 else if (d.sizeOf name).1%256≠0 then 7 else 0
theorem mg(h:cI w db o d)(name:Name):(d.sizeOf name).1<=16777216/\(d.sizeOf name).2<=6:=by
 obtain⟨g,e,l,h⟩:=h;unfold Dsk.sizeOf;split
 .exact⟨ai,ai⟩
 .split
  .exact⟨ai,ai⟩
  .split
   .exact⟨ai,ai⟩
   .rename_i f a
    refine⟨?_,ai⟩;have c:aI d.files name=(aI l name).map (·.2):=by rw[<- h.strip];exact uO
    rw[c]at a;cases b:aI l name with
    |none=>rw[b]at a;cases a
    |some x=>rw[b]at a;cases a;exact(h.each _ (fy b)).most.1
theorem DM(h:cI w db o d)(name:Name)(l:name.size<=1000):K1 prog 156 #[ptrTo db,.string name] w (ae6 w db name (dw d name)):=by
 have H:=ae h;have t:=mg h name;obtain⟨q,s⟩:=t;have k:=ae (show dw d name=if (d.sizeOf name).2≠0 then (d.sizeOf name).2 else if (d.sizeOf name).1%256≠0 then 7 else 0 from rfl);clear h;unfold ptrTo;have j:=ae (LG H.out name l);generalize (d.sizeOf name).1=n at *;generalize (d.sizeOf name).2=c at *;generalize dw d name=r at *;by_cases g:c=0
 .subst g;by_cases b:n%256=0
  .have i:(n:Int)%256=0:=af;have a:r=0:=by rw[k.out,if_neg ai,if_neg (by simp[b])]
   have f:=ae a;have u:=ae b;clear a b;go_enter func156,ntmps156;go_wp2_with fail;go_call j.out as e w1⟨rfl,hb3⟩;go_wp2_with fail;go_call(LZ db name _ l) as e w2⟨pf,rfl,hp,hb4,hl⟩;unfold ptrTo;go_wp2;go_ret2;rw[f.out];exact⟨_,rfl,hb3.trans (hb4.mono hb3.size),λ_=>⟨pf,rfl,hp,Nat.le_trans hb3.size hl⟩,λh=>absurd rfl h⟩
  .have i:¬(n:Int)%256=0:=af;have a:r=7:=by rw[k.out,if_neg ai,if_pos b]
   have f:=ae a;clear a b;go_enter func156,ntmps156;go_wp2_with fail;go_call j.out as e w1⟨rfl,hb3⟩;go_wp2;go_ret2;rw[f.out];exact⟨_,rfl,hb3,λh=>absurd h ag,λ_=>rfl⟩
 .have m:¬(c:Int)=0:=af;have a:r=c:=by rw[k.out,if_pos g]
  have f:=ae a;have p:=ae g;clear a g;go_enter func156,ntmps156;go_wp2_with fail;go_call j.out as e w1⟨rfl,hb3⟩;go_wp2;go_ret2;rw[f.out];exact⟨_,rfl,hb3,λh=>absurd h p.out,λ_=>rfl⟩
theorem ax{n:Int}(b:-9223372036854775808<=n)(a:n<=9223372036854775807):cf Mm n=n:=by simp[cf,IntKind.bits,IntKind.signed];omega
theorem tZ{g:Nat}(h:cI w db o d)(k:qG w g db name)(q:name.size<=1000):K1 prog 157 #[ptrTo g] w λe w'=>e=Mk (Ly #[((d.sizeOf name).1/256:Nat),(d.sizeOf name).2])/\Lg w w w':=by
 have H:=ae h;have f:=ae k;obtain⟨m,p⟩:=mg h name;have i:Lk (∀W,cI W db o d->K1 prog 208 #[ptrTo db,.string name] W λe w'=>e=Mk (Ly #[(d.sizeOf name).1,(d.sizeOf name).2])/\Lg W W w'):=ae (λW r=>LG r name q);clear h k;unfold ptrTo at i ⊢;generalize (d.sizeOf name).1=n at *;generalize (d.sizeOf name).2=c at *;go_enter func157,ntmps157;go_wp2;refine dx (Lg w w) ah ah (aq.drew) ?_;iterate 3 (refine qz ?_)
 refine qz ?_ (λw' a=>by have j:=(f.out.below a).cells.1;unfold ptrTo at j;go_simp<;>rfl);iterate 3 (refine qz ?_)
 refine qz ?_ (λw' a=>by have j:=(f.out.below a).cells.2.1;go_simp<;>rfl);refine qw (λw' a=>(i.out w' (H.out.below a)).mono (λe l h=>⟨h.1,a.trans (h.2.mono a.size)⟩)) ?_;iterate 5 (refine qz ?_)
 refine wpQuiet_nil ?_;intro s b;go_wp2;go_ret2;exact⟨ai,b⟩
def aV:Prop:=∀{w:KX}{db:Nat}{o:ay}{d:Dsk},cI w db o d->∀(name:Name),name.size<=1000->∀(a:Nat),a<=1099511627776->∀(c:J3)(bs:List UInt8),Rd w c bs->bs.length<=1099511627776->(∀b,c.ownBlock=IT b->o b=KK) ->
    K1 prog 210 #[ptrTo db,.string name,a,c] w λe w'=>e=(d.write name a bs).2/\cS w db o (d.write name a bs).1 w'
theorem cS.after{c b:KX}(e:Lg w w c)(h:cS c db o d b):cS w db o d b:=by obtain⟨o',g,i,f⟩:=h;exact⟨o',g,(aN.aZ e).trans i (λ_ _ a=>a),λx a=>f x (eg a e.size)⟩
theorem cS.then{a b:KX}(h:cS w db o d a)(c:Lg a a b):cS w db o d b:=by obtain⟨o',f,g,e⟩:=h;exact⟨o',f.below c,g.b7 c,e⟩
theorem Jq(h:cI w db o d)(name:Name)(f:name.size<=1000):K1 prog 74 #[ptrTo db,.string name] w λe w'=>(∃v,e=Mk (Ly #[v,(d.create name).2]))/\cS w db o (d.create name).1 w':=by
 have a:=ae (Ph h name f);clear h;generalize (d.create name).1=d' at *;generalize (d.create name).2=c at *;unfold ptrTo at *;by_cases b:c=0
 .subst b;go_enter func74,ntmps74;go_wp2_with fail;go_call a.out as e w1⟨rfl,hp⟩;go_wp2_with fail;go_call(LZ db name _ f) as e w2⟨pf,rfl,-,hb,-⟩;unfold ptrTo;go_wp2;go_ret2;exact⟨⟨_,rfl⟩,hp.then hb⟩
 .have g:¬(c:Int)=0:=af;clear b;go_enter func74,ntmps74;go_wp2_with fail;go_call a.out as e w1⟨rfl,hp⟩;go_wp2;go_ret2;exact⟨⟨_,rfl⟩,hp⟩
theorem Tm{t:Nat}(h:cI w db o d)(s:qG w t db name)(C:name.size<=1000)(k n:Nat)(b:Pg)(A:d.sizeOf name=(n,0))(R:k<n/256)(O:n<=16777216)(y:d.read name (256*k) 256=(cP (fO name) k b,0))(D:b.length<=240):K1 prog 197 #[ptrTo t,k] w (xD w b):=by
 have g:=ae (tZ h s C);rw[A]at g;have H:=ae h;have L:=ae s;have u:=LO name;have I:Lk (∀W,cI W db o d->K1 prog 233 #[ptrTo db,.string name,Kx Mm ((k:Int)*256),Kx Mm 256] W (LH W (cP (fO name) k b,0))):=ae (λW F=>by have:=Wn F name C (256*k) 256 af;rw[y,show((256*k:Nat):Int)=k*256 by omega]at this;exact this)
 have r:=ae (Jg (fO name) k b D u af);clear h s A y;unfold ptrTo at *;generalize z:fO name=tag at *;have J:=ae z;clear z;generalize cP tag k b=p at *;obtain⟨q,E⟩:=ac (n/256);rw[<- E]at R g;have Q:q<=65536:=af;clear E O;dsimp only at g;have T:¬((k:Int) >= q):=af;go_enter func197,ntmps197;go_wp2_with fail;go_call g.out as e w1⟨rfl,hb1⟩;have G:=ae (H.out.below hb1);have i:=ae (L.out.below hb1);have x:=ae hb1;clear hb1;obtain⟨f,m,l⟩:=i.out.cells;unfold ptrTo at f;go_wp2;have K:cf Mm ((k:Int)*256)=k*256:=ax af af;refine cW (Lg w1 w1) 10 rfl ah ah (aq.drew) ?_;simp only[ii,j2];iterate 3 (refine qz ?_)
 refine qz ?_ (λw' c=>by have v:=(i.out.below c).cells.1;unfold ptrTo at v;go_simp<;>rfl);iterate 3 (refine qz ?_)
 refine qz ?_ (λw' c=>by have v:=(i.out.below c).cells.2.1;go_simp<;>rfl);iterate 2 (refine qz ?_)
 refine wpQuiet_nil ?_;intro N a;refine⟨_,_,rfl,(by go_simp<;>exact⟨rfl,rfl⟩),?_⟩;go_call(I.out _ (G.out.below a)) as e w3⟨v3,rfl,kF,hb3⟩;obtain⟨a3,c3,rfl⟩:=aw kF;refine⟨_,rfl,?_⟩;go_simp;iterate 5 (refine qz ?_)
 refine wpQuiet_nil ?_;have B:Lk (Lg w w N):=ae (x.out.trans (a.mono x.out.size));have j:Lk (Lg w w w3):=ae (B.out.trans (hb3.mono B.out.size));have P:=ae kF;have S:w3.cell? ⟨t,2,KK⟩=IT (Kx .u32 tag):=by have:=((i.out.below a).below hb3).cells.2.2;rw[J.out]at this;exact this
 have M:k<4294967296:=af;clear a hb3 kF f m l K;go_wp2_with fail;go_call(Wh tag k _ b p _ (fp P.out) r.out D u af) as e w4⟨v4,rfl,I7,hb4⟩;go_wp2;go_ret2;exact⟨v4,rfl,aQ I7 j.out.size,j.out.trans (hb4.mono j.out.size)⟩
theorem Jr(d:Dsk)(name:Name)(k:Nat)(b:Pg)(n c:Nat)(h:d.sizeOf name=(n,c)):ep d name k b=if c≠0 then (d,c) else if n/256<k then (d,1) else d.write name (256*k) (cP (fO name) k b):=by unfold ep;rw[h]
theorem Ma(HW:aV){Q:Nat}(h:cI w db o d)(z:qG w Q db name)(R:name.size<=1000)(k:Nat)(hk:k<65536)(g:J3)(b:Pg)(A:b.length<=240)(v:Rd w g b):K1 prog 158 #[ptrTo Q,k,g] w λe w'=>e=Mk (Kx Mm ((ep d name k b).2:Int))/\cS w db o (ep d name k b).1 w':=by
 have l:=ae (tZ h z R);obtain⟨J,s⟩:=mg h name;obtain⟨n,c,D⟩:∃n c,d.sizeOf name=(n,c):=⟨_,_,rfl⟩;have a:=ae (Jr d name k b n c D);rw[D]at l J s;have H:=ae h;have G:=ae z;have HV:=ae v;obtain⟨a0,c0,rfl,-⟩:=v;have S:=LO name;have U:Lk (∀W g p,p.length=256->cI W db o d->Rd W g p->(∀b,g.ownBlock=IT b->o b=KK)->K1 prog 210 #[ptrTo db,.string name,Kx Mm ((k:Int)*256),g] W λe w'=>e=Mk (Kx Mm ((d.write name (256*k) p).2:Int))/\cS W db o (d.write name (256*k) p).1 w'):=ae (λW g p z hW v Tf=>by have:=HW hW name R (256*k) af g p v af Tf;rw[show((256*k:Nat):Int)=k*256 by omega]at this;exact this)
 have C:=ae (dW (fO name) k b A);clear h z D;unfold ptrTo at *;generalize M:fO name=tag at *;have Y:=ae M;clear M;obtain⟨q,K⟩:=ac (n/256);rw[<- K]at l a;have aE:q<=65536:=af;clear K J;dsimp only at l s;by_cases B:c=0
 .subst B;by_cases r:q<k
  .have f:ep d name k b=(d,1):=by rw[a.out,if_neg ai,if_pos r]
   have u:=ae f;clear f a C;go_enter func158,ntmps158;go_wp2_with fail;go_call l.out as e w1⟨rfl,hb1⟩;go_wp2;go_ret;rw[u.out];exact⟨rfl,.of (H.out.below hb1) (aN.aZ hb1)⟩
  .have f:ep d name k b=d.write name (256*k) (cP tag k b):=by rw[a.out,if_neg ai,if_neg r]
   have u:=ae f;have al:k<4294967296:=af;clear f a;go_enter func158,ntmps158;go_wp2_with fail;go_call l.out as e w1⟨rfl,hb1⟩;have y:=ae hb1;have m:=(G.out.below hb1).cells.2.2;rw[Y.out]at m;clear hb1;go_wp2_with fail;go_call(Wd tag k _ b _ (HV.out.below y.out) A S af) as e w2⟨v2,rfl,mK,hb2⟩;have E:Lk (Lg w w w2):=ae (y.out.trans (hb2.mono y.out.size));have V:=ae (aQ mK y.out.size);have O:=ae (G.out.below E.out);generalize T:cP tag k b=p at *;obtain⟨a2,c2,rfl⟩:=aw mK;clear T mK hb2 m;go_wp2;have Z:cf Mm ((k:Int)*256)=k*256:=ax af af;refine cW (Lg w2 w2) 11 rfl ah ah (aq.drew) ?_;simp only[ii,j2];iterate 3 (refine qz ?_)
   refine qz ?_ (λw' i=>by have F:=(O.out.below i).cells.1;unfold ptrTo at F;go_simp<;>rfl);iterate 3 (refine qz ?_)
   refine qz ?_ (λw' i=>by have F:=(O.out.below i).cells.2.1;go_simp<;>rfl);iterate 3 (refine qz ?_)
   refine wpQuiet_nil ?_;intro N j;refine⟨_,_,rfl,(by go_simp<;>exact⟨rfl,rfl⟩),?_⟩;have I:Lk (Lg w w N):=ae (E.out.trans (j.mono E.out.size));have L:Lk (N.ownsRow w.heap.size 5 1 (.slice a2 p.length c2) p.length (p.map bv)):=ae (aQ (aB V.out j) (cg _));clear j Z;refine(U.out _ _ p C.out (H.out.below I.out) (fp L.out) (λb A=>fN (λx t hx=>by obtain⟨_,_,_,hd⟩:=H.out;exact hd.owned x t hx) (aA L.out b A).2)).mono ?_
   rintro e w4⟨rfl,P⟩;have X:=ae (cS.after I.out P);clear P;refine⟨_,rfl,?_⟩;go_simp;refine qz ?_;refine wpQuiet_nil ?_;go_wp2;go_ret;rw[u.out];exact⟨rfl,X.out⟩
 .have am:¬(c:Int)=0:=af;have f:ep d name k b=(d,c):=by rw[a.out,if_pos B]
  have u:=ae f;clear f a B C;go_enter func158,ntmps158;go_wp2_with fail;go_call l.out as e w1⟨rfl,hb1⟩;go_wp2;go_ret;rw[u.out];exact⟨rfl,.of (H.out.below hb1) (aN.aZ hb1)⟩
theorem Pt{g:Nat}(h:cI w db o d)(j:qG w g db name)(m:name.size<=1000):K1 prog 89 #[ptrTo g] w λe w'=>e=(d.sync name).2/\cS w db o (d.sync name).1 w':=by
 have H:=ae h;have f:=ae j;have l:Lk (∀W,cI W db o d->K1 prog 161 #[ptrTo db,.string name] W λe w'=>e=(d.sync name).2/\cS W db o (d.sync name).1 w'):=ae (λW n=>Wm n name m);clear h j;unfold ptrTo at *;generalize (d.sync name).1=d' at *;generalize (d.sync name).2=c at *;go_enter func89,ntmps89;go_wp2;refine cW (Lg w w) 8 rfl ah ah (aq.drew) ?_;simp only[ii,j2];iterate 3 (refine qz ?_)
 refine qz ?_ (λw' b=>by have i:=(f.out.below b).cells.1;unfold ptrTo at i;go_simp<;>rfl);iterate 3 (refine qz ?_)
 refine qz ?_ (λw' b=>by have i:=(f.out.below b).cells.2.1;go_simp<;>rfl);refine wpQuiet_nil ?_;intro p a;refine⟨_,_,rfl,(by go_simp<;>exact⟨rfl,rfl⟩),?_⟩;go_call(l.out _ (H.out.below a)) as e w4⟨rfl,r7⟩;have k:=ae (cS.after a r7);clear r7 a;refine⟨_,rfl,?_⟩;go_simp;refine qz ?_;refine wpQuiet_nil ?_;go_wp2;go_ret;exact⟨rfl,k.out⟩
theorem eC.seven(h:eC w g l){v:J3}(hi:l[k]? = IT (v,f)) :
 w.cell? ⟨g,k*7,KK⟩=IT (.bool f.full)/\w.cell? ⟨g,k*7+1,KK⟩=IT (.string f.name)/\w.cell? ⟨g,k*7+2,KK⟩=f.k/\w.cell? ⟨g,k*7+3,KK⟩=IT v /\
  w.cell? ⟨g,k*7+4,KK⟩=IT (Kx Mm 0)/\w.cell? ⟨g,k*7+5,KK⟩=IT (.bool f.cu)/\w.cell? ⟨g,k*7+6,KK⟩=IT (.bool f.used):=by rw[Nat.mul_comm k 7];exact⟨h.cell (j:=0) hi rfl,h.cell (j:=1) hi rfl,h.cell (j:=2) hi rfl,h.cell (j:=3) hi rfl,h.cell (j:=4) hi rfl,h.cell (j:=5) hi rfl,h.cell (j:=6) hi rfl⟩
def Shaped(l:List j8):Prop:=∀p∈l,∃a c,p.1=.slice a p.2.bytes.length c
theorem bJ.shaped(h:bJ w y db g u o l hand z d):Shaped l:=λp a=>aw (h.each p a).1
theorem Shaped.get(h:Shaped l){n:Nat}(d:l.length=n)(g:k<n):∃a c f,l[k]? = IT (.slice a f.bytes.length c,f):=by
 have b:k<l.length:=af;obtain⟨a,c,e⟩:=h l[k] (List.getElem_mem b);exact⟨a,c,l[k].2,by rw[bk b,<- e]⟩
theorem eC.below(h:eC w g l)(a:Lg w w w'):eC w' g l:=h.kept (S:=λ_=>False) (aN.aZ a) (λh=>h)
def WO(n:Nat)(w:KX)(e:Ending)(w':KX):Prop:=∃r a:Nat,r<=n/\e=Mk (Ly #[r,Kx Mm 0,a])/\Lg w w w'
theorem WQ(h:bJ w y db g u o l hand z d):K1 prog 271 #[ptrTo y] w (WO l.length w):=by
 have B:=ae h.row;have J:=h.most;have C:=ae h.shaped;obtain⟨⟨-,m,-⟩,-⟩:=h.head.cells;clear h;generalize t:l.length=n at *;have F:=ae t;clear t;unfold ptrTo;go_enter func271,ntmps271;go_wp2;go_loopw [2,3,4,14] (λa b c i wr=>∃k r e:Nat,k<=n/\r<=k/\e<=k/\a=r/\b=Kx Mm 0/\c=e/\i=k/\Lg w w wr) (λ_ _ _ i _=>n-(Lo i).toNat)
 case atStart=>exact⟨0,0,0,af,af,af,rfl,rfl,rfl,rfl,kp _ _⟩
 case round=>
  obtain⟨k,r,e,L,E,N,rfl,rfl,rfl,rfl,q⟩:=hrel;by_cases s:k<n
  .obtain⟨a,c,f,hi⟩:=C.out.get F.out s;obtain⟨A,H,K,I,G,D,M⟩:=(B.out.below q).seven hi;have O:wr.cell? ⟨y,1,KK⟩=IT (.slice g n n):=by rw[q.cell (p:=⟨y,1,KK⟩) (jK _ _ m)];exact m
   have j:=ae q;clear hi q;cases v:f.full<;>cases x:f.cu<;>rw[v]at A<;>rw[x]at D<;>clear v x;all_goals
    go_wp2;go_roundw
    case rel=>first
     |exact⟨k+1,r,e,af,af,af,rfl,rfl,rfl,by go_num,j.out.alloc j.out.size _⟩
     |exact⟨k+1,r+1,e,af,af,af,by go_num,rfl,rfl,by go_num,j.out.alloc j.out.size _⟩
     |exact⟨k+1,r,e+1,af,af,af,rfl,rfl,by go_num,by go_num,j.out.alloc j.out.size _⟩
     |exact⟨k+1,r+1,e+1,af,af,af,by go_num,rfl,by go_num,by go_num,j.out.alloc j.out.size _⟩
    case measure=>simp[Lo];omega
  .obtain rfl:k=n:=af
   go_wp2;go_ret3
   exact⟨r,e,E,rfl,q⟩
theorem WR(h:bJ w y db g u o l hand z d):K1 prog 236 #[ptrTo y] w λe w'=>e=Mk (Ly #[])/\(∃b,bJ w' y db g u o l hand b d)/\aN (·=y) w w':=by
 have q:=ae (WQ h);have H:=ae h;have j:=h.full;have x:=h.most;clear h;unfold ptrTo at *;go_enter func236,ntmps236;go_wp2_with fail;go_call q.out as e w1⟨r,dd,hr,rfl,hb⟩;have a:=ae (H.out.below hb);obtain⟨⟨-,-,-,-,v,A⟩,-,t,n⟩:=a.out.head.cells;have p:=ae hb;clear hb;have s:=ae a.out.head.lt;obtain⟨m,f⟩:∃m:Nat,m=max z r:=⟨_,rfl⟩;have i:m<=l.length:=af;have k:=ae f;clear f;go_wp2_with (refine qF rfl _ _ _ _ rfl z r rfl rfl rfl rfl ?_;intro E c;rw[<- k.out]at c;subst c);go_end0
 exact⟨rfl,⟨E,a.out.Al (((aN.refl (·=y) w1).setCell _ _ (.inl rfl)).setCell _ _ (.inl rfl)) ((a.out.head.aaW E).aaX) a.out.hand i⟩,(((aN.aZ (S:=(·=y)) p.out).setCell ⟨y,4,KK⟩ _ (.inl rfl)).setCell ⟨y,5,KK⟩ _ (.inl rfl))⟩
theorem map_set{q:j8}:(l.set i q).map (·.2)=(l.map (·.2)).set i q.2:=ai
theorem cQ{p:j8}(h:l[i]? = IT p):(l.map (·.2))[i]? = IT p.2:=M2
theorem iZ.del{m:List ((Name×Nat)×Nat)}(h:iZ fs m)(hi:fs[i]? = IT a)(p:a.full=Jd):iZ (fs.set i cB.none) (b9 m (a.name,a.k)):=by
 intro n k j;rw[cV,gF (aK hi)];have q:=(h a.name a.k i).2 ⟨a,hi,p,rfl,rfl⟩;constructor
 .intro d;by_cases e:(n,k)=(a.name,a.k)
  .grind
  .rw[if_neg e]at d;obtain⟨o,c,f,g,l⟩:=(h n k j).1 d;grind
 .rintro⟨o,c,f,g,l⟩;by_cases b:j=i
  .rw[if_pos b]at c;cases c;cases f
  .rw[if_neg b]at c;have d:=(h n k j).2 ⟨o,c,f,g,l⟩;grind
theorem iZ.put{m:List ((Name×Nat)×Nat)}(h:iZ fs m)(hi:fs[i]? = IT a)(p:a.full=false)(q:x.full=Jd)(r:aI m (x.name,x.k)=KK):iZ (fs.set i x) (aX m (x.name,x.k) i):=by
 intro n k j;rw[aC,gF (aK hi)];constructor
 .intro c;by_cases e:(n,k)=(x.name,x.k)
  .grind
  .rw[if_neg e]at c;obtain⟨o,d,l,f,g⟩:=(h n k j).1 c;grind
 .rintro⟨o,d,l,f,g⟩;by_cases b:j=i
  .grind
  .rw[if_neg b]at d;have c:=(h n k j).2 ⟨o,d,l,f,g⟩;grind
theorem iZ.same{m:List ((Name×Nat)×Nat)}(h:iZ fs m)(hi:fs[i]? = IT a)(d:x.full=a.full)(c:x.name=a.name)(b:x.k=a.k):iZ (fs.set i x) m:=by intro n k j;rw[h n k j,gF (aK hi)];grind
theorem eC.RS(h:eC w g l)(hi:i<l.length)(q:j8):eC (w.setCells g (i*7) (bW q.1 q.2)) g (l.set i q):=by grind [ae5]
theorem bJ.yS{o':ay}(h:bJ w y db g u o l hand z d){q:j8}(a:eC w' g (l.set i q))(f:aN (λx=>x=g\/x=u) w w')(c:∀x t,o x=IT t->o' x=IT t)(e:∀x t,o' x=IT t->x<w'.heap.size)(n:∃m,lh w' u m/\iZ ((l.map (·.2)).set i q.2) m)(k:w'.ownsRow 0 5 1 q.1 q.2.bytes.length (q.2.bytes.map bv)/\∀b,q.1.ownBlock=IT b->o' b=IT (9,0)) :
 bJ w' y db g u o' (l.set i q) hand z d:=
 h.aiO f (List.length_set) a c e Nc (λp j=>M2)
theorem Ax(h:bJ w y db g u o l hand z d){v:J3}(hi:l[i]? = IT (v,f))(E:f.full=Jd)(hs:f.name.size<=1000)(U:f.k<9223372036854775808):K1 prog 46 #[ptrTo y,i] w λe w'=>e=Mk (Ly #[])/\bJ w' y db g u o (l.set i (.slice KK 0 0,cB.none)) hand z d/\aN (λx=>x=g\/x=u) w w':=by
 have H:=ae h;have I:=ae hi;have oL:i<l.length:=aK hi;have Z:=ae h.row;obtain⟨⟨-,q,A,-⟩,-⟩:=h.head.cells;obtain⟨Q,M,T,R,L,S,W⟩:=h.row.seven hi;obtain⟨m,F,K⟩:=h.yR;have P:=ae F;have X:=ae K;have O:=ae (uS (s:=f.name) (n:=f.k) (by grind [maxLen]) U);have N:=ae E;clear h hi F K Q R L S W E;unfold ptrTo;generalize D:l.length=n at *;have HN:=ae D;clear D;go_enter func46,ntmps46;go_wp2;go_still_tail 12,(by rfl)
 refine xy _ rfl _ _ _ rfl 3 l9 iz Tryz.underlying96 u m rfl P.out (f.name,f.k) rfl O.out ?_;intro es c G;have J:aN (·=u) w (setBlock { w with drawn:=w.drawn+1 } u (.map es c)):=(aN.refl (·=u) w).drew.setBlock u _ (.inl rfl);have Y:=ae G;have C:=ae J;clear G J;generalize setBlock { w with drawn:=w.drawn+1 } u (.map es c)=k at *;have B:=ae (Z.out.kept C.out (ay.ne H.out.vT H.out.rC ag));have Du:k.cell? ⟨y,1,KK⟩=IT (.slice g n n):=C.out.cell q (ay.ne H.out.Cn H.out.rC ag);clear q A M T;obtain⟨k0,k1,k2,k3,k4,k5,k6⟩:=B.out.seven I.out;have kz:∀j,k.frozen? ⟨g,j,KK⟩=false:=B.out.free;go_wp2;go_end0
 have p:eC (k.setCells g (i*7) (bW (.slice KK 0 0) cB.none)) g (l.set i (.slice KK 0 0,cB.none)):=B.out.RS (by grind [Hid.out]) (.slice KK 0 0,cB.none);have a:aN (λx=>x=g\/x=u) w (k.setCells g (i*7) (bW (.slice KK 0 0) cB.none)):=(C.out.mono (λx _ e=>.inr e)).setCells g _ _ (.inl (.inl rfl));have r:lh (k.setCells g (i*7) (bW (.slice KK 0 0) cB.none)) u (b9 m (f.name,f.k)):=Y.out.turn ((aN.refl (·=g) k).setCells g _ _ (.inl rfl)) (ay.ne H.out.rC H.out.vT ag);exact⟨rfl,H.out.yS p a (λ_ _ h=>h) (λx t V=>eg (H.out.owned x t V) a.size) ⟨_,r,X.out.del (cQ I.out) N.out⟩ ⟨ownsRow_nil _ _ _,λb hb=>by grind [Value.ownBlock]⟩,a⟩
theorem eC.drew(h:eC w g l):eC w.drew g l:=h
theorem iZ.none{m:List ((Name×Nat)×Nat)}(h:iZ fs m){n:Name}(g:∀(j:Nat)(a:cB),fs[j]? = IT a->a.full=Jd->a.name=n->a.k=k->False):aI m (n,k)=none:=by
 cases e:aI m (n,k) with
 |none=>rfl
 |some j=>obtain⟨a,d,f,b,c⟩:=(h n k j).1 e;grind
theorem Mb(h:bJ w y db g u o l hand z d){p:j8}(hi:l[i]? = IT p)(hf:p.2.full=false)(f:cB){a:Option Addr}{c base:Nat}(hv:w.ownsRow base 5 1 (.slice a f.bytes.length c) f.bytes.length (f.bytes.map bv))(pD:∀b,(Value.slice a f.bytes.length c).ownBlock=IT b->o b=KK)(LS:∀(j:Nat)(K:cB),(l.map (·.2))[j]? = IT K->K.full=Jd->K.name=f.name->K.k=f.k->False)(hs:f.name.size<=1000)(hk:f.k<9223372036854775808)(b0:Bool):K1 prog 199 #[ptrTo y,i,.agg #[.bool b0,.string f.name,f.k,.slice a f.bytes.length c,Kx Mm 0,.bool f.cu,.bool f.used]] w λe w'=>e=Mk (Ly #[]) /\
  (∃C,bJ w' y db g u (o.put (.slice a f.bytes.length c) (9,0)) (l.set i (.slice a f.bytes.length c,{ f with full:=Jd })) hand C d)/\aN (λx=>x=g\/x=u\/x=y) w w':=by
 have H:=ae h;have HI:=ae hi;have oL:i<l.length:=aK hi;have Aw:=ae h.row;obtain⟨⟨-,N,O,-⟩,-⟩:=h.head.cells;obtain⟨m,M,dA⟩:=h.yR;have gy:=ae M;have fV:=ae dA;have HV:=ae hv;have U:=ae pD;have X:=ae LS;have hg:=ae (uS (s:=f.name) (n:=f.k) (by grind [maxLen]) hk);have HF:=ae hf;have Q:=ae h.owned;have Tp:=h.head.lt;have al:=h.row.lt;have V:=M.lt;have zY:y≠g:=ay.ne h.Cn h.vT ag;have mF:y≠u:=ay.ne h.Cn h.rC ag;have VD:u≠g:=ay.ne h.rC h.vT ag;have Ps:=ae zY;have G:=ae VD;clear h hi M dA hf hv pD LS zY mF VD;unfold ptrTo;generalize hN:l.length=n at *;have HN:=ae hN;clear hN;go_enter func199,ntmps199;go_wp2;have P:Lg w w (w.alloc (Mi #[.bool Jd,.string f.name,f.k,.slice a f.bytes.length c,Kx Mm 0,.bool f.cu,.bool f.used] 118)):=aq.alloc (cg _) _;have v:=Lw w (Mi #[.bool Jd,.string f.name,f.k,.slice a f.bytes.length c,Kx Mm 0,.bool f.cu,.bool f.used] 118);generalize w.alloc (Mi #[.bool Jd,.string f.name,f.k,.slice a f.bytes.length c,Kx Mm 0,.bool f.cu,.bool f.used] 118)=k at *;obtain⟨bx,T⟩:=ac w.heap.size;rw[<- T]at v;have I:bx≠g:=af;have W:bx≠u:=af;have VF:bx≠y:=af;have x0:k.cell? ⟨bx,0,KK⟩=IT (.bool Jd):=by rw[au v];rfl
 have x1:k.cell? ⟨bx,1,KK⟩=IT (.string f.name):=by rw[au v];rfl
 have x2:k.cell? ⟨bx,2,KK⟩=f.k:=by rw[au v];rfl
 have x3:k.cell? ⟨bx,3,KK⟩=IT (.slice a f.bytes.length c):=by rw[au v];rfl
 have x4:k.cell? ⟨bx,4,KK⟩=IT (Kx Mm 0):=by rw[au v];rfl
 have x5:k.cell? ⟨bx,5,KK⟩=IT (.bool f.cu):=by rw[au v];rfl
 have x6:k.cell? ⟨bx,6,KK⟩=IT (.bool f.used):=by rw[au v];rfl
 have S:=ae P;have R:=ae (Aw.out.below P);have qE:k.cell? ⟨y,1,KK⟩=IT (.slice g n n):=by grind [Below.cell]
 have RT:k.cell? ⟨y,2,KK⟩=IT (.map (IT u)):=by grind [Below.cell]
 rw[<- T];have J:=ae I;obtain⟨q,hq⟩:∃q:j8,l[i]? = IT q:=⟨_,HI.out⟩;obtain⟨qv,qf⟩:=q;obtain⟨k0,k1,k2,k3,k4,k5,k6⟩:=R.out.seven hq;have kz:∀j,k.frozen? ⟨g,j,KK⟩=false:=R.out.free;clear v P T I W VF N O hq;go_still_tail 7,(by rfl)
 go_wp2;change Code.wp _ _ _ _ (World.drew (World.setCells k g (i*7) (bW (.slice a f.bytes.length c) { f with full:=Jd })));have B:eC (World.drew (k.setCells g (i*7) (bW (.slice a f.bytes.length c) { f with full:=Jd }))) g (l.set i (.slice a f.bytes.length c,{ f with full:=Jd })):=(R.out.RS (by grind [Hid.out]) (.slice a f.bytes.length c,{ f with full:=Jd })).drew;have D:aN (·=g) k (World.drew (k.setCells g (i*7) (bW (.slice a f.bytes.length c) { f with full:=Jd }))):=((aN.refl (·=g) k).setCells g _ _ (.inl rfl)).drew;generalize World.drew (k.setCells g (i*7) (bW (.slice a f.bytes.length c) { f with full:=Jd }))=r at *;have e2:r.cell? ⟨y,2,KK⟩=IT (.map (IT u)):=D.cell RT Ps.out;have y1:r.cell? ⟨bx,1,KK⟩=IT (.string f.name):=D.cell x1 J.out;have y2:r.cell? ⟨bx,2,KK⟩=f.k:=D.cell x2 J.out;have Pu:Lk (lh r u m):=ae ((gy.out.kept (S.out.block u V)).turn D G.out);have Z:=ae B;have mE:Lk (aN (λx=>x=g\/x=u) w r):=ae ((aN.aZ S.out).trans D (λx _ e=>.inl e));have Az:Lk (r.ownsRow 0 5 1 (.slice a f.bytes.length c) f.bytes.length (f.bytes.map bv)):=ae (D.ownsRow (aQ (aB HV.out S.out) (em _)) (λb E e=>by have F:=U.out b E;rw[e,H.out.vT]at F;cases F))
 clear B D x0 x1 x2 x3 x4 x5 x6 k0 k1 k2 k3 k4 k5 k6 kz qE RT;go_still_tail 7,(by rfl)
 refine fL _ rfl _ _ _ _ rfl 3 l9 iz Tryz.underlying96 u m rfl Pu.out (f.name,f.k) i rfl rfl hg.out ?_;intro es A hm;have hT:aN (·=u) r (setBlock { r with drawn:=r.drawn+1 } u (.map es A)):=(aN.refl (·=u) r).drew.setBlock u _ (.inl rfl);have fH:=ae hm;have L:=ae hT;clear hm hT;generalize setBlock { r with drawn:=r.drawn+1 } u (.map es A)=W3 at *;have Y:Lk (aN (λx=>x=g\/x=u) w W3):=ae (mE.out.trans L.out (λx _ e=>.inr e));have HP:Lk (bJ W3 y db g u (o.put (.slice a f.bytes.length c) (9,0)) (l.set i (.slice a f.bytes.length c,{ f with full:=Jd })) hand z d):=ae (H.out.yS (Z.out.kept L.out (λe=>G.out e.symm)) Y.out
  (ay.yJ U.out) (ay.Am (λx t v=>eg (Q.out x t v) Y.out.size) (λb E=>eg (aA Az.out b E).1 L.out.size))
  ⟨_,fH.out,fV.out.put (x:={ f with full:=Jd }) (cQ HI.out) HF.out rfl (fV.out.none X.out)⟩
  ⟨L.out.ownsRow Az.out (λb E e=>by have F:=U.out b E;rw[e,H.out.rC]at F;cases F),λb E=>ay.Dx E⟩)
 have aR:=ae (WR HP.out);unfold ptrTo at aR;clear e2 y1 y2;go_wp2_with fail;go_call aR.out as e W4⟨rfl,⟨C,r7⟩,yH⟩;have BF:=ae r7;have FE:=ae yH;clear r7 yH;go_wp2;go_end0
 exact⟨rfl,⟨C,BF.out⟩,(Y.out.mono (λx _ e=>e.elim .inl (λe=>.inr (.inl e)))).trans FE.out (λx _ e=>.inr (.inr e))⟩
def DN(w:KX)(db:Nat)(d:Dsk)(name:Name)(e:Ending)(w':KX):Prop:=
 ∃(v:J3)(n:Nat),e=Mk (Ly #[v,n,dw d name])/\Lg w w w' /\
  (dw d name=0->n=(d.sizeOf name).1/256/\∃a,v=ptrTo a/\qG w' a db name/\w.heap.size<=a)
theorem Mc(h:dw d name=0):(d.sizeOf name).2=0:=by
 unfold dw at h;split at h
 .exact h
 .rename_i a;omega
theorem xK(h:bJ w y db g u o l hand z d)(name:Name)(t:name.size<=1000):K1 prog 86 #[ptrTo y,.string name] w (DN w db d name):=by
 have H:=ae h;obtain⟨⟨A,-⟩,-⟩:=h.head.cells;have j:=ae (DM h.l6 name t);have k:=mg h.l6 name;obtain⟨D,-⟩:=k;clear h;unfold ptrTo at *;by_cases a:dw d name=0
 .have b:=Mc a;have i:=ae a;have m:=ae b;rw[a]at j;clear a b;go_enter func86,ntmps86;go_wp2_with fail;go_call j.out as e w1⟨v,rfl,hb1,hy,-⟩;obtain⟨p,rfl,n,B⟩:=hy rfl;have s:=ae hb1;have C:=ae n;have r:=ae (tZ (H.out.below hb1).l6 n t);rw[m.out]at r;have E:=ae (show p=p from rfl);clear hb1 n hy;unfold ptrTo at *;generalize c:(d.sizeOf name).1/256=q at *;have f:=ae c;clear c;go_wp2_with fail;go_call r.out as e w2⟨rfl,hb2⟩;go_wp2;go_ret3
  refine⟨_,q,?_,s.out.trans (hb2.mono s.out.size),λ_=>⟨f.out.symm,p,rfl,C.out.below hb2,B⟩⟩;rw[i.out];rfl
 .have x:¬(dw d name:Int)=0:=af;have i:=ae a;generalize c:dw d name=q at *;have f:=ae c;clear a c;go_enter func86,ntmps86;go_wp2_with fail;go_call j.out as e w1⟨v,rfl,hb1,-,hy⟩;obtain rfl:=hy i.out;go_wp2;go_ret3
  exact⟨_,0,by rw[f.out];rfl,hb1,λh=>absurd (f.out.symm.trans h) i.out⟩
theorem DO(h:bJ w y db g u o l hand z d)(name:Name)(i:name.size<=1000):K1 prog 36 #[ptrTo y,.string name] w λe w'=>e=(d.create name).2/\cS w db o (d.create name).1 w':=by obtain⟨⟨f,-⟩,-⟩:=h.head.cells;have a:=ae (Jq h.l6 name i);clear h;unfold ptrTo at *;generalize (d.create name).1=d' at *;generalize (d.create name).2=c at *;go_enter func36,ntmps36;go_wp2_with fail;go_call a.out as e w1⟨⟨v,rfl⟩,hp⟩;have b:=ae hp;clear hp;go_wp2;go_ret;exact⟨rfl,b.out⟩
def jF(name:Name)(n:Nat)(f:cB):Nat:=if f.full=Jd/\f.cu=Jd/\f.name=name then max n (f.k+1) else n
def fW(name:Name)(a:Nat)(fs:List cB):Nat:=fs.foldl (jF name) a
theorem Js(name:Name)(b:Nat)(h:fs[k]? = IT f):fW name b (fs.take (k+1))=jF name (fW name b (fs.take k)) f:=by
 have a:=aK h;have e:fs[k]=f:=by rw[bk a]at h;exact Option.some.inj h
 unfold fW;rw[List.take_succ_eq_append_getElem a,List.foldl_append,e];rfl
theorem Pv(name:Name){B:Nat}(fs:List cB)(h:∀f∈fs,f.k<B):∀a,a<=B->fW name a fs<=B:=by
 induction fs with
 |nil=>intro a c;exact c
 |cons f fs b=>intro a c;have e:=h f ai;unfold fW at b ⊢;rw[List.foldl_cons];refine b (λg d=>h g (by simp[d])) _ ?_;unfold jF;split<;>omega
theorem rE{a b:ByteArray}(h:a≠b):(a.toList == b.toList)=false:=by
 cases e:(a.toList == b.toList) with
 |false=>rfl
 |true=>exact absurd (WideShapes.bytes_inj (by rw[<- ByteArray.toList_eq,<- ByteArray.toList_eq];exact eq_of_beq e)) h
theorem Hw(h:bJ w y db g u o l hand z d)(s:∀p∈l,p.2.k<65536)(name:Name)(hs:name.size<=1000):K1 prog 75 #[ptrTo y,.string name] w λe w'=>e=Mk (Ly #[Kx Mm ((if dw d name=0 then fW name ((d.sizeOf name).1/256) (l.map (·.2)) else 0:Nat):Int),dw d name])/\Lg w w w':=by
 have H:=ae h;have Aw:=ae h.row;have hn:=h.most;have X:=ae h.shaped;have x:=ae s;obtain⟨⟨-,m,-⟩,-⟩:=h.head.cells;have C:=ae (xK h name hs);obtain⟨Y,-⟩:=mg h.l6 name;clear h s;unfold ptrTo at *;generalize L:l.length=n at *;have P:=ae L;clear L;by_cases B:dw d name=0
 .rw[if_pos B];have I:=ae B;clear B;go_enter func75,ntmps75;go_wp2_with fail;go_call C.out as e w1⟨v,q,rfl,hb1,hy⟩;obtain⟨R,pf,rfl,-,-⟩:=hy I.out;have G:q<=65536:=af;have W:=ae R;rw[I.out];have N:=ae hb1;have K:w1.cell? ⟨y,1,KK⟩=IT (.slice g n n):=by rw[hb1.cell (p:=⟨y,1,KK⟩) (jK _ _ m)];exact m
  have U:=ae (Aw.out.below hb1);clear hb1 hy R m C;unfold ptrTo;have b:Lk (∀k,fW name q ((l.map (·.2)).take k)<=65536):=ae λk=>Pv name _ (λf T=>by obtain⟨p,hp,rfl⟩:=List.mem_map.1 (List.mem_of_mem_take T);exact x.out p hp) q G
  go_wp2;go_loopw [7,28] (λa i wr=>∃k:Nat,k<=n/\i=Kx Mm (k:Int)/\a=Kx Mm ((fW name q ((l.map (·.2)).take k):Nat):Int)/\Lg w1 w1 wr) (λ_ i _=>n-(Lo i).toNat)
  case atStart=>exact⟨0,em _,rfl,rfl,kp _ _⟩
  case round=>
   obtain⟨k,hk,rfl,rfl,A⟩:=hrel;by_cases D:k<n
   .obtain⟨a,c,f,hi⟩:=X.out.get P.out D;obtain⟨h0,h1,h2,h3,h4,h5,h6⟩:=(U.out.below A).seven hi;have Z:wr.cell? ⟨y,1,KK⟩=IT (.slice g n n):=by rw[A.cell (p:=⟨y,1,KK⟩) (jK _ _ K)];exact K
    have al:f.k<65536:=x.out _ (List.mem_of_getElem? hi);have r:=ae (Js name q (cQ hi));have J:=b.out k;have Q:=ae A;clear hi A;obtain⟨t,O⟩:=ac (fW name q ((l.map (·.2)).take k));rw[<- O]at r J ⊢;clear O;obtain⟨full,nm,V,bs,cu,used⟩:=f;dsimp only at *;by_cases j:nm=name;case' pos=>have F:(nm.toList == name.toList)=true:=by rw[j];exact beq_self_eq_true _
    case' neg=>have F:(nm.toList == name.toList)=false:=rE j
    all_goals
     have Me:=ae j;clear j;cases full<;>cases cu
    all_goals
     go_wp2_with (refine qF rfl _ _ _ _ rfl t (V+1) rfl rfl rfl rfl ?_;intro E M;have HE:=ae M;clear M);go_roundw
     case rel=>
      refine⟨k+1,af,by go_num,?_,Q.out.alloc Q.out.size _⟩;have j:=Me.out;rw[r.out];first
       | (simp[jF];done)
       | (simp[jF,j];done)
       | (rw[HE.out];simp[jF,j];done)
     case measure=>simp[Lo];omega
   .obtain rfl:k=n:=af
    go_wp2;go_ret2;refine⟨?_,N.out.trans (A.mono N.out.size)⟩;rw[List.take_of_length_le (by rw[List.length_map,P.out];exact cg _),I.out,<- W.out];rfl
 .rw[if_neg B];have S:¬(dw d name:Int)=0:=af;go_enter func75,ntmps75;go_wp2_with fail;go_call C.out as e w1⟨v,q2,rfl,hb1,-⟩;go_wp2;go_ret2;exact⟨rfl,hb1⟩
end Go.Proofs.YtofigggbapdfhaaGreatDoor
namespace Go.Proofs
open Go.Shelf
def Tryz.sortInts_ren:Go.Shelf.Ren:=⟨λ| 6=>159 | 15=>72 | 14=>211 | 28=>134 | 29=>135 | 20=>249 | 21=>250 | 22=>251 | 23=>252 | 24=>253 | 25=>254 | 26=>255 | 27=>256 | 46=>279 | 47=>188 | 48=>189 | 49=>280 | 50=>281 | 57=>300 | n=>n,λ| 22=>180 | 24=>3 | 25=>244 | 3=>3 | 39=>156 | 0=>0 | 53=>33 | 55=>61 | 4=>4 | 46=>220 | 45=>219 | 50=>224 | 5=>5 | 9=>9 | 66=>264 | 70=>268 | 76=>307 | 77=>54 | n=>n,λ| n=>n⟩
theorem Tryz.sortInts:Go.Proofs.SlLaysF.n6 prog Tryz.sortInts_ren:={
 mixed:=ah
 f6:=⟨Tryz.f159.name,ag,func159.trans ar⟩
 f14:=⟨Tryz.f211.name,ag,func211.trans ar⟩
 f15:=func72.trans ar
 f20:=⟨Tryz.f249.name,ag,func249.trans ar⟩
 f21:=⟨Tryz.f250.name,ag,func250.trans ar⟩
 f22:=⟨Tryz.f251.name,ag,func251.trans ar⟩
 f23:=⟨Tryz.f252.name,ag,func252.trans ar⟩
 f24:=⟨Tryz.f253.name,ag,func253.trans ar⟩
 f25:=⟨Tryz.f254.name,ag,func254.trans ar⟩
 f26:=⟨Tryz.f255.name,ag,func255.trans ar⟩
 f27:=⟨Tryz.f256.name,ag,func256.trans ar⟩
 f28:=func134.trans ar
 f29:=func135.trans ar
 f46:=⟨Tryz.f279.name,ag,func279.trans ar⟩
 f47:=func188.trans ar
 f48:=func189.trans ar
 f49:=⟨Tryz.f280.name,ag,func280.trans ar⟩
 f50:=⟨Tryz.f281.name,ag,func281.trans ar⟩
 f57:=⟨Tryz.f300.name,ag,func300.trans ar⟩
 t0:=Tryz.underlying0
 a0:=Tryz.isAgg0
 z0:=Tryz.sizeOf0
 v0:=Tryz.zeroValue0
 t3:=Tryz.underlying3
 a3:=Tryz.isAgg3
 z3:=Tryz.sizeOf3
 v3:=Tryz.zeroValue3
 t4:=Tryz.underlying4
 a4:=Tryz.isAgg4
 z4:=Tryz.sizeOf4
 v4:=Tryz.zeroValue4
 t5:=Tryz.underlying5
 a5:=Tryz.isAgg5
 z5:=Tryz.sizeOf5
 v5:=Tryz.zeroValue5
 t9:=Tryz.underlying9
 a9:=Tryz.isAgg9
 z9:=Tryz.sizeOf9
 v9:=Tryz.zeroValue9
 t22:=Tryz.underlying180
 a22:=Tryz.isAgg180
 z22:=Tryz.sizeOf180
 v22:=Tryz.zeroValue180
 a24:=Tryz.isAgg3
 z24:=Tryz.sizeOf3
 t25:=Tryz.underlying244
 a25:=Tryz.isAgg244
 z25:=Tryz.sizeOf244
 v25:=Tryz.zeroValue244
 t39:=Tryz.underlying156
 a39:=Tryz.isAgg156
 z39:=Tryz.sizeOf156
 v39:=Tryz.zeroValue156
 t45:=Tryz.underlying219
 a45:=Tryz.isAgg219
 z45:=Tryz.sizeOf219
 v45:=Tryz.zeroValue219
 t46:=Tryz.underlying220
 a46:=Tryz.isAgg220
 z46:=Tryz.sizeOf220
 v46:=Tryz.zeroValue220
 t50:=Tryz.underlying224
 a50:=Tryz.isAgg224
 z50:=Tryz.sizeOf224
 v50:=Tryz.zeroValue224
 t53:=Tryz.underlying33
 a53:=Tryz.isAgg33
 z53:=Tryz.sizeOf33
 v53:=Tryz.zeroValue33
 t55:=Tryz.underlying61
 a55:=Tryz.isAgg61
 z55:=Tryz.sizeOf61
 v55:=Tryz.zeroValue61
 t66:=Tryz.underlying264
 a66:=Tryz.isAgg264
 z66:=Tryz.sizeOf264
 v66:=Tryz.zeroValue264
 t70:=Tryz.underlying268
 a70:=Tryz.isAgg268
 z70:=Tryz.sizeOf268
 v70:=Tryz.zeroValue268
 t76:=Tryz.underlying307
 a76:=Tryz.isAgg307
 z76:=Tryz.sizeOf307
 v76:=Tryz.zeroValue307
 t77:=Tryz.underlying54
 a77:=Tryz.isAgg54
 z77:=Tryz.sizeOf54
 v77:=Tryz.zeroValue54 }
end Go.Proofs
namespace Go.Proofs.YtofigggbapdfhaaGreatDoor
open Go.RowKit Go.Maps Go.MapKept
open Go.Proofs.Tryz
open Go renaming World->KX,Value->J3,Calls->K1,Ending->Lp,heap_alloc_new->Lw
open Go.RowKit renaming Below->Lg,Hid->Lk,intOf->Lo
open Go.Value renaming int->Kx,tuple->Ly,agg->LV
open Go.Obj renaming cells->Mi
open Go.Ending renaming returned->Mk
open Go.IntKind renaming i64->Mm,u32->Mo,u64->MJ
open Go.IntKind renaming wrap->cf,wrap_u32->Hz
open Go.Value renaming slice->fz,string->ki,oneCell'->qn,int->tb
open Go.World renaming block_lt_of_cell?->jK
open Go.RowKit.Below renaming refl->kp
variable {cap lo hi r i z A l b N:Nat}{name:Name}{f:cB}{L:aL}{ps m:List Pg}{fl a:Bool}{g:List cB}{κ υ:Type}{rs:List Rec}{j:J3}
section
variable {α:Type} [Inhabited α]
theorem holds_of_block(enc:α->J3){w:KX}{g:Nat}{a:Array J3}{e:TypeId}{ss:List α}(h:w.heap[g]? = IT (Mi a e (0,0)))(c:a.toList.take ss.length=ss.map enc):Go.Sort.Holds enc w g 0 ss.toArray:=by
 intro j d;have b:j<ss.length:=af;refine⟨?_,by grind [World.frozen?]⟩;have f:(a.toList.take ss.length)[j]? = (ss.map enc)[j]? := by rw[c]
 grind [World.cell?]
theorem heap_sorted(enc:α->J3){w:KX}{g n:Nat}{os:Array Obj}{a:Array J3}{e:TypeId}{b:Nat×Nat}(d:Array α)(c:w.heap[g]? = IT (Mi a e b)) :
 (Go.Sort.grow (Go.Sort.putRow enc (Go.Sort.ahead w n) g 0 d) os).heap[g]? = IT (Mi (Go.Sort.putCells enc 0 d a) e b):=by grind [Go.Sort.heap_grow_old,Go.Sort.putRow,Go.Sort.mapBlock,Go.Sort.ahead,Go.Sort.onCells]
theorem uf(enc:α->J3){w:KX}{g n:Nat}{os:Array Obj}(d:Array α):aN (·=g) w (Go.Sort.grow (Go.Sort.putRow enc (Go.Sort.ahead w n) g 0 d) os):=by refine⟨rfl,rfl,rfl,ai,λk b a=>?_⟩;grind [Go.Sort.heap_grow_old,Go.Sort.putRow,Go.Sort.mapBlock,Go.Sort.ahead]
theorem take_putCells(enc:α->J3)(a:Array J3)(ts:List α)(h:ts.length<=a.size):(Go.Sort.putCells enc 0 ts.toArray a).toList.take ts.length=ts.map enc:=by apply p5;grind [Go.Sort.putCells]
theorem ownsRow_sorted(enc:α->J3){w:KX}{base g n:Nat}{e:TypeId}{os:Array Obj}{b:Array J3}{ss ts:List α}(i:ts.length=ss.length)(a:base<=g)(f:w.heap[g]? = IT (Mi b e (0,0)))(c:ss.length<=cap)(d:cap<=maxLen)(h:b.size=cap*1) :
 (Go.Sort.grow (Go.Sort.putRow enc (Go.Sort.ahead w n) g 0 ts.toArray) os).ownsRow base e 1 (.slice g ss.length cap) ss.length (ts.map enc):=
 ⟨M2,.inr ⟨g,cap,_,rfl,a,heap_sorted enc _ f,c,d,by grind [Go.Sort.putCells],by grind [take_putCells]⟩⟩
end
def WT{a:Type}[Inhabited a](enc:a->J3)(c:a->a->Int)(w:KX)(base:Nat)(b:TypeId)(g len cap:Nat)(ss:List a)(e:Lp)(w':KX):Prop:=
 e=Mk (Ly #[])/\∃ts:List a,ts.Perm ss/\ts.Pairwise (λx y=>¬c y x<0)/\w'.ownsRow base b 1 (.slice g len cap) len (ts.map enc)/\aN (·=g) w w'
theorem Jt{h:Type}[Inhabited h](enc:h->J3)(s:OneCell enc)(k:h->h->Int)(z:Go.Sort.SWO (ltOf k))(f:Nat)(l:Array J3){w:KX}{base g len:Nat}{a:TypeId}{ss:List h}(u:ss.length=len)(F:len<4611686018427387904)(d:w.ownsRow base a 1 (.slice g len cap) len (ss.map enc))(E:∀args w,(callFunc f args).run prog w=.ok (.enter f args) w)(I:CmpLays1 prog f l enc k g 0 len w):K1 prog 159 #[.slice g len cap,.func (.func f) #[] l] w (WT enc k w base a g len cap ss):=by
 obtain⟨p,⟨v,_⟩|⟨J,r,B,x,t,m,K,y,o,A⟩⟩:=d
 .cases v
 cases x;rw[sE]at A;have G:=holds_of_block enc (ss:=ss) m M2;have c:ss.toArray.size=len:=af;have b:=Any.slices_SortFunc Tryz.sortInts enc s k z f l g 0 cap ss.toArray w E M2 G (ds.1 m).1 af;rw[c]at b;go_call b as e w'⟨rfl,d',n,os,hp,hs,rfl⟩;obtain⟨q,_,H⟩:=hp;rw[c]at q;have D:d'.toList.length=ss.length:=M2;refine⟨rfl,d'.toList,?_,?_,?_,uf enc d'⟩
 .have N:(d'.extract 0 len).toList=d'.toList:=by rw[<- q];simp
  grind
 .rw[List.pairwise_iff_getElem];intro i j hi L C;have M:=hs i j (em _) C af;grind [ltOf]
 .have:=ownsRow_sorted enc (w:=w) (base:=base) (g:=g) (cap:=cap) (n:=n) (os:=os) (ss:=ss) (ts:=d'.toList) D t m af y o;rw[u]at this;assumption
open Go.ChangeMaps (setBlock heap_setBlock_same heap_setBlock_other)
theorem Mf:(prog.info? 3).map (λi=>(i.zero,i.size,i.bytes))=IT (IT (Kx Mm 0),1,8):=ah
def told(fs:List cB)(name:Name)(lo hi:Nat)(k:Nat):List Nat:=(kk k).filter (λi=>j6 name lo hi (fs.getD i cB.none))
theorem Tq{fs:List cB}{k:Nat}(h:fs[k]? = IT f):told fs name lo hi (k+1)=if j6 name lo hi f=Jd then told fs name lo hi k++[k] else told fs name lo hi k:=by
 unfold told;rw[List.range_succ,List.filter_append,List.filter_cons,sj h];split
 .rfl
 .simp
theorem aa1{fs:List cB}{k:Nat}:∀i∈told fs name lo hi k,i<k:=λi hi=>by unfold told at hi;exact j3.1 (sR.1 hi).1
theorem BJ(fs:List cB)(name:Name)(lo hi k:Nat):(told fs name lo hi k).length<=k:=by unfold told;have:=kq (λi=>j6 name lo hi (fs.getD i cB.none)) (kk k);simpa using this
theorem Hx(fs:List cB)(name:Name)(lo hi:Nat){e:List Nat}(f:e.Perm (told fs name lo hi fs.length))(g:e.Pairwise (λa b=>BG fs a<=BG fs b)):Told fs name lo hi e:=by
 refine⟨λi=>?_,g,f.nodup_iff.2 ?_⟩
 .rw[f.mem_iff];unfold told;rw[sR,j3];constructor
  .rintro⟨c,d⟩;refine⟨fs[i],bk c,?_⟩;rw[sj (bk c)]at d;exact d
  .rintro⟨h,c,d⟩;exact⟨aK c,by rw[sj c];exact d⟩
 .unfold told;exact List.nodup_range.filter _
def pG(i:Nat):Value:=i
theorem Ju{W:KX}{bx c n j b a:Nat}(f:W.cell? bx=IT (ptrTo c))(l:W.cell? ⟨c,1,KK⟩=IT (.slice r n n))(hi:i<n)(k:j<n)(m:W.cell? ⟨r,i*7+2,KK⟩=b)(g:W.cell? ⟨r,j*7+2,KK⟩=a)(o:b<65536)(d:a<65536):K1 prog 160 #[i,j,.pointer bx] W λe w'=>e=Mk (Kx Mm ((b:Int)-a))/\∃q,w'=W.drewN q:=by
 unfold ptrTo at f;have h:cf Mm ((b:Int)-a)=b-a:=ax af af;go_enter func160,ntmps160;go_wp2;go_quiet (fail)
 go_wp2;go_ret;exact⟨rfl,_,rfl⟩
theorem Jv{fs:List cB}{wr:KX}{base g n hand bx o:Nat}{kOfs:Nat->Nat}(C:wr.ownsRow base 3 1 (.slice g (told fs name lo hi n).length cap) (told fs name lo hi n).length ((told fs name lo hi n).map pG))(A:hand<n)(s:∀i∈told fs name lo hi n,i<n)(B:(told fs name lo hi n).length<=n)(K:n<=4096)(v:wr.cell? bx=IT (ptrTo o))(l:wr.cell? ⟨o,1,KK⟩=IT (.slice r n n))(j:∀i,i<n->wr.cell? ⟨r,i*7+2,KK⟩=IT (Kx Mm ((kOfs i:Nat):Int))/\kOfs i<65536)(D:bx≠g)(E:o≠g)(t:r≠g):K1 prog 159 #[.slice g (told fs name lo hi n).length cap,.func (.func 160) #[] #[.pointer bx]] wr λe w'=>∃q:List Nat,e=Mk (Ly #[])/\q.Perm (told fs name lo hi n) /\
  q.Pairwise (λa b=>kOfs a<=kOfs b)/\w'.ownsRow base 3 1 (.slice g (told fs name lo hi n).length cap) (told fs name lo hi n).length (q.map pG)/\aN (·=g) wr w':=by
 generalize told fs name lo hi n=ts at *;letI:Inhabited (Fin n):=⟨⟨hand,A⟩⟩
 let ss:List (Fin n):=ts.attach.map (λx=>⟨x.1,s x.1 x.2⟩)
 have f:ss.map (λx=>x.1)=ts:=by simp only[ss,rj,Function.comp_def];exact List.attach_map_subtype_val ts
 have k:ss.map (λx:Fin n=>pG x.1)=ts.map pG:=by have:=congrArg (List.map pG) f;rw[rj]at this;exact this
 have p:ss.length=ts.length:=by simp[ss]
 have c:∀x y:Fin n,ltOf (λx y:Fin n=>((kOfs x.1:Nat):Int)-((kOfs y.1:Nat):Int)) x y=decide (kOfs x.1<kOfs y.1):=λx y=>by
  show decide (((kOfs x.1:Nat):Int)-((kOfs y.1:Nat):Int)<0)=_;by_cases h:kOfs x.1<kOfs y.1
  .rw[decide_eq_true h,decide_eq_true af]
  .rw[decide_eq_false h,decide_eq_false af]
 have w:CmpReads prog 160 #[.pointer bx] (λx:Fin n=>pG x.1) (λx y=>((kOfs x.1:Nat):Int)-((kOfs y.1:Nat):Int)) g 0 ts.length wr:=λm os u _ x y=>by have d:aN (·=g) wr (sortWorld (λx:Fin n=>pG x.1) wr g 0 m u os):=uf _ u;exact Ju (d.cell v D) (d.cell l E) x.2 y.2 (d.cell (j x.1 x.2).1 t) (d.cell (j y.1 y.2).1 t) (j x.1 x.2).2 (j y.1 y.2).2
 refine(Jt (λx:Fin n=>pG x.1) (λ_=>rfl) (λx y=>((kOfs x.1:Nat):Int)-((kOfs y.1:Nat):Int)) ⟨λx=>by rw[c];simp,λx y z l F=>by rw[c]at *;simp at *;omega,λx y z l F=>by rw[c]at *;simp at *;omega⟩
  160 #[.pointer bx] (ss:=ss) p af (by rw[k];exact C) (enters_of func160 ah rfl) w.lays).mono ?_
 rintro e w'⟨rfl,J,H,G,I,d⟩;refine⟨J.map (λx=>x.1),rfl,?_,?_,?_,d⟩
 .rw[<- f];exact H.map _
 .rw[List.pairwise_map];exact G.imp (λ{a b}h=>by have L:¬(((kOfs b.1:Nat):Int)-((kOfs a.1:Nat):Int)<0):=h;show kOfs a.1<=kOfs b.1;omega)
 .rw[rj];exact I
def Tr(w:KX)(fs:List cB)(name:Name)(lo hi:Nat)(e:Lp)(w':KX):Prop:=
 ∃v a,e=Mk v/\w'.ownsRow w.heap.size 3 1 v a.length (a.map pG)/\Told fs name lo hi a/\Lg w w w'
theorem Hy{w:KX}{q db:Nat}{o:ay}{l:List j8}{hand:Nat}{d:Dsk}(h:bJ w q db r z o l hand A d)(Q:∀p∈l,p.2.k<65536)(name:Name)(lo hi:Nat):K1 prog 88 #[ptrTo q,.string name,lo,hi] w (Tr w (l.map (·.2)) name lo hi):=by
 obtain⟨i0,tj,am,ci,co⟩:=info_parts Mf;have H:=ae h;have Aw:=ae h.row;have hn:=h.most;have HS:=ae h.shaped;have U:=ae Q;have Tp:=h.head.lt;have el:=h.row.lt;have Mg:=h.hand;obtain⟨⟨-,N,-⟩,-⟩:=h.head.cells;clear h Q;unfold ptrTo;generalize hN:l.length=n at *;have HN:=ae hN;clear hN;go_enter func88,ntmps88;have C:Lg w w (w.alloc (Mi #[.pointer q] 28)):=aq.alloc (cg _) _;have W:=Lw w (Mi #[.pointer q] 28);have ce:w.heap.size<(w.alloc (Mi #[.pointer q] 28)).heap.size:=ai;have X:(w.alloc (Mi #[.pointer q] 28)).cell? ⟨q,1,KK⟩=IT (.slice r n n):=by rw[C.cell (p:=⟨q,1,KK⟩) Tp];exact N
 have kS:=ae (Aw.out.below C);have cD:=ae C;have HX:=ae W;clear C W N;go_wp2_with fail;generalize w.alloc (Mi #[.pointer q] 28)=W1 at *;go_loopw [9,17] (λv i wr=>∃k:Nat,k<=n/\i=k/\wr.ownsRow (w.heap.size+1) 3 1 v (told (l.map (·.2)) name lo hi k).length ((told (l.map (·.2)) name lo hi k).map pG)/\Lg (w.heap.size+1) W1 wr) (λ_ i _=>n-(Lo i).toNat)
 case atStart=>exact⟨0,em _,rfl,ownsRow_nil _ _ _,kp _ _⟩
 case round=>
  obtain⟨k,hk,rfl,T,m⟩:=hrel;by_cases du:k<n
  .obtain⟨a,c,f,b⟩:=HS.out.get HN.out du;have D:eC wr r l:=kS.out.kept (S:=λx=>w.heap.size+1<=x) ⟨m.os,m.tape,m.output,m.size,λx _ W=>m.block x af⟩ af;obtain⟨h0,Y,h2,h3,h4,h5,h6⟩:=D.seven b;have K:wr.cell? ⟨q,1,KK⟩=IT (.slice r n n):=by rw[m.cell (p:=⟨q,1,KK⟩) (show q<w.heap.size+1 by omega)];exact X
   have eS:f.k<65536:=U.out _ (cx b);have s:=ae (Tq (name:=name) (lo:=lo) (hi:=hi) (cQ b));have De:=BJ (l.map (·.2)) name lo hi k;have J:=ae m;have y:=ae T;have B:w.heap.size+1<=wr.heap.size:=cp ce m.size;clear b m D T;obtain⟨t,V⟩:=ac (told (l.map (·.2)) name lo hi k);rw[<- V]at s De y;clear V;obtain⟨full,nm,L,bs,cu,used⟩:=f;dsimp only at *;cases full with
   |false=>
     go_wp2;go_roundw
     case rel=>refine⟨k+1,af,by go_num,?_,J.out.alloc B _⟩;have e:=s.out;rw[if_neg (by simp[j6])]at e;rw[e];exact y.out.alloc _
     case measure=>simp[Lo];omega
   |true=>
     cases cu with
     |false=>
       go_wp2;go_roundw
       case rel=>refine⟨k+1,af,by go_num,?_,J.out.alloc B _⟩;have e:=s.out;rw[if_neg (by simp[j6])]at e;rw[e];exact y.out.alloc _
       case measure=>simp[Lo];omega
     |true=>
       by_cases M:nm=name
       .have bd:(nm.toList == name.toList)=true:=by rw[M];exact beq_self_eq_true _
        have Me:=ae M;clear M;by_cases RU:lo<=L
        .by_cases ff:L<hi
         .have dl:((L:Int) >= lo):=af;have Z:((L:Int)<hi):=af;go_wp2_with (at_builtin;refine wpList_append_own _ rfl _ _ 180 rfl (w.heap.size+1) 3 i0 (Kx Mm 0) 1 8 Tryz.underlying180 tj am ci co rfl ag _ _ _ rfl ((y.out.alloc _).alloc _) ⟨wr.heap.size+1,0,KK⟩ 1 1 [pG k] rfl rfl ?c1 ?c2 ?c3 ?c4 ?c5 ?_);case c1=>
           intro j u hj;match j,hj with
           |0,hj=>cases hj;simp[br,pG]
          case c2=>simp[pG,qn]
          case c3=>unfold maxLen;omega
          case c4=>omega
          case c5=>simp;omega
          intro v' w2 I R _;have vL:Lk (Lg (w.heap.size+1) W1 w2):=ae (((J.out.alloc B _).alloc (by simp;omega) _).grown R (by simp;omega) (aD y.out));have aE:Lk (w2.ownsRow (w.heap.size+1) 3 1 v' (t++[k]).length ((t++[k]).map pG)):=ae (by simpa using I);clear I R;go_wp2;go_roundw
          case rel=>refine⟨k+1,af,by go_num,?_,vL.out⟩;have e:=s.out;rw[if_pos (by simp[j6,Me.out];omega)]at e;rw[e];exact aE.out
          case measure=>simp[Lo];omega
         .have Z:¬((L:Int)<hi):=af;go_wp2;go_roundw
          case rel=>refine⟨k+1,af,by go_num,?_,J.out.alloc B _⟩;have e:=s.out;rw[if_neg (by simp[j6];omega)]at e;rw[e];exact y.out.alloc _
          case measure=>simp[Lo];omega
        .have dl:¬((L:Int) >= lo):=af;go_wp2;go_roundw
         case rel=>refine⟨k+1,af,by go_num,?_,J.out.alloc B _⟩;have e:=s.out;rw[if_neg (by simp[j6];omega)]at e;rw[e];exact y.out.alloc _
         case measure=>simp[Lo];omega
       .have bd:(nm.toList == name.toList)=false:=rE M;have Me:=ae M;clear M;go_wp2;go_roundw
        case rel=>refine⟨k+1,af,by go_num,?_,J.out.alloc B _⟩;have e:=s.out;rw[if_neg (by simp[j6,Me.out])]at e;rw[e];exact y.out.alloc _
        case measure=>simp[Lo];omega
  .obtain rfl:k=n:=af
   have J:=ae m;obtain⟨a9,c9,rfl⟩:=aw T;have y:=ae T;have K:wr.cell? ⟨q,1,KK⟩=IT (.slice r k k):=by rw[m.cell (p:=⟨q,1,KK⟩) (show q<w.heap.size+1 by omega)];exact X
   have vO:=ae K;have de:Lk (eC wr r l):=ae (kS.out.kept (S:=λx=>w.heap.size+1<=x) ⟨m.os,m.tape,m.output,m.size,λx _ W=>m.block x af⟩ af);have pH:Lk (wr.cell? w.heap.size=IT (ptrTo q)):=ae (by rw[m.cell (p:=⟨w.heap.size,0,KK⟩) (show w.heap.size<w.heap.size+1 by omega),au HX.out];rfl)
   have WU:Lk (Lg w w wr):=ae (cD.out.trans (m.mono (Nat.le_succ _)));have E:(l.map (·.2)).length=k:=by rw[dj,HN.out]
   have F:=ae E;clear m T K E X;rcases qp (told (l.map (·.2)) name lo hi k).length with hz | en
   .have G:told (l.map (·.2)) name lo hi k=[]:=jJ hz;have O:=ae G;rw[hz]at y ⊢;clear hz G;have aR:=ae (AnyF.slices_SortFunc_none (P:=prog) (ρ:=Tryz.sortInts_ren) { Tryz.sortInts with } a9 c9 (.func (.func 160) #[] #[.pointer w.heap.size]) wr);go_wp2_with fail;go_call aR.out as e w'⟨rfl,rfl⟩;go_wp2;go_ret;refine⟨_,[],rfl,?_,Hx _ _ _ _ (by rw[F.out,O.out]) List.Pairwise.nil,WU.out⟩;have:=y.out;rw[O.out]at this;exact aQ this (Nat.le_succ _)
   .have Pw:∃g,a9=IT ⟨g,0,KK⟩/\w.heap.size+1<=g:=by
     obtain⟨_,⟨Y,h2⟩|⟨g,cap,ee,Y,h2,_⟩⟩:=y.out
     .omega
     .cases Y;exact⟨g,rfl,h2⟩
    obtain⟨g,rfl,hg⟩:=Pw;have aR:=ae (Jv (name:=name) (lo:=lo) (hi:=hi) (bx:=w.heap.size) (fs:=l.map (·.2)) (kOfs:=λi=>BG (l.map (·.2)) i) y.out Mg (λi hi=>aa1 i hi) (BJ _ _ _ _ _) hn pH.out vO.out (λi hi=>by
     obtain⟨a,c,f,b⟩:=HS.out.get HN.out hi;refine⟨?_,?_⟩
     .rw[(de.out.seven b).2.2.1];unfold BG;rw[sj (cQ b)]
     .unfold BG;rw[sj (cQ b)];exact U.out _ (cx b)) af af af)
    go_wp2_with fail;go_call aR.out as e w'⟨ls,rfl,hp,hr,j5,V⟩;have HP:=ae hp;have HR:=ae hr;have al:=ae j5;have HT:=ae V;have Px:ls.length=(told (l.map (·.2)) name lo hi k).length:=hp.length_eq;have dq:=ae Px;clear hp hr j5 V Px;go_wp2;go_ret;refine⟨_,ls,rfl,?_,Hx _ _ _ _ (by rw[F.out];exact HP.out) HR.out,WU.out.trans (HT.out.below (Nm WU.out.size) (λx e=>af))⟩;rw[dq.out];exact aQ al.out (Nat.le_succ _)
def Fit(l:List j8):Prop:=∀p∈l,p.2.bytes.length<=240/\p.2.k<65536
theorem eC.set'{w:KX}{l:List j8}(h:eC w r l){p q:j8}(hi:l[i]? = IT p){j:Nat}(b:j<7){v:J3}(a:(bW p.1 p.2).set j v=bW q.1 q.2):eC (w.setCell ⟨r,i*7+j,KK⟩ v) r (l.set i q):=by rw[vx i 7];exact h.set hi b a
theorem bJ.mark{w:KX}{c db:Nat}{o:ay}{l:List j8}{hand:Nat}{d:Dsk}(h:bJ w c db r z o l hand A d){v:J3}{x:cB}(hi:l[i]? = IT (v,f)){j:Nat}(k:j<7){u:J3}(C:(bW v f).set j u=bW v x)(n:x.full=f.full)(p:x.name=f.name)(e:x.k=f.k)(g:x.bytes=f.bytes):bJ (w.setCell ⟨r,i*7+j,KK⟩ u) c db r z o (l.set i (v,x)) hand A d:=by
 have B:aN (λy=>y=r\/y=z) w (w.setCell ⟨r,i*7+j,KK⟩ u):=(aN.refl _ _).setCell _ _ (.inl (.inl rfl));refine h.yS (h.row.set' hi k C) B (λ_ _ h=>h) (λy t D=>by have:=h.owned y t D;simpa using this) ?_ ?_
 .obtain⟨m,q,E⟩:=h.yR;exact⟨m,q.turn ((aN.refl (·=r) w).setCell _ _ (.inl rfl)) (ay.ne h.rC h.vT ag),E.same (cQ hi) n p e⟩
 .have a:=h.each _ (cx hi);dsimp only at a ⊢;rw[g];exact⟨((aN.refl (·=r) w).setCell ⟨r,i*7+j,KK⟩ u (.inl rfl)).ownsRow a.1 (λb s=>ay.ne (a.2 b s) h.vT ag),a.2⟩
theorem bJ.pS{w:KX}{a db:Nat}{o:ay}{l:List j8}{hand:Nat}{d:Dsk}(h:bJ w a db r z o l hand A d):o.In dt r:=⟨_,h.vT,show 7<10 by decide⟩
def WV(w:KX)(c db f b:Nat)(o:ay)(l:List j8)(hand d:Nat)(r:(Dsk×List cB)×Nat)(e:Lp)(w':KX):Prop:=
 ∃o' a,e=r.2/\bJ w' c db f b o' a hand d r.1.1/\a.map (·.2)=r.1.2/\a.length=l.length/\Fit a/\aN (o.In dt) w w'/\cX w.heap.size o o'
theorem Fit.set{l:List j8}(h:Fit l){q:j8}(b:q.2.bytes.length<=240/\q.2.k<65536):Fit (l.set i q):=λp a=>by
 rcases List.mem_or_eq_of_mem_set a with a | rfl
 .exact h p a
 .exact b
theorem RV(HW:aV){w:KX}{pb db pf:Nat}{o:ay}{l:List j8}{hand:Nat}{d:Dsk}(h:bJ w pb db r z o l hand A d)(jU:Fit l)(hs:name.size<=1000)(hp:qG w pf db name)(Gg:o pf=KK){v:J3}{base:Nat}{q:List Nat}(hv:w.ownsRow base 3 1 v q.length (q.map pG))(pD:∀b,v.ownBlock=IT b->o b=KK)(X:∀i∈q,i<l.length)(Px:q.length<=100000):K1 prog 87 #[ptrTo pb,ptrTo pf,v] w (WV w pb db r z o l hand A (oK name q d (l.map (·.2)))):=by
 have H:=ae h;have HF:=ae jU;have HP:=ae hp;have Mh:=ae Gg;have HV:=ae hv;have Ay:=ae pD;have ac:=ae X;obtain⟨va,vc,rfl⟩:=aw hv;have ce:=hp.lt;have hn:=h.most;clear h jU hp Gg hv pD X;unfold ptrTo;generalize hN:q.length=n at *;have HN:=ae hN;clear hN;go_enter func87,ntmps87;go_wp2;go_loopw [12] (λi wr=>∃(j:Nat)(d':Dsk)(E:List j8)(o':ay),j<=n/\i=j/\bJ wr pb db r z o' E hand A d'/\oK name q d (l.map (·.2))=oK name (q.drop j) d' (E.map (·.2))/\E.length=l.length/\Fit E/\aN (o.In dt) w wr/\cX w.heap.size o o') (λi _=>n-(Lo i).toNat)
 case atStart=>exact⟨0,d,l,o,em _,rfl,H.out,rfl,rfl,HF.out,aN.refl _ _,cX.refl _ _⟩
 case round=>
  obtain⟨j,d',E,o',hj,rfl,J,p,m,V,T,hg⟩:=hrel;by_cases bd:j<n
  .have kE:j<q.length:=by rw[HN.out];exact bd
   have L:∃x,q[j]? = IT x:=⟨_,bk kE⟩;obtain⟨x,L⟩:=L;have Hg:x<E.length:=by rw[m];exact ac.out x (cx L)
   obtain⟨a,c,f,hi⟩:=J.shaped.get rfl Hg;have Mj:=V _ (cx hi);obtain⟨N,P⟩:=Mj;dsimp only at N P;have I:=T.ownsRow HV.out (λb hb=>ay.eB (Ay.out b hb));have am:∃g,va=IT ⟨g,0,KK⟩/\wr.cell? ⟨g,j,KK⟩=IT (pG x):=by
    obtain⟨_,⟨U,h2⟩|⟨g,cap,al,U,h2,h3,h4,h5,h6,h7⟩⟩:=I
    .omega
    .cases U;refine⟨g,rfl,?_⟩;rw[au h3];have e:(al.toList.take (n*1))[j]? = (q.map pG)[j]? := by rw[h7]
     rw[List.getElem?_take_of_lt af,j1,L]at e;simpa using e
   obtain⟨g,rfl,aE⟩:=am;unfold pG at aE;have yU:q.drop j=x::q.drop (j+1):=by rw[List.drop_eq_getElem_cons kE];congr 1;rw[bk kE]at L;exact Option.some.inj L
   rw[yU,oK,sj (cQ hi)]at p;dsimp only at p;have R:=ae p;have F:=ae J;have HI:=ae hi;have B:=ae m;have Cp:=ae V;have S:=ae T;have Q:=ae hg;have Pm:Lk (qG wr pf db name):=ae (HP.out.kept T (ay.eB Mh.out));have aR:Lk (∀W,Lg wr wr W->K1 prog 158 #[ptrTo pf,f.k,.slice a f.bytes.length c] W λe w'=>e=(ep d' name f.k f.bytes).2/\cS W db o' (ep d' name f.k f.bytes).1 w'):=ae (λW Z=>Ma HW (J.l6.below Z) (Pm.out.below Z) hs f.k P _ f.bytes N (fp (aB (J.each _ (cx hi)).1 Z)))
   have co:x<l.length:=by rw[<- m];exact Hg
   have s:Lk (∀W,Lg wr wr W->(W.cell? ⟨pb,1,KK⟩=IT (.slice r l.length l.length)/\W.cell? ⟨r,x*7+2,KK⟩=f.k/\W.cell? ⟨r,x*7+3,KK⟩=IT (.slice a f.bytes.length c))):=ae (λW Z=>by have U:=J.below Z;obtain⟨⟨-,g1,-⟩,-⟩:=U.head.cells;obtain⟨-,-,g2,g3,-⟩:=U.row.seven hi;rw[m]at g1;exact⟨g1,g2,g3⟩)
   clear p J hi m V T hg L Hg I yU;unfold ptrTo at aR;generalize (ep d' name f.k f.bytes).1=d2 at *;generalize (ep d' name f.k f.bytes).2=cc at *;by_cases O:cc=0
   .subst O;have Y:oK name q d (l.map (·.2))=oK name (q.drop (j+1)) d2 ((E.map (·.2)).set x { f with cu:=J0 }):=by rw[R.out,if_neg ai]
    have WW:=ae Y;clear Y R;go_wp2;refine cW (Lg wr wr) 18 rfl ah ah (aq.drew) ?_;simp only[ii,j2];iterate 4 (refine qz ?_)
    refine qz ?_ (λw' k=>by have K:=(s.out w' k).1;go_simp<;>rfl);iterate 4 (refine qz ?_)
    refine qz ?_ (λw' k=>by have K:=(s.out w' k).2.1;go_simp<;>rfl);iterate 3 (refine qz ?_)
    refine qz ?_ (λw' k=>by have K:=(s.out w' k).1;go_simp<;>rfl);iterate 3 (refine qz ?_)
    refine qz ?_ (λw' k=>by have K:=(s.out w' k).2.2;go_simp<;>rfl);refine wpQuiet_nil ?_;intro w3 D;refine⟨_,_,rfl,(by go_simp<;>exact⟨rfl,rfl⟩),?_⟩;go_call(aR.out _ D) as e w4⟨rfl,r7⟩;obtain⟨o2,RT,G,C⟩:=cS.after D r7;have M:=ae (F.out.DL RT G C);have mE:=ae (S.out.owned Q.out G.bh);have FK:=ae (Q.out.trans C S.out.size);clear RT G C r7 D;obtain⟨⟨-,g1,-⟩,-⟩:=M.out.head.cells;rw[B.out]at g1;obtain⟨-,-,-,-,-,g5,-⟩:=M.out.row.seven HI.out;have gz:=M.out.row.free (x*7+5);refine⟨_,rfl,?_⟩;go_simp;refine qz ?_;refine wpQuiet_nil ?_;go_wp2;go_roundw
    case rel=>have hm:=M.out.mark (j:=5) (u:=.bool J0) (x:={ f with cu:=J0 }) HI.out ag rfl rfl rfl rfl rfl;refine⟨j+1,d2,_,o2,af,by go_num,hm,by rw[WW.out,map_set],by rw[k9];exact B.out,Cp.out.set ⟨N,P⟩,?_,FK.out⟩;exact mE.out.trans ((aN.refl (o2.In dt) w4).setCell ⟨r,x*7+5,KK⟩ (.bool J0) (.inl M.out.pS)) (λy hy ⟨t,pF,G⟩=>⟨t,by rw[<- FK.out y hy];exact pF,G⟩)
    case measure=>simp[Lo];omega
   .have Y:oK name q d (l.map (·.2))=((d2,E.map (·.2)),cc):=by rw[R.out,if_pos O]
    have WW:=ae Y;have ci:¬(cc:Int)=0:=af;clear Y R O;go_wp2;refine cW (Lg wr wr) 18 rfl ah ah (aq.drew) ?_;simp only[ii,j2];iterate 4 (refine qz ?_)
    refine qz ?_ (λw' k=>by have K:=(s.out w' k).1;go_simp<;>rfl);iterate 4 (refine qz ?_)
    refine qz ?_ (λw' k=>by have K:=(s.out w' k).2.1;go_simp<;>rfl);iterate 3 (refine qz ?_)
    refine qz ?_ (λw' k=>by have K:=(s.out w' k).1;go_simp<;>rfl);iterate 3 (refine qz ?_)
    refine qz ?_ (λw' k=>by have K:=(s.out w' k).2.2;go_simp<;>rfl);refine wpQuiet_nil ?_;intro w3 D;refine⟨_,_,rfl,(by go_simp<;>exact⟨rfl,rfl⟩),?_⟩;go_call(aR.out _ D) as e w4⟨rfl,r7⟩;obtain⟨o2,RT,G,C⟩:=cS.after D r7;have M:=ae (F.out.DL RT G C);have mE:=ae (S.out.owned Q.out G.bh);have FK:=ae (Q.out.trans C S.out.size);clear RT G C r7 D;refine⟨_,rfl,?_⟩;go_simp;refine qz ?_;refine wpQuiet_nil ?_;go_wp2;go_ret;rw[WW.out];exact⟨o2,E,rfl,M.out,rfl,B.out,Cp.out,mE.out,FK.out⟩
  .obtain rfl:j=n:=af
   have yU:q.drop j=[]:=List.drop_eq_nil_of_le (by rw[HN.out];exact cg _);rw[yU,oK]at p;have R:=ae p;have F:=ae J;have B:=ae m;have Cp:=ae V;have S:=ae T;have Q:=ae hg;clear p J m V T hg yU;go_wp2;go_ret;rw[R.out];exact⟨o',E,rfl,F.out,rfl,B.out,Cp.out,S.out,Q.out⟩
theorem Sound.fit{d:Dsk}{fs:List cB}(h:Sound d fs L):∀a∈fs,a.bytes.length<=240/\a.k<65536:=λa b=>by
 cases c:a.full with
 |false=>rw[h.blank a b c];exact⟨by simp[cB.none],by simp[cB.none]⟩
 |true=>obtain⟨ps,fl,g,e⟩:=h.frames a b c;obtain⟨f,i,q⟩:=h.ej _ _ _ g;have:=aK e;have:=q.most;exact⟨q.short _ (cx e),af⟩
theorem Sound.AA{d:Dsk}{l:List j8}(h:Sound d (l.map (·.2)) L):Fit l:=λp a=>h.fit p.2 (gl.2 ⟨p,a,rfl⟩)
theorem Sound.DR{d:Dsk}{fs:List cB}(h:Sound d fs L){n:Name}(e:aI L n=IT (.inl (ps,fl))) :
 ∃f b,dZ d fs n ps fl f b/\(d.dead=J0->d.sizeOf n=(256*b.length,0)/\dw d n=0)/\(d.dead=Jd->d.sizeOf n=(0,6)/\dw d n=6):=by
 obtain⟨f,b,q⟩:=h.ej _ _ _ e;have a:=Dsk.Hu (h.ok n (by rw[e];rfl)) q.get;have g:f.now.length=256*b.length:=by rw[q.now,dM _ q.Gk]
 refine⟨f,b,q,λc=>?_,λc=>?_⟩
 .rw[c,if_neg ai,g]at a;refine⟨a,?_⟩;unfold dw;rw[a];simp
 .rw[c,if_pos rfl]at a;refine⟨a,?_⟩;unfold dw;rw[a];simp
theorem Told.length_le{fs:List cB}{a:List Nat}(t:Told fs name lo hi a):a.length<=fs.length:=by
 have d:a.Perm ((kk fs.length).filter (λx=>decide (x∈a))):=by refine(List.perm_ext_iff_of_nodup t.nodup (List.nodup_range.filter _)).2 λx=>?_;rw[sR,j3,decide_eq_true_eq];refine⟨λb=>⟨?_,b⟩,λb=>b.2⟩;obtain⟨e,c,_⟩:=(t.mem x).1 b;exact aK c
 have c:=kq (λx=>decide (x∈a)) (kk fs.length);rw[d.length_eq];simpa using c
theorem bO{n:Name}(h:b6 n=Jd):n.size<=1000:=Nm (LA h)
def uU(fs c:List cB):Prop:=c.length=fs.length/\∀(i:Nat)(a:cB),fs[i]? = IT a->∃b,c[i]? = IT { a with cu:=b }/\(b=Jd->a.cu=Jd)
theorem uU.refl(fs:List cB):uU fs fs:=⟨rfl,λ_ a h=>⟨a.cu,h,id⟩⟩
def WX(w:KX)(g db j f:Nat)(o:ay)(l:List j8)(hand h:Nat)(d:Dsk)(L:aL)(i:Nat)(e:Lp)(w':KX):Prop:=
 ∃o' a d' c,e=Mk (Kx Mm ((c:Nat):Int))/\bJ w' g db j f o' a hand h d'/\Sound d' (a.map (·.2)) L/\cd d d'/\uU (l.map (·.2)) (a.map (·.2))/\(c=0\/om d d' L c) /\
  (c=0->∃b,(a.map (·.2))[i]? = IT b/\b.cu=J0)/\aN (o.In dt) w w'/\cX w.heap.size o o'
theorem WY(HW:aV){w:KX}{K db:Nat}{o:ay}{l:List j8}{hand:Nat}{d:Dsk}(h:bJ w K db r z o l hand A d)(y:Sound d (l.map (·.2)) L){v:J3}(hi:l[i]? = IT (v,f))(gS:f.full=Jd)(iU:f.cu=Jd):K1 prog 235 #[ptrTo K,Kx Mm (i:Int)] w (WX w K db r z o l hand A d L i):=by
 obtain⟨i0,tj,V,al,aE⟩:=info_parts Mf;obtain⟨ps,fl,N,I6⟩:=y.frames f (cx (cQ hi)) gS;obtain⟨df,dp,q,R,mO⟩:=y.DR N;have gu:=bO (y.ok f.name (by rw[N];rfl));have Y:=y.AA;have ci:=(Y _ (cx hi)).2;have oL:i<l.length:=aK hi;have hn:=h.most;have H:=ae h;have X:=ae y;have HI:=ae hi;have HQ:=ae q;have Cp:=ae Y;have HL:=ae N;have yV:=ae gS;have DT:=ae iU;have s:(w.cell? ⟨K,1,KK⟩=IT (.slice r l.length l.length)/\w.cell? ⟨r,i*7+1,KK⟩=IT (.string f.name)/\w.cell? ⟨r,i*7+2,KK⟩=f.k):=by obtain⟨⟨-,g1,-⟩,-⟩:=h.head.cells;obtain⟨-,g2,g3,-⟩:=h.row.seven hi;exact⟨g1,g2,g3⟩
 obtain⟨de,du,en⟩:=s;have aR:Lk (∀W,Lg w w W->K1 prog 86 #[ptrTo K,.string f.name] W (DN W db d f.name)):=ae (λW hW=>xK (h.below hW) f.name gu);have Jw:=ae (mg h.l6 f.name).1;clear h y hi q Y N gS iU I6;dsimp only at ci;unfold ptrTo at *;generalize hN:l.length=n at *;have HN:=ae hN;clear hN;cases J:d.dead with
 |true=>
   obtain⟨-,C⟩:=mO J;have P:=ae C;have HD:=ae J;clear J C R mO;go_enter func235,ntmps235;go_wp2;go_quiet (fail)
   go_wp2_with fail;go_call(aR.out _ (below_drewN aq _)) as e w1⟨v1,n1,rfl,hb1,-⟩;rw[P.out];have E:Lg w w w1:=(below_drewN aq _).trans hb1;have c:=ae E;clear E hb1;go_wp2;go_ret;exact⟨o,l,d,6,rfl,H.out.below c.out,X.out,cd.refl d,uU.refl _,.inr (.inr ⟨rfl,HD.out⟩),λh=>absurd h ag,aN.aZ c.out,cX.refl _ _⟩
 |false=>
   obtain⟨G,C⟩:=R J;have P:=ae C;have ac:=ae G;clear J C R mO G;go_enter func235,ntmps235;go_wp2;go_quiet (fail)
   go_wp2_with fail;go_call(aR.out _ (below_drewN aq _)) as e w1⟨v1,n1,rfl,hb1,hy⟩;obtain⟨tQ,M,rfl,Q,B⟩:=hy P.out;rw[P.out];rw[ac.out]at tQ;have E:Lg w w w1:=(below_drewN aq _).trans hb1;have c:=ae E;have WS:=ae Q;have T:w.heap.size<=M:=by simpa using B
   have Cm:Lk (n1=dp.length):=ae (by dsimp only at tQ;omega);clear E hb1 Q tQ hy B;unfold ptrTo;have jL:=ae (Hy (H.out.below c.out) (λp Q=>(Cp.out p Q).2) f.name n1 f.k);unfold ptrTo at jL;go_wp2_with fail;go_call jL.out as e w2⟨v2,ls,rfl,mK,DU,hb2⟩;obtain⟨a2,c2,rfl⟩:=aw mK;have cA:=ae (c.out.trans (hb2.mono c.out.size));have tq:=ae mK;have HT:=ae DU;have el:ls.length<=n:=by have a:=DU.length_le;rw[dj,HN.out]at a;exact a
   have WZ:=ae (WS.out.below hb2);have ee:w.heap.size<=w2.heap.size:=cA.out.size;have dl:w1.heap.size<=w2.heap.size:=hb2.size;clear mK DU hb2;go_wp2_with (at_builtin;refine wpList_append_own _ rfl _ _ 180 rfl w1.heap.size 3 i0 (Kx Mm 0) 1 8 Tryz.underlying180 tj V al aE rfl ag _ _ _ rfl (tq.out.alloc _) ⟨w2.heap.size,0,KK⟩ 1 1 [pG i] rfl rfl ?c1 ?c2 ?c3 ?c4 ?c5 ?_);case c1=>
    intro j u I;match j,I with
    |0,I=>cases I;simp[br,pG]
   case c2=>simp[pG,qn]
   case c3=>unfold maxLen;omega
   case c4=>omega
   case c5=>simp;omega
   intro v3 w3 U g _;have Z:Lk (Lg w w w3):=ae ((cA.out.alloc cA.out.size _).grown g (by simp;omega) (λk hk=>No (aD tq.out k hk) c.out.size));have F:Lk (w3.ownsRow w1.heap.size 3 1 v3 (ls++[i]).length ((ls++[i]).map pG)):=ae (by simpa using U);have am:Lk (qG w3 M db f.name):=ae (by obtain⟨t,ht⟩:=WZ.out;have dq:=WS.out.lt;have ce:=WZ.out.lt;refine⟨t,?_⟩;rw[g.block M (by simp;omega) (λe=>Nm (aD tq.out M e.symm)),(MapKept.heap_alloc _ _).2 M ce];exact ht)
   obtain⟨a3,c3,rfl⟩:=aw U;clear U g;have D:∀x∈ls++[i],x<l.length:=λx m=>by
    rcases List.mem_append.1 m with m | m
    .obtain⟨fr,a,_⟩:=(HT.out.mem x).1 m;have:=aK a;rwa [dj]at this
    .rw[List.mem_singleton.1 m,HN.out];exact oL
   have S:=ae (RV HW (H.out.below Z.out) Cp.out gu am.out (fN H.out.owned T) F.out (λb hb=>fN H.out.owned (No (aD F.out b hb) c.out.size)) D (by simp;omega));obtain⟨d',tP,ec,hr,FI,vQ,yX,yY,he⟩:=Sound.aaV HL.out (ls++[i]) d (l.map (·.2)) df dp X.out HQ.out (by have a:=HT.out;rw[Cm.out]at a;exact a.WG X.out (cQ HI.out) yV.out DT.out)
   rw[hr]at S;have bd:=ae FI;have co:=ae vQ;have Xa:=ae yX;have RX:=ae yY;have HE:=ae he;unfold ptrTo at S;clear hr FI vQ yX yY he D;go_wp2_with fail;go_call S.out as e w4⟨o',l',rfl,r7,hl4,RY,Xb,yH,hg4⟩;dsimp only at hl4 r7;have BF:=ae r7;have O:=ae hl4;have zX:=ae ((aN.aZ Z.out).trans yH (λ_ _ h=>h):aN (o.In dt) w w4);have H7:Lk (cX w.heap.size o o'):=ae (λx m=>hg4 x (eg m Z.out.size));clear r7 hl4 RY Xb yH hg4;go_wp2;go_ret;refine⟨o',l',d',ec,rfl,BF.out,by rw[O.out];exact bd.out,co.out,⟨by rw[O.out];exact Xa.out,λj fr I=>?_⟩,HE.out,λhc=>?_,zX.out,H7.out⟩
   .obtain⟨dd,a,h2,_⟩:=RX.out j fr I;exact⟨dd,by rw[O.out];exact a,h2⟩
   .obtain⟨dd,a,_,_,h4⟩:=RX.out i f (cQ HI.out);exact⟨_,by rw[O.out];exact a,h4 hc ai⟩
def pT(fs a:List cB):Prop:=a.length=fs.length/\∀(j:Nat)(x:cB),a[j]? = IT x->x.full=Jd->∃y,fs[j]? = IT y/\y.full=Jd/\y.name=x.name/\y.k=x.k
theorem pT.refl(fs:List cB):pT fs fs:=⟨rfl,λ_ x h a=>⟨x,h,a,rfl,rfl⟩⟩
theorem pT.trans{a b c:List cB}(h:pT a b)(k:pT b c):pT a c:=⟨k.1.trans h.1,λj x n m=>by obtain⟨y,i,l,d,e⟩:=k.2 j x n m;obtain⟨z,p,g,f,o⟩:=h.2 j y i l;exact⟨z,p,g,f.trans d,o.trans e⟩⟩
def oO(fs a:List cB):Prop:=a.length=fs.length/\∀(j:Nat)(x:cB),fs[j]? = IT x->∃u,a[j]? = IT { x with used:=u }
theorem oO.refl(fs:List cB):oO fs fs:=⟨rfl,λ_ x h=>⟨x.used,h⟩⟩
theorem oO.H8{fs:List cB}(h:oO fs g):pT fs g:=⟨h.1,λj x a d=>by
 have c:j<fs.length:=by rw[<- h.1];exact aK a
 obtain⟨u,b⟩:=h.2 j fs[j] (bk c);rw[a]at b;cases b;exact⟨fs[j],bk c,d,rfl,rfl⟩⟩
theorem uU.H8{fs:List cB}(h:uU fs g):pT fs g:=⟨h.1,λj x a d=>by
 have c:j<fs.length:=by rw[<- h.1];exact aK a
 obtain⟨u,b,_⟩:=h.2 j fs[j] (bk c);rw[a]at b;cases b;exact⟨fs[j],bk c,d,rfl,rfl⟩⟩
theorem pT.none{fs:List cB}(hi:i<fs.length):pT fs (fs.set i cB.none):=⟨k9,λj x a b=>by
 rw[gF hi]at a;by_cases e:j=i
 .rw[if_pos e]at a;cases a;cases b
 .rw[if_neg e]at a;exact⟨x,a,b,rfl,rfl⟩⟩
theorem oO.set{fs:List cB}(h:oO fs g){x:cB}(hi:g[i]? = IT x)(u:Bool):oO fs (g.set i { x with used:=u }):=⟨List.length_set.trans h.1,λj y b=>by
 obtain⟨v,a⟩:=h.2 j y b;rw[gF (aK hi)];by_cases e:j=i
 .subst e;rw[a]at hi;cases hi;exact⟨u,by rw[if_pos rfl]⟩
 .exact⟨v,by rw[if_neg e];exact a⟩⟩
theorem oO.sound{d:Dsk}{fs:List cB}(h:oO fs g)(j:Sound d fs L)(a:∀k∈fs,k.full=Jd):Sound d g L:=
 j.used h.1 λi f l hi b=>by obtain⟨u,c⟩:=h.2 i f hi;rw[b]at c;cases c;exact⟨rfl,λe=>by rw[a f (cx hi)]at e;cases e⟩
def Xc(w:KX)(g db j b:Nat)(o:ay)(l:List j8)(h:Nat)(d:Dsk)(L:aL)(e:Lp)(w':KX):Prop:=
 ∃o' a f d' c i,e=Mk (Ly #[Kx Mm ((i:Nat):Int),Kx Mm ((c:Nat):Int)])/\bJ w' g db j b o' a f h d'/\Sound d' (a.map (·.2)) L/\cd d d'/\(c=0\/om d d' L c) /\
  (c=0->∃p,a[i]? = IT p/\p.2.full=J0)/\pT (l.map (·.2)) (a.map (·.2))/\aN (o.In dt) w w'/\cX w.heap.size o o'
theorem Ts(i n:Nat):((i:Int)+1)%(n:Int)=(((i+1)%n:Nat):Int):=by rw[vK];rfl
def afe(fs:List cB)(k:Nat):Prop:=∀(j:Nat)(x:cB),j<k->fs[j]? = IT x->x.full=Jd
theorem Ml(HW:aV){w:KX}{v db:Nat}{o:ay}{l:List j8}{hand:Nat}{d:Dsk}(h:bJ w v db r z o l hand A d)(hg:Sound d (l.map (·.2)) L):K1 prog 198 #[ptrTo v] w (Xc w v db r z o l A d L):=by
 have H:=ae h;have HG:=ae hg;have Aw:=ae h.row;have hn:=h.most;have HS:=ae h.shaped;have Mg:=h.hand;have Tp:=h.head.lt;obtain⟨⟨-,g,-,E,-⟩,-⟩:=h.head.cells;clear h hg;unfold ptrTo;generalize hN:l.length=n at *;have HN:=ae hN;clear hN;go_enter func198,ntmps198;go_wp2;go_step3
 go_wp2;go_loopw [15] (λi wr=>∃k:Nat,k<=n/\i=k/\afe (l.map (·.2)) k/\Lg w w wr) (λi _=>n-(Lo i).toNat)
 case atStart=>exact⟨0,em _,rfl,λj x hj=>absurd hj (Dc j),kp _ _⟩
 case round=>
  obtain⟨k,hk,rfl,J,T⟩:=hrel;by_cases F:k<n
  .obtain⟨a,c,f,hi⟩:=HS.out.get HN.out F;obtain⟨h0,y,K,h3,h4,h5,h6⟩:=(Aw.out.below T).seven hi;have Du:wr.cell? ⟨v,1,KK⟩=IT (.slice r n n):=by rw[T.cell (p:=⟨v,1,KK⟩) Tp];exact g
   have O:=ae T;have Xe:=ae J;have B:=ae hi;clear hi T J;cases I:f.full with
   |false=>rw[I]at h0;have R:=ae I;clear I;go_wp2;rw[Exit.noGoto_ret];go_ret2;exact⟨o,l,hand,d,0,k,rfl,H.out.below (O.out.alloc O.out.size _),HG.out,cd.refl d,.inl rfl,λ_=>⟨_,B.out,R.out⟩,pT.refl _,aN.aZ (O.out.alloc O.out.size _),cX.refl _ _⟩
   |true=>
     rw[I]at h0;have R:=ae I;clear I;go_wp2;go_roundw
     case rel=>
      refine⟨k+1,af,by go_num,λj x hj q=>?_,O.out.alloc O.out.size _⟩;by_cases e:j=k
      .subst e;rw[cQ B.out]at q;cases q;exact R.out
      .exact Xe.out j x af q
     case measure=>simp[Lo];omega
  .obtain rfl:k=n:=af
   have N:∀Z∈l.map (·.2),Z.full=true:=λZ ew=>by obtain⟨j,hj⟩:=List.mem_iff_getElem?.1 ew;exact J j Z (by have:=aK hj;rw[dj,HN.out]at this;exact this) hj
   have np:=ae N;have H1:=ae (H.out.below T);have O:=ae T;clear J T N g E;obtain⟨⟨-,g,-,E,-⟩,-⟩:=H1.out.head.cells;rw[HN.out]at g;go_wp2;go_step3
   go_wp2;generalize wr=W1 at *;go_loopw [6,35] (λi c wr=>∃(C b:Nat)(P:List j8),C<=2*k/\c=C/\i=b/\b=(hand+C)%k/\bJ wr v db r z o P hand A d/\oO (l.map (·.2)) (P.map (·.2)) /\
    (∀s,s<C->∀x,(P.map (·.2))[(hand+s)%k]? = IT x->x.used=J0)/\aN (·=r) W1 wr) (λ_ c _=>2*k-(Lo c).toNat)
   case atStart=>exact⟨0,hand,l,af,rfl,rfl,(DQ Mg).symm,H1.out,oO.refl _,λs hs=>absurd hs (Dc s),aN.refl _ _⟩
   case round=>
    obtain⟨C,b,P,gE,rfl,rfl,W,mF,Y,ee,rY⟩:=hrel;have tu:P.length=k:=by have:=Y.1;rw[dj,dj,HN.out]at this;exact this
    have G:b<k:=by rw[W];exact Hc _ af
    obtain⟨a,c,f,hi⟩:=mF.shaped.get tu G;obtain⟨h0,y,K,h3,h4,h5,h6⟩:=mF.row.seven hi;have hz:=mF.row.free (b*7+6);obtain⟨⟨-,g,-,E,-⟩,-⟩:=mF.head.cells;rw[tu]at g;have hm:=Ts b k;have X:=ae W;have rD:=ae mF;have D:=ae Y;have ac:=ae ee;have mE:=ae rY;have DV:=ae tu;have B:=ae hi;have HM:=ae hm;clear W mF Y ee rY tu hi hm;by_cases Xf:C<2*k/\f.used=Jd
    .obtain⟨F,S⟩:=Xf;rw[S]at h6;clear S;go_wp2;go_roundw
     case rel=>
      have yY:=rD.out.mark (j:=6) (u:=.bool J0) (x:={ f with used:=J0 }) B.out ag rfl rfl rfl rfl rfl;refine⟨C+1,(b+1)%k,_,af,by go_num,?_,?_,yY,?_,?_,mE.out.setCell _ _ (.inl rfl)⟩
      .rw[HM.out]
      .rw[X.out,Nat.mod_add_mod,Nat.add_assoc]
      .rw[map_set];exact D.out.set (cQ B.out) J0
      .intro s hs x q;rw[map_set,gF (by rw[dj,DV.out];exact G)]at q;by_cases e:(hand+s)%k=b
       .rw[if_pos e]at q;cases q;rfl
       .rw[if_neg e]at q;refine ac.out s ?_ x q;rcases lb s C with h | h
        .exact h
        .obtain rfl:s=C:=af
         exact absurd X.out.symm e
     case measure=>simp[Lo];omega
    .have LB:f.used=false:=by
      by_cases F:C<2*k
      .cases S:f.used with
       |false=>rfl
       |true=>exact absurd ⟨F,S⟩ Xf
      .obtain rfl:C=2*k:=af
       refine ac.out 0 af f ?_;have e1:b=hand:=by rw[X.out,vx,Nat.add_mul_mod_self_left,DQ Mg]
       rw[Nat.add_zero,DQ Mg,<- e1];exact cQ B.out
     rw[LB]at h6;clear Xf LB;have I:f.full=true:=by
      have hl:b<(l.map (·.2)).length:=by rw[dj,HN.out];exact G
      obtain⟨u,S⟩:=D.out.2 b _ (bk hl);rw[cQ B.out]at S;have e:=Option.some.inj S;dsimp only at e;have y:=np.out _ (rM hl);rw[e];exact y
     have VG:Lk (Sound d (P.map (·.2)) L):=ae (D.out.sound HG.out np.out);have U:Lk (aN (o.In dt) w wr):=ae ((aN.aZ O.out).trans mE.out (λx _ e=>e▸H.out.pS));have R:=ae I;have gx:f.name.size<=1000/\f.k<9223372036854775808:=by obtain⟨ps,fl,hL,Dq⟩:=VG.out.frames f (cx (cQ B.out)) I;have:=(VG.out.AA _ (cx B.out)).2;exact⟨bO (VG.out.ok f.name (by rw[hL];rfl)),by dsimp only at this;omega⟩
     obtain⟨el,al⟩:=gx;clear I;cases iU:f.cu with
     |false=>
       rw[iU]at h5;have DT:=ae iU;clear iU;by_cases F:C<2*k;all_goals
        go_wp2_with fail;go_call(Ax (rD.out.below aj) B.out R.out el al) as e w6⟨rfl,hp6,ht6⟩;have m:=ae hp6;have Wz:=ae ht6;clear hp6 ht6;obtain⟨⟨-,g,-⟩,dq,-⟩:=m.out.head.cells;obtain⟨⟨-,-,-,E,-⟩,-⟩:=m.out.head.cells;rw[k9,DV.out]at g;go_wp2;rw[Exit.noGoto_ret];go_ret2;rw[HM.out];have oL:b<P.length:=aK B.out;refine⟨o,P.set b (.slice KK 0 0,cB.none),(b+1)%k,d,0,b,rfl,m.out.Al ((aN.refl (·=v) w6).setCell ⟨v,3,KK⟩ _ (.inl rfl)) (m.out.head.Jp _) (by rw[k9,DV.out];exact Hc _ af) m.out.full,?_,cd.refl d,.inl rfl,λ_=>⟨(.slice KK 0 0,cB.none),by rw[gF oL,if_pos rfl],rfl⟩,?_,?_,cX.refl _ _⟩
        .rw[map_set];exact VG.out.reset (cQ B.out) DT.out rfl (.inl rfl)
        .rw[map_set];exact D.out.H8.trans (pT.none (by rw[dj];exact oL))
        .refine((U.out.alloc _).trans (Wz.out.mono (S':=o.In dt) (λx _ e=>e.elim (λe=>e▸m.out.pS) (λe=>e ▸ ⟨_,m.out.rC,show 8<10 by decide⟩))) ?_).trans ((aN.refl (o.In dt) w6).setCell ⟨v,3,KK⟩ _ (.inl ⟨_,m.out.Cn,show 6<10 by decide⟩)) ?_;all_goals
          intro x q ⟨t,y,K⟩;exact⟨t,by exact y,K⟩
     |true=>
       rw[iU]at h5;have DT:=ae iU;clear iU;by_cases F:C<2*k;all_goals
        go_wp2_with fail;go_call(WY HW (rD.out.below aj) VG.out B.out R.out DT.out) as e w5⟨o5,l5,d5,c5,rfl,K8,Pr,aiZ,aff,Py,ai0,vG,Gn⟩;have R1:=ae K8;have ci:=ae Pr;have dl:=ae aiZ;have V:=ae aff;have Mn:=ae Py;have gt:=ae ai0;have bd:Lk (aN (o.In dt) w w5):=ae ((U.out.alloc _).trans vG (λ_ _ h=>h));have M:Lk (cX w.heap.size o o5):=ae (λx q=>Gn x (by have:=U.out.size;simp;omega));have am:l5.length=k:=by have:=aff.1;rw[dj,dj,DV.out]at this;exact this
        have R3:=ae am;clear K8 Pr aiZ aff Py ai0 vG Gn am;by_cases BI:c5=0
        .subst BI;have ff:∃v5 Q,l5[b]? = IT (v5,Q)/\Q.full=Jd/\Q.cu=J0/\Q.name=f.name/\Q.k=f.k:=by
          obtain⟨Z,y,K⟩:=gt.out rfl;obtain⟨dd,g1,_⟩:=V.out.2 b f (cQ B.out);rw[y]at g1;have e:=Option.some.inj g1;have VH:b<l5.length:=by rw[R3.out];exact G
          have e2:l5[b].2=Z:=by rw[j1,bk VH]at y;exact Option.some.inj y
          refine⟨l5[b].1,Z,by rw[bk VH,<- e2],?_,K,by rw[e],by rw[e]⟩;rw[e];exact R.out
         obtain⟨v5,Q,R4,ce,aE,co,du⟩:=ff;have de:=ae R4;have fm:=ae aE;have eS:Q.name.size<=1000:=by rw[co];exact el
         have en:Q.k<9223372036854775808:=by rw[du];exact al
         have fI:=ae (Ax R1.out R4 ce eS en);clear R4 aE ce co du;go_wp2_with fail;go_call fI.out as e w6⟨rfl,hp6,ht6⟩;have m:=ae hp6;have Wz:=ae ht6;clear hp6 ht6;obtain⟨⟨-,g,-⟩,dq,-⟩:=m.out.head.cells;obtain⟨⟨-,-,-,E,-⟩,-⟩:=m.out.head.cells;rw[k9,R3.out]at g;go_wp2;rw[Exit.noGoto_ret];go_ret2;rw[HM.out];have oL:b<l5.length:=aK de.out;refine⟨o5,l5.set b (.slice KK 0 0,cB.none),(b+1)%k,d5,0,b,rfl,m.out.Al ((aN.refl (·=v) w6).setCell ⟨v,3,KK⟩ _ (.inl rfl)) (m.out.head.Jp _) (by rw[k9,R3.out];exact Hc _ af) m.out.full,?_,dl.out,.inl rfl,λ_=>⟨(.slice KK 0 0,cB.none),by rw[gF oL,if_pos rfl],rfl⟩,?_,?_,M.out⟩
         .rw[map_set];exact ci.out.reset (cQ de.out) fm.out rfl (.inl rfl)
         .rw[map_set];exact(D.out.H8.trans V.out.H8).trans (pT.none (by rw[dj];exact oL))
         .refine(bd.out.trans (Wz.out.mono (S':=o5.In dt) (λx _ e=>e.elim (λe=>e▸m.out.pS) (λe=>e ▸ ⟨_,m.out.rC,show 8<10 by decide⟩))) ?_).trans ((aN.refl (o5.In dt) w6).setCell ⟨v,3,KK⟩ _ (.inl ⟨_,m.out.Cn,show 6<10 by decide⟩)) ?_;all_goals
           intro x q ⟨t,y,K⟩;exact⟨t,by first | (rw[<- M.out x q];exact y) | exact y,K⟩
        .have io:¬(c5:Int)=0:=af;obtain⟨⟨-,-,-,E,-⟩,dq,-⟩:=R1.out.head.cells;have Tt:=ae BI;clear BI;go_wp2;rw[Exit.noGoto_ret];go_ret2;refine⟨o5,l5,b,d5,c5,0,rfl,R1.out.Al ((aN.refl (·=v) w5).setCell ⟨v,3,KK⟩ _ (.inl rfl)) (R1.out.head.Jp _) (by rw[R3.out];exact G) R1.out.full,ci.out,dl.out,Mn.out,λh=>absurd h Tt.out,D.out.H8.trans V.out.H8,?_,M.out⟩;exact bd.out.trans ((aN.refl (o5.In dt) w5).setCell ⟨v,3,KK⟩ _ (.inl ⟨_,R1.out.Cn,show 6<10 by decide⟩)) (λx q ⟨t,y,K⟩=>⟨t,by rw[<- M.out x q];exact y,K⟩)
theorem Gp(name:Name){B:Nat}(fs:List cB)(h:∀f∈fs,f.full=Jd->f.cu=Jd->f.name=name->f.k<B):∀a,a<=B->fW name a fs<=B:=by
 induction fs with
 |nil=>intro a c;exact c
 |cons f fs d=>
   intro a c;have i:=h f ai;unfold fW at d ⊢;rw[List.foldl_cons];refine d (λg e=>h g (by simp[e])) _ ?_;unfold jF;split
   .rename_i b
    have:=i b.1 b.2.1 b.2.2;omega
   .exact c
theorem yZ(name:Name)(fs:List cB):∀a,a<=fW name a fs:=by
 induction fs with
 |nil=>intro a;exact cg _
 |cons f fs b=>intro a;unfold fW at b ⊢;rw[List.foldl_cons];refine cp ?_ (b _);unfold jF;split<;>omega
theorem Gq(name:Name)(fs:List cB)(a:f∈fs)(e:f.full=Jd)(h:f.cu=Jd)(d:f.name=name):∀b,f.k+1<=fW name b fs:=by
 induction fs with
 |nil=>cases a
 |cons g fs c=>
   intro b;unfold fW at c ⊢;rw[List.foldl_cons];rcases List.mem_cons.1 a with rfl | a
   .refine cp ?_ (yZ name fs _);unfold jF;rw[if_pos ⟨e,h,d⟩];omega
   .exact c a _
theorem Sound.fW{d:Dsk}{fs:List cB}(h:Sound d fs L){n:Name}(s:aI L n=IT (.inl (ps,fl))){f:bY}(q:dZ d fs n ps fl f m):fW n m.length fs=ps.length:=by
 refine Nat.le_antisymm (Gp n fs (λg o b _ c=>?_) _ q.le) ?_
 .obtain⟨u,w,a,p⟩:=h.frames g o b;rw[c,s]at a;cases a;exact aK p
 .rcases Nat.eq_or_lt_of_le q.le with e | l
  .rw[<- e];exact yZ _ _ _
  .rcases q.each (ps.length-1) af with b |⟨j,g,t,k,i,r,v⟩
   .omega
   .have:=Gq n fs (cx t) k i r m.length;omega
def fA(d:Dsk)(ps:List Pg):Nat×Nat:=if d.dead=Jd then (0,6) else (ps.length,0)
theorem ug{w:KX}{g db:Nat}{o:ay}{l:List j8}{hand:Nat}{d:Dsk}(h:bJ w g db r z o l hand A d)(a:Sound d (l.map (·.2)) L)(c:aI L name=IT (.inl (ps,fl))):K1 prog 75 #[ptrTo g,.string name] w λe w'=>e=Mk (Ly #[(fA d ps).1,(fA d ps).2])/\Lg w w w':=by
 obtain⟨f,i,q,j,k⟩:=a.DR c;refine(Hw h (λp n=>(a.AA p n).2) name (bO (a.ok name (by rw[c];rfl)))).mono ?_;rintro e w'⟨rfl,m⟩;refine⟨?_,m⟩;unfold fA;cases b:d.dead with
 |true=>rw[(k b).2];rfl
 |false=>rw[(j b).2,(j b).1,if_pos rfl,show 256*i.length/256=i.length by omega,a.fW c q];rfl
theorem Sound.read{d:Dsk}{fs:List cB}(h:Sound d fs L){n:Name}(p:aI L n=IT (.inl (ps,fl))){f:bY}(q:dZ d fs n ps fl f m)(l:d.dead=J0){k:Nat}{b:Pg}(i:ps[k]? = IT b)(c:¬fU fs n k):k<m.length/\d.read n (256*k) 256=(cP (fO n) k b,0):=by
 have j:=aK i;rcases q.each k j with⟨a,g⟩| a
 .refine⟨a,?_⟩;have o:b6 n=true:=h.ok n (by rw[p];rfl);unfold Dsk.read;rw[l,if_neg ai,o,if_neg ai,q.get];dsimp only;rw[q.now,Gj q.Gk a,Nat.zero_add];have e:m[k]=b:=by rw[i,bk a]at g;exact Option.some.inj g
  rw[e]
 .exact absurd a c
theorem Sound.mark{d:Dsk}{fs:List cB}(h:Sound d fs L){x:cB}(hi:fs[i]? = IT x)(g:x.full=Jd)(u:Bool):Sound d (fs.set i { x with used:=u }) L:=
 h.used k9 λj f k b a=>by
  rw[gF (aK hi)]at a;by_cases e:j=i
  .rw[if_pos e]at a;rw[e,hi]at b;cases b;cases a;exact⟨rfl,λc=>by rw[g]at c;cases c⟩
  .rw[if_neg e,b]at a;cases a;exact⟨rfl,λ_=>rfl⟩
def Tv(w:KX)(j db l g n:Nat)(o:ay)(d:Dsk)(L:aL)(name:Name)(k:Nat)(e:Lp)(w':KX):Prop:=
 ∃o' a h b d' c i,e=Mk (Ly #[Kx Mm ((i:Nat):Int),Kx Mm ((c:Nat):Int)])/\bJ w' j db l g o' a h b d'/\a.length=n/\Sound d' (a.map (·.2)) L/\cd d d'/\(c=0\/om d d' L c) /\
  (c=0->∃v f,a[i]? = IT (v,f)/\f.full=Jd/\f.name=name/\f.k=k)/\aN (o.In dt) w w'/\cX w.heap.size o o'
theorem Tw(HW:aV){w:KX}{pb db:Nat}{o:ay}{l:List j8}{hand:Nat}{d:Dsk}(h:bJ w pb db r z o l hand A d)(R:Sound d (l.map (·.2)) L)(N:aI L name=IT (.inl (ps,fl))){k:Nat}{b:Pg}(hk:ps[k]? = IT b):K1 prog 147 #[ptrTo pb,.string name,k] w (Tv w pb db r z l.length o d L name k):=by
 obtain⟨f,dp,q,oM,mO⟩:=R.DR N;have hs:=bO (R.ok name (by rw[N];rfl));have yL:=aK hk;have jT:=q.most;have ci:b.length<=240:=q.short b (cx hk);have K:=ae (ug h R N);have H:=ae h;have HG:=ae R;have HL:=ae N;have HK:=ae hk;have HQ:=ae q;have dl:=ae oM;have fm:=ae mO;have hn:=h.most;have Tp:=h.head.lt;obtain⟨m,eO,dA⟩:=h.yR;have Y:=ae eO;have fV:=ae dA;have WC:=ae (uS (s:=name) (n:=k) (by unfold maxLen;omega) af);clear h R N hk q oM mO eO dA;unfold ptrTo at *;unfold fA at K;cases J:d.dead with
 |true=>rw[J,if_pos rfl]at K;have HD:=ae J;clear J;go_enter func147,ntmps147;go_wp2_with fail;go_call K.out as e w1⟨rfl,hb⟩;have G:=ae hb;clear hb;go_wp2;go_ret2;exact⟨o,l,hand,A,d,6,0,rfl,H.out.below G.out,rfl,HG.out,cd.refl d,.inr (.inr ⟨rfl,HD.out⟩),λh=>absurd h ag,aN.aZ G.out,cX.refl _ _⟩
 |false=>
   rw[J,if_neg ai]at K;have HD:=ae J;clear J;have OO:¬((k:Int) >= ps.length):=af;have K7:¬((k:Int)<0):=af;generalize hP:ps.length=P at *;have HP:=ae hP;clear hP;cases Z:aI m (name,k) with
   |some i=>
     have U:=ae Z;clear Z;obtain⟨fr,hi,xG,du,aE⟩:=(fV.out name k i).1 U.out;have oL:i<l.length:=by have:=aK hi;rwa [dj]at this
     go_enter func147,ntmps147;go_wp2_with fail;go_call K.out as e w1⟨rfl,hb⟩;have G:=ae hb;have C:=ae (H.out.below hb);have fH:Lk (lh w1 z m):=ae (Y.out.kept (hb.block z Y.out.lt));clear hb;obtain⟨⟨-,en,ce,-⟩,-⟩:=C.out.head.cells;have hz:∀W:KX,(zeroValue 3).run prog W=.ok (Kx Mm 0) W:=λW=>ah
     obtain⟨a,c,f0,D⟩:=C.out.shaped.get rfl oL;obtain rfl:f0=fr:=by have:=cQ D;rw[hi]at this;exact(Option.some.inj this).symm
     obtain⟨-,-,-,-,-,-,h6⟩:=C.out.row.seven D;have eS:=C.out.row.free (i*7+6);have X:=ae D;clear hi D;go_wp2_with (at_lookup;refine cy _ rfl _ _ _ _ rfl 3 l9 iz Tryz.underlying96 (hz _) z m rfl fH.out (name,k) rfl WC.out ?_;unfold tH;rw[U.out];simp only[ql,FS,H4]);go_ret2;have yY:=C.out.mark (j:=6) (u:=.bool Jd) (x:={ f0 with used:=Jd }) X.out ag rfl rfl rfl rfl rfl;refine⟨o,_,hand,A,d,0,i,rfl,yY,k9,?_,cd.refl d,.inl rfl,λ_=>⟨.slice a f0.bytes.length c,{ f0 with used:=Jd },by rw[gF oL,if_pos rfl],xG,du,aE⟩,(aN.aZ G.out).setCell _ _ (.inl H.out.pS),cX.refl _ _⟩;rw[map_set];exact HG.out.mark (cQ X.out) xG Jd
   |none=>
     have U:=ae Z;clear Z;have Ao:∀(j:Nat)(v:cB),(l.map (·.2))[j]? = IT v->v.full=Jd->v.name=name->v.k=k->False:=λj v B I M E=>by have:=(fV.out name k j).2 ⟨v,B,I,M,E⟩;rw[U.out]at this;cases this
     have am:=ae Ao;obtain⟨ff,vP⟩:=HG.out.read HL.out HQ.out HD.out HK.out (λ⟨j,fr,B,I,_,E,h5⟩=>Ao j fr B I E h5);obtain⟨T,Gg⟩:=dl.out HD.out;have OQ:=ae vP;have Jw:=ae T;have Mh:=ae Gg;have bd:Lk (dp.length<=65536):=ae (No HQ.out.le HP.out);clear Ao vP T Gg;go_enter func147,ntmps147;go_wp2_with fail;go_call K.out as e w1⟨rfl,hb⟩;have G:=ae hb;have C:=ae (H.out.below hb);have fH:Lk (lh w1 z m):=ae (Y.out.kept (hb.block z Y.out.lt));clear hb;obtain⟨⟨co,-,ce,-⟩,-⟩:=C.out.head.cells;unfold ptrTo at co;have hz:∀W:KX,(zeroValue 3).run prog W=.ok (Kx Mm 0) W:=λW=>ah
     go_wp2_with (at_lookup;refine cy _ rfl _ _ _ _ rfl 3 l9 iz Tryz.underlying96 (hz _) z m rfl fH.out (name,k) rfl WC.out ?_;unfold tH;rw[U.out];simp only[Option.map_none,Option.getD_none,H5]);go_call(DM C.out.l6 name hs) as e w2⟨v2,rfl,hb2,hy,-⟩;obtain⟨pf,rfl,hp,el⟩:=hy Mh.out;rw[Mh.out];have WS:=ae hp;have H2:=ae (C.out.below hb2);have cA:=ae (G.out.trans (hb2.mono G.out.size));clear hb2 hy hp hz;unfold ptrTo;go_wp2_with fail;refine(Tm H2.out.l6 WS.out hs k (256*dp.length) b Jw.out af (Nm bd.out) OQ.out ci).mono ?_;rintro e w3⟨v3,rfl,Q,F⟩;obtain⟨a3,c3,rfl⟩:=aw Q;have H3:=ae (H2.out.below F);have gU:=ae (cA.out.trans (F.mono cA.out.size));have pN:=ae Q;have de:w.heap.size<=w2.heap.size:=cA.out.size;have S:Lk (∀p,(fz a3 b.length c3).ownBlock=IT p->o p=KK):=ae (λp g=>fN H.out.owned (Nm (aD Q p g)));have CR:Lk (∀p,(fz a3 b.length c3).ownBlock=IT p->p<w3.heap.size):=ae (λp g=>(aA Q p g).1);clear Q F;go_wp2_with fail;go_call(Ml HW H3.out HG.out) as e w4⟨o4,l4,Mp,d4,c4,i4,rfl,r7,hg4,y4,Cq,Xh,Mq,yH,Tx⟩;have V:=ae r7;have H7:=ae hg4;have Xi:=ae y4;have zZ:=ae Cq;have ee:=ae Xh;have DW:=ae Mq;have zX:=ae ((aN.aZ gU.out).trans yH (λ_ _ h=>h):aN (o.In dt) w w4);have Pz:Lk (cX w.heap.size o o4):=ae (λx hx=>Tx x (eg hx gU.out.size));have OS:Lk (w4.ownsRow w2.heap.size 5 1 (.slice a3 b.length c3) b.length (b.map bv)):=ae (yH.ownsRow pN.out (λp g=>ay.eB (S.out p g)));have ac:Lk (∀p,(fz a3 b.length c3).ownBlock=IT p->o4 p=KK):=ae (λp g=>by rw[Tx p (CR.out p g)];exact S.out p g);clear r7 hg4 y4 Cq Xh Mq yH Tx;by_cases je:c4=0
     .subst je;obtain⟨p4,BA,PA⟩:=ee.out rfl;have O:=ae BA;have dq:=aK BA;have Xj:=ae PA;have DX:∀(j:Nat)(v:cB),(l4.map (·.2))[j]? = IT v->v.full=Jd->v.name=name->v.k=k->False:=λj v B I M E=>by obtain⟨y,g1,g2,g3,g4⟩:=DW.out.2 j v B I;exact am.out j y g1 g2 (g3.trans M) (g4.trans E)
      have Xk:=ae DX;have qI:=ae (Mb V.out BA PA ⟨Jd,name,k,b,J0,Jd⟩ OS.out ac.out DX hs (by show k<_;omega) J0);unfold ptrTo at qI;dsimp only at qI;clear BA PA DX;go_wp2_with fail;go_call qI.out as e w5⟨rfl,⟨mf5,K8⟩,vG⟩;have R1:=ae K8;have FE:=ae vG;clear K8 vG;go_wp2;go_ret2;refine⟨_,_,Mp,mf5,d4,0,i4,rfl,R1.out,by rw[k9];simpa using DW.out.1,?_,Xi.out,.inl rfl,λ_=>⟨.slice a3 b.length c3,⟨Jd,name,k,b,J0,Jd⟩,by rw[gF dq,if_pos rfl],rfl,rfl,rfl⟩,?_,?_⟩
      .rw[map_set];have yM:p4.2.cu=false:=by rw[H7.out.blank p4.2 (cx (cQ O.out)) Xj.out];rfl
       exact H7.out.reset (cQ O.out) yM rfl (.inr ⟨rfl,⟨ps,fl,HL.out,HK.out⟩,λi' al _ B I M E=>Xk.out i' al B I M E⟩)
      .refine zX.out.trans FE.out (λx hx e=>?_);have B:o4.In dt x:=by
        rcases e with rfl | rfl | rfl
        .exact V.out.pS
        .exact⟨_,V.out.rC,show 8<10 by decide⟩
        .exact⟨_,V.out.Cn,show 6<10 by decide⟩
       obtain⟨t,g1,g2⟩:=B;exact⟨t,by rw[<- Pz.out x hx];exact g1,g2⟩
      .exact Pz.out.trans (ay.yI (n:=w2.heap.size) (λp g=>aD OS.out p g)) de
     .have y5:¬(c4:Int)=0:=af;have FL:=ae je;clear je;go_wp2;go_ret2;exact⟨o4,l4,Mp,A,d4,c4,0,rfl,V.out,by simpa using DW.out.1,H7.out,Xi.out,zZ.out,λh=>absurd h FL.out,zX.out,Pz.out⟩
def jG(w:KX)(a db n:Nat)(o:ay)(d:Dsk)(L:aL)(b:Pg)(e:Lp)(w':KX):Prop:=
 ∃v c d' o',e=Mk (Ly #[v,Kx Mm ((c:Nat):Int)])/\aU w' a db n o' d' L/\aN (o.In dt) w w'/\cX w.heap.size o o'/\cd d d'/\(c=0\/om d d' L c) /\
  (c=0->w'.ownsRow w.heap.size 5 1 v b.length (b.map bv)/\∀x,v.ownBlock=IT x->o' x=KK)/\(c≠0->v=.slice KK 0 0)
theorem sy(X:aV){w:KX}{v db n:Nat}{o:ay}{d:Dsk}(h:aU w v db n o d L)(t:aI L name=IT (.inl (ps,fl))){k:Nat}{b:Pg}(s:ps[k]? = IT b):K1 prog 77 #[ptrTo v,.string name,k] w (jG w v db n o d L b):=by
 obtain⟨I,E,l,hand,mf,G,rfl,u⟩:=h;have V:b.length<=240:=by obtain⟨f,dp,q⟩:=u.ej _ _ _ t;exact q.short b (cx s)
 have O:=ae (Tw X G u t s);have Y:=ae t;have M:=ae s;clear G u t s;unfold ptrTo at *;go_enter func77,ntmps77;go_wp2_with fail;go_call O.out as e w1⟨o1,l1,adu,mf1,d1,c1,i1,rfl,zY,adv,hg1,Xl,yz,aja,pF,ajb⟩;have g:=ae zY;have y:=ae hg1;have p:=ae adv;have C:=ae Xl;have S:=ae yz;have A:=ae aja;have B:=ae pF;have j:=ae ajb;clear adv zY hg1 Xl yz aja pF ajb;by_cases z:c1=0
 .subst z;obtain⟨Z,J,i,D,r,m⟩:=A.out rfl;have T:=aK i;have c:J.bytes=b:=by obtain⟨LR,ni,H,F⟩:=y.out.frames J (cx (cQ i)) D;rw[r,Y.out]at H;cases H;rw[m,M.out]at F;exact(Option.some.inj F).symm
  have N:=ae c;have a:=(g.out.each _ (cx i)).1;dsimp only at a;obtain⟨a1,U,rfl⟩:=aw a;rw[c]at a i;have P:=ae a;obtain⟨-,-,-,h3,-⟩:=g.out.row.seven i;obtain⟨⟨-,Q,-⟩,-⟩:=g.out.head.cells;clear i D r m c a;go_wp2_with fail;go_call(gZ _ b _ (fp P.out) af) as e w2⟨v2,rfl,mK,hb2⟩;go_wp2;go_ret2;refine⟨v2,0,d1,o1,rfl,⟨I,E,l1,adu,mf1,g.out.below hb2,p.out,y.out⟩,B.out.b7 hb2,j.out,C.out,.inl rfl,λ_=>⟨aQ mK B.out.size,λx W=>fN g.out.owned (aD mK x W)⟩,λh=>absurd rfl h⟩
 .have R:¬(c1:Int)=0:=af;have K:=ae z;clear z;go_wp2;go_ret2;exact⟨_,c1,d1,o1,rfl,⟨I,E,l1,adu,mf1,g.out,p.out,y.out⟩,B.out,j.out,C.out,S.out,λh=>absurd h K.out,λ_=>rfl⟩
theorem bJ.lay{w:KX}{n db:Nat}{o:ay}{l:List j8}{hand:Nat}{d:Dsk}(h:bJ w n db r z o l hand A d){u:J3}(hi:l[i]? = IT (u,f)){v:J3}{b:Pg}{base:Nat}(s:w.ownsRow base 5 1 v b.length (b.map bv))(y:∀x,v.ownBlock=IT x->o x=KK) :
 bJ (((w.setCell ⟨r,i*7+3,KK⟩ v).setCell ⟨r,i*7+5,KK⟩ (.bool Jd)).setCell ⟨r,i*7+6,KK⟩ (.bool Jd)) n db r z (o.put v (9,0)) (l.set i (v,{ f with bytes:=b,cu:=Jd,used:=Jd })) hand A d:=by
 have p:=aK hi;have F:=h.row.set' (q:=(v,{ f with bytes:=b })) hi (j:=3) ag (v:=v) rfl;have G:(l.set i (v,{ f with bytes:=b }))[i]? = IT (v,{ f with bytes:=b }):=by rw[gF p,if_pos rfl]
 have C:=F.set' (q:=(v,{ f with bytes:=b,cu:=Jd })) G (j:=5) ag (v:=.bool Jd) rfl;have B:((l.set i (v,{ f with bytes:=b })).set i (v,{ f with bytes:=b,cu:=Jd }))[i]? = IT (v,{ f with bytes:=b,cu:=Jd }):=by rw[gF (by rw[k9];exact p),if_pos rfl]
 have k:=C.set' (q:=(v,{ f with bytes:=b,cu:=Jd,used:=Jd })) B (j:=6) ag (v:=.bool Jd) rfl;rw[List.set_set,List.set_set]at k;have c:aN (·=r) w (((w.setCell ⟨r,i*7+3,KK⟩ v).setCell ⟨r,i*7+5,KK⟩ (.bool Jd)).setCell ⟨r,i*7+6,KK⟩ (.bool Jd)):=(((aN.refl (·=r) w).setCell ⟨r,i*7+3,KK⟩ v (.inl rfl)).setCell ⟨r,i*7+5,KK⟩ (.bool Jd) (.inl rfl)).setCell ⟨r,i*7+6,KK⟩ (.bool Jd) (.inl rfl);have g:∀x,v.ownBlock=IT x->x<w.heap.size:=λx a=>(aA s x a).1;refine h.yS k (c.mono λ_ _ e=>.inl e) (ay.yJ y) (λx t a=>eg (ay.Am h.owned g x t a) c.size) ?_ ?_
 .obtain⟨m,D,E⟩:=h.yR;exact⟨m,D.turn c (ay.ne h.rC h.vT ag),E.same (cQ hi) rfl rfl rfl⟩
 .exact⟨aQ (c.ownsRow s (λx a e=>by have:=y x a;rw[e,h.vT]at this;cases this)) (em _),λx a=>ay.Dx a⟩
def qJ(w:KX)(a db n:Nat)(o:ay)(d:Dsk)(L L':aL)(e:Lp)(w':KX):Prop:=
 ∃c d' o',e=Mk (Kx Mm ((c:Nat):Int))/\aU w' a db n o' d' (if c=0 then L' else L)/\aN (o.In dt) w w'/\cX w.heap.size o o'/\cd d d'/\(c=0\/om d d' L c)
theorem bJ.adx{w:KX}{a db:Nat}{o:ay}{l:List j8}{hand:Nat}{d:Dsk}(h:bJ w a db r z o l hand A d):o.In dt z:=⟨_,h.rC,show 8<10 by decide⟩
theorem bJ.ajd{w:KX}{a db:Nat}{o:ay}{l:List j8}{hand:Nat}{d:Dsk}(h:bJ w a db r z o l hand A d):o.In dt a:=⟨_,h.Cn,show 6<10 by decide⟩
theorem aa5{n:Nat}{o o':ay}(c:cX n o o'){C:Nat->Prop}{x:Nat}(a:x<n)(h:o'.In C x):o.In C x:=by obtain⟨t,d,b⟩:=h;exact⟨t,by rw[<- c x a];exact d,b⟩
theorem Gr(HW:aV){w:KX}{pb db n:Nat}{o:ay}{d:Dsk}(h:aU w pb db n o d L)(hL:aI L name=IT (.inl (ps,fl))){k:Nat}(hk:k<=ps.length)(Dq:k<65536){v:J3}{b:Pg}(hv:Rd w v b)(g:b.length<=240)(pD:∀x,v.ownBlock=IT x->o x=KK):K1 prog 148 #[ptrTo pb,.string name,k,v] w (qJ w pb db n o d L (aX L name (.inl (dO ps k b,J0)))):=by
 obtain⟨r,t,l,hand,mf,O,rfl,hg⟩:=h;have hs:=bO (hg.ok name (by rw[hL];rfl));have M:=ae (ug O hg hL);have H:=ae O;have HG:=ae hg;have HL:=ae hL;have HV:=ae hv;have Ay:=ae pD;have HK:=ae hk;have La:=ae g;obtain⟨va,vc,rfl,-⟩:=hv;have hn:=O.most;have Tp:=O.head.lt;obtain⟨m,eO,dA⟩:=O.yR;have gy:=ae eO;have fV:=ae dA;have WC:=ae (uS (s:=name) (n:=k) (by unfold maxLen;omega) af);have dq:¬((b.length:Int)>240):=af;have OO:¬((k:Int)>ps.length):=af;have K7:¬((k:Int)<0):=af;clear O hg hL eO dA pD hk g;unfold ptrTo at *;unfold fA at M;generalize hP:ps.length=P at *;have HP:=ae hP;clear hP;generalize hB:b.length=B at *;have HB:=ae hB;clear hB;cases U:d.dead with
 |true=>rw[U,if_pos rfl]at M;have HD:=ae U;clear U;go_enter func148,ntmps148;go_wp2_with fail;go_call M.out as e w1⟨rfl,g⟩;have q:=ae g;clear g;go_wp2;go_ret;exact⟨6,d,o,rfl,⟨r,t,l,hand,mf,H.out.below q.out,rfl,HG.out⟩,aN.aZ q.out,cX.refl _ _,cd.refl d,.inr (.inr ⟨rfl,HD.out⟩)⟩
 |false=>
   rw[U,if_neg ai]at M;clear U;have hz:∀W:KX,(zeroValue 3).run prog W=.ok (Kx Mm 0) W:=λW=>ah
   cases Jx:aI m (name,k) with
   |some i=>
     have Y:=ae Jx;clear Jx;obtain⟨fr,hi,xG,ac,T⟩:=(fV.out name k i).1 Y.out;have oL:i<l.length:=by have:=aK hi;rwa [dj]at this
     go_enter func148,ntmps148;go_wp2_with fail;go_call M.out as e w1⟨rfl,g⟩;have q:=ae g;have K:=ae (H.out.below g);have fH:Lk (lh w1 t m):=ae (gy.out.kept (g.block t gy.out.lt));clear g;obtain⟨⟨-,C,G,-⟩,-⟩:=K.out.head.cells;obtain⟨a,c,f0,E⟩:=K.out.shaped.get rfl oL;obtain rfl:f0=fr:=by have:=cQ E;rw[hi]at this;exact(Option.some.inj this).symm
     have I:=ae E;have Tz:=ae (HV.out.below q.out);clear hi E;go_wp2_with (first | (at_lookup;refine cy _ rfl _ _ _ _ rfl 3 l9 iz Tryz.underlying96 (hz _) t m rfl fH.out (name,k) rfl WC.out ?_;unfold tH;rw[Y.out];simp only[ql,FS,H4]) | fail);have yM:=ae (gZ _ b w1 Tz.out (No HB.out La.out));go_call yM.out as e w2⟨v2,rfl,mK,hb2⟩;obtain⟨a2,c2,rfl⟩:=aw mK;have R:=ae (K.out.below hb2);have cA:=ae (q.out.trans (hb2.mono q.out.size));have tq:=ae mK;have D:w.heap.size<=w1.heap.size:=q.out.size;have Lb:Lk (∀x,(fz a2 b.length c2).ownBlock=IT x->o x=KK):=ae (λx f=>fN H.out.owned (cp D (aD mK x f)));clear mK hb2 C G;obtain⟨-,-,-,A,-,h5,h6⟩:=R.out.row.seven I.out;have z3:=R.out.row.free (i*7+3);have z5:=R.out.row.free (i*7+5);have z6:=R.out.row.free (i*7+6);go_wp2;go_ret;have F:=R.out.lay I.out tq.out Lb.out;have J:=HG.out.write (cQ I.out) HL.out (u:=Jd) (by rw[HP.out];exact HK.out) Dq (b:=b) (by rw[HB.out];exact La.out) (.inl ⟨xG,ac,T⟩);refine⟨0,d,_,rfl,⟨r,t,_,hand,mf,F,k9,?_⟩,?_,?_,cd.refl d,.inl rfl⟩
     .rw[if_pos rfl,map_set];subst ac T;rw[xG];exact J
     .exact(((aN.aZ cA.out).setCell ⟨r,i*7+3,KK⟩ _ (.inl H.out.pS)).setCell ⟨r,i*7+5,KK⟩ (.bool Jd) (.inl H.out.pS)).setCell ⟨r,i*7+6,KK⟩ (.bool Jd) (.inl H.out.pS)
     .exact ay.yI (λx f=>cp D (aD tq.out x f))
   |none=>
     have Y:=ae Jx;clear Jx;have Ao:∀(j:Nat)(p:cB),(l.map (·.2))[j]? = IT p->p.full=Jd->p.name=name->p.k=k->False:=λj p z X A Q=>by have:=(fV.out name k j).2 ⟨p,z,X,A,Q⟩;rw[Y.out]at this;cases this
     have ce:=ae Ao;clear Ao;go_enter func148,ntmps148;go_wp2_with fail;go_call M.out as e w1⟨rfl,g⟩;have q:=ae g;have K:=ae (H.out.below g);have fH:Lk (lh w1 t m):=ae (gy.out.kept (g.block t gy.out.lt));have Tz:=ae (HV.out.below g);clear g;obtain⟨⟨-,-,G,-⟩,-⟩:=K.out.head.cells;go_wp2_with (first | (at_lookup;refine cy _ rfl _ _ _ _ rfl 3 l9 iz Tryz.underlying96 (hz _) t m rfl fH.out (name,k) rfl WC.out ?_;unfold tH;rw[Y.out];simp only[Option.map_none,Option.getD_none,H5]) | fail);go_call(Ml HW K.out HG.out) as e w4⟨o4,l4,Mp,d4,c4,i4,rfl,r7,hg4,y4,Cq,Xh,Mq,yH,Tx⟩;have Z:=ae r7;have H7:=ae hg4;have Xi:=ae y4;have zZ:=ae Cq;have dl:=ae Xh;have DW:=ae Mq;have D:w.heap.size<=w1.heap.size:=q.out.size;have zX:=ae ((aN.aZ q.out).trans yH (λ_ _ h=>h):aN (o.In dt) w w4);have Pz:Lk (cX w.heap.size o o4):=ae (λx f=>Tx x (eg f q.out.size));have PB:Lk (Rd w4 (.slice va B vc) b):=ae (yH.rd Tz.out (λx f=>ay.eB (Ay.out x f)));have r8:w.heap.size<=w4.heap.size:=zX.out.size;clear r7 hg4 y4 Cq Xh Mq yH Tx G;by_cases je:c4=0
     .subst je;obtain⟨p4,BA,PA⟩:=dl.out rfl;have S:=ae BA;have co:=aK BA;have Xj:=ae PA;have DX:∀(j:Nat)(p:cB),(l4.map (·.2))[j]? = IT p->p.full=Jd->p.name=name->p.k=k->False:=λj p z X A Q=>by obtain⟨y,g1,g2,g3,g4⟩:=DW.out.2 j p z X;exact ce.out j y g1 g2 (g3.trans A) (g4.trans Q)
      have Xk:=ae DX;have qI:=ae (Mb Z.out BA PA ⟨Jd,name,k,[],J0,J0⟩ (a:=KK) (c:=0) (base:=0) (ownsRow_nil _ _ _) (λx f=>by cases f) DX hs (by show k<_;omega) J0);unfold ptrTo at qI;dsimp only at qI;clear BA PA DX;go_wp2_with fail;go_call qI.out as e w5⟨rfl,⟨mf5,K8⟩,vG⟩;have de:o4.put (.slice KK ([]:Pg).length 0) (9,0)=o4:=rfl;rw[de]at K8;have R1:=ae K8;have FE:=ae (zX.out.trans vG (λx f e=>by
       have z:o4.In dt x:=by
        rcases e with rfl | rfl | rfl
        .exact Z.out.pS
        .exact Z.out.adx
        .exact Z.out.ajd
       exact aa5 Pz.out f z))
      have OT:Lk (Rd w5 (.slice va B vc) b):=ae (vG.rd PB.out (λx f e=>by
       have N:=Ay.out x f;rcases e with rfl | rfl | rfl
       .rw[H.out.vT]at N;cases N
       .rw[H.out.rC]at N;cases N
       .rw[H.out.Cn]at N;cases N))
      clear K8 vG;have R4:(l4.set i4 (fz KK ([]:Pg).length 0,(⟨Jd,name,k,[],J0,J0⟩:cB)))[i4]? = IT (fz KK ([]:Pg).length 0,⟨Jd,name,k,[],J0,J0⟩):=by rw[gF co,if_pos rfl]
      have V:=ae R4;clear R4;obtain⟨⟨-,C,-⟩,-⟩:=R1.out.head.cells;go_wp2_with fail;have yM:=ae (gZ _ b w5 OT.out (No HB.out La.out));go_call yM.out as e w6⟨v6,rfl,ho6,Cr⟩;obtain⟨a6,c6,rfl⟩:=aw ho6;have H6:=ae (R1.out.below Cr);have Wz:=ae (FE.out.b7 Cr);have al:=ae ho6;have ci:w.heap.size<=w5.heap.size:=FE.out.size;have aE:Lk (∀x,(fz a6 b.length c6).ownBlock=IT x->o4 x=KK):=ae (λx f=>fN R1.out.owned (aD ho6 x f));clear ho6 Cr C;obtain⟨-,-,-,A,-,h5,h6⟩:=H6.out.row.seven V.out;have z3:=H6.out.row.free (i4*7+3);have z5:=H6.out.row.free (i4*7+5);have z6:=H6.out.row.free (i4*7+6);go_wp2;go_ret;have F:=H6.out.lay V.out al.out aE.out;have bd:p4.2.cu=false:=by rw[H7.out.blank p4.2 (cx (cQ S.out)) Xj.out];rfl
      have J:=H7.out.write (cQ S.out) HL.out (u:=Jd) (by rw[HP.out];exact HK.out) Dq (b:=b) (by rw[HB.out];exact La.out) (.inr ⟨bd,λi' am _ z X A Q=>Xk.out i' am z X A Q⟩);refine⟨0,d4,_,rfl,⟨r,t,_,Mp,mf5,F,by rw[k9,k9];simpa using DW.out.1,?_⟩,?_,?_,Xi.out,.inl rfl⟩
      .rw[if_pos rfl,List.set_set,map_set];exact J
      .exact((Wz.out.setCell ⟨r,i4*7+3,KK⟩ _ (.inl H.out.pS)).setCell ⟨r,i4*7+5,KK⟩ (.bool Jd) (.inl H.out.pS)).setCell ⟨r,i4*7+6,KK⟩ (.bool Jd) (.inl H.out.pS)
      .exact Pz.out.trans (ay.yI (n:=w5.heap.size) (λx f=>aD al.out x f)) ci
     .have y5:¬(c4:Int)=0:=af;have FL:=ae je;clear je;go_wp2;go_ret;refine⟨c4,d4,o4,rfl,⟨r,t,l4,Mp,mf,Z.out,by simpa using DW.out.1,?_⟩,zX.out,Pz.out,Xi.out,zZ.out⟩;rw[if_neg FL.out];exact H7.out
theorem om.later{d a b:Dsk}{c:Nat}(g:a.bU=d.bU)(h:om a b L c):om d b L c:=by
 rcases h with⟨e,f⟩| h
 .exact .inl ⟨e,by rw[<- g];exact f⟩
 .exact .inr h
theorem Sound.synced{d:Dsk}{fs:List cB}(h:Sound d fs L)(a:aI L name=IT (.inl (ps,fl)))(b:∀k,¬fU fs name k) :
 Sound (d.sync name).1 fs (if (d.sync name).2=0 then aX L name (.inl (ps,Jd)) else L)/\cd d (d.sync name).1/\((d.sync name).2=0\/om d (d.sync name).1 L (d.sync name).2):=by
 obtain⟨f,g,q⟩:=h.ej _ _ _ a;have e:b6 name=true:=h.ok name (by rw[a];rfl);unfold Dsk.sync;cases c:d.tick.dead with
 |true=>exact⟨h.tick,cd.tick d,.inr (.inr ⟨rfl,c⟩)⟩
 |false=>rw[if_neg ai,e,if_neg ai,q.get];dsimp only;exact⟨h.sync a b q.get rfl rfl,(cd.tick d).of rfl rfl rfl,.inl rfl⟩
theorem TA(HW:aV){w:KX}{Y db n:Nat}{o:ay}{d:Dsk}(h:aU w Y db n o d L)(D:aI L name=IT (.inl (ps,fl))):K1 prog 45 #[ptrTo Y,.string name] w (qJ w Y db n o d L (aX L name (.inl (ps,Jd)))):=by
 obtain⟨T,V,l,hand,M,a,rfl,i⟩:=h;obtain⟨df,dp,q,J,mO⟩:=i.DR D;have G:=bO (i.ok name (by rw[D];rfl));have jU:=i.AA;have hn:=a.most;have H:=ae a;have O:=ae i;have HQ:=ae q;have Cp:=ae jU;have HL:=ae D;have aR:=ae (xK a name G);have z:Lk (l.length<=4096):=ae hn;have A:Lk (∀p,fU (l.map (·.2)) name p->p<16777216):=ae (λp ⟨j,fr,m,_,_,_,h5⟩=>Nm ((i.fit fr (cx m)).2))
 clear a i q jU D;unfold ptrTo at *;cases u:d.dead with
 |true=>obtain⟨-,c⟩:=mO u;have E:=ae c;have HD:=ae u;clear u c J mO;go_enter func45,ntmps45;go_wp2_with fail;go_call aR.out as e w1⟨v1,n1,rfl,hb1,-⟩;rw[E.out];have f:=ae hb1;clear hb1;go_wp2;go_ret;exact⟨6,d,o,rfl,⟨T,V,l,hand,M,H.out.below f.out,rfl,O.out⟩,aN.aZ f.out,cX.refl _ _,cd.refl d,.inr (.inr ⟨rfl,HD.out⟩)⟩
 |false=>
   obtain⟨Q,c⟩:=J u;have E:=ae c;clear u c J mO Q;go_enter func45,ntmps45;go_wp2_with fail;go_call aR.out as e w1⟨v1,n1,rfl,hb1,hy⟩;obtain⟨-,pf,rfl,a,F⟩:=hy E.out;rw[E.out];have f:=ae hb1;have WS:=ae a;clear hb1 a hy;unfold ptrTo;have jL:=ae (Hy (H.out.below f.out) (λp a=>(Cp.out p a).2) name 0 16777216);unfold ptrTo at jL;go_wp2_with fail;go_call jL.out as e w2⟨v2,ls,rfl,mK,DU,hb2⟩;have cA:=ae (f.out.trans (hb2.mono f.out.size));have tq:=ae mK;have U:=ae DU;have ac:Lk (ls.length<=100000):=ae (by have m:=DU.length_le;rw[dj]at m;have:=z.out;omega)
   have WZ:=ae (WS.out.below hb2);have P:Lk (∀x∈ls,x<l.length):=ae (λx N=>by obtain⟨fr,m,_⟩:=(U.out.mem x).1 N;have:=aK m;rwa [dj]at this)
   have c:=ae (fN H.out.owned F);have K:=ae (RV HW (H.out.below cA.out) Cp.out G WZ.out c.out tq.out (λb hb=>fN H.out.owned (No (aD tq.out b hb) f.out.size)) P.out ac.out);obtain⟨d',tP,ec,hr,FI,vQ,yX,yY,he⟩:=Sound.aaV HL.out ls d (l.map (·.2)) df dp O.out HQ.out (U.out.aaV O.out A.out);rw[hr]at K;have B:=ae FI;have g:=ae vQ;have RX:=ae yY;have HE:=ae he;have Xa:=ae yX;unfold ptrTo at K;clear hr FI vQ yX yY he mK DU hb2;go_wp2_with fail;go_call K.out as e w4⟨o',l',rfl,r7,hl4,RY,Xb,yH,hg4⟩;dsimp only at hl4 r7;have Z:=ae r7;have RZ:=ae hl4;have s:=ae RY;have W:=ae ((aN.aZ cA.out).trans yH (λ_ _ h=>h):aN (o.In dt) w w4);have H7:Lk (cX w.heap.size o o'):=ae (λx N=>hg4 x (eg N cA.out.size));have Xj:Lk (qG w4 pf db name):=ae (WZ.out.kept yH (ay.eB c.out));clear r7 hl4 RY Xb yH hg4;by_cases I:ec=0
   .subst I;have t:∀k,¬fU tP name k:=λk ⟨j,fj,g1,R,C,g4,g5⟩=>by
     have X:j<(l.map (·.2)).length:=by rw[<- Xa.out];exact aK g1
     obtain⟨dd,s1,s2,s3,s4⟩:=RX.out j _ (bk X);rw[g1]at s1;have e1:=Option.some.inj s1;subst e1;dsimp only at R C g4 g5;have hm:j∈ls:=(U.out.mem j).2 ⟨_,bk X,jo.2 ⟨R,s2 C,g4,em _,A.out _ ⟨j,_,bk X,R,s2 C,g4,rfl⟩⟩⟩;have:=s4 rfl hm;rw[this]at C;cases C
    obtain⟨r,v,y⟩:=B.out.synced HL.out t;have ko:=ae r;have fP:=ae v;have gV:=ae y;have qI:=ae (Pt Z.out.l6 Xj.out G);unfold ptrTo at qI;clear t r v y;generalize (d'.sync name).1=d5 at *;generalize (d'.sync name).2=c5 at *;go_wp2_with fail;go_call qI.out as e w5⟨rfl,o5,hd5,vG,Gn⟩;have R1:=ae (Z.out.DL hd5 vG Gn);have FE:=ae (W.out.owned H7.out vG.bh);have S:=ae (H7.out.trans Gn W.out.size);clear hd5 vG Gn;go_wp2;go_ret;refine⟨c5,d5,o5,rfl,⟨T,V,l',hand,M,R1.out,s.out,by rw[RZ.out];exact ko.out⟩,FE.out,S.out,g.out.trans fP.out,gV.out.imp id (om.later g.out.bU)⟩
   .have al:¬(ec:Int)=0:=af;have HC:=ae I;clear I;go_wp2;go_ret;refine⟨ec,d',o',rfl,⟨T,V,l',hand,M,Z.out,s.out,by rw[RZ.out,if_neg HC.out];exact B.out⟩,W.out,H7.out,g.out,HE.out⟩
def gG(name:Name)(f:cB):cB:=if f.full=Jd/\f.name=name then cB.none else f
def oP(name:Name)(k:Nat)(fs:List cB):List cB:=(fs.take k).map (gG name)++fs.drop k
theorem Mr(name:Name)(fs:List cB):oP name 0 fs=fs:=by rfl
theorem PC(name:Name)(fs:List cB):oP name fs.length fs=fs.map (gG name):=by simp[oP]
theorem vU(name:Name)(k:Nat)(fs:List cB):(oP name k fs).length=fs.length:=by grind [oP]
theorem DY(name:Name){k:Nat}{fs:List cB}(h:k<=fs.length)(j:Nat):(oP name k fs)[j]? = if j<k then (fs[j]?).map (gG name) else fs[j]? := by grind [oP]
theorem Ms(name:Name){k:Nat}{fs:List cB}(h:fs[k]? = IT f):oP name (k+1) fs=(oP name k fs).set k (gG name f):=by have a:=aK h;apply p5;grind [vU,DY]
theorem nN(h:(gG name f).full=Jd):gG name f=f/\f.full=Jd/\f.name≠name:=by
 unfold gG at h ⊢;split at h
 .cases h
 grind
theorem Mt{fs:List cB}{j:Nat}{x:cB}(h:(fs.map (gG name))[j]? = IT x):∃y,fs[j]? = IT y/\x=gG name y:=M2
theorem vV{n:Name}{fs:List cB}{k:Nat}(l:n≠name):fU (fs.map (gG name)) n k↔fU fs n k:=by
 constructor
 .rintro⟨j,x,h,d,c,b,a⟩;obtain⟨y,f,rfl⟩:=Mt h;obtain⟨e,g,i⟩:=nN d;rw[e]at c b a;exact⟨j,y,f,g,c,b,a⟩
 .rintro⟨j,y,h,d,c,b,a⟩;refine⟨j,y,?_,d,c,b,a⟩;grind [gG]
theorem Sound.aa6{d:Dsk}{fs:List cB}(h:Sound d fs L)(D:aI L name=IT (.inl (ps,fl))){f:bY}(q:dZ d fs name ps fl f m) :
 Sound d (fs.map (gG name)) (aX L name (.inl (m,J0))) where
 keys:=cK h.keys
 ij:=h.ij
 names:=λn=>by grind [cY,names]
 ok:=λn A=>by grind [cY,ok]
 ej:=λn u r b=>by
  rw[aC]at b;by_cases e:n=name
  .rw[if_pos e]at b;cases b;subst e;exact⟨f,_,q.get,q.now,cg _,cp q.le q.most,q.Gk,q.Gk,λk g=>.inl ⟨g,rfl⟩,λe=>(by cases e),q.jE⟩
  .rw[if_neg e]at b;obtain⟨l,c,a⟩:=h.ej n u r b;refine⟨l,c,a.get,a.now,a.le,a.most,a.short,a.Gk,λk g=>(a.each k g).imp id (vV e).2,λz=>?_,a.jE⟩;grind [dZ.iY,vV]
 oJ:=λn l E b=>by grind [aC,oJ]
 frames:=λp t o=>by grind [nN,frames,aC]
 blank:=λp t o=>by grind [gG,blank]
 once:=λi j y F hi B w C x v=>by grind [nN,once]
 dI:=λn s G=>by grind [cY,dI]
theorem H9[DecidableEq κ](m:List (κ×υ))(k:κ)(v:υ):b9 (aX m k v) k=b9 m k:=by unfold aX b9;simp
def R5(d':Dsk)(L L':aL)(name:Name)(c:Nat):Prop:=c=0/\L'=b9 L name\/c=6/\d'.dead=Jd/\∃a,L'=aX L name (.inl (a,J0))
theorem Sound.aa7{d:Dsk}{fs:List cB}(h:Sound d fs L)(a:aI L name=IT (.inl (ps,fl))) :
 ∃L',Sound (d.remove name).1 (fs.map (gG name)) L'/\cd d (d.remove name).1/\R5 (d.remove name).1 L L' name (d.remove name).2:=by
 obtain⟨f,g,q⟩:=h.ej _ _ _ a;have c:b6 name=true:=h.ok name M2;have e:=h.aa6 a q;unfold Dsk.remove;cases b:d.tick.dead with
 |true=>exact⟨_,e.tick,cd.tick d,.inr ⟨rfl,b,g,rfl⟩⟩
 |false=>rw[if_neg ai,c,if_neg ai,q.get];dsimp only;refine⟨b9 L name,?_,(cd.tick d).of rfl rfl rfl,.inl ⟨rfl,rfl⟩⟩;grind [H9,drop,nN]
theorem tU{a:Type}{l:List a}{j:Nat}{x:a}(h:l[j]? = IT x):l.set j x=l:=by
 apply p5;intro i;rw[gF (aK h)];by_cases e:i=j
 .subst e;rw[if_pos rfl,h]
 .rw[if_neg e]
def Mu(w:KX)(a db n:Nat)(o:ay)(d:Dsk)(L:aL)(name:Name)(e:Lp)(w':KX):Prop:=
 ∃c d' o' L',e=Mk (Kx Mm ((c:Nat):Int))/\aU w' a db n o' d' L'/\aN (o.In dt) w w'/\cX w.heap.size o o'/\cd d d'/\R5 d' L L' name c
theorem y6{w:KX}{s db nf:Nat}{o:ay}{d:Dsk}(h:aU w s db nf o d L)(hL:aI L name=IT (.inl (ps,fl))):K1 prog 20 #[ptrTo s,.string name] w (Mu w s db nf o d L name):=by
 obtain⟨K,mb,l,hand,mf,B,G,y⟩:=h;have ce:=ae G;clear G;have gu:=bO (y.ok name (by rw[hL];rfl));have jU:=y.AA;have hn:=B.most;have H:=ae B;have Cp:=ae jU;have Aw:=ae B.row;have HS:=ae B.shaped;have ac:Lk (∀S∈l.map (·.2),S.full=Jd->S.name.size<=1000):=ae (λS ew hf=>by obtain⟨LR,ni,r1,_⟩:=y.frames S ew hf;exact bO (y.ok _ (by rw[r1];rfl)))
 obtain⟨L',F,M,O⟩:=y.aa7 hL;have ko:=ae F;have fP:=ae M;have gV:=ae O;obtain⟨⟨-,g,-⟩,-⟩:=B.head.cells;have am:Lk (∀W o',cI W db o' d->K1 prog 47 #[ptrTo db,.string name] W λe w'=>e=(d.remove name).2/\cS W db o' (d.remove name).1 w'):=ae (λW o' V=>Pj V name gu);clear B y jU hL F M O;unfold ptrTo at *;generalize (d.remove name).1=d5 at *;generalize (d.remove name).2=c5 at *;generalize hN:l.length=n at *;have z:=ae hN;clear hN;go_enter func20,ntmps20;go_wp2;go_loopw [16] (λi wr=>∃k:Nat,k<=n/\i=k/\Lg w w wr) (λi _=>n-(Lo i).toNat)
 case atStart=>exact⟨0,em _,rfl,kp _ _⟩
 case round=>
  obtain⟨k,hk,rfl,u⟩:=hrel;by_cases q:k<n
  .obtain⟨a,c,f,hi⟩:=HS.out.get z.out q;obtain⟨X,h1,h2,h3,h4,h5,h6⟩:=(Aw.out.below u).seven hi;have Du:wr.cell? ⟨s,1,KK⟩=IT (.slice K n n):=by rw[u.cell (p:=⟨s,1,KK⟩) (jK _ _ g)];exact g
   have T:=ae u;clear hi u;obtain⟨full,nm,fk,bs,cu,used⟩:=f;dsimp only at *;by_cases rF:nm=name;case' pos=>have v:(nm.toList == name.toList)=true:=by rw[rF];exact beq_self_eq_true _
   case' neg=>have v:(nm.toList == name.toList)=false:=rE rF
   all_goals
    clear rF;cases full
   all_goals
    go_wp2;go_roundw
    case rel=>exact⟨k+1,af,by go_num,T.out.alloc T.out.size _⟩
    case measure=>simp[Lo];omega
  .obtain rfl:k=n:=af
   have H1:=ae (H.out.below u);have T:=ae u;have Du:wr.cell? ⟨s,1,KK⟩=IT (.slice K k k):=by rw[u.cell (p:=⟨s,1,KK⟩) (jK _ _ g)];exact g
   clear u g;go_wp2;generalize wr=W1 at *;go_loopw [40] (λi wr=>∃(j:Nat)(r:List j8),j<=k/\i=j/\bJ wr s db K mb o r hand mf d/\r.map (·.2)=oP name j (l.map (·.2))/\aN (o.In dt) W1 wr) (λi _=>k-(Lo i).toNat)
   case atStart=>exact⟨0,l,em _,rfl,H1.out,(Mr _ _).symm,aN.refl _ _⟩
   case round=>
    obtain⟨j,r,hj,rfl,A,b,Y⟩:=hrel;have I:r.length=k:=by have:=congrArg List.length b;rw[dj,vU,dj,z.out]at this;exact this
    by_cases q:j<k
    .obtain⟨a,c,f,hi⟩:=A.shaped.get I q;have m:(l.map (·.2))[j]? = IT f:=by have:=cQ hi;rw[b,DY _ (by rw[dj,z.out];omega),if_neg (sT _)]at this;exact this
     have E:=Ms name m;obtain⟨X,h1,h2,h3,h4,h5,h6⟩:=A.row.seven hi;have ci:=(Cp.out _ (cx (show l[j]? = IT ((l[j]'(by rw[z.out];exact q)).1,f) from by
      have kE:j<l.length:=by rw[z.out];exact q
      rw[bk kE];rw[j1,bk kE]at m;have:=Option.some.inj m;rw[<- this]))).2
     dsimp only at ci;have R:=ac.out f (cx m);have t:=ae A;have U:=ae b;have Q:=ae Y;have HI:=ae hi;have P:=ae E;have DV:=ae I;have al:=ae R;clear A b Y hi E I m R;by_cases N:f.full=Jd/\f.name=name
     .obtain⟨eO,dA⟩:=N;have v:(f.name.toList == name.toList)=true:=by rw[dA];exact beq_self_eq_true _
      have Z:=ae eO;have fV:=ae dA;have aR:Lk (∀W,Lg wr wr W->K1 prog 46 #[ptrTo s,j] W λe w'=>e=Mk (Ly #[])/\bJ w' s db K mb o (r.set j (.slice KK 0 0,cB.none)) hand mf d/\aN (o.In dt) wr w'):=ae (λW V=>
       (Ax (t.out.below V) HI.out Z.out (al.out Z.out) (by show f.k<_;omega)).mono (λe w' ⟨q1,q2,q3⟩=>⟨q1,q2,(aN.aZ V).trans q3 (λx _ e=>by
         rcases e with rfl | rfl
         .exact t.out.pS
         .exact t.out.adx)⟩))
      unfold ptrTo at aR;rw[eO]at X;clear eO dA;go_wp2_with fail;go_call(aR.out _ aj) as e w3⟨rfl,VD,Cs⟩;have bd:=ae VD;have uQ:=ae Cs;clear VD Cs;go_wp2;go_roundw
      case rel=>refine⟨j+1,_,af,by go_num,bd.out,?_,Q.out.trans uQ.out (λ_ _ h=>h)⟩;rw[map_set,U.out,P.out];unfold gG;rw[if_pos ⟨Z.out,fV.out⟩]
      case measure=>simp[Lo];omega
     .have Mv:(r.map (·.2))=oP name (j+1) (l.map (·.2)):=by rw[P.out];unfold gG;rw[if_neg N,<- U.out];exact(tU (cQ HI.out)).symm
      have J:=ae Mv;clear Mv;cases C:f.full with
      |false=>
        rw[C]at X;clear N C;go_wp2;go_roundw
        case rel=>exact⟨j+1,r,af,by go_num,t.out.below aj,J.out,Q.out.b7 aj⟩
        case measure=>simp[Lo];omega
      |true=>
        have v:(f.name.toList == name.toList)=false:=rE (λe=>N ⟨C,e⟩);rw[C]at X;clear N C;go_wp2;go_roundw
        case rel=>exact⟨j+1,r,af,by go_num,t.out.below aj,J.out,Q.out.b7 aj⟩
        case measure=>simp[Lo];omega
    .obtain rfl:j=k:=af
     have t:=ae A;have U:=ae b;have Q:=ae Y;have DV:=ae I;clear A b Y I;obtain⟨⟨aE,-⟩,-⟩:=t.out.head.cells;unfold ptrTo at aE;go_wp2_with fail;go_call(am.out _ o t.out.l6) as e w5⟨rfl,o5,hd5,vG,Gn⟩;have co:cX wr.heap.size o o5:=Gn;go_wp2;go_ret;have D:r.map (·.2)=(l.map (·.2)).map (gG name):=by rw[U.out,<- PC,dj,z.out]
     have hT:aN (o.In dt) w wr:=(aN.aZ T.out).trans Q.out (λ_ _ h=>h);refine⟨c5,d5,o5,L',rfl,⟨K,mb,r,hand,mf,t.out.DL hd5 vG Gn,by rw[DV.out];exact ce.out,by rw[D];exact ko.out⟩,hT.trans vG.bh (λ_ _ h=>h),λx hx=>Gn x (eg hx hT.size),fP.out,gV.out⟩
def fQ:j8:=(.slice KK 0 0,cB.none)
def rG:Array Value:=#[.bool J0,.string ByteArray.empty,Kx Mm 0,.slice KK 0 0,Kx Mm 0,.bool J0,.bool J0]
theorem Xm(n:Nat):madeCells rG (n*7)=(rowOf (ei n fQ)).toArray:=by
 apply Array.ext_getElem?;intro i;by_cases hi:i<n*7
 .have d:(ei n fQ)[i/7]? = IT fQ:=M2;have a:i%7<7:=Hc _ ag;have c:=Hv d a;rw[show 7*(i/7)+i%7=i by omega]at c;have b:(rowOf (ei n fQ)).toArray[i]? = (bW fQ.1 fQ.2)[i%7]? := M2
  rw[b];unfold madeCells;rw[Array.getElem?_map,Array.getElem?_range,if_pos hi];show IT (rG[i%7]!)=(bW fQ.1 fQ.2)[i%7]?;generalize i%7=j at a;match j,a with
  |0,_=>rfl
  |1,_=>rfl
  |2,_=>rfl
  |3,_=>rfl
  |4,_=>rfl
  |5,_=>rfl
  |6,_=>rfl
 grind [size_madeCells,yQ]
theorem Mw:(prog.info? 118).map (λi=>(i.zero,i.size,i.bytes))=IT (IT (LV rG),7,72):=ah
def BK(w:KX)(db n:Nat)(o:ay)(d:Dsk)(L:aL)(e:Lp)(w':KX):Prop:=
 ∃pb o',e=Mk (Ly #[ptrTo pb,Kx Mm 0])/\aU w' pb db n o' d L/\Lg w w w'/\cX w.heap.size o o'/\w.heap.size<=pb
theorem Mx{w:KX}{db:Nat}{o:ay}{d:Dsk}(h:cI w db o d)(n:Nat)(e:1<=n)(s:n<=4096)(q:Sound d (ei n cB.none) L):K1 prog 35 #[ptrTo db,n] w (BK w db n o d L):=by
 obtain⟨i0,E,l,g,C⟩:=info_parts Mw;have J:∀W:KX,(Instr.makeSlice 95 n n).run prog W=.ok (.slice W.heap.size n n) (W.alloc (Mi (rowOf (ei n fQ)).toArray 118)):=λW=>by have j:=run_make (P:=prog) W 95 118 i0 (LV rG) Tryz.underlying95 E l Mm Mm n n af af M2 af;simp only[Int.toNat_natCast]at j;rw[g,show(Value.agg rG).cells=rG from rfl,Xm]at j;exact j
 have z:∀(t:TypeId)(W:KX),(Instr.makeMap t KK).run prog W=.ok (.map (IT W.heap.size)) (W.alloc (.map #[] 0)):=λ_ _=>rfl;have H:=ae h;have v:=ae q;clear h q;unfold ptrTo;go_enter func35,ntmps35;go_wp2;go_returns;have r:Lg w w (((w.alloc (Mi (rowOf (ei n fQ)).toArray 118)).alloc (.map #[] 0)).alloc (Mi #[ptrTo db,.slice w.heap.size n n,.map (IT (w.heap.size+1)),Kx Mm 0,Kx Mm 0,Kx Mm 0] 98)):=(aj.alloc ai _).alloc (by simp;omega) _;have y:∀x t,o x=IT t->x<w.heap.size:=by obtain⟨_,_,_,D⟩:=H.out;exact D.owned
 have s1:(w.alloc (Mi (rowOf (ei n fQ)).toArray 118)).heap.size=w.heap.size+1:=ai;have s2:((w.alloc (Mi (rowOf (ei n fQ)).toArray 118)).alloc (.map #[] 0)).heap.size=w.heap.size+1+1:=ai;have I:∀(W:KX)(f:Obj)(b:Nat),b<W.heap.size->(W.alloc f).heap[b]? = W.heap[b]? := λW f b u=>(MapKept.heap_alloc W f).2 b u;let o':ay:=((o.set w.heap.size (7,0)).set (w.heap.size+1) (8,0)).set (w.heap.size+1+1) (6,0)
 have a:cX w.heap.size o o':=(((cX.refl _ _).set (cg _) _).set af _).set af _;have A:∀x t,o x=IT t->o' x=IT t:=λx t c=>by rw[a x (y x t c)];exact c
 have m:∀x t,o' x=IT t->x<w.heap.size+3:=λx t c=>by grind [ay.dB]
 refine⟨w.heap.size+1+1,o',rfl,⟨w.heap.size,w.heap.size+1,ei n fQ,0,0,?_,List.length_replicate,?_⟩,r,a,af⟩
 .refine { l6:=?_,Cn:=ay.tU _ _ _,vT:=?_,rC:=?_,head:=⟨98,?_⟩,row:=⟨118,?_⟩,yR:=⟨[],?_,?_⟩,each:=?_,hand:=?_,most:=?_,full:=em _ }
  .exact H.out.kept (S:=λ_=>False) (aN.aZ r) (λ_ _ _ _ h=>h) A (λx t c=>by have:=m x t c;simp_all)
  .grind [ay.dB,ay.tU]
  .grind [ay.dB,ay.tU]
  .grind [World.alloc,ptrTo]
  .grind [Lw]
  .have F:=cj.made (w.alloc (Mi (rowOf (ei n fQ)).toArray 118)) prog 116 eZ (λi:Nat=>i);grind [cj.kept]
  .intro nm k i;constructor
   .intro h;cases h
   .rintro⟨G,e,s,_⟩;rw[j1,List.getElem?_replicate]at e;split at e
    .cases e;cases s
    grind
  .intro p B;rw[List.eq_of_mem_replicate B];exact⟨ownsRow_nil _ _ _,λb u=>by grind [fQ,Value.ownBlock]⟩
  .grind
  grind
 .rw[List.map_replicate];exact v.out
structure Moved(S:Nat->Prop)(n pb db:Nat)(w:KX)(o:ay)(d:Dsk)(w':KX)(o':ay)(d':Dsk)(L':aL):Prop where
 bh:aU w' pb db n o' d' L'
 turn:aN (λx=>o.In dt x\/S x) w w'
 grow:cX w.heap.size o o'
 on:cd d d'
section
variable {S S':Nat->Prop}{n pb db:Nat}{w w' s:KX}{o o' q:ay}{d d' u:Dsk}{L' p:aL}
theorem aU.owned(h:aU w pb db n o d L):∀x t,o x=IT t->x<w.heap.size:=by obtain⟨_,_,_,_,_,h,_,_⟩:=h;exact h.owned
theorem Moved.refl(S:Nat->Prop)(h:aU w pb db n o d L):Moved S n pb db w o d w o d L:=⟨h,aN.refl _ _,cX.refl _ _,cd.refl _⟩
theorem Moved.size(h:Moved S n pb db w o d w' o' d' L'):w.heap.size<=w'.heap.size:=h.turn.size
theorem Moved.trans(h:Moved S n pb db w o d w' o' d' L')(k:Moved S' n pb db w' o' d' s q u p)(f:∀x,x<w.heap.size->S' x->S x):Moved S n pb db w o d s q u p:=
 ⟨k.bh,h.turn.trans k.turn (λx a e=>e.imp (λ⟨t,c,b⟩=>⟨t,by rw[<- h.grow x a];exact c,b⟩) (f x a)),h.grow.trans k.grow h.size,h.on.trans k.on⟩
theorem Moved.mono(h:Moved S n pb db w o d w' o' d' L')(b:∀x,x<w.heap.size->S x->S' x):Moved S' n pb db w o d w' o' d' L':=
 ⟨h.bh,h.turn.mono λx a e=>e.imp id (b x a),h.grow,h.on⟩
theorem Moved.below(h:Moved S n pb db w o d w' o' d' L')(a:Lg w' w' s):Moved S n pb db w o d s o' d' L':=
 ⟨h.bh.below a,h.turn.b7 a,h.grow,h.on⟩
theorem Moved.aZ(h:aU w pb db n o d L)(a:Lg w w w'):Moved S n pb db w o d w' o d L:=(Moved.refl S h).below a
theorem Moved.alloc(h:Moved S n pb db w o d w' o' d' L')(a:Obj):Moved S n pb db w o d (w'.alloc a) o' d' L':=h.below (aq.alloc (cg _) a)
theorem Moved.drew(h:Moved S n pb db w o d w' o' d' L'):Moved S n pb db w o d w'.drew o' d' L':=h.below aq.drew
theorem Moved.drewN(h:Moved S n pb db w o d w' o' d' L')(k:Nat):Moved S n pb db w o d (w'.drewN k) o' d' L':=h.below (below_drewN aq k)
theorem Moved.free(h:Moved S n pb db w o d w' o' d' L'){x:Nat}(a:x<w.heap.size)(b:o x=KK):o' x=none:=by rw[h.grow x a];exact b
theorem Moved.block(h:Moved S n pb db w o d w' o' d' L'){x:Nat}(a:x<w.heap.size)(b:o x=KK)(c:¬S x):w'.heap[x]? = w.heap[x]? :=
 h.turn.block x a (λe=>e.elim (ay.eB b) c)
theorem Moved.not{x:Nat}(a:o x=KK)(b:¬S x):¬(o.In dt x\/S x):=λe=>e.elim (ay.eB a) b
theorem Moved.heap(h:Moved S n pb db w o d w' o' d' L'){x:Nat}{a:Obj}(b:w.heap[x]? = IT a)(c:o x=KK)(e:¬S x):w'.heap[x]? = IT a:=by grind [block]
theorem Moved.cell(h:Moved S n pb db w o d w' o' d' L'){a:Addr}{v:J3}(c:w.cell? a=IT v)(b:o a.block=KK)(e:¬S a.block):w'.cell? a=IT v:=
 h.turn.cell c (Moved.not b e)
theorem Moved.ownsRow(h:Moved S n pb db w o d w' o' d' L'){base:Nat}{e:TypeId}{size:Nat}{v:J3}{k:Nat}{xs:List J3}(f:w.ownsRow base e size v k xs)(c:∀b,v.ownBlock=IT b->o b=KK/\¬S b):w'.ownsRow base e size v k xs:=
 h.turn.ownsRow f λb a=>Moved.not (c b a).1 (c b a).2
theorem Moved.rd(h:Moved S n pb db w o d w' o' d' L'){v:J3}{bs:List UInt8}(e:Rd w v bs)(c:∀b,v.ownBlock=IT b->o b=KK/\¬S b):Rd w' v bs:=
 h.turn.rd e λb a=>Moved.not (c b a).1 (c b a).2
theorem aU.turned(h:aU w pb db n o d L){b:Nat}(f:o b=KK)(c:aN (·=b) w w'):aU w' pb db n o d L:=
 h.kept c (λx a e=>by grind [ay.eB]) (λ_ _ h=>h) (λx t a=>eg (h.owned x t a) c.size)
theorem Moved.setCell(h:Moved S n pb db w o d w' o' d' L')(a:Addr)(v:J3)(b:o' a.block=KK)(c:S a.block\/w.heap.size<=a.block):Moved S n pb db w o d (w'.setCell a v) o' d' L':=
 ⟨h.bh.turned b ((aN.refl (·=a.block) w').setCell a v (.inl rfl)),h.turn.setCell a v (c.imp Or.inr id),h.grow,h.on⟩
theorem Moved.turned(h:Moved S n pb db w o d w' o' d' L'){b:Nat}(c:o' b=KK)(g:S b\/w.heap.size<=b)(a:aN (·=b) w' s):Moved S n pb db w o d s o' d' L':=
 ⟨h.bh.turned c a,h.turn.trans a (λx f e=>M2),h.grow,h.on⟩
theorem Moved.grown(h:Moved S n pb db w o d w' o' d' L'){row:Option Nat}(b:w'.grownBy s row)(f:∀k,row=IT k->o' k=KK/\(S k\/w.heap.size<=k)):Moved S n pb db w o d s o' d' L':=by have c:aN (λx=>row=IT x) w' s:=⟨b.os,b.tape,b.output,b.size,λx a g=>b.block x a (λe=>g e.symm)⟩;refine⟨h.bh.kept c (λx a e=>ay.eB (f x e).1 a) (λ_ _ h=>h) (λx t a=>eg (h.bh.owned x t a) c.size),h.turn.trans c (λx a e=>?_),h.grow,h.on⟩;grind
theorem aU.fresh(h:aU w pb db n o d L){x:Nat}(a:w.heap.size<=x):o x=none:=fN h.owned a
theorem aU.congr(h:aU w pb db n o d L)(c:(L'.map (·.1)).Nodup)(q:∀x,aI L' x=aI L x):aU w pb db n o d L':=by obtain⟨i,a,l,hand,e,h,b,g⟩:=h;exact⟨i,a,l,hand,e,h,b,{ keys:=c,ij:=g.ij,names:=λx=>by grind [Sound.names],ok:=λx=>by grind [Sound.ok],ej:=λx ps fl=>by grind [Sound.ej],oJ:=λx f k=>by grind [Sound.oJ],frames:=λp j m=>by grind [Sound.frames],blank:=g.blank,once:=g.once,dI:=λx s=>by grind [Sound.dI] }⟩
theorem aU.keys(h:aU w pb db n o d L):(L.map (·.1)).Nodup:=by obtain⟨_,_,_,_,_,_,_,g⟩:=h;exact g.keys
theorem aU.ok(h:aU w pb db n o d L){x:Name}{f:jV}(a:aI L x=IT f):b6 x=true:=by obtain⟨_,_,_,_,_,_,_,g⟩:=h;grind [Sound.ok]
theorem Moved.congr(h:Moved S n pb db w o d w' o' d' L')(a:(p.map (·.1)).Nodup)(b:∀x,aI p x=aI L' x):Moved S n pb db w o d w' o' d' p:=⟨h.bh.congr a b,h.turn,h.grow,h.on⟩
theorem DZ(a:(L.map (·.1)).Nodup)(b:(L'.map (·.1)).Nodup)(d:∀x,aI L' x=aI L x):need L'=need L:=by
 unfold need;rw[yP b,yP a];have c:(L'.map (·.1)).Perm (L.map (·.1)):=yO b a λx=>by grind [mem_keys]
 grind
end
def aM(w:KX)(b a:Nat)(name:Name)(sz:Nat):Prop:=∃t,w.heap[b]? = IT (Mi #[ptrTo a,.string name,sz] t)
section
variable {S:Nat->Prop}{w w':KX}{pb db n sz:Nat}{o o':ay}{d d':Dsk}{L':aL}
theorem aM.cells(h:aM w l pb name sz):w.cell? l=IT (ptrTo pb)/\w.cell? ⟨l,1,KK⟩=IT (.string name)/\w.cell? ⟨l,2,KK⟩=sz:=by obtain⟨t,h⟩:=h;refine⟨?_,?_,?_⟩<;>rw[au h]<;>rfl
theorem aM.lt(h:aM w l pb name sz):l<w.heap.size:=by obtain⟨t,h⟩:=h;exact(ds.1 h).1
theorem aM.kept(h:aM w l pb name sz)(a:w'.heap[l]? = w.heap[l]?):aM w' l pb name sz:=by obtain⟨t,h⟩:=h;exact⟨t,a.trans h⟩
theorem aM.below(h:aM w l pb name sz)(a:Lg w w w'):aM w' l pb name sz:=h.kept (a.block _ h.lt)
theorem aM.moved(h:aM w l pb name sz)(c:Moved S n pb db w o d w' o' d' L')(a:o l=KK)(b:¬S l):aM w' l pb name sz:=h.kept (c.block h.lt a b)
theorem aU.ej(h:aU w pb db n o d L)(a:aI L name=IT (.inl (ps,fl))):ps.length<=65536/\kJ ps:=by obtain⟨_,_,_,_,_,_,_,g⟩:=h;obtain⟨f,b,q⟩:=g.ej _ _ _ a;exact⟨q.most,q.short⟩
theorem nr(h:aU w pb db n o d L)(a:aI L name=IT (.inl (ps,fl))):K1 prog 75 #[ptrTo pb,.string name] w λe w'=>e=Mk (Ly #[(fA d ps).1,(fA d ps).2])/\Lg w w w':=by obtain⟨_,_,_,_,_,b,_,g⟩:=h;exact ug b g a
theorem Gs(h:aU w pb db n o d L)(name:Name)(f:name.size<=1000):K1 prog 75 #[ptrTo pb,.string name] w λe w'=>(∃k:Nat,e=Mk (Ly #[k,dw d name]))/\Lg w w w':=by obtain⟨_,_,_,_,_,a,_,g⟩:=h;exact(Hw a (λp a=>(g.AA p a).2) name f).mono λe w' ⟨c,b⟩=>⟨⟨_,c⟩,b⟩
theorem jH(h:aU w pb db n o d L)(c:aI L name=IT (.inl (ps,fl))):dw d name=if d.dead=Jd then 6 else 0:=by
 obtain⟨_,_,_,_,_,_,_,g⟩:=h;obtain⟨f,i,q,e,b⟩:=g.DR c;cases a:d.dead with
 |true=>rw[(b a).2];rfl
 |false=>rw[(e a).2];rfl
def eT(w:KX)(b:Nat)(name:Name)(sz:Nat)(c:Nat)(e:Lp)(w':KX):Prop:=
 ∃v,e=Mk (Ly #[v,c])/\Lg w w w'/\(c=0->∃a,v=ptrTo a/\aM w' a b name sz/\w.heap.size<=a)/\(c≠0->v=.pointer KK)
theorem eU(h:aU w pb db n o d L)(name:Name)(j:name.size<=1000)(p:1<=sz)(q:sz<=240):K1 prog 37 #[ptrTo pb,.string name,sz] w (eT w pb name sz (dw d name)):=by
 have f:=ae (Gs h name j);have r:¬((sz:Int)<1):=af;have m:¬((sz:Int)>240):=af;clear h;unfold ptrTo at *;generalize l:dw d name=c at *;clear l;by_cases b:c=0
 .subst b;go_enter func37,ntmps37;go_wp2_with fail;go_call f.out as e w1⟨⟨k,rfl⟩,hb⟩;have a:=ae hb;clear hb;go_wp2;go_ret2;refine⟨_,rfl,a.out.alloc a.out.size _,λ_=>⟨w1.heap.size,rfl,⟨_,Lw w1 _⟩,a.out.size⟩,λh=>absurd rfl h⟩
 .have i:¬(c:Int)=0:=af;have g:=ae b;clear b;go_enter func37,ntmps37;go_wp2_with fail;go_call f.out as e w1⟨⟨k,rfl⟩,hb⟩;have a:=ae hb;clear hb;go_wp2;go_ret2;exact⟨_,rfl,a.out,λh=>absurd h g.out,λ_=>rfl⟩
theorem vW(h:aM w l pb name sz)(f:1<=sz)(g:sz<=240):K1 prog 103 #[ptrTo l] w λe w'=>e=fw sz/\w=w':=by
 obtain⟨-,-,b⟩:=h.cells;have j:(240:Int).tdiv (sz:Int)=(fw sz:Int):=by unfold fw;rw[D0 af];rfl
 clear h;have d:¬(sz:Int)=0:=af;unfold ptrTo;have a:fw sz<=240:=DH _ _;generalize c:fw sz=p at *;clear c;have i:wrap64 (p:Int)=p:=by unfold wrap64;omega
 go_enter func103,ntmps103;go_wp2;go_ret;exact⟨rfl,rfl⟩
def Ia(n a db:Nat)(w:KX)(o:ay)(d:Dsk)(L:aL)(R:Nat->Lp->KX->ay->Prop)(e:Lp)(w':KX):Prop:=
 ∃c d' o',R c e w' o'/\Moved (λ_=>False) n a db w o d w' o' d' L/\(c=0\/om d d' L c)
def Ib(k:Nat)(c:Nat)(e:Lp)(_:KX)(_:ay):Prop:=∃x:Nat,e=Mk (Ly #[x,c])/\(c=0->x=k)
theorem lj(a:aU w' pb db n o' d' L')(b:aN (o.In dt) w w')(c:cX w.heap.size o o')(e:cd d d'):Moved S n pb db w o d w' o' d' L':=
 ⟨a,b.mono (λ_ _ h=>.inl h),c,e⟩
theorem D3(f:iA sz rs)(c:1<=sz)(e:sz<=240)(d:0<rs.length) :
 ∃(q m:Nat)(b:Pg),(bf (fw sz) rs).length=q+1/\(bf (fw sz) rs)[q]? = IT b/\b.length=sz*m/\1<=m/\m<=fw sz/\q*fw sz+m=rs.length/\b=(rs.drop (fw sz*q)).flatten:=by
 have a:=sq c e;obtain⟨g,i,h⟩:=Tj a d;refine⟨cN (fw sz) rs.length-1,rs.length-fw sz*(cN (fw sz) rs.length-1),_,?_,by rw[jq a,if_pos g],?_,af,af,by rw[vx];omega,?_⟩
 .rw[dG];omega
 .rw[pQ f,Nat.min_eq_right af]
 .rw[ey (by rw[ie];omega)]
theorem mG(HW:aV)(h:aU w pb db n o d L)(t:aM w l pb name sz)(ho:o l=KK)(M:1<=sz)(h2:sz<=240)(J:aI L name=IT (.inl (bf (fw sz) rs,fl)))(hs:iA sz rs):K1 prog 54 #[ptrTo l] w (Ia n pb db w o d L (Ib rs.length)):=by
 obtain⟨jT,D4⟩:=h.ej J;have i:Lk (∀W,Lg w w W->K1 prog 75 #[ptrTo pb,.string name] W λe w'=>e=Mk (Ly #[(fA d (bf (fw sz) rs)).1,(fA d (bf (fw sz) rs)).2])/\Lg W W w'):=ae (λW r=>nr (h.below r) J);have pU:Lk (∀W,Lg w w W->∀(k:Nat)(b:Pg),(bf (fw sz) rs)[k]? = IT b->K1 prog 77 #[ptrTo pb,.string name,k] W (jG W pb db n o d L b)):=ae (λW r k b hk=>sy HW (h.below r) J hk);have H:=ae h;have c:=ae t;have HO:=ae ho;have Jy:=ae (λhN=>D3 (rs:=rs) hs M h2 hN);have al:=ae (λW(r:aM W l pb name sz)=>vW r M h2);have pE:=sr sz;have Vy:=t.lt;clear h t ho J hs D4;unfold ptrTo at *;unfold fA at i;cases E:d.dead with
 |true=>
   rw[E,if_pos rfl]at i;have HD:=ae E;clear E;dsimp only at i;go_enter func54,ntmps54;go_wp2;refine wq w ?_;iterate 3 (refine qz ?_)
   refine qz ?_ (λw' a=>by have f:=(c.out.below a).cells.1;unfold ptrTo at f;go_simp<;>rfl);iterate 3 (refine qz ?_)
   refine qz ?_ (λw' a=>by have f:=(c.out.below a).cells.2.1;go_simp<;>rfl);refine qw (λw' a=>(i.out w' a).mono (λe s h=>⟨h.1,a.trans (h.2.mono a.size)⟩)) ?_;iterate 5 (refine qz ?_)
   refine wpQuiet_nil ?_;intro K g;have U:=ae g;clear g;go_wp2;go_ret2;exact⟨6,d,o,⟨0,rfl,λh=>absurd h ag⟩,Moved.aZ H.out U.out,.inr (.inr ⟨rfl,HD.out⟩)⟩
 |false=>
   rw[E,if_neg ai]at i;clear E;dsimp only at i;rcases qp rs.length with hz | hN
   .have hP:(bf (fw sz) rs).length=0:=by rw[dG,hz];unfold cN;have:=sq M h2;rw[Nat.div_eq_of_lt af]
    rw[hP]at i;have HZ:=ae hz;clear hz hP jT;go_enter func54,ntmps54;go_wp2;refine wq w ?_;iterate 3 (refine qz ?_)
    refine qz ?_ (λw' a=>by have f:=(c.out.below a).cells.1;unfold ptrTo at f;go_simp<;>rfl);iterate 3 (refine qz ?_)
    refine qz ?_ (λw' a=>by have f:=(c.out.below a).cells.2.1;go_simp<;>rfl);refine qw (λw' a=>(i.out w' a).mono (λe s h=>⟨h.1,a.trans (h.2.mono a.size)⟩)) ?_;iterate 5 (refine qz ?_)
    refine wpQuiet_nil ?_;intro K g;have U:=ae g;clear g;go_wp2;go_ret2;exact⟨0,d,o,⟨0,rfl,λ_=>HZ.out.symm⟩,Moved.aZ H.out U.out,.inl rfl⟩
   .obtain⟨q,m,b,f1,f2,f3,f4,f5,f6,-⟩:=Jy.out hN;have PD:Lk (∀W,Lg w w W->K1 prog 77 #[.pointer pb,.string name,q] W (jG W pb db n o d L b)):=ae (λW r=>pU.out W r q b f2);have hq:q<=65536:=af;have hm:sz*m<=240:=cp (pc sz f5) pE;have oh:1<=sz*m:=Nat.mul_pos af af;have e1:(sz*m)/sz=m:=Nat.mul_div_cancel_left m af;have I:(sz*m)%sz=0:=Nat.mul_mod_right sz m;have co:rs.length<=16777216:=by have:fw sz<=240:=DH _ _;have:=IM hq this;omega
    generalize Z:(bf (fw sz) rs).length=P at *;rw[<- f3]at hm oh e1 I;generalize A:b.length=B at *;generalize bd:rs.length=N at *;generalize am:fw sz=p at *;have hT:q*p<=N:=af;generalize G:q*p=T at *;have F:cf Mm ((P:Int)-1)=q:=by rw[ax af af];omega
    have z:cf Mm ((q:Int)*p)=T:=by rw[<- Int.natCast_mul,G];exact ax af af
    have y:(B:Int).tdiv (sz:Int)=m:=by rw[D0 af,<- Int.natCast_ediv,e1]
    have C:(B:Int).tmod (sz:Int)=0:=by rw[Ev af,<- vK,I];rfl
    have Xn:(B:Int)%sz=0:=by rw[<- vK,I];rfl
    have D:cf Mm ((T:Int)+m)=N:=by rw[ax af af];omega
    have ci:¬(B:Int)=0:=af;have ce:¬(sz:Int)=0:=af;have de:¬(P:Int)=0:=af;have FM:=ae A;have aE:Lk (cf Mm (m:Int)=m):=ae (ax af af);have TB:=ae F;have R:=ae z;have Y:=ae y;have Q:=ae C;have Xo:=ae Xn;have ac:=ae D;clear Z bd am G A f1 f2 f3 f6 e1 I F z y C Xn D;go_enter func54,ntmps54;go_wp2;refine wq w ?_;iterate 3 (refine qz ?_)
    refine qz ?_ (λw' a=>by have f:=(c.out.below a).cells.1;unfold ptrTo at f;go_simp<;>rfl);iterate 3 (refine qz ?_)
    refine qz ?_ (λw' a=>by have f:=(c.out.below a).cells.2.1;go_simp<;>rfl);refine qw (λw' a=>(i.out w' a).mono (λe s h=>⟨h.1,a.trans (h.2.mono a.size)⟩)) ?_;iterate 5 (refine qz ?_)
    refine wpQuiet_nil ?_;intro K g;have cD:=ae g;have Gt:=ae (c.out.below g);clear g;go_wp2;refine cW (Lg K K) 10 rfl ah ah (aq.drew) ?_;simp only[ii,j2];iterate 3 (refine qz ?_)
    refine qz ?_ (λw' a=>by have f:=(Gt.out.below a).cells.1;unfold ptrTo at f;go_simp<;>rfl);iterate 3 (refine qz ?_)
    refine qz ?_ (λw' a=>by have f:=(Gt.out.below a).cells.2.1;go_simp<;>rfl);refine qz ?_;refine qz ?_ (λw' a=>by have u:=TB.out;go_simp<;>rfl);refine wpQuiet_nil ?_;intro w2 v;refine⟨_,_,rfl,(by go_simp<;>exact⟨rfl,rfl⟩),?_⟩;have cA:Lk (Lg w w w2):=ae (cD.out.trans (v.mono cD.out.size));go_call(PD.out w2 cA.out) as e w3⟨v3,c3,d3,o3,rfl,VD,Cs,hg3,aji,Ic,y7,D5⟩;have V:Lk (Moved (λ_=>False) n pb db w o d w3 o3 d3 L):=ae ((Moved.aZ H.out cA.out).trans (lj (S:=λ_=>False) VD Cs hg3 aji) (λ_ _ h=>h));have BL:=ae Ic;have y8:=ae (c.out.moved V.out HO.out (λh=>h));clear v VD Cs hg3 aji Ic;by_cases j:c3=0
    .subst j;obtain⟨X,-⟩:=y7 rfl;rw[FM.out]at X;obtain⟨a3,k3,rfl⟩:=aw X;clear y7 D5 X;refine⟨_,rfl,?_⟩;go_simp;iterate 5 (refine qz ?_)
     refine wpQuiet_nil ?_;have u:=Q.out;have x:=Xo.out;have f:=y8.out.cells.2.2;go_wp2;clear u x;refine wq w3 ?_;refine qz ?_;refine qz ?_ (λw' a=>by have u:=TB.out;go_simp<;>rfl);refine qz ?_;refine qw (λw' a=>(al.out w' (y8.out.below a)).mono (λe s h=>⟨h.1,h.2▸a⟩)) ?_;refine qz ?_ (λw' a=>by have u:=R.out;go_simp<;>rfl);iterate 5 (refine qz ?_)
     refine qz ?_ (λw' a=>by have f:=(y8.out.below a).cells.2.2;go_simp<;>rfl);refine qz ?_ (λw' a=>by have u:=Y.out;have x:=aE.out;go_simp<;>rfl);refine qz ?_ (λw' a=>by have u:=ac.out;go_simp<;>rfl);iterate 2 (refine qz ?_)
     refine wpQuiet_nil ?_;intro w4 O;go_wp2;go_ret2;exact⟨0,d3,o3,⟨N,rfl,λ_=>rfl⟩,V.out.below O,.inl rfl⟩
    .obtain rfl:=D5 j;have PE:¬(c3:Int)=0:=af;have OV:=ae j;clear j y7 D5;refine⟨_,rfl,?_⟩;go_simp;iterate 5 (refine qz ?_)
     refine wpQuiet_nil ?_;go_wp2;go_ret2;exact⟨c3,d3,o3,⟨0,rfl,λh=>absurd h OV.out⟩,V.out,BL.out⟩
end
section
variable {S:Nat->Prop}{w w':KX}{pb db n sz:Nat}{o o':ay}{d d':Dsk}{L':aL}
theorem Ie(a:iA sz rs)(f:1<=sz)(g:sz<=240)(hi:i<rs.length) :
 ∃b:Pg,(bf (fw sz) rs)[i/fw sz]? = IT b/\b.length%sz=0/\sz*(i%fw sz)+sz<=b.length/\(b.drop (sz*(i%fw sz))).take sz=rs[i]/\b.length<=240:=by
 have c:=sq f g;obtain⟨h,e,d⟩:=WJ a c hi;refine⟨_,by rw[jq c,if_pos h],?_,d,e,?_⟩
 .rw[pQ a];exact Nat.mul_mod_right _ _
 .rw[pQ a];exact cp (pc sz (Nat.min_le_left _ _)) (sr sz)
def aft(n f db:Nat)(w:KX)(o:ay)(d:Dsk)(L:aL)(b:Pg)(k a:Nat)(e:Lp)(w':KX):Prop:=
 ∃v c d' o',e=Mk (Ly #[v,Kx Mm ((if c=0 then k else 0:Nat):Int),Kx Mm ((if c=0 then a else 0:Nat):Int),Kx Mm ((c:Nat):Int)])/\Moved (λ_=>False) n f db w o d w' o' d' L/\(c=0\/om d d' L c) /\
  (c=0->w'.ownsRow w.heap.size 5 1 v b.length (b.map bv)/\∀x,v.ownBlock=IT x->o' x=KK)
theorem Gu(HW:aV)(h:aU w pb db n o d L)(u:aM w l pb name sz)(ho:o l=KK)(R:1<=sz)(h2:sz<=240)(K:aI L name=IT (.inl (bf (fw sz) rs,fl)))(hs:iA sz rs)(hi:i<rs.length){b:Pg}(Q:(bf (fw sz) rs)[i/fw sz]? = IT b):K1 prog 170 #[ptrTo l,i] w (aft n pb db w o d L b (i/fw sz) (sz*(i%fw sz))):=by
 obtain⟨jT,D4⟩:=h.ej K;have t:Lk (∀W,Lg w w W->K1 prog 75 #[ptrTo pb,.string name] W λe w'=>e=Mk (Ly #[(fA d (bf (fw sz) rs)).1,(fA d (bf (fw sz) rs)).2])/\Lg W W w'):=ae (λW E=>nr (h.below E) K);have pU:Lk (∀W,Lg w w W->K1 prog 77 #[ptrTo pb,.string name,(i/fw sz:Nat)] W (jG W pb db n o d L b)):=ae (λW E=>sy HW (h.below E) K Q);have H:=ae h;have f:=ae u;have HO:=ae ho;obtain⟨J,m,f1,f2,-,f4⟩:=Ie hs R h2 hi;obtain rfl:J=b:=by rw[Q]at m;exact(Option.some.inj m).symm
 have D:=ae (λW(E:aM W l pb name sz)=>vW E R h2);have pE:=sr sz;have zY:=sq R h2;have dq:fw sz<=240:=DH _ _;have Vy:=u.lt;have du:=aK Q;have bd:rs.length<=16777216:=by
  have h3:rs.length<=fw sz*(bf (fw sz) rs).length:=by rw[dG];exact Nat.le_of_not_lt (λh=>sT _ ((eR zY).2 h))
  have h4:fw sz<=240:=DH _ _;have:=IM h4 jT;omega
 have LJ:i/fw sz<=i:=DH _ _;have T:i%fw sz<fw sz:=Hc _ af;have co:sz*(i%fw sz)<=240:=cp (pc sz (yi T)) pE;have I:(i:Int).tdiv (fw sz:Int)=((i/fw sz:Nat):Int):=by rw[D0 af,Int.natCast_ediv]
 have y:(i:Int).tmod (fw sz:Int)=((i%fw sz:Nat):Int):=by rw[Ev af,vK]
 have q:cf Mm (((i%fw sz:Nat):Int)*sz)=((sz*(i%fw sz):Nat):Int):=by rw[<- Int.natCast_mul,vx];exact ax af af
 have A:(J.length:Int).tmod (sz:Int)=0:=by rw[Ev af,<- vK,f1];rfl
 have Xn:(J.length:Int)%sz=0:=by rw[<- vK,f1];rfl
 clear h u ho K hs D4 Q m f1;unfold ptrTo at *;unfold fA at t;generalize z:J.length=B at *;have FM:=ae z;clear z;generalize (bf (fw sz) rs).length=P at *;generalize i/fw sz=k at *;generalize i%fw sz=r at *;generalize fw sz=p at *;obtain⟨a,ha⟩:=ac (sz*r);rw[<- ha]at co f2 q ⊢;have ce:=ae I;have Z:=ae y;have aE:=ae q;have X:=ae A;have Xo:=ae Xn;have dl:i<16777216:=af;clear I y q A Xn ha hi bd;have tj:¬((i:Int)<0):=af;have ee:¬((k:Int) >= P):=af;have el:¬((a:Int) >= B):=af;have de:¬(sz:Int)=0:=af;have F:¬p=0:=af;have am:Lk (cf Mm (k:Int)=k):=ae (ax af af);have al:Lk (cf Mm (r:Int)=r):=ae (ax af af);cases C:d.dead with
 |true=>
   rw[C,if_pos rfl]at t;have HD:=ae C;clear C;dsimp only at t;go_enter func170,ntmps170;go_wp2;refine wq w ?_;iterate 3 (refine qz ?_)
   refine qz ?_ (λw' c=>by have g:=(f.out.below c).cells.1;unfold ptrTo at g;go_simp<;>rfl);iterate 3 (refine qz ?_)
   refine qz ?_ (λw' c=>by have g:=(f.out.below c).cells.2.1;go_simp<;>rfl);refine qw (λw' c=>(t.out w' c).mono (λe s h=>⟨h.1,c.trans (h.2.mono c.size)⟩)) ?_;iterate 5 (refine qz ?_)
   refine wpQuiet_nil ?_;intro w1 v;have HB:=ae v;clear v;go_wp2;go_returns;exact⟨_,6,d,o,rfl,Moved.aZ H.out HB.out,.inr (.inr ⟨rfl,HD.out⟩),λh=>absurd h ag⟩
 |false=>
   rw[C,if_neg ai]at t;clear C;dsimp only at t;go_enter func170,ntmps170;go_wp2;refine wq w ?_;iterate 3 (refine qz ?_)
   refine qz ?_ (λw' c=>by have g:=(f.out.below c).cells.1;unfold ptrTo at g;go_simp<;>rfl);iterate 3 (refine qz ?_)
   refine qz ?_ (λw' c=>by have g:=(f.out.below c).cells.2.1;go_simp<;>rfl);refine qw (λw' c=>(t.out w' c).mono (λe s h=>⟨h.1,c.trans (h.2.mono c.size)⟩)) ?_;iterate 5 (refine qz ?_)
   refine wpQuiet_nil ?_;intro w1 v;have cD:=ae v;have O:=ae (f.out.below v);clear v;go_wp2;refine wq w1 ?_;iterate 2 (refine qz ?_)
   refine qw (λw' c=>(D.out w' (O.out.below c)).mono (λe s h=>⟨h.1,h.2▸c⟩)) ?_;refine qz ?_ (λw' c=>by have Y:=ce.out;have x:=F;have ci:=am.out;go_simp<;>rfl);iterate 2 (refine qz ?_)
   refine qw (λw' c=>(D.out w' (O.out.below c)).mono (λe s h=>⟨h.1,h.2▸c⟩)) ?_;refine qz ?_ (λw' c=>by have Y:=Z.out;have x:=F;have ci:=al.out;go_simp<;>rfl);iterate 3 (refine qz ?_)
   refine qz ?_ (λw' c=>by have g:=(O.out.below c).cells.2.2;go_simp<;>rfl);refine qz ?_ (λw' c=>by have Y:=aE.out;go_simp<;>rfl);iterate 2 (refine qz ?_)
   refine wpQuiet_nil ?_;intro V j;have cA:Lk (Lg w w V):=ae (cD.out.trans (j.mono cD.out.size));have qK:=ae (O.out.below j);clear j;go_wp2;refine cW (Lg V V) 9 rfl ah ah (aq.drew) ?_;simp only[ii,j2];iterate 3 (refine qz ?_)
   refine qz ?_ (λw' c=>by have g:=(qK.out.below c).cells.1;unfold ptrTo at g;go_simp<;>rfl);iterate 3 (refine qz ?_)
   refine qz ?_ (λw' c=>by have g:=(qK.out.below c).cells.2.1;go_simp<;>rfl);refine qz ?_;refine wpQuiet_nil ?_;intro w3 G;refine⟨_,_,rfl,(by go_simp<;>exact⟨rfl,rfl⟩),?_⟩;have gU:Lk (Lg w w w3):=ae (cA.out.trans (G.mono cA.out.size));go_call(pU.out w3 gU.out) as e w4⟨v4,c4,d4,o4,rfl,r7,yH,hg4,y4,Cq,PF,D6⟩;have jg:Lk (Moved (λ_=>False) n pb db w o d w4 o4 d4 L):=ae ((Moved.aZ H.out gU.out).trans (lj (S:=λ_=>False) r7 yH hg4 y4) (λ_ _ h=>h));have zZ:=ae Cq;have Jz:=ae (f.out.moved jg.out HO.out (λh=>h));clear G r7 yH hg4 y4 Cq;by_cases N:c4=0
   .subst N;obtain⟨M,Cl⟩:=PF rfl;have U:=ae Cl;rw[FM.out]at M;obtain⟨a4,k4,rfl⟩:=aw M;have OS:=ae M;clear PF D6 M Cl;refine⟨_,rfl,?_⟩;go_simp;iterate 5 (refine qz ?_)
    refine wpQuiet_nil ?_;have Y:=X.out;have x:=Xo.out;have g:=Jz.out.cells.2.2;go_wp2;go_returns;exact⟨_,0,d4,o4,rfl,jg.out,.inl rfl,λ_=>⟨by rw[FM.out];exact aQ OS.out gU.out.size,U.out⟩⟩
   .obtain rfl:=D6 N;have y5:¬(c4:Int)=0:=af;have FL:=ae N;clear N PF D6;refine⟨_,rfl,?_⟩;go_simp;iterate 5 (refine qz ?_)
    refine wpQuiet_nil ?_;go_wp2;go_returns;exact⟨_,c4,d4,o4,by rw[if_neg FL.out,if_neg FL.out];rfl,jg.out,zZ.out,λh=>absurd h FL.out⟩
def JA(n a db:Nat)(w:KX)(o:ay)(d:Dsk)(L:aL)(r:Rec)(e:Lp)(w':KX):Prop:=
 ∃v c d' o',e=Mk (Ly #[v,Kx Mm ((c:Nat):Int)])/\Moved (λ_=>False) n a db w o d w' o' d' L/\(c=0\/om d d' L c) /\
  (c=0->w'.ownsRow w.heap.size 5 1 v r.length (r.map bv)/\∀x,v.ownBlock=IT x->o' x=KK)/\(c≠0->v=.slice KK 0 0)
theorem Gv(w:KX)(e:TypeId)(base:Nat)(a:base<=w.heap.size):(w.alloc (Mi #[] e)).ownsRow base e 1 (.slice w.heap.size 0 0) 0 []:=
 ⟨rfl,.inr ⟨w.heap.size,0,#[],rfl,a,Lw w _,cg _,by unfold maxLen;omega,rfl,rfl⟩⟩
theorem nO(HW:aV)(h:aU w pb db n o d L)(f:aM w l pb name sz)(D:o l=KK)(H:1<=sz)(K:sz<=240)(M:aI L name=IT (.inl (bf (fw sz) rs,fl)))(z:iA sz rs)(hi:i<rs.length):K1 prog 104 #[ptrTo l,i] w (JA n pb db w o d L rs[i]):=by
 obtain⟨b,S,f1,f2,I,f4⟩:=Ie z H K hi;have V:=ae (Gu HW h f D H K M z hi S);have N:rs[i].length=sz:=z _ (rM hi);have A:=ae f;have T:=ae D;generalize rs[i]=r at *;clear h f D M z hi S f1;unfold ptrTo at *;generalize sz*(i%fw sz)=a at *;generalize i/fw sz=k at *;have E:=ae N;have F:=ae I;have q:cf Mm ((a:Int)+sz)=(a+sz:Nat):=by rw[ax af af];omega
 clear N I q;go_enter func104,ntmps104;go_wp2_with fail;go_call V.out as e w1⟨v1,c1,d1,o1,rfl,eO,yz,y9⟩;have g:=ae eO;have uh:=ae yz;have R:=ae (A.out.moved eO T.out (λh=>h));clear eO yz;by_cases c:c1=0
 .subst c;obtain⟨u,J⟩:=y9 rfl;rw[if_pos rfl,if_pos rfl];obtain⟨a1,p,rfl⟩:=aw u;have D7:=ae u;have U:=ae (fp u);obtain⟨va,vc,BM,ac,C,v⟩:=fp u;cases BM;unfold maxLen at C;obtain v |⟨O,s,rfl,-⟩:=v
  .omega
  have hc:=R.out.cells.2.2;have aE:=R.out.lt;have q:cf Mm ((a:Int)+sz)=a+sz:=ax af af;have G:Lk (Rd w1 (.slice (IT ⟨O,s+a,KK⟩) (a+sz-a) (p-a)) r):=ae (by rw[Nat.add_sub_cancel_left];have:=U.out.sub (i:=a) (k:=sz) af;rw[F.out]at this;simpa[br]using this)
  have Xp:=ae J;have P:Lk (w.heap.size<=w1.heap.size):=ae g.out.size;generalize t:b.length=B at *;have FM:=ae t;have W:(a:Int)+sz<=(B:Int):=af;have al:(a:Int)+sz<=(p:Int):=af;have am:¬p=a:=af;have X:a<p:=af;clear y9 u J t;go_wp2_with (at_builtin;refine gY rfl _ _ 46 rfl w1.heap.size 5 Tryz.underlying46 jZ _ 0 [] rfl (Gv w1 5 w1.heap.size (cg _)) (.slice (IT ⟨O,s+a,KK⟩) (a+sz-a) (p-a)) r rfl (G.out.below aj) ?c1 ?c2 ?_);case c1=>rw[E.out];omega
  case c2=>simp
  intro v' w2 Q j m;have Y:=ae Q;have fV:Lk (Moved (λ_=>False) n pb db w o d w2 o1 d1 L):=ae ((g.out.alloc _).grown j (λk hk=>by cases hk;exact⟨g.out.bh.fresh (cg _),.inr P.out⟩))
  have Z:Lk (∀x,v'.ownBlock=IT x->o1 x=KK):=ae (λx y=>by
   rcases m with e | e
   .rw[e]at y;cases y;exact g.out.bh.fresh (cg _)
   .rw[e]at y;cases y;exact g.out.bh.fresh ai)
  clear Q j m;go_wp2;go_ret2;refine⟨v',0,d1,o1,rfl,fV.out,.inl rfl,λ_=>⟨?_,Z.out⟩,λh=>absurd rfl h⟩;have:=aQ Y.out P.out;simpa using this
 .have Du:¬(c1:Int)=0:=af;have Xq:=ae c;clear c y9;go_wp2;go_ret2;exact⟨_,c1,d1,o1,rfl,g.out,uh.out,λh=>absurd h Xq.out,λ_=>rfl⟩
end
section
variable {S:Nat->Prop}{w w':KX}{pb db n sz:Nat}{o o':ay}{d d':Dsk}{L':aL}
def D9(w:KX)(base:Nat)(v:J3)(b r:List UInt8)(e:Lp)(w':KX):Prop:=
 ∃v',e=Mk v'/\w'.ownsRow base 5 1 v' (b.length+r.length) ((b++r).map bv)/\w.grownBy w' v.ownBlock/\(v'.ownBlock=v.ownBlock\/v'.ownBlock=IT w.heap.size)
theorem PG{base bx:Nat}{v:J3}{b r:List UInt8}(s:w.cell? bx=IT j)(f:Rd w j r)(a:w.ownsRow base 5 1 v b.length (b.map bv))(o:base<=w.heap.size)(p:b.length+r.length<=1073741824):K1 prog 76 #[v,.pointer bx] w (D9 w base v b r):=by
 have i:=ae a;have n:=ae f;obtain⟨u,x,rfl,-⟩:=f;obtain⟨y,t,rfl⟩:=aw a;clear a;generalize g:r.length=R at *;have d:=ae g;clear g;go_enter func76,ntmps76;go_wp2_with (at_builtin;refine gY rfl _ _ 46 rfl base 5 Tryz.underlying46 jZ _ b.length _ rfl i.out _ r rfl n.out ?c1 ?c2 ?_);case c1=>have:=d.out;omega
 case c2=>exact o
 intro v' q h c e;have m:=ae h;have k:=ae c;have l:=ae e;clear h c e;go_wp2;go_ret;refine⟨v',rfl,?_,k.out,l.out⟩;rw[List.map_append];exact m.out
def ll(S:Nat->Prop)(n a db:Nat)(w:KX)(o:ay)(d:Dsk)(L L':aL)(e:Lp)(w':KX):Prop:=
 ∃c d' o',e=Mk (Kx Mm ((c:Nat):Int))/\Moved S n a db w o d w' o' d' (if c=0 then L' else L)/\(c=0\/om d d' L c)
theorem My(HW:aV)(h:aU w pb db n o d L)(p:aM w l pb name sz)(T:o l=KK)(V:aI L name=IT (.inl (ps,fl))){k:Nat}(z:k<=ps.length)(Dq:k<65536){base bx:Nat}{v:J3}{b r:List UInt8}(R:w.cell? bx=IT j)(U:Rd w j r)(g:w.ownsRow base 5 1 v b.length (b.map bv))(E:∀x,v.ownBlock=IT x->o x=KK/\x≠l)(hb:base<=w.heap.size)(Q:b.length+r.length<=240):K1 prog 78 #[ptrTo l,k,v,.func (.func 76) #[] #[.pointer bx]] w (ll (λx=>v.ownBlock=IT x) n pb db w o d L (aX L name (.inl (dO ps k (b++r),J0)))):=by
 have H:=ae h;have D:=ae E;have O:=ae U;have Aq:=ae g;have K:=ae R;obtain⟨s,J,-⟩:=p.cells;unfold ptrTo at s;have N:Lk (∀W o' ,aU W pb db n o' d L->∀v',W.ownsRow base 5 1 v' (b.length+r.length) ((b++r).map bv)->(∀x,v'.ownBlock=IT x->o' x=KK)->K1 prog 148 #[.pointer pb,.string name,k,v'] W (qJ W pb db n o' d L (aX L name (.inl (dO ps k (b++r),J0))))):=
  ae (λW o' hW v' Y E=>Gr HW hW V z Dq (fp (by rw[eh];exact Y)) (by rw[eh];exact Q) E)
 have q:=ae p;clear h E U g R p V z;have P:Lk (∀t,K1 prog 76 #[v,.pointer bx] (w.drewN t) (D9 (w.drewN t) base v b r)):=ae (λt=>PG (w:=w.drewN t) K.out (O.out.drewN t) Aq.out hb af);clear Q;have rB:Lk (∀a m,(w.drewN 1).grownBy a v.ownBlock->(m:J3).ownBlock=v.ownBlock\/m.ownBlock=IT (w.drewN 1).heap.size->(a.cell? l=IT (.pointer pb)/\a.cell? ⟨l,1,KK⟩=IT (.string name))/\Moved (λx=>v.ownBlock=IT x) n pb db w o d a o d L/\∀x,m.ownBlock=IT x->o x=KK):=ae (λa m G Dg=>by
  have C:Moved (λx=>v.ownBlock=IT x) n pb db w o d a o d L:=((Moved.refl _ H.out).drewN 1).grown G (λk z=>⟨(D.out k z).1,.inl z⟩);have y:aM a l pb name sz:=q.out.moved C T (λe=>(D.out l e).2 rfl);refine⟨⟨y.cells.1,y.cells.2.1⟩,C,λx F=>?_⟩;rcases Dg with e | e
  .rw[e]at F;exact(D.out x F).1
  .rw[e]at F;cases F;exact H.out.fresh (cg _))
 have M:Lk (∀a c f i B,Moved (λx=>v.ownBlock=IT x) n pb db w o d a o d L->aU c pb db n i f B->aN (o.In dt) a c->cX a.heap.size o i->cd d f->(c.cell? l=IT (.pointer pb)/\c.cell? ⟨l,1,KK⟩=IT (.string name))/\Moved (λx=>v.ownBlock=IT x) n pb db w o d c i f B):=ae (λa c f i B C hp ht G vQ=>by have A:Moved (λx=>v.ownBlock=IT x) n pb db w o d c i f B:=C.trans (lj (S:=λ_=>False) hp ht G vQ) (λ_ _ h=>h.elim);have u:aM c l pb name sz:=q.out.moved A T (λe=>(D.out l e).2 rfl);exact⟨⟨u.cells.1,u.cells.2.1⟩,A⟩)
 unfold ptrTo;go_enter func78,ntmps78;go_wp2;go_region_held3 (λw'=>w'.cell? l=IT (.pointer pb)/\w'.cell? ⟨l,1,KK⟩=IT (.string name)) (first | exact⟨s,J⟩| exact q1 | exact q2)
  (first
    | (go_at_call 76;go_call(P.out 1) as e a⟨m,rfl,mJ,hg1,tW⟩;obtain⟨q1,I,Z⟩:=rB.out a m hg1 tW)
    | (go_at_call 148;go_call(N.out a o I.bh m mJ Z) as e c⟨c2,f,i,rfl,mF,rY,hg2,TE,vX⟩;obtain⟨q2,A⟩:=M.out a c f i _ I mF rY hg2 TE))
 have fV:=ae A;have X:=ae vX;clear A vX mF rY hg2 TE I hg1 mJ q1 q2;go_wp2;go_ret;exact⟨c2,f,i,rfl,fV.out,X.out⟩
theorem Mz{r:Rec}(t:iA sz rs)(d:1<=sz)(g:sz<=240) :
 (rs=[]->bf (fw sz) (rs++[r])=dO (bf (fw sz) rs) 0 ([]++r)/\(bf (fw sz) rs).length=0) /\
 ∀q m b,(bf (fw sz) rs).length=q+1->(bf (fw sz) rs)[q]? = IT b->b.length=sz*m->1<=m->m<=fw sz->q*fw sz+m=rs.length->b=(rs.drop (fw sz*q)).flatten ->
  (sz*m+sz<=240->bf (fw sz) (rs++[r])=dO (bf (fw sz) rs) q (b++r))/\(¬sz*m+sz<=240->bf (fw sz) (rs++[r])=dO (bf (fw sz) rs) (q+1) ([]++r)):=by
 have a:=sq d g;have p:=sr sz;have c:=WI d;refine⟨λe=>?_,λq m b v o n s u l j=>⟨λi=>?_,λi=>?_⟩⟩
 .subst e;have:=BH (rs:=[]) a r (k:=0) ai;exact⟨this.1,this.2⟩
 .have f:m<fw sz:=by
   rcases lb m (fw sz) with h | h
   .exact h
   .have:m=fw sz:=af
    subst this;rw[xi]at c;omega
  rw[Jo a r (k:=q) (by rw[vx];omega) (by rw[vx];omega),j,ey (by rw[ie,vx];omega)]
 .have f:m=fw sz:=by
   rcases lb m (fw sz) with h | h
   .have:=pc sz (show m+1<=fw sz from h);rw[xi]at this;omega
   .omega
  have:=BH (rs:=rs) a r (k:=q+1) (by rw[xi,vx];omega);exact this.1
theorem mH(HW:aV)(h:aU w pb db n o d L)(E:aM w l pb name sz)(ho:o l=KK)(V:1<=sz)(h2:sz<=240)(hL:aI L name=IT (.inl (bf (fw sz) rs,fl)))(hs:iA sz rs)(hN:rs.length<65535){r:Rec}(hr:Rd w j r)(FH:r.length=sz)(X:∀x,j.ownBlock=IT x->o x=KK):K1 prog 38 #[ptrTo l,j] w (ll (λ_=>False) n pb db w o d L (aX L name (.inl (bf (fw sz) (rs++[r]),J0)))):=by
 obtain⟨jT,D4⟩:=h.ej hL;have B:Lk (∀W,Lg w w W->K1 prog 75 #[ptrTo pb,.string name] W λe w'=>e=Mk (Ly #[(fA d (bf (fw sz) rs)).1,(fA d (bf (fw sz) rs)).2])/\Lg W W w'):=ae (λW O=>nr (h.below O) hL);have pU:Lk (∀W,Lg w w W->∀(k:Nat)(b:Pg),(bf (fw sz) rs)[k]? = IT b->K1 prog 77 #[ptrTo pb,.string name,Kx Mm (k:Int)] W (jG W pb db n o d L b)):=ae (λW O k b hk=>sy HW (h.below O) hL hk);have u:Lk (∀W o' d',aU W pb db n o' d' L->aM W l pb name sz->o' l=KK->∀bx,W.cell? ⟨bx,0,KK⟩=IT j->Rd W j r->∀(k base:Nat)(v:J3)(b:Pg),k<=(bf (fw sz) rs).length->k<65536->W.ownsRow base 5 1 v b.length (b.map bv)->(∀x,v.ownBlock=IT x->o' x=KK/\x≠l)->base<=W.heap.size->b.length+r.length<=240 ->
  Calls prog 78 #[ptrTo l,Kx Mm (k:Int),v,.func (.func 76) #[] #[.pointer (IT ⟨bx,0,KK⟩)]] W (ll (λx=>v.ownBlock=IT x) n pb db W o' d' L (aX L name (.inl (dO (bf (fw sz) rs) k (b++r),J0))))):=
  ae (λW o' d' O am j5 bx y yv k base v b V h2 h3 h4 h5 h6=>My HW O am j5 hL V h2 y yv h3 h4 h5 h6)
 have PH:=ae (Mz (r:=r) hs V h2);have H:=ae h;have t:=ae E;have HO:=ae ho;have FN:=ae X;have R6:=ae hr;have Vy:=E.lt;obtain⟨-,-,du⟩:=E.cells;obtain⟨f,g,rfl,-⟩:=hr;have Jy:=ae (λhN=>D3 (rs:=rs) hs V h2 hN);have pE:=sr sz;rw[FH]at *;have fm:(bf (fw sz) rs).length<=rs.length:=by
  rcases qp rs.length with hz | hp
  .have:=jJ hz;rw[((PH.out.1 this).2),hz];exact cg _
  .obtain⟨q,m,b,f1,f2,f3,f4,f5,f6,f7⟩:=Jy.out hp;have h3:=sq V h2;have h4:q<=q*fw sz:=Nat.le_mul_of_pos_right q h3;omega
 clear h E ho X hL hs D4;unfold ptrTo at *;have N:Lk (Lg w w (w.alloc (Mi #[.slice f sz g] 46))):=ae aj;have pH:Lk ((w.alloc (Mi #[.slice f sz g] 46)).cell? w.heap.size=IT (.slice f sz g)):=ae ai;have Hg:w.heap.size<(w.alloc (Mi #[.slice f sz g] 46)).heap.size:=ai;unfold fA at B;cases hd:d.dead with
 |true=>
   rw[hd,if_pos rfl]at B;have HD:=ae hd;clear hd;dsimp only at B;go_enter func38,ntmps38;go_wp2;go_quiet (fail)
   go_wp2;have i:Lk (Lg w w ((w.alloc (Mi #[.slice f sz g] 46)).drewN nq)):=ae (below_drewN N.out _);generalize (w.alloc (Mi #[.slice f sz g] 46)).drewN nq=w1 at *;refine wq w1 ?_;iterate 3 (refine qz ?_)
   refine qz ?_ (λw' a=>by have y:=((t.out.below i.out).below a).cells.1;unfold ptrTo at y;go_simp<;>rfl);iterate 3 (refine qz ?_)
   refine qz ?_ (λw' a=>by have y:=((t.out.below i.out).below a).cells.2.1;go_simp<;>rfl);refine qw (λw' a=>(B.out w' (i.out.trans (a.mono i.out.size))).mono (λe s h=>⟨h.1,a.trans (h.2.mono a.size)⟩)) ?_;iterate 5 (refine qz ?_)
   refine wpQuiet_nil ?_;intro A c;have D:Lk (Lg w w A):=ae (i.out.trans (c.mono i.out.size));clear c;go_wp2;go_ret;exact⟨6,d,o,rfl,Moved.aZ H.out D.out,.inr (.inr ⟨rfl,HD.out⟩)⟩
 |false=>
   rw[hd,if_neg ai]at B;clear hd;dsimp only at B;rcases qp rs.length with hz | dl
   .have F:=jJ hz;obtain⟨Y,M⟩:=PH.out.1 F;rw[M]at B;have ce:=ae Y;have en:=ae M;clear hz F Y M;go_enter func38,ntmps38;go_wp2;go_quiet (fail)
    go_wp2;have i:Lk (Lg w w ((w.alloc (Mi #[.slice f sz g] 46)).drewN nq)):=ae (below_drewN N.out _);have K:Lk (((w.alloc (Mi #[.slice f sz g] 46)).drewN nq).cell? w.heap.size=IT (.slice f sz g)):=ae pH.out;have Z:w.heap.size<((w.alloc (Mi #[.slice f sz g] 46)).drewN nq).heap.size:=Hg;generalize (w.alloc (Mi #[.slice f sz g] 46)).drewN nq=w1 at *;refine wq w1 ?_;iterate 3 (refine qz ?_)
    refine qz ?_ (λw' a=>by have y:=((t.out.below i.out).below a).cells.1;unfold ptrTo at y;go_simp<;>rfl);iterate 3 (refine qz ?_)
    refine qz ?_ (λw' a=>by have y:=((t.out.below i.out).below a).cells.2.1;go_simp<;>rfl);refine qw (λw' a=>(B.out w' (i.out.trans (a.mono i.out.size))).mono (λe s h=>⟨h.1,a.trans (h.2.mono a.size)⟩)) ?_;iterate 5 (refine qz ?_)
    refine wpQuiet_nil ?_;intro A c;have D:Lk (Lg w w A):=ae (i.out.trans (c.mono i.out.size));have I:Lk (A.cell? w.heap.size=IT (.slice f sz g)):=ae (by rw[c.cell (p:=⟨w.heap.size,0,KK⟩) Z];exact K.out);clear c;go_wp2_with fail;refine(u.out A o d (H.out.below D.out) (t.out.below D.out) HO.out w.heap.size I.out (R6.out.below D.out) 0 0 (.slice KK 0 0) [] (em _) ag (ownsRow_nil _ _ _) (λx z=>by cases z) (em _) (by simp;omega)).mono ?_;rintro e U⟨c3,d3,o3,rfl,fD,Ic⟩;rw[<- ce.out]at fD;have fH:=ae ((Moved.aZ (S:=λ_=>False) H.out D.out).trans fD (λx _ e=>by cases e));have BL:=ae Ic;clear fD Ic;go_wp2;go_ret;exact⟨c3,d3,o3,rfl,fH.out,BL.out⟩
   .obtain⟨q,m,b,f1,f2,f3,f4,f5,f6,f7⟩:=Jy.out dl;have PD:Lk (∀W,Lg w w W->K1 prog 77 #[.pointer pb,.string name,q] W (jG W pb db n o d L b)):=ae (λW O=>pU.out W O q b f2);have qH:=ae (PH.out.2 q m b f1 f2 f3 f4 f5 f6 f7);have hq:q<65535:=af;have hm:sz*m<=240:=cp (pc sz f5) pE;have Xp:=ae f1;have al:cf Mm (((q+1:Nat):Int)-1)=(q:Int):=by rw[ax af af];omega
    have TB:=ae al;rw[f1]at B;obtain⟨P,hP⟩:=ac (q+1);rw[<- hP]at B TB;have HP:=ae hP;have el:P<=65535:=af;have eS:(P:Int)>0:=af;have ee:b.length<=240:=af;have La:=ae f3;clear f1 f2 f3 f4 f6 f7 al hP pU;go_enter func38,ntmps38;go_wp2;go_quiet (fail)
    go_wp2;have i:Lk (Lg w w ((w.alloc (Mi #[.slice f sz g] 46)).drewN nq)):=ae (below_drewN N.out _);have K:Lk (((w.alloc (Mi #[.slice f sz g] 46)).drewN nq).cell? w.heap.size=IT (.slice f sz g)):=ae pH.out;have Z:w.heap.size<((w.alloc (Mi #[.slice f sz g] 46)).drewN nq).heap.size:=Hg;generalize (w.alloc (Mi #[.slice f sz g] 46)).drewN nq=w1 at *;refine wq w1 ?_;iterate 3 (refine qz ?_)
    refine qz ?_ (λw' a=>by have y:=((t.out.below i.out).below a).cells.1;unfold ptrTo at y;go_simp<;>rfl);iterate 3 (refine qz ?_)
    refine qz ?_ (λw' a=>by have y:=((t.out.below i.out).below a).cells.2.1;go_simp<;>rfl);refine qw (λw' a=>(B.out w' (i.out.trans (a.mono i.out.size))).mono (λe s h=>⟨h.1,a.trans (h.2.mono a.size)⟩)) ?_;iterate 5 (refine qz ?_)
    refine wpQuiet_nil ?_;intro A c;have D:Lk (Lg w w A):=ae (i.out.trans (c.mono i.out.size));have I:Lk (A.cell? w.heap.size=IT (.slice f sz g)):=ae (by rw[c.cell (p:=⟨w.heap.size,0,KK⟩) Z];exact K.out);have qK:=ae (t.out.below D.out);have de:w.heap.size<A.heap.size:=eg Z c.size;clear c Hg Z;go_wp2;refine cW (Lg A A) 10 rfl ah ah (aq.drew) ?_;simp only[ii,j2];iterate 3 (refine qz ?_)
    refine qz ?_ (λw' a=>by have y:=(qK.out.below a).cells.1;unfold ptrTo at y;go_simp<;>rfl);iterate 3 (refine qz ?_)
    refine qz ?_ (λw' a=>by have y:=(qK.out.below a).cells.2.1;go_simp<;>rfl);refine qz ?_;refine qz ?_ (λw' a=>by have z:=TB.out;go_simp<;>rfl);refine wpQuiet_nil ?_;intro U T;refine⟨_,_,rfl,(by go_simp<;>exact⟨rfl,rfl⟩),?_⟩;have gU:Lk (Lg w w U):=ae (D.out.trans (T.mono D.out.size));have dq:Lk (U.cell? w.heap.size=IT (.slice f sz g)):=ae (by rw[T.cell (p:=⟨w.heap.size,0,KK⟩) de];exact I.out);go_call(PD.out U gU.out) as e w4⟨v4,c4,d4,o4,rfl,r7,yH,hg4,y4,Cq,PF,D6⟩;have J:Moved (λ_=>False) n pb db U o d w4 o4 d4 L:=lj (S:=λ_=>False) r7 yH hg4 y4;have C:Lk (Moved (λ_=>False) n pb db w o d w4 o4 d4 L):=ae ((Moved.aZ H.out gU.out).trans J (λ_ _ h=>h));have zZ:=ae Cq;have za:=ae (t.out.moved C.out HO.out (λh=>h));have OS:Lk (o4 l=KK):=ae (C.out.free Vy HO.out);have MA:Lk (w4.cell? w.heap.size=IT (.slice f sz g)):=ae (J.cell dq.out (H.out.fresh (cg _)) (λh=>h));have Gi:Lk (Rd w4 (.slice f sz g) r):=ae (C.out.rd R6.out (λx z=>⟨FN.out x z,λh=>h⟩));have r8:w.heap.size<=U.heap.size:=gU.out.size;clear T r7 yH hg4 y4 Cq J;by_cases je:c4=0
    .subst je;obtain⟨I7,Cl⟩:=PF rfl;obtain⟨a4,k4,rfl⟩:=aw I7;have aE:=ae (aQ I7 r8);have PB:Lk (∀x,(fz a4 b.length k4).ownBlock=IT x->o4 x=KK/\x≠l):=ae (λx z=>⟨Cl x z,λe=>Nm (aD I7 x z)⟩);have bd:Lk (∀x,(fz a4 b.length k4).ownBlock=IT x->w.heap.size<=x):=ae (λx z=>Nm (aD I7 x z));have co:w.heap.size<=w4.heap.size:=C.out.size;clear PF D6 I7 Cl;refine⟨_,rfl,?_⟩;go_simp;iterate 5 (refine qz ?_)
     refine wpQuiet_nil ?_;have BI:=za.out.cells.2.2;have ff:=TB.out;by_cases Q:b.length+sz<=240
     .have ci:(b.length:Int)+sz<=240:=af;have FJ:=qH.out.1 (Nm La.out);have G:=ae FJ;clear FJ;go_wp2_with fail;refine(u.out w4 o4 d4 C.out.bh za.out OS.out w.heap.size MA.out Gi.out q w.heap.size _ b (Nm Xp.out) af aE.out PB.out co Q).mono ?_;rintro e w5⟨c5,d5,o5,rfl,R,Py⟩;rw[<- G.out]at R;have oy:=ae (C.out.trans R (λx z e=>Nm (bd.out x e)));have Mn:=ae (Py.imp id (om.later C.out.on.bU));clear R Py;go_wp2;go_ret;exact⟨c5,d5,o5,rfl,oy.out,Mn.out⟩
     .have ci:¬(b.length:Int)+sz<=240:=af;have FJ:=qH.out.2 (Nm La.out);have G:=ae FJ;clear FJ;go_wp2_with fail;refine(u.out w4 o4 d4 C.out.bh za.out OS.out w.heap.size MA.out Gi.out P 0 (.slice KK 0 0) [] (No Xp.out HP.out) af (ownsRow_nil _ _ _) (λx z=>by cases z) (em _) (by simp;omega)).mono ?_;rintro e w5⟨c5,d5,o5,rfl,R,Py⟩;rw[HP.out,<- G.out]at R;have oy:=ae (C.out.trans R (λx z e=>by cases e));have Mn:=ae (Py.imp id (om.later C.out.on.bU));clear R Py;go_wp2;go_ret;exact⟨c5,d5,o5,rfl,oy.out,Mn.out⟩
    .obtain rfl:=D6 je;have y5:¬(c4:Int)=0:=af;have FL:=ae je;clear je PF D6;refine⟨_,rfl,?_⟩;go_simp;iterate 5 (refine qz ?_)
     refine wpQuiet_nil ?_;go_wp2;go_ret;exact⟨c4,d4,o4,rfl,by rw[if_neg FL.out];exact C.out,zZ.out⟩
end
abbrev aJ.cells(e:aJ):List Value:=[e.t,e.h,e.x,e.m]
def aJ.bytes(e:aJ):Rec:=Ah e.t.toNat e.h.toNat e.x.toNat e.m.toNat
theorem aJ.fE(e:aJ):e.bytes.length=20:=by rfl
theorem aJ.xL(e:aJ):gw (e.bytes.take 4)=e.t.toNat/\gw ((e.bytes.drop 4).take 4)=e.h.toNat/\gw ((e.bytes.drop 8).take 8)=e.x.toNat/\gw ((e.bytes.drop 16).take 4)=e.m.toNat:=by
 have d:=e.t.toNat_lt;have g:=e.h.toNat_lt;have a:=e.x.toNat_lt;have b:=e.m.toNat_lt;have h:∀x,(le x 4).length=4:=λx=>bL x 4;have i:∀x,(le x 8).length=8:=λx=>bL x 8;have k:e.bytes=le e.t.toNat 4++(le e.h.toNat 4++(le e.x.toNat 8++le e.m.toNat 4)):=by rfl
 have j:e.bytes.drop 4=le e.h.toNat 4++(le e.x.toNat 8++le e.m.toNat 4):=by rfl
 have c:e.bytes.drop 8=le e.x.toNat 8++le e.m.toNat 4:=by rfl
 have f:e.bytes.drop 16=le e.m.toNat 4:=by rfl
 refine⟨?_,?_,?_,?_⟩
 .grind [kV]
 .grind [kV]
 .grind [kV]
 grind [kV]
theorem BO(v:J3)(e:aJ)(w:KX)(a:Rd w v e.bytes):K1 prog 217 #[v] w (RN (Ly #[LV #[e.t,e.h,e.x,e.m],Kx Mm 0]) w):=by have h:=I9 v e.bytes w e.fE a;grind [aJ.xL]
theorem zb(e:aJ)(w:KX):K1 prog 183 #[LV #[e.t,e.h,e.x,e.m]] w (jR w e.bytes):=V9 _ _ _ _ w
structure bZ where
 r:UInt32
 l:UInt32
 g:UInt32
def bZ.bytes(v:bZ):Rec:=Ag v.r.toNat v.l.toNat v.g.toNat
theorem bZ.fE(v:bZ):v.bytes.length=12:=by rfl
theorem bZ.xL(v:bZ):gw (v.bytes.take 4)=v.r.toNat/\gw ((v.bytes.drop 4).take 4)=v.l.toNat/\gw ((v.bytes.drop 8).take 4)=v.g.toNat:=by
 have c:=v.r.toNat_lt;have d:=v.l.toNat_lt;have a:=v.g.toNat_lt;have e:∀x,(le x 4).length=4:=λx=>bL x 4;have g:v.bytes=le v.r.toNat 4++(le v.l.toNat 4++le v.g.toNat 4):=by rfl
 have f:v.bytes.drop 4=le v.l.toNat 4++le v.g.toNat 4:=by rfl
 have b:v.bytes.drop 8=le v.g.toNat 4:=by rfl
 refine⟨?_,?_,?_⟩
 .grind [kV]
 .grind [kV]
 grind [kV]
theorem MB(v:J3)(x:bZ)(w:KX)(a:Rd w v x.bytes):K1 prog 105 #[v] w (RN (Ly #[LV #[x.r,x.l,x.g],Kx Mm 0]) w):=by have h:=I8 v x.bytes w x.fE a;grind [bZ.xL]
theorem JB(x:bZ)(w:KX):K1 prog 44 #[LV #[x.r,x.l,x.g]] w (jR w x.bytes):=V8 _ _ _ w
def aW(b:Bool)(x y:aJ):Int:=if pk b x<pk b y then -1 else if pk b y<pk b x then 1 else if rk x<rk y then -1 else if rk y<rk x then 1 else 0
theorem Ea(b:Bool)(x y:aJ):aW b x y<0↔(pk b x<pk b y\/pk b x=pk b y/\rk x<rk y):=by unfold aW;omega
theorem Eb(b:Bool)(x y:aJ):¬aW b y x<0↔er b x y:=by rw[Ea];grind [er]
theorem rH(b:Bool):Go.Sort.SWO (ltOf (aW b)):=by
 have h:∀x y,ltOf (aW b) x y=decide (pk b x<pk b y\/pk b x=pk b y/\rk x<rk y):=λx y=>by grind [ltOf,Ea]
 refine⟨λx=>?_,λx y z c a=>?_,λx y z c a=>?_⟩
 .grind
 .grind
 grind
def eV(w w':KX):Prop:=∃q os,w'=Go.Sort.grow (w.drewN q) os
theorem eV.refl(w:KX):eV w w:=⟨0,#[],by rfl⟩
theorem eV.trans{a b c:KX}(h:eV a b)(k:eV b c):eV a c:=by obtain⟨q,os,rfl⟩:=h;obtain⟨e,d,rfl⟩:=k;exact⟨q+e,os++d,by grind [Go.Sort.grow,World.drewN]⟩
theorem eV.alloc{a b:KX}(h:eV a b)(c:Obj):eV a (b.alloc c):=h.trans ⟨0,#[c],by rfl⟩
theorem eV.drewN{a b:KX}(h:eV a b)(n:Nat):eV a (b.drewN n):=h.trans ⟨n,#[],ai⟩
theorem eV.drew{a b:KX}(h:eV a b):eV a b.drew:=h.trans ⟨1,#[],(Go.Sort.grow_empty _).symm⟩
theorem eV.below{a b:KX}(h:eV a b):Lg a a b:=by obtain⟨q,os,rfl⟩:=h;exact⟨rfl,rfl,rfl,ai,λk c=>Go.Sort.heap_grow_old _ _ c⟩
theorem eV.cell{a b:KX}(h:eV a b){p:Addr}{v:J3}(c:a.cell? p=IT v):b.cell? p=IT v:=by rw[h.below.cell (jK _ _ c)];exact c
def tJ(a b:Nat):Int:=if a<b then -1 else if b<a then 1 else 0
theorem jr(a b:Nat):(a<b/\tJ a b=-1)\/(b<a/\tJ a b=1)\/(a=b/\tJ a b=0):=by
 unfold tJ;split
 .exact .inl ⟨Nd,rfl⟩
 .split
  .exact .inr (.inl ⟨Nd,rfl⟩)
  .exact .inr (.inr ⟨af,rfl⟩)
theorem AG(a b:Nat)(w:KX):K1 prog 180 #[Kx MJ a,Kx MJ b] w λe w'=>e=Mk (Kx Mm (tJ a b))/\w=w':=by
 rcases jr a b with⟨d,c⟩|⟨d,c⟩|⟨d,c⟩
 .have H:=ae c;clear c;have f:(a:Int)<b:=af;go_enter func180,ntmps180;go_wp2;go_ret;exact⟨by rw[H.out];rfl,rfl⟩
 .have H:=ae c;clear c;have f:¬(a:Int)<b:=af;have g:(a:Int)>b:=af;go_enter func180,ntmps180;go_wp2;go_ret;exact⟨by rw[H.out];rfl,rfl⟩
 .subst d;have H:=ae c;clear c;go_enter func180,ntmps180;go_wp2;go_ret;exact⟨by rw[H.out];rfl,rfl⟩
theorem AH(a b:Nat)(w:KX):K1 prog 181 #[Kx Mo a,Kx Mo b] w λe w'=>e=Mk (Kx Mm (tJ a b))/\w=w':=by
 rcases jr a b with⟨d,c⟩|⟨d,c⟩|⟨d,c⟩
 .have H:=ae c;clear c;have f:(a:Int)<b:=af;go_enter func181,ntmps181;go_wp2;go_ret;exact⟨by rw[H.out];rfl,rfl⟩
 .have H:=ae c;clear c;have f:¬(a:Int)<b:=af;have g:(a:Int)>b:=af;go_enter func181,ntmps181;go_wp2;go_ret;exact⟨by rw[H.out];rfl,rfl⟩
 .subst d;have H:=ae c;clear c;go_enter func181,ntmps181;go_wp2;go_ret;exact⟨by rw[H.out];rfl,rfl⟩
def qL(x y:Int):Int:=if x=0 then y else x
theorem TF(x y:Int)(b:Nat)(w:KX)(d:w.cell? b=IT (Kx Mm x))(f:w.cell? ⟨b,1,KK⟩=IT (Kx Mm y)):K1 prog 273 #[.slice b 2 2] w λe w'=>e=Mk (Kx Mm (qL x y))/\w=w':=by
 by_cases a:x=0
 .subst a;by_cases c:y=0
  .subst c;go_enter func273,ntmps273;go_wp2;refine wp_loop_rounds 3 ?_;iterate 3 (rw[rounds_succ];go_wp2)
   go_ret;exact⟨rfl,rfl⟩
  .go_enter func273,ntmps273;go_wp2;refine wp_loop_rounds 2 ?_;iterate 2 (rw[rounds_succ];go_wp2)
   go_ret;exact⟨rfl,rfl⟩
 .have H:=ae a;go_enter func273,ntmps273;go_wp2;refine wp_loop_rounds 1 ?_;iterate 1 (rw[rounds_succ];go_wp2)
  go_ret;exact⟨by unfold qL;rw[if_neg H.out];rfl,rfl⟩
def pV(x y:aJ):Bool:=decide (rk x<rk y)
theorem TG(x y:aJ):decide (qL (tJ x.x.toNat y.x.toNat) (tJ ((x.m.toNat+1)%4294967296) ((y.m.toNat+1)%4294967296))<0)=pV x y:=by
 have e:=x.m.toNat_lt;have f:=y.m.toNat_lt;unfold pV rk qL;rw[decide_eq_decide];rcases jr x.x.toNat y.x.toNat with⟨d,a⟩|⟨d,a⟩|⟨d,a⟩
 .rw[a,if_neg ag];omega
 .rw[a,if_neg ag];omega
 .rw[a,if_pos rfl];rcases jr ((x.m.toNat+1)%4294967296) ((y.m.toNat+1)%4294967296) with⟨c,b⟩|⟨c,b⟩|⟨c,b⟩<;>rw[b]<;>omega
theorem Ec(x y:aJ)(w:KX):K1 prog 239 #[LV #[x.t,x.h,x.x,x.m],LV #[y.t,y.h,y.x,y.m]] w
  λe w'=>e=Mk (.bool (pV x y))/\eV w w':=by
 have A:=ae (TG x y);have C:cf Mo ((x.m.toNat:Int)+1)=((x.m.toNat+1)%4294967296:Nat):=by rw[Hz];omega
 have o:cf Mo ((y.m.toNat:Int)+1)=((y.m.toNat+1)%4294967296:Nat):=by rw[Hz];omega
 generalize x.t.toNat=i at *;generalize x.h.toNat=g at *;generalize x.x.toNat=b at *;generalize x.m.toNat=f at *;generalize y.t.toNat=j at *;generalize y.h.toNat=k at *;generalize y.x.toNat=c at *;generalize y.m.toNat=d at *;generalize (f+1)%4294967296=l at *;generalize (d+1)%4294967296=m at *;go_enter func239,ntmps239;have z:Lk (eV w ((w.alloc (Mi #[Kx Mo i,Kx Mo g,Kx MJ b,Kx Mo f] 63)).alloc (Mi #[Kx Mo j,Kx Mo k,Kx MJ c,Kx Mo d] 63))):=ae (((eV.refl w).alloc _).alloc _);go_wp2;have q:((w.alloc (Mi #[Kx Mo i,Kx Mo g,Kx MJ b,Kx Mo f] 63)).alloc (Mi #[Kx Mo j,Kx Mo k,Kx MJ c,Kx Mo d] 63)).cell? ⟨w.heap.size,2,KK⟩=IT (Kx MJ b):=ai;have u:((w.alloc (Mi #[Kx Mo i,Kx Mo g,Kx MJ b,Kx Mo f] 63)).alloc (Mi #[Kx Mo j,Kx Mo k,Kx MJ c,Kx Mo d] 63)).cell? ⟨w.heap.size,3,KK⟩=IT (Kx Mo f):=ai;have r:((w.alloc (Mi #[Kx Mo i,Kx Mo g,Kx MJ b,Kx Mo f] 63)).alloc (Mi #[Kx Mo j,Kx Mo k,Kx MJ c,Kx Mo d] 63)).cell? ⟨w.heap.size+1,2,KK⟩=IT (Kx MJ c):=ai;have t:((w.alloc (Mi #[Kx Mo i,Kx Mo g,Kx MJ b,Kx Mo f] 63)).alloc (Mi #[Kx Mo j,Kx Mo k,Kx MJ c,Kx Mo d] 63)).cell? ⟨w.heap.size+1,3,KK⟩=IT (Kx Mo d):=ai;have v:=ae q;have G:=ae u;have B:=ae r;have F:=ae t;clear q u r t;generalize ((w.alloc (Mi #[Kx Mo i,Kx Mo g,Kx MJ b,Kx Mo f] 63)).alloc (Mi #[Kx Mo j,Kx Mo k,Kx MJ c,Kx Mo d] 63))=W at *;refine cm (eV W) 12 ah ah (eV.refl W).drew ?_;simp only[ii,j2,List.drop_succ_cons,List.drop_zero];refine qz ?_;refine qz ?_ (λw' a=>by have p:=a.cell v.out;go_simp<;>rfl);refine qz ?_;refine qz ?_ (λw' a=>by have p:=a.cell B.out;go_simp<;>rfl);refine qw (λw' a=>(AG b c w').mono (λe s h=>⟨h.1,h.2▸a⟩)) ?_;refine qz ?_;refine qz ?_ (λw' a=>by have p:=a.cell G.out;go_simp<;>rfl);refine qz ?_ (λw' a=>by have D:=C;go_simp<;>rfl);refine qz ?_;refine qz ?_ (λw' a=>by have p:=a.cell F.out;go_simp<;>rfl);refine qz ?_ (λw' a=>by have D:=o;go_simp<;>rfl);refine qw (λw' a=>(AH l m w').mono (λe s h=>⟨h.1,h.2▸a⟩)) ?_;refine wpQuiet_nil ?_;intro H n;have E:=ae n;clear n;go_wp2_with fail;go_call(TF (tJ b c) (tJ l m) _ _ ai ai) as e w4⟨rfl,rfl⟩;go_wp2;go_ret;exact⟨by rw[<- A.out];rfl,(z.out.trans E.out).alloc _⟩
def fY(b:Bool)(e:aJ):Nat:=if b then e.h.toNat else e.t.toNat
def ze(b:Bool)(e:aJ):Nat:=if b then e.t.toNat else e.h.toNat
theorem CU(b:Bool)(e:aJ):pk b e=fY b e*4294967296+ze b e/\fY b e<4294967296/\ze b e<4294967296:=by
 have c:=e.t.toNat_lt;have a:=e.h.toNat_lt;unfold pk fY ze;cases b
 .exact⟨rfl,c,a⟩
 .exact⟨rfl,a,c⟩
def oQ(b:Bool):Nat:=if b then 1 else 0
def zf(a:Nat):Value:=.func (.func 81) #[] #[.pointer a]
structure dC(w:KX)(jb pb bz made:Nat)(b:Bool):Prop where
 head:∃t,w.heap[jb]? = IT (Mi #[ptrTo pb,zf bz,made] t)
 by':∃t,w.heap[bz]? = IT (Mi #[oQ b] t)
theorem dC.cells{w:KX}{c f e a:Nat}{b:Bool}(h:dC w c f e a b) :
 w.cell? c=IT (ptrTo f)/\w.cell? ⟨c,1,KK⟩=IT (zf e)/\w.cell? ⟨c,2,KK⟩=a/\w.cell? e=oQ b/\w.frozen? ⟨c,2,KK⟩=false:=by
 obtain⟨⟨t,d⟩,⟨i,g⟩⟩:=h;refine⟨?_,?_,?_,?_,aO d _⟩
 .rw[au d];rfl
 .rw[au d];rfl
 .rw[au d];rfl
 .rw[au g];rfl
theorem dC.kept{w w':KX}{d e c a:Nat}{b:Bool}(h:dC w d e c a b)(g:w'.heap[d]? = w.heap[d]?)(i:w'.heap[c]? = w.heap[c]?):dC w' d e c a b:=by obtain⟨⟨t,k⟩,⟨j,f⟩⟩:=h;exact⟨⟨t,g.trans k⟩,⟨j,i.trans f⟩⟩
theorem dC.lt{w:KX}{d f c a:Nat}{b:Bool}(h:dC w d f c a b):d<w.heap.size/\c<w.heap.size:=by obtain⟨⟨t,g⟩,⟨i,e⟩⟩:=h;exact⟨(ds.1 g).1,(ds.1 e).1⟩
theorem dC.below{w w':KX}{f c d a:Nat}{b:Bool}(h:dC w f c d a b)(e:Lg w w w'):dC w' f c d a b:=h.kept (e.block _ h.lt.1) (e.block _ h.lt.2)
theorem MC(b:Bool)(x:aJ)(c:Nat)(w:KX)(a:w.cell? c=oQ b):K1 prog 81 #[LV #[x.t,x.h,x.x,x.m],.pointer c] w
  λe w'=>e=Mk (Ly #[Kx Mo (fY b x:Int),Kx Mo (ze b x:Int)])/\eV w w':=by
 have f:=jK _ _ a;dsimp only at f;unfold fY ze;cases b with
 |false=>
   have d:w.cell? c=IT (Kx Mm 0):=a;clear a;go_enter func81,ntmps81;go_wp2;go_quiet (fail)
   go_wp2;go_ret2;exact⟨rfl,((eV.refl w).alloc _).drewN _⟩
 |true=>
   have d:w.cell? c=IT (Kx Mm 1):=a;clear a;go_enter func81,ntmps81;go_wp2;go_quiet (fail)
   go_wp2;go_ret2;exact⟨rfl,((eV.refl w).alloc _).drewN _⟩
theorem uV(b:Bool)(w:KX):K1 prog 238 #[.bool b] w λe w'=>e=Mk (Kx Mm (if b=Jd then -1 else 1))/\w=w':=by
 cases b
 .go_enter func238,ntmps238;go_wp2;go_ret;exact⟨rfl,rfl⟩
 .go_enter func238,ntmps238;go_wp2;go_ret;exact⟨rfl,rfl⟩
theorem BP{w:KX}{U pb D r:Nat}{b:Bool}(h:dC w U pb D r b)(x y:aJ):K1 prog 203 #[ptrTo U,LV #[x.t,x.h,x.x,x.m],LV #[y.t,y.h,y.x,y.m]] w
  λe w'=>e=Mk (Kx Mm (aW b x y))/\eV w w':=by
 have H:=ae h;have hx:=ae (λW hW=>MC b x D W hW);have hy:=ae (λW hW=>MC b y D W hW);have E:=ae (λW=>Ec x y W);have B:=ae (λW=>Ec y x W);obtain⟨px,bd,al⟩:=CU b x;obtain⟨py,aE,ac⟩:=CU b y;have n:Lk (aW b x y=if fY b x<fY b y then -1 else if fY b y<fY b x then 1 else if ze b x<ze b y then -1 else if ze b y<ze b x then 1 else if pV x y=Jd then -1 else if pV y x=Jd then 1 else 0):=ae (by
  unfold aW pV;rw[px,py];simp only[decide_eq_true_eq];generalize fY b x=c at *;generalize ze b x=a2 at *;generalize fY b y=i at *;generalize ze b y=d at *;rcases sk c i with g | g | g
  .rw[if_pos (show c*4294967296+a2<i*4294967296+d by omega),if_pos g]
  .subst g;rcases sk a2 d with g | g | g
   .rw[if_pos (show c*4294967296+a2<c*4294967296+d by omega),if_neg (sT c),if_neg (sT c),if_pos g]
   .subst g;simp only[sT,if_false]
   .rw[if_neg (show ¬c*4294967296+a2<c*4294967296+d by omega),if_pos (show c*4294967296+d<c*4294967296+a2 by omega),if_neg (sT c),if_neg (sT c),if_neg (show ¬a2<d by omega),if_pos g]
  .rw[if_neg (show ¬c*4294967296+a2<i*4294967296+d by omega),if_pos (show i*4294967296+d<c*4294967296+a2 by omega),if_neg (show ¬c<i by omega),if_pos g])
 obtain⟨S,A,Y,L,-⟩:=h.cells;obtain⟨kE,am⟩:=h.lt;have Xq:=ae A;have OV:=ae L;clear h px py S A Y L;unfold ptrTo;generalize aW b x y=R at *;generalize fY b x=c at *;generalize ze b x=a2 at *;generalize fY b y=i at *;generalize ze b y=d at *;generalize pV x y=q1 at *;generalize pV y x=q2 at *;generalize x.t.toNat=u at *;generalize x.h.toNat=q at *;generalize x.x.toNat=F at *;generalize x.m.toNat=G at *;generalize y.t.toNat=z at *;generalize y.h.toNat=C at *;generalize y.x.toNat=J at *;generalize y.m.toNat=t at *;go_enter func203,ntmps203;have Q:Lk (eV w ((w.alloc (Mi #[Kx Mo u,Kx Mo q,Kx MJ F,Kx Mo G] 63)).alloc (Mi #[Kx Mo z,Kx Mo C,Kx MJ J,Kx Mo t] 63))):=ae (((eV.refl w).alloc _).alloc _);have m:Lk (∀j v,(#[tb Mo (u:Int),Kx Mo q,Kx MJ F,Kx Mo G]:Array J3)[j]? = IT v->((w.alloc (Mi #[Kx Mo u,Kx Mo q,Kx MJ F,Kx Mo G] 63)).alloc (Mi #[Kx Mo z,Kx Mo C,Kx MJ J,Kx Mo t] 63)).cell? ⟨w.heap.size,j,KK⟩=IT v):=ae (λj v V=>by simpa using V);have l:Lk (∀j v,(#[tb Mo (z:Int),Kx Mo C,Kx MJ J,Kx Mo t]:Array J3)[j]? = IT v->((w.alloc (Mi #[Kx Mo u,Kx Mo q,Kx MJ F,Kx Mo G] 63)).alloc (Mi #[Kx Mo z,Kx Mo C,Kx MJ J,Kx Mo t] 63)).cell? ⟨w.heap.size+1,j,KK⟩=IT v):=ae (λj v V=>by simpa using V);go_wp2;generalize ((w.alloc (Mi #[Kx Mo u,Kx Mo q,Kx MJ F,Kx Mo G] 63)).alloc (Mi #[Kx Mo z,Kx Mo C,Kx MJ J,Kx Mo t] 63))=W at *;have C1:Lk (W.cell? ⟨U,1,KK⟩=IT (zf D)):=ae (Q.out.cell Xq.out);have C3:Lk (W.cell? D=oQ b):=ae (Q.out.cell OV.out);refine dx (eV W) ah ah (eV.refl W).drew ?_;iterate 3 (refine qz ?_)
 refine qz ?_ (λw' a=>by have T:=a.cell C1.out;unfold zf at T;go_simp<;>rfl);refine qz ?_ (λw' a=>by have M:=a.cell (m.out 0 _ rfl);have O:=a.cell (m.out 1 _ rfl);have N:=a.cell (m.out 2 _ rfl);have P:=a.cell (m.out 3 _ rfl);go_simp<;>rfl);refine qw (λw' a=>(hx.out w' (a.cell C3.out)).mono (λe s h=>⟨h.1,a.trans h.2⟩)) ?_;iterate 5 (refine qz ?_)
 refine wpQuiet_nil ?_;intro W1 I;have p:=ae I;clear I;go_wp2;refine dx (eV W1) ah ah (eV.refl W1).drew ?_;iterate 3 (refine qz ?_)
 refine qz ?_ (λw' a=>by have T:=a.cell (p.out.cell C1.out);unfold zf at T;go_simp<;>rfl);refine qz ?_ (λw' a=>by have M:=a.cell (p.out.cell (l.out 0 _ rfl));have O:=a.cell (p.out.cell (l.out 1 _ rfl));have N:=a.cell (p.out.cell (l.out 2 _ rfl));have P:=a.cell (p.out.cell (l.out 3 _ rfl));go_simp<;>rfl);refine qw (λw' a=>(hy.out w' (a.cell (p.out.cell C3.out))).mono (λe s h=>⟨h.1,a.trans h.2⟩)) ?_;iterate 5 (refine qz ?_)
 refine wpQuiet_nil ?_;intro W2 K;have k:=ae (p.out.trans K);have o:=ae (Q.out.trans k.out);clear K;have M:=k.out.cell (m.out 0 _ rfl);have O:=k.out.cell (m.out 1 _ rfl);have N:=k.out.cell (m.out 2 _ rfl);have P:=k.out.cell (m.out 3 _ rfl);have f0:=k.out.cell (l.out 0 _ rfl);have f1:=k.out.cell (l.out 1 _ rfl);have f2:=k.out.cell (l.out 2 _ rfl);have f3:=k.out.cell (l.out 3 _ rfl);rcases sk c i with g | g | g
 .have X:(c:Int)<i:=af;have Z:¬(c:Int)=i:=af;have f:Lk (R=-1):=ae (by rw[n.out,if_pos g]);go_wp2_with fail;go_call(uV _ _) as e w'⟨rfl,rfl⟩;go_wp2;go_ret;exact⟨by rw[f.out];rfl,o.out⟩
 .subst g;rcases sk a2 d with g | g | g
  .have X:(a2:Int)<d:=af;have Z:¬(a2:Int)=d:=af;have f:Lk (R=-1):=ae (by rw[n.out,if_neg af,if_neg af,if_pos g]);go_wp2_with fail;go_call(uV _ _) as e w'⟨rfl,rfl⟩;go_wp2;go_ret;exact⟨by rw[f.out];rfl,o.out⟩
  .subst g;cases q1 with
   |true=>have f:Lk (R=-1):=ae (by rw[n.out,if_neg af,if_neg af,if_neg af,if_neg af,if_pos rfl]);go_wp2_with fail;go_call(E.out _) as e w'⟨rfl,hw⟩;go_wp2;go_ret;exact⟨by rw[f.out];rfl,o.out.trans hw⟩
   |false=>
     go_wp2_with fail;go_call(E.out _) as e W3⟨rfl,hw⟩;have CT:=ae hw;have M:=hw.cell M;have O:=hw.cell O;have N:=hw.cell N;have P:=hw.cell P;have f0:=hw.cell f0;have f1:=hw.cell f1;have f2:=hw.cell f2;have f3:=hw.cell f3;clear hw;cases q2 with
     |true=>have f:Lk (R=1):=ae (by rw[n.out,if_neg af,if_neg af,if_neg af,if_neg af,if_neg ag,if_pos rfl]);go_wp2_with fail;go_call(B.out _) as e w'⟨rfl,hw⟩;go_wp2;go_ret;exact⟨by rw[f.out];rfl,(o.out.trans CT.out).trans hw⟩
     |false=>have f:Lk (R=0):=ae (by rw[n.out,if_neg af,if_neg af,if_neg af,if_neg af,if_neg ag,if_neg ag]);go_wp2_with fail;go_call(B.out _) as e w'⟨rfl,hw⟩;go_wp2;go_ret;exact⟨by rw[f.out];rfl,(o.out.trans CT.out).trans hw⟩
  .have X:¬(a2:Int)<d:=af;have Z:¬(a2:Int)=d:=af;have f:Lk (R=1):=ae (by rw[n.out,if_neg af,if_neg af,if_neg af,if_pos g]);go_wp2_with fail;go_call(uV _ _) as e w'⟨rfl,rfl⟩;go_wp2;go_ret;exact⟨by rw[f.out];rfl,o.out⟩
 .have X:¬(c:Int)<i:=af;have Z:¬(c:Int)=i:=af;have f:Lk (R=1):=ae (by rw[n.out,if_neg af,if_pos g]);go_wp2_with fail;go_call(uV _ _) as e w'⟨rfl,rfl⟩;go_wp2;go_ret;exact⟨by rw[f.out];rfl,o.out⟩
theorem BQ:(prog.info? 9).map (λi=>(i.zero,i.size,i.bytes))=IT (IT (.string ByteArray.empty),1,16):=ah
def bT(w:KX)(v:J3)(ns:List Name):Prop:=
 ∃g b cap a,v=.slice (IT ⟨g,b,KK⟩) ns.length cap/\w.heap[g]? = IT (Mi a 9 (0,0))/\b+cap<=a.size/\cap<=maxLen/\ns.length<=cap/\∀j(h:j<ns.length),a[b+j]? = IT (.string ns[j])
section
variable {S:Nat->Prop}{w w':KX}{v:J3}{ns:List Name}
theorem bT.kept(h:bT w v ns)(d:∀b,v.ownBlock=IT b->w'.heap[b]? = w.heap[b]?):bT w' v ns:=by obtain⟨g,c,cap,a,rfl,e,r⟩:=h;exact⟨g,c,cap,a,rfl,(d g rfl).trans e,r⟩
theorem bT.lt(h:bT w v ns):∀b,v.ownBlock=IT b->b<w.heap.size:=by obtain⟨g,d,cap,c,rfl,e,r⟩:=h;intro b a;cases a;grind
theorem bT.below(h:bT w v ns)(a:Lg w w w'):bT w' v ns:=h.kept λb c=>a.block b (h.lt b c)
theorem bT.turn(h:bT w v ns)(c:aN S w w')(d:∀b,v.ownBlock=IT b->¬S b):bT w' v ns:=h.kept λb a=>c.block b (h.lt b a) (d b a)
theorem bT.cells{g len:Nat}(h:bT w (.slice (IT ⟨g,b,KK⟩) len cap) ns):len=ns.length/\len<=cap/\cap<=maxLen/\∀j(h:j<ns.length),w.cell? ⟨g,b+j,KK⟩=IT (.string ns[j]):=by obtain⟨k,a,c,d,n,l,i,m,e,f⟩:=h;grind [au]
theorem bT.shape(h:bT w v ns):∃g a cap,v=.slice (IT ⟨g,a,KK⟩) ns.length cap:=by obtain⟨g,a,cap,b,rfl,_⟩:=h;simp
theorem bT.Ig{base:Nat}(c:w.ownsRow base 9 1 v ns.length (ns.map ki))(p:ns≠[]):bT w v ns:=by
 obtain⟨n,⟨k,l⟩|⟨g,cap,a,rfl,m,b,d,f,o,e⟩⟩:=c
 .grind
 .refine⟨g,0,cap,a,rfl,b,af,f,d,λj i=>?_⟩;have h:(a.toList.take (ns.length*1))[j]? = (ns.map ki)[j]? := by rw[e]
  grind
theorem bT.take{g len:Nat}(h:bT w (.slice (IT ⟨g,b,KK⟩) len cap) ns){n:Nat}(r:n<=ns.length):bT w (.slice (IT ⟨g,b,KK⟩) n cap) (ns.take n):=by
 obtain⟨q,c,d,a,l,f,e,i,m,o⟩:=h;cases l;have k:(ns.take n).length=n:=M2;refine⟨g,b,cap,a,by rw[k],f,e,i,af,λj p=>?_⟩;grind
theorem bT.drop{g len:Nat}(h:bT w (.slice (IT ⟨g,b,KK⟩) len cap) ns){n:Nat}(r:n<=ns.length):bT w (.slice (IT ⟨g,b+n,KK⟩) (len-n) (cap-n)) (ns.drop n):=by obtain⟨p,c,d,a,i,e,o,q,k,l⟩:=h;cases i;have f:(ns.drop n).length=ns.length-n:=ie ..;refine⟨g,b+n,cap-n,a,by rw[f],e,af,af,af,λj m=>?_⟩;grind
theorem bT.abd{g len:Nat}(h:bT w (.slice (IT ⟨g,b,KK⟩) len cap) ns)(p:len=cap):bT w (.slice (IT ⟨g,b,KK⟩) 0 0) []:=by obtain⟨n,c,d,a,i,f,m,o,k,l⟩:=h;cases i;exact⟨g,b,0,a,rfl,f,af,ai,cg _,λj e=>absurd e (Dc _)⟩
def nP(w:KX)(v:J3)(ns:List Name)(x:Name)(v':J3)(w':KX):Prop:=
 bT w' v' (ns++[x])/\aN (λb=>v.ownBlock=IT b) w w'/\(v'.ownBlock=v.ownBlock\/v'.ownBlock=IT w.heap.size)
theorem Ct(t ty:TypeId)(n:prog.underlying t=IT (.slice 9))(h:bT w v ns)(x:Name)(a:Addr)(c:Nat)(H:w.cell? a=IT (.string x))(F:ns.length<=100000) :
 ∃v' w',(Builtin.append_ #[t,t] ty #[v,.slice (IT a) 1 c]).run prog w=.ok v' w'/\nP w v ns x v' w':=by
 obtain⟨i0,hi,p,k,B⟩:=info_parts BQ;obtain⟨g,b,cap,l,rfl,q,D,A,E,C⟩:=h;have i:∀j u,[ki x][j]? = IT u->w.cell? (a.add j)=IT u:=λj u d=>by grind [Addr.add]
 have r:Src prog i0.size t (.slice (IT a) 1 c) 1 [ki x] w:=Src.ofSlice w n a 1 c _ M2 i (by simp[qn]);by_cases f:ns.length+1<=cap
 .have y:b+ns.length<l.size:=af;have o:=run_append_room_src (P:=prog) (w:=w) t t ty 9 i0 n hi g b ns.length cap _ 1 [ki x] r f (λj d=>by
   have:j=0:=M2
   subst this;rw[k,au q,sE,Nat.add_zero,Array.getElem?_eq_getElem y];rfl) (λj d=>aO q _)
  refine⟨_,_,o,⟨g,b,cap,l.setIfInBounds (b+ns.length) (.string x),ai,?_,M2,A,M2,λj d=>?_⟩,?_,.inl rfl⟩
  .show(w.setCell _ _).heap[g]? = _;rw[k,sE];grind [aS]
  .grind
  .exact(aN.refl _ w).setCell _ _ (.inl rfl)
 .have e:∀j u,(ns.map ki)[j]? = IT u->w.drew.cell? ((⟨g,b,KK⟩:Addr).add j)=IT u:=λj u d=>by
   rw[j1]at d;by_cases s:j<ns.length
   .rw[bk s]at d;cases d;show w.cell? _=_;grind [br,au]
   grind
  have z:=run_firstCells_some (P:=prog) w.drew i0.size ns.length ⟨g,b,KK⟩ ns.length cap (ns.map ki) M2 e;have o:=run_append_grow_src (P:=prog) (w:=w) t t ty 9 i0 (.string ByteArray.empty) n hi p (IT ⟨g,b,KK⟩) ns.length cap (ns.map ki) z _ 1 [ki x] r af af (growslice_fits af M2);have G:=grownCap_ge w (ns.length+1) cap 9;have m:=grownCap_le_maxLen w (ns.length+1) cap 9 (by grind [maxLen]);refine⟨_,_,o,⟨w.heap.size,0,grownCap w (ns.length+1) cap 9,_,ai,Lw w.drew _,?_,m,M2,λj d=>?_⟩,(aN.refl _ w).drew.alloc _,.inr rfl⟩
  .simp only[Array.size_append,List.size_toArray,eh,dj,List.length_singleton,size_zeroCells];show 0+_<=_+_*1;omega
  grind
theorem kr{ops:Array Oper}{rest:List Oper}{b:Oper}{a:Act}{Q:Exit->Act->KX->Prop}(d:b.guard=KK)(s y:Operand)(t:TypeId)(i:b.op=.call { callee:=.builtin .append,args:=#[s,y],argTypes:=#[t,t] })(l:prog.underlying t=IT (.slice 9))(m:a.eval s=v)(h:bT w v ns)(x:Name)(ad:Addr)(c:Nat)(n:a.eval y=.slice (IT ad) 1 c)(g:w.cell? ad=IT (.string x))(j:ns.length<=100000)(k:∀v' w',nP w v ns x v' w'->wpList prog ops Q rest (a.put b.dst v') w'):wpList prog ops Q (b::rest) a w:=by refine wpList_plain d λK hK=>?_;obtain⟨v',w',e,f⟩:=Ct t b.type l h x ad c g j;unfold Oper.wp execOp;simp only[i,resolve,invoke,builtin,Sem.run_bind,Sem.run_pure,Result.andThen_ok,List.map_toArray,List.map_cons,List.map_nil,m,n,e];exact hK _ _ (k v' w' f)
end
def az(es:List aJ)(fl:Bool):jV:=.inl (bf (fw 20) (es.map aJ.bytes),fl)
theorem dN(es:List aJ):iA 20 (es.map aJ.bytes):=λr a=>by obtain⟨e,_,rfl⟩:=gl.1 a;exact e.fE
def bK(w:KX)(b c a n:Nat)(e:aJ):Prop:=∃t,w.heap[b]? = IT (Mi #[ptrTo c,a,n,e.t,e.h,e.x,e.m] t)
def eE(w:KX)(c d:Nat)(a:aJ)(b:Bool):Prop:=∃t,w.heap[c]? = IT (Mi #[ptrTo d,a.t,a.h,a.x,a.m,.bool b] t)
section
variable {S:Nat->Prop}{w w':KX}{pb db n c k:Nat}{o o':ay}{d d':Dsk}{L':aL}
theorem bK.kept{e:aJ}(h:bK w c l i N e)(a:w'.heap[c]? = w.heap[c]?):bK w' c l i N e:=by obtain⟨t,h⟩:=h;exact⟨t,a.trans h⟩
theorem bK.lt{e:aJ}(h:bK w c l i N e):c<w.heap.size:=by obtain⟨t,h⟩:=h;exact(ds.1 h).1
theorem bK.below{e:aJ}(h:bK w c l i N e)(a:Lg w w w'):bK w' c l i N e:=h.kept (a.block _ h.lt)
theorem bK.cells{e:aJ}(h:bK w c l i N e) :
 (w.cell? c=IT (ptrTo l)/\w.cell? ⟨c,1,KK⟩=i/\w.cell? ⟨c,2,KK⟩=N) /\
 (w.cell? ⟨c,3,KK⟩=e.t/\w.cell? ⟨c,4,KK⟩=e.h/\w.cell? ⟨c,5,KK⟩=e.x/\w.cell? ⟨c,6,KK⟩=e.m) /\
 ∀j,w.frozen? ⟨c,j,KK⟩=false:=by obtain⟨t,h⟩:=h;refine⟨⟨?_,?_,?_⟩,⟨?_,?_,?_,?_⟩,λj=>aO h j⟩<;>rw[au h]<;>rfl
theorem bK.abe{e a:aJ}(h:bK w c l i N e) :
 bK ((((w.setCell ⟨c,3,KK⟩ a.t).setCell ⟨c,4,KK⟩ a.h).setCell ⟨c,5,KK⟩ a.x).setCell ⟨c,6,KK⟩ a.m) c l i N a:=by obtain⟨t,h⟩:=h;refine⟨t,?_⟩;have f:=aS h 3 a.t;have b:=aS f 4 a.h;have d:=aS b 5 a.x;exact aS d 6 a.m
theorem bK.setAt{i':Nat}{e:aJ}(h:bK w c l i N e):bK (w.setCell ⟨c,1,KK⟩ i') c l i' N e:=by obtain⟨t,h⟩:=h;exact⟨t,aS h 1 i'⟩
theorem eE.kept{x:aJ}(h:eE w k l x a)(b:w'.heap[k]? = w.heap[k]?):eE w' k l x a:=by obtain⟨t,h⟩:=h;exact⟨t,b.trans h⟩
theorem eE.lt{x:aJ}(h:eE w k l x a):k<w.heap.size:=by obtain⟨t,h⟩:=h;exact(ds.1 h).1
theorem eE.below{x:aJ}(h:eE w k l x a)(b:Lg w w w'):eE w' k l x a:=h.kept (b.block _ h.lt)
theorem eE.cells{x:aJ}(h:eE w k l x a) :
 w.cell? k=IT (ptrTo l)/\w.cell? ⟨k,1,KK⟩=x.t/\w.cell? ⟨k,2,KK⟩=x.h/\w.cell? ⟨k,3,KK⟩=x.x/\w.cell? ⟨k,4,KK⟩=x.m/\w.cell? ⟨k,5,KK⟩=IT (.bool a) /\
 ∀j,w.frozen? ⟨k,j,KK⟩=false:=by obtain⟨t,h⟩:=h;refine⟨?_,?_,?_,?_,?_,?_,λj=>aO h j⟩<;>rw[au h]<;>rfl
theorem eE.set{x y:aJ}(h:eE w k l x a) :
 eE (((((w.setCell ⟨k,1,KK⟩ y.t).setCell ⟨k,2,KK⟩ y.h).setCell ⟨k,3,KK⟩ y.x).setCell ⟨k,4,KK⟩ y.m).setCell ⟨k,5,KK⟩ (.bool Jd)) k l y true:=by obtain⟨t,h⟩:=h;refine⟨t,?_⟩;have e:=aS h 1 y.t;have d:=aS e 2 y.h;have b:=aS d 3 y.x;have c:=aS b 4 y.m;exact aS c 5 (.bool Jd)
def Ed(n b db:Nat)(w:KX)(o:ay)(d:Dsk)(L:aL)(a f i N:Nat)(x:aJ)(e:Lp)(w':KX):Prop:=
 ∃c d' o',e=Mk (Ly #[.bool (c == 0),Kx Mm ((c:Nat):Int)])/\Moved (·=a) n b db w o d w' o' d' L/\(c=0\/om d d' L c)/\(c=0->bK w' a f (i+1) N x)
theorem oU{g:aJ}(b:bK w c l i N g)(hi:N<=i):K1 prog 200 #[ptrTo c] w λe w'=>e=Mk (Ly #[.bool J0,Kx Mm 0])/\∃q,w'=w.drewN q:=by
 obtain⟨⟨a,f,d⟩,-,-⟩:=b.cells;have h:((i:Int) >= N):=af;clear b a;unfold ptrTo;go_enter func200,ntmps200;go_wp2;go_quiet (fail)
 go_wp2;go_ret2;exact⟨rfl,_,rfl⟩
theorem vY(HW:aV)(h:aU w pb db n o d L)(q:aM w l pb name 20)(R:o l=KK){t:aJ}{es:List aJ}(u:bK w c l i es.length t)(Q:o c=KK)(G:aI L name=IT (az es fl))(hi:i<es.length):K1 prog 200 #[ptrTo c] w (Ed n pb db w o d L c l i es.length es[i]):=by
 have F:=(h.ej G).1;have Z:es.length<=16777216:=by
  rw[dG,dj]at F;have h3:es.length<=fw 20*cN (fw 20) es.length:=Nat.le_of_not_lt (λh=>sT _ ((eR ag).2 h));have FO:fw 20=12:=ag;rw[FO]at h3 F;omega
 have jM:Lk (∀W,Lg w w W->K1 prog 104 #[ptrTo l,i] W (JA n pb db W o d L es[i].bytes)):=ae (λW Y=>by have:=nO HW (h.below Y) (q.below Y) R ag ag G (dN es) (i:=i) (by rw[dj];exact hi);rw[List.getElem_map]at this;exact this)
 have H:=ae h;have S:=ae u;have m:=ae Q;have A:=u.lt;generalize es[i]=x at *;generalize es.length=N at *;have ci:¬((i:Int) >= N):=af;obtain⟨⟨y,k,E⟩,-,-⟩:=u.cells;have tW:cf Mm ((i:Int)+1)=i+1:=ax af af;clear h q R u Q G F hi Z y;unfold ptrTo at *;go_enter func200,ntmps200;go_wp2;go_quiet (fail)
 have C:Lk (Lg w w (w.drewN nq)):=ae (below_drewN aq _);have V:Lk (bK (w.drewN nq) c l i N t):=ae (S.out.below C.out);generalize w.drewN nq=M at *;clear k E;go_wp2;refine cW (Lg M M) 8 rfl ah ah (aq.drew) ?_;simp only[ii,j2];iterate 3 (refine qz ?_)
 refine qz ?_ (λw' j=>by have O:=(V.out.below j).cells.1.1;unfold ptrTo at O;go_simp<;>rfl);iterate 3 (refine qz ?_)
 refine qz ?_ (λw' j=>by have O:=(V.out.below j).cells.1.2.1;go_simp<;>rfl);refine wpQuiet_nil ?_;intro P p;refine⟨_,_,rfl,(by go_simp<;>exact⟨rfl,rfl⟩),?_⟩;have r:Lk (Lg w w P):=ae (C.out.trans (p.mono C.out.size));go_call(jM.out P r.out) as e w3⟨v3,c3,d3,o3,rfl,fD,Ic,y7,D5⟩;have v:Lk (Moved (·=c) n pb db w o d w3 o3 d3 L):=ae ((Moved.aZ H.out r.out).trans fD (λ_ _ h=>h.elim));have T:Lk (bK w3 c l i N t):=ae ((S.out.below r.out).kept (fD.block (eg A r.out.size) m.out (λh=>h)));have BL:=ae Ic;clear p fD Ic;by_cases f:c3=0
 .subst f;obtain⟨s,B⟩:=y7 rfl;obtain⟨a3,X,rfl⟩:=aw s;have uT:=ae (fp s);have pN:=ae s;have z:Lk (∀b,(fz a3 x.bytes.length X).ownBlock=IT b->b≠c):=ae (λb J e=>No (aD s b J) r.out.size)
  clear y7 D5 s B;refine⟨_,rfl,?_⟩;go_simp;iterate 5 (refine qz ?_)
  refine wpQuiet_nil ?_;obtain⟨⟨-,k,-⟩,-,g⟩:=T.out.cells;have D:=g 1;have I:Lk (Rd (w3.setCell ⟨c,1,KK⟩ (Kx Mm ((i:Int)+1))) (.slice a3 x.bytes.length X) x.bytes):=ae (((aN.refl (·=c) w3).setCell ⟨c,1,KK⟩ _ (.inl rfl)).rd uT.out (λb J e=>z.out b J e));have jh:Lk (bK (w3.setCell ⟨c,1,KK⟩ (Kx Mm ((i:Int)+1))) c l (i+1) N t):=ae (by have:=T.out.setAt (i':=i+1);rwa [show((i+1:Nat):Int)=i+1 by omega]at this)
  have jg:Lk (Moved (·=c) n pb db w o d (w3.setCell ⟨c,1,KK⟩ (Kx Mm ((i:Int)+1))) o3 d3 L):=ae (v.out.setCell _ _ (v.out.free A m.out) (.inl rfl));clear g;go_wp2_with fail;generalize w3.setCell ⟨c,1,KK⟩ (Kx Mm ((i:Int)+1))=w4 at *;go_call(BO _ x _ I.out) as e w5⟨rfl,kR⟩;have U:=ae (jh.out.below kR);have oy:=ae (jg.out.below kR);clear kR k D;obtain⟨-,⟨ac,am,al,aE⟩,g⟩:=U.out.cells;have ce:=g 3;have zW:=g 4;have S8:=g 5;have bd:=g 6;clear g;go_wp2;go_ret2;have a:=v.out.free A m.out;exact⟨0,d3,o3,rfl,(((oy.out.setCell ⟨c,3,KK⟩ _ a (.inl rfl)).setCell ⟨c,4,KK⟩ _ a (.inl rfl)).setCell ⟨c,5,KK⟩ _ a (.inl rfl)).setCell ⟨c,6,KK⟩ _ a (.inl rfl),.inl rfl,λ_=>U.out.abe⟩
 .obtain rfl:=D5 f;have PE:¬(c3:Int)=0:=af;have K:=ae f;clear f y7 D5;refine⟨_,rfl,?_⟩;go_simp;iterate 5 (refine qz ?_)
  refine wpQuiet_nil ?_;go_wp2;go_ret2;exact⟨c3,d3,o3,by rw[beq_false_of_ne K.out];rfl,v.out,BL.out,λh=>absurd h K.out⟩
end
section
variable {S:Nat->Prop}{w w':KX}{pb db n k:Nat}{o o':ay}{d d':Dsk}{L':aL}
def gA(w:KX)(b c:Nat)(a:List aJ):Prop:=(a=[]/\∃x,eE w b c x J0)\/∃x,a.getLast? = IT x/\eE w b c x Jd
theorem gA.kept{a:List aJ}(h:gA w k l a)(d:w'.heap[k]? = w.heap[k]?):gA w' k l a:=
 h.imp (λ⟨c,x,b⟩=>⟨c,x,b.kept d⟩) (λ⟨x,c,b⟩=>⟨x,c,b.kept d⟩)
theorem gA.lt{a:List aJ}(h:gA w k l a):k<w.heap.size:=by
 rcases h with⟨_,x,h⟩|⟨x,_,h⟩
 .exact h.lt
 .exact h.lt
theorem gA.below{a:List aJ}(h:gA w k l a)(b:Lg w w w'):gA w' k l a:=h.kept (b.block _ h.lt)
theorem Gx[DecidableEq κ]{m:List (κ×υ)}{k:κ}{v:υ}(h:aI m k=IT v)(a:κ):aI (aX m k v) a=aI m a:=by grind [aC]
theorem Moved.same(h:Moved S n pb db w o d w' o' d' L){f:jV}(a:aI L name=IT f):Moved S n pb db w o d w' o' d' (aX L name f):=
 h.congr (cK h.bh.keys) (λx=>Gx a x)
def Ee(n f db:Nat)(w:KX)(o:ay)(d:Dsk)(L:aL)(name:Name)(b g:Nat)(a:List aJ)(x:aJ)(e:Lp)(w':KX):Prop:=
 ∃c d' o',e=Mk (Kx Mm ((c:Nat):Int))/\Moved (·=b) n f db w o d w' o' d' (if c=0 then aX L name (az (xI a x) J0) else L)/\(c=0\/om d d' L c)/\(c=0->gA w' b g (xI a x))
def ui(a:aJ)(b:Bool)(x:aJ):Bool:=decide (x.t=x.h) || (b && (decide (a.t=x.t) && decide (a.h=x.h)))
theorem Ef{a b:UInt32}(h:¬a=b):¬((a.toNat:Int)=b.toNat)/\((a.toNat:Int) == b.toNat)=J0/\¬a.toNat=b.toNat/\decide (a.toNat=b.toNat)=J0/\decide ((a.toNat:Int)=b.toNat)=false:=by grind [UInt32.toNat_inj]
theorem Xs{a x:aJ}{b:Bool}(i:eE w k l a b)(g:ui a b x=Jd):K1 prog 204 #[ptrTo k,LV #[x.t,x.h,x.x,x.m]] w λe w'=>e=Mk (Kx Mm 0)/\Lg w w w':=by
 obtain⟨h,f,d,j,p,o,-⟩:=i.cells;have u:=i.lt;clear i h j p;unfold ui at g;unfold ptrTo;by_cases c:x.t=x.h
 .rw[c];clear g c f d o;go_enter func204,ntmps204;go_wp2;go_quiet (fail)
  go_wp2;go_ret;exact⟨rfl,below_drewN aj _⟩
 .cases b with
  |false=>grind
  |true=>
    obtain⟨q,s,r,v,t⟩:=Ef c;simp only[c,decide_false,Bool.false_or,Bool.true_and,j4,decide_eq_true_eq]at g;obtain⟨n,m⟩:=g;rw[n]at f;rw[m]at d;clear c n m;go_enter func204,ntmps204;go_wp2;go_quiet (fail)
    go_wp2;go_ret;exact⟨rfl,below_drewN aj _⟩
theorem PI{b:List aJ}{a:aJ}{c:Bool}{x:aJ}(h:(b=[]/\c=J0)\/(b.getLast? = IT a/\c=Jd)):(ui a c x=Jd->xI b x=b)/\(ui a c x=J0->xI b x=b++[x]):=by
 unfold ui;constructor
 .intro d;refine Au ?_;simp only[Bool.or_eq_true,j4,decide_eq_true_eq]at d;rcases d with d |⟨k,g,f⟩
  .exact .inl d
  .rcases h with⟨_,h⟩|⟨h,_⟩
   .grind
   .exact .inr ⟨a,h,g,f⟩
 .intro d;refine DJ (λe=>?_);simp only[Bool.or_eq_false_iff,Bool.and_eq_false_iff,decide_eq_false_iff_not]at d;rcases e with e |⟨y,l,i,j⟩
  .grind
  grind
theorem abg(HW:aV)(h:aU w pb db n o d L)(R:aM w l pb name 20)(ho:o l=KK)(gu:o k=KK)(O:k≠l){t:List aJ}(hL:aI L name=IT (az t J0))(hN:t.length<65535){i x:aJ}{r:Bool}(V:eE w k l i r)(hs:ui i r x=J0):K1 prog 204 #[ptrTo k,LV #[x.t,x.h,x.x,x.m]] w λe w'=>
  ∃c d' o',e=Mk (Kx Mm ((c:Nat):Int))/\Moved (·=k) n pb db w o d w' o' d' (if c=0 then aX L name (az (t++[x]) J0) else L)/\(c=0\/om d d' L c)/\eE w' k l x true:=by
 have kQ:Lk (∀W o' d',aU W pb db n o' d' L->aM W l pb name 20->o' l=KK->∀T,Rd W T x.bytes->(∀b,T.ownBlock=IT b->o' b=KK) ->
  Calls prog 38 #[ptrTo l,T] W (ll (λ_=>False) n pb db W o' d' L (aX L name (az (t++[x]) J0)))):=ae (λW o' d' hW Z j5 T hr X=>by
  have:=mH HW hW Z j5 ag ag hL (dN t) M2 hr x.fE X;grind [az])
 have aE:=ae (λW=>zb x W);have H:=ae h;have ci:=ae R;have HO:=ae ho;have B:=ae gu;have HK:=ae V;have pW:=ae O;obtain⟨-,G,ac,-,-,BI,-⟩:=V.cells;have yL:=V.lt;have al:Lk (∀W,eE W k l i r->eE (((((W.setCell ⟨k,1,KK⟩ x.t).setCell ⟨k,2,KK⟩ x.h).setCell ⟨k,3,KK⟩ x.x).setCell ⟨k,4,KK⟩ x.m).setCell ⟨k,5,KK⟩ (.bool Jd)) k l x Jd):=ae (λW h=>h.set);clear h R ho gu V O hL hN;unfold ui at hs;simp only[Bool.or_eq_false_iff,Bool.and_eq_false_iff,decide_eq_false_iff_not]at hs;obtain⟨I,bd⟩:=hs;obtain⟨a1,a2,a3,a4,a5⟩:=Ef I;clear I;have Xt:r=J0\/(r=Jd/\¬i.t=x.t)\/(r=Jd/\i.t=x.t/\¬i.h=x.h):=M2;clear bd;unfold ptrTo at *;rcases Xt with rfl |⟨rfl,g⟩|⟨rfl,g,g'⟩;case' inr.inl=>obtain⟨b1,b2,b3,b4,b5⟩:=Ef g;clear g
 case' inr.inr=>obtain⟨b1,b2,b3,b4,b5⟩:=Ef g';rw[g]at G;clear g g'
 all_goals
  go_enter func204,ntmps204;go_wp2;go_quiet (fail)
  have cD:Lk (Lg w w ((w.alloc (Mi #[x.t,x.h,x.x,x.m] 63)).drewN nq)):=ae (below_drewN aj _);have e0:((w.alloc (Mi #[x.t,x.h,x.x,x.m] 63)).drewN nq).cell? w.heap.size=x.t:=ai;have e1:((w.alloc (Mi #[x.t,x.h,x.x,x.m] 63)).drewN nq).cell? ⟨w.heap.size,1,KK⟩=x.h:=ai;have e2:((w.alloc (Mi #[x.t,x.h,x.x,x.m] 63)).drewN nq).cell? ⟨w.heap.size,2,KK⟩=x.x:=ai;have e3:((w.alloc (Mi #[x.t,x.h,x.x,x.m] 63)).drewN nq).cell? ⟨w.heap.size,3,KK⟩=x.m:=ai;have Hg:w.heap.size<((w.alloc (Mi #[x.t,x.h,x.x,x.m] 63)).drewN nq).heap.size:=ai;generalize (w.alloc (Mi #[x.t,x.h,x.x,x.m] 63)).drewN nq=z at *;clear G ac BI;have A:=ae (HK.out.below cD.out);obtain⟨k0,k1,k2,k3,k4,k5,D⟩:=A.out.cells;have z1:=D 1;have z2:=D 2;have z3:=D 3;have z4:=D 4;have z5:=D 5;have OM:¬w.heap.size=k:=af;clear D;go_wp2;have Y:=al.out z A.out;have dA:Moved (·=k) n pb db w o d (((((z.setCell ⟨k,1,KK⟩ x.t).setCell ⟨k,2,KK⟩ x.h).setCell ⟨k,3,KK⟩ x.x).setCell ⟨k,4,KK⟩ x.m).setCell ⟨k,5,KK⟩ (.bool Jd)) o d L:=
   (((((Moved.aZ (S:=(·=k)) H.out cD.out).setCell ⟨k,1,KK⟩ _ B.out (.inl rfl)).setCell ⟨k,2,KK⟩ _ B.out (.inl rfl)).setCell ⟨k,3,KK⟩ _ B.out (.inl rfl)).setCell ⟨k,4,KK⟩ _ B.out (.inl rfl)).setCell ⟨k,5,KK⟩ _ B.out (.inl rfl)
  have Q:w.heap.size<(((((z.setCell ⟨k,1,KK⟩ x.t).setCell ⟨k,2,KK⟩ x.h).setCell ⟨k,3,KK⟩ x.x).setCell ⟨k,4,KK⟩ x.m).setCell ⟨k,5,KK⟩ (.bool Jd)).heap.size:=Nc;have f:∀(j:Nat)(v:J3),z.cell? ⟨w.heap.size,j,KK⟩=IT v->(((((z.setCell ⟨k,1,KK⟩ x.t).setCell ⟨k,2,KK⟩ x.h).setCell ⟨k,3,KK⟩ x.x).setCell ⟨k,4,KK⟩ x.m).setCell ⟨k,5,KK⟩ (.bool Jd)).cell? ⟨w.heap.size,j,KK⟩=IT v:=λj v hv=>((((((aN.refl (·=k) z).setCell ⟨k,1,KK⟩ x.t (.inl rfl)).setCell ⟨k,2,KK⟩ x.h (.inl rfl)).setCell ⟨k,3,KK⟩ x.x (.inl rfl)).setCell ⟨k,4,KK⟩ x.m (.inl rfl)).setCell ⟨k,5,KK⟩ (.bool Jd) (.inl rfl)).cell hv OM
  have f0:=f 0 _ e0;have f1:=f 1 _ e1;have f2:=f 2 _ e2;have f3:=f 3 _ e3;have J:=ae Y;have fV:=ae dA;have q0:=Y.cells.1;unfold ptrTo at q0;clear f Y dA e0 e1 e2 e3 k0 k1 k2 k3 k4 k5 z1 z2 z3 z4 z5 A;generalize (((((z.setCell ⟨k,1,KK⟩ x.t).setCell ⟨k,2,KK⟩ x.h).setCell ⟨k,3,KK⟩ x.x).setCell ⟨k,4,KK⟩ x.m).setCell ⟨k,5,KK⟩ (.bool Jd))=F at *;have am:w.heap.size<=F.heap.size:=yi Q;have LJ:Lk (∀a v3,a.ownsRow F.drew.heap.size 5 1 v3 x.bytes.length (x.bytes.map bv)->Lg F.drew.heap.size F.drew a->(a.cell? k=IT (.pointer l)/\a.cell? w.heap.size=x.t/\a.cell? ⟨w.heap.size,1,KK⟩=x.h/\a.cell? ⟨w.heap.size,2,KK⟩=x.x/\a.cell? ⟨w.heap.size,3,KK⟩=x.m) /\
   Moved (·=k) n pb db w o d a o d L/\aM a l pb name 20/\Rd a v3 x.bytes/\(∀b,v3.ownBlock=IT b->o b=KK)/\eE a k l x Jd):=ae (λa v3 M q=>by
   have y:=fV.out.drew.below q;have m:eE a k l x true:=J.out.kept (q.block k J.out.lt);have g:=λ(j:Nat)(v:J3)(hv:F.cell? ⟨w.heap.size,j,KK⟩=IT v)=>(show a.cell? ⟨w.heap.size,j,KK⟩=IT v by rw[q.cell (p:=⟨w.heap.size,j,KK⟩) Q];exact hv);refine⟨⟨m.cells.1,g 0 _ f0,g 1 _ f1,g 2 _ f2,g 3 _ f3⟩,y,?_,fp M,λb hb=>H.out.fresh (cp am (aD M b hb)),m⟩;exact ci.out.moved y HO.out (λe=>pW.out e.symm))
  have ce:Lk (∀a s C E L4,Moved (·=k) n pb db w o d a o d L->eE a k l x Jd->a.cell? w.heap.size=x.t/\a.cell? ⟨w.heap.size,1,KK⟩=x.h/\a.cell? ⟨w.heap.size,2,KK⟩=x.x/\a.cell? ⟨w.heap.size,3,KK⟩=x.m->Moved (λ_=>False) n pb db a o d s E C L4 ->
   (s.cell? k=IT (.pointer l)/\s.cell? w.heap.size=x.t/\s.cell? ⟨w.heap.size,1,KK⟩=x.h/\s.cell? ⟨w.heap.size,2,KK⟩=x.x/\s.cell? ⟨w.heap.size,3,KK⟩=x.m) /\
   Moved (·=k) n pb db w o d s E C L4/\eE s k l x Jd):=ae (λa s C E L4 y m ⟨g0,g1,g2,g3⟩ u=>by
   have r8:eE s k l x true:=m.kept (u.block m.lt B.out (λh=>h));have U:o w.heap.size=none:=H.out.fresh (cg _);exact⟨⟨r8.cells.1,u.cell g0 U (λh=>h),u.cell g1 U (λh=>h),u.cell g2 U (λh=>h),u.cell g3 U (λh=>h)⟩,y.trans u (λ_ _ h=>h.elim),r8⟩)
  go_region_held3 (λw'=>w'.cell? k=IT (.pointer l)/\w'.cell? w.heap.size=x.t/\w'.cell? ⟨w.heap.size,1,KK⟩=x.h/\w'.cell? ⟨w.heap.size,2,KK⟩=x.x/\w'.cell? ⟨w.heap.size,3,KK⟩=x.m) (first | exact⟨q0,f0,f1,f2,f3⟩| exact q1 | exact q2)
   (first
     | (go_at_call 183;go_call(aE.out _) as e a⟨v3,rfl,M,q⟩;obtain⟨q1,y,y8,K,N,m⟩:=LJ.out a v3 M q)
     | (go_at_call 38;go_call(kQ.out a o d y.bh y8 HO.out v3 K N) as e s⟨c4,C,E,rfl,u,Cq⟩;obtain⟨q2,oq,P⟩:=ce.out a s C E _ y m q1.2 u))
  have oy:=ae oq;have cE:=ae P;have zZ:=ae Cq;clear oq P Cq u y y8 K N m M q q1 q2 q0 f0 f1 f2 f3;go_wp2;go_ret;exact⟨c4,C,E,rfl,oy.out,zZ.out,cE.out⟩
theorem BR(A:aV)(h:aU w pb db n o d L)(j:aM w l pb name 20)(v:o l=KK)(t:o k=KK)(g:k≠l){a:List aJ}(m:aI L name=IT (az a J0))(r:a.length<65535)(u:gA w k l a)(x:aJ):K1 prog 204 #[ptrTo k,LV #[x.t,x.h,x.x,x.m]] w (Ee n pb db w o d L name k l a x):=by
 obtain⟨last,any,b,q⟩:∃last any,eE w k l last any/\((a=[]/\any=J0)\/(a.getLast? = IT last/\any=Jd)):=by
  rcases u with⟨p,y,s⟩|⟨y,p,s⟩
  .grind
  grind
 obtain⟨p1,p2⟩:=PI (x:=x) q;cases f:ui last any x with
 |true=>
   refine(Xs b f).mono ?_;rintro e w'⟨rfl,z⟩;refine⟨0,d,o,rfl,?_,.inl rfl,λ_=>?_⟩
   .rw[if_pos rfl,p1 f];exact(Moved.aZ h z).same m
   grind [gA.below]
 |false=>refine(abg A h j v t g m r b f).mono ?_;rintro e w'⟨c,d',o',rfl,C,B,i⟩;refine⟨c,d',o',rfl,M2,B,λ_=>?_⟩;rw[p2 f];exact .inr ⟨x,ai,i⟩
end
end Go.Proofs.YtofigggbapdfhaaGreatDoor
namespace Go.Proofs
open Go.Shelf
def Tryz.itoa_ren:Go.Shelf.Ren:=⟨λ| 171=>84 | 243=>155 | 246=>207 | 283=>240 | 284=>241 | 285=>242 | 286=>243 | 129=>135 | 317=>274 | 318=>275 | 319=>276 | 320=>277 | 337=>297 | 338=>298 | n=>n,λ| 3=>3 | 9=>9 | 2=>2 | 4=>4 | 171=>318 | 0=>0 | 53=>61 | 37=>46 | 5=>5 | 173=>320 | 212=>356 | 51=>33 | 20=>20 | 213=>357 | 46=>156 | 232=>377 | 233=>378 | n=>n,λ| 17=>0 | 18=>1 | 19=>2 | n=>n⟩
theorem Tryz.itoa:Go.Proofs.LaysM.n171 prog Tryz.itoa_ren:={
 mixed:=ah
 f129:=func135.trans ar
 f171:=func84.trans ar
 f243:=func155.trans ar
 f246:=func207.trans ar
 f283:=func240.trans ar
 f284:=func241.trans ar
 f285:=func242.trans ar
 f286:=func243.trans ar
 f317:=func274.trans ar
 f318:=func275.trans ar
 f319:=func276.trans ar
 f320:=func277.trans ar
 f337:=func297.trans ar
 f338:=func298.trans ar
 t0:=Tryz.underlying0
 a0:=Tryz.isAgg0
 z0:=Tryz.sizeOf0
 v0:=Tryz.zeroValue0
 t2:=Tryz.underlying2
 a2:=Tryz.isAgg2
 z2:=Tryz.sizeOf2
 v2:=Tryz.zeroValue2
 t3:=Tryz.underlying3
 a3:=Tryz.isAgg3
 z3:=Tryz.sizeOf3
 v3:=Tryz.zeroValue3
 t4:=Tryz.underlying4
 a4:=Tryz.isAgg4
 z4:=Tryz.sizeOf4
 v4:=Tryz.zeroValue4
 t5:=Tryz.underlying5
 a5:=Tryz.isAgg5
 z5:=Tryz.sizeOf5
 v5:=Tryz.zeroValue5
 t9:=Tryz.underlying9
 a9:=Tryz.isAgg9
 z9:=Tryz.sizeOf9
 v9:=Tryz.zeroValue9
 t20:=Tryz.underlying20
 a20:=Tryz.isAgg20
 z20:=Tryz.sizeOf20
 v20:=Tryz.zeroValue20
 t37:=Tryz.underlying46
 a37:=Tryz.isAgg46
 z37:=Tryz.sizeOf46
 v37:=Tryz.zeroValue46
 t46:=Tryz.underlying156
 a46:=Tryz.isAgg156
 z46:=Tryz.sizeOf156
 v46:=Tryz.zeroValue156
 t51:=Tryz.underlying33
 a51:=Tryz.isAgg33
 z51:=Tryz.sizeOf33
 v51:=Tryz.zeroValue33
 t53:=Tryz.underlying61
 a53:=Tryz.isAgg61
 z53:=Tryz.sizeOf61
 v53:=Tryz.zeroValue61
 t171:=Tryz.underlying318
 a171:=Tryz.isAgg318
 z171:=Tryz.sizeOf318
 v171:=Tryz.zeroValue318
 t173:=Tryz.underlying320
 a173:=Tryz.isAgg320
 z173:=Tryz.sizeOf320
 v173:=Tryz.zeroValue320
 t212:=Tryz.underlying356
 a212:=Tryz.isAgg356
 z212:=Tryz.sizeOf356
 v212:=Tryz.zeroValue356
 t213:=Tryz.underlying357
 a213:=Tryz.isAgg357
 z213:=Tryz.sizeOf357
 t232:=Tryz.underlying377
 a232:=Tryz.isAgg377
 z232:=Tryz.sizeOf377
 v232:=Tryz.zeroValue377
 t233:=Tryz.underlying378
 a233:=Tryz.isAgg378
 z233:=Tryz.sizeOf378
 v233:=Tryz.zeroValue378
 g17:=ah
 g18:=ah
 g19:=ah
 i0:=ah
 i2:=ah
 i3:=ah
 i4:=ah
 i5:=ah
 i9:=ah
 i20:=ah
 i37:=ah
 i46:=ah
 i51:=ah
 i53:=ah
 i171:=ah
 i173:=ah
 i212:=ah
 i232:=ah
 i233:=ah
 m17:=ah
 m18:=ah
 m19:=by kernel_rfl }
def Tryz.hasPre_ren:Go.Shelf.Ren:=⟨λ| 99=>80 | 206=>151 | n=>n,λ| 9=>9 | 4=>4 | 3=>3 | n=>n,λ| n=>n⟩
theorem Tryz.hasPre:Go.Proofs.Lays.n99 prog Tryz.hasPre_ren:={
 mixed:=ah
 f99:=func80.trans ar
 f206:=func151.trans ar
 t3:=Tryz.underlying3
 a3:=Tryz.isAgg3
 z3:=Tryz.sizeOf3
 v3:=Tryz.zeroValue3
 t4:=Tryz.underlying4
 a4:=Tryz.isAgg4
 z4:=Tryz.sizeOf4
 v4:=Tryz.zeroValue4
 t9:=Tryz.underlying9
 a9:=Tryz.isAgg9
 z9:=Tryz.sizeOf9
 v9:=Tryz.zeroValue9 }
def Tryz.delSrc_ren:Go.Shelf.Ren:=⟨λ| 45=>205 | n=>n,λ| 22=>276 | 23=>172 | 3=>3 | 4=>4 | 0=>0 | n=>n,λ| n=>n⟩
theorem Tryz.delSrc:Go.Proofs.SlLaysE.n45 prog Tryz.delSrc_ren:={
 mixed:=ah
 f45:=⟨Tryz.f205.name,ag,func205.trans ar⟩
 t0:=Tryz.underlying0
 a0:=Tryz.isAgg0
 z0:=Tryz.sizeOf0
 v0:=Tryz.zeroValue0
 t3:=Tryz.underlying3
 a3:=Tryz.isAgg3
 z3:=Tryz.sizeOf3
 v3:=Tryz.zeroValue3
 t4:=Tryz.underlying4
 a4:=Tryz.isAgg4
 z4:=Tryz.sizeOf4
 v4:=Tryz.zeroValue4
 t22:=Tryz.underlying276
 a22:=Tryz.isAgg276
 z22:=Tryz.sizeOf276
 v22:=Tryz.zeroValue276
 a23:=Tryz.isAgg172
 z23:=Tryz.sizeOf172 }
end Go.Proofs
namespace Go.Proofs.YtofigggbapdfhaaGreatDoor
open Go.RowKit Go.Maps Go.MapKept
open Go.Proofs.Tryz
open Go renaming World->KX,Calls->K1,Ending->Lp,heap_alloc_new->Lw
open Go.Value renaming int->Kx
open Go.Ending renaming returned->Mk
open Go.IntKind renaming i64->Mm
open Go.IntKind renaming wrap->cf
variable {ps:List Pg}{fl:Bool}
section
variable {S:Nat->Prop}{w w':KX}{c db n h g b f l a:Nat}{by':Bool}{name:Name}{o o':ay}{d d':Dsk}{L L':aL}
theorem dC.moved(h:dC w f c l a by')(b:Moved S n c db w o d w' o' d' L')(i:o f=KK)(j:o l=KK)(e:¬S f)(g:¬S l):dC w' f c l a by':=
 h.kept (b.block h.lt.1 i e) (b.block h.lt.2 j g)
theorem Sound.weaken{fs:List cB}(h:Sound d fs L)(b:aI L name=IT (.inl (ps,fl))):Sound d fs (aX L name (.inl (ps,J0))) where
 keys:=cK h.keys
 ij:=h.ij
 names:=λx=>by
  rw[cY,h.names];by_cases e:x=name
  .subst e;simp[b]
  .simp[e]
 ok:=λx l=>by
  rw[cY]at l;by_cases e:x=name
  .subst e;exact h.ok x (by rw[b];rfl)
  .exact h.ok x (by simpa[e]using l)
 ej:=λx g i a=>by
  rw[aC]at a;by_cases e:x=name
  .rw[if_pos e]at a;cases a;subst e;obtain⟨f,r,q⟩:=h.ej _ _ _ b;exact⟨f,r,q.get,q.now,q.le,q.most,q.short,q.Gk,q.each,λe=>(by cases e),q.jE⟩
  .rw[if_neg e]at a;exact h.ej x g i a
 oJ:=λx n o a=>by
  rw[aC]at a;by_cases e:x=name
  .rw[if_pos e]at a;cases a
  .rw[if_neg e]at a;exact h.oJ x n o a
 frames:=λj m p=>by
  obtain⟨g,i,c,k⟩:=h.frames j m p;rw[aC];by_cases e:j.name=name
  .rw[if_pos e];rw[e,b]at c;cases c;exact⟨ps,J0,rfl,k⟩
  .rw[if_neg e];exact⟨g,i,c,k⟩
 blank:=h.blank
 once:=h.once
 dI:=λx s t=>by rw[cY,h.dI x s t];simp
theorem aU.weaken(h:aU w c db n o d L)(i:aI L name=IT (.inl (ps,fl))):aU w c db n o d (aX L name (.inl (ps,J0))):=by obtain⟨f,a,l,hand,e,h,b,g⟩:=h;exact⟨f,a,l,hand,e,h,b,g.weaken i⟩
theorem JC(fl:Bool):az [] fl=.inl ([],fl):=rfl
def dK(d:Dsk)(L:aL)(name:Name):Nat:=if d.tick.dead=Jd then 6 else if b6 name=J0 then 1 else if (aI L name).isSome=Jd then 4 else 0
def iC(n a db:Nat)(w:KX)(o:ay)(d:Dsk)(L:aL)(name:Name)(e:Lp)(w':KX):Prop:=
 ∃d' o',e=dK d L name/\Moved (λ_=>False) n a db w o d w' o' d' (if dK d L name=0 then aX L name (.inl ([],Jd)) else L)/\(dK d L name=0->d'.dead=J0)/\(d.tick.dead=Jd->d'.dead=Jd)
theorem mP(h:aU w c db n o d L)(name:Name)(u:name.size<=1000):K1 prog 36 #[ptrTo c,.string name] w (iC n c db w o d L name):=by
 obtain⟨s,m,l,hand,r,j,p,g⟩:=h;go_call(DO j name u) as e w'⟨rfl,o',hd,ht,hg⟩;have q:=j.DL hd ht hg;have k:(d.create name).2=dK d L name:=by
  unfold Dsk.create dK;rw[<- g.names];split
  .rfl
  .split
   .rfl
   .split<;>rfl
 refine⟨(d.create name).1,o',by rw[k],⟨⟨s,m,l,hand,r,q,p,?_⟩,(aN.bh ht).mono (λ_ _ h=>.inl h),hg,?_⟩,?_,?_⟩
 .unfold dK Dsk.create;rw[<- g.names];split
  .exact g.tick
  .rename_i a
   split
   .exact g.tick
   .rename_i t
    split
    .exact g.tick
    .rename_i i
     rw[if_pos rfl];refine g.create (by simpa using t) ?_ rfl (Dsk.oG d);have:=g.names name;rw[Bool.not_eq_true]at i;rw[i]at this;exact Option.not_isSome_iff_eq_none.1 (by rw[<- this];simp)
 .unfold Dsk.create;split
  .exact cd.tick d
  .split
   .exact cd.tick d
   .split
    .exact cd.tick d
    .exact(cd.tick d).of rfl rfl rfl
 .intro f;rw[<- k]at f;unfold Dsk.create at f ⊢;by_cases a:d.tick.dead=Jd
  .rw[if_pos a]at f;cases f
  .rw[if_neg a]at f ⊢;have b:d.tick.dead=false:=by simpa using a
   split
   .exact b
   .split<;>exact b
 .intro a;unfold Dsk.create;rw[if_pos a];exact a
def eu(k:Nat):Name:=⟨([116,46]++Lib.decDigits k).toArray⟩
theorem Ih(b:dC w f c l a by')(i:a<100)(d:l≠f):K1 prog 153 #[ptrTo f] w λe w'=>e=Mk (.string (eu a))/\dC w' f c l (a+1) by'/\aN (·=f) w w':=by
 obtain⟨-,-,q,-,r⟩:=b.cells;have j:=ae b;have g:=ae (λW=>Any.strconv_Itoa_small (P:=prog) (ρ:=Tryz.itoa_ren) { Tryz.itoa with } a i W);have u:=b.lt;have x:cf Mm ((a:Int)+1)=a+1:=ax af af;have m:cf Mm ((a:Int)+1-1)=a:=by rw[ax af af];omega
 clear b;have s:(Lib.decDigits a).length<=2:=by
  by_cases h:a<10
  .rw[Lib.decDigits_one h];simp
  .rw[Lib.decDigits_two h i];simp
 have n:Hid ((⟨#[116,46]⟩:ByteArray)++⟨(Lib.decDigits a).toArray⟩=eu a):=ae (by unfold eu;apply ByteArray.ext;simp)
 generalize Lib.decDigits a=v at *;unfold ptrTo;go_enter func153,ntmps153;go_wp2_with fail;go_call(g.out _) as e w'⟨rfl,rfl⟩;go_wp2;go_ret;refine⟨by rw[<- n.out];rfl,?_,(aN.refl _ w).setCell _ _ (.inl rfl)⟩;obtain⟨⟨t,k⟩,⟨p,o⟩⟩:=j.out;refine⟨⟨t,?_⟩,⟨p,?_⟩⟩
 .have:=aS k 2 (Kx Mm ((a:Int)+1));rw[this];rfl
 .rw[Below.heap_setCell _ _ _ _ d];exact o
theorem uW{a c:Type}[DecidableEq a](ns:List a):∀(L:List (a×c))(x:a),aI (ns.foldl b9 L) x=if x∈ns then KK else aI L x:=by
 induction ns with
 |nil=>intro L x;simp
 |cons k ns b=>
   intro L x;rw[List.foldl_cons,b,cV];by_cases e:x=k
   .subst e;simp
   .simp[e]
def BS(n a db:Nat)(w:KX)(o:ay)(d:Dsk)(L:aL)(ns:List Name)(e:Lp)(w':KX):Prop:=
 ∃c d' o' L',e=Mk (Kx Mm ((c:Nat):Int))/\Moved (λ_=>False) n a db w o d w' o' d' L'/\((c=0/\L'=ns.foldl b9 L)\/(c=6/\d'.dead=Jd/\∀x,x ∉ ns->aI L' x=aI L x))
theorem MD(h:aU w c db n o d L)(t:dC w f c l a by')(mD:o f=KK){v:Value}{ns:List Name}(A:bT w v ns)(T:∀b,v.ownBlock=IT b->o b=KK)(Y:∀x∈ns,∃ps fl,aI L x=IT (.inl (ps,fl)))(X:ns.Nodup)(Z:ns.length<=100000):K1 prog 206 #[ptrTo f,v] w (BS n c db w o d L ns):=by
 have H:=ae h;have HJ:=ae t;have I:=ae mD;have U:=ae A;have Ay:=ae T;have HL:=ae Y;have F:=ae X;have kE:=t.lt.1;obtain⟨g,G,cap,rfl⟩:=A.shape;obtain⟨RU,ac,TI,-⟩:=A.cells;unfold maxLen at TI;clear h t mD A T Y X RU;generalize Q:ns.length=N at *;have K:=ae Q;clear Q;unfold ptrTo;go_enter func206,ntmps206;go_wp2;go_loopw [10] (λi wr=>∃(k:Nat)(d':Dsk)(o':ay),k<=N/\i=k/\Moved (λ_=>False) n c db w o d wr o' d' ((ns.take k).foldl b9 L)) (λi _=>N-(intOf i).toNat)
 case atStart=>exact⟨0,d,o,Nat.zero_le _,rfl,by simpa using Moved.refl _ H.out⟩
 case round=>
  obtain⟨k,d1,o1,hk,rfl,p⟩:=hrel;by_cases O:k<N
  .have B:k<ns.length:=by rw[K.out];exact O
   have q:wr.cell? ⟨g,G+k,KK⟩=IT (.string ns[k]):=by have r:=U.out.kept (λb hb=>p.block (U.out.lt b hb) (Ay.out b hb) (λh=>h));rw[<- K.out]at r;exact r.cells.2.2.2 k B
   have u:wr.cell? f=IT (ptrTo c):=p.cell (HJ.out.cells.1) I.out (λh=>h);unfold ptrTo at u;obtain⟨ps,fl,s⟩:=HL.out ns[k] (rM B);have V:ns[k] ∉ ns.take k:=λlK=>by obtain⟨j,t,m⟩:=List.getElem_of_mem lK;rw[List.getElem_take]at m;rw[List.length_take]at t;have:=(List.getElem_inj F.out).1 m;omega
   have z:aI ((ns.take k).foldl b9 L) ns[k]=IT (.inl (ps,fl)):=by rw[uW,if_neg V,s]
   have R:=ae (y6 p.bh z);have D:=ae p;have P:Hid (∀L',L'=b9 ((ns.take k).foldl b9 L) ns[k]->L'=(ns.take (k+1)).foldl b9 L):=ae (λL' e=>by rw[e,List.take_succ_eq_append_getElem B,List.foldl_append];rfl);have M:Hid (∀(L':aL)(C:List Pg),L'=aX ((ns.take k).foldl b9 L) ns[k] (.inl (C,J0))->∀x,x ∉ ns->aI L' x=aI L x):=ae (λL' C e x W=>by have E:x≠ns[k]:=λe'=>W (by rw[e'];exact rM B);rw[e,aC,if_neg E,uW,if_neg (λh=>W (List.mem_of_mem_take h))])
   clear p s z V;generalize ns[k]=nm at *;unfold ptrTo at R;go_wp2_with fail;go_call R.out as e w2⟨c2,d2,o2,L2,rfl,mF,rY,hg2,TE,apd⟩;have fV:Hid (Moved (λ_=>False) n c db w o d w2 o2 d2 L2):=ae (D.out.trans (lj (S:=λ_=>False) mF rY hg2 TE) (λ_ _ h=>h));clear mF rY hg2 TE q u;rcases apd with⟨rfl,m⟩|⟨rfl,y,C,m⟩
   .have J:=ae (P.out L2 m);clear m;go_wp2;go_roundw
    case rel=>exact⟨k+1,d2,o2,af,by go_num,by rw[<- J.out];exact fV.out⟩
    case measure=>simp[intOf];omega
   .have J:=ae (M.out L2 C m);have yw:=ae y;clear m y;go_wp2;go_ret;exact⟨6,d2,o2,L2,rfl,fV.out,.inr ⟨rfl,yw.out,J.out⟩⟩
  .obtain rfl:k=N:=af
   have D:=ae p;clear p;go_wp2;go_ret;refine⟨0,d1,o1,_,rfl,D.out,.inl ⟨rfl,?_⟩⟩;rw[List.take_of_length_le (by rw[K.out];exact cg _)]
def Ei:aJ:=⟨0,0,0,0⟩
def uj(n a db:Nat)(w:KX)(o:ay)(d:Dsk)(L:aL)(name:Name)(N:Nat)(e:Lp)(w':KX):Prop:=
 ∃v c d' o',e=Mk (.tuple #[v,Kx Mm ((c:Nat):Int)])/\Moved (λ_=>False) n a db w o d w' o' d' L/\(c=0\/om d d' L c) /\
  (c=0->∃h b,v=ptrTo h/\bK w' h b 0 N Ei/\aM w' b a name 20/\o' h=KK/\o' b=KK/\w.heap.size<=h/\w.heap.size<=b)
theorem BU(K:aV)(h:aU w c db n o d L)(z:dC w f c l a by'){es:List aJ}(m:aI L name=IT (az es fl)):K1 prog 82 #[ptrTo f,.string name] w (uj n c db w o d L name es.length):=by
 have P:=bO (h.ok m);have k:=ae (eU (sz:=20) h name P ag ag);have i:Hid (∀W o' d' b,aU W c db n o' d' L->aM W b c name 20->o' b=KK->K1 prog 54 #[ptrTo b] W (Ia n c db W o' d' L (Ib es.length))):=ae (λW o' d' b Q r M=>by have:=mG K Q r M ag ag m (dN es);rw[List.length_map]at this;exact this)
 have g:=jH h m;have H:=ae h;have F:=z.cells.1;clear h z m;unfold ptrTo at *;generalize es.length=N at *;cases j:d.dead with
 |true=>rw[j,if_pos rfl]at g;rw[g]at k;have D:=ae j;clear j g;go_enter func82,ntmps82;go_wp2_with fail;go_call k.out as e w1⟨v1,rfl,hb1,-,aaI⟩;obtain rfl:=aaI ag;have u:=ae hb1;clear hb1 aaI;go_wp2;go_ret2;exact⟨_,6,d,o,rfl,Moved.aZ H.out u.out,.inr (.inr ⟨rfl,D.out⟩),λh=>absurd h ag⟩
 |false=>rw[j,if_neg ai]at g;rw[g]at k;clear j g;go_enter func82,ntmps82;go_wp2_with fail;go_call k.out as e w1⟨v1,rfl,hb1,gu,-⟩;obtain⟨b,rfl,v,A⟩:=gu rfl;have u:=ae hb1;have B:=ae v;have q:o b=none:=H.out.fresh A;have y:=ae q;have I:=ae (i.out w1 o d b (H.out.below hb1) v q);clear hb1 v gu q;unfold ptrTo at *;go_wp2_with fail;go_call I.out as e w2⟨c2,d2,o2,⟨x,rfl,hx⟩,dA,vX⟩;have O:=ae hx;have s:=ae ((Moved.aZ H.out u.out).trans dA (λ_ _ h=>h));have C:=ae (B.out.moved dA y.out (λh=>h));have E:=ae vX;have t:=B.out.lt;have p:w.heap.size<=w2.heap.size:=s.out.size;have J:Hid (o2 b=KK):=ae (dA.free t y.out);clear hx dA vX;go_wp2;go_ret2;refine⟨_,c2,d2,o2,rfl,s.out.alloc _,E.out,λG=>⟨w2.heap.size,b,rfl,⟨237,?_⟩,C.out.below aj,s.out.bh.fresh (cg _),J.out,p,A⟩⟩;rw[Lw,O.out G];rfl
def oV(n a db:Nat)(w:KX)(o:ay)(d:Dsk)(L:aL)(name:Name)(e:Lp)(w':KX):Prop:=
 ∃v c d' o',e=Mk (.tuple #[v,Kx Mm ((c:Nat):Int)])/\Moved (λ_=>False) n a db w o d w' o' d' (if c=0 then aX L name (az [] J0) else L)/\(c=0\/c=6/\d'.dead=Jd) /\
  (c=0->∃g b,v=ptrTo g/\gA w' g b []/\aM w' b a name 20/\o' g=KK/\o' b=KK/\g≠b/\w.heap.size<=g/\w.heap.size<=b)
theorem vZ(h:aU w c db n o d L)(p:dC w f c l a by')(A:o f=KK)(r:b6 name=Jd)(m:aI L name=KK):K1 prog 202 #[ptrTo f,.string name] w (oV n c db w o d L name):=by
 have D:=bO r;have g:=ae (mP h name D);have i:dK d L name=if d.tick.dead=Jd then 6 else 0:=by unfold dK;rw[r,m];rfl
 have G:Hid (∀W o' d' L',aU W c db n o' d' L'->K1 prog 37 #[ptrTo c,.string name,Kx Mm 20] W (eT W c name 20 (dw d' name))):=ae (λW o' d' L' O=>eU (sz:=20) O name D ag ag);have P:=p.lt.1;have R:=ae p;have y:=ae A;have q:=p.cells.1;have N:=ae h.keys;clear h p A r m;unfold ptrTo at *;cases k:d.tick.dead with
 |true=>rw[k,if_pos rfl]at i;unfold iC at g;rw[i]at g;have F:=ae k;clear k i;go_enter func202,ntmps202;go_wp2_with fail;go_call g.out as e w1⟨d1,o1,rfl,eO,-,hdd⟩;rw[if_neg ag]at eO;have u:=ae eO;have H:=ae (hdd F.out);clear eO hdd;go_wp2;go_ret2;exact⟨_,6,d1,o1,rfl,u.out,.inr ⟨rfl,H.out⟩,λh=>absurd h ag⟩
 |false=>
   rw[k,if_neg ai]at i;unfold iC at g;rw[i]at g;clear k i;go_enter func202,ntmps202;go_wp2_with fail;go_call g.out as e w1⟨d1,o1,rfl,eO,hdd,-⟩;simp only[if_true]at eO;have s:aI (aX L name (.inl (([]:List Pg),Jd))) name=IT (.inl (([]:List Pg),Jd)):=by rw[aC,if_pos rfl]
   have C:dw d1 name=0:=by rw[jH eO.bh s,hdd trivial];rfl
   have S:w1.cell? f=IT (.pointer c):=eO.cell q y.out (λh=>h);have B:=ae (G.out w1 o1 d1 _ eO.bh);rw[C]at B;have j:Moved (λ_=>False) n c db w o d w1 o1 d1 (aX L name (az [] J0)):=
    ⟨(eO.bh.weaken s).congr (cK N.out) (λx=>by
      rw[JC,aC,aC,aC];by_cases e:x=name
      .rw[if_pos e,if_pos e]
      .rw[if_neg e,if_neg e,if_neg e]),eO.turn,eO.grow,eO.on⟩
   have u:=ae j;have z:=ae (λx(J:w1.heap.size<=x)=>eO.bh.fresh J);have I:w.heap.size<=w1.heap.size:=eO.size;clear eO j hdd C s;go_wp2_with fail;go_call B.out as e w2⟨v2,rfl,hb2,lp,-⟩;obtain⟨b,rfl,v,K⟩:=lp rfl;have M:=ae hb2;have E:=ae v;have Q:=v.lt;have t:w1.heap.size<=w2.heap.size:=hb2.size;clear hb2 v lp;unfold ptrTo;go_wp2;go_ret2;refine⟨_,0,d1,o1,rfl,by rw[if_pos rfl];exact(u.out.below M.out).alloc _,.inl rfl,λ_=>⟨w2.heap.size,b,rfl,.inl ⟨rfl,Ei,⟨315,?_⟩⟩,E.out.below aj,z.out _ t,z.out _ K,af,af,af⟩⟩;rw[Lw];rfl
end
end Go.Proofs.YtofigggbapdfhaaGreatDoor
