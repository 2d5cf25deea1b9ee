/-
  Joined.
-/
import Derived.Test.YthkkgdpomhhjjaaGreatDoorC06
import Derived.Deep.CutBlock
import Derived.Sort.WalkC
import Derived.Sort.WalkA6
import Derived.Sort.AssemblyPlain
import Derived.Sort.Walk13a
set_option maxRecDepth 100000
set_option maxHeartbeats 32000000
namespace Go.Proofs.YthkkgdpomhhjjaaGreatDoor
open Go.Proofs.Tryz
section
open Go.RowKit Go.Maps Go.Sort
section
variable {bt:Bool} {w0 W W':World} {jb pb bf made base g cap:Nat} {d:Array aF}
def Rh(bt:Bool)(w0:World)(jb pb bf made base g cap:Nat)(r:Nat×Bool×Array aF)(e:Ending)(w':World):Prop:=
 e=.returned (.tuple #[.int .i64 (r.1:Int),.bool r.2.1])/\ft bt w0 jb pb bf made base g cap r.2.2 w'
theorem sV{p q:aF->Bool}{d:Array aF}{i j u v:Nat}(hq:∀x,q x=!p x)(hu:u=scanUp p d j i)(hv:v=scanDown q d u j)(h0:0<v):u≠v:=by
 intro e;have h1:=(scanUp_spec p d j _ i rfl).2.2.2;have h2:=(scanDown_spec q d u j).2.2.2;rw[<- hu]at h1;rw[<- hv]at h2;have h3:=(scanDown_spec q d u j).1;rw[<- hv]at h3;have k1:=h1 ae;have k2:=h2 ae h0;rw[hq,<- e,k1]at k2;cases k2
theorem qE{p q:aF->Bool}{d:Array aF}{i j u v:Nat}(e9:i<=j+1)(hu:u=scanUp p d j i)(hv:v=scanDown q d u j):i<=u/\u<=j+1/\v<=j/\u<=v+1:=by
 have h1:=scanUp_spec p d j _ i rfl;rw[<- hu]at h1;have h2:=scanDown_spec q d u j;rw[<- hv]at h2;exact⟨h1.1,h1.2.1 e9,h2.1,h2.2.1 (h1.2.1 e9)⟩
theorem sW{p:aF->Bool}{d:Array aF}{i j u:Nat}(e9:i<=j+1)(hu:u=scanUp p d j i):i<=u/\u<=j+1:=by
 have h1:=scanUp_spec p d j _ i rfl;rw[<- hu]at h1;exact⟨h1.1,h1.2.1 e9⟩
theorem Ci{lt:aF->aF->Bool}{a i j u v:Nat}{d:Array aF}(hu:u=scanUp (fun x=>lt x d[a]!) d j i)(hv:v=scanDown (fun x=>!lt x d[a]!) d u j) :
 partLoop lt a i j d=if u>v then (v,d) else partLoop lt a (u+1) (v-1) (swp d u v):=by
 subst hu;subst hv;exact partLoop_eq lt a i j d
theorem qF{lt:aF->aF->Bool}{a b pv u v:Nat}{d D:Array aF}{r:Nat×Array aF}(hD:D=swp d a pv)(hu:u=scanUp (fun x=>lt x D[a]!) D (b-1) (a+1))(hv:v=scanDown (fun x=>!lt x D[a]!) D u (b-1))(hr:¬u>v->r=partLoop lt a (u+1) (v-1) (swp D u v)) :
 partition lt d a b pv=if u>v then (v,true,swp D v a) else (r.1,false,swp r.2 r.1 a):=by
 subst hD;subst hu;subst hv;unfold partition;dsimp only;split
 ·rfl
 ·rename_i h
  rw[hr h]
theorem Cj(h:ft bt w0 jb pb bf made base g cap d W)(a b pv:Nat)(hap:a<=pv)(Nj:pv<b)(hb:b<=d.size)(hsz:d.size<=1000000) :
 Calls prog 312 #[.slice (some ⟨g,0,none⟩) d.size cap,.int .i64 (a:Int),.int .i64 (b:Int),.int .i64 (pv:Int),cM jb] W (Rh bt w0 jb pb bf made base g cap (partition (ltOf (aR bt)) d a b pv)):=by
 have H:=aa h;obtain⟨N,hN⟩:∃N,N=d.size:=⟨_,rfl⟩;rw[<- hN]at hb hsz ⊢;have HN:=aa hN;clear h hN;obtain⟨J0,hJ0⟩:∃J0,J0=b-1:=⟨_,rfl⟩;have wJ0:IntKind.i64.wrap ((b:Int)-1)=(J0:Int):=by rw[ax]<;>omega
 have wI0:IntKind.i64.wrap ((a:Int)+1)=((a+1:Nat):Int):=by rw[ax]<;>omega
 have ba:(a:Int)<(N:Int):=by omega
 have bp:(pv:Int)<(N:Int):=by omega
 have HB:Hid (a<d.size/\pv<d.size/\J0<N/\a<=J0/\N<=1000000/\J0=b-1/\d.size=N):=aa (by have:=HN.o;omega);clear hJ0 hap Nj hb hsz;unfold cM ptrTo;go_enter func312,ntmps312;go_upto_region 1 with fail
 go_cut [] from 14 to 27 (fun wx=>ft bt w0 jb pb bf made base g cap (swp d a pv) wx)
 case first=>
  obtain⟨x,hx⟩:∃x,d[a]! = x:=⟨_,rfl⟩;have oQ:Hid (a<d.size/\pv<d.size):=aa (by have:=HB.o;omega);by_cases heq:a=pv
  ·subst heq;obtain⟨pp,mn,⟨x0,x1,x2,x3⟩,dQ,hdone⟩:=H.o.il (i:=a) oQ.o.1 hx;have HD:=aa hdone;clear hdone;go_big_region
   all_goals
    clear x0 x1 x2 x3 dQ;go_wp2;go_meet
    exact HD.o
  ·obtain⟨y,hy⟩:∃y,d[pv]! = y:=⟨_,rfl⟩;obtain⟨pp,qq,hex⟩:=H.o.lj (i:=a) (j:=pv) oQ.o.1 oQ.o.2 hx hy;have po:=aa hex;obtain⟨mn,Eu,x0,x1,x2,x3,y0,y1,y2,y3,dQ,jo,-⟩:=hex;obtain⟨n0,n1,n2,n3,n4,n5,n6⟩:=jo heq;clear jo;go_big_region
   all_goals
    clear x0 x1 x2 x3 y0 y1 y2 y3 n0 n1 n2 n3 n4 n5 n6 dQ;go_wp2;go_meet
    exact po.o.done
 case rest=>
  have iU:=aa hcut;clear hcut;obtain⟨D1,NR⟩:∃D1,D1=swp d a pv:=⟨_,rfl⟩;rw[<- NR]at iU;have hs1:D1.size=N:=by rw[NR,size_swp];exact HN.o.symm
  have uU:=aa NR;have kK:Hid (a<D1.size/\J0<D1.size/\D1.size=N/\a+1<=J0+1/\N<=1000000):=aa (by have:=HB.o;omega);clear NR hs1;go_upto_block 0 with fail
  go_cut [12] from 32 to 49 (fun vi wx=>∃i:Nat,vi=.int .i64 (i:Int)/\ft bt w0 jb pb bf made base g cap D1 wx/\Hid (i=scanUp (fun x=>ltOf (aR bt) x D1[a]!) D1 J0 (a+1)))
  case first=>
   go_wp2_with fail;go_loopw [12] (fun vi wr=>∃i:Nat,vi=.int .i64 (i:Int)/\(a+1)<=i/\i<=J0+1/\ft bt w0 jb pb bf made base g cap D1 wr/\Hid (scanUp (fun x=>ltOf (aR bt) x D1[a]!) D1 J0 i=scanUp (fun x=>ltOf (aR bt) x D1[a]!) D1 J0 (a+1))) (fun vi _=>J0+1-(intOf vi).toNat)
   case atStart=>exact⟨(a+1),rfl,by have:=kK.o;omega,by have:=kK.o;omega,iU.o,rfl⟩
   case round=>
    obtain⟨i,rfl,hb1,hb2,hs,HO⟩:=hrel;generalize wr=Wr at *;have HS:=aa hs;clear hs;by_cases e9:i<=J0
    ·have qD:(i:Int)<=(J0:Int):=by omega
     have bi:(i:Int)<(N:Int):=by have:=kK.o;omega
     have Xb:IntKind.i64.wrap ((i:Int)+1)=((i+1:Nat):Int):=by
      have:=kK.o;have:=HB.o
      rw[ax]<;>omega
     obtain⟨x,hx⟩:∃x,D1[i]! = x:=⟨_,rfl⟩;obtain⟨y,hy⟩:∃y,D1[a]! = y:=⟨_,rfl⟩;have F:=aa (HS.o.reads (i:=i) (j:=a) (by have:=kK.o;omega) (by have:=kK.o;omega) hx hy);by_cases hl:aR bt x y<0
     ·go_wp2_with fail;refine wq Wr ?_;iterate 8 (refine qz ?_)
      refine qz ?_ (fun w' hw'=>by obtain⟨⟨c0,c1,c2,c3⟩,-,-⟩:=F.o w' hw';go_simp<;>rfl);iterate 3 (refine qz ?_)
      refine qz ?_ (fun w' hw'=>by obtain⟨-,⟨c0,c1,c2,c3⟩,-⟩:=F.o w' hw';go_simp<;>rfl);refine qw (fun w' hw'=>(F.o w' hw').2.2) ?_;iterate 2 (refine qz ?_)
      refine wpQuiet_nil ?_;intro w5 fJ;have b8:=aa (HS.o.below fJ);clear fJ;go_wp2;refine⟨⟨(i+1),rfl,ae,ae,b8.o,?_⟩,by simp[intOf];omega⟩;show scanUp (fun x=>ltOf (aR bt) x D1[a]!) D1 J0 (i+1)=_;rw[<- HO.out];exact(scanUp_go _ _ _ _ e9 (by have e:ltOf (aR bt) x y=true:=decide_eq_true hl;show ltOf (aR bt) D1[i]! D1[a]! = _;rw[hx,hy,e])).symm
     ·have Di:decide (aR bt x y<0)=false:=decide_eq_false hl;go_wp2_with fail;refine wq Wr ?_;iterate 8 (refine qz ?_)
      refine qz ?_ (fun w' hw'=>by obtain⟨⟨c0,c1,c2,c3⟩,-,-⟩:=F.o w' hw';go_simp<;>rfl);iterate 3 (refine qz ?_)
      refine qz ?_ (fun w' hw'=>by obtain⟨-,⟨c0,c1,c2,c3⟩,-⟩:=F.o w' hw';go_simp<;>rfl);refine qw (fun w' hw'=>(F.o w' hw').2.2) ?_;iterate 2 (refine qz ?_)
      refine wpQuiet_nil ?_;intro w5 fJ;have b8:=aa (HS.o.below fJ);clear fJ;go_wp2;go_meet
      exact⟨i,rfl,b8.o,aa (by rw[<- HO.out];exact(scanUp_end _ _ _ _ (.inr (by have e:ltOf (aR bt) x y=false:=decide_eq_false ae;show ltOf (aR bt) D1[i]! D1[a]! = _;rw[hx,hy,e]))).symm)⟩
    ·have qD:¬((i:Int)<=(J0:Int)):=by omega
     go_wp2_with fail;go_quiet (fail)
     have ve:RowKit.Below Wr.heap.size Wr (Wr.drewN nq):=⟨rfl,rfl,rfl,Nat.le_refl _,fun _ _=>rfl⟩;have b8:=aa (HS.o.below ve);clear ve;go_wp2;go_meet
     exact⟨i,rfl,b8.o,aa (by rw[<- HO.out];exact(scanUp_end _ _ _ _ (.inl e9)).symm)⟩
  case rest=>
   obtain⟨i1,rfl,acM,rX⟩:=hcut;have ahP:=aa acM;have Ri:=aa rX.out;clear acM rX;have hbi:=sW (show a+1<=J0+1 by have:=kK.o;omega) Ri.o;have mz:Hid (a<D1.size/\J0<D1.size/\D1.size=N/\i1<=J0+1/\1<=i1/\a<i1/\N<=1000000):=aa (by have:=kK.o;omega);clear hbi;go_upto_block 2 with fail
   go_cut [13] from 50 to 68 (fun vi wx=>∃j:Nat,vi=.int .i64 (j:Int)/\ft bt w0 jb pb bf made base g cap D1 wx/\Hid (j=scanDown (fun x=>!ltOf (aR bt) x D1[a]!) D1 i1 J0))
   case first=>
    go_wp2_with fail;go_loopw [13] (fun vi wr=>∃j:Nat,vi=.int .i64 (j:Int)/\j<=J0/\i1<=j+1/\ft bt w0 jb pb bf made base g cap D1 wr/\Hid (scanDown (fun x=>!ltOf (aR bt) x D1[a]!) D1 i1 j=scanDown (fun x=>!ltOf (aR bt) x D1[a]!) D1 i1 J0)) (fun vi _=>(intOf vi).toNat)
    case atStart=>exact⟨J0,rfl,by have:=mz.o;omega,by have:=mz.o;omega,ahP.o,rfl⟩
    case round=>
     obtain⟨j,rfl,hb1,hb2,hs,HO⟩:=hrel;generalize wr=Wr at *;have HS:=aa hs;clear hs;by_cases e9:i1<=j
     ·obtain⟨j',hj'⟩:∃j',j'=j-1:=⟨_,rfl⟩;have qD:(i1:Int)<=(j:Int):=by omega
      have bi:(j:Int)<(N:Int):=by have:=mz.o;omega
      have Xb:IntKind.i64.wrap ((j:Int)-1)=(j':Int):=by
       have:=mz.o;have:=HB.o
       rw[ax]<;>omega
      have HJ:Hid (j'=j-1/\1<=j):=aa (by have:=mz.o;omega);have Ke:1<=j:=by have:=mz.o;omega
      clear hj';obtain⟨x,hx⟩:∃x,D1[j]! = x:=⟨_,rfl⟩;obtain⟨y,hy⟩:∃y,D1[a]! = y:=⟨_,rfl⟩;have F:=aa (HS.o.reads (i:=j) (j:=a) (by have:=mz.o;omega) (by have:=mz.o;omega) hx hy);by_cases hl:aR bt x y<0
      ·go_wp2_with fail;refine wq Wr ?_;iterate 8 (refine qz ?_)
       refine qz ?_ (fun w' hw'=>by obtain⟨⟨c0,c1,c2,c3⟩,-,-⟩:=F.o w' hw';go_simp<;>rfl);iterate 3 (refine qz ?_)
       refine qz ?_ (fun w' hw'=>by obtain⟨-,⟨c0,c1,c2,c3⟩,-⟩:=F.o w' hw';go_simp<;>rfl);refine qw (fun w' hw'=>(F.o w' hw').2.2) ?_;iterate 3 (refine qz ?_)
       refine wpQuiet_nil ?_;intro w5 fJ;have b8:=aa (HS.o.below fJ);clear fJ;go_wp2;go_meet
       exact⟨j,rfl,b8.o,aa (by rw[<- HO.out];exact(scanDown_end _ _ _ _ (.inr (by have e:ltOf (aR bt) x y=true:=decide_eq_true hl;show(!ltOf (aR bt) D1[j]! D1[a]!)=_;rw[hx,hy,e];rfl))).symm)⟩
      ·have Di:decide (aR bt x y<0)=false:=decide_eq_false hl;go_wp2_with fail;refine wq Wr ?_;iterate 8 (refine qz ?_)
       refine qz ?_ (fun w' hw'=>by obtain⟨⟨c0,c1,c2,c3⟩,-,-⟩:=F.o w' hw';go_simp<;>rfl);iterate 3 (refine qz ?_)
       refine qz ?_ (fun w' hw'=>by obtain⟨-,⟨c0,c1,c2,c3⟩,-⟩:=F.o w' hw';go_simp<;>rfl);refine qw (fun w' hw'=>(F.o w' hw').2.2) ?_;iterate 3 (refine qz ?_)
       refine wpQuiet_nil ?_;intro w5 fJ;have b8:=aa (HS.o.below fJ);clear fJ;go_wp2;obtain⟨hjj,hjq⟩:=HJ.o;refine⟨⟨j',rfl,ae,ae,b8.o,?_⟩,by simp[intOf];omega⟩;show scanDown (fun x=>!ltOf (aR bt) x D1[a]!) D1 i1 j'=_;rw[<- HO.out,show j'=j-1 by omega];exact(scanDown_go _ _ _ _ e9 ae (by have e:ltOf (aR bt) x y=false:=decide_eq_false ae;show(!ltOf (aR bt) D1[j]! D1[a]!)=_;rw[hx,hy,e];rfl)).symm
     ·have qD:¬((i1:Int)<=(j:Int)):=by omega
      go_wp2_with fail;go_quiet (fail)
      have ve:RowKit.Below Wr.heap.size Wr (Wr.drewN nq):=⟨rfl,rfl,rfl,Nat.le_refl _,fun _ _=>rfl⟩;have b8:=aa (HS.o.below ve);clear ve;go_wp2;go_meet
      exact⟨j,rfl,b8.o,aa (by rw[<- HO.out];exact(scanDown_end _ _ _ _ (.inl e9)).symm)⟩
   case rest=>
    obtain⟨j1,rfl,acN,Ke⟩:=hcut;have U2:=aa acN;have U3:=aa Ke.out;clear acN Ke;have hbj:=qE (show a+1<=J0+1 by have:=kK.o;omega) Ri.o U3.o;have ahQ:0<j1->i1≠j1:=sV (fun _=>rfl) Ri.o U3.o;have im:Hid (a<D1.size/\j1<D1.size/\D1.size=N/\(i1<=j1->i1<D1.size/\i1+1<=j1)/\a<=j1/\a<i1/\i1<=j1+1/\N<=1000000):=aa (by have:=mz.o;omega);have bj1:(j1:Int)<(N:Int):=by have:=im.o;omega
    clear hbj ahQ;by_cases yS:i1>j1
    ·have Rj:(i1:Int)>(j1:Int):=by omega
     go_upto_region 8 with fail
     go_cut [] from 72 to 85 (fun wx=>ft bt w0 jb pb bf made base g cap (swp D1 j1 a) wx)
     case first=>
      obtain⟨x,hx⟩:∃x,D1[j1]! = x:=⟨_,rfl⟩;have oQ:Hid (j1<D1.size/\a<D1.size):=aa (by have:=im.o;omega);by_cases heq:j1=a
      ·subst heq;obtain⟨pp,mn,⟨x0,x1,x2,x3⟩,dQ,hdone⟩:=U2.o.il (i:=j1) oQ.o.1 hx;have HD:=aa hdone;clear hdone;go_big_region
       all_goals
        clear x0 x1 x2 x3 dQ;go_wp2;go_meet
        exact HD.o
      ·obtain⟨y,hy⟩:∃y,D1[a]! = y:=⟨_,rfl⟩;obtain⟨pp,qq,hex⟩:=U2.o.lj (i:=j1) (j:=a) oQ.o.1 oQ.o.2 hx hy;have po:=aa hex;obtain⟨mn,Eu,x0,x1,x2,x3,y0,y1,y2,y3,dQ,jo,-⟩:=hex;obtain⟨n0,n1,n2,n3,n4,n5,n6⟩:=jo heq;clear jo;go_big_region
       all_goals
        clear x0 x1 x2 x3 y0 y1 y2 y3 n0 n1 n2 n3 n4 n5 n6 dQ;go_wp2;go_meet
        exact po.o.done
     case rest=>
      have gj:=aa hcut;clear hcut;have G1:partition (ltOf (aR bt)) d a b pv=(j1,true,swp D1 j1 a):=by
       have hJ:J0=b-1:=HB.o.2.2.2.2.2.1;rw[qF (u:=i1) (v:=j1) (r:=(0,d)) uU.o (by rw[<- hJ];exact Ri.o) (by rw[<- hJ];exact U3.o) (fun hn=>absurd yS hn),if_pos yS]
      have HP:=aa G1;clear G1;go_wp2;go_ret2;rw[HP.o];exact⟨rfl,gj.o⟩
    ·have Rj:¬(i1:Int)>(j1:Int):=by omega
     have bi1:(i1:Int)<(N:Int):=by have:=im.o;omega
     have xR:Hid (i1<D1.size/\j1<D1.size/\i1+1<=j1):=aa (by have:=im.o;omega);obtain⟨J2,hJ2⟩:∃J2,J2=j1-1:=⟨_,rfl⟩;have wi2:IntKind.i64.wrap ((i1:Int)+1)=((i1+1:Nat):Int):=by
      have:=im.o;rw[ax]<;>omega
     have wj2:IntKind.i64.wrap ((j1:Int)-1)=(J2:Int):=by
      have:=im.o;have:=xR.o
      rw[ax]<;>omega
     have U4:Hid (J2=j1-1/\1<=j1):=aa (by have:=xR.o;omega);clear hJ2;go_upto_region 10 with fail
     go_cut [] from 87 to 100 (fun wx=>ft bt w0 jb pb bf made base g cap (swp D1 i1 j1) wx)
     case first=>
      obtain⟨x,hx⟩:∃x,D1[i1]! = x:=⟨_,rfl⟩;have oQ:Hid (i1<D1.size/\j1<D1.size):=aa (by have:=xR.o;omega);by_cases heq:i1=j1
      ·subst heq;obtain⟨pp,mn,⟨x0,x1,x2,x3⟩,dQ,hdone⟩:=U2.o.il (i:=i1) oQ.o.1 hx;have HD:=aa hdone;clear hdone;go_big_region
       all_goals
        clear x0 x1 x2 x3 dQ;go_wp2;go_meet
        exact HD.o
      ·obtain⟨y,hy⟩:∃y,D1[j1]! = y:=⟨_,rfl⟩;obtain⟨pp,qq,hex⟩:=U2.o.lj (i:=i1) (j:=j1) oQ.o.1 oQ.o.2 hx hy;have po:=aa hex;obtain⟨mn,Eu,x0,x1,x2,x3,y0,y1,y2,y3,dQ,jo,-⟩:=hex;obtain⟨n0,n1,n2,n3,n4,n5,n6⟩:=jo heq;clear jo;go_big_region
       all_goals
        clear x0 x1 x2 x3 y0 y1 y2 y3 n0 n1 n2 n3 n4 n5 n6 dQ;go_wp2;go_meet
        exact po.o.done
     case rest=>
      have b8:=aa hcut;clear hcut;obtain⟨D2,T3⟩:∃D2,D2=swp D1 i1 j1:=⟨_,rfl⟩;rw[<- T3]at b8;have hs2:D2.size=N:=by rw[T3,size_swp];exact im.o.2.2.1
      obtain⟨r,hr⟩:∃r,r=partLoop (ltOf (aR bt)) a (i1+1) J2 D2:=⟨_,rfl⟩;have G1:partition (ltOf (aR bt)) d a b pv=(r.1,false,swp r.2 r.1 a):=by
       have hJ:J0=b-1:=HB.o.2.2.2.2.2.1;rw[qF (u:=i1) (v:=j1) (r:=r) uU.o (by rw[<- hJ];exact Ri.o) (by rw[<- hJ];exact U3.o) (fun _=>by rw[hr,T3,U4.o.1]),if_neg yS]
      have HP:=aa G1;have ahR:=aa hs2;have HR:=aa hr;clear G1 hs2 hr T3;go_wp2_with fail;go_loopw [12,13] (fun vi vj wr=>∃(i3 j3:Nat)(dk:Array aF),vi=.int .i64 (i3:Int)/\vj=.int .i64 (j3:Int)/\a<i3/\i3<=j3+1/\j3<N/\dk.size=N/\ft bt w0 jb pb bf made base g cap dk wr/\Hid (partLoop (ltOf (aR bt)) a i3 j3 dk=r)) (fun vi vj _=>(intOf vj).toNat+1-(intOf vi).toNat)
      case atStart=>exact⟨i1+1,J2,D2,rfl,rfl,by have:=im.o;omega,by have:=xR.o;have:=U4.o;omega,by have:=im.o;have:=U4.o;omega,ahR.o,b8.o,HR.o.symm⟩
      case round=>
       obtain⟨i3,j3,dk,rfl,rfl,Xc,Rk,PE,hsk,hs3,mB⟩:=hrel;generalize wr=Wr3 at *;have gu:=aa hs3;have tv:Hid (a<dk.size/\j3<dk.size/\dk.size=N/\i3<=j3+1/\a<i3/\N<=1000000):=aa (by have:=im.o;omega);clear hs3 hsk;go_upto_block 6 with fail
       go_cut [12] from 105 to 122 (fun vi wx=>∃i:Nat,vi=.int .i64 (i:Int)/\ft bt w0 jb pb bf made base g cap dk wx/\Hid (i=scanUp (fun x=>ltOf (aR bt) x dk[a]!) dk j3 i3))
       case first=>
        go_wp2_with fail;go_loopw [12] (fun vi wr=>∃i:Nat,vi=.int .i64 (i:Int)/\i3<=i/\i<=j3+1/\ft bt w0 jb pb bf made base g cap dk wr/\Hid (scanUp (fun x=>ltOf (aR bt) x dk[a]!) dk j3 i=scanUp (fun x=>ltOf (aR bt) x dk[a]!) dk j3 i3)) (fun vi _=>j3+1-(intOf vi).toNat)
        case atStart=>exact⟨i3,rfl,by have:=tv.o;omega,by have:=tv.o;omega,gu.o,rfl⟩
        case round=>
         obtain⟨i,rfl,hb1,hb2,hs,HO⟩:=hrel;generalize wr=Wr at *;have HS:=aa hs;clear hs;by_cases e9:i<=j3
         ·have qD:(i:Int)<=(j3:Int):=by omega
          have bi:(i:Int)<(N:Int):=by have:=tv.o;omega
          have Xb:IntKind.i64.wrap ((i:Int)+1)=((i+1:Nat):Int):=by
           have:=tv.o;have:=HB.o
           rw[ax]<;>omega
          obtain⟨x,hx⟩:∃x,dk[i]! = x:=⟨_,rfl⟩;obtain⟨y,hy⟩:∃y,dk[a]! = y:=⟨_,rfl⟩;have F:=aa (HS.o.reads (i:=i) (j:=a) (by have:=tv.o;omega) (by have:=tv.o;omega) hx hy);by_cases hl:aR bt x y<0
          ·go_wp2_with fail;refine wq Wr ?_;iterate 8 (refine qz ?_)
           refine qz ?_ (fun w' hw'=>by obtain⟨⟨c0,c1,c2,c3⟩,-,-⟩:=F.o w' hw';go_simp<;>rfl);iterate 3 (refine qz ?_)
           refine qz ?_ (fun w' hw'=>by obtain⟨-,⟨c0,c1,c2,c3⟩,-⟩:=F.o w' hw';go_simp<;>rfl);refine qw (fun w' hw'=>(F.o w' hw').2.2) ?_;iterate 2 (refine qz ?_)
           refine wpQuiet_nil ?_;intro w5 fJ;have b8:=aa (HS.o.below fJ);clear fJ;go_wp2;refine⟨⟨(i+1),rfl,ae,ae,b8.o,?_⟩,by simp[intOf];omega⟩;show scanUp (fun x=>ltOf (aR bt) x dk[a]!) dk j3 (i+1)=_;rw[<- HO.out];exact(scanUp_go _ _ _ _ e9 (by have e:ltOf (aR bt) x y=true:=decide_eq_true hl;show ltOf (aR bt) dk[i]! dk[a]! = _;rw[hx,hy,e])).symm
          ·have Di:decide (aR bt x y<0)=false:=decide_eq_false hl;go_wp2_with fail;refine wq Wr ?_;iterate 8 (refine qz ?_)
           refine qz ?_ (fun w' hw'=>by obtain⟨⟨c0,c1,c2,c3⟩,-,-⟩:=F.o w' hw';go_simp<;>rfl);iterate 3 (refine qz ?_)
           refine qz ?_ (fun w' hw'=>by obtain⟨-,⟨c0,c1,c2,c3⟩,-⟩:=F.o w' hw';go_simp<;>rfl);refine qw (fun w' hw'=>(F.o w' hw').2.2) ?_;iterate 2 (refine qz ?_)
           refine wpQuiet_nil ?_;intro w5 fJ;have b8:=aa (HS.o.below fJ);clear fJ;go_wp2;go_meet
           exact⟨i,rfl,b8.o,aa (by rw[<- HO.out];exact(scanUp_end _ _ _ _ (.inr (by have e:ltOf (aR bt) x y=false:=decide_eq_false ae;show ltOf (aR bt) dk[i]! dk[a]! = _;rw[hx,hy,e]))).symm)⟩
         ·have qD:¬((i:Int)<=(j3:Int)):=by omega
          go_wp2_with fail;go_quiet (fail)
          have ve:RowKit.Below Wr.heap.size Wr (Wr.drewN nq):=⟨rfl,rfl,rfl,Nat.le_refl _,fun _ _=>rfl⟩;have b8:=aa (HS.o.below ve);clear ve;go_wp2;go_meet
          exact⟨i,rfl,b8.o,aa (by rw[<- HO.out];exact(scanUp_end _ _ _ _ (.inl e9)).symm)⟩
       case rest=>
        obtain⟨i4,rfl,Rl,xz⟩:=hcut;have Y3:=aa Rl;have Ey:=aa xz.out;clear Rl xz;have Y4:=sW (show i3<=j3+1 by have:=tv.o;omega) Ey.o;have nN:Hid (a<dk.size/\j3<dk.size/\dk.size=N/\i4<=j3+1/\1<=i4/\a<i4/\i3<=i4/\N<=1000000):=aa (by have:=tv.o;omega);clear Y4;go_upto_block 8 with fail
        go_cut [13] from 123 to 141 (fun vi wx=>∃j:Nat,vi=.int .i64 (j:Int)/\ft bt w0 jb pb bf made base g cap dk wx/\Hid (j=scanDown (fun x=>!ltOf (aR bt) x dk[a]!) dk i4 j3))
        case first=>
         go_wp2_with fail;go_loopw [13] (fun vi wr=>∃j:Nat,vi=.int .i64 (j:Int)/\j<=j3/\i4<=j+1/\ft bt w0 jb pb bf made base g cap dk wr/\Hid (scanDown (fun x=>!ltOf (aR bt) x dk[a]!) dk i4 j=scanDown (fun x=>!ltOf (aR bt) x dk[a]!) dk i4 j3)) (fun vi _=>(intOf vi).toNat)
         case atStart=>exact⟨j3,rfl,by have:=nN.o;omega,by have:=nN.o;omega,Y3.o,rfl⟩
         case round=>
          obtain⟨j,rfl,hb1,hb2,hs,HO⟩:=hrel;generalize wr=Wr at *;have HS:=aa hs;clear hs;by_cases e9:i4<=j
          ·obtain⟨j',hj'⟩:∃j',j'=j-1:=⟨_,rfl⟩;have qD:(i4:Int)<=(j:Int):=by omega
           have bi:(j:Int)<(N:Int):=by have:=nN.o;omega
           have Xb:IntKind.i64.wrap ((j:Int)-1)=(j':Int):=by
            have:=nN.o;have:=HB.o
            rw[ax]<;>omega
           have HJ:Hid (j'=j-1/\1<=j):=aa (by have:=nN.o;omega);have Ke:1<=j:=by have:=nN.o;omega
           clear hj';obtain⟨x,hx⟩:∃x,dk[j]! = x:=⟨_,rfl⟩;obtain⟨y,hy⟩:∃y,dk[a]! = y:=⟨_,rfl⟩;have F:=aa (HS.o.reads (i:=j) (j:=a) (by have:=nN.o;omega) (by have:=nN.o;omega) hx hy);by_cases hl:aR bt x y<0
           ·go_wp2_with fail;refine wq Wr ?_;iterate 8 (refine qz ?_)
            refine qz ?_ (fun w' hw'=>by obtain⟨⟨c0,c1,c2,c3⟩,-,-⟩:=F.o w' hw';go_simp<;>rfl);iterate 3 (refine qz ?_)
            refine qz ?_ (fun w' hw'=>by obtain⟨-,⟨c0,c1,c2,c3⟩,-⟩:=F.o w' hw';go_simp<;>rfl);refine qw (fun w' hw'=>(F.o w' hw').2.2) ?_;iterate 3 (refine qz ?_)
            refine wpQuiet_nil ?_;intro w5 fJ;have b8:=aa (HS.o.below fJ);clear fJ;go_wp2;go_meet
            exact⟨j,rfl,b8.o,aa (by rw[<- HO.out];exact(scanDown_end _ _ _ _ (.inr (by have e:ltOf (aR bt) x y=true:=decide_eq_true hl;show(!ltOf (aR bt) dk[j]! dk[a]!)=_;rw[hx,hy,e];rfl))).symm)⟩
           ·have Di:decide (aR bt x y<0)=false:=decide_eq_false hl;go_wp2_with fail;refine wq Wr ?_;iterate 8 (refine qz ?_)
            refine qz ?_ (fun w' hw'=>by obtain⟨⟨c0,c1,c2,c3⟩,-,-⟩:=F.o w' hw';go_simp<;>rfl);iterate 3 (refine qz ?_)
            refine qz ?_ (fun w' hw'=>by obtain⟨-,⟨c0,c1,c2,c3⟩,-⟩:=F.o w' hw';go_simp<;>rfl);refine qw (fun w' hw'=>(F.o w' hw').2.2) ?_;iterate 3 (refine qz ?_)
            refine wpQuiet_nil ?_;intro w5 fJ;have b8:=aa (HS.o.below fJ);clear fJ;go_wp2;obtain⟨hjj,hjq⟩:=HJ.o;refine⟨⟨j',rfl,ae,ae,b8.o,?_⟩,by simp[intOf];omega⟩;show scanDown (fun x=>!ltOf (aR bt) x dk[a]!) dk i4 j'=_;rw[<- HO.out,show j'=j-1 by omega];exact(scanDown_go _ _ _ _ e9 ae (by have e:ltOf (aR bt) x y=false:=decide_eq_false ae;show(!ltOf (aR bt) dk[j]! dk[a]!)=_;rw[hx,hy,e];rfl)).symm
          ·have qD:¬((i4:Int)<=(j:Int)):=by omega
           go_wp2_with fail;go_quiet (fail)
           have ve:RowKit.Below Wr.heap.size Wr (Wr.drewN nq):=⟨rfl,rfl,rfl,Nat.le_refl _,fun _ _=>rfl⟩;have b8:=aa (HS.o.below ve);clear ve;go_wp2;go_meet
           exact⟨j,rfl,b8.o,aa (by rw[<- HO.out];exact(scanDown_end _ _ _ _ (.inl e9)).symm)⟩
        case rest=>
         obtain⟨j4,rfl,Rm,Rn⟩:=hcut;have G2:=aa Rm;have Kl:=aa Rn.out;clear Rm Rn;have Y5:=qE (show i3<=j3+1 by have:=tv.o;omega) Ey.o Kl.o;have Y6:0<j4->i4≠j4:=sV (fun _=>rfl) Ey.o Kl.o;have lp:Hid (a<dk.size/\j4<dk.size/\dk.size=N/\(i4<=j4->i4<dk.size/\i4+1<=j4)/\a<=j4/\a<i4/\i4<=j4+1/\i3<=i4/\j4<=j3/\N<=1000000):=aa (by have:=nN.o;omega);have bj4:(j4:Int)<(N:Int):=by have:=lp.o;omega
         have hstep:=Ci Ey.o Kl.o;clear Y5 Y6;by_cases Ro:i4>j4
         ·have Rj:(i4:Int)>(j4:Int):=by omega
          rw[if_pos Ro,mB.out]at hstep;have HST:=aa hstep;clear hstep;go_upto_region 21 with fail
          go_cut [] from 163 to 176 (fun wx=>ft bt w0 jb pb bf made base g cap (swp dk j4 a) wx)
          case first=>
           obtain⟨x,hx⟩:∃x,dk[j4]! = x:=⟨_,rfl⟩;have oQ:Hid (j4<dk.size/\a<dk.size):=aa (by have:=lp.o;omega);by_cases heq:j4=a
           ·subst heq;obtain⟨pp,mn,⟨x0,x1,x2,x3⟩,dQ,hdone⟩:=G2.o.il (i:=j4) oQ.o.1 hx;have HD:=aa hdone;clear hdone;go_big_region
            all_goals
             clear x0 x1 x2 x3 dQ;go_wp2;go_meet
             exact HD.o
           ·obtain⟨y,hy⟩:∃y,dk[a]! = y:=⟨_,rfl⟩;obtain⟨pp,qq,hex⟩:=G2.o.lj (i:=j4) (j:=a) oQ.o.1 oQ.o.2 hx hy;have po:=aa hex;obtain⟨mn,Eu,x0,x1,x2,x3,y0,y1,y2,y3,dQ,jo,-⟩:=hex;obtain⟨n0,n1,n2,n3,n4,n5,n6⟩:=jo heq;clear jo;go_big_region
            all_goals
             clear x0 x1 x2 x3 y0 y1 y2 y3 n0 n1 n2 n3 n4 n5 n6 dQ;go_wp2;go_meet
             exact po.o.done
          case rest=>
           have jD:=aa hcut;clear hcut;go_wp2;go_ret2;rw[HP.o,HST.o];exact⟨rfl,jD.o⟩
         ·have Rj:¬(i4:Int)>(j4:Int):=by omega
          rw[if_neg Ro,mB.out]at hstep;have HST:=aa hstep;clear hstep;have bi4:(i4:Int)<(N:Int):=by have:=lp.o;omega
          have U5:Hid (i4<dk.size/\j4<dk.size/\i4+1<=j4):=aa (by have:=lp.o;omega);obtain⟨J5,hJ5⟩:∃J5,J5=j4-1:=⟨_,rfl⟩;have wi5:IntKind.i64.wrap ((i4:Int)+1)=((i4+1:Nat):Int):=by
           have:=lp.o;rw[ax]<;>omega
          have wj5:IntKind.i64.wrap ((j4:Int)-1)=(J5:Int):=by
           have:=lp.o;have:=U5.o
           rw[ax]<;>omega
          have HJ5:Hid (J5=j4-1/\1<=j4):=aa (by have:=U5.o;omega);clear hJ5;go_upto_region 18 with fail
          go_cut [] from 145 to 158 (fun wx=>ft bt w0 jb pb bf made base g cap (swp dk i4 j4) wx)
          case first=>
           obtain⟨x,hx⟩:∃x,dk[i4]! = x:=⟨_,rfl⟩;have oQ:Hid (i4<dk.size/\j4<dk.size):=aa (by have:=U5.o;omega);by_cases heq:i4=j4
           ·subst heq;obtain⟨pp,mn,⟨x0,x1,x2,x3⟩,dQ,hdone⟩:=G2.o.il (i:=i4) oQ.o.1 hx;have HD:=aa hdone;clear hdone;go_big_region
            all_goals
             clear x0 x1 x2 x3 dQ;go_wp2;go_meet
             exact HD.o
           ·obtain⟨y,hy⟩:∃y,dk[j4]! = y:=⟨_,rfl⟩;obtain⟨pp,qq,hex⟩:=G2.o.lj (i:=i4) (j:=j4) oQ.o.1 oQ.o.2 hx hy;have po:=aa hex;obtain⟨mn,Eu,x0,x1,x2,x3,y0,y1,y2,y3,dQ,jo,-⟩:=hex;obtain⟨n0,n1,n2,n3,n4,n5,n6⟩:=jo heq;clear jo;go_big_region
            all_goals
             clear x0 x1 x2 x3 y0 y1 y2 y3 n0 n1 n2 n3 n4 n5 n6 dQ;go_wp2;go_meet
             exact po.o.done
          case rest=>
           have p8:=aa hcut;clear hcut;go_wp2;have q1:=lp.o;have q2:=U5.o;have q3:=HJ5.o;refine⟨⟨i4+1,J5,swp dk i4 j4,rfl,rfl,ae,ae,ae,by rw[size_swp];omega,p8.o,?_⟩,by simp[intOf];omega⟩;show partLoop _ _ _ _ _=_;rw[HST.o,q3.1]
end
end
section
open Go.RowKit Go.Maps Go.Sort
section
variable {bt:Bool} {w0 W W':World} {jb pb bf made base g cap:Nat} {d:Array aF}
def Km(bt:Bool)(w0:World)(jb pb bf made base g cap:Nat)(r:Nat×Array aF)(e:Ending)(w':World):Prop:=
 e=.returned (.int .i64 (r.1:Int))/\ft bt w0 jb pb bf made base g cap r.2 w'
theorem yC{lt:aF->aF->Bool}{a i j u v:Nat}{d:Array aF}(hu:u=scanUp (fun x=>!lt d[a]! x) d j i)(hv:v=scanDown (fun x=>lt d[a]! x) d u j) :
 partEqLoop lt a i j d=if u>v then (u,d) else partEqLoop lt a (u+1) (v-1) (swp d u v):=by
 subst hu;subst hv;exact partEqLoop_eq lt a i j d
theorem sX(h:ft bt w0 jb pb bf made base g cap d W)(a b pv:Nat)(hap:a<=pv)(Nj:pv<b)(hb:b<=d.size)(hsz:d.size<=1000000) :
 Calls prog 311 #[.slice (some ⟨g,0,none⟩) d.size cap,.int .i64 (a:Int),.int .i64 (b:Int),.int .i64 (pv:Int),cM jb] W (Km bt w0 jb pb bf made base g cap (partitionEqual (ltOf (aR bt)) d a b pv)):=by
 have H:=aa h;obtain⟨N,hN⟩:∃N,N=d.size:=⟨_,rfl⟩;rw[<- hN]at hb hsz ⊢;have HN:=aa hN;clear h hN;obtain⟨J0,hJ0⟩:∃J0,J0=b-1:=⟨_,rfl⟩;have wJ0:IntKind.i64.wrap ((b:Int)-1)=(J0:Int):=by rw[ax]<;>omega
 have wI0:IntKind.i64.wrap ((a:Int)+1)=((a+1:Nat):Int):=by rw[ax]<;>omega
 have ba:(a:Int)<(N:Int):=by omega
 have bp:(pv:Int)<(N:Int):=by omega
 have HB:Hid (a<d.size/\pv<d.size/\J0<N/\a<=J0/\N<=1000000/\J0=b-1/\d.size=N):=aa (by have:=HN.o;omega);clear hJ0 hap Nj hb hsz;unfold cM ptrTo;go_enter func311,ntmps311;go_upto_region 1 with fail
 go_cut [] from 13 to 26 (fun wx=>ft bt w0 jb pb bf made base g cap (swp d a pv) wx)
 case first=>
  obtain⟨x,hx⟩:∃x,d[a]! = x:=⟨_,rfl⟩;have oQ:Hid (a<d.size/\pv<d.size):=aa (by have:=HB.o;omega);by_cases heq:a=pv
  ·subst heq;obtain⟨pp,mn,⟨x0,x1,x2,x3⟩,dQ,hdone⟩:=H.o.il (i:=a) oQ.o.1 hx;have HD:=aa hdone;clear hdone;go_big_region
   all_goals
    clear x0 x1 x2 x3 dQ;go_wp2;go_meet
    exact HD.o
  ·obtain⟨y,hy⟩:∃y,d[pv]! = y:=⟨_,rfl⟩;obtain⟨pp,qq,hex⟩:=H.o.lj (i:=a) (j:=pv) oQ.o.1 oQ.o.2 hx hy;have po:=aa hex;obtain⟨mn,Eu,x0,x1,x2,x3,y0,y1,y2,y3,dQ,jo,-⟩:=hex;obtain⟨n0,n1,n2,n3,n4,n5,n6⟩:=jo heq;clear jo;go_big_region
   all_goals
    clear x0 x1 x2 x3 y0 y1 y2 y3 n0 n1 n2 n3 n4 n5 n6 dQ;go_wp2;go_meet
    exact po.o.done
 case rest=>
  have iU:=aa hcut;clear hcut;obtain⟨D1,NR⟩:∃D1,D1=swp d a pv:=⟨_,rfl⟩;rw[<- NR]at iU;have hs1:D1.size=N:=by rw[NR,size_swp];exact HN.o.symm
  obtain⟨r,hr⟩:∃r,r=partitionEqual (ltOf (aR bt)) d a b pv:=⟨_,rfl⟩;have HR:Hid (partEqLoop (ltOf (aR bt)) a (a+1) J0 D1=r):=aa (by rw[hr,HB.o.2.2.2.2.2.1,NR];rfl);have HRE:=aa hr;have im:Hid (a<D1.size/\J0<D1.size/\D1.size=N/\a+1<=J0+1/\N<=1000000):=aa (by have:=HB.o;omega);clear NR hs1 hr;go_wp2_with fail;go_loopw [11,12] (fun vi vj wr=>∃(i3 j3:Nat)(dk:Array aF),vi=.int .i64 (i3:Int)/\vj=.int .i64 (j3:Int)/\a<i3/\i3<=j3+1/\j3<N/\dk.size=N/\ft bt w0 jb pb bf made base g cap dk wr/\Hid (partEqLoop (ltOf (aR bt)) a i3 j3 dk=r)) (fun vi vj _=>(intOf vj).toNat+1-(intOf vi).toNat)
  case atStart=>exact⟨a+1,J0,D1,by go_num,rfl,ae,by have:=im.o;omega,by have:=im.o;omega,im.o.2.2.1,iU.o,HR.o⟩
  case round=>
   obtain⟨i3,j3,dk,rfl,rfl,Xc,Rk,PE,hsk,hs3,mB⟩:=hrel;generalize wr=Wr3 at *;have gu:=aa hs3;have tv:Hid (a<dk.size/\j3<dk.size/\dk.size=N/\i3<=j3+1/\a<i3/\N<=1000000):=aa (by have:=im.o;omega);clear hs3 hsk;go_upto_block 2 with fail
   go_cut [11] from 31 to 49 (fun vi wx=>∃i:Nat,vi=.int .i64 (i:Int)/\ft bt w0 jb pb bf made base g cap dk wx/\Hid (i=scanUp (fun x=>!ltOf (aR bt) dk[a]! x) dk j3 i3))
   case first=>
    go_wp2_with fail;go_loopw [11] (fun vi wr=>∃i:Nat,vi=.int .i64 (i:Int)/\i3<=i/\i<=j3+1/\ft bt w0 jb pb bf made base g cap dk wr/\Hid (scanUp (fun x=>!ltOf (aR bt) dk[a]! x) dk j3 i=scanUp (fun x=>!ltOf (aR bt) dk[a]! x) dk j3 i3)) (fun vi _=>j3+1-(intOf vi).toNat)
    case atStart=>exact⟨i3,rfl,by have:=tv.o;omega,by have:=tv.o;omega,gu.o,rfl⟩
    case round=>
     obtain⟨i,rfl,hb1,hb2,hs,HO⟩:=hrel;generalize wr=Wr at *;have HS:=aa hs;clear hs;by_cases e9:i<=j3
     ·have qD:(i:Int)<=(j3:Int):=by omega
      have bi:(i:Int)<(N:Int):=by have:=tv.o;omega
      have Xb:IntKind.i64.wrap ((i:Int)+1)=((i+1:Nat):Int):=by
       have:=tv.o;have:=HB.o
       rw[ax]<;>omega
      obtain⟨x,hx⟩:∃x,dk[a]! = x:=⟨_,rfl⟩;obtain⟨y,hy⟩:∃y,dk[i]! = y:=⟨_,rfl⟩;have F:=aa (HS.o.reads (i:=a) (j:=i) (by have:=tv.o;omega) (by have:=tv.o;omega) hx hy);by_cases hl:aR bt x y<0
      ·go_wp2_with fail;refine wq Wr ?_;iterate 8 (refine qz ?_)
       refine qz ?_ (fun w' hw'=>by obtain⟨⟨c0,c1,c2,c3⟩,-,-⟩:=F.o w' hw';go_simp<;>rfl);iterate 3 (refine qz ?_)
       refine qz ?_ (fun w' hw'=>by obtain⟨-,⟨c0,c1,c2,c3⟩,-⟩:=F.o w' hw';go_simp<;>rfl);refine qw (fun w' hw'=>(F.o w' hw').2.2) ?_;iterate 3 (refine qz ?_)
       refine wpQuiet_nil ?_;intro w5 fJ;have b8:=aa (HS.o.below fJ);clear fJ;go_wp2;go_meet
       exact⟨i,rfl,b8.o,aa (by rw[<- HO.out];exact(scanUp_end _ _ _ _ (.inr (by have e:ltOf (aR bt) x y=true:=decide_eq_true hl;show(!ltOf (aR bt) dk[a]! dk[i]!)=_;rw[hx,hy,e];rfl))).symm)⟩
      ·have Di:decide (aR bt x y<0)=false:=decide_eq_false hl;go_wp2_with fail;refine wq Wr ?_;iterate 8 (refine qz ?_)
       refine qz ?_ (fun w' hw'=>by obtain⟨⟨c0,c1,c2,c3⟩,-,-⟩:=F.o w' hw';go_simp<;>rfl);iterate 3 (refine qz ?_)
       refine qz ?_ (fun w' hw'=>by obtain⟨-,⟨c0,c1,c2,c3⟩,-⟩:=F.o w' hw';go_simp<;>rfl);refine qw (fun w' hw'=>(F.o w' hw').2.2) ?_;iterate 3 (refine qz ?_)
       refine wpQuiet_nil ?_;intro w5 fJ;have b8:=aa (HS.o.below fJ);clear fJ;go_wp2;refine⟨⟨(i+1),rfl,ae,ae,b8.o,?_⟩,by simp[intOf];omega⟩;show scanUp (fun x=>!ltOf (aR bt) dk[a]! x) dk j3 (i+1)=_;rw[<- HO.out];exact(scanUp_go _ _ _ _ e9 (by have e:ltOf (aR bt) x y=false:=decide_eq_false ae;show(!ltOf (aR bt) dk[a]! dk[i]!)=_;rw[hx,hy,e];rfl)).symm
     ·have qD:¬((i:Int)<=(j3:Int)):=by omega
      go_wp2_with fail;go_quiet (fail)
      have ve:RowKit.Below Wr.heap.size Wr (Wr.drewN nq):=⟨rfl,rfl,rfl,Nat.le_refl _,fun _ _=>rfl⟩;have b8:=aa (HS.o.below ve);clear ve;go_wp2;go_meet
      exact⟨i,rfl,b8.o,aa (by rw[<- HO.out];exact(scanUp_end _ _ _ _ (.inl e9)).symm)⟩
   case rest=>
    obtain⟨i4,rfl,Rl,xz⟩:=hcut;have Y3:=aa Rl;have Ey:=aa xz.out;clear Rl xz;have Y4:=sW (show i3<=j3+1 by have:=tv.o;omega) Ey.o;have nN:Hid (a<dk.size/\j3<dk.size/\dk.size=N/\i4<=j3+1/\1<=i4/\a<i4/\i3<=i4/\N<=1000000):=aa (by have:=tv.o;omega);clear Y4;go_upto_block 4 with fail
    go_cut [12] from 50 to 67 (fun vi wx=>∃j:Nat,vi=.int .i64 (j:Int)/\ft bt w0 jb pb bf made base g cap dk wx/\Hid (j=scanDown (fun x=>ltOf (aR bt) dk[a]! x) dk i4 j3))
    case first=>
     go_wp2_with fail;go_loopw [12] (fun vi wr=>∃j:Nat,vi=.int .i64 (j:Int)/\j<=j3/\i4<=j+1/\ft bt w0 jb pb bf made base g cap dk wr/\Hid (scanDown (fun x=>ltOf (aR bt) dk[a]! x) dk i4 j=scanDown (fun x=>ltOf (aR bt) dk[a]! x) dk i4 j3)) (fun vi _=>(intOf vi).toNat)
     case atStart=>exact⟨j3,rfl,by have:=nN.o;omega,by have:=nN.o;omega,Y3.o,rfl⟩
     case round=>
      obtain⟨j,rfl,hb1,hb2,hs,HO⟩:=hrel;generalize wr=Wr at *;have HS:=aa hs;clear hs;by_cases e9:i4<=j
      ·obtain⟨j',hj'⟩:∃j',j'=j-1:=⟨_,rfl⟩;have qD:(i4:Int)<=(j:Int):=by omega
       have bi:(j:Int)<(N:Int):=by have:=nN.o;omega
       have Xb:IntKind.i64.wrap ((j:Int)-1)=(j':Int):=by
        have:=nN.o;have:=HB.o
        rw[ax]<;>omega
       have HJ:Hid (j'=j-1/\1<=j):=aa (by have:=nN.o;omega);have Ke:1<=j:=by have:=nN.o;omega
       clear hj';obtain⟨x,hx⟩:∃x,dk[a]! = x:=⟨_,rfl⟩;obtain⟨y,hy⟩:∃y,dk[j]! = y:=⟨_,rfl⟩;have F:=aa (HS.o.reads (i:=a) (j:=j) (by have:=nN.o;omega) (by have:=nN.o;omega) hx hy);by_cases hl:aR bt x y<0
       ·go_wp2_with fail;refine wq Wr ?_;iterate 8 (refine qz ?_)
        refine qz ?_ (fun w' hw'=>by obtain⟨⟨c0,c1,c2,c3⟩,-,-⟩:=F.o w' hw';go_simp<;>rfl);iterate 3 (refine qz ?_)
        refine qz ?_ (fun w' hw'=>by obtain⟨-,⟨c0,c1,c2,c3⟩,-⟩:=F.o w' hw';go_simp<;>rfl);refine qw (fun w' hw'=>(F.o w' hw').2.2) ?_;iterate 2 (refine qz ?_)
        refine wpQuiet_nil ?_;intro w5 fJ;have b8:=aa (HS.o.below fJ);clear fJ;go_wp2;obtain⟨hjj,hjq⟩:=HJ.o;refine⟨⟨j',rfl,ae,ae,b8.o,?_⟩,by simp[intOf];omega⟩;show scanDown (fun x=>ltOf (aR bt) dk[a]! x) dk i4 j'=_;rw[<- HO.out,show j'=j-1 by omega];exact(scanDown_go _ _ _ _ e9 ae (by have e:ltOf (aR bt) x y=true:=decide_eq_true hl;show ltOf (aR bt) dk[a]! dk[j]! = _;rw[hx,hy,e])).symm
       ·have Di:decide (aR bt x y<0)=false:=decide_eq_false hl;go_wp2_with fail;refine wq Wr ?_;iterate 8 (refine qz ?_)
        refine qz ?_ (fun w' hw'=>by obtain⟨⟨c0,c1,c2,c3⟩,-,-⟩:=F.o w' hw';go_simp<;>rfl);iterate 3 (refine qz ?_)
        refine qz ?_ (fun w' hw'=>by obtain⟨-,⟨c0,c1,c2,c3⟩,-⟩:=F.o w' hw';go_simp<;>rfl);refine qw (fun w' hw'=>(F.o w' hw').2.2) ?_;iterate 2 (refine qz ?_)
        refine wpQuiet_nil ?_;intro w5 fJ;have b8:=aa (HS.o.below fJ);clear fJ;go_wp2;go_meet
        exact⟨j,rfl,b8.o,aa (by rw[<- HO.out];exact(scanDown_end _ _ _ _ (.inr (by have e:ltOf (aR bt) x y=false:=decide_eq_false ae;show ltOf (aR bt) dk[a]! dk[j]! = _;rw[hx,hy,e]))).symm)⟩
      ·have qD:¬((i4:Int)<=(j:Int)):=by omega
       go_wp2_with fail;go_quiet (fail)
       have ve:RowKit.Below Wr.heap.size Wr (Wr.drewN nq):=⟨rfl,rfl,rfl,Nat.le_refl _,fun _ _=>rfl⟩;have b8:=aa (HS.o.below ve);clear ve;go_wp2;go_meet
       exact⟨j,rfl,b8.o,aa (by rw[<- HO.out];exact(scanDown_end _ _ _ _ (.inl e9)).symm)⟩
    case rest=>
     obtain⟨j4,rfl,Rm,Rn⟩:=hcut;have G2:=aa Rm;have Kl:=aa Rn.out;clear Rm Rn;have Y5:=qE (show i3<=j3+1 by have:=tv.o;omega) Ey.o Kl.o;have Y6:0<j4->i4≠j4:=sV (fun _=>by simp) Ey.o Kl.o;have lp:Hid (a<dk.size/\j4<dk.size/\dk.size=N/\(i4<=j4->i4<dk.size/\i4+1<=j4)/\a<=j4/\a<i4/\i4<=j4+1/\i3<=i4/\j4<=j3/\N<=1000000):=aa (by have:=nN.o;omega);have bj4:(j4:Int)<(N:Int):=by have:=lp.o;omega
     have hstep:=yC Ey.o Kl.o;clear Y5 Y6;by_cases Ro:i4>j4
     ·have Rj:(i4:Int)>(j4:Int):=by omega
      rw[if_pos Ro,mB.out]at hstep;have HST:=aa hstep;clear hstep;go_wp2;go_ret;rw[<- HRE.o,HST.o];exact⟨rfl,G2.o⟩
     ·have Rj:¬(i4:Int)>(j4:Int):=by omega
      rw[if_neg Ro,mB.out]at hstep;have HST:=aa hstep;clear hstep;have bi4:(i4:Int)<(N:Int):=by have:=lp.o;omega
      have U5:Hid (i4<dk.size/\j4<dk.size/\i4+1<=j4):=aa (by have:=lp.o;omega);obtain⟨J5,hJ5⟩:∃J5,J5=j4-1:=⟨_,rfl⟩;have wi5:IntKind.i64.wrap ((i4:Int)+1)=((i4+1:Nat):Int):=by
       have:=lp.o;rw[ax]<;>omega
      have wj5:IntKind.i64.wrap ((j4:Int)-1)=(J5:Int):=by
       have:=lp.o;have:=U5.o
       rw[ax]<;>omega
      have HJ5:Hid (J5=j4-1/\1<=j4):=aa (by have:=U5.o;omega);clear hJ5;go_upto_region 8 with fail
      go_cut [] from 71 to 84 (fun wx=>ft bt w0 jb pb bf made base g cap (swp dk i4 j4) wx)
      case first=>
       obtain⟨x,hx⟩:∃x,dk[i4]! = x:=⟨_,rfl⟩;have oQ:Hid (i4<dk.size/\j4<dk.size):=aa (by have:=U5.o;omega);by_cases heq:i4=j4
       ·subst heq;obtain⟨pp,mn,⟨x0,x1,x2,x3⟩,dQ,hdone⟩:=G2.o.il (i:=i4) oQ.o.1 hx;have HD:=aa hdone;clear hdone;go_big_region
        all_goals
         clear x0 x1 x2 x3 dQ;go_wp2;go_meet
         exact HD.o
       ·obtain⟨y,hy⟩:∃y,dk[j4]! = y:=⟨_,rfl⟩;obtain⟨pp,qq,hex⟩:=G2.o.lj (i:=i4) (j:=j4) oQ.o.1 oQ.o.2 hx hy;have po:=aa hex;obtain⟨mn,Eu,x0,x1,x2,x3,y0,y1,y2,y3,dQ,jo,-⟩:=hex;obtain⟨n0,n1,n2,n3,n4,n5,n6⟩:=jo heq;clear jo;go_big_region
        all_goals
         clear x0 x1 x2 x3 y0 y1 y2 y3 n0 n1 n2 n3 n4 n5 n6 dQ;go_wp2;go_meet
         exact po.o.done
      case rest=>
       have p8:=aa hcut;clear hcut;go_wp2;have q1:=lp.o;have q2:=U5.o;have q3:=HJ5.o;refine⟨⟨i4+1,J5,swp dk i4 j4,rfl,rfl,ae,ae,ae,by rw[size_swp];omega,p8.o,?_⟩,by simp[intOf];omega⟩;show partEqLoop _ _ _ _ _=_;rw[HST.o,q3.1]
end
end
section
open Go.RowKit Go.Maps Go.Sort
section
variable {bt:Bool} {w0 W W':World} {jb pb bf made base g cap:Nat} {d:Array aF}
def G3(bt:Bool)(w0:World)(jb pb bf made base g cap:Nat)(r:Array aF×Bool)(e:Ending)(w':World):Prop:=
 e=.returned (.bool r.2)/\ft bt w0 jb pb bf made base g cap r.1 w'
theorem yD{lt:aF->aF->Bool}{a b s i u:Nat}{d:Array aF}(hu:u=scanSorted lt d b i) :
 partialIns lt a b (s+1) i d=if u=b then (d,true) else if b-a<50 then (d,false) else
  partialIns lt a b s u (if b-u >= 2 then shiftUp lt b (u+1) (if u-a >= 2 then shiftDown lt (u-1) (swp d u (u-1)) else swp d u (u-1)) else (if u-a >= 2 then shiftDown lt (u-1) (swp d u (u-1)) else swp d u (u-1))):=by
 subst hu;rfl
theorem nG(h:ft bt w0 jb pb bf made base g cap d W)(a b:Nat)(hab:a<b)(hb:b<=d.size)(hsz:d.size<=1000000) :
 Calls prog 310 #[.slice (some ⟨g,0,none⟩) d.size cap,.int .i64 (a:Int),.int .i64 (b:Int),cM jb] W (G3 bt w0 jb pb bf made base g cap (partialInsertionSort (ltOf (aR bt)) d a b)):=by
 have H:=aa h;obtain⟨N,hN⟩:∃N,N=d.size:=⟨_,rfl⟩;rw[<- hN]at hb hsz ⊢;have HN:=aa hN;clear h hN;obtain⟨L0,hL0⟩:∃L0,L0=b-a:=⟨_,rfl⟩;have wL0:IntKind.i64.wrap ((b:Int)-(a:Int))=(L0:Int):=by rw[ax]<;>omega
 have wI0:IntKind.i64.wrap ((a:Int)+1)=((a+1:Nat):Int):=by rw[ax]<;>omega
 have HB:Hid (a<b/\b<=N/\N<=1000000/\L0=b-a/\d.size=N):=aa (by have:=HN.o;omega);obtain⟨r,hr⟩:∃r,r=partialInsertionSort (ltOf (aR bt)) d a b:=⟨_,rfl⟩;have HR:Hid (partialIns (ltOf (aR bt)) a b 5 (a+1) d=r):=aa (by rw[hr];rfl);rw[<- hr];clear hL0 hab hb hsz hr;unfold cM ptrTo;go_enter func310,ntmps310;go_wp2_with fail;go_loopw [9,10] (fun vi vs wr=>∃(i3 s3:Nat)(dk:Array aF),vi=.int .i64 (i3:Int)/\vs=.int .i64 (s3:Int)/\a<i3/\i3<=b/\s3<=5/\dk.size=N/\ft bt w0 jb pb bf made base g cap dk wr/\Hid (partialIns (ltOf (aR bt)) a b (5-s3) i3 dk=r)) (fun _ vs _=>5-(intOf vs).toNat)
 case atStart=>exact⟨a+1,0,d,by go_num,rfl,ae,by have:=HB.o;omega,ae,HN.o.symm,H.o,HR.o⟩
 case round=>
  obtain⟨i3,s3,dk,rfl,rfl,ahU,ahV,aor,hsk,hs3,mB⟩:=hrel;generalize wr=Wr3 at *;have gu:=aa hs3;have tv:Hid (dk.size=N/\a<i3/\i3<=b/\s3<=5/\b<=N/\N<=1000000/\0<i3):=aa (by have:=HB.o;omega);clear hs3 hsk ahU ahV;by_cases hs5:s3<5
  ·have ahW:(s3:Int)<5:=by omega
   have ws1:IntKind.i64.wrap ((s3:Int)+1)=((s3+1:Nat):Int):=by rw[ax]<;>omega
   go_upto_block 2 with fail
   go_cut [9] from 19 to 38 (fun vi wx=>∃i:Nat,vi=.int .i64 (i:Int)/\ft bt w0 jb pb bf made base g cap dk wx/\Hid (i=scanSorted (ltOf (aR bt)) dk b i3/\i3<=i/\i<=b))
   case first=>
    go_wp2_with fail;go_loopw [9] (fun vi wr=>∃i:Nat,vi=.int .i64 (i:Int)/\i3<=i/\i<=b/\ft bt w0 jb pb bf made base g cap dk wr/\Hid (scanSorted (ltOf (aR bt)) dk b i=scanSorted (ltOf (aR bt)) dk b i3)) (fun vi _=>b-(intOf vi).toNat)
    case atStart=>exact⟨i3,rfl,Nat.le_refl _,tv.o.2.2.1,gu.o,rfl⟩
    case round=>
     obtain⟨i,rfl,hb1,hb2,hs,HO⟩:=hrel;generalize wr=Wr at *;have HS:=aa hs;clear hs;by_cases e9:i<b
     ·obtain⟨ip,hip⟩:∃ip,ip=i-1:=⟨_,rfl⟩;have qD:(i:Int)<(b:Int):=by omega
      have bi:(i:Int)<(N:Int):=by have:=tv.o;omega
      have bip:(ip:Int)<(N:Int):=by have:=tv.o;omega
      have Xb:IntKind.i64.wrap ((i:Int)+1)=((i+1:Nat):Int):=by
       have:=tv.o;rw[ax]<;>omega
      have wim:IntKind.i64.wrap ((i:Int)-1)=(ip:Int):=by
       have:=tv.o;rw[ax]<;>omega
      have T2:Hid (ip=i-1):=aa hip;obtain⟨x,hx⟩:∃x,dk[i]! = x:=⟨_,rfl⟩;obtain⟨y,hy⟩:∃y,dk[ip]! = y:=⟨_,rfl⟩;have F:=aa (HS.o.reads (i:=i) (j:=ip) (by have:=tv.o;omega) (by have:=tv.o;omega) hx hy);clear hip;by_cases hl:aR bt x y<0
      ·go_wp2_with fail;refine wq Wr ?_;iterate 8 (refine qz ?_)
       refine qz ?_ (fun w' hw'=>by obtain⟨⟨c0,c1,c2,c3⟩,-,-⟩:=F.o w' hw';go_simp<;>rfl);iterate 4 (refine qz ?_)
       refine qz ?_ (fun w' hw'=>by obtain⟨-,⟨c0,c1,c2,c3⟩,-⟩:=F.o w' hw';go_simp<;>rfl);refine qw (fun w' hw'=>(F.o w' hw').2.2) ?_;iterate 3 (refine qz ?_)
       refine wpQuiet_nil ?_;intro w5 fJ;have b8:=aa (HS.o.below fJ);clear fJ;go_wp2;go_meet
       exact⟨i,rfl,b8.o,aa ⟨by rw[<- HO.out];exact(scanSorted_stop _ _ _ _ (.inr (by rw[<- T2.o,hx,hy];exact decide_eq_true hl))).symm,hb1,hb2⟩⟩
      ·have Di:decide (aR bt x y<0)=false:=decide_eq_false hl;go_wp2_with fail;refine wq Wr ?_;iterate 8 (refine qz ?_)
       refine qz ?_ (fun w' hw'=>by obtain⟨⟨c0,c1,c2,c3⟩,-,-⟩:=F.o w' hw';go_simp<;>rfl);iterate 4 (refine qz ?_)
       refine qz ?_ (fun w' hw'=>by obtain⟨-,⟨c0,c1,c2,c3⟩,-⟩:=F.o w' hw';go_simp<;>rfl);refine qw (fun w' hw'=>(F.o w' hw').2.2) ?_;iterate 3 (refine qz ?_)
       refine wpQuiet_nil ?_;intro w5 fJ;have b8:=aa (HS.o.below fJ);clear fJ;go_wp2;refine⟨⟨(i+1),rfl,ae,ae,b8.o,?_⟩,by simp[intOf];omega⟩;show scanSorted _ _ _ _=_;rw[<- HO.out];exact(scanSorted_go _ _ _ _ e9 (by rw[<- T2.o,hx,hy];exact Di)).symm
     ·have qD:¬((i:Int)<(b:Int)):=by omega
      go_wp2_with fail;go_quiet (fail)
      have ve:RowKit.Below Wr.heap.size Wr (Wr.drewN nq):=⟨rfl,rfl,rfl,Nat.le_refl _,fun _ _=>rfl⟩;have b8:=aa (HS.o.below ve);clear ve;go_wp2;go_meet
      exact⟨i,rfl,b8.o,aa ⟨by rw[<- HO.out];exact(scanSorted_stop _ _ _ _ (.inl e9)).symm,hb1,hb2⟩⟩
   case rest=>
    obtain⟨u,rfl,hsu,hu⟩:=hcut;have HSu:=aa hsu;have HU:=aa hu.out;have HST:=aa (yD (a:=a) (s:=5-(s3+1)) hu.out.1);have h5:5-(s3+1)+1=5-s3:=by omega
    rw[h5,mB.out]at HST;clear hsu hu h5;by_cases U6:u=b
    ·have ahY:(u:Int)=(b:Int):=by omega
     have e:=HST.o;rw[if_pos U6]at e;have HE:=aa e;clear e U6;go_wp2;go_ret;rw[HE.o];exact⟨rfl,HSu.o⟩
    ·have ahY:((u:Int) == (b:Int))=false:=by simp;omega
     by_cases h50:b-a<50
     ·have ahZ:(L0:Int)<50:=by have:=HB.o;omega
      have e:=HST.o;rw[if_neg U6,if_pos h50]at e;have HE:=aa e;clear e U6 h50;go_wp2;go_ret;rw[HE.o];exact⟨rfl,HSu.o⟩
     ·have ahZ:¬(L0:Int)<50:=by have:=HB.o;omega
      have e:=HST.o;rw[if_neg U6,if_neg h50]at e;have HE:=aa e;obtain⟨U1,hU1⟩:∃U1,U1=u-1:=⟨_,rfl⟩;rw[<- hU1]at HE;have bu:(u:Int)<(N:Int):=by have:=HU.o;have:=HB.o;omega
      have bu1:(U1:Int)<(N:Int):=by have:=HU.o;have:=HB.o;omega
      have wu1:IntKind.i64.wrap ((u:Int)-1)=(U1:Int):=by
       have:=HU.o;have:=HB.o;have:=tv.o
       rw[ax]<;>omega
      have wup:IntKind.i64.wrap ((u:Int)+1)=((u+1:Nat):Int):=by
       have:=HU.o;have:=HB.o
       rw[ax]<;>omega
      obtain⟨P,hP⟩:∃P,P=u-a:=⟨_,rfl⟩;obtain⟨Q,hQ⟩:∃Q,Q=b-u:=⟨_,rfl⟩;have wP:IntKind.i64.wrap ((u:Int)-(a:Int))=(P:Int):=by
       have:=HU.o;have:=HB.o;have:=tv.o
       rw[ax]<;>omega
      have wQ:IntKind.i64.wrap ((b:Int)-(u:Int))=(Q:Int):=by
       have:=HU.o;have:=HB.o
       rw[ax]<;>omega
      have lp:Hid (u<dk.size/\U1<dk.size/\u≠U1/\dk.size=N/\a<u/\u<b/\b<=N/\N<=1000000/\P=u-a/\Q=b-u/\U1=u-1):=aa (by have:=HU.o;have:=HB.o;have:=tv.o;omega);clear e U6 h50 hU1 hP hQ;go_upto_region 11 with fail
      go_cut [] from 46 to 61 (fun wx=>ft bt w0 jb pb bf made base g cap (swp dk u U1) wx)
      case first=>
       obtain⟨x,hx⟩:∃x,dk[u]! = x:=⟨_,rfl⟩;obtain⟨y,hy⟩:∃y,dk[U1]! = y:=⟨_,rfl⟩;obtain⟨pp,qq,hex⟩:=HSu.o.lj (i:=u) (j:=U1) lp.o.1 lp.o.2.1 hx hy;have po:=aa hex;obtain⟨mn,Eu,x0,x1,x2,x3,y0,y1,y2,y3,dQ,jo,-⟩:=hex;obtain⟨n0,n1,n2,n3,n4,n5,n6⟩:=jo lp.o.2.2.1;clear jo;go_big_region
       all_goals
        clear x0 x1 x2 x3 y0 y1 y2 y3 n0 n1 n2 n3 n4 n5 n6 dQ;go_wp2;go_meet
        exact po.o.done
      case rest=>
       have iU:=aa hcut;clear hcut;obtain⟨D1,NR⟩:∃D1,D1=swp dk u U1:=⟨_,rfl⟩;rw[<- NR]at iU HE;have acO:Hid (D1.size=N):=aa (by rw[NR,size_swp];exact lp.o.2.2.2.1);clear NR;rw[show u-a=P from lp.o.2.2.2.2.2.2.2.2.1.symm,show b-u=Q from lp.o.2.2.2.2.2.2.2.2.2.1.symm]at HE;go_upto_if 65 with fail
       go_cut [] from 65 to 100 (fun wx=>∃dd:Array aF,dd.size=N/\ft bt w0 jb pb bf made base g cap dd wx/\Hid (dd=if P >= 2 then shiftDown (ltOf (aR bt)) U1 D1 else D1))
       case first=>
        by_cases hV:P >= 2
        ·have hVz:(P:Int) >= 2:=by omega
         go_wp2_with fail;go_loopw [11] (fun vj wr=>∃(j:Nat)(dj:Array aF),vj=.int .i64 (j:Int)/\j<=U1/\dj.size=N/\ft bt w0 jb pb bf made base g cap dj wr/\Hid (shiftDown (ltOf (aR bt)) j dj=shiftDown (ltOf (aR bt)) U1 D1)) (fun vj _=>(intOf vj).toNat)
         case atStart=>exact⟨U1,D1,rfl,Nat.le_refl _,acO.o,iU.o,rfl⟩
         case round=>
          obtain⟨j,dj,rfl,Ke,hsj,hs,HI⟩:=hrel;generalize wr=Wr at *;have Bw:=aa hs;have U7:=aa hsj;clear hs hsj;by_cases hjc:1<=j
          ·have Jr:(j:Int) >= 1:=by omega
           obtain⟨jp,hjp⟩:∃jp,jp=j-1:=⟨_,rfl⟩;have bj:(j:Int)<(N:Int):=by have:=lp.o;omega
           have bjp:(jp:Int)<(N:Int):=by have:=lp.o;omega
           have wjp:IntKind.i64.wrap ((j:Int)-1)=(jp:Int):=by
            have:=lp.o;rw[ax]<;>omega
           have HJ:Hid (j<dj.size/\jp<dj.size/\j≠jp/\jp=j-1/\1<=j):=aa (by have:=lp.o;have:=U7.o;omega);clear hjp;obtain⟨x,hx⟩:∃x,dj[j]! = x:=⟨_,rfl⟩;obtain⟨y,hy⟩:∃y,dj[jp]! = y:=⟨_,rfl⟩;have F:=aa (Bw.o.reads (i:=j) (j:=jp) HJ.o.1 HJ.o.2.1 hx hy);by_cases hl:aR bt x y<0
           ·have Y7:Hid (ltOf (aR bt) dj[j]! dj[jp]! = true):=aa (by rw[hx,hy];exact decide_eq_true hl);go_wp2_with fail;refine wq Wr ?_;iterate 4 (refine qz ?_)
            refine qz ?_ (fun w' hw'=>by obtain⟨⟨c0,c1,c2,c3⟩,-,-⟩:=F.o w' hw';go_simp<;>rfl);iterate 4 (refine qz ?_)
            refine qz ?_ (fun w' hw'=>by obtain⟨-,⟨c0,c1,c2,c3⟩,-⟩:=F.o w' hw';go_simp<;>rfl);refine qw (fun w' hw'=>(F.o w' hw').2.2) ?_;iterate 2 (refine qz ?_)
            refine wpQuiet_nil ?_;intro w5 fJ;have b8:=aa (Bw.o.below fJ);clear fJ;clear hx hy F;go_upto_region 17 with fail
            obtain⟨x',T4⟩:∃x,dj[j]! = x:=⟨_,rfl⟩;obtain⟨y',hy'⟩:∃y,dj[jp]! = y:=⟨_,rfl⟩;obtain⟨pp,qq,hex⟩:=b8.o.lj (i:=j) (j:=jp) HJ.o.1 HJ.o.2.1 T4 hy';have po:=aa hex;obtain⟨mn,Eu,x0,x1,x2,x3,y0,y1,y2,y3,dQ,jo,-⟩:=hex;obtain⟨n0,n1,n2,n3,n4,n5,n6⟩:=jo HJ.o.2.2.1;clear jo;go_big_region
            all_goals
             clear x0 x1 x2 x3 y0 y1 y2 y3 n0 n1 n2 n3 n4 n5 n6 dQ;have hdone:=aa po.o.done;go_wp2;have q:=HJ.o;refine⟨⟨jp,swp dj j jp,rfl,ae,by rw[size_swp];exact U7.o,hdone.o,?_⟩,by simp[intOf];omega⟩;show shiftDown (ltOf (aR bt)) _ _=_;rw[<- HI.out,q.2.2.2.1];exact(shiftDown_go _ _ _ q.2.2.2.2 (by rw[<- q.2.2.2.1];exact Y7.o)).symm
           ·have Di:decide (aR bt x y<0)=false:=decide_eq_false hl;go_wp2_with fail;refine wq Wr ?_;iterate 4 (refine qz ?_)
            refine qz ?_ (fun w' hw'=>by obtain⟨⟨c0,c1,c2,c3⟩,-,-⟩:=F.o w' hw';go_simp<;>rfl);iterate 4 (refine qz ?_)
            refine qz ?_ (fun w' hw'=>by obtain⟨-,⟨c0,c1,c2,c3⟩,-⟩:=F.o w' hw';go_simp<;>rfl);refine qw (fun w' hw'=>(F.o w' hw').2.2) ?_;iterate 2 (refine qz ?_)
            refine wpQuiet_nil ?_;intro w5 fJ;have b8:=aa (Bw.o.below fJ);clear fJ;go_wp2;go_meet
            exact⟨dj,U7.o,b8.o,aa (by rw[if_pos hV,<- HI.out];exact(shiftDown_stop _ _ _ (.inr (by rw[<- HJ.o.2.2.2.1,hx,hy];exact Di))).symm)⟩
          ·have Jr:¬((j:Int) >= 1):=by omega
           go_wp2;go_meet
           exact⟨dj,U7.o,Bw.o,aa (by rw[if_pos hV,<- HI.out];exact(shiftDown_stop _ _ _ (.inl ae)).symm)⟩
        ·have hVz:¬(P:Int) >= 2:=by omega
         go_wp2;go_meet
         exact⟨D1,acO.o,iU.o,aa (by rw[if_neg hV])⟩
       case rest=>
        obtain⟨D2,hz,hs,T3⟩:=hcut;have eM:=aa hs;have acP:=aa hz;have ah2:=aa T3.out;clear hs hz T3;rw[<- ah2.o]at HE;by_cases hV:Q >= 2
        ·have hVz:(Q:Int) >= 2:=by omega
         go_wp2_with fail;go_loopw [12] (fun vj wr=>∃(j:Nat)(dj:Array aF),vj=.int .i64 (j:Int)/\u<j/\j<=b/\dj.size=N/\ft bt w0 jb pb bf made base g cap dj wr/\Hid (shiftUp (ltOf (aR bt)) b j dj=shiftUp (ltOf (aR bt)) b (u+1) D2)) (fun vj _=>b-(intOf vj).toNat)
         case atStart=>exact⟨(u+1),D2,rfl,ae,by have:=lp.o;omega,acP.o,eM.o,rfl⟩
         case round=>
          obtain⟨j,dj,rfl,TZ,Ke,hsj,hs,HI⟩:=hrel;generalize wr=Wr at *;have Bw:=aa hs;have U7:=aa hsj;clear hs hsj;by_cases hjc:j<b
          ·have Jr:(j:Int)<(b:Int):=by omega
           obtain⟨jp,hjp⟩:∃jp,jp=j-1:=⟨_,rfl⟩;have bj:(j:Int)<(N:Int):=by have:=lp.o;omega
           have bjp:(jp:Int)<(N:Int):=by have:=lp.o;omega
           have wjp:IntKind.i64.wrap ((j:Int)-1)=(jp:Int):=by
            have:=lp.o;rw[ax]<;>omega
           have wjn:IntKind.i64.wrap ((j:Int)+1)=((j+1:Nat):Int):=by
            have:=lp.o;rw[ax]<;>omega
           have HJ:Hid (j<dj.size/\jp<dj.size/\j≠jp/\jp=j-1/\1<=j):=aa (by have:=lp.o;have:=U7.o;omega);clear hjp;obtain⟨x,hx⟩:∃x,dj[j]! = x:=⟨_,rfl⟩;obtain⟨y,hy⟩:∃y,dj[jp]! = y:=⟨_,rfl⟩;have F:=aa (Bw.o.reads (i:=j) (j:=jp) HJ.o.1 HJ.o.2.1 hx hy);by_cases hl:aR bt x y<0
           ·have Y7:Hid (ltOf (aR bt) dj[j]! dj[jp]! = true):=aa (by rw[hx,hy];exact decide_eq_true hl);go_wp2_with fail;refine wq Wr ?_;iterate 4 (refine qz ?_)
            refine qz ?_ (fun w' hw'=>by obtain⟨⟨c0,c1,c2,c3⟩,-,-⟩:=F.o w' hw';go_simp<;>rfl);iterate 4 (refine qz ?_)
            refine qz ?_ (fun w' hw'=>by obtain⟨-,⟨c0,c1,c2,c3⟩,-⟩:=F.o w' hw';go_simp<;>rfl);refine qw (fun w' hw'=>(F.o w' hw').2.2) ?_;iterate 2 (refine qz ?_)
            refine wpQuiet_nil ?_;intro w5 fJ;have b8:=aa (Bw.o.below fJ);clear fJ;clear hx hy F;go_upto_region 23 with fail
            obtain⟨x',T4⟩:∃x,dj[j]! = x:=⟨_,rfl⟩;obtain⟨y',hy'⟩:∃y,dj[jp]! = y:=⟨_,rfl⟩;obtain⟨pp,qq,hex⟩:=b8.o.lj (i:=j) (j:=jp) HJ.o.1 HJ.o.2.1 T4 hy';have po:=aa hex;obtain⟨mn,Eu,x0,x1,x2,x3,y0,y1,y2,y3,dQ,jo,-⟩:=hex;obtain⟨n0,n1,n2,n3,n4,n5,n6⟩:=jo HJ.o.2.2.1;clear jo;go_big_region
            all_goals
             clear x0 x1 x2 x3 y0 y1 y2 y3 n0 n1 n2 n3 n4 n5 n6 dQ;have hdone:=aa po.o.done;go_wp2;have q:=HJ.o;refine⟨⟨(j+1),swp dj j jp,rfl,ae,ae,by rw[size_swp];exact U7.o,hdone.o,?_⟩,by simp[intOf];omega⟩;show shiftUp (ltOf (aR bt)) b _ _=_;rw[<- HI.out,q.2.2.2.1];exact(shiftUp_go _ _ _ _ hjc (by rw[<- q.2.2.2.1];exact Y7.o)).symm
           ·have Di:decide (aR bt x y<0)=false:=decide_eq_false hl;go_wp2_with fail;refine wq Wr ?_;iterate 4 (refine qz ?_)
            refine qz ?_ (fun w' hw'=>by obtain⟨⟨c0,c1,c2,c3⟩,-,-⟩:=F.o w' hw';go_simp<;>rfl);iterate 4 (refine qz ?_)
            refine qz ?_ (fun w' hw'=>by obtain⟨-,⟨c0,c1,c2,c3⟩,-⟩:=F.o w' hw';go_simp<;>rfl);refine qw (fun w' hw'=>(F.o w' hw').2.2) ?_;iterate 2 (refine qz ?_)
            refine wpQuiet_nil ?_;intro w5 fJ;have b8:=aa (Bw.o.below fJ);clear fJ;have Rp:Hid (dj=if Q >= 2 then shiftUp (ltOf (aR bt)) b (u+1) D2 else D2):=aa (by rw[if_pos hV,<- HI.out];exact(shiftUp_stop _ _ _ _ (.inr (by rw[<- HJ.o.2.2.2.1,hx,hy];exact Di))).symm);have HF:Hid (partialIns (ltOf (aR bt)) a b (5-(s3+1)) u dj=r):=aa (by rw[Rp.o];exact HE.o.symm);go_wp2;have q:=lp.o;exact⟨⟨u,s3+1,dj,rfl,rfl,ae,ae,ae,(U7.o),(b8.o),HF⟩,by simp[intOf];omega⟩
          ·have Jr:¬((j:Int)<(b:Int)):=by omega
           have Rp:Hid (dj=if Q >= 2 then shiftUp (ltOf (aR bt)) b (u+1) D2 else D2):=aa (by rw[if_pos hV,<- HI.out];exact(shiftUp_stop _ _ _ _ (.inl hjc)).symm);have HF:Hid (partialIns (ltOf (aR bt)) a b (5-(s3+1)) u dj=r):=aa (by rw[Rp.o];exact HE.o.symm);go_wp2;have q:=lp.o;exact⟨⟨u,s3+1,dj,rfl,rfl,ae,ae,ae,(U7.o),(Bw.o),HF⟩,by simp[intOf];omega⟩
        ·have hVz:¬(Q:Int) >= 2:=by omega
         have Rp:Hid (D2=if Q >= 2 then shiftUp (ltOf (aR bt)) b (u+1) D2 else D2):=aa (by rw[if_neg hV]);have HF:Hid (partialIns (ltOf (aR bt)) a b (5-(s3+1)) u D2=r):=aa (by rw[Rp.o];exact HE.o.symm);go_wp2;have q:=lp.o;exact⟨⟨u,s3+1,D2,rfl,rfl,ae,ae,ae,(acP.o),(eM.o),HF⟩,by simp[intOf];omega⟩
  ·have ahW:¬(s3:Int)<5:=by omega
   have e:5-s3=0:=by omega
   have HF:=mB.out;rw[e]at HF;have HG:Hid (r=(dk,false)):=aa HF.symm;clear HF e;go_wp2;go_ret;rw[HG.o];exact⟨rfl,gu.o⟩
end
end
section
open Go.RowKit Go.Maps Go.Sort
def Rq(m:Nat):Prop:=∀{bt:Bool}{w0 W:World}{jb pb bf made base g cap:Nat}{d:Array aF},ft bt w0 jb pb bf made base g cap d W->∀(a b limit:Nat),a<=b->b<=d.size->d.size<=1000000->b-a<=m->limit<=64->Sort.Below (ltOf (aR bt)) a b d ->
 Calls prog 292 #[.slice (some ⟨g,0,none⟩) d.size cap,.int .i64 (a:Int),.int .i64 (b:Int),.int .i64 (limit:Int),cM jb] W (mI bt w0 jb pb bf made base g cap (pdq (ltOf (aR bt)) d a b limit true true))
theorem Kn:Rq 12:=by
 intro bt w0 W jb pb bf made base g cap d h a b limit hab hb hsz hm hl _;have ah3:=aa (mJ h a b hab hb hsz);rw[pdq_small hm];have hw:IntKind.i64.wrap ((b:Int)-(a:Int))=(b:Int)-(a:Int):=ax ae ae;have hle:(b:Int)-(a:Int)<=12:=by omega
 clear h;unfold cM ptrTo at *;generalize d.size=N at *;go_enter func292,ntmps292;go_wp2;refine wp_loop_rounds 1 ?_;rw[rounds_succ];go_wp2_with fail;refine ah3.o.mono ?_;rintro e w'⟨rfl,hs⟩;have HS:=aa hs;clear hs;go_wp2;go_returns;exact⟨rfl,HS.o⟩
theorem NS{n:Nat}(h:n<=1000000):Lib.bitLen n<=64:=Nat.le_trans (Lib.bitLen_le n 62 ae ae) af
theorem G4{m:Nat}(hm:m<=1000000)(HP:Rq m):qC m:=by
 intro w jb pb bf made b hj base g cap es hes ho hgj hgb;have hs:ft b w jb pb bf made base g cap es.toArray w:=⟨by simpa using ho,hj,hgj,hgb,aH.refl _ _⟩;have ah4:=NS (n:=es.length) ae;have hp:=HP hs 0 es.length (Lib.bitLen es.length) (Nat.zero_le _) ah (by simp;omega) ae ah4 (.inl rfl);obtain⟨G5,xS⟩:=pdq_sorts (ltOf (aR b)) (oq b) es.toArray 0 es.length (Lib.bitLen es.length) true true (Nat.zero_le _) ah (.inl rfl);have Xd:Calls prog 87 #[.int .u64 (es.length:Int)] w fun e w'=>e=.returned (.int .i64 (Lib.bitLen es.length:Nat))/\w'=w:=by
  have:=Any.bits_Len (SlLaysF0.n15.bits (P:=prog) (ρ:=Tryz.eG) { Tryz.jO with }) (es.length:Int) w ae ae;rwa [Int.toNat_natCast]at this
 have HB:=aa Xd;generalize pdq (ltOf (aR b)) es.toArray 0 es.length (Lib.bitLen es.length) true true=D at *;have HQ:Hid (∀e w',mI b w jb pb bf made base g cap D e w'->Ad b w base g cap es e w'):=aa (fun e w' ⟨he,h2⟩=>by
  obtain⟨hsz,-,PT⟩:=G5;have hsz':D.size=es.length:=by rw[hsz];simp
  refine⟨D.toList,he,?_,?_,?_,h2.turn⟩
  ·have e1:(D.extract 0 es.length).toList=D.toList:=by rw[<- hsz'];simp
   have e2:(es.toArray.extract 0 es.length).toList=es:=by simp
   rw[e1,e2]at PT;exact PT
  ·rw[List.pairwise_iff_getElem];intro i j hi hj e9;have h3:=xS i j (Nat.zero_le _) e9 (by rw[<- hsz'];simpa using hj);unfold ltOf at h3;rw[decide_eq_false_iff_not,zX]at h3;rw[Array.length_toList]at hi hj;rw[getElem!_pos D i hi,getElem!_pos D j hj]at h3;rw[Array.getElem_toList,Array.getElem_toList];exact h3
  ·have:=h2.row;rw[hsz']at this;exact this)
 have HC:=aa hp;have hw:IntKind.u64.wrap (es.length:Int)=(es.length:Int):=gM _ ae ae;clear Xd hp G5 xS hs hj ho;simp only[List.size_toArray]at HC;unfold cM ptrTo at *;generalize es.length=N at *;go_enter func260,ntmps260;go_wp2_with fail;refine HB.o.mono ?_;rintro e w'⟨rfl,rfl⟩;go_wp2_with fail;refine HC.o.mono ?_;rintro e w2⟨rfl,hs⟩;have HS:=aa hs;clear hs;go_wp2;go_returns;exact HQ.o _ _ ⟨rfl,HS.o⟩
structure Round(lt:aF->aF->Bool)(a b lim:Nat)(wb wp:Bool)(dk:Array aF)(R:Sort.Rd aF):Prop where
 brk:wb=false->R.d1=breakPatterns dk a b/\R.lim=lim-1
 nob:wb=true->R.d1=dk/\R.lim=lim
 c:R.c=choosePivot lt R.d1 a b
 dec:R.c.2=.decreasing->R.d2=reverseRange R.d1 a b/\R.pivot=(b-1)-(R.c.1-a)/\R.hint=.increasing
 Rs:R.c.2≠.decreasing->R.d2=R.d1/\R.pivot=R.c.1/\R.hint=R.c.2
 yes:(wb && wp && decide (R.hint=.increasing))=true->R.pi=partialInsertionSort lt R.d2 a b
 no:(wb && wp && decide (R.hint=.increasing))=false->R.pi=(R.d2,false)
 s1:R.d1.size=dk.size
 c1:a<=R.c.1
 c2:R.c.1<b
 s2:R.d2.size=dk.size
 p1:a<=R.pivot
 p2:R.pivot<b
 s3:R.pi.1.size=dk.size
 B3:Sort.Below lt a b R.pi.1
 jP:R.lim<=lim
 done:R.pi.2=true->pdq lt dk a b lim wb wp=R.pi.1
 eq:R.pi.2=false->(decide (a>0) && !lt R.pi.1[a-1]! R.pi.1[R.pivot]!)=true->∀mid d4,partitionEqual lt R.pi.1 a b R.pivot=(mid,d4)->a<mid->mid<=b->pdq lt dk a b lim wb wp=pdq lt d4 mid b R.lim wb wp
 left:R.pi.2=false->(decide (a>0) && !lt R.pi.1[a-1]! R.pi.1[R.pivot]!)=false->∀mid ap d4,partition lt R.pi.1 a b R.pivot=(mid,ap,d4)->a<=mid->mid<b->mid-a<b-mid->pdq lt dk a b lim wb wp=pdq lt (pdq lt d4 a mid R.lim true true) (mid+1) b R.lim (decide (mid-a >= (b-a)/8)) ap
 right:R.pi.2=false->(decide (a>0) && !lt R.pi.1[a-1]! R.pi.1[R.pivot]!)=false->∀mid ap d4,partition lt R.pi.1 a b R.pivot=(mid,ap,d4)->a<=mid->mid<b->¬mid-a<b-mid->pdq lt dk a b lim wb wp=pdq lt (pdq lt d4 (mid+1) b R.lim true true) a mid R.lim (decide (b-mid >= (b-a)/8)) ap
theorem Rt{lt:aF->aF->Bool}(h:SWO lt){a b lim:Nat}(wb wp:Bool){dk:Array aF}(Eo:¬b-a<=12)(h0:¬lim=0)(hb:b<=dk.size)(hB:Sort.Below lt a b dk):Round lt a b lim wb wp dk (rd lt dk a b lim wb wp):=by
 obtain⟨s1,B1,hc1,s2,B2,Xe,s3,B3⟩:=rd_facts (limit:=lim) (wb:=wb) (wp:=wp) h partialInsertionSort_holds reverseRange_holds (show a<b by omega) hb hB;exact {
  brk:=by rintro rfl;exact rd_false
  nob:=by rintro rfl;exact rd_true
  c:=rd_c
  dec:=rd_dec
  Rs:=rd_not
  yes:=rd_pi_yes
  no:=rd_pi_no
  s1:=s1
  c1:=hc1.1
  c2:=hc1.2
  s2:=s2
  p1:=Xe.1
  p2:=Xe.2
  s3:=s3
  B3:=B3
  jP:=rd_lim_le
  done:=pdq_done Eo h0
  eq:=fun h1 h2 mid d4 hx r1 r2=>by rw[pdq_eq Eo h0 h1 h2 (by rw[hx];exact⟨r1,r2⟩),hx]
  left:=fun h1 h2 mid ap d4 hx r1 r2 h4=>by rw[pdq_left Eo h0 h1 h2 (by rw[hx];exact⟨r1,r2⟩) (by rw[hx];exact h4),hx]
  right:=fun h1 h2 mid ap d4 hx r1 r2 h4=>by rw[pdq_right Eo h0 h1 h2 (by rw[hx];exact⟨r1,r2⟩) (by rw[hx];exact h4),hx] }
theorem NT{h:Hint}(e:mK h=2):h=.decreasing:=by cases h<;>simp[mK]at e ⊢
theorem U9:∀m,Rq m:=by
 intro m;induction m with
 |zero=>exact fun h a b l h1 h2 h3 h4 h5 h6=>Kn h a b l h1 h2 h3 ae h5 h6
 |succ m ih=>
   intro bt w0 W jb pb bf made base g cap d h a b limit hab hb hsz hm hl Ru;have H:=aa h;have jQ:=aa Ru;obtain⟨N,hN⟩:∃N,N=d.size:=⟨_,rfl⟩;rw[<- hN]at hb hsz ⊢;obtain⟨r,hr⟩:∃r,r=pdq (ltOf (aR bt)) d a b limit true true:=⟨_,rfl⟩;rw[<- hr];have HR0:Hid (pdq (ltOf (aR bt)) d a b limit true true=r):=aa hr.symm;have HX:Hid (a<=b/\b<=N/\N<=1000000/\b-a<=m+1/\limit<=64/\d.size=N):=aa ae;clear h hN Ru hr hab hb hsz hm hl;unfold cM ptrTo;go_enter func292,ntmps292;go_wp2_with fail;go_loopw [1,2,3,10,11] (fun s1 s2 s3 s10 s11 wr=>∃(a1 b1 lim:Nat)(wb wp:Bool)(dk:Array aF),s1=.int .i64 (a1:Int)/\s2=.int .i64 (b1:Int)/\s3=.int .i64 (lim:Int)/\s10=.bool wb/\s11=.bool wp/\a1<=b1/\b1<=N/\b1-a1<=m+1/\lim<=64/\dk.size=N/\Hid (Sort.Below (ltOf (aR bt)) a1 b1 dk)/\ft bt w0 jb pb bf made base g cap dk wr/\Hid (pdq (ltOf (aR bt)) dk a1 b1 lim wb wp=r)) (fun s1 s2 _ _ _ _=>(intOf s2-intOf s1).toNat)
   case atStart=>exact⟨a,b,limit,true,true,d,rfl,rfl,rfl,rfl,rfl,HX.o.1,HX.o.2.1,HX.o.2.2.2.1,HX.o.2.2.2.2.1,HX.o.2.2.2.2.2,jQ,H.o,HR0⟩
   case round=>
    obtain⟨a1,b1,lim,wb,wp,dk,rfl,rfl,rfl,rfl,rfl,Y8,hb1,Pr,Mg,hsk,HBk,hs,HO⟩:=hrel;generalize wr=Wr at *;have HS:=aa hs;have HZ:=aa hsk;obtain⟨L,hL⟩:∃L,L=b1-a1:=⟨_,rfl⟩;have wL:IntKind.i64.wrap ((b1:Int)-(a1:Int))=(L:Int):=by
     have:=HX.o;rw[ax]<;>omega
    have HK:Hid (a1<=b1/\b1<=N/\L=b1-a1/\L<=m+1/\lim<=64/\N<=1000000/\dk.size=N):=aa (by have:=HX.o;omega);clear hs hsk hL Y8 hb1 Pr Mg;by_cases Eo:L<=12
    ·have Y9:(L:Int)<=12:=by omega
     have hc:=mJ HS.o a1 b1 HK.o.1 (by have:=HK.o;omega) (by have:=HK.o;omega);rw[HZ.o]at hc;unfold cM ptrTo at hc;have HC:=aa hc;clear hc;have HF:Hid (r=insertionSort (ltOf (aR bt)) dk a1 b1):=aa (by rw[<- HO.out];exact pdq_small (by have:=HK.o;omega));go_wp2_with fail;refine HC.o.mono ?_;rintro e w1⟨rfl,hs1⟩;have iU:=aa hs1;clear hs1;go_wp2;go_returns;rw[HF.o];exact⟨rfl,iU.o⟩
    ·have Y9:¬((L:Int)<=12):=by omega
     by_cases hl0:lim=0
     ·subst hl0;have hc:=Ex HS.o a1 b1 (by have:=HK.o;omega) (by have:=HK.o;omega) (by have:=HK.o;omega);rw[HZ.o]at hc;unfold cM ptrTo at hc;have HC:=aa hc;clear hc;have HF:Hid (r=heapSort (ltOf (aR bt)) dk a1 b1):=aa (by rw[<- HO.out];exact pdq_heap (by have:=HK.o;omega) rfl);go_wp2_with fail;refine HC.o.mono ?_;rintro e w1⟨rfl,hs1⟩;have iU:=aa hs1;clear hs1;go_wp2;go_returns;rw[HF.o];exact⟨rfl,iU.o⟩
     ·have ah8:((lim:Int) == 0)=false:=by simp;omega
      have Js:Hid (1<=lim/\12<L):=aa ae;obtain⟨R,HR⟩:∃R,Hid (Round (ltOf (aR bt)) a1 b1 lim wb wp dk R):=⟨_,aa (Rt (oq bt) wb wp (by have:=HK.o;omega) hl0 (by have:=HK.o;omega) HBk.out)⟩;clear hl0 Eo;go_upto_if 39 with fail
      go_cut [3] from 21 to 147 (fun s3 wc=>s3=.int .i64 (R.lim:Int)/\ft bt w0 jb pb bf made base g cap R.d1 wc)
      case first=>
       cases wb with
       |false=>
         obtain⟨e1,e2⟩:=HR.out.brk rfl;have hc:=ur HS.o a1 b1 (by have:=HK.o;have:=Js.o;omega) (by have:=HK.o;omega) (by have:=HK.o;omega);rw[HZ.o,<- e1]at hc;unfold cM ptrTo at hc;have HC:=aa hc;have wl1:IntKind.i64.wrap ((lim:Int)-1)=(R.lim:Int):=by
          have:=HK.o;have:=Js.o
          rw[ax]<;>omega
         clear hc e1 e2;go_wp2_with fail;refine HC.o.mono ?_;rintro e w1⟨rfl,hs1⟩;have iU:=aa hs1;clear hs1;go_wp2;go_meet
         exact⟨rfl,iU.o⟩
       |true=>
         obtain⟨e1,e2⟩:=HR.out.nob rfl;go_wp2;go_meet
         exact⟨by rw[e2],by rw[e1];exact HS.o⟩
      case rest=>
       obtain⟨rfl,hs1⟩:=hcut;have iU:=aa hs1;have Xf:Hid (R.d1.size=N):=aa (HR.out.s1.trans HZ.o);clear hs1;have hc:=yB iU.o a1 b1 (by have:=HK.o;have:=Js.o;omega) (by have:=HK.o;have:=Xf.o;omega) (by have:=HK.o;have:=Xf.o;omega);rw[Xf.o,<- HR.out.c]at hc;unfold cM ptrTo at hc;have HC:=aa hc;clear hc;go_upto_if 56 with fail
       refine HC.o.mono ?_;rintro e w2⟨rfl,hs2⟩;have eM:=aa hs2;clear hs2 HC;go_upto_if 56 with fail
       go_cut [13,14] from 21 to 147 (fun s13 s14 wc=>s13=.int .i64 (R.pivot:Int)/\s14=.int .i64 (mK R.hint:Int)/\ft bt w0 jb pb bf made base g cap R.d2 wc)
       case first=>
        by_cases hh:R.c.2=.decreasing
        ·obtain⟨e2,Za,Va⟩:=HR.out.dec hh;have hz:(mK R.c.2:Int)=2:=by rw[hh];rfl
         have hc:=vW eM.o a1 b1 (by have:=HK.o;have:=Js.o;omega) (by have:=HK.o;have:=Xf.o;omega) (by have:=HK.o;have:=Xf.o;omega);rw[Xf.o,<- e2]at hc;unfold cM ptrTo at hc;have HC:=aa hc;obtain⟨P,hP⟩:∃P,P=R.c.1-a1:=⟨_,rfl⟩;have wb1:IntKind.i64.wrap ((b1:Int)-1)=(b1:Int)-1:=by
          have:=HK.o;have:=Js.o
          rw[ax]<;>omega
         have wP:IntKind.i64.wrap ((R.c.1:Int)-(a1:Int))=(P:Int):=by
          have:=HK.o;have:=HR.out.c1;have:=HR.out.c2
          rw[ax]<;>omega
         have wV:IntKind.i64.wrap ((b1:Int)-1-(P:Int))=(R.pivot:Int):=by
          have:=HK.o;have:=HR.out.c1;have:=HR.out.c2
          rw[ax]<;>omega
         have HE:Hid (R.hint=.increasing):=aa Va;clear hc e2 Za Va hP hh;go_wp2_with fail;refine HC.o.mono ?_;rintro e w3⟨rfl,hs3⟩;have fy:=aa hs3;clear hs3;go_wp2;go_meet
         exact⟨rfl,by rw[HE.o];rfl,fy.o⟩
        ·obtain⟨e2,Za,Va⟩:=HR.out.Rs hh;have hz:((mK R.c.2:Int) == 2)=false:=by
          simp only[beq_eq_false_iff_ne,ne_eq];exact fun h=>hh (NT ae)
         go_wp2;go_meet
         exact⟨by rw[Za],by rw[Va],by rw[e2];exact eM.o⟩
       case rest=>
        obtain⟨rfl,rfl,hs3⟩:=hcut;have fy:=aa hs3;have HZ2:Hid (R.d2.size=N):=aa (HR.out.s2.trans HZ.o);clear hs3;obtain⟨z,hz⟩:∃z:Int,z=(mK R.hint:Int):=⟨_,rfl⟩;rw[<- hz];have HV:Hid (decide (R.hint=.increasing)=(z == 1)):=aa (by rw[hz];cases R.hint<;>rfl);clear hz;go_upto_region 15 with fail
        go_cut [75] from 21 to 147 (fun s75 wx=>s75=.bool (wb && wp && decide (R.hint=.increasing))/\ft bt w0 jb pb bf made base g cap R.d2 wx)
        case first=>
         cases wb<;>cases wp<;>(
          go_wp2_with fail;go_meet
          exact⟨by rw[HV.o];simp,fy.o⟩)
        case rest=>
         obtain⟨rfl,oP⟩:=hcut;have gj:=aa oP;clear oP;go_upto_if 75 with fail
         go_cut [] from 21 to 147 (fun wx=>R.pi.2=false/\ft bt w0 jb pb bf made base g cap R.pi.1 wx)
         case first=>
          cases h68:(wb && wp && decide (R.hint=.increasing))
          ·have Vb:=aa (HR.out.no h68);go_wp2;go_meet
           exact⟨by rw[Vb.o],by rw[Vb.o];exact gj.o⟩
          ·have Vb:=aa (HR.out.yes h68);have hc:=nG gj.o a1 b1 (by have:=HK.o;have:=Js.o;omega) (by have:=HK.o;have:=HZ2.o;omega) (by have:=HK.o;have:=HZ2.o;omega);rw[HZ2.o,<- Vb.o]at hc;unfold cM ptrTo at hc;have HC:=aa hc;clear hc;cases j5:R.pi.2
           ·go_wp2_with fail;refine HC.o.mono ?_;rintro e w4⟨rfl,oP⟩;rw[j5];have b8:=aa oP;have pP:=aa j5;clear oP j5;go_wp2;go_meet
            exact⟨pP.o,b8.o⟩
           ·have HF:Hid (r=R.pi.1):=aa (by rw[<- HO.out];exact HR.out.done j5);go_wp2_with fail;refine HC.o.mono ?_;rintro e w4⟨rfl,oP⟩;rw[j5];have b8:=aa oP;clear oP j5;go_wp2;go_returns;rw[HF.o];exact⟨rfl,b8.o⟩
         case rest=>
          obtain⟨j5,hs5⟩:=hcut;have b8:=aa hs5;have pP:=aa j5;have PF:Hid (R.pi.1.size=N):=aa (HR.out.s3.trans HZ.o);clear hs5 j5;generalize wc=W5 at *;have bV:(R.pivot:Int)<(N:Int):=by have:=HR.out.p2;have:=HK.o;omega
          go_upto_region 17 with fail
          go_cut [97] from 21 to 147 (fun s97 wx=>s97=.bool (decide (a1>0) && !ltOf (aR bt) R.pi.1[a1-1]! R.pi.1[R.pivot]!)/\ft bt w0 jb pb bf made base g cap R.pi.1 wx)
          case first=>
           rcases Nat.eq_zero_or_pos a1 with ha0 | ha0
           ·have acT:decide ((a1:Int)>0)=false:=decide_eq_false ae;have aib:decide (0<a1)=false:=decide_eq_false ae;have HA0:=aa ha0;clear ha0;go_wp2_with fail;go_quiet (fail)
            have ve:RowKit.Below W5.heap.size W5 (W5.drewN nq):=⟨rfl,rfl,rfl,Nat.le_refl _,fun _ _=>rfl⟩;have gu:=aa (b8.o.below ve);clear ve;go_wp2;go_meet
            exact⟨by simp[HA0.o],gu.o⟩
           ·have acT:(a1:Int)>0:=by omega
            obtain⟨A1,hA1⟩:∃A1,A1=a1-1:=⟨_,rfl⟩;have bA:(A1:Int)<(N:Int):=by have:=HK.o;omega
            have wA1:IntKind.i64.wrap ((a1:Int)-1)=(A1:Int):=by
             have:=HK.o;rw[ax]<;>omega
            obtain⟨x,hx⟩:∃x,R.pi.1[A1]! = x:=⟨_,rfl⟩;obtain⟨y,hy⟩:∃y,R.pi.1[R.pivot]! = y:=⟨_,rfl⟩;have F:=aa (b8.o.reads (i:=A1) (j:=R.pivot) (by have:=HK.o;have:=PF.o;omega) (by have:=HK.o;have:=PF.o;have:=HR.out.p2;omega) hx hy);have HW:Hid ((decide (a1>0) && !ltOf (aR bt) R.pi.1[a1-1]! R.pi.1[R.pivot]!)=!decide (aR bt x y<0)):=aa (by
             rw[<- hA1,hx,hy,decide_eq_true ha0];rfl)
            clear hA1 hx hy;by_cases hl:aR bt x y<0
            ·go_wp2_with fail;refine wq W5 ?_;iterate 8 (refine qz ?_)
             refine qz ?_ (fun w' hw'=>by obtain⟨⟨c0,c1,c2,c3⟩,-,-⟩:=F.o w' hw';go_simp<;>rfl);iterate 3 (refine qz ?_)
             refine qz ?_ (fun w' hw'=>by obtain⟨-,⟨c0,c1,c2,c3⟩,-⟩:=F.o w' hw';go_simp<;>rfl);refine qw (fun w' hw'=>(F.o w' hw').2.2) ?_;iterate 3 (refine qz ?_)
             refine wpQuiet_nil ?_;intro w6 Vc;have gu:=aa (b8.o.below Vc);clear Vc;go_wp2;go_meet
             exact⟨by rw[HW.o,decide_eq_true hl];rfl,gu.o⟩
            ·have Di:decide (aR bt x y<0)=false:=decide_eq_false hl;go_wp2_with fail;refine wq W5 ?_;iterate 8 (refine qz ?_)
             refine qz ?_ (fun w' hw'=>by obtain⟨⟨c0,c1,c2,c3⟩,-,-⟩:=F.o w' hw';go_simp<;>rfl);iterate 3 (refine qz ?_)
             refine qz ?_ (fun w' hw'=>by obtain⟨-,⟨c0,c1,c2,c3⟩,-⟩:=F.o w' hw';go_simp<;>rfl);refine qw (fun w' hw'=>(F.o w' hw').2.2) ?_;iterate 3 (refine qz ?_)
             refine wpQuiet_nil ?_;intro w6 Vc;have gu:=aa (b8.o.below Vc);clear Vc;go_wp2;go_meet
             exact⟨by rw[HW.o,Di];rfl,gu.o⟩
          case rest=>
           obtain⟨rfl,T5⟩:=hcut;have gu:=aa T5;clear T5;cases NU:(decide (a1>0) && !ltOf (aR bt) R.pi.1[a1-1]! R.pi.1[R.pivot]!)
           ·obtain⟨mid,ap,d4,hx⟩:∃mid ap d4,partition (ltOf (aR bt)) R.pi.1 a1 b1 R.pivot=(mid,ap,d4):=⟨(partition (ltOf (aR bt)) R.pi.1 a1 b1 R.pivot).1,(partition (ltOf (aR bt)) R.pi.1 a1 b1 R.pivot).2.1,(partition (ltOf (aR bt)) R.pi.1 a1 b1 R.pivot).2.2,rfl⟩;have Vd:=aa (round_part (oq bt) (partition_holds (ltOf (aR bt))) HR.out.p1 HR.out.p2 (show b1<=R.pi.1.size by have:=HK.o;have:=PF.o;omega) HR.out.B3 hx);have hc:=Cj gu.o a1 b1 R.pivot HR.out.p1 HR.out.p2 (by have:=HK.o;have:=PF.o;omega) (by have:=HK.o;have:=PF.o;omega);rw[PF.o,hx]at hc;unfold cM ptrTo at hc;have HC:=aa hc;have hr1:=Vd.o.1;have hr2:=Vd.o.2.1;have Xg:=aa (HR.out.left pP.o NU mid ap d4 hx hr1 hr2);have HRT:=aa (HR.out.right pP.o NU mid ap d4 hx hr1 hr2);have uT:Hid (d4.size=N):=aa (Vd.o.2.2.1.trans PF.o);obtain⟨A,hA⟩:∃A,A=mid-a1:=⟨_,rfl⟩;obtain⟨B,hB⟩:∃B,B=b1-mid:=⟨_,rfl⟩;obtain⟨E,hE⟩:∃E,E=L/8:=⟨_,rfl⟩;have wA:IntKind.i64.wrap ((mid:Int)-(a1:Int))=(A:Int):=by
             have:=HK.o;rw[ax]<;>omega
            have wB:IntKind.i64.wrap ((b1:Int)-(mid:Int))=(B:Int):=by
             have:=HK.o;rw[ax]<;>omega
            have wE:IntKind.i64.wrap ((L:Int).tdiv 8)=(E:Int):=by
             have:=HK.o;rw[show((L:Int)).tdiv 8=((L/8:Nat):Int) from rfl,ax]<;>omega
            have wE2:IntKind.i64.wrap ((L:Int)/8)=(E:Int):=by
             have:=HK.o;rw[ax]<;>omega
            have wM:IntKind.i64.wrap ((mid:Int)+1)=((mid+1:Nat):Int):=by
             have:=HK.o;rw[ax]<;>omega
            have HM:Hid (A=mid-a1/\B=b1-mid/\E=L/8/\a1<=mid/\mid<b1):=aa ⟨hA,hB,hE,hr1,hr2⟩;clear hc hx hA hB hE hr1 hr2 NU;go_wp2_with fail;refine HC.o.mono ?_;rintro e w7⟨rfl,Ko⟩;dsimp only at Ko;have jR:=aa Ko;clear Ko HC;by_cases h4:A<B
            ·have h4z:(A:Int)<(B:Int):=by omega
             have G6:=ih jR.o a1 mid R.lim HM.o.2.2.2.1 (by have:=HK.o;have:=HM.o;have:=uT.o;omega) (by have:=HK.o;have:=uT.o;omega) (by have:=HK.o;have:=HM.o;omega) (Nat.le_trans HR.out.jP HK.o.2.2.2.2.1) Vd.o.2.2.2.1;obtain⟨pL,sL⟩:=pdq_sorts (ltOf (aR bt)) (oq bt) d4 a1 mid R.lim true true HM.o.2.2.2.1 (by have:=HK.o;have:=HM.o;have:=uT.o;omega) Vd.o.2.2.2.1;have Ck:=aa (Vd.o.2.2.2.2.2.1 _ pL sL).1;have HZ5:Hid ((pdq (ltOf (aR bt)) d4 a1 mid R.lim true true).size=N):=aa (pL.1.trans uT.o);have HF:Hid (pdq (ltOf (aR bt)) (pdq (ltOf (aR bt)) d4 a1 mid R.lim true true) (mid+1) b1 R.lim (decide (A >= E)) ap=r):=aa (by
              have q:=HM.o;rw[<- HO.out,Xg.o ae,q.1,q.2.2.1,HK.o.2.2.1])
             rw[uT.o]at G6;unfold cM ptrTo at G6;have Rv:=aa G6;clear G6 pL sL h4;go_wp2_with fail;refine Rv.o.mono ?_;rintro e w8⟨rfl,Kp⟩;have jD:=aa Kp;clear Kp Rv;go_wp2;have q:=HM.o;have q2:=HK.o;exact⟨⟨mid+1,b1,R.lim,decide (A >= E),ap,_,rfl,rfl,rfl,congrArg Value.bool ah,rfl,ae,ae,ae,Nat.le_trans HR.out.jP q2.2.2.2.2.1,HZ5.o,Ck,jD.o,HF⟩,by simp[intOf];omega⟩
            ·have h4z:¬(A:Int)<(B:Int):=by omega
             have G6:=ih jR.o (mid+1) b1 R.lim HM.o.2.2.2.2 (by have:=HK.o;have:=HM.o;have:=uT.o;omega) (by have:=HK.o;have:=uT.o;omega) (by have:=HK.o;have:=HM.o;omega) (Nat.le_trans HR.out.jP HK.o.2.2.2.2.1) Vd.o.2.2.2.2.1;obtain⟨pL,sL⟩:=pdq_sorts (ltOf (aR bt)) (oq bt) d4 (mid+1) b1 R.lim true true HM.o.2.2.2.2 (by have:=HK.o;have:=HM.o;have:=uT.o;omega) Vd.o.2.2.2.2.1;have Ck:=aa (Vd.o.2.2.2.2.2.2 _ pL sL).1;have HZ5:Hid ((pdq (ltOf (aR bt)) d4 (mid+1) b1 R.lim true true).size=N):=aa (pL.1.trans uT.o);have HF:Hid (pdq (ltOf (aR bt)) (pdq (ltOf (aR bt)) d4 (mid+1) b1 R.lim true true) a1 mid R.lim (decide (B >= E)) ap=r):=aa (by
              have q:=HM.o;rw[<- HO.out,HRT.o ae,q.2.1,q.2.2.1,HK.o.2.2.1])
             rw[uT.o]at G6;unfold cM ptrTo at G6;have Rv:=aa G6;clear G6 pL sL h4;go_wp2_with fail;refine Rv.o.mono ?_;rintro e w8⟨rfl,Kp⟩;have jD:=aa Kp;clear Kp Rv;go_wp2;have q:=HM.o;have q2:=HK.o;exact⟨⟨a1,mid,R.lim,decide (B >= E),ap,_,rfl,rfl,rfl,congrArg Value.bool ah,rfl,ae,ae,ae,Nat.le_trans HR.out.jP q2.2.2.2.2.1,HZ5.o,Ck,jD.o,HF⟩,by simp[intOf];omega⟩
           ·have Ez:=NU;simp only[Bool.and_eq_true,decide_eq_true_eq,Bool.not_eq_true']at Ez;obtain⟨mid,d4,hx⟩:∃mid d4,partitionEqual (ltOf (aR bt)) R.pi.1 a1 b1 R.pivot=(mid,d4):=⟨(partitionEqual (ltOf (aR bt)) R.pi.1 a1 b1 R.pivot).1,(partitionEqual (ltOf (aR bt)) R.pi.1 a1 b1 R.pivot).2,rfl⟩;have PG:=aa (round_eq (oq bt) (partitionEqual_holds (ltOf (aR bt))) Ez.1 HR.out.p1 HR.out.p2 (show b1<=R.pi.1.size by have:=HK.o;have:=PF.o;omega) HR.out.B3 Ez.2 hx);have hc:=sX gu.o a1 b1 R.pivot HR.out.p1 HR.out.p2 (by have:=HK.o;have:=PF.o;omega) (by have:=HK.o;have:=PF.o;omega);rw[PF.o,hx]at hc;unfold cM ptrTo at hc;have HC:=aa hc;have HF:Hid (pdq (ltOf (aR bt)) d4 mid b1 R.lim wb wp=r):=aa (by
             rw[<- HO.out,HR.out.eq pP.o NU mid d4 hx PG.o.1 PG.o.2.1])
            have uT:Hid (d4.size=N):=aa (PG.o.2.2.1.trans PF.o);clear hc hx NU Ez;go_wp2_with fail;refine HC.o.mono ?_;rintro e w7⟨rfl,Ko⟩;dsimp only at Ko;have jR:=aa Ko;clear Ko HC;go_wp2;have q1:=PG.o.1;have q3:=PG.o.2.1;have q2:=HK.o;exact⟨⟨mid,b1,R.lim,wb,wp,d4,rfl,rfl,rfl,rfl,rfl,q3,q2.2.1,ae,Nat.le_trans HR.out.jP q2.2.2.2.2.1,uT.o,aa PG.o.2.2.2.1,jR.o,HF⟩,by simp[intOf];omega⟩
theorem EA{m:Nat}(hm:m<=1000000):qC m:=G4 hm (U9 m)
end
section
open Go.RowKit Go.Maps Go.MapKept
theorem Ah{κ υ:Type}[DecidableEq κ]{m:List (κ×υ)}{k:κ}(h:aA m k=none):b7 m k=m:=by
 grind [b7,List.filter_eq_self,aA,Option.map_eq_none_iff]
theorem iO(L:aC)(p:Name×gR):need (p::L)=p.2.need+need L:=by
 rfl
theorem pS{L:aC}{k:Name}(f:gR)(h:aA L k=none):need (aS L k f)=f.need+need L:=by
 grind [aS,Ah,iO]
theorem cF(es:List aF)(fl:Bool):(au es fl).need<=4*es.length:=by
 grind [au,gR.need,dU,cy,eL]
def jq(d d':Dsk)(B c:Nat):Prop:=c=5/\d.bD<B\/c=6/\d'.dead=true
theorem kJ.num{d d':Dsk}{L:aC}{c B:Nat}(h:kJ d d' L c)(hB:need L<=B):jq d d' B c:=by
 rcases h with⟨h1,h2⟩| h
 ·exact .inl ⟨h1,ae⟩
 ·exact .inr h
theorem jq.ne{d d':Dsk}{B c:Nat}(h:jq d d' B c):c≠0:=by rcases h with h | h<;>omega
theorem jq.mono{d d':Dsk}{B B' c:Nat}(h:jq d d' B c)(hB:B<=B'):jq d d' B' c:=by
 rcases h with⟨h1,h2⟩| h
 ·exact .inl ⟨h1,ae⟩
 ·exact .inr h
theorem jq.later{d d1 d2:Dsk}{B c:Nat}(hq:d1.bD=d.bD)(h:jq d1 d2 B c):jq d d2 B c:=by
 rcases h with⟨h1,h2⟩| h
 ·exact .inl ⟨h1,ae⟩
 ·exact .inr h
def G7(S:Nat->Prop)(n pb db:Nat)(w:World)(o:ar)(d:Dsk)(L:aC)(name:Name)(out:List aF)(B:Nat)(e:Ending)(w':World):Prop:=
 ∃c d' o' L',e=.returned (.int .i64 ((c:Nat):Int))/\aw S n pb db w o d w' o' d' L'/\(c=0/\L'=aS L name (au out false)\/jq d d' B c)/\∀x,x≠name->aA L' x=aA L x
section
variable {S:Nat->Prop} {w w':World} {pb db n cb kb sb jb bf made:Nat} {by':Bool} {name:Name} {o o':ar} {d d':Dsk} {L L':aC}
theorem EB(HW:aQ){m:Nat}(HS:qC m)(h:aP w pb db n o d L)(hj:cT w jb pb bf made by')(lC:o jb=none)(_hob:o bf=none)(fw:bM name=true)(hno:aA L name=none){v:Value}{base:Nat}{es:List aF}(hv:aI w base v es)(mm:∀x,v.ownBlock=some x->o x=none/\x≠jb/\x≠bf)(hm:es.length<=m)(hes:es.length<65535) :
 Calls prog 222 #[ptrTo jb,.string name,v] w (G7 (fun x=>v.ownBlock=some x) n pb db w o d L name (aK by' es) (need L+4*es.length)):=by
 have xS:Hid (Calls prog 260 #[v,cM jb] w (fun e w'=>∃ts,e=.returned (.tuple #[])/\ts.Perm es/\ts.Pairwise (dB by')/\aI w' base v ts/\aH (fun x=>v.ownBlock=some x) w w')):=aa (by
  rcases cj hv with⟨rfl,rfl⟩|⟨g,cap,rfl,hg,hc1,hc2⟩
  ·refine(Er _ _ _ _).mono ?_;rintro e w'⟨rfl,rfl⟩;exact⟨[],rfl,List.Perm.refl _,List.Pairwise.nil,hv,aH.refl _ _⟩
  ·refine(HS hj es hm hv (mm g rfl).2.1 (mm g rfl).2.2).mono ?_;rintro e w'⟨ts,rfl,h1,h2,h3,h4⟩;exact⟨ts,rfl,h1,h2,h3,h4.mono (fun x _ e=>by rw[e];rfl)⟩)
 have J3:∃a cap,v=.slice a es.length cap/\∀x,v.ownBlock=some x->a=some ⟨x,0,none⟩:=by
  rcases cj hv with⟨rfl,rfl⟩|⟨g,cap,rfl,hg,hc1,hc2⟩
  ·exact⟨none,0,rfl,fun x hx=>by cases hx⟩
  ·exact⟨some ⟨g,0,none⟩,cap,rfl,fun x hx=>by cases hx;rfl⟩
 have EC:Hid (∀W,aP W pb db n o d L->cT W jb pb bf made by'->Calls prog 223 #[ptrTo jb,.string name] W (lV n pb db W o d L name)):=aa (fun W hW hjW=>sj hW hjW lC fw hno);have hput:Hid (∀W o' d' kb sb out,aP W pb db n o' d' (aS L name (au out false))->aB W sb pb name 20->o' sb=none->o' kb=none->kb≠sb->eV W kb sb out->out.length<65535->∀x:aF,
  Calls prog 225 #[ptrTo kb,.agg #[.int .u32 (x.t.toNat:Int),.int .u32 (x.h.toNat:Int),.int .u64 (x.x.toNat:Int),.int .u32 (x.m.toNat:Int)]] W (z7 n pb db W o' d' (aS L name (au out false)) name kb sb out x)):=
  aa (fun W o' d' kb sb out hW hst ho Rw hne hk hl x=>xO HW hW hst ho Rw hne (by grind [ay]) hl hk x)
 have H:=aa h;have HJ:=aa hj;have vQ:=aa mm;have Zb:=aa hno;have NV:Hid (∀x,v.ownBlock=some x->x<w.heap.size):=aa (fun x hx=>(aL hv x hx).1);have Ai:Hid (∀ts:List aF,ts.Perm es->ts.Pairwise (dB by')->fE ts=aK by' es):=aa (fun ts h1 h2=>((vM h2).congr (fun x=>h1.mem_iff)).eq);obtain⟨a,cap,rfl,ha⟩:=J3;have HA:=aa ha;clear h hj lC _hob fw hno hv mm hm ha;unfold cM ptrTo at *;generalize hN:es.length=N at *;have HN:=aa hN;clear hN;go_enter func222,ntmps222;go_wp2_with fail;refine xS.o.mono ?_;rintro e w1⟨ts,rfl,zu,hs1,M9,mq⟩;have JE:ts.length=N:=by rw[zu.length_eq,HN.o]
 have HTL:=aa JE;have eo:Hid (aw (fun x=>(Value.slice a N cap).ownBlock=some x) n pb db w o d w1 o d L):=aa ⟨H.o.kept mq (fun x hx e=>ar.dF (vQ.o x e).1 hx) (fun _ _ h=>h) (fun x t hx=>Nat.lt_of_lt_of_le (H.o.owned x t hx) mq.size),mq.mono (fun _ _ h=>.inr h),ct.refl _ _,bK.refl _⟩;have Zc:Hid (cT w1 jb pb bf made by'):=aa (HJ.o.kept (mq.block _ HJ.o.lt.1 (fun e=>(vQ.o _ e).2.1 rfl)) (mq.block _ HJ.o.lt.2 (fun e=>(vQ.o _ e).2.2 rfl)));have UI:=aa M9;have HB:=aa (Ai.o ts zu hs1);clear zu hs1 M9 mq JE;have aM:=aa (EC.o w1 eo.o.aX Zc.o);go_wp2_with fail;refine aM.o.mono ?_;rintro e w2⟨v2,c2,d2,o2,rfl,cP,om,jl⟩;have GR:=aa om;have aij:w.heap.size<=w1.heap.size:=eo.o.size;by_cases hc2:c2=0
 ·subst hc2;obtain⟨kb,sb,rfl,hk2,oA,G8,Aj,pq,hkb,yU⟩:=jl rfl;simp only[if_true]at cP;have eu:=aa (eo.o.trans cP (fun _ _ h=>h.elim));have TV:Hid (aI w2 base (.slice a N cap) ts):=aa (cP.ownsRow UI.o (fun b hb=>⟨(vQ.o b hb).1,fun h=>h⟩));have HK2:=aa hk2;have nz:=aa oA;have Ve:=aa G8;have Cl:=aa Aj;have Kq:=aa pq;have HNK:Hid (∀x,(Value.slice a N cap).ownBlock=some x->x≠kb):=aa (fun x hx e=>by grind [Hid.out]);have hs2:w.heap.size<=kb:=Nat.le_trans aij hkb;clear jl cP hk2 oA G8 Aj pq om aM;unfold ptrTo;go_wp2;go_loopw [27] (fun i wr=>∃(k:Nat)(d':Dsk)(o':ar),k<=N/\i=.int .i64 (k:Int)/\aw (fun x=>(Value.slice a N cap).ownBlock=some x) n pb db w o d wr o' d' (aS L name (au (fE (ts.take k)) false))/\eV wr kb sb (fE (ts.take k))/\aB wr sb pb name 20/\o' kb=none/\o' sb=none/\aI wr base (.slice a N cap) ts/\(∀x,(Value.slice a N cap).ownBlock=some x->o' x=none)) (fun i _=>N-(intOf i).toNat)
  case atStart=>exact⟨0,d2,o2,Nat.zero_le _,rfl,by assumption,by assumption,nz.o,Ve.o,Cl.o,TV.o,fun x hx=>eu.o.free (NV.o x hx) (vQ.o x hx).1⟩
  case round=>
   obtain⟨k,d3,o3,hk,rfl,eA,hk3,uf,ue,NW,hv3,acV⟩:=hrel;have eF:=aa eA;have HK3:=aa hk3;have Cm:=aa uf;have Rx:=aa ue;have vX:=aa NW;have FE:=aa hv3;have acW:=aa acV;have yo:=hk3.lt;have TR:=uf.lt;clear eA hk3 uf ue NW hv3 acV;by_cases hlt:k<N
   ·have hkt:k<ts.length:=by grind [Hid.out]
    have Vf:∃g,a=some ⟨g,0,none⟩/\N<=cap/\cap<=maxLen:=by
     grind [cj,Hid.out]
    obtain⟨g,rfl,acX,Ry⟩:=Vf;unfold maxLen at Ry;have Py:=FE.o;rw[<- HTL.o]at Py;obtain⟨e0,e1,e2,e3⟩:=bL Py (List.getElem?_eq_getElem hkt);have hgl:g<wr.heap.size:=World.block_lt_of_cell? _ _ e0;have nw:Hid (fE (ts.take (k+1))=sQ (fE (ts.take k)) ts[k]):=aa (by rw[List.take_succ_eq_append_getElem hkt,vK]);have hpl:Hid ((fE (ts.take k)).length<=k):=aa (Nat.le_trans (mD _) (List.length_take_le _ _));have qa:Hid (∀ob:Obj,aw (fun x=>(Value.slice (some ⟨g,0,none⟩) N cap).ownBlock=some x) n pb db w o d (wr.alloc ob) o3 d3 (aS L name (au (fE (ts.take k)) false))):=aa (fun ob=>eF.o.alloc ob);have Rz:=aa (fun W(hW:aP W pb db n o3 d3 (aS L name (au (fE (ts.take k)) false)))(hst:aB W sb pb name 20)(hsk:eV W kb sb (fE (ts.take k)))=>hput.o W o3 d3 kb sb (fE (ts.take k)) hW hst vX.o Rx.o Kq.o hsk (by grind [Hid.out]) ts[k]);clear Py;generalize ts[k]=x at *;go_wp2_with fail;have hbl:∀ob:Obj,Below wr.heap.size wr (wr.alloc ob):=fun ob=>aj.alloc (Nat.le_refl _) ob;refine(Rz.o _ (qa.o _).aX (Cm.o.below (hbl _)) (HK3.o.below (hbl _))).mono ?_;rintro e w4⟨c4,d4,o4,rfl,eC,u6,hk4⟩;have J7:Hid (aI w4 base (.slice (some ⟨g,0,none⟩) N cap) ts):=aa (eC.ownsRow (FE.o.alloc _) (fun b hb=>⟨acW.o b hb,HNK.o b hb⟩));have ui:Hid (aB w4 sb pb name 20):=aa ((Cm.o.below (hbl _)).moved eC vX.o (fun e=>Kq.o e.symm));have Vg:Hid (o4 kb=none):=aa (eC.free (Nat.lt_of_lt_of_le yo (hbl _).size) Rx.o);have Vh:Hid (o4 sb=none):=aa (eC.free (Nat.lt_of_lt_of_le TR (hbl _).size) vX.o);have aoz:Hid (∀x,(Value.slice (some ⟨g,0,none⟩) N cap).ownBlock=some x->o4 x=none):=aa (fun x hx=>eC.free (Nat.lt_of_lt_of_le (by cases hx;omega) (hbl _).size) (acW.o x hx));have HK4:=aa hk4;clear hk4 Rz e0 e1 e2 e3;by_cases gZ:c4=0
    ·subst gZ;simp only[if_true,iM]at eC;have fZ:=aa ((qa.o _).trans eC (fun x hx e=>by omega));have RA:=HK4.o rfl;rw[<- nw.o]at fZ RA;have HK5:=aa RA;clear eC u6 RA;go_wp2;go_roundw
     case rel=>grind [Hid.out]
     grind [intOf]
    ·have tZ:¬(c4:Int)=0:=by omega
     rw[if_neg gZ]at eC;have fZ:=aa ((qa.o _).trans eC (fun x hx e=>by omega));have JM:need (aS L name (au (fE (ts.take k)) false))<=need L+4*N:=by
      rw[pS _ Zb.o];have h1:=cF (fE (ts.take k)) false;have h2:=hpl.o;omega
     have B0:=aa (((u6.resolve_left gZ).num JM).later eF.o.on.bD);clear eC u6 gZ JM;go_wp2;go_ret;exact⟨c4,d4,o4,_,rfl,fZ.o,.inr B0.o,fun x hx=>by grind [ay]⟩
   ·obtain rfl:k=N:=by omega
    go_wp2;go_ret;refine⟨0,d3,o3,_,rfl,eF.o,.inl ⟨rfl,?_⟩,fun x hx=>by grind [ay]⟩;grind [Hid.out]
 ·have Kh:¬(c2:Int)=0:=by omega
  have HC2:=aa hc2;rw[if_neg hc2]at cP;have eu:=aa (eo.o.trans cP (fun _ _ h=>h.elim));clear hc2 cP jl om aM;go_wp2;go_ret;exact⟨c2,d2,o2,_,rfl,eu.o,.inr (.inr (GR.o.resolve_left HC2.o)),fun x _=>rfl⟩
end
end
section
open Go.RowKit
abbrev tx:=Name×List aF
def dL(rs:List tx)(L:aC):aC:=rs.foldl (fun L p=>aS L p.1 (au p.2 false)) L
theorem Ak(rs:List tx)(p:tx)(L:aC):dL (rs++[p]) L=aS (dL rs L) p.1 (au p.2 false):=by grind [dL]
theorem sY(rs:List tx)(p:tx)(L:aC):dL (p::rs) L=dL rs (aS L p.1 (au p.2 false)):=rfl
theorem eH(rs:List tx):∀(L:aC)(x:Name),x ∉ rs.map (·.1)->aA (dL rs L) x=aA L x:=by
 induction rs with
 |nil=>intro L x _;rfl
 |cons p rs ih=>
   grind [sY,ay]
theorem vY(rs:List tx):∀(L:aC),(rs.map (·.1)).Nodup->∀p∈rs,aA (dL rs L) p.1=some (au p.2 false):=by
 induction rs with
 |nil=>simp
 |cons q rs ih=>
   grind [sY,eH,ay]
theorem Kr(rs:List tx):∀(L:aC),(L.map (·.1)).Nodup->((dL rs L).map (·.1)).Nodup:=by
 induction rs with
 |nil=>intro L h;exact h
 |cons p rs ih=>intro L h;exact ih _ (cD h)
def lens(rs:List tx):Nat:=(rs.map (fun p=>p.2.length)).sum
theorem cN(L:aC)(k:Name)(f:gR):need (aS L k f)<=f.need+need L:=by
 unfold aS;rw[iO];have:need (b7 L k)<=need L:=by
  induction L with
  |nil=>exact Nat.le_refl _
  |cons q L ih=>
    grind [b7,iO]
 grind
theorem sZ(rs:List tx):∀(L:aC),need (dL rs L)<=need L+4*lens rs:=by
 induction rs with
 |nil=>intro L;exact Nat.le_add_right _ _
 |cons p rs ih=>
   grind [sY,cN,cF,lens]
theorem xT(a b:List tx):lens (a++b)=lens a+lens b:=by grind [lens]
def dZ(rs:List tx):List aF:=(rs.map (·.2)).flatten
theorem uu(a b:List tx):dZ (a++b)=dZ a++dZ b:=by grind [dZ]
theorem uv(rs:List tx):(dZ rs).length=lens rs:=by
 unfold dZ lens;rw[List.length_flatten,List.map_map];rfl
theorem b9(b:Bool)(l:List aF):(aK b l).length<=l.length:=by
 grind [aK,mD,List.length_mergeSort]
theorem mL(b:Bool)(l:List aF):aK b (aK b l)=aK b l:=((bU b l).trans (bU b (aK b l))).eq
theorem ED{b:Bool}{l l':List aF}(h:∀x,x∈l↔x∈l'):aK b l=aK b l':=((bU b l).congr h).eq
theorem mM(b:Bool)(l m:List aF):aK b (aK b l++aK b m)=aK b (l++m):=((bU b l).both (bU b m) (bU b _)).eq
theorem EE(b:Bool)(l m:List aF):aK b (l++aK b m)=aK b (l++m):=by
 rw[<- mM b l m,<- mM b l (aK b m),mL]
theorem NY{b:Bool}{l l' m m':List aF}(h1:aK b l=aK b l')(h2:aK b m=aK b m'):aK b (l++m)=aK b (l'++m'):=by
 rw[<- mM,h1,h2,mM]
theorem G9(b:Bool)(l m:List aF):aK b (l++m)=aK b (m++l):=ED fun x=>by grind
structure nH(b:Bool)(es:List aF)(rs:List tx):Prop where
 each:∀p∈rs,aK b p.2=p.2
 all:aK b (dZ rs)=aK b es
 len:lens rs<=es.length
 nodup:(rs.map (·.1)).Nodup
def gT(out x:Name):Prop:=x=out\/∃k,k<128/\x=dw k
theorem Ha{a b:Nat}:Lib.decDigits a=Lib.decDigits b->a=b:=by
 induction a using Nat.strongRecOn generalizing b with
 |_ a ih=>
   grind [Lib.decDigits.eq_1,UInt8.toNat_ofNat',Lib.decDigits_length,List.append_inj']
theorem vZ{a b:Nat}(h:dw a=dw b):a=b:=by
 grind [dw,Ha]
theorem EF{k:Nat}(h:k<100):(Lib.decDigits k).all iY=true/\(Lib.decDigits k).length<=2:=by
 have hb:∀j,j<10->iY (UInt8.ofNat (48+j))=true:=by decide
 grind [Lib.decDigits_one,Lib.decDigits_two]
theorem Hb{k:Nat}(h:k<100):bM (dw k)=true:=by
 obtain⟨h1,h2⟩:=EF h;unfold bM dw;have hs:(ByteArray.mk ([116,46]++Lib.decDigits k).toArray).size=2+(Lib.decDigits k).length:=by
  show Array.size _=_;grind
 rw[hs];simp only[List.cons_append,List.nil_append,List.all_cons,h1,Bool.and_eq_true,decide_eq_true_eq];refine⟨⟨⟨af,af,trivial⟩,ae⟩,ae⟩
end
section
open Go.RowKit Go.Maps
def lq(v:Value)(w w':World)(v':Value):Prop:=w.grownBy w' v.ownBlock/\(v'.ownBlock=v.ownBlock\/v'.ownBlock=some w.heap.size)
theorem dO{P:Program}{w:World}{ops:Array Oper}{rest:List Oper}{op:Oper}{a:Act}{Q:Exit->Act->World->Prop}(hgd:op.guard=none)(s x:Operand)(t:TypeId)(ho:op.op=.call { callee:=.builtin .append,args:=#[s,x],argTypes:=#[t,t] })(base:Nat)(e:TypeId)(z:Value)(size bytes:Nat)(ht:P.underlying t=some (.slice e))(hi:(P.info? e).map (fun i=>(i.zero,i.size,i.bytes))=some (some z,size,bytes))(hzs:z.cells.size=size)(hsz:0<size)(v:Value)(n:Nat)(xs:List Value)(hs:a.eval s=v)(hown:w.ownsRow base e size v n xs)(ad:Addr)(m c:Nat)(news:List Value)(hx:a.eval x=.slice (some ad) m c)(hl:news.length=m*size)(hnews:∀j u,news[j]? = some u->w.cell? (ad.add j)=some u)(h1:∀u∈news,u.oneCell'=true)(h63:n+m<=maxLen)(hbytes:(n+m)*bytes<=140737488355328)(hbase:base<=w.heap.size)(k:∀v' w',w'.ownsRow base e size v' (n+m) (xs++news)->lq v w w' v'->wpList P ops Q rest (a.put op.dst v') w'):wpList P ops Q (op::rest) a w:=by
 obtain⟨i0,uV,hz0,hz1,hz2⟩:=info_parts hi;refine wpList_plain hgd fun K hK=>?_;obtain⟨v',w',g1,g2,g3,g4,g5⟩:=run_append_own_at (P:=P) w base t op.type e i0 z size bytes ht uV hz0 hz1 hz2 hzs hsz v n xs hown ad m c news hl hnews h1 h63 hbytes hbase;unfold Oper.wp execOp;simp only[ho,resolve,invoke,builtin,Sem.run_bind,Sem.run_pure,Result.andThen_ok,List.map_toArray,List.map_cons,List.map_nil,hs,hx,g1];exact hK _ _ (k v' w' g2 ⟨g3,g5⟩)
section
variable {w:World} {ops:Array Oper} {rest:List Oper} {op:Oper} {a:Act} {Q:Exit->Act->World->Prop}
theorem cR(hgd:op.guard=none)(s x:Operand)(ho:op.op=.call { callee:=.builtin .append,args:=#[s,x],argTypes:=#[22,22] })(base:Nat)(v:Value)(l:List aF)(hs:a.eval s=v)(hown:aI w base v l)(y:aF)(c:Nat)(hx:a.eval x=.slice (some ⟨w.heap.size,0,none⟩) 1 c)(hl:l.length<=100000)(hbase:base<=w.heap.size)(k:∀v' w',aI w' base v' (l++[y])->lq v (w.alloc (.cells #[.int .u32 (y.t.toNat:Int),.int .u32 (y.h.toNat:Int),.int .u64 (y.x.toNat:Int),.int .u32 (y.m.toNat:Int)] 64)) w' v'->wpList prog ops Q rest (a.put op.dst v') w') :
 wpList prog ops Q (op::rest) a (w.alloc (.cells #[.int .u32 (y.t.toNat:Int),.int .u32 (y.h.toNat:Int),.int .u64 (y.x.toNat:Int),.int .u32 (y.m.toNat:Int)] 64)):=by
 refine dO hgd s x 22 ho base 64 _ 4 24 Tryz.underlying22 rB rfl af v l.length (dE l) hs (World.ownsRow.alloc hown _) ⟨w.heap.size,0,none⟩ 1 c y.cells hx rfl (fun j u hj=>?_) (by simp[Value.oneCell']) (by grind [maxLen]) ae (by simp;omega) (fun v' w' h1 h2=>k v' w' ?_ h2)
 ·rw[bG,Nat.zero_add];simp_all
 ·unfold aI;rw[nC,List.length_append];exact h1
theorem uw(hgd:op.guard=none)(s x:Operand)(ho:op.op=.call { callee:=.builtin .append,args:=#[s,x],argTypes:=#[91,91] })(base:Nat)(v:Value)(l:List Name)(hs:a.eval s=v)(hown:w.ownsRow base 9 1 v l.length (l.map Value.string))(y:Name)(c:Nat)(hx:a.eval x=.slice (some ⟨w.heap.size,0,none⟩) 1 c)(hl:l.length<=100000)(hbase:base<=w.heap.size)(k:∀v' w',w'.ownsRow base 9 1 v' (l++[y]).length ((l++[y]).map Value.string)->lq v (w.alloc (.cells #[.string y] 9)) w' v'->wpList prog ops Q rest (a.put op.dst v') w') :
 wpList prog ops Q (op::rest) a (w.alloc (.cells #[.string y] 9)):=by
 refine dO hgd s x 91 ho base 9 _ 1 16 Tryz.underlying91 xN rfl af v l.length (l.map Value.string) hs (World.ownsRow.alloc hown _) ⟨w.heap.size,0,none⟩ 1 c [.string y] hx rfl (fun j u hj=>?_) (by simp[Value.oneCell']) (by grind [maxLen]) ae (by simp;omega) (fun v' w' h1 h2=>k v' w' ?_ h2)
 ·rw[bG,Nat.zero_add];simp_all
 grind
end
section
variable {S:Nat->Prop} {n pb db:Nat} {w W w':World} {o o':ar} {d d':Dsk} {L':aC} {v v':Value}
theorem lq.moved{ob:Obj}(ha:lq v (W.alloc ob) w' v')(hm:aw S n pb db w o d W o' d' L')(hv:∀x,v.ownBlock=some x->o' x=none/\w.heap.size<=x) :
 aw S n pb db w o d w' o' d' L'/\(∀x,v'.ownBlock=some x->o' x=none/\w.heap.size<=x)/\(∀x,x<W.heap.size->v.ownBlock≠some x->w'.heap[x]? = W.heap[x]?)/\W.heap.size<=w'.heap.size:=by
 obtain⟨hg,hb⟩:=ha;have hs:W.heap.size<(W.alloc ob).heap.size:=by simp
 refine⟨(hm.alloc ob).grown hg (fun k hk=>⟨(hv k hk).1,.inr (hv k hk).2⟩),fun x hx=>?_,fun x hx hne=>?_,Nat.le_trans (Nat.le_of_lt hs) hg.size⟩
 ·rcases hb with e | e
  ·grind
  ·rw[e]at hx;cases hx;exact⟨hm.aX.fresh (Nat.le_of_lt hs),Nat.le_trans hm.size (Nat.le_of_lt hs)⟩
 grind [World.grownBy.block,MapKept.heap_alloc]
theorem bI{base:Nat}{e:TypeId}{size:Nat}{k:Nat}{xs:List Value}(hr:W.ownsRow base e size v k xs)(hb:∀x,v.ownBlock=some x->w'.heap[x]? = W.heap[x]?):w'.ownsRow base e size v k xs:=by
 obtain⟨hl,hr⟩:=hr;refine⟨hl,?_⟩;rcases hr with hr |⟨g,cap,cur,hv,hg,hh,r⟩
 ·grind
 ·exact .inr ⟨g,cap,cur,hv,hg,(hb g (by rw[hv];rfl)).trans hh,r⟩
theorem j8{base base':Nat}{e e':TypeId}{size size' k k':Nat}{xs xs':List Value}(h:W.ownsRow base e size v k xs)(h':W.ownsRow base' e' size' v' k' xs')(hne:e≠e'):∀x,v.ownBlock=some x->v'.ownBlock≠some x:=by
 intro x hx T4;obtain⟨_,⟨h1,_⟩|⟨g,cap,cur,h1,_,h2,_⟩⟩:=h
 ·rw[h1]at hx;cases hx
 ·obtain⟨_,⟨g1,_⟩|⟨g',cap',cur',g1,_,g2,_⟩⟩:=h'
  ·rw[g1]at T4;cases T4
  ·rw[h1]at hx;rw[g1]at T4;cases hx;cases T4;grind
end
end
end Go.Proofs.YthkkgdpomhhjjaaGreatDoor
