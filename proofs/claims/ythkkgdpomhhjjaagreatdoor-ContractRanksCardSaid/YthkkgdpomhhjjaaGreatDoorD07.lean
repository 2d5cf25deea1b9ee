/-
  Joined.
-/
import Derived.Test.YthkkgdpomhhjjaaGreatDoorD06
import Derived.Deep.CutBlock
import Derived.Sort.WalkC
import Derived.Sort.WalkA6
import Derived.Sort.AssemblyPlain
import Derived.Sort.Walk13a
set_option maxRecDepth 100000
set_option maxHeartbeats 32000000
namespace Go.Proofs.YthkkgdpomhhjjaaGreatDoor
open Go.Proofs.Tryz
section
open Go.RowKit Go.Maps Go.Sort
section
variable {bt:Bool} {w0 W W':World} {jb pb bf made base g cap:Nat} {d:Array aJ}
def Rw(bt:Bool)(w0:World)(jb pb bf made base g cap:Nat)(r:Nat×Bool×Array aJ)(e:Ending)(w':World):Prop:=
 e=.returned (.tuple #[.int .i64 (r.1:Int),.bool r.2.1])/\fA bt w0 jb pb bf made base g cap r.2.2 w'
theorem sZ{p q:aJ->Bool}{d:Array aJ}{i j u v:Nat}(hq:∀x,q x=!p x)(hu:u=scanUp p d j i)(hv:v=scanDown q d u j)(h0:0<v):u≠v:=by
 intro e;have h1:=(scanUp_spec p d j _ i rfl).2.2.2;have h2:=(scanDown_spec q d u j).2.2.2;rw[<- hu]at h1;rw[<- hv]at h2;have h3:=(scanDown_spec q d u j).1;rw[<- hv]at h3;have k1:=h1 ae;have k2:=h2 ae h0;rw[hq,<- e,k1]at k2;cases k2
theorem qJ{p q:aJ->Bool}{d:Array aJ}{i j u v:Nat}(fg:i<=j+1)(hu:u=scanUp p d j i)(hv:v=scanDown q d u j):i<=u/\u<=j+1/\v<=j/\u<=v+1:=by
 have h1:=scanUp_spec p d j _ i rfl;rw[<- hu]at h1;have h2:=scanDown_spec q d u j;rw[<- hv]at h2;exact⟨h1.1,h1.2.1 fg,h2.1,h2.2.1 (h1.2.1 fg)⟩
theorem s5{p:aJ->Bool}{d:Array aJ}{i j u:Nat}(fg:i<=j+1)(hu:u=scanUp p d j i):i<=u/\u<=j+1:=by
 have h1:=scanUp_spec p d j _ i rfl;rw[<- hu]at h1;exact⟨h1.1,h1.2.1 fg⟩
theorem Ct{lt:aJ->aJ->Bool}{a i j u v:Nat}{d:Array aJ}(hu:u=scanUp (fun x=>lt x d[a]!) d j i)(hv:v=scanDown (fun x=>!lt x d[a]!) d u j) :
 partLoop lt a i j d=if u>v then (v,d) else partLoop lt a (u+1) (v-1) (swp d u v):=by
 subst hu;subst hv;exact partLoop_eq lt a i j d
theorem qK{lt:aJ->aJ->Bool}{a b pv u v:Nat}{d D:Array aJ}{r:Nat×Array aJ}(hD:D=swp d a pv)(hu:u=scanUp (fun x=>lt x D[a]!) D (b-1) (a+1))(hv:v=scanDown (fun x=>!lt x D[a]!) D u (b-1))(hr:¬u>v->r=partLoop lt a (u+1) (v-1) (swp D u v)) :
 partition lt d a b pv=if u>v then (v,true,swp D v a) else (r.1,false,swp r.2 r.1 a):=by
 subst hD;subst hu;subst hv;unfold partition;dsimp only;split
 ·rfl
 ·rename_i h
  rw[hr h]
theorem Cu(h:fA bt w0 jb pb bf made base g cap d W)(a b pv:Nat)(hap:a<=pv)(Nx:pv<b)(hb:b<=d.size)(hsz:d.size<=1000000) :
 Calls prog 312 #[.slice (some ⟨g,0,none⟩) d.size cap,.int .i64 (a:Int),.int .i64 (b:Int),.int .i64 (pv:Int),cN jb] W (Rw bt w0 jb pb bf made base g cap (partition (ltOf (aR bt)) d a b pv)):=by
 have H:=aa h;obtain⟨N,hN⟩:∃N,N=d.size:=⟨_,rfl⟩;rw[<- hN]at hb hsz ⊢;have HN:=aa hN;clear h hN;obtain⟨J0,hJ0⟩:∃J0,J0=b-1:=⟨_,rfl⟩;have wJ0:IntKind.i64.wrap ((b:Int)-1)=(J0:Int):=by rw[ax]<;>omega
 have wI0:IntKind.i64.wrap ((a:Int)+1)=((a+1:Nat):Int):=by rw[ax]<;>omega
 have ba:(a:Int)<(N:Int):=by omega
 have bp:(pv:Int)<(N:Int):=by omega
 have HB:Hid (a<d.size/\pv<d.size/\J0<N/\a<=J0/\N<=1000000/\J0=b-1/\d.size=N):=aa (by have:=HN.o;omega);clear hJ0 hap Nx hb hsz;unfold cN ptrTo;go_enter func312,ntmps312;go_upto_region 1 with fail
 go_cut [] from 14 to 27 (fun wx=>fA bt w0 jb pb bf made base g cap (swp d a pv) wx)
 case first=>
  obtain⟨x,hx⟩:∃x,d[a]! = x:=⟨_,rfl⟩;have oY:Hid (a<d.size/\pv<d.size):=aa (by have:=HB.o;omega);by_cases heq:a=pv
  ·subst heq;obtain⟨pp,mz,⟨x0,x1,x2,x3⟩,dS,hdone⟩:=H.o.ir (i:=a) oY.o.1 hx;have HD:=aa hdone;clear hdone;go_big_region
   all_goals
    clear x0 x1 x2 x3 dS;go_wp2;go_meet
    exact HD.o
  ·obtain⟨y,hy⟩:∃y,d[pv]! = y:=⟨_,rfl⟩;obtain⟨pp,qq,hex⟩:=H.o.ll (i:=a) (j:=pv) oY.o.1 oY.o.2 hx hy;have pB:=aa hex;obtain⟨mz,EG,x0,x1,x2,x3,y0,y1,y2,y3,dS,jt,-⟩:=hex;obtain⟨n0,n1,n2,n3,n4,n5,n6⟩:=jt heq;clear jt;go_big_region
   all_goals
    clear x0 x1 x2 x3 y0 y1 y2 y3 n0 n1 n2 n3 n4 n5 n6 dS;go_wp2;go_meet
    exact pB.o.done
 case rest=>
  have iY:=aa hcut;clear hcut;obtain⟨D1,N2⟩:∃D1,D1=swp d a pv:=⟨_,rfl⟩;rw[<- N2]at iY;have hs1:D1.size=N:=by rw[N2,size_swp];exact HN.o.symm
  have uZ:=aa N2;have kJ:Hid (a<D1.size/\J0<D1.size/\D1.size=N/\a+1<=J0+1/\N<=1000000):=aa (by have:=HB.o;omega);clear N2 hs1;go_upto_block 0 with fail
  go_cut [12] from 32 to 49 (fun vi wx=>∃i:Nat,vi=.int .i64 (i:Int)/\fA bt w0 jb pb bf made base g cap D1 wx/\Hid (i=scanUp (fun x=>ltOf (aR bt) x D1[a]!) D1 J0 (a+1)))
  case first=>
   go_wp2_with fail;go_loopw [12] (fun vi wr=>∃i:Nat,vi=.int .i64 (i:Int)/\(a+1)<=i/\i<=J0+1/\fA bt w0 jb pb bf made base g cap D1 wr/\Hid (scanUp (fun x=>ltOf (aR bt) x D1[a]!) D1 J0 i=scanUp (fun x=>ltOf (aR bt) x D1[a]!) D1 J0 (a+1))) (fun vi _=>J0+1-(intOf vi).toNat)
   case atStart=>exact⟨(a+1),rfl,by have:=kJ.o;omega,by have:=kJ.o;omega,iY.o,rfl⟩
   case round=>
    obtain⟨i,rfl,hb1,hb2,hs,HO⟩:=hrel;generalize wr=Wr at *;have HS:=aa hs;clear hs;by_cases fg:i<=J0
    ·have qI:(i:Int)<=(J0:Int):=by omega
     have bi:(i:Int)<(N:Int):=by have:=kJ.o;omega
     have Xr:IntKind.i64.wrap ((i:Int)+1)=((i+1:Nat):Int):=by
      have:=kJ.o;have:=HB.o
      rw[ax]<;>omega
     obtain⟨x,hx⟩:∃x,D1[i]! = x:=⟨_,rfl⟩;obtain⟨y,hy⟩:∃y,D1[a]! = y:=⟨_,rfl⟩;have F:=aa (HS.o.reads (i:=i) (j:=a) (by have:=kJ.o;omega) (by have:=kJ.o;omega) hx hy);by_cases hl:aR bt x y<0
     ·go_wp2_with fail;refine wq Wr ?_;iterate 8 (refine qz ?_)
      refine qz ?_ (fun w' hw'=>by obtain⟨⟨c0,c1,c2,c3⟩,-,-⟩:=F.o w' hw';go_simp<;>rfl);iterate 3 (refine qz ?_)
      refine qz ?_ (fun w' hw'=>by obtain⟨-,⟨c0,c1,c2,c3⟩,-⟩:=F.o w' hw';go_simp<;>rfl);refine qw (fun w' hw'=>(F.o w' hw').2.2) ?_;iterate 2 (refine qz ?_)
      refine wpQuiet_nil ?_;intro w5 fL;have b9:=aa (HS.o.below fL);clear fL;go_wp2;refine⟨⟨(i+1),rfl,ae,ae,b9.o,?_⟩,by simp[intOf];omega⟩;show scanUp (fun x=>ltOf (aR bt) x D1[a]!) D1 J0 (i+1)=_;rw[<- HO.out];exact(scanUp_go _ _ _ _ fg (by have e:ltOf (aR bt) x y=true:=decide_eq_true hl;show ltOf (aR bt) D1[i]! D1[a]! = _;rw[hx,hy,e])).symm
     ·have s6:decide (aR bt x y<0)=false:=decide_eq_false hl;go_wp2_with fail;refine wq Wr ?_;iterate 8 (refine qz ?_)
      refine qz ?_ (fun w' hw'=>by obtain⟨⟨c0,c1,c2,c3⟩,-,-⟩:=F.o w' hw';go_simp<;>rfl);iterate 3 (refine qz ?_)
      refine qz ?_ (fun w' hw'=>by obtain⟨-,⟨c0,c1,c2,c3⟩,-⟩:=F.o w' hw';go_simp<;>rfl);refine qw (fun w' hw'=>(F.o w' hw').2.2) ?_;iterate 2 (refine qz ?_)
      refine wpQuiet_nil ?_;intro w5 fL;have b9:=aa (HS.o.below fL);clear fL;go_wp2;go_meet
      exact⟨i,rfl,b9.o,aa (by rw[<- HO.out];exact(scanUp_end _ _ _ _ (.inr (by have e:ltOf (aR bt) x y=false:=decide_eq_false ae;show ltOf (aR bt) D1[i]! D1[a]! = _;rw[hx,hy,e]))).symm)⟩
    ·have qI:¬((i:Int)<=(J0:Int)):=by omega
     go_wp2_with fail;go_quiet (fail)
     have vt:RowKit.Below Wr.heap.size Wr (Wr.drewN nq):=⟨rfl,rfl,rfl,Nat.le_refl _,fun _ _=>rfl⟩;have b9:=aa (HS.o.below vt);clear vt;go_wp2;go_meet
     exact⟨i,rfl,b9.o,aa (by rw[<- HO.out];exact(scanUp_end _ _ _ _ (.inl fg)).symm)⟩
  case rest=>
   obtain⟨i1,rfl,ade,rX⟩:=hcut;have aii:=aa ade;have Rx:=aa rX.out;clear ade rX;have hbi:=s5 (show a+1<=J0+1 by have:=kJ.o;omega) Rx.o;have mE:Hid (a<D1.size/\J0<D1.size/\D1.size=N/\i1<=J0+1/\1<=i1/\a<i1/\N<=1000000):=aa (by have:=kJ.o;omega);clear hbi;go_upto_block 2 with fail
   go_cut [13] from 50 to 68 (fun vi wx=>∃j:Nat,vi=.int .i64 (j:Int)/\fA bt w0 jb pb bf made base g cap D1 wx/\Hid (j=scanDown (fun x=>!ltOf (aR bt) x D1[a]!) D1 i1 J0))
   case first=>
    go_wp2_with fail;go_loopw [13] (fun vi wr=>∃j:Nat,vi=.int .i64 (j:Int)/\j<=J0/\i1<=j+1/\fA bt w0 jb pb bf made base g cap D1 wr/\Hid (scanDown (fun x=>!ltOf (aR bt) x D1[a]!) D1 i1 j=scanDown (fun x=>!ltOf (aR bt) x D1[a]!) D1 i1 J0)) (fun vi _=>(intOf vi).toNat)
    case atStart=>exact⟨J0,rfl,by have:=mE.o;omega,by have:=mE.o;omega,aii.o,rfl⟩
    case round=>
     obtain⟨j,rfl,hb1,hb2,hs,HO⟩:=hrel;generalize wr=Wr at *;have HS:=aa hs;clear hs;by_cases fg:i1<=j
     ·obtain⟨j',hj'⟩:∃j',j'=j-1:=⟨_,rfl⟩;have qI:(i1:Int)<=(j:Int):=by omega
      have bi:(j:Int)<(N:Int):=by have:=mE.o;omega
      have Xr:IntKind.i64.wrap ((j:Int)-1)=(j':Int):=by
       have:=mE.o;have:=HB.o
       rw[ax]<;>omega
      have HJ:Hid (j'=j-1/\1<=j):=aa (by have:=mE.o;omega);have Kr:1<=j:=by have:=mE.o;omega
      clear hj';obtain⟨x,hx⟩:∃x,D1[j]! = x:=⟨_,rfl⟩;obtain⟨y,hy⟩:∃y,D1[a]! = y:=⟨_,rfl⟩;have F:=aa (HS.o.reads (i:=j) (j:=a) (by have:=mE.o;omega) (by have:=mE.o;omega) hx hy);by_cases hl:aR bt x y<0
      ·go_wp2_with fail;refine wq Wr ?_;iterate 8 (refine qz ?_)
       refine qz ?_ (fun w' hw'=>by obtain⟨⟨c0,c1,c2,c3⟩,-,-⟩:=F.o w' hw';go_simp<;>rfl);iterate 3 (refine qz ?_)
       refine qz ?_ (fun w' hw'=>by obtain⟨-,⟨c0,c1,c2,c3⟩,-⟩:=F.o w' hw';go_simp<;>rfl);refine qw (fun w' hw'=>(F.o w' hw').2.2) ?_;iterate 3 (refine qz ?_)
       refine wpQuiet_nil ?_;intro w5 fL;have b9:=aa (HS.o.below fL);clear fL;go_wp2;go_meet
       exact⟨j,rfl,b9.o,aa (by rw[<- HO.out];exact(scanDown_end _ _ _ _ (.inr (by have e:ltOf (aR bt) x y=true:=decide_eq_true hl;show(!ltOf (aR bt) D1[j]! D1[a]!)=_;rw[hx,hy,e];rfl))).symm)⟩
      ·have s6:decide (aR bt x y<0)=false:=decide_eq_false hl;go_wp2_with fail;refine wq Wr ?_;iterate 8 (refine qz ?_)
       refine qz ?_ (fun w' hw'=>by obtain⟨⟨c0,c1,c2,c3⟩,-,-⟩:=F.o w' hw';go_simp<;>rfl);iterate 3 (refine qz ?_)
       refine qz ?_ (fun w' hw'=>by obtain⟨-,⟨c0,c1,c2,c3⟩,-⟩:=F.o w' hw';go_simp<;>rfl);refine qw (fun w' hw'=>(F.o w' hw').2.2) ?_;iterate 3 (refine qz ?_)
       refine wpQuiet_nil ?_;intro w5 fL;have b9:=aa (HS.o.below fL);clear fL;go_wp2;obtain⟨hjj,hjq⟩:=HJ.o;refine⟨⟨j',rfl,ae,ae,b9.o,?_⟩,by simp[intOf];omega⟩;show scanDown (fun x=>!ltOf (aR bt) x D1[a]!) D1 i1 j'=_;rw[<- HO.out,show j'=j-1 by omega];exact(scanDown_go _ _ _ _ fg ae (by have e:ltOf (aR bt) x y=false:=decide_eq_false ae;show(!ltOf (aR bt) D1[j]! D1[a]!)=_;rw[hx,hy,e];rfl)).symm
     ·have qI:¬((i1:Int)<=(j:Int)):=by omega
      go_wp2_with fail;go_quiet (fail)
      have vt:RowKit.Below Wr.heap.size Wr (Wr.drewN nq):=⟨rfl,rfl,rfl,Nat.le_refl _,fun _ _=>rfl⟩;have b9:=aa (HS.o.below vt);clear vt;go_wp2;go_meet
      exact⟨j,rfl,b9.o,aa (by rw[<- HO.out];exact(scanDown_end _ _ _ _ (.inl fg)).symm)⟩
   case rest=>
    obtain⟨j1,rfl,adf,Kr⟩:=hcut;have Ve:=aa adf;have Vf:=aa Kr.out;clear adf Kr;have hbj:=qJ (show a+1<=J0+1 by have:=kJ.o;omega) Rx.o Vf.o;have aij:0<j1->i1≠j1:=sZ (fun _=>rfl) Rx.o Vf.o;have iu:Hid (a<D1.size/\j1<D1.size/\D1.size=N/\(i1<=j1->i1<D1.size/\i1+1<=j1)/\a<=j1/\a<i1/\i1<=j1+1/\N<=1000000):=aa (by have:=mE.o;omega);have bj1:(j1:Int)<(N:Int):=by have:=iu.o;omega
    clear hbj aij;by_cases xL:i1>j1
    ·have Ry:(i1:Int)>(j1:Int):=by omega
     go_upto_region 8 with fail
     go_cut [] from 72 to 85 (fun wx=>fA bt w0 jb pb bf made base g cap (swp D1 j1 a) wx)
     case first=>
      obtain⟨x,hx⟩:∃x,D1[j1]! = x:=⟨_,rfl⟩;have oY:Hid (j1<D1.size/\a<D1.size):=aa (by have:=iu.o;omega);by_cases heq:j1=a
      ·subst heq;obtain⟨pp,mz,⟨x0,x1,x2,x3⟩,dS,hdone⟩:=Ve.o.ir (i:=j1) oY.o.1 hx;have HD:=aa hdone;clear hdone;go_big_region
       all_goals
        clear x0 x1 x2 x3 dS;go_wp2;go_meet
        exact HD.o
      ·obtain⟨y,hy⟩:∃y,D1[a]! = y:=⟨_,rfl⟩;obtain⟨pp,qq,hex⟩:=Ve.o.ll (i:=j1) (j:=a) oY.o.1 oY.o.2 hx hy;have pB:=aa hex;obtain⟨mz,EG,x0,x1,x2,x3,y0,y1,y2,y3,dS,jt,-⟩:=hex;obtain⟨n0,n1,n2,n3,n4,n5,n6⟩:=jt heq;clear jt;go_big_region
       all_goals
        clear x0 x1 x2 x3 y0 y1 y2 y3 n0 n1 n2 n3 n4 n5 n6 dS;go_wp2;go_meet
        exact pB.o.done
     case rest=>
      have gq:=aa hcut;clear hcut;have Hg:partition (ltOf (aR bt)) d a b pv=(j1,true,swp D1 j1 a):=by
       have hJ:J0=b-1:=HB.o.2.2.2.2.2.1;rw[qK (u:=i1) (v:=j1) (r:=(0,d)) uZ.o (by rw[<- hJ];exact Rx.o) (by rw[<- hJ];exact Vf.o) (fun hn=>absurd xL hn),if_pos xL]
      have HP:=aa Hg;clear Hg;go_wp2;go_ret2;rw[HP.o];exact⟨rfl,gq.o⟩
    ·have Ry:¬(i1:Int)>(j1:Int):=by omega
     have bi1:(i1:Int)<(N:Int):=by have:=iu.o;omega
     have xY:Hid (i1<D1.size/\j1<D1.size/\i1+1<=j1):=aa (by have:=iu.o;omega);obtain⟨J2,hJ2⟩:∃J2,J2=j1-1:=⟨_,rfl⟩;have wi2:IntKind.i64.wrap ((i1:Int)+1)=((i1+1:Nat):Int):=by
      have:=iu.o;rw[ax]<;>omega
     have wj2:IntKind.i64.wrap ((j1:Int)-1)=(J2:Int):=by
      have:=iu.o;have:=xY.o
      rw[ax]<;>omega
     have Vg:Hid (J2=j1-1/\1<=j1):=aa (by have:=xY.o;omega);clear hJ2;go_upto_region 10 with fail
     go_cut [] from 87 to 100 (fun wx=>fA bt w0 jb pb bf made base g cap (swp D1 i1 j1) wx)
     case first=>
      obtain⟨x,hx⟩:∃x,D1[i1]! = x:=⟨_,rfl⟩;have oY:Hid (i1<D1.size/\j1<D1.size):=aa (by have:=xY.o;omega);by_cases heq:i1=j1
      ·subst heq;obtain⟨pp,mz,⟨x0,x1,x2,x3⟩,dS,hdone⟩:=Ve.o.ir (i:=i1) oY.o.1 hx;have HD:=aa hdone;clear hdone;go_big_region
       all_goals
        clear x0 x1 x2 x3 dS;go_wp2;go_meet
        exact HD.o
      ·obtain⟨y,hy⟩:∃y,D1[j1]! = y:=⟨_,rfl⟩;obtain⟨pp,qq,hex⟩:=Ve.o.ll (i:=i1) (j:=j1) oY.o.1 oY.o.2 hx hy;have pB:=aa hex;obtain⟨mz,EG,x0,x1,x2,x3,y0,y1,y2,y3,dS,jt,-⟩:=hex;obtain⟨n0,n1,n2,n3,n4,n5,n6⟩:=jt heq;clear jt;go_big_region
       all_goals
        clear x0 x1 x2 x3 y0 y1 y2 y3 n0 n1 n2 n3 n4 n5 n6 dS;go_wp2;go_meet
        exact pB.o.done
     case rest=>
      have b9:=aa hcut;clear hcut;obtain⟨D2,Ue⟩:∃D2,D2=swp D1 i1 j1:=⟨_,rfl⟩;rw[<- Ue]at b9;have hs2:D2.size=N:=by rw[Ue,size_swp];exact iu.o.2.2.1
      obtain⟨r,hr⟩:∃r,r=partLoop (ltOf (aR bt)) a (i1+1) J2 D2:=⟨_,rfl⟩;have Hg:partition (ltOf (aR bt)) d a b pv=(r.1,false,swp r.2 r.1 a):=by
       have hJ:J0=b-1:=HB.o.2.2.2.2.2.1;rw[qK (u:=i1) (v:=j1) (r:=r) uZ.o (by rw[<- hJ];exact Rx.o) (by rw[<- hJ];exact Vf.o) (fun _=>by rw[hr,Ue,Vg.o.1]),if_neg xL]
      have HP:=aa Hg;have aik:=aa hs2;have HR:=aa hr;clear Hg hs2 hr Ue;go_wp2_with fail;go_loopw [12,13] (fun vi vj wr=>∃(i3 j3:Nat)(dk:Array aJ),vi=.int .i64 (i3:Int)/\vj=.int .i64 (j3:Int)/\a<i3/\i3<=j3+1/\j3<N/\dk.size=N/\fA bt w0 jb pb bf made base g cap dk wr/\Hid (partLoop (ltOf (aR bt)) a i3 j3 dk=r)) (fun vi vj _=>(intOf vj).toNat+1-(intOf vi).toNat)
      case atStart=>exact⟨i1+1,J2,D2,rfl,rfl,by have:=iu.o;omega,by have:=xY.o;have:=Vg.o;omega,by have:=iu.o;have:=Vg.o;omega,aik.o,b9.o,HR.o.symm⟩
      case round=>
       obtain⟨i3,j3,dk,rfl,rfl,Xs,Rz,PQ,hsk,hs3,mG⟩:=hrel;generalize wr=Wr3 at *;have gA:=aa hs3;have rD:Hid (a<dk.size/\j3<dk.size/\dk.size=N/\i3<=j3+1/\a<i3/\N<=1000000):=aa (by have:=iu.o;omega);clear hs3 hsk;go_upto_block 6 with fail
       go_cut [12] from 105 to 122 (fun vi wx=>∃i:Nat,vi=.int .i64 (i:Int)/\fA bt w0 jb pb bf made base g cap dk wx/\Hid (i=scanUp (fun x=>ltOf (aR bt) x dk[a]!) dk j3 i3))
       case first=>
        go_wp2_with fail;go_loopw [12] (fun vi wr=>∃i:Nat,vi=.int .i64 (i:Int)/\i3<=i/\i<=j3+1/\fA bt w0 jb pb bf made base g cap dk wr/\Hid (scanUp (fun x=>ltOf (aR bt) x dk[a]!) dk j3 i=scanUp (fun x=>ltOf (aR bt) x dk[a]!) dk j3 i3)) (fun vi _=>j3+1-(intOf vi).toNat)
        case atStart=>exact⟨i3,rfl,by have:=rD.o;omega,by have:=rD.o;omega,gA.o,rfl⟩
        case round=>
         obtain⟨i,rfl,hb1,hb2,hs,HO⟩:=hrel;generalize wr=Wr at *;have HS:=aa hs;clear hs;by_cases fg:i<=j3
         ·have qI:(i:Int)<=(j3:Int):=by omega
          have bi:(i:Int)<(N:Int):=by have:=rD.o;omega
          have Xr:IntKind.i64.wrap ((i:Int)+1)=((i+1:Nat):Int):=by
           have:=rD.o;have:=HB.o
           rw[ax]<;>omega
          obtain⟨x,hx⟩:∃x,dk[i]! = x:=⟨_,rfl⟩;obtain⟨y,hy⟩:∃y,dk[a]! = y:=⟨_,rfl⟩;have F:=aa (HS.o.reads (i:=i) (j:=a) (by have:=rD.o;omega) (by have:=rD.o;omega) hx hy);by_cases hl:aR bt x y<0
          ·go_wp2_with fail;refine wq Wr ?_;iterate 8 (refine qz ?_)
           refine qz ?_ (fun w' hw'=>by obtain⟨⟨c0,c1,c2,c3⟩,-,-⟩:=F.o w' hw';go_simp<;>rfl);iterate 3 (refine qz ?_)
           refine qz ?_ (fun w' hw'=>by obtain⟨-,⟨c0,c1,c2,c3⟩,-⟩:=F.o w' hw';go_simp<;>rfl);refine qw (fun w' hw'=>(F.o w' hw').2.2) ?_;iterate 2 (refine qz ?_)
           refine wpQuiet_nil ?_;intro w5 fL;have b9:=aa (HS.o.below fL);clear fL;go_wp2;refine⟨⟨(i+1),rfl,ae,ae,b9.o,?_⟩,by simp[intOf];omega⟩;show scanUp (fun x=>ltOf (aR bt) x dk[a]!) dk j3 (i+1)=_;rw[<- HO.out];exact(scanUp_go _ _ _ _ fg (by have e:ltOf (aR bt) x y=true:=decide_eq_true hl;show ltOf (aR bt) dk[i]! dk[a]! = _;rw[hx,hy,e])).symm
          ·have s6:decide (aR bt x y<0)=false:=decide_eq_false hl;go_wp2_with fail;refine wq Wr ?_;iterate 8 (refine qz ?_)
           refine qz ?_ (fun w' hw'=>by obtain⟨⟨c0,c1,c2,c3⟩,-,-⟩:=F.o w' hw';go_simp<;>rfl);iterate 3 (refine qz ?_)
           refine qz ?_ (fun w' hw'=>by obtain⟨-,⟨c0,c1,c2,c3⟩,-⟩:=F.o w' hw';go_simp<;>rfl);refine qw (fun w' hw'=>(F.o w' hw').2.2) ?_;iterate 2 (refine qz ?_)
           refine wpQuiet_nil ?_;intro w5 fL;have b9:=aa (HS.o.below fL);clear fL;go_wp2;go_meet
           exact⟨i,rfl,b9.o,aa (by rw[<- HO.out];exact(scanUp_end _ _ _ _ (.inr (by have e:ltOf (aR bt) x y=false:=decide_eq_false ae;show ltOf (aR bt) dk[i]! dk[a]! = _;rw[hx,hy,e]))).symm)⟩
         ·have qI:¬((i:Int)<=(j3:Int)):=by omega
          go_wp2_with fail;go_quiet (fail)
          have vt:RowKit.Below Wr.heap.size Wr (Wr.drewN nq):=⟨rfl,rfl,rfl,Nat.le_refl _,fun _ _=>rfl⟩;have b9:=aa (HS.o.below vt);clear vt;go_wp2;go_meet
          exact⟨i,rfl,b9.o,aa (by rw[<- HO.out];exact(scanUp_end _ _ _ _ (.inl fg)).symm)⟩
       case rest=>
        obtain⟨i4,rfl,RA,xG⟩:=hcut;have Zm:=aa RA;have EK:=aa xG.out;clear RA xG;have Zn:=s5 (show i3<=j3+1 by have:=rD.o;omega) EK.o;have nS:Hid (a<dk.size/\j3<dk.size/\dk.size=N/\i4<=j3+1/\1<=i4/\a<i4/\i3<=i4/\N<=1000000):=aa (by have:=rD.o;omega);clear Zn;go_upto_block 8 with fail
        go_cut [13] from 123 to 141 (fun vi wx=>∃j:Nat,vi=.int .i64 (j:Int)/\fA bt w0 jb pb bf made base g cap dk wx/\Hid (j=scanDown (fun x=>!ltOf (aR bt) x dk[a]!) dk i4 j3))
        case first=>
         go_wp2_with fail;go_loopw [13] (fun vi wr=>∃j:Nat,vi=.int .i64 (j:Int)/\j<=j3/\i4<=j+1/\fA bt w0 jb pb bf made base g cap dk wr/\Hid (scanDown (fun x=>!ltOf (aR bt) x dk[a]!) dk i4 j=scanDown (fun x=>!ltOf (aR bt) x dk[a]!) dk i4 j3)) (fun vi _=>(intOf vi).toNat)
         case atStart=>exact⟨j3,rfl,by have:=nS.o;omega,by have:=nS.o;omega,Zm.o,rfl⟩
         case round=>
          obtain⟨j,rfl,hb1,hb2,hs,HO⟩:=hrel;generalize wr=Wr at *;have HS:=aa hs;clear hs;by_cases fg:i4<=j
          ·obtain⟨j',hj'⟩:∃j',j'=j-1:=⟨_,rfl⟩;have qI:(i4:Int)<=(j:Int):=by omega
           have bi:(j:Int)<(N:Int):=by have:=nS.o;omega
           have Xr:IntKind.i64.wrap ((j:Int)-1)=(j':Int):=by
            have:=nS.o;have:=HB.o
            rw[ax]<;>omega
           have HJ:Hid (j'=j-1/\1<=j):=aa (by have:=nS.o;omega);have Kr:1<=j:=by have:=nS.o;omega
           clear hj';obtain⟨x,hx⟩:∃x,dk[j]! = x:=⟨_,rfl⟩;obtain⟨y,hy⟩:∃y,dk[a]! = y:=⟨_,rfl⟩;have F:=aa (HS.o.reads (i:=j) (j:=a) (by have:=nS.o;omega) (by have:=nS.o;omega) hx hy);by_cases hl:aR bt x y<0
           ·go_wp2_with fail;refine wq Wr ?_;iterate 8 (refine qz ?_)
            refine qz ?_ (fun w' hw'=>by obtain⟨⟨c0,c1,c2,c3⟩,-,-⟩:=F.o w' hw';go_simp<;>rfl);iterate 3 (refine qz ?_)
            refine qz ?_ (fun w' hw'=>by obtain⟨-,⟨c0,c1,c2,c3⟩,-⟩:=F.o w' hw';go_simp<;>rfl);refine qw (fun w' hw'=>(F.o w' hw').2.2) ?_;iterate 3 (refine qz ?_)
            refine wpQuiet_nil ?_;intro w5 fL;have b9:=aa (HS.o.below fL);clear fL;go_wp2;go_meet
            exact⟨j,rfl,b9.o,aa (by rw[<- HO.out];exact(scanDown_end _ _ _ _ (.inr (by have e:ltOf (aR bt) x y=true:=decide_eq_true hl;show(!ltOf (aR bt) dk[j]! dk[a]!)=_;rw[hx,hy,e];rfl))).symm)⟩
           ·have s6:decide (aR bt x y<0)=false:=decide_eq_false hl;go_wp2_with fail;refine wq Wr ?_;iterate 8 (refine qz ?_)
            refine qz ?_ (fun w' hw'=>by obtain⟨⟨c0,c1,c2,c3⟩,-,-⟩:=F.o w' hw';go_simp<;>rfl);iterate 3 (refine qz ?_)
            refine qz ?_ (fun w' hw'=>by obtain⟨-,⟨c0,c1,c2,c3⟩,-⟩:=F.o w' hw';go_simp<;>rfl);refine qw (fun w' hw'=>(F.o w' hw').2.2) ?_;iterate 3 (refine qz ?_)
            refine wpQuiet_nil ?_;intro w5 fL;have b9:=aa (HS.o.below fL);clear fL;go_wp2;obtain⟨hjj,hjq⟩:=HJ.o;refine⟨⟨j',rfl,ae,ae,b9.o,?_⟩,by simp[intOf];omega⟩;show scanDown (fun x=>!ltOf (aR bt) x dk[a]!) dk i4 j'=_;rw[<- HO.out,show j'=j-1 by omega];exact(scanDown_go _ _ _ _ fg ae (by have e:ltOf (aR bt) x y=false:=decide_eq_false ae;show(!ltOf (aR bt) dk[j]! dk[a]!)=_;rw[hx,hy,e];rfl)).symm
          ·have qI:¬((i4:Int)<=(j:Int)):=by omega
           go_wp2_with fail;go_quiet (fail)
           have vt:RowKit.Below Wr.heap.size Wr (Wr.drewN nq):=⟨rfl,rfl,rfl,Nat.le_refl _,fun _ _=>rfl⟩;have b9:=aa (HS.o.below vt);clear vt;go_wp2;go_meet
           exact⟨j,rfl,b9.o,aa (by rw[<- HO.out];exact(scanDown_end _ _ _ _ (.inl fg)).symm)⟩
        case rest=>
         obtain⟨j4,rfl,RB,RD⟩:=hcut;have Hi:=aa RB;have Kz:=aa RD.out;clear RB RD;have Zo:=qJ (show i3<=j3+1 by have:=rD.o;omega) EK.o Kz.o;have Zp:0<j4->i4≠j4:=sZ (fun _=>rfl) EK.o Kz.o;have lq:Hid (a<dk.size/\j4<dk.size/\dk.size=N/\(i4<=j4->i4<dk.size/\i4+1<=j4)/\a<=j4/\a<i4/\i4<=j4+1/\i3<=i4/\j4<=j3/\N<=1000000):=aa (by have:=nS.o;omega);have bj4:(j4:Int)<(N:Int):=by have:=lq.o;omega
         have hstep:=Ct EK.o Kz.o;clear Zo Zp;by_cases RF:i4>j4
         ·have Ry:(i4:Int)>(j4:Int):=by omega
          rw[if_pos RF,mG.out]at hstep;have HST:=aa hstep;clear hstep;go_upto_region 21 with fail
          go_cut [] from 163 to 176 (fun wx=>fA bt w0 jb pb bf made base g cap (swp dk j4 a) wx)
          case first=>
           obtain⟨x,hx⟩:∃x,dk[j4]! = x:=⟨_,rfl⟩;have oY:Hid (j4<dk.size/\a<dk.size):=aa (by have:=lq.o;omega);by_cases heq:j4=a
           ·subst heq;obtain⟨pp,mz,⟨x0,x1,x2,x3⟩,dS,hdone⟩:=Hi.o.ir (i:=j4) oY.o.1 hx;have HD:=aa hdone;clear hdone;go_big_region
            all_goals
             clear x0 x1 x2 x3 dS;go_wp2;go_meet
             exact HD.o
           ·obtain⟨y,hy⟩:∃y,dk[a]! = y:=⟨_,rfl⟩;obtain⟨pp,qq,hex⟩:=Hi.o.ll (i:=j4) (j:=a) oY.o.1 oY.o.2 hx hy;have pB:=aa hex;obtain⟨mz,EG,x0,x1,x2,x3,y0,y1,y2,y3,dS,jt,-⟩:=hex;obtain⟨n0,n1,n2,n3,n4,n5,n6⟩:=jt heq;clear jt;go_big_region
            all_goals
             clear x0 x1 x2 x3 y0 y1 y2 y3 n0 n1 n2 n3 n4 n5 n6 dS;go_wp2;go_meet
             exact pB.o.done
          case rest=>
           have jG:=aa hcut;clear hcut;go_wp2;go_ret2;rw[HP.o,HST.o];exact⟨rfl,jG.o⟩
         ·have Ry:¬(i4:Int)>(j4:Int):=by omega
          rw[if_neg RF,mG.out]at hstep;have HST:=aa hstep;clear hstep;have bi4:(i4:Int)<(N:Int):=by have:=lq.o;omega
          have Hj:Hid (i4<dk.size/\j4<dk.size/\i4+1<=j4):=aa (by have:=lq.o;omega);obtain⟨J5,hJ5⟩:∃J5,J5=j4-1:=⟨_,rfl⟩;have wi5:IntKind.i64.wrap ((i4:Int)+1)=((i4+1:Nat):Int):=by
           have:=lq.o;rw[ax]<;>omega
          have wj5:IntKind.i64.wrap ((j4:Int)-1)=(J5:Int):=by
           have:=lq.o;have:=Hj.o
           rw[ax]<;>omega
          have HJ5:Hid (J5=j4-1/\1<=j4):=aa (by have:=Hj.o;omega);clear hJ5;go_upto_region 18 with fail
          go_cut [] from 145 to 158 (fun wx=>fA bt w0 jb pb bf made base g cap (swp dk i4 j4) wx)
          case first=>
           obtain⟨x,hx⟩:∃x,dk[i4]! = x:=⟨_,rfl⟩;have oY:Hid (i4<dk.size/\j4<dk.size):=aa (by have:=Hj.o;omega);by_cases heq:i4=j4
           ·subst heq;obtain⟨pp,mz,⟨x0,x1,x2,x3⟩,dS,hdone⟩:=Hi.o.ir (i:=i4) oY.o.1 hx;have HD:=aa hdone;clear hdone;go_big_region
            all_goals
             clear x0 x1 x2 x3 dS;go_wp2;go_meet
             exact HD.o
           ·obtain⟨y,hy⟩:∃y,dk[j4]! = y:=⟨_,rfl⟩;obtain⟨pp,qq,hex⟩:=Hi.o.ll (i:=i4) (j:=j4) oY.o.1 oY.o.2 hx hy;have pB:=aa hex;obtain⟨mz,EG,x0,x1,x2,x3,y0,y1,y2,y3,dS,jt,-⟩:=hex;obtain⟨n0,n1,n2,n3,n4,n5,n6⟩:=jt heq;clear jt;go_big_region
            all_goals
             clear x0 x1 x2 x3 y0 y1 y2 y3 n0 n1 n2 n3 n4 n5 n6 dS;go_wp2;go_meet
             exact pB.o.done
          case rest=>
           have qg:=aa hcut;clear hcut;go_wp2;have q1:=lq.o;have q2:=Hj.o;have q3:=HJ5.o;refine⟨⟨i4+1,J5,swp dk i4 j4,rfl,rfl,ae,ae,ae,by rw[size_swp];omega,qg.o,?_⟩,by simp[intOf];omega⟩;show partLoop _ _ _ _ _=_;rw[HST.o,q3.1]
end
end
section
open Go.RowKit Go.Maps Go.Sort
section
variable {bt:Bool} {w0 W W':World} {jb pb bf made base g cap:Nat} {d:Array aJ}
def KA(bt:Bool)(w0:World)(jb pb bf made base g cap:Nat)(r:Nat×Array aJ)(e:Ending)(w':World):Prop:=
 e=.returned (.int .i64 (r.1:Int))/\fA bt w0 jb pb bf made base g cap r.2 w'
theorem yM{lt:aJ->aJ->Bool}{a i j u v:Nat}{d:Array aJ}(hu:u=scanUp (fun x=>!lt d[a]! x) d j i)(hv:v=scanDown (fun x=>lt d[a]! x) d u j) :
 partEqLoop lt a i j d=if u>v then (u,d) else partEqLoop lt a (u+1) (v-1) (swp d u v):=by
 subst hu;subst hv;exact partEqLoop_eq lt a i j d
theorem s7(h:fA bt w0 jb pb bf made base g cap d W)(a b pv:Nat)(hap:a<=pv)(Nx:pv<b)(hb:b<=d.size)(hsz:d.size<=1000000) :
 Calls prog 311 #[.slice (some ⟨g,0,none⟩) d.size cap,.int .i64 (a:Int),.int .i64 (b:Int),.int .i64 (pv:Int),cN jb] W (KA bt w0 jb pb bf made base g cap (partitionEqual (ltOf (aR bt)) d a b pv)):=by
 have H:=aa h;obtain⟨N,hN⟩:∃N,N=d.size:=⟨_,rfl⟩;rw[<- hN]at hb hsz ⊢;have HN:=aa hN;clear h hN;obtain⟨J0,hJ0⟩:∃J0,J0=b-1:=⟨_,rfl⟩;have wJ0:IntKind.i64.wrap ((b:Int)-1)=(J0:Int):=by rw[ax]<;>omega
 have wI0:IntKind.i64.wrap ((a:Int)+1)=((a+1:Nat):Int):=by rw[ax]<;>omega
 have ba:(a:Int)<(N:Int):=by omega
 have bp:(pv:Int)<(N:Int):=by omega
 have HB:Hid (a<d.size/\pv<d.size/\J0<N/\a<=J0/\N<=1000000/\J0=b-1/\d.size=N):=aa (by have:=HN.o;omega);clear hJ0 hap Nx hb hsz;unfold cN ptrTo;go_enter func311,ntmps311;go_upto_region 1 with fail
 go_cut [] from 13 to 26 (fun wx=>fA bt w0 jb pb bf made base g cap (swp d a pv) wx)
 case first=>
  obtain⟨x,hx⟩:∃x,d[a]! = x:=⟨_,rfl⟩;have oY:Hid (a<d.size/\pv<d.size):=aa (by have:=HB.o;omega);by_cases heq:a=pv
  ·subst heq;obtain⟨pp,mz,⟨x0,x1,x2,x3⟩,dS,hdone⟩:=H.o.ir (i:=a) oY.o.1 hx;have HD:=aa hdone;clear hdone;go_big_region
   all_goals
    clear x0 x1 x2 x3 dS;go_wp2;go_meet
    exact HD.o
  ·obtain⟨y,hy⟩:∃y,d[pv]! = y:=⟨_,rfl⟩;obtain⟨pp,qq,hex⟩:=H.o.ll (i:=a) (j:=pv) oY.o.1 oY.o.2 hx hy;have pB:=aa hex;obtain⟨mz,EG,x0,x1,x2,x3,y0,y1,y2,y3,dS,jt,-⟩:=hex;obtain⟨n0,n1,n2,n3,n4,n5,n6⟩:=jt heq;clear jt;go_big_region
   all_goals
    clear x0 x1 x2 x3 y0 y1 y2 y3 n0 n1 n2 n3 n4 n5 n6 dS;go_wp2;go_meet
    exact pB.o.done
 case rest=>
  have iY:=aa hcut;clear hcut;obtain⟨D1,N2⟩:∃D1,D1=swp d a pv:=⟨_,rfl⟩;rw[<- N2]at iY;have hs1:D1.size=N:=by rw[N2,size_swp];exact HN.o.symm
  obtain⟨r,hr⟩:∃r,r=partitionEqual (ltOf (aR bt)) d a b pv:=⟨_,rfl⟩;have HR:Hid (partEqLoop (ltOf (aR bt)) a (a+1) J0 D1=r):=aa (by rw[hr,HB.o.2.2.2.2.2.1,N2];rfl);have HRE:=aa hr;have iu:Hid (a<D1.size/\J0<D1.size/\D1.size=N/\a+1<=J0+1/\N<=1000000):=aa (by have:=HB.o;omega);clear N2 hs1 hr;go_wp2_with fail;go_loopw [11,12] (fun vi vj wr=>∃(i3 j3:Nat)(dk:Array aJ),vi=.int .i64 (i3:Int)/\vj=.int .i64 (j3:Int)/\a<i3/\i3<=j3+1/\j3<N/\dk.size=N/\fA bt w0 jb pb bf made base g cap dk wr/\Hid (partEqLoop (ltOf (aR bt)) a i3 j3 dk=r)) (fun vi vj _=>(intOf vj).toNat+1-(intOf vi).toNat)
  case atStart=>exact⟨a+1,J0,D1,by go_num,rfl,ae,by have:=iu.o;omega,by have:=iu.o;omega,iu.o.2.2.1,iY.o,HR.o⟩
  case round=>
   obtain⟨i3,j3,dk,rfl,rfl,Xs,Rz,PQ,hsk,hs3,mG⟩:=hrel;generalize wr=Wr3 at *;have gA:=aa hs3;have rD:Hid (a<dk.size/\j3<dk.size/\dk.size=N/\i3<=j3+1/\a<i3/\N<=1000000):=aa (by have:=iu.o;omega);clear hs3 hsk;go_upto_block 2 with fail
   go_cut [11] from 31 to 49 (fun vi wx=>∃i:Nat,vi=.int .i64 (i:Int)/\fA bt w0 jb pb bf made base g cap dk wx/\Hid (i=scanUp (fun x=>!ltOf (aR bt) dk[a]! x) dk j3 i3))
   case first=>
    go_wp2_with fail;go_loopw [11] (fun vi wr=>∃i:Nat,vi=.int .i64 (i:Int)/\i3<=i/\i<=j3+1/\fA bt w0 jb pb bf made base g cap dk wr/\Hid (scanUp (fun x=>!ltOf (aR bt) dk[a]! x) dk j3 i=scanUp (fun x=>!ltOf (aR bt) dk[a]! x) dk j3 i3)) (fun vi _=>j3+1-(intOf vi).toNat)
    case atStart=>exact⟨i3,rfl,by have:=rD.o;omega,by have:=rD.o;omega,gA.o,rfl⟩
    case round=>
     obtain⟨i,rfl,hb1,hb2,hs,HO⟩:=hrel;generalize wr=Wr at *;have HS:=aa hs;clear hs;by_cases fg:i<=j3
     ·have qI:(i:Int)<=(j3:Int):=by omega
      have bi:(i:Int)<(N:Int):=by have:=rD.o;omega
      have Xr:IntKind.i64.wrap ((i:Int)+1)=((i+1:Nat):Int):=by
       have:=rD.o;have:=HB.o
       rw[ax]<;>omega
      obtain⟨x,hx⟩:∃x,dk[a]! = x:=⟨_,rfl⟩;obtain⟨y,hy⟩:∃y,dk[i]! = y:=⟨_,rfl⟩;have F:=aa (HS.o.reads (i:=a) (j:=i) (by have:=rD.o;omega) (by have:=rD.o;omega) hx hy);by_cases hl:aR bt x y<0
      ·go_wp2_with fail;refine wq Wr ?_;iterate 8 (refine qz ?_)
       refine qz ?_ (fun w' hw'=>by obtain⟨⟨c0,c1,c2,c3⟩,-,-⟩:=F.o w' hw';go_simp<;>rfl);iterate 3 (refine qz ?_)
       refine qz ?_ (fun w' hw'=>by obtain⟨-,⟨c0,c1,c2,c3⟩,-⟩:=F.o w' hw';go_simp<;>rfl);refine qw (fun w' hw'=>(F.o w' hw').2.2) ?_;iterate 3 (refine qz ?_)
       refine wpQuiet_nil ?_;intro w5 fL;have b9:=aa (HS.o.below fL);clear fL;go_wp2;go_meet
       exact⟨i,rfl,b9.o,aa (by rw[<- HO.out];exact(scanUp_end _ _ _ _ (.inr (by have e:ltOf (aR bt) x y=true:=decide_eq_true hl;show(!ltOf (aR bt) dk[a]! dk[i]!)=_;rw[hx,hy,e];rfl))).symm)⟩
      ·have s6:decide (aR bt x y<0)=false:=decide_eq_false hl;go_wp2_with fail;refine wq Wr ?_;iterate 8 (refine qz ?_)
       refine qz ?_ (fun w' hw'=>by obtain⟨⟨c0,c1,c2,c3⟩,-,-⟩:=F.o w' hw';go_simp<;>rfl);iterate 3 (refine qz ?_)
       refine qz ?_ (fun w' hw'=>by obtain⟨-,⟨c0,c1,c2,c3⟩,-⟩:=F.o w' hw';go_simp<;>rfl);refine qw (fun w' hw'=>(F.o w' hw').2.2) ?_;iterate 3 (refine qz ?_)
       refine wpQuiet_nil ?_;intro w5 fL;have b9:=aa (HS.o.below fL);clear fL;go_wp2;refine⟨⟨(i+1),rfl,ae,ae,b9.o,?_⟩,by simp[intOf];omega⟩;show scanUp (fun x=>!ltOf (aR bt) dk[a]! x) dk j3 (i+1)=_;rw[<- HO.out];exact(scanUp_go _ _ _ _ fg (by have e:ltOf (aR bt) x y=false:=decide_eq_false ae;show(!ltOf (aR bt) dk[a]! dk[i]!)=_;rw[hx,hy,e];rfl)).symm
     ·have qI:¬((i:Int)<=(j3:Int)):=by omega
      go_wp2_with fail;go_quiet (fail)
      have vt:RowKit.Below Wr.heap.size Wr (Wr.drewN nq):=⟨rfl,rfl,rfl,Nat.le_refl _,fun _ _=>rfl⟩;have b9:=aa (HS.o.below vt);clear vt;go_wp2;go_meet
      exact⟨i,rfl,b9.o,aa (by rw[<- HO.out];exact(scanUp_end _ _ _ _ (.inl fg)).symm)⟩
   case rest=>
    obtain⟨i4,rfl,RA,xG⟩:=hcut;have Zm:=aa RA;have EK:=aa xG.out;clear RA xG;have Zn:=s5 (show i3<=j3+1 by have:=rD.o;omega) EK.o;have nS:Hid (a<dk.size/\j3<dk.size/\dk.size=N/\i4<=j3+1/\1<=i4/\a<i4/\i3<=i4/\N<=1000000):=aa (by have:=rD.o;omega);clear Zn;go_upto_block 4 with fail
    go_cut [12] from 50 to 67 (fun vi wx=>∃j:Nat,vi=.int .i64 (j:Int)/\fA bt w0 jb pb bf made base g cap dk wx/\Hid (j=scanDown (fun x=>ltOf (aR bt) dk[a]! x) dk i4 j3))
    case first=>
     go_wp2_with fail;go_loopw [12] (fun vi wr=>∃j:Nat,vi=.int .i64 (j:Int)/\j<=j3/\i4<=j+1/\fA bt w0 jb pb bf made base g cap dk wr/\Hid (scanDown (fun x=>ltOf (aR bt) dk[a]! x) dk i4 j=scanDown (fun x=>ltOf (aR bt) dk[a]! x) dk i4 j3)) (fun vi _=>(intOf vi).toNat)
     case atStart=>exact⟨j3,rfl,by have:=nS.o;omega,by have:=nS.o;omega,Zm.o,rfl⟩
     case round=>
      obtain⟨j,rfl,hb1,hb2,hs,HO⟩:=hrel;generalize wr=Wr at *;have HS:=aa hs;clear hs;by_cases fg:i4<=j
      ·obtain⟨j',hj'⟩:∃j',j'=j-1:=⟨_,rfl⟩;have qI:(i4:Int)<=(j:Int):=by omega
       have bi:(j:Int)<(N:Int):=by have:=nS.o;omega
       have Xr:IntKind.i64.wrap ((j:Int)-1)=(j':Int):=by
        have:=nS.o;have:=HB.o
        rw[ax]<;>omega
       have HJ:Hid (j'=j-1/\1<=j):=aa (by have:=nS.o;omega);have Kr:1<=j:=by have:=nS.o;omega
       clear hj';obtain⟨x,hx⟩:∃x,dk[a]! = x:=⟨_,rfl⟩;obtain⟨y,hy⟩:∃y,dk[j]! = y:=⟨_,rfl⟩;have F:=aa (HS.o.reads (i:=a) (j:=j) (by have:=nS.o;omega) (by have:=nS.o;omega) hx hy);by_cases hl:aR bt x y<0
       ·go_wp2_with fail;refine wq Wr ?_;iterate 8 (refine qz ?_)
        refine qz ?_ (fun w' hw'=>by obtain⟨⟨c0,c1,c2,c3⟩,-,-⟩:=F.o w' hw';go_simp<;>rfl);iterate 3 (refine qz ?_)
        refine qz ?_ (fun w' hw'=>by obtain⟨-,⟨c0,c1,c2,c3⟩,-⟩:=F.o w' hw';go_simp<;>rfl);refine qw (fun w' hw'=>(F.o w' hw').2.2) ?_;iterate 2 (refine qz ?_)
        refine wpQuiet_nil ?_;intro w5 fL;have b9:=aa (HS.o.below fL);clear fL;go_wp2;obtain⟨hjj,hjq⟩:=HJ.o;refine⟨⟨j',rfl,ae,ae,b9.o,?_⟩,by simp[intOf];omega⟩;show scanDown (fun x=>ltOf (aR bt) dk[a]! x) dk i4 j'=_;rw[<- HO.out,show j'=j-1 by omega];exact(scanDown_go _ _ _ _ fg ae (by have e:ltOf (aR bt) x y=true:=decide_eq_true hl;show ltOf (aR bt) dk[a]! dk[j]! = _;rw[hx,hy,e])).symm
       ·have s6:decide (aR bt x y<0)=false:=decide_eq_false hl;go_wp2_with fail;refine wq Wr ?_;iterate 8 (refine qz ?_)
        refine qz ?_ (fun w' hw'=>by obtain⟨⟨c0,c1,c2,c3⟩,-,-⟩:=F.o w' hw';go_simp<;>rfl);iterate 3 (refine qz ?_)
        refine qz ?_ (fun w' hw'=>by obtain⟨-,⟨c0,c1,c2,c3⟩,-⟩:=F.o w' hw';go_simp<;>rfl);refine qw (fun w' hw'=>(F.o w' hw').2.2) ?_;iterate 2 (refine qz ?_)
        refine wpQuiet_nil ?_;intro w5 fL;have b9:=aa (HS.o.below fL);clear fL;go_wp2;go_meet
        exact⟨j,rfl,b9.o,aa (by rw[<- HO.out];exact(scanDown_end _ _ _ _ (.inr (by have e:ltOf (aR bt) x y=false:=decide_eq_false ae;show ltOf (aR bt) dk[a]! dk[j]! = _;rw[hx,hy,e]))).symm)⟩
      ·have qI:¬((i4:Int)<=(j:Int)):=by omega
       go_wp2_with fail;go_quiet (fail)
       have vt:RowKit.Below Wr.heap.size Wr (Wr.drewN nq):=⟨rfl,rfl,rfl,Nat.le_refl _,fun _ _=>rfl⟩;have b9:=aa (HS.o.below vt);clear vt;go_wp2;go_meet
       exact⟨j,rfl,b9.o,aa (by rw[<- HO.out];exact(scanDown_end _ _ _ _ (.inl fg)).symm)⟩
    case rest=>
     obtain⟨j4,rfl,RB,RD⟩:=hcut;have Hi:=aa RB;have Kz:=aa RD.out;clear RB RD;have Zo:=qJ (show i3<=j3+1 by have:=rD.o;omega) EK.o Kz.o;have Zp:0<j4->i4≠j4:=sZ (fun _=>by simp) EK.o Kz.o;have lq:Hid (a<dk.size/\j4<dk.size/\dk.size=N/\(i4<=j4->i4<dk.size/\i4+1<=j4)/\a<=j4/\a<i4/\i4<=j4+1/\i3<=i4/\j4<=j3/\N<=1000000):=aa (by have:=nS.o;omega);have bj4:(j4:Int)<(N:Int):=by have:=lq.o;omega
     have hstep:=yM EK.o Kz.o;clear Zo Zp;by_cases RF:i4>j4
     ·have Ry:(i4:Int)>(j4:Int):=by omega
      rw[if_pos RF,mG.out]at hstep;have HST:=aa hstep;clear hstep;go_wp2;go_ret;rw[<- HRE.o,HST.o];exact⟨rfl,Hi.o⟩
     ·have Ry:¬(i4:Int)>(j4:Int):=by omega
      rw[if_neg RF,mG.out]at hstep;have HST:=aa hstep;clear hstep;have bi4:(i4:Int)<(N:Int):=by have:=lq.o;omega
      have Hj:Hid (i4<dk.size/\j4<dk.size/\i4+1<=j4):=aa (by have:=lq.o;omega);obtain⟨J5,hJ5⟩:∃J5,J5=j4-1:=⟨_,rfl⟩;have wi5:IntKind.i64.wrap ((i4:Int)+1)=((i4+1:Nat):Int):=by
       have:=lq.o;rw[ax]<;>omega
      have wj5:IntKind.i64.wrap ((j4:Int)-1)=(J5:Int):=by
       have:=lq.o;have:=Hj.o
       rw[ax]<;>omega
      have HJ5:Hid (J5=j4-1/\1<=j4):=aa (by have:=Hj.o;omega);clear hJ5;go_upto_region 8 with fail
      go_cut [] from 71 to 84 (fun wx=>fA bt w0 jb pb bf made base g cap (swp dk i4 j4) wx)
      case first=>
       obtain⟨x,hx⟩:∃x,dk[i4]! = x:=⟨_,rfl⟩;have oY:Hid (i4<dk.size/\j4<dk.size):=aa (by have:=Hj.o;omega);by_cases heq:i4=j4
       ·subst heq;obtain⟨pp,mz,⟨x0,x1,x2,x3⟩,dS,hdone⟩:=Hi.o.ir (i:=i4) oY.o.1 hx;have HD:=aa hdone;clear hdone;go_big_region
        all_goals
         clear x0 x1 x2 x3 dS;go_wp2;go_meet
         exact HD.o
       ·obtain⟨y,hy⟩:∃y,dk[j4]! = y:=⟨_,rfl⟩;obtain⟨pp,qq,hex⟩:=Hi.o.ll (i:=i4) (j:=j4) oY.o.1 oY.o.2 hx hy;have pB:=aa hex;obtain⟨mz,EG,x0,x1,x2,x3,y0,y1,y2,y3,dS,jt,-⟩:=hex;obtain⟨n0,n1,n2,n3,n4,n5,n6⟩:=jt heq;clear jt;go_big_region
        all_goals
         clear x0 x1 x2 x3 y0 y1 y2 y3 n0 n1 n2 n3 n4 n5 n6 dS;go_wp2;go_meet
         exact pB.o.done
      case rest=>
       have qg:=aa hcut;clear hcut;go_wp2;have q1:=lq.o;have q2:=Hj.o;have q3:=HJ5.o;refine⟨⟨i4+1,J5,swp dk i4 j4,rfl,rfl,ae,ae,ae,by rw[size_swp];omega,qg.o,?_⟩,by simp[intOf];omega⟩;show partEqLoop _ _ _ _ _=_;rw[HST.o,q3.1]
end
end
section
open Go.RowKit Go.Maps Go.Sort
section
variable {bt:Bool} {w0 W W':World} {jb pb bf made base g cap:Nat} {d:Array aJ}
def Hk(bt:Bool)(w0:World)(jb pb bf made base g cap:Nat)(r:Array aJ×Bool)(e:Ending)(w':World):Prop:=
 e=.returned (.bool r.2)/\fA bt w0 jb pb bf made base g cap r.1 w'
theorem yN{lt:aJ->aJ->Bool}{a b s i u:Nat}{d:Array aJ}(hu:u=scanSorted lt d b i) :
 partialIns lt a b (s+1) i d=if u=b then (d,true) else if b-a<50 then (d,false) else
  partialIns lt a b s u (if b-u >= 2 then shiftUp lt b (u+1) (if u-a >= 2 then shiftDown lt (u-1) (swp d u (u-1)) else swp d u (u-1)) else (if u-a >= 2 then shiftDown lt (u-1) (swp d u (u-1)) else swp d u (u-1))):=by
 subst hu;rfl
theorem nK(h:fA bt w0 jb pb bf made base g cap d W)(a b:Nat)(hab:a<b)(hb:b<=d.size)(hsz:d.size<=1000000) :
 Calls prog 310 #[.slice (some ⟨g,0,none⟩) d.size cap,.int .i64 (a:Int),.int .i64 (b:Int),cN jb] W (Hk bt w0 jb pb bf made base g cap (partialInsertionSort (ltOf (aR bt)) d a b)):=by
 have H:=aa h;obtain⟨N,hN⟩:∃N,N=d.size:=⟨_,rfl⟩;rw[<- hN]at hb hsz ⊢;have HN:=aa hN;clear h hN;obtain⟨L0,hL0⟩:∃L0,L0=b-a:=⟨_,rfl⟩;have wL0:IntKind.i64.wrap ((b:Int)-(a:Int))=(L0:Int):=by rw[ax]<;>omega
 have wI0:IntKind.i64.wrap ((a:Int)+1)=((a+1:Nat):Int):=by rw[ax]<;>omega
 have HB:Hid (a<b/\b<=N/\N<=1000000/\L0=b-a/\d.size=N):=aa (by have:=HN.o;omega);obtain⟨r,hr⟩:∃r,r=partialInsertionSort (ltOf (aR bt)) d a b:=⟨_,rfl⟩;have HR:Hid (partialIns (ltOf (aR bt)) a b 5 (a+1) d=r):=aa (by rw[hr];rfl);rw[<- hr];clear hL0 hab hb hsz hr;unfold cN ptrTo;go_enter func310,ntmps310;go_wp2_with fail;go_loopw [9,10] (fun vi vs wr=>∃(i3 s3:Nat)(dk:Array aJ),vi=.int .i64 (i3:Int)/\vs=.int .i64 (s3:Int)/\a<i3/\i3<=b/\s3<=5/\dk.size=N/\fA bt w0 jb pb bf made base g cap dk wr/\Hid (partialIns (ltOf (aR bt)) a b (5-s3) i3 dk=r)) (fun _ vs _=>5-(intOf vs).toNat)
 case atStart=>exact⟨a+1,0,d,by go_num,rfl,ae,by have:=HB.o;omega,ae,HN.o.symm,H.o,HR.o⟩
 case round=>
  obtain⟨i3,s3,dk,rfl,rfl,ain,aio,apc,hsk,hs3,mG⟩:=hrel;generalize wr=Wr3 at *;have gA:=aa hs3;have rD:Hid (dk.size=N/\a<i3/\i3<=b/\s3<=5/\b<=N/\N<=1000000/\0<i3):=aa (by have:=HB.o;omega);clear hs3 hsk ain aio;by_cases hs5:s3<5
  ·have aip:(s3:Int)<5:=by omega
   have ws1:IntKind.i64.wrap ((s3:Int)+1)=((s3+1:Nat):Int):=by rw[ax]<;>omega
   go_upto_block 2 with fail
   go_cut [9] from 19 to 38 (fun vi wx=>∃i:Nat,vi=.int .i64 (i:Int)/\fA bt w0 jb pb bf made base g cap dk wx/\Hid (i=scanSorted (ltOf (aR bt)) dk b i3/\i3<=i/\i<=b))
   case first=>
    go_wp2_with fail;go_loopw [9] (fun vi wr=>∃i:Nat,vi=.int .i64 (i:Int)/\i3<=i/\i<=b/\fA bt w0 jb pb bf made base g cap dk wr/\Hid (scanSorted (ltOf (aR bt)) dk b i=scanSorted (ltOf (aR bt)) dk b i3)) (fun vi _=>b-(intOf vi).toNat)
    case atStart=>exact⟨i3,rfl,Nat.le_refl _,rD.o.2.2.1,gA.o,rfl⟩
    case round=>
     obtain⟨i,rfl,hb1,hb2,hs,HO⟩:=hrel;generalize wr=Wr at *;have HS:=aa hs;clear hs;by_cases fg:i<b
     ·obtain⟨ip,hip⟩:∃ip,ip=i-1:=⟨_,rfl⟩;have qI:(i:Int)<(b:Int):=by omega
      have bi:(i:Int)<(N:Int):=by have:=rD.o;omega
      have bip:(ip:Int)<(N:Int):=by have:=rD.o;omega
      have Xr:IntKind.i64.wrap ((i:Int)+1)=((i+1:Nat):Int):=by
       have:=rD.o;rw[ax]<;>omega
      have wim:IntKind.i64.wrap ((i:Int)-1)=(ip:Int):=by
       have:=rD.o;rw[ax]<;>omega
      have Ud:Hid (ip=i-1):=aa hip;obtain⟨x,hx⟩:∃x,dk[i]! = x:=⟨_,rfl⟩;obtain⟨y,hy⟩:∃y,dk[ip]! = y:=⟨_,rfl⟩;have F:=aa (HS.o.reads (i:=i) (j:=ip) (by have:=rD.o;omega) (by have:=rD.o;omega) hx hy);clear hip;by_cases hl:aR bt x y<0
      ·go_wp2_with fail;refine wq Wr ?_;iterate 8 (refine qz ?_)
       refine qz ?_ (fun w' hw'=>by obtain⟨⟨c0,c1,c2,c3⟩,-,-⟩:=F.o w' hw';go_simp<;>rfl);iterate 4 (refine qz ?_)
       refine qz ?_ (fun w' hw'=>by obtain⟨-,⟨c0,c1,c2,c3⟩,-⟩:=F.o w' hw';go_simp<;>rfl);refine qw (fun w' hw'=>(F.o w' hw').2.2) ?_;iterate 3 (refine qz ?_)
       refine wpQuiet_nil ?_;intro w5 fL;have b9:=aa (HS.o.below fL);clear fL;go_wp2;go_meet
       exact⟨i,rfl,b9.o,aa ⟨by rw[<- HO.out];exact(scanSorted_stop _ _ _ _ (.inr (by rw[<- Ud.o,hx,hy];exact decide_eq_true hl))).symm,hb1,hb2⟩⟩
      ·have s6:decide (aR bt x y<0)=false:=decide_eq_false hl;go_wp2_with fail;refine wq Wr ?_;iterate 8 (refine qz ?_)
       refine qz ?_ (fun w' hw'=>by obtain⟨⟨c0,c1,c2,c3⟩,-,-⟩:=F.o w' hw';go_simp<;>rfl);iterate 4 (refine qz ?_)
       refine qz ?_ (fun w' hw'=>by obtain⟨-,⟨c0,c1,c2,c3⟩,-⟩:=F.o w' hw';go_simp<;>rfl);refine qw (fun w' hw'=>(F.o w' hw').2.2) ?_;iterate 3 (refine qz ?_)
       refine wpQuiet_nil ?_;intro w5 fL;have b9:=aa (HS.o.below fL);clear fL;go_wp2;refine⟨⟨(i+1),rfl,ae,ae,b9.o,?_⟩,by simp[intOf];omega⟩;show scanSorted _ _ _ _=_;rw[<- HO.out];exact(scanSorted_go _ _ _ _ fg (by rw[<- Ud.o,hx,hy];exact s6)).symm
     ·have qI:¬((i:Int)<(b:Int)):=by omega
      go_wp2_with fail;go_quiet (fail)
      have vt:RowKit.Below Wr.heap.size Wr (Wr.drewN nq):=⟨rfl,rfl,rfl,Nat.le_refl _,fun _ _=>rfl⟩;have b9:=aa (HS.o.below vt);clear vt;go_wp2;go_meet
      exact⟨i,rfl,b9.o,aa ⟨by rw[<- HO.out];exact(scanSorted_stop _ _ _ _ (.inl fg)).symm,hb1,hb2⟩⟩
   case rest=>
    obtain⟨u,rfl,hsu,hu⟩:=hcut;have HSu:=aa hsu;have HU:=aa hu.out;have HST:=aa (yN (a:=a) (s:=5-(s3+1)) hu.out.1);have h5:5-(s3+1)+1=5-s3:=by omega
    rw[h5,mG.out]at HST;clear hsu hu h5;by_cases Vh:u=b
    ·have air:(u:Int)=(b:Int):=by omega
     have e:=HST.o;rw[if_pos Vh]at e;have HE:=aa e;clear e Vh;go_wp2;go_ret;rw[HE.o];exact⟨rfl,HSu.o⟩
    ·have air:((u:Int) == (b:Int))=false:=by simp;omega
     by_cases h50:b-a<50
     ·have ais:(L0:Int)<50:=by have:=HB.o;omega
      have e:=HST.o;rw[if_neg Vh,if_pos h50]at e;have HE:=aa e;clear e Vh h50;go_wp2;go_ret;rw[HE.o];exact⟨rfl,HSu.o⟩
     ·have ais:¬(L0:Int)<50:=by have:=HB.o;omega
      have e:=HST.o;rw[if_neg Vh,if_neg h50]at e;have HE:=aa e;obtain⟨U1,hU1⟩:∃U1,U1=u-1:=⟨_,rfl⟩;rw[<- hU1]at HE;have bu:(u:Int)<(N:Int):=by have:=HU.o;have:=HB.o;omega
      have bu1:(U1:Int)<(N:Int):=by have:=HU.o;have:=HB.o;omega
      have wu1:IntKind.i64.wrap ((u:Int)-1)=(U1:Int):=by
       have:=HU.o;have:=HB.o;have:=rD.o
       rw[ax]<;>omega
      have wup:IntKind.i64.wrap ((u:Int)+1)=((u+1:Nat):Int):=by
       have:=HU.o;have:=HB.o
       rw[ax]<;>omega
      obtain⟨P,hP⟩:∃P,P=u-a:=⟨_,rfl⟩;obtain⟨Q,hQ⟩:∃Q,Q=b-u:=⟨_,rfl⟩;have wP:IntKind.i64.wrap ((u:Int)-(a:Int))=(P:Int):=by
       have:=HU.o;have:=HB.o;have:=rD.o
       rw[ax]<;>omega
      have wQ:IntKind.i64.wrap ((b:Int)-(u:Int))=(Q:Int):=by
       have:=HU.o;have:=HB.o
       rw[ax]<;>omega
      have lq:Hid (u<dk.size/\U1<dk.size/\u≠U1/\dk.size=N/\a<u/\u<b/\b<=N/\N<=1000000/\P=u-a/\Q=b-u/\U1=u-1):=aa (by have:=HU.o;have:=HB.o;have:=rD.o;omega);clear e Vh h50 hU1 hP hQ;go_upto_region 11 with fail
      go_cut [] from 46 to 61 (fun wx=>fA bt w0 jb pb bf made base g cap (swp dk u U1) wx)
      case first=>
       obtain⟨x,hx⟩:∃x,dk[u]! = x:=⟨_,rfl⟩;obtain⟨y,hy⟩:∃y,dk[U1]! = y:=⟨_,rfl⟩;obtain⟨pp,qq,hex⟩:=HSu.o.ll (i:=u) (j:=U1) lq.o.1 lq.o.2.1 hx hy;have pB:=aa hex;obtain⟨mz,EG,x0,x1,x2,x3,y0,y1,y2,y3,dS,jt,-⟩:=hex;obtain⟨n0,n1,n2,n3,n4,n5,n6⟩:=jt lq.o.2.2.1;clear jt;go_big_region
       all_goals
        clear x0 x1 x2 x3 y0 y1 y2 y3 n0 n1 n2 n3 n4 n5 n6 dS;go_wp2;go_meet
        exact pB.o.done
      case rest=>
       have iY:=aa hcut;clear hcut;obtain⟨D1,N2⟩:∃D1,D1=swp dk u U1:=⟨_,rfl⟩;rw[<- N2]at iY HE;have adg:Hid (D1.size=N):=aa (by rw[N2,size_swp];exact lq.o.2.2.2.1);clear N2;rw[show u-a=P from lq.o.2.2.2.2.2.2.2.2.1.symm,show b-u=Q from lq.o.2.2.2.2.2.2.2.2.2.1.symm]at HE;go_upto_if 65 with fail
       go_cut [] from 65 to 100 (fun wx=>∃dd:Array aJ,dd.size=N/\fA bt w0 jb pb bf made base g cap dd wx/\Hid (dd=if P >= 2 then shiftDown (ltOf (aR bt)) U1 D1 else D1))
       case first=>
        by_cases hV:P >= 2
        ·have hVz:(P:Int) >= 2:=by omega
         go_wp2_with fail;go_loopw [11] (fun vj wr=>∃(j:Nat)(dj:Array aJ),vj=.int .i64 (j:Int)/\j<=U1/\dj.size=N/\fA bt w0 jb pb bf made base g cap dj wr/\Hid (shiftDown (ltOf (aR bt)) j dj=shiftDown (ltOf (aR bt)) U1 D1)) (fun vj _=>(intOf vj).toNat)
         case atStart=>exact⟨U1,D1,rfl,Nat.le_refl _,adg.o,iY.o,rfl⟩
         case round=>
          obtain⟨j,dj,rfl,Kr,hsj,hs,HI⟩:=hrel;generalize wr=Wr at *;have BH:=aa hs;have Vi:=aa hsj;clear hs hsj;by_cases hjc:1<=j
          ·have JF:(j:Int) >= 1:=by omega
           obtain⟨jp,hjp⟩:∃jp,jp=j-1:=⟨_,rfl⟩;have bj:(j:Int)<(N:Int):=by have:=lq.o;omega
           have bjp:(jp:Int)<(N:Int):=by have:=lq.o;omega
           have wjp:IntKind.i64.wrap ((j:Int)-1)=(jp:Int):=by
            have:=lq.o;rw[ax]<;>omega
           have HJ:Hid (j<dj.size/\jp<dj.size/\j≠jp/\jp=j-1/\1<=j):=aa (by have:=lq.o;have:=Vi.o;omega);clear hjp;obtain⟨x,hx⟩:∃x,dj[j]! = x:=⟨_,rfl⟩;obtain⟨y,hy⟩:∃y,dj[jp]! = y:=⟨_,rfl⟩;have F:=aa (BH.o.reads (i:=j) (j:=jp) HJ.o.1 HJ.o.2.1 hx hy);by_cases hl:aR bt x y<0
           ·have Uf:Hid (ltOf (aR bt) dj[j]! dj[jp]! = true):=aa (by rw[hx,hy];exact decide_eq_true hl);go_wp2_with fail;refine wq Wr ?_;iterate 4 (refine qz ?_)
            refine qz ?_ (fun w' hw'=>by obtain⟨⟨c0,c1,c2,c3⟩,-,-⟩:=F.o w' hw';go_simp<;>rfl);iterate 4 (refine qz ?_)
            refine qz ?_ (fun w' hw'=>by obtain⟨-,⟨c0,c1,c2,c3⟩,-⟩:=F.o w' hw';go_simp<;>rfl);refine qw (fun w' hw'=>(F.o w' hw').2.2) ?_;iterate 2 (refine qz ?_)
            refine wpQuiet_nil ?_;intro w5 fL;have b9:=aa (BH.o.below fL);clear fL;clear hx hy F;go_upto_region 17 with fail
            obtain⟨x',N3⟩:∃x,dj[j]! = x:=⟨_,rfl⟩;obtain⟨y',hy'⟩:∃y,dj[jp]! = y:=⟨_,rfl⟩;obtain⟨pp,qq,hex⟩:=b9.o.ll (i:=j) (j:=jp) HJ.o.1 HJ.o.2.1 N3 hy';have pB:=aa hex;obtain⟨mz,EG,x0,x1,x2,x3,y0,y1,y2,y3,dS,jt,-⟩:=hex;obtain⟨n0,n1,n2,n3,n4,n5,n6⟩:=jt HJ.o.2.2.1;clear jt;go_big_region
            all_goals
             clear x0 x1 x2 x3 y0 y1 y2 y3 n0 n1 n2 n3 n4 n5 n6 dS;have hdone:=aa pB.o.done;go_wp2;have q:=HJ.o;refine⟨⟨jp,swp dj j jp,rfl,ae,by rw[size_swp];exact Vi.o,hdone.o,?_⟩,by simp[intOf];omega⟩;show shiftDown (ltOf (aR bt)) _ _=_;rw[<- HI.out,q.2.2.2.1];exact(shiftDown_go _ _ _ q.2.2.2.2 (by rw[<- q.2.2.2.1];exact Uf.o)).symm
           ·have s6:decide (aR bt x y<0)=false:=decide_eq_false hl;go_wp2_with fail;refine wq Wr ?_;iterate 4 (refine qz ?_)
            refine qz ?_ (fun w' hw'=>by obtain⟨⟨c0,c1,c2,c3⟩,-,-⟩:=F.o w' hw';go_simp<;>rfl);iterate 4 (refine qz ?_)
            refine qz ?_ (fun w' hw'=>by obtain⟨-,⟨c0,c1,c2,c3⟩,-⟩:=F.o w' hw';go_simp<;>rfl);refine qw (fun w' hw'=>(F.o w' hw').2.2) ?_;iterate 2 (refine qz ?_)
            refine wpQuiet_nil ?_;intro w5 fL;have b9:=aa (BH.o.below fL);clear fL;go_wp2;go_meet
            exact⟨dj,Vi.o,b9.o,aa (by rw[if_pos hV,<- HI.out];exact(shiftDown_stop _ _ _ (.inr (by rw[<- HJ.o.2.2.2.1,hx,hy];exact s6))).symm)⟩
          ·have JF:¬((j:Int) >= 1):=by omega
           go_wp2;go_meet
           exact⟨dj,Vi.o,BH.o,aa (by rw[if_pos hV,<- HI.out];exact(shiftDown_stop _ _ _ (.inl ae)).symm)⟩
        ·have hVz:¬(P:Int) >= 2:=by omega
         go_wp2;go_meet
         exact⟨D1,adg.o,iY.o,aa (by rw[if_neg hV])⟩
       case rest=>
        obtain⟨D2,hz,hs,Ue⟩:=hcut;have eR:=aa hs;have adh:=aa hz;have aiv:=aa Ue.out;clear hs hz Ue;rw[<- aiv.o]at HE;by_cases hV:Q >= 2
        ·have hVz:(Q:Int) >= 2:=by omega
         go_wp2_with fail;go_loopw [12] (fun vj wr=>∃(j:Nat)(dj:Array aJ),vj=.int .i64 (j:Int)/\u<j/\j<=b/\dj.size=N/\fA bt w0 jb pb bf made base g cap dj wr/\Hid (shiftUp (ltOf (aR bt)) b j dj=shiftUp (ltOf (aR bt)) b (u+1) D2)) (fun vj _=>b-(intOf vj).toNat)
         case atStart=>exact⟨(u+1),D2,rfl,ae,by have:=lq.o;omega,adh.o,eR.o,rfl⟩
         case round=>
          obtain⟨j,dj,rfl,Ub,Kr,hsj,hs,HI⟩:=hrel;generalize wr=Wr at *;have BH:=aa hs;have Vi:=aa hsj;clear hs hsj;by_cases hjc:j<b
          ·have JF:(j:Int)<(b:Int):=by omega
           obtain⟨jp,hjp⟩:∃jp,jp=j-1:=⟨_,rfl⟩;have bj:(j:Int)<(N:Int):=by have:=lq.o;omega
           have bjp:(jp:Int)<(N:Int):=by have:=lq.o;omega
           have wjp:IntKind.i64.wrap ((j:Int)-1)=(jp:Int):=by
            have:=lq.o;rw[ax]<;>omega
           have wjn:IntKind.i64.wrap ((j:Int)+1)=((j+1:Nat):Int):=by
            have:=lq.o;rw[ax]<;>omega
           have HJ:Hid (j<dj.size/\jp<dj.size/\j≠jp/\jp=j-1/\1<=j):=aa (by have:=lq.o;have:=Vi.o;omega);clear hjp;obtain⟨x,hx⟩:∃x,dj[j]! = x:=⟨_,rfl⟩;obtain⟨y,hy⟩:∃y,dj[jp]! = y:=⟨_,rfl⟩;have F:=aa (BH.o.reads (i:=j) (j:=jp) HJ.o.1 HJ.o.2.1 hx hy);by_cases hl:aR bt x y<0
           ·have Uf:Hid (ltOf (aR bt) dj[j]! dj[jp]! = true):=aa (by rw[hx,hy];exact decide_eq_true hl);go_wp2_with fail;refine wq Wr ?_;iterate 4 (refine qz ?_)
            refine qz ?_ (fun w' hw'=>by obtain⟨⟨c0,c1,c2,c3⟩,-,-⟩:=F.o w' hw';go_simp<;>rfl);iterate 4 (refine qz ?_)
            refine qz ?_ (fun w' hw'=>by obtain⟨-,⟨c0,c1,c2,c3⟩,-⟩:=F.o w' hw';go_simp<;>rfl);refine qw (fun w' hw'=>(F.o w' hw').2.2) ?_;iterate 2 (refine qz ?_)
            refine wpQuiet_nil ?_;intro w5 fL;have b9:=aa (BH.o.below fL);clear fL;clear hx hy F;go_upto_region 23 with fail
            obtain⟨x',N3⟩:∃x,dj[j]! = x:=⟨_,rfl⟩;obtain⟨y',hy'⟩:∃y,dj[jp]! = y:=⟨_,rfl⟩;obtain⟨pp,qq,hex⟩:=b9.o.ll (i:=j) (j:=jp) HJ.o.1 HJ.o.2.1 N3 hy';have pB:=aa hex;obtain⟨mz,EG,x0,x1,x2,x3,y0,y1,y2,y3,dS,jt,-⟩:=hex;obtain⟨n0,n1,n2,n3,n4,n5,n6⟩:=jt HJ.o.2.2.1;clear jt;go_big_region
            all_goals
             clear x0 x1 x2 x3 y0 y1 y2 y3 n0 n1 n2 n3 n4 n5 n6 dS;have hdone:=aa pB.o.done;go_wp2;have q:=HJ.o;refine⟨⟨(j+1),swp dj j jp,rfl,ae,ae,by rw[size_swp];exact Vi.o,hdone.o,?_⟩,by simp[intOf];omega⟩;show shiftUp (ltOf (aR bt)) b _ _=_;rw[<- HI.out,q.2.2.2.1];exact(shiftUp_go _ _ _ _ hjc (by rw[<- q.2.2.2.1];exact Uf.o)).symm
           ·have s6:decide (aR bt x y<0)=false:=decide_eq_false hl;go_wp2_with fail;refine wq Wr ?_;iterate 4 (refine qz ?_)
            refine qz ?_ (fun w' hw'=>by obtain⟨⟨c0,c1,c2,c3⟩,-,-⟩:=F.o w' hw';go_simp<;>rfl);iterate 4 (refine qz ?_)
            refine qz ?_ (fun w' hw'=>by obtain⟨-,⟨c0,c1,c2,c3⟩,-⟩:=F.o w' hw';go_simp<;>rfl);refine qw (fun w' hw'=>(F.o w' hw').2.2) ?_;iterate 2 (refine qz ?_)
            refine wpQuiet_nil ?_;intro w5 fL;have b9:=aa (BH.o.below fL);clear fL;have RG:Hid (dj=if Q >= 2 then shiftUp (ltOf (aR bt)) b (u+1) D2 else D2):=aa (by rw[if_pos hV,<- HI.out];exact(shiftUp_stop _ _ _ _ (.inr (by rw[<- HJ.o.2.2.2.1,hx,hy];exact s6))).symm);have HF:Hid (partialIns (ltOf (aR bt)) a b (5-(s3+1)) u dj=r):=aa (by rw[RG.o];exact HE.o.symm);go_wp2;have q:=lq.o;exact⟨⟨u,s3+1,dj,rfl,rfl,ae,ae,ae,(Vi.o),(b9.o),HF⟩,by simp[intOf];omega⟩
          ·have JF:¬((j:Int)<(b:Int)):=by omega
           have RG:Hid (dj=if Q >= 2 then shiftUp (ltOf (aR bt)) b (u+1) D2 else D2):=aa (by rw[if_pos hV,<- HI.out];exact(shiftUp_stop _ _ _ _ (.inl hjc)).symm);have HF:Hid (partialIns (ltOf (aR bt)) a b (5-(s3+1)) u dj=r):=aa (by rw[RG.o];exact HE.o.symm);go_wp2;have q:=lq.o;exact⟨⟨u,s3+1,dj,rfl,rfl,ae,ae,ae,(Vi.o),(BH.o),HF⟩,by simp[intOf];omega⟩
        ·have hVz:¬(Q:Int) >= 2:=by omega
         have RG:Hid (D2=if Q >= 2 then shiftUp (ltOf (aR bt)) b (u+1) D2 else D2):=aa (by rw[if_neg hV]);have HF:Hid (partialIns (ltOf (aR bt)) a b (5-(s3+1)) u D2=r):=aa (by rw[RG.o];exact HE.o.symm);go_wp2;have q:=lq.o;exact⟨⟨u,s3+1,D2,rfl,rfl,ae,ae,ae,(adh.o),(eR.o),HF⟩,by simp[intOf];omega⟩
  ·have aip:¬(s3:Int)<5:=by omega
   have e:5-s3=0:=by omega
   have HF:=mG.out;rw[e]at HF;have HG:Hid (r=(dk,false)):=aa HF.symm;clear HF e;go_wp2;go_ret;rw[HG.o];exact⟨rfl,gA.o⟩
end
end
section
open Go.RowKit Go.Maps Go.Sort
def RH(m:Nat):Prop:=∀{bt:Bool}{w0 W:World}{jb pb bf made base g cap:Nat}{d:Array aJ},fA bt w0 jb pb bf made base g cap d W->∀(a b limit:Nat),a<=b->b<=d.size->d.size<=1000000->b-a<=m->limit<=64->Sort.Below (ltOf (aR bt)) a b d ->
 Calls prog 292 #[.slice (some ⟨g,0,none⟩) d.size cap,.int .i64 (a:Int),.int .i64 (b:Int),.int .i64 (limit:Int),cN jb] W (mN bt w0 jb pb bf made base g cap (pdq (ltOf (aR bt)) d a b limit true true))
theorem KB:RH 12:=by
 intro bt w0 W jb pb bf made base g cap d h a b limit hab hb hsz hm hl _;have aiw:=aa (mO h a b hab hb hsz);rw[pdq_small hm];have hw:IntKind.i64.wrap ((b:Int)-(a:Int))=(b:Int)-(a:Int):=ax ae ae;have hle:(b:Int)-(a:Int)<=12:=by omega
 clear h;unfold cN ptrTo at *;generalize d.size=N at *;go_enter func292,ntmps292;go_wp2;refine wp_loop_rounds 1 ?_;rw[rounds_succ];go_wp2_with fail;refine aiw.o.mono ?_;rintro e w'⟨rfl,hs⟩;have HS:=aa hs;clear hs;go_wp2;go_returns;exact⟨rfl,HS.o⟩
theorem N4{n:Nat}(h:n<=1000000):Lib.bitLen n<=64:=Nat.le_trans (Lib.bitLen_le n 62 ae ae) af
theorem Hn{m:Nat}(hm:m<=1000000)(HP:RH m):qH m:=by
 intro w jb pb bf made b hj base g cap es hes ho hgj hgb;have hs:fA b w jb pb bf made base g cap es.toArray w:=⟨by simpa using ho,hj,hgj,hgb,aH.refl _ _⟩;have aix:=N4 (n:=es.length) ae;have hp:=HP hs 0 es.length (Lib.bitLen es.length) (Nat.zero_le _) ah (by simp;omega) ae aix (.inl rfl);obtain⟨Ho,xZ⟩:=pdq_sorts (ltOf (aR b)) (oz b) es.toArray 0 es.length (Lib.bitLen es.length) true true (Nat.zero_le _) ah (.inl rfl);have Xt:Calls prog 87 #[.int .u64 (es.length:Int)] w fun e w'=>e=.returned (.int .i64 (Lib.bitLen es.length:Nat))/\w'=w:=by
  have:=Any.bits_Len (SlLaysF0.n15.bits (P:=prog) (ρ:=Tryz.eJ) { Tryz.jS with }) (es.length:Int) w ae ae;rwa [Int.toNat_natCast]at this
 have HB:=aa Xt;generalize pdq (ltOf (aR b)) es.toArray 0 es.length (Lib.bitLen es.length) true true=D at *;have HQ:Hid (∀e w',mN b w jb pb bf made base g cap D e w'->Ar b w base g cap es e w'):=aa (fun e w' ⟨he,h2⟩=>by
  obtain⟨hsz,-,P7⟩:=Ho;have hsz':D.size=es.length:=by rw[hsz];simp
  refine⟨D.toList,he,?_,?_,?_,h2.turn⟩
  ·have e1:(D.extract 0 es.length).toList=D.toList:=by rw[<- hsz'];simp
   have e2:(es.toArray.extract 0 es.length).toList=es:=by simp
   rw[e1,e2]at P7;exact P7
  ·rw[List.pairwise_iff_getElem];intro i j hi hj fg;have h3:=xZ i j (Nat.zero_le _) fg (by rw[<- hsz'];simpa using hj);unfold ltOf at h3;rw[decide_eq_false_iff_not,Ai]at h3;rw[Array.length_toList]at hi hj;rw[getElem!_pos D i hi,getElem!_pos D j hj]at h3;rw[Array.getElem_toList,Array.getElem_toList];exact h3
  ·have:=h2.row;rw[hsz']at this;exact this)
 have HC:=aa hp;have hw:IntKind.u64.wrap (es.length:Int)=(es.length:Int):=iM _ ae ae;clear Xt hp Ho xZ hs hj ho;simp only[List.size_toArray]at HC;unfold cN ptrTo at *;generalize es.length=N at *;go_enter func260,ntmps260;go_wp2_with fail;refine HB.o.mono ?_;rintro e w'⟨rfl,rfl⟩;go_wp2_with fail;refine HC.o.mono ?_;rintro e w2⟨rfl,hs⟩;have HS:=aa hs;clear hs;go_wp2;go_returns;exact HQ.o _ _ ⟨rfl,HS.o⟩
structure Round(lt:aJ->aJ->Bool)(a b lim:Nat)(wb wp:Bool)(dk:Array aJ)(R:Sort.Rd aJ):Prop where
 brk:wb=false->R.d1=breakPatterns dk a b/\R.lim=lim-1
 nob:wb=true->R.d1=dk/\R.lim=lim
 c:R.c=choosePivot lt R.d1 a b
 dec:R.c.2=.decreasing->R.d2=reverseRange R.d1 a b/\R.pivot=(b-1)-(R.c.1-a)/\R.hint=.increasing
 RI:R.c.2≠.decreasing->R.d2=R.d1/\R.pivot=R.c.1/\R.hint=R.c.2
 yes:(wb && wp && decide (R.hint=.increasing))=true->R.pi=partialInsertionSort lt R.d2 a b
 no:(wb && wp && decide (R.hint=.increasing))=false->R.pi=(R.d2,false)
 s1:R.d1.size=dk.size
 c1:a<=R.c.1
 c2:R.c.1<b
 s2:R.d2.size=dk.size
 p1:a<=R.pivot
 p2:R.pivot<b
 s3:R.pi.1.size=dk.size
 B3:Sort.Below lt a b R.pi.1
 jT:R.lim<=lim
 done:R.pi.2=true->pdq lt dk a b lim wb wp=R.pi.1
 eq:R.pi.2=false->(decide (a>0) && !lt R.pi.1[a-1]! R.pi.1[R.pivot]!)=true->∀mid d4,partitionEqual lt R.pi.1 a b R.pivot=(mid,d4)->a<mid->mid<=b->pdq lt dk a b lim wb wp=pdq lt d4 mid b R.lim wb wp
 left:R.pi.2=false->(decide (a>0) && !lt R.pi.1[a-1]! R.pi.1[R.pivot]!)=false->∀mid ap d4,partition lt R.pi.1 a b R.pivot=(mid,ap,d4)->a<=mid->mid<b->mid-a<b-mid->pdq lt dk a b lim wb wp=pdq lt (pdq lt d4 a mid R.lim true true) (mid+1) b R.lim (decide (mid-a >= (b-a)/8)) ap
 right:R.pi.2=false->(decide (a>0) && !lt R.pi.1[a-1]! R.pi.1[R.pivot]!)=false->∀mid ap d4,partition lt R.pi.1 a b R.pivot=(mid,ap,d4)->a<=mid->mid<b->¬mid-a<b-mid->pdq lt dk a b lim wb wp=pdq lt (pdq lt d4 (mid+1) b R.lim true true) a mid R.lim (decide (b-mid >= (b-a)/8)) ap
theorem RJ{lt:aJ->aJ->Bool}(h:SWO lt){a b lim:Nat}(wb wp:Bool){dk:Array aJ}(EB:¬b-a<=12)(h0:¬lim=0)(hb:b<=dk.size)(hB:Sort.Below lt a b dk):Round lt a b lim wb wp dk (rd lt dk a b lim wb wp):=by
 obtain⟨s1,B1,hc1,s2,B2,Xu,s3,B3⟩:=rd_facts (limit:=lim) (wb:=wb) (wp:=wp) h partialInsertionSort_holds reverseRange_holds (show a<b by omega) hb hB;exact {
  brk:=by rintro rfl;exact rd_false
  nob:=by rintro rfl;exact rd_true
  c:=rd_c
  dec:=rd_dec
  RI:=rd_not
  yes:=rd_pi_yes
  no:=rd_pi_no
  s1:=s1
  c1:=hc1.1
  c2:=hc1.2
  s2:=s2
  p1:=Xu.1
  p2:=Xu.2
  s3:=s3
  B3:=B3
  jT:=rd_lim_le
  done:=pdq_done EB h0
  eq:=fun h1 h2 mid d4 hx r1 r2=>by rw[pdq_eq EB h0 h1 h2 (by rw[hx];exact⟨r1,r2⟩),hx]
  left:=fun h1 h2 mid ap d4 hx r1 r2 h4=>by rw[pdq_left EB h0 h1 h2 (by rw[hx];exact⟨r1,r2⟩) (by rw[hx];exact h4),hx]
  right:=fun h1 h2 mid ap d4 hx r1 r2 h4=>by rw[pdq_right EB h0 h1 h2 (by rw[hx];exact⟨r1,r2⟩) (by rw[hx];exact h4),hx] }
theorem N5{h:Hint}(e:mP h=2):h=.decreasing:=by cases h<;>simp[mP]at e ⊢
theorem Vj:∀m,RH m:=by
 intro m;induction m with
 |zero=>exact fun h a b l h1 h2 h3 h4 h5 h6=>KB h a b l h1 h2 h3 ae h5 h6
 |succ m ih=>
   intro bt w0 W jb pb bf made base g cap d h a b limit hab hb hsz hm hl RM;have H:=aa h;have kK:=aa RM;obtain⟨N,hN⟩:∃N,N=d.size:=⟨_,rfl⟩;rw[<- hN]at hb hsz ⊢;obtain⟨r,hr⟩:∃r,r=pdq (ltOf (aR bt)) d a b limit true true:=⟨_,rfl⟩;rw[<- hr];have HR0:Hid (pdq (ltOf (aR bt)) d a b limit true true=r):=aa hr.symm;have HX:Hid (a<=b/\b<=N/\N<=1000000/\b-a<=m+1/\limit<=64/\d.size=N):=aa ae;clear h hN RM hr hab hb hsz hm hl;unfold cN ptrTo;go_enter func292,ntmps292;go_wp2_with fail;go_loopw [1,2,3,10,11] (fun s1 s2 s3 s10 s11 wr=>∃(a1 b1 lim:Nat)(wb wp:Bool)(dk:Array aJ),s1=.int .i64 (a1:Int)/\s2=.int .i64 (b1:Int)/\s3=.int .i64 (lim:Int)/\s10=.bool wb/\s11=.bool wp/\a1<=b1/\b1<=N/\b1-a1<=m+1/\lim<=64/\dk.size=N/\Hid (Sort.Below (ltOf (aR bt)) a1 b1 dk)/\fA bt w0 jb pb bf made base g cap dk wr/\Hid (pdq (ltOf (aR bt)) dk a1 b1 lim wb wp=r)) (fun s1 s2 _ _ _ _=>(intOf s2-intOf s1).toNat)
   case atStart=>exact⟨a,b,limit,true,true,d,rfl,rfl,rfl,rfl,rfl,HX.o.1,HX.o.2.1,HX.o.2.2.2.1,HX.o.2.2.2.2.1,HX.o.2.2.2.2.2,kK,H.o,HR0⟩
   case round=>
    obtain⟨a1,b1,lim,wb,wp,dk,rfl,rfl,rfl,rfl,rfl,Zq,hb1,Nv,Kg,hsk,HBk,hs,HO⟩:=hrel;generalize wr=Wr at *;have HS:=aa hs;have HZ:=aa hsk;obtain⟨L,hL⟩:∃L,L=b1-a1:=⟨_,rfl⟩;have wL:IntKind.i64.wrap ((b1:Int)-(a1:Int))=(L:Int):=by
     have:=HX.o;rw[ax]<;>omega
    have HK:Hid (a1<=b1/\b1<=N/\L=b1-a1/\L<=m+1/\lim<=64/\N<=1000000/\dk.size=N):=aa (by have:=HX.o;omega);clear hs hsk hL Zq hb1 Nv Kg;by_cases EB:L<=12
    ·have Zr:(L:Int)<=12:=by omega
     have hc:=mO HS.o a1 b1 HK.o.1 (by have:=HK.o;omega) (by have:=HK.o;omega);rw[HZ.o]at hc;unfold cN ptrTo at hc;have HC:=aa hc;clear hc;have HF:Hid (r=insertionSort (ltOf (aR bt)) dk a1 b1):=aa (by rw[<- HO.out];exact pdq_small (by have:=HK.o;omega));go_wp2_with fail;refine HC.o.mono ?_;rintro e w1⟨rfl,hs1⟩;have iY:=aa hs1;clear hs1;go_wp2;go_returns;rw[HF.o];exact⟨rfl,iY.o⟩
    ·have Zr:¬((L:Int)<=12):=by omega
     by_cases hl0:lim=0
     ·subst hl0;have hc:=EJ HS.o a1 b1 (by have:=HK.o;omega) (by have:=HK.o;omega) (by have:=HK.o;omega);rw[HZ.o]at hc;unfold cN ptrTo at hc;have HC:=aa hc;clear hc;have HF:Hid (r=heapSort (ltOf (aR bt)) dk a1 b1):=aa (by rw[<- HO.out];exact pdq_heap (by have:=HK.o;omega) rfl);go_wp2_with fail;refine HC.o.mono ?_;rintro e w1⟨rfl,hs1⟩;have iY:=aa hs1;clear hs1;go_wp2;go_returns;rw[HF.o];exact⟨rfl,iY.o⟩
     ·have aiB:((lim:Int) == 0)=false:=by simp;omega
      have JG:Hid (1<=lim/\12<L):=aa ae;obtain⟨R,HR⟩:∃R,Hid (Round (ltOf (aR bt)) a1 b1 lim wb wp dk R):=⟨_,aa (RJ (oz bt) wb wp (by have:=HK.o;omega) hl0 (by have:=HK.o;omega) HBk.out)⟩;clear hl0 EB;go_upto_if 39 with fail
      go_cut [3] from 21 to 147 (fun s3 wc=>s3=.int .i64 (R.lim:Int)/\fA bt w0 jb pb bf made base g cap R.d1 wc)
      case first=>
       cases wb with
       |false=>
         obtain⟨e1,e2⟩:=HR.out.brk rfl;have hc:=uy HS.o a1 b1 (by have:=HK.o;have:=JG.o;omega) (by have:=HK.o;omega) (by have:=HK.o;omega);rw[HZ.o,<- e1]at hc;unfold cN ptrTo at hc;have HC:=aa hc;have wl1:IntKind.i64.wrap ((lim:Int)-1)=(R.lim:Int):=by
          have:=HK.o;have:=JG.o
          rw[ax]<;>omega
         clear hc e1 e2;go_wp2_with fail;refine HC.o.mono ?_;rintro e w1⟨rfl,hs1⟩;have iY:=aa hs1;clear hs1;go_wp2;go_meet
         exact⟨rfl,iY.o⟩
       |true=>
         obtain⟨e1,e2⟩:=HR.out.nob rfl;go_wp2;go_meet
         exact⟨by rw[e2],by rw[e1];exact HS.o⟩
      case rest=>
       obtain⟨rfl,hs1⟩:=hcut;have iY:=aa hs1;have Xv:Hid (R.d1.size=N):=aa (HR.out.s1.trans HZ.o);clear hs1;have hc:=yL iY.o a1 b1 (by have:=HK.o;have:=JG.o;omega) (by have:=HK.o;have:=Xv.o;omega) (by have:=HK.o;have:=Xv.o;omega);rw[Xv.o,<- HR.out.c]at hc;unfold cN ptrTo at hc;have HC:=aa hc;clear hc;go_upto_if 56 with fail
       refine HC.o.mono ?_;rintro e w2⟨rfl,hs2⟩;have eR:=aa hs2;clear hs2 HC;go_upto_if 56 with fail
       go_cut [13,14] from 21 to 147 (fun s13 s14 wc=>s13=.int .i64 (R.pivot:Int)/\s14=.int .i64 (mP R.hint:Int)/\fA bt w0 jb pb bf made base g cap R.d2 wc)
       case first=>
        by_cases hh:R.c.2=.decreasing
        ·obtain⟨e2,Zs,Vk⟩:=HR.out.dec hh;have hz:(mP R.c.2:Int)=2:=by rw[hh];rfl
         have hc:=wm eR.o a1 b1 (by have:=HK.o;have:=JG.o;omega) (by have:=HK.o;have:=Xv.o;omega) (by have:=HK.o;have:=Xv.o;omega);rw[Xv.o,<- e2]at hc;unfold cN ptrTo at hc;have HC:=aa hc;obtain⟨P,hP⟩:∃P,P=R.c.1-a1:=⟨_,rfl⟩;have wb1:IntKind.i64.wrap ((b1:Int)-1)=(b1:Int)-1:=by
          have:=HK.o;have:=JG.o
          rw[ax]<;>omega
         have wP:IntKind.i64.wrap ((R.c.1:Int)-(a1:Int))=(P:Int):=by
          have:=HK.o;have:=HR.out.c1;have:=HR.out.c2
          rw[ax]<;>omega
         have wV:IntKind.i64.wrap ((b1:Int)-1-(P:Int))=(R.pivot:Int):=by
          have:=HK.o;have:=HR.out.c1;have:=HR.out.c2
          rw[ax]<;>omega
         have HE:Hid (R.hint=.increasing):=aa Vk;clear hc e2 Zs Vk hP hh;go_wp2_with fail;refine HC.o.mono ?_;rintro e w3⟨rfl,hs3⟩;have fB:=aa hs3;clear hs3;go_wp2;go_meet
         exact⟨rfl,by rw[HE.o];rfl,fB.o⟩
        ·obtain⟨e2,Zs,Vk⟩:=HR.out.RI hh;have hz:((mP R.c.2:Int) == 2)=false:=by
          simp only[beq_eq_false_iff_ne,ne_eq];exact fun h=>hh (N5 ae)
         go_wp2;go_meet
         exact⟨by rw[Zs],by rw[Vk],by rw[e2];exact eR.o⟩
       case rest=>
        obtain⟨rfl,rfl,hs3⟩:=hcut;have fB:=aa hs3;have HZ2:Hid (R.d2.size=N):=aa (HR.out.s2.trans HZ.o);clear hs3;obtain⟨z,hz⟩:∃z:Int,z=(mP R.hint:Int):=⟨_,rfl⟩;rw[<- hz];have HV:Hid (decide (R.hint=.increasing)=(z == 1)):=aa (by rw[hz];cases R.hint<;>rfl);clear hz;go_upto_region 15 with fail
        go_cut [75] from 21 to 147 (fun s75 wx=>s75=.bool (wb && wp && decide (R.hint=.increasing))/\fA bt w0 jb pb bf made base g cap R.d2 wx)
        case first=>
         cases wb<;>cases wp<;>(
          go_wp2_with fail;go_meet
          exact⟨by rw[HV.o];simp,fB.o⟩)
        case rest=>
         obtain⟨rfl,oX⟩:=hcut;have gq:=aa oX;clear oX;go_upto_if 75 with fail
         go_cut [] from 21 to 147 (fun wx=>R.pi.2=false/\fA bt w0 jb pb bf made base g cap R.pi.1 wx)
         case first=>
          cases h68:(wb && wp && decide (R.hint=.increasing))
          ·have Vl:=aa (HR.out.no h68);go_wp2;go_meet
           exact⟨by rw[Vl.o],by rw[Vl.o];exact gq.o⟩
          ·have Vl:=aa (HR.out.yes h68);have hc:=nK gq.o a1 b1 (by have:=HK.o;have:=JG.o;omega) (by have:=HK.o;have:=HZ2.o;omega) (by have:=HK.o;have:=HZ2.o;omega);rw[HZ2.o,<- Vl.o]at hc;unfold cN ptrTo at hc;have HC:=aa hc;clear hc;cases j7:R.pi.2
           ·go_wp2_with fail;refine HC.o.mono ?_;rintro e w4⟨rfl,oX⟩;rw[j7];have b9:=aa oX;have pU:=aa j7;clear oX j7;go_wp2;go_meet
            exact⟨pU.o,b9.o⟩
           ·have HF:Hid (r=R.pi.1):=aa (by rw[<- HO.out];exact HR.out.done j7);go_wp2_with fail;refine HC.o.mono ?_;rintro e w4⟨rfl,oX⟩;rw[j7];have b9:=aa oX;clear oX j7;go_wp2;go_returns;rw[HF.o];exact⟨rfl,b9.o⟩
         case rest=>
          obtain⟨j7,hs5⟩:=hcut;have b9:=aa hs5;have pU:=aa j7;have PR:Hid (R.pi.1.size=N):=aa (HR.out.s3.trans HZ.o);clear hs5 j7;generalize wc=W5 at *;have bV:(R.pivot:Int)<(N:Int):=by have:=HR.out.p2;have:=HK.o;omega
          go_upto_region 17 with fail
          go_cut [97] from 21 to 147 (fun s97 wx=>s97=.bool (decide (a1>0) && !ltOf (aR bt) R.pi.1[a1-1]! R.pi.1[R.pivot]!)/\fA bt w0 jb pb bf made base g cap R.pi.1 wx)
          case first=>
           rcases Nat.eq_zero_or_pos a1 with ha0 | ha0
           ·have adl:decide ((a1:Int)>0)=false:=decide_eq_false ae;have aiE:decide (0<a1)=false:=decide_eq_false ae;have HA0:=aa ha0;clear ha0;go_wp2_with fail;go_quiet (fail)
            have vt:RowKit.Below W5.heap.size W5 (W5.drewN nq):=⟨rfl,rfl,rfl,Nat.le_refl _,fun _ _=>rfl⟩;have gA:=aa (b9.o.below vt);clear vt;go_wp2;go_meet
            exact⟨by simp[HA0.o],gA.o⟩
           ·have adl:(a1:Int)>0:=by omega
            obtain⟨A1,hA1⟩:∃A1,A1=a1-1:=⟨_,rfl⟩;have bA:(A1:Int)<(N:Int):=by have:=HK.o;omega
            have wA1:IntKind.i64.wrap ((a1:Int)-1)=(A1:Int):=by
             have:=HK.o;rw[ax]<;>omega
            obtain⟨x,hx⟩:∃x,R.pi.1[A1]! = x:=⟨_,rfl⟩;obtain⟨y,hy⟩:∃y,R.pi.1[R.pivot]! = y:=⟨_,rfl⟩;have F:=aa (b9.o.reads (i:=A1) (j:=R.pivot) (by have:=HK.o;have:=PR.o;omega) (by have:=HK.o;have:=PR.o;have:=HR.out.p2;omega) hx hy);have HW:Hid ((decide (a1>0) && !ltOf (aR bt) R.pi.1[a1-1]! R.pi.1[R.pivot]!)=!decide (aR bt x y<0)):=aa (by
             rw[<- hA1,hx,hy,decide_eq_true ha0];rfl)
            clear hA1 hx hy;by_cases hl:aR bt x y<0
            ·go_wp2_with fail;refine wq W5 ?_;iterate 8 (refine qz ?_)
             refine qz ?_ (fun w' hw'=>by obtain⟨⟨c0,c1,c2,c3⟩,-,-⟩:=F.o w' hw';go_simp<;>rfl);iterate 3 (refine qz ?_)
             refine qz ?_ (fun w' hw'=>by obtain⟨-,⟨c0,c1,c2,c3⟩,-⟩:=F.o w' hw';go_simp<;>rfl);refine qw (fun w' hw'=>(F.o w' hw').2.2) ?_;iterate 3 (refine qz ?_)
             refine wpQuiet_nil ?_;intro w6 Vm;have gA:=aa (b9.o.below Vm);clear Vm;go_wp2;go_meet
             exact⟨by rw[HW.o,decide_eq_true hl];rfl,gA.o⟩
            ·have s6:decide (aR bt x y<0)=false:=decide_eq_false hl;go_wp2_with fail;refine wq W5 ?_;iterate 8 (refine qz ?_)
             refine qz ?_ (fun w' hw'=>by obtain⟨⟨c0,c1,c2,c3⟩,-,-⟩:=F.o w' hw';go_simp<;>rfl);iterate 3 (refine qz ?_)
             refine qz ?_ (fun w' hw'=>by obtain⟨-,⟨c0,c1,c2,c3⟩,-⟩:=F.o w' hw';go_simp<;>rfl);refine qw (fun w' hw'=>(F.o w' hw').2.2) ?_;iterate 3 (refine qz ?_)
             refine wpQuiet_nil ?_;intro w6 Vm;have gA:=aa (b9.o.below Vm);clear Vm;go_wp2;go_meet
             exact⟨by rw[HW.o,s6];rfl,gA.o⟩
          case rest=>
           obtain⟨rfl,Ug⟩:=hcut;have gA:=aa Ug;clear Ug;cases N6:(decide (a1>0) && !ltOf (aR bt) R.pi.1[a1-1]! R.pi.1[R.pivot]!)
           ·obtain⟨mid,ap,d4,hx⟩:∃mid ap d4,partition (ltOf (aR bt)) R.pi.1 a1 b1 R.pivot=(mid,ap,d4):=⟨(partition (ltOf (aR bt)) R.pi.1 a1 b1 R.pivot).1,(partition (ltOf (aR bt)) R.pi.1 a1 b1 R.pivot).2.1,(partition (ltOf (aR bt)) R.pi.1 a1 b1 R.pivot).2.2,rfl⟩;have Vn:=aa (round_part (oz bt) (partition_holds (ltOf (aR bt))) HR.out.p1 HR.out.p2 (show b1<=R.pi.1.size by have:=HK.o;have:=PR.o;omega) HR.out.B3 hx);have hc:=Cu gA.o a1 b1 R.pivot HR.out.p1 HR.out.p2 (by have:=HK.o;have:=PR.o;omega) (by have:=HK.o;have:=PR.o;omega);rw[PR.o,hx]at hc;unfold cN ptrTo at hc;have HC:=aa hc;have hr1:=Vn.o.1;have hr2:=Vn.o.2.1;have Xw:=aa (HR.out.left pU.o N6 mid ap d4 hx hr1 hr2);have HRT:=aa (HR.out.right pU.o N6 mid ap d4 hx hr1 hr2);have uY:Hid (d4.size=N):=aa (Vn.o.2.2.1.trans PR.o);obtain⟨A,hA⟩:∃A,A=mid-a1:=⟨_,rfl⟩;obtain⟨B,hB⟩:∃B,B=b1-mid:=⟨_,rfl⟩;obtain⟨E,hE⟩:∃E,E=L/8:=⟨_,rfl⟩;have wA:IntKind.i64.wrap ((mid:Int)-(a1:Int))=(A:Int):=by
             have:=HK.o;rw[ax]<;>omega
            have wB:IntKind.i64.wrap ((b1:Int)-(mid:Int))=(B:Int):=by
             have:=HK.o;rw[ax]<;>omega
            have wE:IntKind.i64.wrap ((L:Int).tdiv 8)=(E:Int):=by
             have:=HK.o;rw[show((L:Int)).tdiv 8=((L/8:Nat):Int) from rfl,ax]<;>omega
            have wE2:IntKind.i64.wrap ((L:Int)/8)=(E:Int):=by
             have:=HK.o;rw[ax]<;>omega
            have wM:IntKind.i64.wrap ((mid:Int)+1)=((mid+1:Nat):Int):=by
             have:=HK.o;rw[ax]<;>omega
            have HM:Hid (A=mid-a1/\B=b1-mid/\E=L/8/\a1<=mid/\mid<b1):=aa ⟨hA,hB,hE,hr1,hr2⟩;clear hc hx hA hB hE hr1 hr2 N6;go_wp2_with fail;refine HC.o.mono ?_;rintro e w7⟨rfl,KC⟩;dsimp only at KC;have jU:=aa KC;clear KC HC;by_cases h4:A<B
            ·have h4z:(A:Int)<(B:Int):=by omega
             have Hp:=ih jU.o a1 mid R.lim HM.o.2.2.2.1 (by have:=HK.o;have:=HM.o;have:=uY.o;omega) (by have:=HK.o;have:=uY.o;omega) (by have:=HK.o;have:=HM.o;omega) (Nat.le_trans HR.out.jT HK.o.2.2.2.2.1) Vn.o.2.2.2.1;obtain⟨pL,sL⟩:=pdq_sorts (ltOf (aR bt)) (oz bt) d4 a1 mid R.lim true true HM.o.2.2.2.1 (by have:=HK.o;have:=HM.o;have:=uY.o;omega) Vn.o.2.2.2.1;have EM:=aa (Vn.o.2.2.2.2.2.1 _ pL sL).1;have HZ5:Hid ((pdq (ltOf (aR bt)) d4 a1 mid R.lim true true).size=N):=aa (pL.1.trans uY.o);have HF:Hid (pdq (ltOf (aR bt)) (pdq (ltOf (aR bt)) d4 a1 mid R.lim true true) (mid+1) b1 R.lim (decide (A >= E)) ap=r):=aa (by
              have q:=HM.o;rw[<- HO.out,Xw.o ae,q.1,q.2.2.1,HK.o.2.2.1])
             rw[uY.o]at Hp;unfold cN ptrTo at Hp;have FT:=aa Hp;clear Hp pL sL h4;go_wp2_with fail;refine FT.o.mono ?_;rintro e w8⟨rfl,KD⟩;have jG:=aa KD;clear KD FT;go_wp2;have q:=HM.o;have q2:=HK.o;exact⟨⟨mid+1,b1,R.lim,decide (A >= E),ap,_,rfl,rfl,rfl,congrArg Value.bool ah,rfl,ae,ae,ae,Nat.le_trans HR.out.jT q2.2.2.2.2.1,HZ5.o,EM,jG.o,HF⟩,by simp[intOf];omega⟩
            ·have h4z:¬(A:Int)<(B:Int):=by omega
             have Hp:=ih jU.o (mid+1) b1 R.lim HM.o.2.2.2.2 (by have:=HK.o;have:=HM.o;have:=uY.o;omega) (by have:=HK.o;have:=uY.o;omega) (by have:=HK.o;have:=HM.o;omega) (Nat.le_trans HR.out.jT HK.o.2.2.2.2.1) Vn.o.2.2.2.2.1;obtain⟨pL,sL⟩:=pdq_sorts (ltOf (aR bt)) (oz bt) d4 (mid+1) b1 R.lim true true HM.o.2.2.2.2 (by have:=HK.o;have:=HM.o;have:=uY.o;omega) Vn.o.2.2.2.2.1;have EM:=aa (Vn.o.2.2.2.2.2.2 _ pL sL).1;have HZ5:Hid ((pdq (ltOf (aR bt)) d4 (mid+1) b1 R.lim true true).size=N):=aa (pL.1.trans uY.o);have HF:Hid (pdq (ltOf (aR bt)) (pdq (ltOf (aR bt)) d4 (mid+1) b1 R.lim true true) a1 mid R.lim (decide (B >= E)) ap=r):=aa (by
              have q:=HM.o;rw[<- HO.out,HRT.o ae,q.2.1,q.2.2.1,HK.o.2.2.1])
             rw[uY.o]at Hp;unfold cN ptrTo at Hp;have FT:=aa Hp;clear Hp pL sL h4;go_wp2_with fail;refine FT.o.mono ?_;rintro e w8⟨rfl,KD⟩;have jG:=aa KD;clear KD FT;go_wp2;have q:=HM.o;have q2:=HK.o;exact⟨⟨a1,mid,R.lim,decide (B >= E),ap,_,rfl,rfl,rfl,congrArg Value.bool ah,rfl,ae,ae,ae,Nat.le_trans HR.out.jT q2.2.2.2.2.1,HZ5.o,EM,jG.o,HF⟩,by simp[intOf];omega⟩
           ·have EN:=N6;simp only[Bool.and_eq_true,decide_eq_true_eq,Bool.not_eq_true']at EN;obtain⟨mid,d4,hx⟩:∃mid d4,partitionEqual (ltOf (aR bt)) R.pi.1 a1 b1 R.pivot=(mid,d4):=⟨(partitionEqual (ltOf (aR bt)) R.pi.1 a1 b1 R.pivot).1,(partitionEqual (ltOf (aR bt)) R.pi.1 a1 b1 R.pivot).2,rfl⟩;have PS:=aa (round_eq (oz bt) (partitionEqual_holds (ltOf (aR bt))) EN.1 HR.out.p1 HR.out.p2 (show b1<=R.pi.1.size by have:=HK.o;have:=PR.o;omega) HR.out.B3 EN.2 hx);have hc:=s7 gA.o a1 b1 R.pivot HR.out.p1 HR.out.p2 (by have:=HK.o;have:=PR.o;omega) (by have:=HK.o;have:=PR.o;omega);rw[PR.o,hx]at hc;unfold cN ptrTo at hc;have HC:=aa hc;have HF:Hid (pdq (ltOf (aR bt)) d4 mid b1 R.lim wb wp=r):=aa (by
             rw[<- HO.out,HR.out.eq pU.o N6 mid d4 hx PS.o.1 PS.o.2.1])
            have uY:Hid (d4.size=N):=aa (PS.o.2.2.1.trans PR.o);clear hc hx N6 EN;go_wp2_with fail;refine HC.o.mono ?_;rintro e w7⟨rfl,KC⟩;dsimp only at KC;have jU:=aa KC;clear KC HC;go_wp2;have q1:=PS.o.1;have q3:=PS.o.2.1;have q2:=HK.o;exact⟨⟨mid,b1,R.lim,wb,wp,d4,rfl,rfl,rfl,rfl,rfl,q3,q2.2.1,ae,Nat.le_trans HR.out.jT q2.2.2.2.2.1,uY.o,aa PS.o.2.2.2.1,jU.o,HF⟩,by simp[intOf];omega⟩
theorem D5{m:Nat}(hm:m<=1000000):qH m:=Hn hm (Vj m)
end
section
open Go.RowKit Go.Maps Go.MapKept
theorem Ax{κ υ:Type}[DecidableEq κ]{m:List (κ×υ)}{k:κ}(h:aB m k=none):b8 m k=m:=by
 grind [b8,List.filter_eq_self,aB,Option.map_eq_none_iff]
theorem iT(L:aD)(p:Name×gT):need (p::L)=p.2.need+need L:=by
 rfl
theorem pY{L:aD}{k:Name}(f:gT)(h:aB L k=none):need (aS L k f)=f.need+need L:=by
 grind [aS,Ax,iT]
theorem cH(es:List aJ)(fl:Bool):(aw es fl).need<=4*es.length:=by
 grind [aw,gT.need,dW,cA,eQ]
def ju(d d':Dsk)(B c:Nat):Prop:=c=5/\d.bD<B\/c=6/\d'.dead=true
theorem kI.num{d d':Dsk}{L:aD}{c B:Nat}(h:kI d d' L c)(hB:need L<=B):ju d d' B c:=by
 rcases h with⟨h1,h2⟩| h
 ·exact .inl ⟨h1,ae⟩
 ·exact .inr h
theorem ju.ne{d d':Dsk}{B c:Nat}(h:ju d d' B c):c≠0:=by rcases h with h | h<;>omega
theorem ju.mono{d d':Dsk}{B B' c:Nat}(h:ju d d' B c)(hB:B<=B'):ju d d' B' c:=by
 rcases h with⟨h1,h2⟩| h
 ·exact .inl ⟨h1,ae⟩
 ·exact .inr h
theorem ju.later{d d1 d2:Dsk}{B c:Nat}(hq:d1.bD=d.bD)(h:ju d1 d2 B c):ju d d2 B c:=by
 rcases h with⟨h1,h2⟩| h
 ·exact .inl ⟨h1,ae⟩
 ·exact .inr h
def Hq(S:Nat->Prop)(n pb db:Nat)(w:World)(o:ar)(d:Dsk)(L:aD)(name:Name)(out:List aJ)(B:Nat)(e:Ending)(w':World):Prop:=
 ∃c d' o' L',e=.returned (.int .i64 ((c:Nat):Int))/\au S n pb db w o d w' o' d' L'/\(c=0/\L'=aS L name (aw out false)\/ju d d' B c)/\∀x,x≠name->aB L' x=aB L x
section
variable {S:Nat->Prop} {w w':World} {pb db n cb kb sb jb bf made:Nat} {by':Bool} {name:Name} {o o':ar} {d d':Dsk} {L L':aD}
theorem EO(HW:aP){m:Nat}(HS:qH m)(h:aQ w pb db n o d L)(hj:cU w jb pb bf made by')(lI:o jb=none)(_hob:o bf=none)(eD:bM name=true)(hno:aB L name=none){v:Value}{base:Nat}{es:List aJ}(hv:aI w base v es)(my:∀x,v.ownBlock=some x->o x=none/\x≠jb/\x≠bf)(hm:es.length<=m)(hes:es.length<65535) :
 Calls prog 222 #[ptrTo jb,.string name,v] w (Hq (fun x=>v.ownBlock=some x) n pb db w o d L name (aK by' es) (need L+4*es.length)):=by
 have xZ:Hid (Calls prog 260 #[v,cN jb] w (fun e w'=>∃ts,e=.returned (.tuple #[])/\ts.Perm es/\ts.Pairwise (dE by')/\aI w' base v ts/\aH (fun x=>v.ownBlock=some x) w w')):=aa (by
  rcases cm hv with⟨rfl,rfl⟩|⟨g,cap,rfl,hg,hc1,hc2⟩
  ·refine(ED _ _ _ _).mono ?_;rintro e w'⟨rfl,rfl⟩;exact⟨[],rfl,List.Perm.refl _,List.Pairwise.nil,hv,aH.refl _ _⟩
  ·refine(HS hj es hm hv (my g rfl).2.1 (my g rfl).2.2).mono ?_;rintro e w'⟨ts,rfl,h1,h2,h3,h4⟩;exact⟨ts,rfl,h1,h2,h3,h4.mono (fun x _ e=>by rw[e];rfl)⟩)
 have Kh:∃a cap,v=.slice a es.length cap/\∀x,v.ownBlock=some x->a=some ⟨x,0,none⟩:=by
  rcases cm hv with⟨rfl,rfl⟩|⟨g,cap,rfl,hg,hc1,hc2⟩
  ·exact⟨none,0,rfl,fun x hx=>by cases hx⟩
  ·exact⟨some ⟨g,0,none⟩,cap,rfl,fun x hx=>by cases hx;rfl⟩
 have EP:Hid (∀W,aQ W pb db n o d L->cU W jb pb bf made by'->Calls prog 223 #[ptrTo jb,.string name] W (l6 n pb db W o d L name)):=aa (fun W hW hjW=>sj hW hjW lI eD hno);have hput:Hid (∀W o' d' kb sb out,aQ W pb db n o' d' (aS L name (aw out false))->aC W sb pb name 20->o' sb=none->o' kb=none->kb≠sb->eZ W kb sb out->out.length<65535->∀x:aJ,
  Calls prog 225 #[ptrTo kb,.agg #[.int .u32 (x.t.toNat:Int),.int .u32 (x.h.toNat:Int),.int .u64 (x.x.toNat:Int),.int .u32 (x.m.toNat:Int)]] W (Al n pb db W o' d' (aS L name (aw out false)) name kb sb out x)):=
  aa (fun W o' d' kb sb out hW hst ho RN hne hk hl x=>xV HW hW hst ho RN hne (by grind [ay]) hl hk x)
 have H:=aa h;have HJ:=aa hj;have vV:=aa my;have Zt:=aa hno;have FU:Hid (∀x,v.ownBlock=some x->x<w.heap.size):=aa (fun x hx=>(aL hv x hx).1);have Ay:Hid (∀ts:List aJ,ts.Perm es->ts.Pairwise (dE by')->fF ts=aK by' es):=aa (fun ts h1 h2=>((vS h2).congr (fun x=>h1.mem_iff)).eq);obtain⟨a,cap,rfl,ha⟩:=Kh;have HA:=aa ha;clear h hj lI _hob eD hno hv my hm ha;unfold cN ptrTo at *;generalize hN:es.length=N at *;have HN:=aa hN;clear hN;go_enter func222,ntmps222;go_wp2_with fail;refine xZ.o.mono ?_;rintro e w1⟨ts,rfl,zE,hs1,Nl,mB⟩;have JV:ts.length=N:=by rw[zE.length_eq,HN.o]
 have HTL:=aa JV;have eu:Hid (au (fun x=>(Value.slice a N cap).ownBlock=some x) n pb db w o d w1 o d L):=aa ⟨H.o.kept mB (fun x hx e=>ar.dI (vV.o x e).1 hx) (fun _ _ h=>h) (fun x t hx=>Nat.lt_of_lt_of_le (H.o.owned x t hx) mB.size),mB.mono (fun _ _ h=>.inr h),cw.refl _ _,bK.refl _⟩;have Zu:Hid (cU w1 jb pb bf made by'):=aa (HJ.o.kept (mB.block _ HJ.o.lt.1 (fun e=>(vV.o _ e).2.1 rfl)) (mB.block _ HJ.o.lt.2 (fun e=>(vV.o _ e).2.2 rfl)));have UX:=aa Nl;have HB:=aa (Ay.o ts zE hs1);clear zE hs1 Nl mB JV;have aN:=aa (EP.o w1 eu.o.aX Zu.o);go_wp2_with fail;refine aN.o.mono ?_;rintro e w2⟨v2,c2,d2,o2,rfl,cQ,pV,jr⟩;have G6:=aa pV;have aiL:w.heap.size<=w1.heap.size:=eu.o.size;by_cases hc2:c2=0
 ·subst hc2;obtain⟨kb,sb,rfl,hk2,oB,Hr,Az,iW,hkb,vr⟩:=jr rfl;simp only[if_true]at cQ;have eB:=aa (eu.o.trans cQ (fun _ _ h=>h.elim));have T7:Hid (aI w2 base (.slice a N cap) ts):=aa (cQ.ownsRow UX.o (fun b hb=>⟨(vV.o b hb).1,fun h=>h⟩));have HK2:=aa hk2;have nC:=aa oB;have Vo:=aa Hr;have Cv:=aa Az;have KE:=aa iW;have HNK:Hid (∀x,(Value.slice a N cap).ownBlock=some x->x≠kb):=aa (fun x hx e=>by grind [Hid.out]);have hs2:w.heap.size<=kb:=Nat.le_trans aiL hkb;clear jr cQ hk2 oB Hr Az iW pV aN;unfold ptrTo;go_wp2;go_loopw [27] (fun i wr=>∃(k:Nat)(d':Dsk)(o':ar),k<=N/\i=.int .i64 (k:Int)/\au (fun x=>(Value.slice a N cap).ownBlock=some x) n pb db w o d wr o' d' (aS L name (aw (fF (ts.take k)) false))/\eZ wr kb sb (fF (ts.take k))/\aC wr sb pb name 20/\o' kb=none/\o' sb=none/\aI wr base (.slice a N cap) ts/\(∀x,(Value.slice a N cap).ownBlock=some x->o' x=none)) (fun i _=>N-(intOf i).toNat)
  case atStart=>exact⟨0,d2,o2,Nat.zero_le _,rfl,by assumption,by assumption,nC.o,Vo.o,Cv.o,T7.o,fun x hx=>eB.o.free (FU.o x hx) (vV.o x hx).1⟩
  case round=>
   obtain⟨k,d3,o3,hk,rfl,ej,hk3,um,uk,N7,hv3,adn⟩:=hrel;have eC:=aa ej;have HK3:=aa hk3;have Cw:=aa um;have RO:=aa uk;have wy:=aa N7;have FQ:=aa hv3;have ado:=aa adn;have yE:=hk3.lt;have T4:=um.lt;clear ej hk3 um uk N7 hv3 adn;by_cases hlt:k<N
   ·have hkt:k<ts.length:=by grind [Hid.out]
    have Vp:∃g,a=some ⟨g,0,none⟩/\N<=cap/\cap<=maxLen:=by
     grind [cm,Hid.out]
    obtain⟨g,rfl,adp,RP⟩:=Vp;unfold maxLen at RP;have Xb:=FQ.o;rw[<- HTL.o]at Xb;obtain⟨e0,e1,e2,e3⟩:=bL Xb (List.getElem?_eq_getElem hkt);have hgl:g<wr.heap.size:=World.block_lt_of_cell? _ _ e0;have nz:Hid (fF (ts.take (k+1))=sU (fF (ts.take k)) ts[k]):=aa (by rw[List.take_succ_eq_append_getElem hkt,vQ]);have hpl:Hid ((fF (ts.take k)).length<=k):=aa (Nat.le_trans (mI _) (List.length_take_le _ _));have qi:Hid (∀ob:Obj,au (fun x=>(Value.slice (some ⟨g,0,none⟩) N cap).ownBlock=some x) n pb db w o d (wr.alloc ob) o3 d3 (aS L name (aw (fF (ts.take k)) false))):=aa (fun ob=>eC.o.alloc ob);have RQ:=aa (fun W(hW:aQ W pb db n o3 d3 (aS L name (aw (fF (ts.take k)) false)))(hst:aC W sb pb name 20)(hsk:eZ W kb sb (fF (ts.take k)))=>hput.o W o3 d3 kb sb (fF (ts.take k)) hW hst wy.o RO.o KE.o hsk (by grind [Hid.out]) ts[k]);clear Xb;generalize ts[k]=x at *;go_wp2_with fail;have hbl:∀ob:Obj,Below wr.heap.size wr (wr.alloc ob):=fun ob=>aj.alloc (Nat.le_refl _) ob;refine(RQ.o _ (qi.o _).aX (Cw.o.below (hbl _)) (HK3.o.below (hbl _))).mono ?_;rintro e w4⟨c4,d4,o4,rfl,eG,vp,hk4⟩;have Kk:Hid (aI w4 base (.slice (some ⟨g,0,none⟩) N cap) ts):=aa (eG.ownsRow (FQ.o.alloc _) (fun b hb=>⟨ado.o b hb,HNK.o b hb⟩));have ur:Hid (aC w4 sb pb name 20):=aa ((Cw.o.below (hbl _)).moved eG wy.o (fun e=>KE.o e.symm));have Vq:Hid (o4 kb=none):=aa (eG.free (Nat.lt_of_lt_of_le yE (hbl _).size) RO.o);have Vr:Hid (o4 sb=none):=aa (eG.free (Nat.lt_of_lt_of_le T4 (hbl _).size) wy.o);have api:Hid (∀x,(Value.slice (some ⟨g,0,none⟩) N cap).ownBlock=some x->o4 x=none):=aa (fun x hx=>eG.free (Nat.lt_of_lt_of_le (by cases hx;omega) (hbl _).size) (ado.o x hx));have HK4:=aa hk4;clear hk4 RQ e0 e1 e2 e3;by_cases ik:c4=0
    ·subst ik;simp only[if_true,iQ]at eG;have gp:=aa ((qi.o _).trans eG (fun x hx e=>by omega));have RR:=HK4.o rfl;rw[<- nz.o]at gp RR;have HK5:=aa RR;clear eG vp RR;go_wp2;go_roundw
     case rel=>grind [Hid.out]
     grind [intOf]
    ·have ui:¬(c4:Int)=0:=by omega
     rw[if_neg ik]at eG;have gp:=aa ((qi.o _).trans eG (fun x hx e=>by omega));have JQ:need (aS L name (aw (fF (ts.take k)) false))<=need L+4*N:=by
      rw[pY _ Zt.o];have h1:=cH (fF (ts.take k)) false;have h2:=hpl.o;omega
     have Cg:=aa (((vp.resolve_left ik).num JQ).later eC.o.on.bD);clear eG vp ik JQ;go_wp2;go_ret;exact⟨c4,d4,o4,_,rfl,gp.o,.inr Cg.o,fun x hx=>by grind [ay]⟩
   ·obtain rfl:k=N:=by omega
    go_wp2;go_ret;refine⟨0,d3,o3,_,rfl,eC.o,.inl ⟨rfl,?_⟩,fun x hx=>by grind [ay]⟩;grind [Hid.out]
 ·have Ku:¬(c2:Int)=0:=by omega
  have HC2:=aa hc2;rw[if_neg hc2]at cQ;have eB:=aa (eu.o.trans cQ (fun _ _ h=>h.elim));clear hc2 cQ jr pV aN;go_wp2;go_ret;exact⟨c2,d2,o2,_,rfl,eB.o,.inr (.inr (G6.o.resolve_left HC2.o)),fun x _=>rfl⟩
end
end
section
open Go.RowKit
abbrev tB:=Name×List aJ
def dO(rs:List tB)(L:aD):aD:=rs.foldl (fun L p=>aS L p.1 (aw p.2 false)) L
theorem AA(rs:List tB)(p:tB)(L:aD):dO (rs++[p]) L=aS (dO rs L) p.1 (aw p.2 false):=by grind [dO]
theorem s8(rs:List tB)(p:tB)(L:aD):dO (p::rs) L=dO rs (aS L p.1 (aw p.2 false)):=rfl
theorem eK(rs:List tB):∀(L:aD)(x:Name),x ∉ rs.map (·.1)->aB (dO rs L) x=aB L x:=by
 induction rs with
 |nil=>intro L x _;rfl
 |cons p rs ih=>
   grind [s8,ay]
theorem wz(rs:List tB):∀(L:aD),(rs.map (·.1)).Nodup->∀p∈rs,aB (dO rs L) p.1=some (aw p.2 false):=by
 induction rs with
 |nil=>simp
 |cons q rs ih=>
   grind [s8,eK,ay]
theorem KF(rs:List tB):∀(L:aD),(L.map (·.1)).Nodup->((dO rs L).map (·.1)).Nodup:=by
 induction rs with
 |nil=>intro L h;exact h
 |cons p rs ih=>intro L h;exact ih _ (cF h)
def lens(rs:List tB):Nat:=(rs.map (fun p=>p.2.length)).sum
theorem cO(L:aD)(k:Name)(f:gT):need (aS L k f)<=f.need+need L:=by
 unfold aS;rw[iT];have:need (b8 L k)<=need L:=by
  induction L with
  |nil=>exact Nat.le_refl _
  |cons q L ih=>
    grind [b8,iT]
 grind
theorem s9(rs:List tB):∀(L:aD),need (dO rs L)<=need L+4*lens rs:=by
 induction rs with
 |nil=>intro L;exact Nat.le_add_right _ _
 |cons p rs ih=>
   grind [s8,cO,cH,lens]
theorem x7(a b:List tB):lens (a++b)=lens a+lens b:=by grind [lens]
def en(rs:List tB):List aJ:=(rs.map (·.2)).flatten
theorem uz(a b:List tB):en (a++b)=en a++en b:=by grind [en]
theorem uA(rs:List tB):(en rs).length=lens rs:=by
 unfold en lens;rw[List.length_flatten,List.map_map];rfl
theorem cd(b:Bool)(l:List aJ):(aK b l).length<=l.length:=by
 grind [aK,mI,List.length_mergeSort]
theorem mQ(b:Bool)(l:List aJ):aK b (aK b l)=aK b l:=((bU b l).trans (bU b (aK b l))).eq
theorem ER{b:Bool}{l l':List aJ}(h:∀x,x∈l↔x∈l'):aK b l=aK b l':=((bU b l).congr h).eq
theorem mR(b:Bool)(l m:List aJ):aK b (aK b l++aK b m)=aK b (l++m):=((bU b l).both (bU b m) (bU b _)).eq
theorem ES(b:Bool)(l m:List aJ):aK b (l++aK b m)=aK b (l++m):=by
 rw[<- mR b l m,<- mR b l (aK b m),mQ]
theorem N8{b:Bool}{l l' m m':List aJ}(h1:aK b l=aK b l')(h2:aK b m=aK b m'):aK b (l++m)=aK b (l'++m'):=by
 rw[<- mR,h1,h2,mR]
theorem Hs(b:Bool)(l m:List aJ):aK b (l++m)=aK b (m++l):=ER fun x=>by grind
structure nL(b:Bool)(es:List aJ)(rs:List tB):Prop where
 each:∀p∈rs,aK b p.2=p.2
 all:aK b (en rs)=aK b es
 len:lens rs<=es.length
 nodup:(rs.map (·.1)).Nodup
def gW(out x:Name):Prop:=x=out\/∃k,k<128/\x=dz k
theorem Ht{a b:Nat}:Lib.decDigits a=Lib.decDigits b->a=b:=by
 induction a using Nat.strongRecOn generalizing b with
 |_ a ih=>
   grind [Lib.decDigits.eq_1,UInt8.toNat_ofNat',Lib.decDigits_length,List.append_inj']
theorem wD{a b:Nat}(h:dz a=dz b):a=b:=by
 grind [dz,Ht]
theorem ET{k:Nat}(h:k<100):(Lib.decDigits k).all jd=true/\(Lib.decDigits k).length<=2:=by
 have hb:∀j,j<10->jd (UInt8.ofNat (48+j))=true:=by decide
 grind [Lib.decDigits_one,Lib.decDigits_two]
theorem Hu{k:Nat}(h:k<100):bM (dz k)=true:=by
 obtain⟨h1,h2⟩:=ET h;unfold bM dz;have hs:(ByteArray.mk ([116,46]++Lib.decDigits k).toArray).size=2+(Lib.decDigits k).length:=by
  show Array.size _=_;grind
 rw[hs];simp only[List.cons_append,List.nil_append,List.all_cons,h1,Bool.and_eq_true,decide_eq_true_eq];refine⟨⟨⟨af,af,trivial⟩,ae⟩,ae⟩
end
section
open Go.RowKit Go.Maps
def lr(v:Value)(w w':World)(v':Value):Prop:=w.grownBy w' v.ownBlock/\(v'.ownBlock=v.ownBlock\/v'.ownBlock=some w.heap.size)
theorem dR{P:Program}{w:World}{ops:Array Oper}{rest:List Oper}{op:Oper}{a:Act}{Q:Exit->Act->World->Prop}(hgd:op.guard=none)(s x:Operand)(t:TypeId)(ho:op.op=.call { callee:=.builtin .append,args:=#[s,x],argTypes:=#[t,t] })(base:Nat)(e:TypeId)(z:Value)(size bytes:Nat)(ht:P.underlying t=some (.slice e))(hi:(P.info? e).map (fun i=>(i.zero,i.size,i.bytes))=some (some z,size,bytes))(hzs:z.cells.size=size)(hsz:0<size)(v:Value)(n:Nat)(xs:List Value)(hs:a.eval s=v)(hown:w.ownsRow base e size v n xs)(ad:Addr)(m c:Nat)(news:List Value)(hx:a.eval x=.slice (some ad) m c)(hl:news.length=m*size)(hnews:∀j u,news[j]? = some u->w.cell? (ad.add j)=some u)(h1:∀u∈news,u.oneCell'=true)(h63:n+m<=maxLen)(hbytes:(n+m)*bytes<=140737488355328)(hbase:base<=w.heap.size)(k:∀v' w',w'.ownsRow base e size v' (n+m) (xs++news)->lr v w w' v'->wpList P ops Q rest (a.put op.dst v') w'):wpList P ops Q (op::rest) a w:=by
 obtain⟨i0,rV,hz0,hz1,hz2⟩:=info_parts hi;refine wpList_plain hgd fun K hK=>?_;obtain⟨v',w',g1,g2,g3,g4,g5⟩:=run_append_own_at (P:=P) w base t op.type e i0 z size bytes ht rV hz0 hz1 hz2 hzs hsz v n xs hown ad m c news hl hnews h1 h63 hbytes hbase;unfold Oper.wp execOp;simp only[ho,resolve,invoke,builtin,Sem.run_bind,Sem.run_pure,Result.andThen_ok,List.map_toArray,List.map_cons,List.map_nil,hs,hx,g1];exact hK _ _ (k v' w' g2 ⟨g3,g5⟩)
section
variable {w:World} {ops:Array Oper} {rest:List Oper} {op:Oper} {a:Act} {Q:Exit->Act->World->Prop}
theorem cS(hgd:op.guard=none)(s x:Operand)(ho:op.op=.call { callee:=.builtin .append,args:=#[s,x],argTypes:=#[22,22] })(base:Nat)(v:Value)(l:List aJ)(hs:a.eval s=v)(hown:aI w base v l)(y:aJ)(c:Nat)(hx:a.eval x=.slice (some ⟨w.heap.size,0,none⟩) 1 c)(hl:l.length<=100000)(hbase:base<=w.heap.size)(k:∀v' w',aI w' base v' (l++[y])->lr v (w.alloc (.cells #[.int .u32 (y.t.toNat:Int),.int .u32 (y.h.toNat:Int),.int .u64 (y.x.toNat:Int),.int .u32 (y.m.toNat:Int)] 64)) w' v'->wpList prog ops Q rest (a.put op.dst v') w') :
 wpList prog ops Q (op::rest) a (w.alloc (.cells #[.int .u32 (y.t.toNat:Int),.int .u32 (y.h.toNat:Int),.int .u64 (y.x.toNat:Int),.int .u32 (y.m.toNat:Int)] 64)):=by
 refine dR hgd s x 22 ho base 64 _ 4 24 Tryz.underlying22 rC rfl af v l.length (dH l) hs (World.ownsRow.alloc hown _) ⟨w.heap.size,0,none⟩ 1 c y.cells hx rfl (fun j u hj=>?_) (by simp[Value.oneCell']) (by grind [maxLen]) ae (by simp;omega) (fun v' w' h1 h2=>k v' w' ?_ h2)
 ·rw[bG,Nat.zero_add];simp_all
 ·unfold aI;rw[nJ,List.length_append];exact h1
theorem uB(hgd:op.guard=none)(s x:Operand)(ho:op.op=.call { callee:=.builtin .append,args:=#[s,x],argTypes:=#[91,91] })(base:Nat)(v:Value)(l:List Name)(hs:a.eval s=v)(hown:w.ownsRow base 9 1 v l.length (l.map Value.string))(y:Name)(c:Nat)(hx:a.eval x=.slice (some ⟨w.heap.size,0,none⟩) 1 c)(hl:l.length<=100000)(hbase:base<=w.heap.size)(k:∀v' w',w'.ownsRow base 9 1 v' (l++[y]).length ((l++[y]).map Value.string)->lr v (w.alloc (.cells #[.string y] 9)) w' v'->wpList prog ops Q rest (a.put op.dst v') w') :
 wpList prog ops Q (op::rest) a (w.alloc (.cells #[.string y] 9)):=by
 refine dR hgd s x 91 ho base 9 _ 1 16 Tryz.underlying91 xU rfl af v l.length (l.map Value.string) hs (World.ownsRow.alloc hown _) ⟨w.heap.size,0,none⟩ 1 c [.string y] hx rfl (fun j u hj=>?_) (by simp[Value.oneCell']) (by grind [maxLen]) ae (by simp;omega) (fun v' w' h1 h2=>k v' w' ?_ h2)
 ·rw[bG,Nat.zero_add];simp_all
 grind
end
section
variable {S:Nat->Prop} {n pb db:Nat} {w W w':World} {o o':ar} {d d':Dsk} {L':aD} {v v':Value}
theorem lr.moved{ob:Obj}(ha:lr v (W.alloc ob) w' v')(hm:au S n pb db w o d W o' d' L')(hv:∀x,v.ownBlock=some x->o' x=none/\w.heap.size<=x) :
 au S n pb db w o d w' o' d' L'/\(∀x,v'.ownBlock=some x->o' x=none/\w.heap.size<=x)/\(∀x,x<W.heap.size->v.ownBlock≠some x->w'.heap[x]? = W.heap[x]?)/\W.heap.size<=w'.heap.size:=by
 obtain⟨hg,hb⟩:=ha;have hs:W.heap.size<(W.alloc ob).heap.size:=by simp
 refine⟨(hm.alloc ob).grown hg (fun k hk=>⟨(hv k hk).1,.inr (hv k hk).2⟩),fun x hx=>?_,fun x hx hne=>?_,Nat.le_trans (Nat.le_of_lt hs) hg.size⟩
 ·rcases hb with e | e
  ·grind
  ·rw[e]at hx;cases hx;exact⟨hm.aX.fresh (Nat.le_of_lt hs),Nat.le_trans hm.size (Nat.le_of_lt hs)⟩
 grind [World.grownBy.block,MapKept.heap_alloc]
theorem bI{base:Nat}{e:TypeId}{size:Nat}{k:Nat}{xs:List Value}(hr:W.ownsRow base e size v k xs)(hb:∀x,v.ownBlock=some x->w'.heap[x]? = W.heap[x]?):w'.ownsRow base e size v k xs:=by
 obtain⟨hl,hr⟩:=hr;refine⟨hl,?_⟩;rcases hr with hr |⟨g,cap,cur,hv,hg,hh,r⟩
 ·grind
 ·exact .inr ⟨g,cap,cur,hv,hg,(hb g (by rw[hv];rfl)).trans hh,r⟩
theorem j9{base base':Nat}{e e':TypeId}{size size' k k':Nat}{xs xs':List Value}(h:W.ownsRow base e size v k xs)(h':W.ownsRow base' e' size' v' k' xs')(hne:e≠e'):∀x,v.ownBlock=some x->v'.ownBlock≠some x:=by
 intro x hx N3;obtain⟨_,⟨h1,_⟩|⟨g,cap,cur,h1,_,h2,_⟩⟩:=h
 ·rw[h1]at hx;cases hx
 ·obtain⟨_,⟨g1,_⟩|⟨g',cap',cur',g1,_,g2,_⟩⟩:=h'
  ·rw[g1]at N3;cases N3
  ·rw[h1]at hx;rw[g1]at N3;cases hx;cases N3;grind
end
end
end Go.Proofs.YthkkgdpomhhjjaaGreatDoor
