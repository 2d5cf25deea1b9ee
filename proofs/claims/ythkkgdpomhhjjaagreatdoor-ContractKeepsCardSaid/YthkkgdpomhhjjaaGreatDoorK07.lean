/-
  Joined.
-/
import Derived.Test.YthkkgdpomhhjjaaGreatDoorK06
import Derived.Deep.CutBlock
import Derived.Sort.WalkC
import Derived.Sort.WalkA6
import Derived.Sort.AssemblyPlain
import Derived.Sort.Walk13a
set_option maxRecDepth 100000
set_option maxHeartbeats 32000000
namespace Go.Proofs.YthkkgdpomhhjjaaGreatDoor
open Go.Proofs.Tryz
section
open Go.RowKit Go.Maps Go.Sort
section
variable {bt:Bool} {w0 W W':World} {jb pb bf made base g cap:Nat} {d:Array aD}
def R3(bt:Bool)(w0:World)(jb pb bf made base g cap:Nat)(r:Nat×Bool×Array aD)(e:Ending)(w':World):Prop:=
 e=.returned (.tuple #[.int .i64 (r.1:Int),.bool r.2.1])/\fE bt w0 jb pb bf made base g cap r.2.2 w'
theorem s9{p q:aD->Bool}{d:Array aD}{i j u v:Nat}(hq:∀x,q x=!p x)(hu:u=scanUp p d j i)(hv:v=scanDown q d u j)(h0:0<v):u≠v:=by
 intro e;have h1:=(scanUp_spec p d j _ i rfl).2.2.2;have h2:=(scanDown_spec q d u j).2.2.2;rw[<- hu]at h1;rw[<- hv]at h2;have h3:=(scanDown_spec q d u j).1;rw[<- hv]at h3;have k1:=h1 af;have k2:=h2 af h0;rw[hq,<- e,k1]at k2;cases k2
theorem qP{p q:aD->Bool}{d:Array aD}{i j u v:Nat}(eY:i<=j+1)(hu:u=scanUp p d j i)(hv:v=scanDown q d u j):i<=u/\u<=j+1/\v<=j/\u<=v+1:=by
 have h1:=scanUp_spec p d j _ i rfl;rw[<- hu]at h1;have h2:=scanDown_spec q d u j;rw[<- hv]at h2;exact⟨h1.1,h1.2.1 eY,h2.1,h2.2.1 (h1.2.1 eY)⟩
theorem td{p:aD->Bool}{d:Array aD}{i j u:Nat}(eY:i<=j+1)(hu:u=scanUp p d j i):i<=u/\u<=j+1:=by
 have h1:=scanUp_spec p d j _ i rfl;rw[<- hu]at h1;exact⟨h1.1,h1.2.1 eY⟩
theorem CG{lt:aD->aD->Bool}{a i j u v:Nat}{d:Array aD}(hu:u=scanUp (fun x=>lt x d[a]!) d j i)(hv:v=scanDown (fun x=>!lt x d[a]!) d u j) :
 partLoop lt a i j d=if u>v then (v,d) else partLoop lt a (u+1) (v-1) (swp d u v):=by
 subst hu;subst hv;exact partLoop_eq lt a i j d
theorem qQ{lt:aD->aD->Bool}{a b pv u v:Nat}{d D:Array aD}{r:Nat×Array aD}(hD:D=swp d a pv)(hu:u=scanUp (fun x=>lt x D[a]!) D (b-1) (a+1))(hv:v=scanDown (fun x=>!lt x D[a]!) D u (b-1))(hr:¬u>v->r=partLoop lt a (u+1) (v-1) (swp D u v)) :
 partition lt d a b pv=if u>v then (v,true,swp D v a) else (r.1,false,swp r.2 r.1 a):=by
 subst hD;subst hu;subst hv;unfold partition;dsimp only;split
 ·rfl
 ·rename_i h
  rw[hr h]
theorem CI(h:fE bt w0 jb pb bf made base g cap d W)(a b pv:Nat)(hap:a<=pv)(N4:pv<b)(hb:b<=d.size)(hsz:d.size<=1000000) :
 Calls prog 312 #[.slice (some ⟨g,0,none⟩) d.size cap,.int .i64 (a:Int),.int .i64 (b:Int),.int .i64 (pv:Int),cK jb] W (R3 bt w0 jb pb bf made base g cap (partition (ltOf (aQ bt)) d a b pv)):=by
 have H:=ae h;obtain⟨N,hN⟩:∃N,N=d.size:=⟨_,rfl⟩;rw[<- hN]at hb hsz ⊢;have HN:=ae hN;clear h hN;obtain⟨J0,hJ0⟩:∃J0,J0=b-1:=⟨_,rfl⟩;have wJ0:IntKind.i64.wrap ((b:Int)-1)=(J0:Int):=by rw[aw]<;>omega
 have wI0:IntKind.i64.wrap ((a:Int)+1)=((a+1:Nat):Int):=by rw[aw]<;>omega
 have ba:(a:Int)<(N:Int):=by omega
 have bp:(pv:Int)<(N:Int):=by omega
 have HB:Hid (a<d.size/\pv<d.size/\J0<N/\a<=J0/\N<=1000000/\J0=b-1/\d.size=N):=ae (by have:=HN.out;omega);clear hJ0 hap N4 hb hsz;unfold cK ptrTo;go_enter func312,ntmps312;go_upto_region 1 with fail
 go_cut [] from 14 to 27 (fun wx=>fE bt w0 jb pb bf made base g cap (swp d a pv) wx)
 case first=>
  obtain⟨x,hx⟩:∃x,d[a]! = x:=⟨_,rfl⟩;have pw:Hid (a<d.size/\pv<d.size):=ae (by have:=HB.out;omega);by_cases heq:a=pv
  ·subst heq;obtain⟨pp,mH,⟨x0,x1,x2,x3⟩,dQ,hdone⟩:=H.out.iC (i:=a) pw.out.1 hx;have HD:=ae hdone;clear hdone;go_big_region
   all_goals
    clear x0 x1 x2 x3 dQ;go_wp2;go_meet
    exact HD.out
  ·obtain⟨y,hy⟩:∃y,d[pv]! = y:=⟨_,rfl⟩;obtain⟨pp,qq,hex⟩:=H.out.lA (i:=a) (j:=pv) pw.out.1 pw.out.2 hx hy;have pI:=ae hex;obtain⟨mH,EY,x0,x1,x2,x3,y0,y1,y2,y3,dQ,jy,-⟩:=hex;obtain⟨n0,n1,n2,n3,n4,n5,n6⟩:=jy heq;clear jy;go_big_region
   all_goals
    clear x0 x1 x2 x3 y0 y1 y2 y3 n0 n1 n2 n3 n4 n5 n6 dQ;go_wp2;go_meet
    exact pI.out.done
 case rest=>
  have jg:=ae hcut;clear hcut;obtain⟨D1,OC⟩:∃D1,D1=swp d a pv:=⟨_,rfl⟩;rw[<- OC]at jg;have hs1:D1.size=N:=by rw[OC,size_swp];exact HN.out.symm
  have vG:=ae OC;have kQ:Hid (a<D1.size/\J0<D1.size/\D1.size=N/\a+1<=J0+1/\N<=1000000):=ae (by have:=HB.out;omega);clear OC hs1;go_upto_block 0 with fail
  go_cut [12] from 32 to 49 (fun vi wx=>∃i:Nat,vi=.int .i64 (i:Int)/\fE bt w0 jb pb bf made base g cap D1 wx/\Hid (i=scanUp (fun x=>ltOf (aQ bt) x D1[a]!) D1 J0 (a+1)))
  case first=>
   go_wp2_with fail;go_loopw [12] (fun vi wr=>∃i:Nat,vi=.int .i64 (i:Int)/\(a+1)<=i/\i<=J0+1/\fE bt w0 jb pb bf made base g cap D1 wr/\Hid (scanUp (fun x=>ltOf (aQ bt) x D1[a]!) D1 J0 i=scanUp (fun x=>ltOf (aQ bt) x D1[a]!) D1 J0 (a+1))) (fun vi _=>J0+1-(intOf vi).toNat)
   case atStart=>exact⟨(a+1),rfl,by have:=kQ.out;omega,by have:=kQ.out;omega,jg.out,rfl⟩
   case round=>
    obtain⟨i,rfl,hb1,hb2,hs,HO⟩:=hrel;generalize wr=Wr at *;have HS:=ae hs;clear hs;by_cases eY:i<=J0
    ·have qO:(i:Int)<=(J0:Int):=by omega
     have bi:(i:Int)<(N:Int):=by have:=kQ.out;omega
     have Yb:IntKind.i64.wrap ((i:Int)+1)=((i+1:Nat):Int):=by
      have:=kQ.out;have:=HB.out
      rw[aw]<;>omega
     obtain⟨x,hx⟩:∃x,D1[i]! = x:=⟨_,rfl⟩;obtain⟨y,hy⟩:∃y,D1[a]! = y:=⟨_,rfl⟩;have F:=ae (HS.out.reads (i:=i) (j:=a) (by have:=kQ.out;omega) (by have:=kQ.out;omega) hx hy);by_cases hl:aQ bt x y<0
     ·go_wp2_with fail;refine wq Wr ?_;iterate 8 (refine qz ?_)
      refine qz ?_ (fun w' hw'=>by obtain⟨⟨c0,c1,c2,c3⟩,-,-⟩:=F.out w' hw';go_simp<;>rfl);iterate 3 (refine qz ?_)
      refine qz ?_ (fun w' hw'=>by obtain⟨-,⟨c0,c1,c2,c3⟩,-⟩:=F.out w' hw';go_simp<;>rfl);refine qw (fun w' hw'=>(F.out w' hw').2.2) ?_;iterate 2 (refine qz ?_)
      refine wpQuiet_nil ?_;intro w5 fP;have b7:=ae (HS.out.below fP);clear fP;go_wp2;refine⟨⟨(i+1),rfl,af,af,b7.out,?_⟩,by simp[intOf];omega⟩;show scanUp (fun x=>ltOf (aQ bt) x D1[a]!) D1 J0 (i+1)=_;rw[<- HO.out];exact(scanUp_go _ _ _ _ eY (by have e:ltOf (aQ bt) x y=true:=decide_eq_true hl;show ltOf (aQ bt) D1[i]! D1[a]! = _;rw[hx,hy,e])).symm
     ·have DK:decide (aQ bt x y<0)=false:=decide_eq_false hl;go_wp2_with fail;refine wq Wr ?_;iterate 8 (refine qz ?_)
      refine qz ?_ (fun w' hw'=>by obtain⟨⟨c0,c1,c2,c3⟩,-,-⟩:=F.out w' hw';go_simp<;>rfl);iterate 3 (refine qz ?_)
      refine qz ?_ (fun w' hw'=>by obtain⟨-,⟨c0,c1,c2,c3⟩,-⟩:=F.out w' hw';go_simp<;>rfl);refine qw (fun w' hw'=>(F.out w' hw').2.2) ?_;iterate 2 (refine qz ?_)
      refine wpQuiet_nil ?_;intro w5 fP;have b7:=ae (HS.out.below fP);clear fP;go_wp2;go_meet
      exact⟨i,rfl,b7.out,ae (by rw[<- HO.out];exact(scanUp_end _ _ _ _ (.inr (by have e:ltOf (aQ bt) x y=false:=decide_eq_false af;show ltOf (aQ bt) D1[i]! D1[a]! = _;rw[hx,hy,e]))).symm)⟩
    ·have qO:¬((i:Int)<=(J0:Int)):=by omega
     go_wp2_with fail;go_quiet (fail)
     have vK:RowKit.Below Wr.heap.size Wr (Wr.drewN nq):=⟨rfl,rfl,rfl,Nat.le_refl _,fun _ _=>rfl⟩;have b7:=ae (HS.out.below vK);clear vK;go_wp2;go_meet
     exact⟨i,rfl,b7.out,ae (by rw[<- HO.out];exact(scanUp_end _ _ _ _ (.inl eY)).symm)⟩
  case rest=>
   obtain⟨i1,rfl,aeg,se⟩:=hcut;have aja:=ae aeg;have R4:=ae se.out;clear aeg se;have hbi:=td (show a+1<=J0+1 by have:=kQ.out;omega) R4.out;have kZ:Hid (a<D1.size/\J0<D1.size/\D1.size=N/\i1<=J0+1/\1<=i1/\a<i1/\N<=1000000):=ae (by have:=kQ.out;omega);clear hbi;go_upto_block 2 with fail
   go_cut [13] from 50 to 68 (fun vi wx=>∃j:Nat,vi=.int .i64 (j:Int)/\fE bt w0 jb pb bf made base g cap D1 wx/\Hid (j=scanDown (fun x=>!ltOf (aQ bt) x D1[a]!) D1 i1 J0))
   case first=>
    go_wp2_with fail;go_loopw [13] (fun vi wr=>∃j:Nat,vi=.int .i64 (j:Int)/\j<=J0/\i1<=j+1/\fE bt w0 jb pb bf made base g cap D1 wr/\Hid (scanDown (fun x=>!ltOf (aQ bt) x D1[a]!) D1 i1 j=scanDown (fun x=>!ltOf (aQ bt) x D1[a]!) D1 i1 J0)) (fun vi _=>(intOf vi).toNat)
    case atStart=>exact⟨J0,rfl,by have:=kZ.out;omega,by have:=kZ.out;omega,aja.out,rfl⟩
    case round=>
     obtain⟨j,rfl,hb1,hb2,hs,HO⟩:=hrel;generalize wr=Wr at *;have HS:=ae hs;clear hs;by_cases eY:i1<=j
     ·obtain⟨j',hj'⟩:∃j',j'=j-1:=⟨_,rfl⟩;have qO:(i1:Int)<=(j:Int):=by omega
      have bi:(j:Int)<(N:Int):=by have:=kZ.out;omega
      have Yb:IntKind.i64.wrap ((j:Int)-1)=(j':Int):=by
       have:=kZ.out;have:=HB.out
       rw[aw]<;>omega
      have HJ:Hid (j'=j-1/\1<=j):=ae (by have:=kZ.out;omega);have KM:1<=j:=by have:=kZ.out;omega
      clear hj';obtain⟨x,hx⟩:∃x,D1[j]! = x:=⟨_,rfl⟩;obtain⟨y,hy⟩:∃y,D1[a]! = y:=⟨_,rfl⟩;have F:=ae (HS.out.reads (i:=j) (j:=a) (by have:=kZ.out;omega) (by have:=kZ.out;omega) hx hy);by_cases hl:aQ bt x y<0
      ·go_wp2_with fail;refine wq Wr ?_;iterate 8 (refine qz ?_)
       refine qz ?_ (fun w' hw'=>by obtain⟨⟨c0,c1,c2,c3⟩,-,-⟩:=F.out w' hw';go_simp<;>rfl);iterate 3 (refine qz ?_)
       refine qz ?_ (fun w' hw'=>by obtain⟨-,⟨c0,c1,c2,c3⟩,-⟩:=F.out w' hw';go_simp<;>rfl);refine qw (fun w' hw'=>(F.out w' hw').2.2) ?_;iterate 3 (refine qz ?_)
       refine wpQuiet_nil ?_;intro w5 fP;have b7:=ae (HS.out.below fP);clear fP;go_wp2;go_meet
       exact⟨j,rfl,b7.out,ae (by rw[<- HO.out];exact(scanDown_end _ _ _ _ (.inr (by have e:ltOf (aQ bt) x y=true:=decide_eq_true hl;show(!ltOf (aQ bt) D1[j]! D1[a]!)=_;rw[hx,hy,e];rfl))).symm)⟩
      ·have DK:decide (aQ bt x y<0)=false:=decide_eq_false hl;go_wp2_with fail;refine wq Wr ?_;iterate 8 (refine qz ?_)
       refine qz ?_ (fun w' hw'=>by obtain⟨⟨c0,c1,c2,c3⟩,-,-⟩:=F.out w' hw';go_simp<;>rfl);iterate 3 (refine qz ?_)
       refine qz ?_ (fun w' hw'=>by obtain⟨-,⟨c0,c1,c2,c3⟩,-⟩:=F.out w' hw';go_simp<;>rfl);refine qw (fun w' hw'=>(F.out w' hw').2.2) ?_;iterate 3 (refine qz ?_)
       refine wpQuiet_nil ?_;intro w5 fP;have b7:=ae (HS.out.below fP);clear fP;go_wp2;obtain⟨hjj,hjq⟩:=HJ.out;refine⟨⟨j',rfl,af,af,b7.out,?_⟩,by simp[intOf];omega⟩;show scanDown (fun x=>!ltOf (aQ bt) x D1[a]!) D1 i1 j'=_;rw[<- HO.out,show j'=j-1 by omega];exact(scanDown_go _ _ _ _ eY af (by have e:ltOf (aQ bt) x y=false:=decide_eq_false af;show(!ltOf (aQ bt) D1[j]! D1[a]!)=_;rw[hx,hy,e];rfl)).symm
     ·have qO:¬((i1:Int)<=(j:Int)):=by omega
      go_wp2_with fail;go_quiet (fail)
      have vK:RowKit.Below Wr.heap.size Wr (Wr.drewN nq):=⟨rfl,rfl,rfl,Nat.le_refl _,fun _ _=>rfl⟩;have b7:=ae (HS.out.below vK);clear vK;go_wp2;go_meet
      exact⟨j,rfl,b7.out,ae (by rw[<- HO.out];exact(scanDown_end _ _ _ _ (.inl eY)).symm)⟩
   case rest=>
    obtain⟨j1,rfl,aeh,KM⟩:=hcut;have VT:=ae aeh;have VU:=ae KM.out;clear aeh KM;have hbj:=qP (show a+1<=J0+1 by have:=kQ.out;omega) R4.out VU.out;have ajb:0<j1->i1≠j1:=s9 (fun _=>rfl) R4.out VU.out;have iD:Hid (a<D1.size/\j1<D1.size/\D1.size=N/\(i1<=j1->i1<D1.size/\i1+1<=j1)/\a<=j1/\a<i1/\i1<=j1+1/\N<=1000000):=ae (by have:=kZ.out;omega);have bj1:(j1:Int)<(N:Int):=by have:=iD.out;omega
    clear hbj ajb;by_cases zw:i1>j1
    ·have R5:(i1:Int)>(j1:Int):=by omega
     go_upto_region 8 with fail
     go_cut [] from 72 to 85 (fun wx=>fE bt w0 jb pb bf made base g cap (swp D1 j1 a) wx)
     case first=>
      obtain⟨x,hx⟩:∃x,D1[j1]! = x:=⟨_,rfl⟩;have pw:Hid (j1<D1.size/\a<D1.size):=ae (by have:=iD.out;omega);by_cases heq:j1=a
      ·subst heq;obtain⟨pp,mH,⟨x0,x1,x2,x3⟩,dQ,hdone⟩:=VT.out.iC (i:=j1) pw.out.1 hx;have HD:=ae hdone;clear hdone;go_big_region
       all_goals
        clear x0 x1 x2 x3 dQ;go_wp2;go_meet
        exact HD.out
      ·obtain⟨y,hy⟩:∃y,D1[a]! = y:=⟨_,rfl⟩;obtain⟨pp,qq,hex⟩:=VT.out.lA (i:=j1) (j:=a) pw.out.1 pw.out.2 hx hy;have pI:=ae hex;obtain⟨mH,EY,x0,x1,x2,x3,y0,y1,y2,y3,dQ,jy,-⟩:=hex;obtain⟨n0,n1,n2,n3,n4,n5,n6⟩:=jy heq;clear jy;go_big_region
       all_goals
        clear x0 x1 x2 x3 y0 y1 y2 y3 n0 n1 n2 n3 n4 n5 n6 dQ;go_wp2;go_meet
        exact pI.out.done
     case rest=>
      have gD:=ae hcut;clear hcut;have H7:partition (ltOf (aQ bt)) d a b pv=(j1,true,swp D1 j1 a):=by
       have hJ:J0=b-1:=HB.out.2.2.2.2.2.1;rw[qQ (u:=i1) (v:=j1) (r:=(0,d)) vG.out (by rw[<- hJ];exact R4.out) (by rw[<- hJ];exact VU.out) (fun hn=>absurd zw hn),if_pos zw]
      have HP:=ae H7;clear H7;go_wp2;go_ret2;rw[HP.out];exact⟨rfl,gD.out⟩
    ·have R5:¬(i1:Int)>(j1:Int):=by omega
     have bi1:(i1:Int)<(N:Int):=by have:=iD.out;omega
     have Gi:Hid (i1<D1.size/\j1<D1.size/\i1+1<=j1):=ae (by have:=iD.out;omega);obtain⟨J2,hJ2⟩:∃J2,J2=j1-1:=⟨_,rfl⟩;have wi2:IntKind.i64.wrap ((i1:Int)+1)=((i1+1:Nat):Int):=by
      have:=iD.out;rw[aw]<;>omega
     have wj2:IntKind.i64.wrap ((j1:Int)-1)=(J2:Int):=by
      have:=iD.out;have:=Gi.out
      rw[aw]<;>omega
     have VW:Hid (J2=j1-1/\1<=j1):=ae (by have:=Gi.out;omega);clear hJ2;go_upto_region 10 with fail
     go_cut [] from 87 to 100 (fun wx=>fE bt w0 jb pb bf made base g cap (swp D1 i1 j1) wx)
     case first=>
      obtain⟨x,hx⟩:∃x,D1[i1]! = x:=⟨_,rfl⟩;have pw:Hid (i1<D1.size/\j1<D1.size):=ae (by have:=Gi.out;omega);by_cases heq:i1=j1
      ·subst heq;obtain⟨pp,mH,⟨x0,x1,x2,x3⟩,dQ,hdone⟩:=VT.out.iC (i:=i1) pw.out.1 hx;have HD:=ae hdone;clear hdone;go_big_region
       all_goals
        clear x0 x1 x2 x3 dQ;go_wp2;go_meet
        exact HD.out
      ·obtain⟨y,hy⟩:∃y,D1[j1]! = y:=⟨_,rfl⟩;obtain⟨pp,qq,hex⟩:=VT.out.lA (i:=i1) (j:=j1) pw.out.1 pw.out.2 hx hy;have pI:=ae hex;obtain⟨mH,EY,x0,x1,x2,x3,y0,y1,y2,y3,dQ,jy,-⟩:=hex;obtain⟨n0,n1,n2,n3,n4,n5,n6⟩:=jy heq;clear jy;go_big_region
       all_goals
        clear x0 x1 x2 x3 y0 y1 y2 y3 n0 n1 n2 n3 n4 n5 n6 dQ;go_wp2;go_meet
        exact pI.out.done
     case rest=>
      have b7:=ae hcut;clear hcut;obtain⟨D2,U0⟩:∃D2,D2=swp D1 i1 j1:=⟨_,rfl⟩;rw[<- U0]at b7;have hs2:D2.size=N:=by rw[U0,size_swp];exact iD.out.2.2.1
      obtain⟨r,hr⟩:∃r,r=partLoop (ltOf (aQ bt)) a (i1+1) J2 D2:=⟨_,rfl⟩;have H7:partition (ltOf (aQ bt)) d a b pv=(r.1,false,swp r.2 r.1 a):=by
       have hJ:J0=b-1:=HB.out.2.2.2.2.2.1;rw[qQ (u:=i1) (v:=j1) (r:=r) vG.out (by rw[<- hJ];exact R4.out) (by rw[<- hJ];exact VU.out) (fun _=>by rw[hr,U0,VW.out.1]),if_neg zw]
      have HP:=ae H7;have ajc:=ae hs2;have HR:=ae hr;clear H7 hs2 hr U0;go_wp2_with fail;go_loopw [12,13] (fun vi vj wr=>∃(i3 j3:Nat)(dk:Array aD),vi=.int .i64 (i3:Int)/\vj=.int .i64 (j3:Int)/\a<i3/\i3<=j3+1/\j3<N/\dk.size=N/\fE bt w0 jb pb bf made base g cap dk wr/\Hid (partLoop (ltOf (aQ bt)) a i3 j3 dk=r)) (fun vi vj _=>(intOf vj).toNat+1-(intOf vi).toNat)
      case atStart=>exact⟨i1+1,J2,D2,rfl,rfl,by have:=iD.out;omega,by have:=Gi.out;have:=VW.out;omega,by have:=iD.out;have:=VW.out;omega,ajc.out,b7.out,HR.out.symm⟩
      case round=>
       obtain⟨i3,j3,dk,rfl,rfl,Yc,R6,Qk,hsk,hs3,mQ⟩:=hrel;generalize wr=Wr3 at *;have gH:=ae hs3;have tN:Hid (a<dk.size/\j3<dk.size/\dk.size=N/\i3<=j3+1/\a<i3/\N<=1000000):=ae (by have:=iD.out;omega);clear hs3 hsk;go_upto_block 6 with fail
       go_cut [12] from 105 to 122 (fun vi wx=>∃i:Nat,vi=.int .i64 (i:Int)/\fE bt w0 jb pb bf made base g cap dk wx/\Hid (i=scanUp (fun x=>ltOf (aQ bt) x dk[a]!) dk j3 i3))
       case first=>
        go_wp2_with fail;go_loopw [12] (fun vi wr=>∃i:Nat,vi=.int .i64 (i:Int)/\i3<=i/\i<=j3+1/\fE bt w0 jb pb bf made base g cap dk wr/\Hid (scanUp (fun x=>ltOf (aQ bt) x dk[a]!) dk j3 i=scanUp (fun x=>ltOf (aQ bt) x dk[a]!) dk j3 i3)) (fun vi _=>j3+1-(intOf vi).toNat)
        case atStart=>exact⟨i3,rfl,by have:=tN.out;omega,by have:=tN.out;omega,gH.out,rfl⟩
        case round=>
         obtain⟨i,rfl,hb1,hb2,hs,HO⟩:=hrel;generalize wr=Wr at *;have HS:=ae hs;clear hs;by_cases eY:i<=j3
         ·have qO:(i:Int)<=(j3:Int):=by omega
          have bi:(i:Int)<(N:Int):=by have:=tN.out;omega
          have Yb:IntKind.i64.wrap ((i:Int)+1)=((i+1:Nat):Int):=by
           have:=tN.out;have:=HB.out
           rw[aw]<;>omega
          obtain⟨x,hx⟩:∃x,dk[i]! = x:=⟨_,rfl⟩;obtain⟨y,hy⟩:∃y,dk[a]! = y:=⟨_,rfl⟩;have F:=ae (HS.out.reads (i:=i) (j:=a) (by have:=tN.out;omega) (by have:=tN.out;omega) hx hy);by_cases hl:aQ bt x y<0
          ·go_wp2_with fail;refine wq Wr ?_;iterate 8 (refine qz ?_)
           refine qz ?_ (fun w' hw'=>by obtain⟨⟨c0,c1,c2,c3⟩,-,-⟩:=F.out w' hw';go_simp<;>rfl);iterate 3 (refine qz ?_)
           refine qz ?_ (fun w' hw'=>by obtain⟨-,⟨c0,c1,c2,c3⟩,-⟩:=F.out w' hw';go_simp<;>rfl);refine qw (fun w' hw'=>(F.out w' hw').2.2) ?_;iterate 2 (refine qz ?_)
           refine wpQuiet_nil ?_;intro w5 fP;have b7:=ae (HS.out.below fP);clear fP;go_wp2;refine⟨⟨(i+1),rfl,af,af,b7.out,?_⟩,by simp[intOf];omega⟩;show scanUp (fun x=>ltOf (aQ bt) x dk[a]!) dk j3 (i+1)=_;rw[<- HO.out];exact(scanUp_go _ _ _ _ eY (by have e:ltOf (aQ bt) x y=true:=decide_eq_true hl;show ltOf (aQ bt) dk[i]! dk[a]! = _;rw[hx,hy,e])).symm
          ·have DK:decide (aQ bt x y<0)=false:=decide_eq_false hl;go_wp2_with fail;refine wq Wr ?_;iterate 8 (refine qz ?_)
           refine qz ?_ (fun w' hw'=>by obtain⟨⟨c0,c1,c2,c3⟩,-,-⟩:=F.out w' hw';go_simp<;>rfl);iterate 3 (refine qz ?_)
           refine qz ?_ (fun w' hw'=>by obtain⟨-,⟨c0,c1,c2,c3⟩,-⟩:=F.out w' hw';go_simp<;>rfl);refine qw (fun w' hw'=>(F.out w' hw').2.2) ?_;iterate 2 (refine qz ?_)
           refine wpQuiet_nil ?_;intro w5 fP;have b7:=ae (HS.out.below fP);clear fP;go_wp2;go_meet
           exact⟨i,rfl,b7.out,ae (by rw[<- HO.out];exact(scanUp_end _ _ _ _ (.inr (by have e:ltOf (aQ bt) x y=false:=decide_eq_false af;show ltOf (aQ bt) dk[i]! dk[a]! = _;rw[hx,hy,e]))).symm)⟩
         ·have qO:¬((i:Int)<=(j3:Int)):=by omega
          go_wp2_with fail;go_quiet (fail)
          have vK:RowKit.Below Wr.heap.size Wr (Wr.drewN nq):=⟨rfl,rfl,rfl,Nat.le_refl _,fun _ _=>rfl⟩;have b7:=ae (HS.out.below vK);clear vK;go_wp2;go_meet
          exact⟨i,rfl,b7.out,ae (by rw[<- HO.out];exact(scanUp_end _ _ _ _ (.inl eY)).symm)⟩
       case rest=>
        obtain⟨i4,rfl,R7,xX⟩:=hcut;have aae:=ae R7;have E4:=ae xX.out;clear R7 xX;have aaf:=td (show i3<=j3+1 by have:=tN.out;omega) E4.out;have qb:Hid (a<dk.size/\j3<dk.size/\dk.size=N/\i4<=j3+1/\1<=i4/\a<i4/\i3<=i4/\N<=1000000):=ae (by have:=tN.out;omega);clear aaf;go_upto_block 8 with fail
        go_cut [13] from 123 to 141 (fun vi wx=>∃j:Nat,vi=.int .i64 (j:Int)/\fE bt w0 jb pb bf made base g cap dk wx/\Hid (j=scanDown (fun x=>!ltOf (aQ bt) x dk[a]!) dk i4 j3))
        case first=>
         go_wp2_with fail;go_loopw [13] (fun vi wr=>∃j:Nat,vi=.int .i64 (j:Int)/\j<=j3/\i4<=j+1/\fE bt w0 jb pb bf made base g cap dk wr/\Hid (scanDown (fun x=>!ltOf (aQ bt) x dk[a]!) dk i4 j=scanDown (fun x=>!ltOf (aQ bt) x dk[a]!) dk i4 j3)) (fun vi _=>(intOf vi).toNat)
         case atStart=>exact⟨j3,rfl,by have:=qb.out;omega,by have:=qb.out;omega,aae.out,rfl⟩
         case round=>
          obtain⟨j,rfl,hb1,hb2,hs,HO⟩:=hrel;generalize wr=Wr at *;have HS:=ae hs;clear hs;by_cases eY:i4<=j
          ·obtain⟨j',hj'⟩:∃j',j'=j-1:=⟨_,rfl⟩;have qO:(i4:Int)<=(j:Int):=by omega
           have bi:(j:Int)<(N:Int):=by have:=qb.out;omega
           have Yb:IntKind.i64.wrap ((j:Int)-1)=(j':Int):=by
            have:=qb.out;have:=HB.out
            rw[aw]<;>omega
           have HJ:Hid (j'=j-1/\1<=j):=ae (by have:=qb.out;omega);have KM:1<=j:=by have:=qb.out;omega
           clear hj';obtain⟨x,hx⟩:∃x,dk[j]! = x:=⟨_,rfl⟩;obtain⟨y,hy⟩:∃y,dk[a]! = y:=⟨_,rfl⟩;have F:=ae (HS.out.reads (i:=j) (j:=a) (by have:=qb.out;omega) (by have:=qb.out;omega) hx hy);by_cases hl:aQ bt x y<0
           ·go_wp2_with fail;refine wq Wr ?_;iterate 8 (refine qz ?_)
            refine qz ?_ (fun w' hw'=>by obtain⟨⟨c0,c1,c2,c3⟩,-,-⟩:=F.out w' hw';go_simp<;>rfl);iterate 3 (refine qz ?_)
            refine qz ?_ (fun w' hw'=>by obtain⟨-,⟨c0,c1,c2,c3⟩,-⟩:=F.out w' hw';go_simp<;>rfl);refine qw (fun w' hw'=>(F.out w' hw').2.2) ?_;iterate 3 (refine qz ?_)
            refine wpQuiet_nil ?_;intro w5 fP;have b7:=ae (HS.out.below fP);clear fP;go_wp2;go_meet
            exact⟨j,rfl,b7.out,ae (by rw[<- HO.out];exact(scanDown_end _ _ _ _ (.inr (by have e:ltOf (aQ bt) x y=true:=decide_eq_true hl;show(!ltOf (aQ bt) dk[j]! dk[a]!)=_;rw[hx,hy,e];rfl))).symm)⟩
           ·have DK:decide (aQ bt x y<0)=false:=decide_eq_false hl;go_wp2_with fail;refine wq Wr ?_;iterate 8 (refine qz ?_)
            refine qz ?_ (fun w' hw'=>by obtain⟨⟨c0,c1,c2,c3⟩,-,-⟩:=F.out w' hw';go_simp<;>rfl);iterate 3 (refine qz ?_)
            refine qz ?_ (fun w' hw'=>by obtain⟨-,⟨c0,c1,c2,c3⟩,-⟩:=F.out w' hw';go_simp<;>rfl);refine qw (fun w' hw'=>(F.out w' hw').2.2) ?_;iterate 3 (refine qz ?_)
            refine wpQuiet_nil ?_;intro w5 fP;have b7:=ae (HS.out.below fP);clear fP;go_wp2;obtain⟨hjj,hjq⟩:=HJ.out;refine⟨⟨j',rfl,af,af,b7.out,?_⟩,by simp[intOf];omega⟩;show scanDown (fun x=>!ltOf (aQ bt) x dk[a]!) dk i4 j'=_;rw[<- HO.out,show j'=j-1 by omega];exact(scanDown_go _ _ _ _ eY af (by have e:ltOf (aQ bt) x y=false:=decide_eq_false af;show(!ltOf (aQ bt) dk[j]! dk[a]!)=_;rw[hx,hy,e];rfl)).symm
          ·have qO:¬((i4:Int)<=(j:Int)):=by omega
           go_wp2_with fail;go_quiet (fail)
           have vK:RowKit.Below Wr.heap.size Wr (Wr.drewN nq):=⟨rfl,rfl,rfl,Nat.le_refl _,fun _ _=>rfl⟩;have b7:=ae (HS.out.below vK);clear vK;go_wp2;go_meet
           exact⟨j,rfl,b7.out,ae (by rw[<- HO.out];exact(scanDown_end _ _ _ _ (.inl eY)).symm)⟩
        case rest=>
         obtain⟨j4,rfl,R9,Sb⟩:=hcut;have H8:=ae R9;have KV:=ae Sb.out;clear R9 Sb;have aag:=qP (show i3<=j3+1 by have:=tN.out;omega) E4.out KV.out;have aah:0<j4->i4≠j4:=s9 (fun _=>rfl) E4.out KV.out;have mq:Hid (a<dk.size/\j4<dk.size/\dk.size=N/\(i4<=j4->i4<dk.size/\i4+1<=j4)/\a<=j4/\a<i4/\i4<=j4+1/\i3<=i4/\j4<=j3/\N<=1000000):=ae (by have:=qb.out;omega);have bj4:(j4:Int)<(N:Int):=by have:=mq.out;omega
         have hstep:=CG E4.out KV.out;clear aag aah;by_cases Sc:i4>j4
         ·have R5:(i4:Int)>(j4:Int):=by omega
          rw[if_pos Sc,mQ.out]at hstep;have HST:=ae hstep;clear hstep;go_upto_region 21 with fail
          go_cut [] from 163 to 176 (fun wx=>fE bt w0 jb pb bf made base g cap (swp dk j4 a) wx)
          case first=>
           obtain⟨x,hx⟩:∃x,dk[j4]! = x:=⟨_,rfl⟩;have pw:Hid (j4<dk.size/\a<dk.size):=ae (by have:=mq.out;omega);by_cases heq:j4=a
           ·subst heq;obtain⟨pp,mH,⟨x0,x1,x2,x3⟩,dQ,hdone⟩:=H8.out.iC (i:=j4) pw.out.1 hx;have HD:=ae hdone;clear hdone;go_big_region
            all_goals
             clear x0 x1 x2 x3 dQ;go_wp2;go_meet
             exact HD.out
           ·obtain⟨y,hy⟩:∃y,dk[a]! = y:=⟨_,rfl⟩;obtain⟨pp,qq,hex⟩:=H8.out.lA (i:=j4) (j:=a) pw.out.1 pw.out.2 hx hy;have pI:=ae hex;obtain⟨mH,EY,x0,x1,x2,x3,y0,y1,y2,y3,dQ,jy,-⟩:=hex;obtain⟨n0,n1,n2,n3,n4,n5,n6⟩:=jy heq;clear jy;go_big_region
            all_goals
             clear x0 x1 x2 x3 y0 y1 y2 y3 n0 n1 n2 n3 n4 n5 n6 dQ;go_wp2;go_meet
             exact pI.out.done
          case rest=>
           have jK:=ae hcut;clear hcut;go_wp2;go_ret2;rw[HP.out,HST.out];exact⟨rfl,jK.out⟩
         ·have R5:¬(i4:Int)>(j4:Int):=by omega
          rw[if_neg Sc,mQ.out]at hstep;have HST:=ae hstep;clear hstep;have bi4:(i4:Int)<(N:Int):=by have:=mq.out;omega
          have KW:Hid (i4<dk.size/\j4<dk.size/\i4+1<=j4):=ae (by have:=mq.out;omega);obtain⟨J5,hJ5⟩:∃J5,J5=j4-1:=⟨_,rfl⟩;have wi5:IntKind.i64.wrap ((i4:Int)+1)=((i4+1:Nat):Int):=by
           have:=mq.out;rw[aw]<;>omega
          have wj5:IntKind.i64.wrap ((j4:Int)-1)=(J5:Int):=by
           have:=mq.out;have:=KW.out
           rw[aw]<;>omega
          have HJ5:Hid (J5=j4-1/\1<=j4):=ae (by have:=KW.out;omega);clear hJ5;go_upto_region 18 with fail
          go_cut [] from 145 to 158 (fun wx=>fE bt w0 jb pb bf made base g cap (swp dk i4 j4) wx)
          case first=>
           obtain⟨x,hx⟩:∃x,dk[i4]! = x:=⟨_,rfl⟩;have pw:Hid (i4<dk.size/\j4<dk.size):=ae (by have:=KW.out;omega);by_cases heq:i4=j4
           ·subst heq;obtain⟨pp,mH,⟨x0,x1,x2,x3⟩,dQ,hdone⟩:=H8.out.iC (i:=i4) pw.out.1 hx;have HD:=ae hdone;clear hdone;go_big_region
            all_goals
             clear x0 x1 x2 x3 dQ;go_wp2;go_meet
             exact HD.out
           ·obtain⟨y,hy⟩:∃y,dk[j4]! = y:=⟨_,rfl⟩;obtain⟨pp,qq,hex⟩:=H8.out.lA (i:=i4) (j:=j4) pw.out.1 pw.out.2 hx hy;have pI:=ae hex;obtain⟨mH,EY,x0,x1,x2,x3,y0,y1,y2,y3,dQ,jy,-⟩:=hex;obtain⟨n0,n1,n2,n3,n4,n5,n6⟩:=jy heq;clear jy;go_big_region
            all_goals
             clear x0 x1 x2 x3 y0 y1 y2 y3 n0 n1 n2 n3 n4 n5 n6 dQ;go_wp2;go_meet
             exact pI.out.done
          case rest=>
           have qs:=ae hcut;clear hcut;go_wp2;have q1:=mq.out;have q2:=KW.out;have q3:=HJ5.out;refine⟨⟨i4+1,J5,swp dk i4 j4,rfl,rfl,af,af,af,by rw[size_swp];omega,qs.out,?_⟩,by simp[intOf];omega⟩;show partLoop _ _ _ _ _=_;rw[HST.out,q3.1]
end
end
section
open Go.RowKit Go.Maps Go.Sort
section
variable {bt:Bool} {w0 W W':World} {jb pb bf made base g cap:Nat} {d:Array aD}
def KZ(bt:Bool)(w0:World)(jb pb bf made base g cap:Nat)(r:Nat×Array aD)(e:Ending)(w':World):Prop:=
 e=.returned (.int .i64 (r.1:Int))/\fE bt w0 jb pb bf made base g cap r.2 w'
theorem y5{lt:aD->aD->Bool}{a i j u v:Nat}{d:Array aD}(hu:u=scanUp (fun x=>!lt d[a]! x) d j i)(hv:v=scanDown (fun x=>lt d[a]! x) d u j) :
 partEqLoop lt a i j d=if u>v then (u,d) else partEqLoop lt a (u+1) (v-1) (swp d u v):=by
 subst hu;subst hv;exact partEqLoop_eq lt a i j d
theorem tj(h:fE bt w0 jb pb bf made base g cap d W)(a b pv:Nat)(hap:a<=pv)(N4:pv<b)(hb:b<=d.size)(hsz:d.size<=1000000) :
 Calls prog 311 #[.slice (some ⟨g,0,none⟩) d.size cap,.int .i64 (a:Int),.int .i64 (b:Int),.int .i64 (pv:Int),cK jb] W (KZ bt w0 jb pb bf made base g cap (partitionEqual (ltOf (aQ bt)) d a b pv)):=by
 have H:=ae h;obtain⟨N,hN⟩:∃N,N=d.size:=⟨_,rfl⟩;rw[<- hN]at hb hsz ⊢;have HN:=ae hN;clear h hN;obtain⟨J0,hJ0⟩:∃J0,J0=b-1:=⟨_,rfl⟩;have wJ0:IntKind.i64.wrap ((b:Int)-1)=(J0:Int):=by rw[aw]<;>omega
 have wI0:IntKind.i64.wrap ((a:Int)+1)=((a+1:Nat):Int):=by rw[aw]<;>omega
 have ba:(a:Int)<(N:Int):=by omega
 have bp:(pv:Int)<(N:Int):=by omega
 have HB:Hid (a<d.size/\pv<d.size/\J0<N/\a<=J0/\N<=1000000/\J0=b-1/\d.size=N):=ae (by have:=HN.out;omega);clear hJ0 hap N4 hb hsz;unfold cK ptrTo;go_enter func311,ntmps311;go_upto_region 1 with fail
 go_cut [] from 13 to 26 (fun wx=>fE bt w0 jb pb bf made base g cap (swp d a pv) wx)
 case first=>
  obtain⟨x,hx⟩:∃x,d[a]! = x:=⟨_,rfl⟩;have pw:Hid (a<d.size/\pv<d.size):=ae (by have:=HB.out;omega);by_cases heq:a=pv
  ·subst heq;obtain⟨pp,mH,⟨x0,x1,x2,x3⟩,dQ,hdone⟩:=H.out.iC (i:=a) pw.out.1 hx;have HD:=ae hdone;clear hdone;go_big_region
   all_goals
    clear x0 x1 x2 x3 dQ;go_wp2;go_meet
    exact HD.out
  ·obtain⟨y,hy⟩:∃y,d[pv]! = y:=⟨_,rfl⟩;obtain⟨pp,qq,hex⟩:=H.out.lA (i:=a) (j:=pv) pw.out.1 pw.out.2 hx hy;have pI:=ae hex;obtain⟨mH,EY,x0,x1,x2,x3,y0,y1,y2,y3,dQ,jy,-⟩:=hex;obtain⟨n0,n1,n2,n3,n4,n5,n6⟩:=jy heq;clear jy;go_big_region
   all_goals
    clear x0 x1 x2 x3 y0 y1 y2 y3 n0 n1 n2 n3 n4 n5 n6 dQ;go_wp2;go_meet
    exact pI.out.done
 case rest=>
  have jg:=ae hcut;clear hcut;obtain⟨D1,OC⟩:∃D1,D1=swp d a pv:=⟨_,rfl⟩;rw[<- OC]at jg;have hs1:D1.size=N:=by rw[OC,size_swp];exact HN.out.symm
  obtain⟨r,hr⟩:∃r,r=partitionEqual (ltOf (aQ bt)) d a b pv:=⟨_,rfl⟩;have HR:Hid (partEqLoop (ltOf (aQ bt)) a (a+1) J0 D1=r):=ae (by rw[hr,HB.out.2.2.2.2.2.1,OC];rfl);have HRE:=ae hr;have iD:Hid (a<D1.size/\J0<D1.size/\D1.size=N/\a+1<=J0+1/\N<=1000000):=ae (by have:=HB.out;omega);clear OC hs1 hr;go_wp2_with fail;go_loopw [11,12] (fun vi vj wr=>∃(i3 j3:Nat)(dk:Array aD),vi=.int .i64 (i3:Int)/\vj=.int .i64 (j3:Int)/\a<i3/\i3<=j3+1/\j3<N/\dk.size=N/\fE bt w0 jb pb bf made base g cap dk wr/\Hid (partEqLoop (ltOf (aQ bt)) a i3 j3 dk=r)) (fun vi vj _=>(intOf vj).toNat+1-(intOf vi).toNat)
  case atStart=>exact⟨a+1,J0,D1,by go_num,rfl,af,by have:=iD.out;omega,by have:=iD.out;omega,iD.out.2.2.1,jg.out,HR.out⟩
  case round=>
   obtain⟨i3,j3,dk,rfl,rfl,Yc,R6,Qk,hsk,hs3,mQ⟩:=hrel;generalize wr=Wr3 at *;have gH:=ae hs3;have tN:Hid (a<dk.size/\j3<dk.size/\dk.size=N/\i3<=j3+1/\a<i3/\N<=1000000):=ae (by have:=iD.out;omega);clear hs3 hsk;go_upto_block 2 with fail
   go_cut [11] from 31 to 49 (fun vi wx=>∃i:Nat,vi=.int .i64 (i:Int)/\fE bt w0 jb pb bf made base g cap dk wx/\Hid (i=scanUp (fun x=>!ltOf (aQ bt) dk[a]! x) dk j3 i3))
   case first=>
    go_wp2_with fail;go_loopw [11] (fun vi wr=>∃i:Nat,vi=.int .i64 (i:Int)/\i3<=i/\i<=j3+1/\fE bt w0 jb pb bf made base g cap dk wr/\Hid (scanUp (fun x=>!ltOf (aQ bt) dk[a]! x) dk j3 i=scanUp (fun x=>!ltOf (aQ bt) dk[a]! x) dk j3 i3)) (fun vi _=>j3+1-(intOf vi).toNat)
    case atStart=>exact⟨i3,rfl,by have:=tN.out;omega,by have:=tN.out;omega,gH.out,rfl⟩
    case round=>
     obtain⟨i,rfl,hb1,hb2,hs,HO⟩:=hrel;generalize wr=Wr at *;have HS:=ae hs;clear hs;by_cases eY:i<=j3
     ·have qO:(i:Int)<=(j3:Int):=by omega
      have bi:(i:Int)<(N:Int):=by have:=tN.out;omega
      have Yb:IntKind.i64.wrap ((i:Int)+1)=((i+1:Nat):Int):=by
       have:=tN.out;have:=HB.out
       rw[aw]<;>omega
      obtain⟨x,hx⟩:∃x,dk[a]! = x:=⟨_,rfl⟩;obtain⟨y,hy⟩:∃y,dk[i]! = y:=⟨_,rfl⟩;have F:=ae (HS.out.reads (i:=a) (j:=i) (by have:=tN.out;omega) (by have:=tN.out;omega) hx hy);by_cases hl:aQ bt x y<0
      ·go_wp2_with fail;refine wq Wr ?_;iterate 8 (refine qz ?_)
       refine qz ?_ (fun w' hw'=>by obtain⟨⟨c0,c1,c2,c3⟩,-,-⟩:=F.out w' hw';go_simp<;>rfl);iterate 3 (refine qz ?_)
       refine qz ?_ (fun w' hw'=>by obtain⟨-,⟨c0,c1,c2,c3⟩,-⟩:=F.out w' hw';go_simp<;>rfl);refine qw (fun w' hw'=>(F.out w' hw').2.2) ?_;iterate 3 (refine qz ?_)
       refine wpQuiet_nil ?_;intro w5 fP;have b7:=ae (HS.out.below fP);clear fP;go_wp2;go_meet
       exact⟨i,rfl,b7.out,ae (by rw[<- HO.out];exact(scanUp_end _ _ _ _ (.inr (by have e:ltOf (aQ bt) x y=true:=decide_eq_true hl;show(!ltOf (aQ bt) dk[a]! dk[i]!)=_;rw[hx,hy,e];rfl))).symm)⟩
      ·have DK:decide (aQ bt x y<0)=false:=decide_eq_false hl;go_wp2_with fail;refine wq Wr ?_;iterate 8 (refine qz ?_)
       refine qz ?_ (fun w' hw'=>by obtain⟨⟨c0,c1,c2,c3⟩,-,-⟩:=F.out w' hw';go_simp<;>rfl);iterate 3 (refine qz ?_)
       refine qz ?_ (fun w' hw'=>by obtain⟨-,⟨c0,c1,c2,c3⟩,-⟩:=F.out w' hw';go_simp<;>rfl);refine qw (fun w' hw'=>(F.out w' hw').2.2) ?_;iterate 3 (refine qz ?_)
       refine wpQuiet_nil ?_;intro w5 fP;have b7:=ae (HS.out.below fP);clear fP;go_wp2;refine⟨⟨(i+1),rfl,af,af,b7.out,?_⟩,by simp[intOf];omega⟩;show scanUp (fun x=>!ltOf (aQ bt) dk[a]! x) dk j3 (i+1)=_;rw[<- HO.out];exact(scanUp_go _ _ _ _ eY (by have e:ltOf (aQ bt) x y=false:=decide_eq_false af;show(!ltOf (aQ bt) dk[a]! dk[i]!)=_;rw[hx,hy,e];rfl)).symm
     ·have qO:¬((i:Int)<=(j3:Int)):=by omega
      go_wp2_with fail;go_quiet (fail)
      have vK:RowKit.Below Wr.heap.size Wr (Wr.drewN nq):=⟨rfl,rfl,rfl,Nat.le_refl _,fun _ _=>rfl⟩;have b7:=ae (HS.out.below vK);clear vK;go_wp2;go_meet
      exact⟨i,rfl,b7.out,ae (by rw[<- HO.out];exact(scanUp_end _ _ _ _ (.inl eY)).symm)⟩
   case rest=>
    obtain⟨i4,rfl,R7,xX⟩:=hcut;have aae:=ae R7;have E4:=ae xX.out;clear R7 xX;have aaf:=td (show i3<=j3+1 by have:=tN.out;omega) E4.out;have qb:Hid (a<dk.size/\j3<dk.size/\dk.size=N/\i4<=j3+1/\1<=i4/\a<i4/\i3<=i4/\N<=1000000):=ae (by have:=tN.out;omega);clear aaf;go_upto_block 4 with fail
    go_cut [12] from 50 to 67 (fun vi wx=>∃j:Nat,vi=.int .i64 (j:Int)/\fE bt w0 jb pb bf made base g cap dk wx/\Hid (j=scanDown (fun x=>ltOf (aQ bt) dk[a]! x) dk i4 j3))
    case first=>
     go_wp2_with fail;go_loopw [12] (fun vi wr=>∃j:Nat,vi=.int .i64 (j:Int)/\j<=j3/\i4<=j+1/\fE bt w0 jb pb bf made base g cap dk wr/\Hid (scanDown (fun x=>ltOf (aQ bt) dk[a]! x) dk i4 j=scanDown (fun x=>ltOf (aQ bt) dk[a]! x) dk i4 j3)) (fun vi _=>(intOf vi).toNat)
     case atStart=>exact⟨j3,rfl,by have:=qb.out;omega,by have:=qb.out;omega,aae.out,rfl⟩
     case round=>
      obtain⟨j,rfl,hb1,hb2,hs,HO⟩:=hrel;generalize wr=Wr at *;have HS:=ae hs;clear hs;by_cases eY:i4<=j
      ·obtain⟨j',hj'⟩:∃j',j'=j-1:=⟨_,rfl⟩;have qO:(i4:Int)<=(j:Int):=by omega
       have bi:(j:Int)<(N:Int):=by have:=qb.out;omega
       have Yb:IntKind.i64.wrap ((j:Int)-1)=(j':Int):=by
        have:=qb.out;have:=HB.out
        rw[aw]<;>omega
       have HJ:Hid (j'=j-1/\1<=j):=ae (by have:=qb.out;omega);have KM:1<=j:=by have:=qb.out;omega
       clear hj';obtain⟨x,hx⟩:∃x,dk[a]! = x:=⟨_,rfl⟩;obtain⟨y,hy⟩:∃y,dk[j]! = y:=⟨_,rfl⟩;have F:=ae (HS.out.reads (i:=a) (j:=j) (by have:=qb.out;omega) (by have:=qb.out;omega) hx hy);by_cases hl:aQ bt x y<0
       ·go_wp2_with fail;refine wq Wr ?_;iterate 8 (refine qz ?_)
        refine qz ?_ (fun w' hw'=>by obtain⟨⟨c0,c1,c2,c3⟩,-,-⟩:=F.out w' hw';go_simp<;>rfl);iterate 3 (refine qz ?_)
        refine qz ?_ (fun w' hw'=>by obtain⟨-,⟨c0,c1,c2,c3⟩,-⟩:=F.out w' hw';go_simp<;>rfl);refine qw (fun w' hw'=>(F.out w' hw').2.2) ?_;iterate 2 (refine qz ?_)
        refine wpQuiet_nil ?_;intro w5 fP;have b7:=ae (HS.out.below fP);clear fP;go_wp2;obtain⟨hjj,hjq⟩:=HJ.out;refine⟨⟨j',rfl,af,af,b7.out,?_⟩,by simp[intOf];omega⟩;show scanDown (fun x=>ltOf (aQ bt) dk[a]! x) dk i4 j'=_;rw[<- HO.out,show j'=j-1 by omega];exact(scanDown_go _ _ _ _ eY af (by have e:ltOf (aQ bt) x y=true:=decide_eq_true hl;show ltOf (aQ bt) dk[a]! dk[j]! = _;rw[hx,hy,e])).symm
       ·have DK:decide (aQ bt x y<0)=false:=decide_eq_false hl;go_wp2_with fail;refine wq Wr ?_;iterate 8 (refine qz ?_)
        refine qz ?_ (fun w' hw'=>by obtain⟨⟨c0,c1,c2,c3⟩,-,-⟩:=F.out w' hw';go_simp<;>rfl);iterate 3 (refine qz ?_)
        refine qz ?_ (fun w' hw'=>by obtain⟨-,⟨c0,c1,c2,c3⟩,-⟩:=F.out w' hw';go_simp<;>rfl);refine qw (fun w' hw'=>(F.out w' hw').2.2) ?_;iterate 2 (refine qz ?_)
        refine wpQuiet_nil ?_;intro w5 fP;have b7:=ae (HS.out.below fP);clear fP;go_wp2;go_meet
        exact⟨j,rfl,b7.out,ae (by rw[<- HO.out];exact(scanDown_end _ _ _ _ (.inr (by have e:ltOf (aQ bt) x y=false:=decide_eq_false af;show ltOf (aQ bt) dk[a]! dk[j]! = _;rw[hx,hy,e]))).symm)⟩
      ·have qO:¬((i4:Int)<=(j:Int)):=by omega
       go_wp2_with fail;go_quiet (fail)
       have vK:RowKit.Below Wr.heap.size Wr (Wr.drewN nq):=⟨rfl,rfl,rfl,Nat.le_refl _,fun _ _=>rfl⟩;have b7:=ae (HS.out.below vK);clear vK;go_wp2;go_meet
       exact⟨j,rfl,b7.out,ae (by rw[<- HO.out];exact(scanDown_end _ _ _ _ (.inl eY)).symm)⟩
    case rest=>
     obtain⟨j4,rfl,R9,Sb⟩:=hcut;have H8:=ae R9;have KV:=ae Sb.out;clear R9 Sb;have aag:=qP (show i3<=j3+1 by have:=tN.out;omega) E4.out KV.out;have aah:0<j4->i4≠j4:=s9 (fun _=>by simp) E4.out KV.out;have mq:Hid (a<dk.size/\j4<dk.size/\dk.size=N/\(i4<=j4->i4<dk.size/\i4+1<=j4)/\a<=j4/\a<i4/\i4<=j4+1/\i3<=i4/\j4<=j3/\N<=1000000):=ae (by have:=qb.out;omega);have bj4:(j4:Int)<(N:Int):=by have:=mq.out;omega
     have hstep:=y5 E4.out KV.out;clear aag aah;by_cases Sc:i4>j4
     ·have R5:(i4:Int)>(j4:Int):=by omega
      rw[if_pos Sc,mQ.out]at hstep;have HST:=ae hstep;clear hstep;go_wp2;go_ret;rw[<- HRE.out,HST.out];exact⟨rfl,H8.out⟩
     ·have R5:¬(i4:Int)>(j4:Int):=by omega
      rw[if_neg Sc,mQ.out]at hstep;have HST:=ae hstep;clear hstep;have bi4:(i4:Int)<(N:Int):=by have:=mq.out;omega
      have KW:Hid (i4<dk.size/\j4<dk.size/\i4+1<=j4):=ae (by have:=mq.out;omega);obtain⟨J5,hJ5⟩:∃J5,J5=j4-1:=⟨_,rfl⟩;have wi5:IntKind.i64.wrap ((i4:Int)+1)=((i4+1:Nat):Int):=by
       have:=mq.out;rw[aw]<;>omega
      have wj5:IntKind.i64.wrap ((j4:Int)-1)=(J5:Int):=by
       have:=mq.out;have:=KW.out
       rw[aw]<;>omega
      have HJ5:Hid (J5=j4-1/\1<=j4):=ae (by have:=KW.out;omega);clear hJ5;go_upto_region 8 with fail
      go_cut [] from 71 to 84 (fun wx=>fE bt w0 jb pb bf made base g cap (swp dk i4 j4) wx)
      case first=>
       obtain⟨x,hx⟩:∃x,dk[i4]! = x:=⟨_,rfl⟩;have pw:Hid (i4<dk.size/\j4<dk.size):=ae (by have:=KW.out;omega);by_cases heq:i4=j4
       ·subst heq;obtain⟨pp,mH,⟨x0,x1,x2,x3⟩,dQ,hdone⟩:=H8.out.iC (i:=i4) pw.out.1 hx;have HD:=ae hdone;clear hdone;go_big_region
        all_goals
         clear x0 x1 x2 x3 dQ;go_wp2;go_meet
         exact HD.out
       ·obtain⟨y,hy⟩:∃y,dk[j4]! = y:=⟨_,rfl⟩;obtain⟨pp,qq,hex⟩:=H8.out.lA (i:=i4) (j:=j4) pw.out.1 pw.out.2 hx hy;have pI:=ae hex;obtain⟨mH,EY,x0,x1,x2,x3,y0,y1,y2,y3,dQ,jy,-⟩:=hex;obtain⟨n0,n1,n2,n3,n4,n5,n6⟩:=jy heq;clear jy;go_big_region
        all_goals
         clear x0 x1 x2 x3 y0 y1 y2 y3 n0 n1 n2 n3 n4 n5 n6 dQ;go_wp2;go_meet
         exact pI.out.done
      case rest=>
       have qs:=ae hcut;clear hcut;go_wp2;have q1:=mq.out;have q2:=KW.out;have q3:=HJ5.out;refine⟨⟨i4+1,J5,swp dk i4 j4,rfl,rfl,af,af,af,by rw[size_swp];omega,qs.out,?_⟩,by simp[intOf];omega⟩;show partEqLoop _ _ _ _ _=_;rw[HST.out,q3.1]
end
end
section
open Go.RowKit Go.Maps Go.Sort
section
variable {bt:Bool} {w0 W W':World} {jb pb bf made base g cap:Nat} {d:Array aD}
def H9(bt:Bool)(w0:World)(jb pb bf made base g cap:Nat)(r:Array aD×Bool)(e:Ending)(w':World):Prop:=
 e=.returned (.bool r.2)/\fE bt w0 jb pb bf made base g cap r.1 w'
theorem y6{lt:aD->aD->Bool}{a b s i u:Nat}{d:Array aD}(hu:u=scanSorted lt d b i) :
 partialIns lt a b (s+1) i d=if u=b then (d,true) else if b-a<50 then (d,false) else
  partialIns lt a b s u (if b-u >= 2 then shiftUp lt b (u+1) (if u-a >= 2 then shiftDown lt (u-1) (swp d u (u-1)) else swp d u (u-1)) else (if u-a >= 2 then shiftDown lt (u-1) (swp d u (u-1)) else swp d u (u-1))):=by
 subst hu;rfl
theorem nZ(h:fE bt w0 jb pb bf made base g cap d W)(a b:Nat)(hab:a<b)(hb:b<=d.size)(hsz:d.size<=1000000) :
 Calls prog 310 #[.slice (some ⟨g,0,none⟩) d.size cap,.int .i64 (a:Int),.int .i64 (b:Int),cK jb] W (H9 bt w0 jb pb bf made base g cap (partialInsertionSort (ltOf (aQ bt)) d a b)):=by
 have H:=ae h;obtain⟨N,hN⟩:∃N,N=d.size:=⟨_,rfl⟩;rw[<- hN]at hb hsz ⊢;have HN:=ae hN;clear h hN;obtain⟨L0,hL0⟩:∃L0,L0=b-a:=⟨_,rfl⟩;have wL0:IntKind.i64.wrap ((b:Int)-(a:Int))=(L0:Int):=by rw[aw]<;>omega
 have wI0:IntKind.i64.wrap ((a:Int)+1)=((a+1:Nat):Int):=by rw[aw]<;>omega
 have HB:Hid (a<b/\b<=N/\N<=1000000/\L0=b-a/\d.size=N):=ae (by have:=HN.out;omega);obtain⟨r,hr⟩:∃r,r=partialInsertionSort (ltOf (aQ bt)) d a b:=⟨_,rfl⟩;have HR:Hid (partialIns (ltOf (aQ bt)) a b 5 (a+1) d=r):=ae (by rw[hr];rfl);rw[<- hr];clear hL0 hab hb hsz hr;unfold cK ptrTo;go_enter func310,ntmps310;go_wp2_with fail;go_loopw [9,10] (fun vi vs wr=>∃(i3 s3:Nat)(dk:Array aD),vi=.int .i64 (i3:Int)/\vs=.int .i64 (s3:Int)/\a<i3/\i3<=b/\s3<=5/\dk.size=N/\fE bt w0 jb pb bf made base g cap dk wr/\Hid (partialIns (ltOf (aQ bt)) a b (5-s3) i3 dk=r)) (fun _ vs _=>5-(intOf vs).toNat)
 case atStart=>exact⟨a+1,0,d,by go_num,rfl,af,by have:=HB.out;omega,af,HN.out.symm,H.out,HR.out⟩
 case round=>
  obtain⟨i3,s3,dk,rfl,rfl,ajf,ajg,apQ,hsk,hs3,mQ⟩:=hrel;generalize wr=Wr3 at *;have gH:=ae hs3;have tN:Hid (dk.size=N/\a<i3/\i3<=b/\s3<=5/\b<=N/\N<=1000000/\0<i3):=ae (by have:=HB.out;omega);clear hs3 hsk ajf ajg;by_cases hs5:s3<5
  ·have ajh:(s3:Int)<5:=by omega
   have ws1:IntKind.i64.wrap ((s3:Int)+1)=((s3+1:Nat):Int):=by rw[aw]<;>omega
   go_upto_block 2 with fail
   go_cut [9] from 19 to 38 (fun vi wx=>∃i:Nat,vi=.int .i64 (i:Int)/\fE bt w0 jb pb bf made base g cap dk wx/\Hid (i=scanSorted (ltOf (aQ bt)) dk b i3/\i3<=i/\i<=b))
   case first=>
    go_wp2_with fail;go_loopw [9] (fun vi wr=>∃i:Nat,vi=.int .i64 (i:Int)/\i3<=i/\i<=b/\fE bt w0 jb pb bf made base g cap dk wr/\Hid (scanSorted (ltOf (aQ bt)) dk b i=scanSorted (ltOf (aQ bt)) dk b i3)) (fun vi _=>b-(intOf vi).toNat)
    case atStart=>exact⟨i3,rfl,Nat.le_refl _,tN.out.2.2.1,gH.out,rfl⟩
    case round=>
     obtain⟨i,rfl,hb1,hb2,hs,HO⟩:=hrel;generalize wr=Wr at *;have HS:=ae hs;clear hs;by_cases eY:i<b
     ·obtain⟨ip,hip⟩:∃ip,ip=i-1:=⟨_,rfl⟩;have qO:(i:Int)<(b:Int):=by omega
      have bi:(i:Int)<(N:Int):=by have:=tN.out;omega
      have bip:(ip:Int)<(N:Int):=by have:=tN.out;omega
      have Yb:IntKind.i64.wrap ((i:Int)+1)=((i+1:Nat):Int):=by
       have:=tN.out;rw[aw]<;>omega
      have wim:IntKind.i64.wrap ((i:Int)-1)=(ip:Int):=by
       have:=tN.out;rw[aw]<;>omega
      have UZ:Hid (ip=i-1):=ae hip;obtain⟨x,hx⟩:∃x,dk[i]! = x:=⟨_,rfl⟩;obtain⟨y,hy⟩:∃y,dk[ip]! = y:=⟨_,rfl⟩;have F:=ae (HS.out.reads (i:=i) (j:=ip) (by have:=tN.out;omega) (by have:=tN.out;omega) hx hy);clear hip;by_cases hl:aQ bt x y<0
      ·go_wp2_with fail;refine wq Wr ?_;iterate 8 (refine qz ?_)
       refine qz ?_ (fun w' hw'=>by obtain⟨⟨c0,c1,c2,c3⟩,-,-⟩:=F.out w' hw';go_simp<;>rfl);iterate 4 (refine qz ?_)
       refine qz ?_ (fun w' hw'=>by obtain⟨-,⟨c0,c1,c2,c3⟩,-⟩:=F.out w' hw';go_simp<;>rfl);refine qw (fun w' hw'=>(F.out w' hw').2.2) ?_;iterate 3 (refine qz ?_)
       refine wpQuiet_nil ?_;intro w5 fP;have b7:=ae (HS.out.below fP);clear fP;go_wp2;go_meet
       exact⟨i,rfl,b7.out,ae ⟨by rw[<- HO.out];exact(scanSorted_stop _ _ _ _ (.inr (by rw[<- UZ.out,hx,hy];exact decide_eq_true hl))).symm,hb1,hb2⟩⟩
      ·have DK:decide (aQ bt x y<0)=false:=decide_eq_false hl;go_wp2_with fail;refine wq Wr ?_;iterate 8 (refine qz ?_)
       refine qz ?_ (fun w' hw'=>by obtain⟨⟨c0,c1,c2,c3⟩,-,-⟩:=F.out w' hw';go_simp<;>rfl);iterate 4 (refine qz ?_)
       refine qz ?_ (fun w' hw'=>by obtain⟨-,⟨c0,c1,c2,c3⟩,-⟩:=F.out w' hw';go_simp<;>rfl);refine qw (fun w' hw'=>(F.out w' hw').2.2) ?_;iterate 3 (refine qz ?_)
       refine wpQuiet_nil ?_;intro w5 fP;have b7:=ae (HS.out.below fP);clear fP;go_wp2;refine⟨⟨(i+1),rfl,af,af,b7.out,?_⟩,by simp[intOf];omega⟩;show scanSorted _ _ _ _=_;rw[<- HO.out];exact(scanSorted_go _ _ _ _ eY (by rw[<- UZ.out,hx,hy];exact DK)).symm
     ·have qO:¬((i:Int)<(b:Int)):=by omega
      go_wp2_with fail;go_quiet (fail)
      have vK:RowKit.Below Wr.heap.size Wr (Wr.drewN nq):=⟨rfl,rfl,rfl,Nat.le_refl _,fun _ _=>rfl⟩;have b7:=ae (HS.out.below vK);clear vK;go_wp2;go_meet
      exact⟨i,rfl,b7.out,ae ⟨by rw[<- HO.out];exact(scanSorted_stop _ _ _ _ (.inl eY)).symm,hb1,hb2⟩⟩
   case rest=>
    obtain⟨u,rfl,hsu,hu⟩:=hcut;have HSu:=ae hsu;have HU:=ae hu.out;have HST:=ae (y6 (a:=a) (s:=5-(s3+1)) hu.out.1);have h5:5-(s3+1)+1=5-s3:=by omega
    rw[h5,mQ.out]at HST;clear hsu hu h5;by_cases VX:u=b
    ·have ajj:(u:Int)=(b:Int):=by omega
     have e:=HST.out;rw[if_pos VX]at e;have HE:=ae e;clear e VX;go_wp2;go_ret;rw[HE.out];exact⟨rfl,HSu.out⟩
    ·have ajj:((u:Int) == (b:Int))=false:=by simp;omega
     by_cases h50:b-a<50
     ·have ajk:(L0:Int)<50:=by have:=HB.out;omega
      have e:=HST.out;rw[if_neg VX,if_pos h50]at e;have HE:=ae e;clear e VX h50;go_wp2;go_ret;rw[HE.out];exact⟨rfl,HSu.out⟩
     ·have ajk:¬(L0:Int)<50:=by have:=HB.out;omega
      have e:=HST.out;rw[if_neg VX,if_neg h50]at e;have HE:=ae e;obtain⟨U1,hU1⟩:∃U1,U1=u-1:=⟨_,rfl⟩;rw[<- hU1]at HE;have bu:(u:Int)<(N:Int):=by have:=HU.out;have:=HB.out;omega
      have bu1:(U1:Int)<(N:Int):=by have:=HU.out;have:=HB.out;omega
      have wu1:IntKind.i64.wrap ((u:Int)-1)=(U1:Int):=by
       have:=HU.out;have:=HB.out;have:=tN.out
       rw[aw]<;>omega
      have wup:IntKind.i64.wrap ((u:Int)+1)=((u+1:Nat):Int):=by
       have:=HU.out;have:=HB.out
       rw[aw]<;>omega
      obtain⟨P,hP⟩:∃P,P=u-a:=⟨_,rfl⟩;obtain⟨Q,hQ⟩:∃Q,Q=b-u:=⟨_,rfl⟩;have wP:IntKind.i64.wrap ((u:Int)-(a:Int))=(P:Int):=by
       have:=HU.out;have:=HB.out;have:=tN.out
       rw[aw]<;>omega
      have wQ:IntKind.i64.wrap ((b:Int)-(u:Int))=(Q:Int):=by
       have:=HU.out;have:=HB.out
       rw[aw]<;>omega
      have mq:Hid (u<dk.size/\U1<dk.size/\u≠U1/\dk.size=N/\a<u/\u<b/\b<=N/\N<=1000000/\P=u-a/\Q=b-u/\U1=u-1):=ae (by have:=HU.out;have:=HB.out;have:=tN.out;omega);clear e VX h50 hU1 hP hQ;go_upto_region 11 with fail
      go_cut [] from 46 to 61 (fun wx=>fE bt w0 jb pb bf made base g cap (swp dk u U1) wx)
      case first=>
       obtain⟨x,hx⟩:∃x,dk[u]! = x:=⟨_,rfl⟩;obtain⟨y,hy⟩:∃y,dk[U1]! = y:=⟨_,rfl⟩;obtain⟨pp,qq,hex⟩:=HSu.out.lA (i:=u) (j:=U1) mq.out.1 mq.out.2.1 hx hy;have pI:=ae hex;obtain⟨mH,EY,x0,x1,x2,x3,y0,y1,y2,y3,dQ,jy,-⟩:=hex;obtain⟨n0,n1,n2,n3,n4,n5,n6⟩:=jy mq.out.2.2.1;clear jy;go_big_region
       all_goals
        clear x0 x1 x2 x3 y0 y1 y2 y3 n0 n1 n2 n3 n4 n5 n6 dQ;go_wp2;go_meet
        exact pI.out.done
      case rest=>
       have jg:=ae hcut;clear hcut;obtain⟨D1,OC⟩:∃D1,D1=swp dk u U1:=⟨_,rfl⟩;rw[<- OC]at jg HE;have aei:Hid (D1.size=N):=ae (by rw[OC,size_swp];exact mq.out.2.2.2.1);clear OC;rw[show u-a=P from mq.out.2.2.2.2.2.2.2.2.1.symm,show b-u=Q from mq.out.2.2.2.2.2.2.2.2.2.1.symm]at HE;go_upto_if 65 with fail
       go_cut [] from 65 to 100 (fun wx=>∃dd:Array aD,dd.size=N/\fE bt w0 jb pb bf made base g cap dd wx/\Hid (dd=if P >= 2 then shiftDown (ltOf (aQ bt)) U1 D1 else D1))
       case first=>
        by_cases hV:P >= 2
        ·have hVz:(P:Int) >= 2:=by omega
         go_wp2_with fail;go_loopw [11] (fun vj wr=>∃(j:Nat)(dj:Array aD),vj=.int .i64 (j:Int)/\j<=U1/\dj.size=N/\fE bt w0 jb pb bf made base g cap dj wr/\Hid (shiftDown (ltOf (aQ bt)) j dj=shiftDown (ltOf (aQ bt)) U1 D1)) (fun vj _=>(intOf vj).toNat)
         case atStart=>exact⟨U1,D1,rfl,Nat.le_refl _,aei.out,jg.out,rfl⟩
         case round=>
          obtain⟨j,dj,rfl,KM,hsj,hs,HI⟩:=hrel;generalize wr=Wr at *;have BW:=ae hs;have VY:=ae hsj;clear hs hsj;by_cases hjc:1<=j
          ·have JX:(j:Int) >= 1:=by omega
           obtain⟨jp,hjp⟩:∃jp,jp=j-1:=⟨_,rfl⟩;have bj:(j:Int)<(N:Int):=by have:=mq.out;omega
           have bjp:(jp:Int)<(N:Int):=by have:=mq.out;omega
           have wjp:IntKind.i64.wrap ((j:Int)-1)=(jp:Int):=by
            have:=mq.out;rw[aw]<;>omega
           have HJ:Hid (j<dj.size/\jp<dj.size/\j≠jp/\jp=j-1/\1<=j):=ae (by have:=mq.out;have:=VY.out;omega);clear hjp;obtain⟨x,hx⟩:∃x,dj[j]! = x:=⟨_,rfl⟩;obtain⟨y,hy⟩:∃y,dj[jp]! = y:=⟨_,rfl⟩;have F:=ae (BW.out.reads (i:=j) (j:=jp) HJ.out.1 HJ.out.2.1 hx hy);by_cases hl:aQ bt x y<0
           ·have HLT:Hid (ltOf (aQ bt) dj[j]! dj[jp]! = true):=ae (by rw[hx,hy];exact decide_eq_true hl);go_wp2_with fail;refine wq Wr ?_;iterate 4 (refine qz ?_)
            refine qz ?_ (fun w' hw'=>by obtain⟨⟨c0,c1,c2,c3⟩,-,-⟩:=F.out w' hw';go_simp<;>rfl);iterate 4 (refine qz ?_)
            refine qz ?_ (fun w' hw'=>by obtain⟨-,⟨c0,c1,c2,c3⟩,-⟩:=F.out w' hw';go_simp<;>rfl);refine qw (fun w' hw'=>(F.out w' hw').2.2) ?_;iterate 2 (refine qz ?_)
            refine wpQuiet_nil ?_;intro w5 fP;have b7:=ae (BW.out.below fP);clear fP;clear hx hy F;go_upto_region 17 with fail
            obtain⟨x',U2⟩:∃x,dj[j]! = x:=⟨_,rfl⟩;obtain⟨y',hy'⟩:∃y,dj[jp]! = y:=⟨_,rfl⟩;obtain⟨pp,qq,hex⟩:=b7.out.lA (i:=j) (j:=jp) HJ.out.1 HJ.out.2.1 U2 hy';have pI:=ae hex;obtain⟨mH,EY,x0,x1,x2,x3,y0,y1,y2,y3,dQ,jy,-⟩:=hex;obtain⟨n0,n1,n2,n3,n4,n5,n6⟩:=jy HJ.out.2.2.1;clear jy;go_big_region
            all_goals
             clear x0 x1 x2 x3 y0 y1 y2 y3 n0 n1 n2 n3 n4 n5 n6 dQ;have hdone:=ae pI.out.done;go_wp2;have q:=HJ.out;refine⟨⟨jp,swp dj j jp,rfl,af,by rw[size_swp];exact VY.out,hdone.out,?_⟩,by simp[intOf];omega⟩;show shiftDown (ltOf (aQ bt)) _ _=_;rw[<- HI.out,q.2.2.2.1];exact(shiftDown_go _ _ _ q.2.2.2.2 (by rw[<- q.2.2.2.1];exact HLT.out)).symm
           ·have DK:decide (aQ bt x y<0)=false:=decide_eq_false hl;go_wp2_with fail;refine wq Wr ?_;iterate 4 (refine qz ?_)
            refine qz ?_ (fun w' hw'=>by obtain⟨⟨c0,c1,c2,c3⟩,-,-⟩:=F.out w' hw';go_simp<;>rfl);iterate 4 (refine qz ?_)
            refine qz ?_ (fun w' hw'=>by obtain⟨-,⟨c0,c1,c2,c3⟩,-⟩:=F.out w' hw';go_simp<;>rfl);refine qw (fun w' hw'=>(F.out w' hw').2.2) ?_;iterate 2 (refine qz ?_)
            refine wpQuiet_nil ?_;intro w5 fP;have b7:=ae (BW.out.below fP);clear fP;go_wp2;go_meet
            exact⟨dj,VY.out,b7.out,ae (by rw[if_pos hV,<- HI.out];exact(shiftDown_stop _ _ _ (.inr (by rw[<- HJ.out.2.2.2.1,hx,hy];exact DK))).symm)⟩
          ·have JX:¬((j:Int) >= 1):=by omega
           go_wp2;go_meet
           exact⟨dj,VY.out,BW.out,ae (by rw[if_pos hV,<- HI.out];exact(shiftDown_stop _ _ _ (.inl af)).symm)⟩
        ·have hVz:¬(P:Int) >= 2:=by omega
         go_wp2;go_meet
         exact⟨D1,aei.out,jg.out,ae (by rw[if_neg hV])⟩
       case rest=>
        obtain⟨D2,hz,hs,U0⟩:=hcut;have eP:=ae hs;have aej:=ae hz;have ajn:=ae U0.out;clear hs hz U0;rw[<- ajn.out]at HE;by_cases hV:Q >= 2
        ·have hVz:(Q:Int) >= 2:=by omega
         go_wp2_with fail;go_loopw [12] (fun vj wr=>∃(j:Nat)(dj:Array aD),vj=.int .i64 (j:Int)/\u<j/\j<=b/\dj.size=N/\fE bt w0 jb pb bf made base g cap dj wr/\Hid (shiftUp (ltOf (aQ bt)) b j dj=shiftUp (ltOf (aQ bt)) b (u+1) D2)) (fun vj _=>b-(intOf vj).toNat)
         case atStart=>exact⟨(u+1),D2,rfl,af,by have:=mq.out;omega,aej.out,eP.out,rfl⟩
         case round=>
          obtain⟨j,dj,rfl,UX,KM,hsj,hs,HI⟩:=hrel;generalize wr=Wr at *;have BW:=ae hs;have VY:=ae hsj;clear hs hsj;by_cases hjc:j<b
          ·have JX:(j:Int)<(b:Int):=by omega
           obtain⟨jp,hjp⟩:∃jp,jp=j-1:=⟨_,rfl⟩;have bj:(j:Int)<(N:Int):=by have:=mq.out;omega
           have bjp:(jp:Int)<(N:Int):=by have:=mq.out;omega
           have wjp:IntKind.i64.wrap ((j:Int)-1)=(jp:Int):=by
            have:=mq.out;rw[aw]<;>omega
           have wjn:IntKind.i64.wrap ((j:Int)+1)=((j+1:Nat):Int):=by
            have:=mq.out;rw[aw]<;>omega
           have HJ:Hid (j<dj.size/\jp<dj.size/\j≠jp/\jp=j-1/\1<=j):=ae (by have:=mq.out;have:=VY.out;omega);clear hjp;obtain⟨x,hx⟩:∃x,dj[j]! = x:=⟨_,rfl⟩;obtain⟨y,hy⟩:∃y,dj[jp]! = y:=⟨_,rfl⟩;have F:=ae (BW.out.reads (i:=j) (j:=jp) HJ.out.1 HJ.out.2.1 hx hy);by_cases hl:aQ bt x y<0
           ·have HLT:Hid (ltOf (aQ bt) dj[j]! dj[jp]! = true):=ae (by rw[hx,hy];exact decide_eq_true hl);go_wp2_with fail;refine wq Wr ?_;iterate 4 (refine qz ?_)
            refine qz ?_ (fun w' hw'=>by obtain⟨⟨c0,c1,c2,c3⟩,-,-⟩:=F.out w' hw';go_simp<;>rfl);iterate 4 (refine qz ?_)
            refine qz ?_ (fun w' hw'=>by obtain⟨-,⟨c0,c1,c2,c3⟩,-⟩:=F.out w' hw';go_simp<;>rfl);refine qw (fun w' hw'=>(F.out w' hw').2.2) ?_;iterate 2 (refine qz ?_)
            refine wpQuiet_nil ?_;intro w5 fP;have b7:=ae (BW.out.below fP);clear fP;clear hx hy F;go_upto_region 23 with fail
            obtain⟨x',U2⟩:∃x,dj[j]! = x:=⟨_,rfl⟩;obtain⟨y',hy'⟩:∃y,dj[jp]! = y:=⟨_,rfl⟩;obtain⟨pp,qq,hex⟩:=b7.out.lA (i:=j) (j:=jp) HJ.out.1 HJ.out.2.1 U2 hy';have pI:=ae hex;obtain⟨mH,EY,x0,x1,x2,x3,y0,y1,y2,y3,dQ,jy,-⟩:=hex;obtain⟨n0,n1,n2,n3,n4,n5,n6⟩:=jy HJ.out.2.2.1;clear jy;go_big_region
            all_goals
             clear x0 x1 x2 x3 y0 y1 y2 y3 n0 n1 n2 n3 n4 n5 n6 dQ;have hdone:=ae pI.out.done;go_wp2;have q:=HJ.out;refine⟨⟨(j+1),swp dj j jp,rfl,af,af,by rw[size_swp];exact VY.out,hdone.out,?_⟩,by simp[intOf];omega⟩;show shiftUp (ltOf (aQ bt)) b _ _=_;rw[<- HI.out,q.2.2.2.1];exact(shiftUp_go _ _ _ _ hjc (by rw[<- q.2.2.2.1];exact HLT.out)).symm
           ·have DK:decide (aQ bt x y<0)=false:=decide_eq_false hl;go_wp2_with fail;refine wq Wr ?_;iterate 4 (refine qz ?_)
            refine qz ?_ (fun w' hw'=>by obtain⟨⟨c0,c1,c2,c3⟩,-,-⟩:=F.out w' hw';go_simp<;>rfl);iterate 4 (refine qz ?_)
            refine qz ?_ (fun w' hw'=>by obtain⟨-,⟨c0,c1,c2,c3⟩,-⟩:=F.out w' hw';go_simp<;>rfl);refine qw (fun w' hw'=>(F.out w' hw').2.2) ?_;iterate 2 (refine qz ?_)
            refine wpQuiet_nil ?_;intro w5 fP;have b7:=ae (BW.out.below fP);clear fP;have Sd:Hid (dj=if Q >= 2 then shiftUp (ltOf (aQ bt)) b (u+1) D2 else D2):=ae (by rw[if_pos hV,<- HI.out];exact(shiftUp_stop _ _ _ _ (.inr (by rw[<- HJ.out.2.2.2.1,hx,hy];exact DK))).symm);have HF:Hid (partialIns (ltOf (aQ bt)) a b (5-(s3+1)) u dj=r):=ae (by rw[Sd.out];exact HE.out.symm);go_wp2;have q:=mq.out;exact⟨⟨u,s3+1,dj,rfl,rfl,af,af,af,(VY.out),(b7.out),HF⟩,by simp[intOf];omega⟩
          ·have JX:¬((j:Int)<(b:Int)):=by omega
           have Sd:Hid (dj=if Q >= 2 then shiftUp (ltOf (aQ bt)) b (u+1) D2 else D2):=ae (by rw[if_pos hV,<- HI.out];exact(shiftUp_stop _ _ _ _ (.inl hjc)).symm);have HF:Hid (partialIns (ltOf (aQ bt)) a b (5-(s3+1)) u dj=r):=ae (by rw[Sd.out];exact HE.out.symm);go_wp2;have q:=mq.out;exact⟨⟨u,s3+1,dj,rfl,rfl,af,af,af,(VY.out),(BW.out),HF⟩,by simp[intOf];omega⟩
        ·have hVz:¬(Q:Int) >= 2:=by omega
         have Sd:Hid (D2=if Q >= 2 then shiftUp (ltOf (aQ bt)) b (u+1) D2 else D2):=ae (by rw[if_neg hV]);have HF:Hid (partialIns (ltOf (aQ bt)) a b (5-(s3+1)) u D2=r):=ae (by rw[Sd.out];exact HE.out.symm);go_wp2;have q:=mq.out;exact⟨⟨u,s3+1,D2,rfl,rfl,af,af,af,(aej.out),(eP.out),HF⟩,by simp[intOf];omega⟩
  ·have ajh:¬(s3:Int)<5:=by omega
   have e:5-s3=0:=by omega
   have HF:=mQ.out;rw[e]at HF;have HG:Hid (r=(dk,false)):=ae HF.symm;clear HF e;go_wp2;go_ret;rw[HG.out];exact⟨rfl,gH.out⟩
end
end
section
open Go.RowKit Go.Maps Go.Sort
def Sg(m:Nat):Prop:=∀{bt:Bool}{w0 W:World}{jb pb bf made base g cap:Nat}{d:Array aD},fE bt w0 jb pb bf made base g cap d W->∀(a b limit:Nat),a<=b->b<=d.size->d.size<=1000000->b-a<=m->limit<=64->Sort.Below (ltOf (aQ bt)) a b d ->
 Calls prog 292 #[.slice (some ⟨g,0,none⟩) d.size cap,.int .i64 (a:Int),.int .i64 (b:Int),.int .i64 (limit:Int),cK jb] W (mZ bt w0 jb pb bf made base g cap (pdq (ltOf (aQ bt)) d a b limit true true))
theorem K0:Sg 12:=by
 intro bt w0 W jb pb bf made base g cap d h a b limit hab hb hsz hm hl _;have ajo:=ae (nc h a b hab hb hsz);rw[pdq_small hm];have hw:IntKind.i64.wrap ((b:Int)-(a:Int))=(b:Int)-(a:Int):=aw af af;have hle:(b:Int)-(a:Int)<=12:=by omega
 clear h;unfold cK ptrTo at *;generalize d.size=N at *;go_enter func292,ntmps292;go_wp2;refine wp_loop_rounds 1 ?_;rw[rounds_succ];go_wp2_with fail;refine ajo.out.mono ?_;rintro e w'⟨rfl,hs⟩;have HS:=ae hs;clear hs;go_wp2;go_returns;exact⟨rfl,HS.out⟩
theorem OD{n:Nat}(h:n<=1000000):Lib.bitLen n<=64:=Nat.le_trans (Lib.bitLen_le n 62 af af) ag
theorem Ia{m:Nat}(hm:m<=1000000)(HP:Sg m):qN m:=by
 intro w jb pb bf made b hj base g cap es hes ho hgj hgb;have hs:fE b w jb pb bf made base g cap es.toArray w:=⟨by simpa using ho,hj,hgj,hgb,aG.refl _ _⟩;have ajp:=OD (n:=es.length) af;have hp:=HP hs 0 es.length (Lib.bitLen es.length) (Nat.zero_le _) ai (by simp;omega) af ajp (.inl rfl);obtain⟨Ib,yC⟩:=pdq_sorts (ltOf (aQ b)) (oM b) es.toArray 0 es.length (Lib.bitLen es.length) true true (Nat.zero_le _) ai (.inl rfl);have Yd:Calls prog 87 #[.int .u64 (es.length:Int)] w fun e w'=>e=.returned (.int .i64 (Lib.bitLen es.length:Nat))/\w'=w:=by
  have:=Any.bits_Len (SlLaysF0.n15.bits (P:=prog) (ρ:=Tryz.eI) { Tryz.jY with }) (es.length:Int) w af af;rwa [Int.toNat_natCast]at this
 have HB:=ae Yd;generalize pdq (ltOf (aQ b)) es.toArray 0 es.length (Lib.bitLen es.length) true true=D at *;have HQ:Hid (∀e w',mZ b w jb pb bf made base g cap D e w'->AK b w base g cap es e w'):=ae (fun e w' ⟨he,h2⟩=>by
  obtain⟨hsz,-,Qx⟩:=Ib;have hsz':D.size=es.length:=by rw[hsz];simp
  refine⟨D.toList,he,?_,?_,?_,h2.turn⟩
  ·have e1:(D.extract 0 es.length).toList=D.toList:=by rw[<- hsz'];simp
   have e2:(es.toArray.extract 0 es.length).toList=es:=by simp
   rw[e1,e2]at Qx;exact Qx
  ·rw[List.pairwise_iff_getElem];intro i j hi hj eY;have h3:=yC i j (Nat.zero_le _) eY (by rw[<- hsz'];simpa using hj);unfold ltOf at h3;rw[decide_eq_false_iff_not,Ay]at h3;rw[Array.length_toList]at hi hj;rw[getElem!_pos D i hi,getElem!_pos D j hj]at h3;rw[Array.getElem_toList,Array.getElem_toList];exact h3
  ·have:=h2.row;rw[hsz']at this;exact this)
 have HC:=ae hp;have hw:IntKind.u64.wrap (es.length:Int)=(es.length:Int):=fW _ af af;clear Yd hp Ib yC hs hj ho;simp only[List.size_toArray]at HC;unfold cK ptrTo at *;generalize es.length=N at *;go_enter func260,ntmps260;go_wp2_with fail;refine HB.out.mono ?_;rintro e w'⟨rfl,rfl⟩;go_wp2_with fail;refine HC.out.mono ?_;rintro e w2⟨rfl,hs⟩;have HS:=ae hs;clear hs;go_wp2;go_returns;exact HQ.out _ _ ⟨rfl,HS.out⟩
structure Round(lt:aD->aD->Bool)(a b lim:Nat)(wb wp:Bool)(dk:Array aD)(R:Sort.Rd aD):Prop where
 brk:wb=false->R.d1=breakPatterns dk a b/\R.lim=lim-1
 nob:wb=true->R.d1=dk/\R.lim=lim
 c:R.c=choosePivot lt R.d1 a b
 dec:R.c.2=.decreasing->R.d2=reverseRange R.d1 a b/\R.pivot=(b-1)-(R.c.1-a)/\R.hint=.increasing
 Sh:R.c.2≠.decreasing->R.d2=R.d1/\R.pivot=R.c.1/\R.hint=R.c.2
 yes:(wb && wp && decide (R.hint=.increasing))=true->R.pi=partialInsertionSort lt R.d2 a b
 no:(wb && wp && decide (R.hint=.increasing))=false->R.pi=(R.d2,false)
 s1:R.d1.size=dk.size
 c1:a<=R.c.1
 c2:R.c.1<b
 s2:R.d2.size=dk.size
 p1:a<=R.pivot
 p2:R.pivot<b
 s3:R.pi.1.size=dk.size
 B3:Sort.Below lt a b R.pi.1
 jZ:R.lim<=lim
 done:R.pi.2=true->pdq lt dk a b lim wb wp=R.pi.1
 eq:R.pi.2=false->(decide (a>0) && !lt R.pi.1[a-1]! R.pi.1[R.pivot]!)=true->∀mid d4,partitionEqual lt R.pi.1 a b R.pivot=(mid,d4)->a<mid->mid<=b->pdq lt dk a b lim wb wp=pdq lt d4 mid b R.lim wb wp
 left:R.pi.2=false->(decide (a>0) && !lt R.pi.1[a-1]! R.pi.1[R.pivot]!)=false->∀mid ap d4,partition lt R.pi.1 a b R.pivot=(mid,ap,d4)->a<=mid->mid<b->mid-a<b-mid->pdq lt dk a b lim wb wp=pdq lt (pdq lt d4 a mid R.lim true true) (mid+1) b R.lim (decide (mid-a >= (b-a)/8)) ap
 right:R.pi.2=false->(decide (a>0) && !lt R.pi.1[a-1]! R.pi.1[R.pivot]!)=false->∀mid ap d4,partition lt R.pi.1 a b R.pivot=(mid,ap,d4)->a<=mid->mid<b->¬mid-a<b-mid->pdq lt dk a b lim wb wp=pdq lt (pdq lt d4 (mid+1) b R.lim true true) a mid R.lim (decide (b-mid >= (b-a)/8)) ap
theorem Si{lt:aD->aD->Bool}(h:SWO lt){a b lim:Nat}(wb wp:Bool){dk:Array aD}(ET:¬b-a<=12)(h0:¬lim=0)(hb:b<=dk.size)(hB:Sort.Below lt a b dk):Round lt a b lim wb wp dk (rd lt dk a b lim wb wp):=by
 obtain⟨s1,B1,hc1,s2,B2,Ye,s3,B3⟩:=rd_facts (limit:=lim) (wb:=wb) (wp:=wp) h partialInsertionSort_holds reverseRange_holds (show a<b by omega) hb hB;exact {
  brk:=by rintro rfl;exact rd_false
  nob:=by rintro rfl;exact rd_true
  c:=rd_c
  dec:=rd_dec
  Sh:=rd_not
  yes:=rd_pi_yes
  no:=rd_pi_no
  s1:=s1
  c1:=hc1.1
  c2:=hc1.2
  s2:=s2
  p1:=Ye.1
  p2:=Ye.2
  s3:=s3
  B3:=B3
  jZ:=rd_lim_le
  done:=pdq_done ET h0
  eq:=fun h1 h2 mid d4 hx r1 r2=>by rw[pdq_eq ET h0 h1 h2 (by rw[hx];exact⟨r1,r2⟩),hx]
  left:=fun h1 h2 mid ap d4 hx r1 r2 h4=>by rw[pdq_left ET h0 h1 h2 (by rw[hx];exact⟨r1,r2⟩) (by rw[hx];exact h4),hx]
  right:=fun h1 h2 mid ap d4 hx r1 r2 h4=>by rw[pdq_right ET h0 h1 h2 (by rw[hx];exact⟨r1,r2⟩) (by rw[hx];exact h4),hx] }
theorem OE{h:Hint}(e:nh h=2):h=.decreasing:=by cases h<;>simp[nh]at e ⊢
theorem VZ:∀m,Sg m:=by
 intro m;induction m with
 |zero=>exact fun h a b l h1 h2 h3 h4 h5 h6=>K0 h a b l h1 h2 h3 af h5 h6
 |succ m ih=>
   intro bt w0 W jb pb bf made base g cap d h a b limit hab hb hsz hm hl Sj;have H:=ae h;have kR:=ae Sj;obtain⟨N,hN⟩:∃N,N=d.size:=⟨_,rfl⟩;rw[<- hN]at hb hsz ⊢;obtain⟨r,hr⟩:∃r,r=pdq (ltOf (aQ bt)) d a b limit true true:=⟨_,rfl⟩;rw[<- hr];have Yf:Hid (pdq (ltOf (aQ bt)) d a b limit true true=r):=ae hr.symm;have HX:Hid (a<=b/\b<=N/\N<=1000000/\b-a<=m+1/\limit<=64/\d.size=N):=ae af;clear h hN Sj hr hab hb hsz hm hl;unfold cK ptrTo;go_enter func292,ntmps292;go_wp2_with fail;go_loopw [1,2,3,10,11] (fun s1 s2 s3 s10 s11 wr=>∃(a1 b1 lim:Nat)(wb wp:Bool)(dk:Array aD),s1=.int .i64 (a1:Int)/\s2=.int .i64 (b1:Int)/\s3=.int .i64 (lim:Int)/\s10=.bool wb/\s11=.bool wp/\a1<=b1/\b1<=N/\b1-a1<=m+1/\lim<=64/\dk.size=N/\Hid (Sort.Below (ltOf (aQ bt)) a1 b1 dk)/\fE bt w0 jb pb bf made base g cap dk wr/\Hid (pdq (ltOf (aQ bt)) dk a1 b1 lim wb wp=r)) (fun s1 s2 _ _ _ _=>(intOf s2-intOf s1).toNat)
   case atStart=>exact⟨a,b,limit,true,true,d,rfl,rfl,rfl,rfl,rfl,HX.out.1,HX.out.2.1,HX.out.2.2.2.1,HX.out.2.2.2.2.1,HX.out.2.2.2.2.2,kR,H.out,Yf⟩
   case round=>
    obtain⟨a1,b1,lim,wb,wp,dk,rfl,rfl,rfl,rfl,rfl,aaj,hb1,P0,JS,hsk,HBk,hs,HO⟩:=hrel;generalize wr=Wr at *;have HS:=ae hs;have HZ:=ae hsk;obtain⟨L,hL⟩:∃L,L=b1-a1:=⟨_,rfl⟩;have wL:IntKind.i64.wrap ((b1:Int)-(a1:Int))=(L:Int):=by
     have:=HX.out;rw[aw]<;>omega
    have HK:Hid (a1<=b1/\b1<=N/\L=b1-a1/\L<=m+1/\lim<=64/\N<=1000000/\dk.size=N):=ae (by have:=HX.out;omega);clear hs hsk hL aaj hb1 P0 JS;by_cases ET:L<=12
    ·have aak:(L:Int)<=12:=by omega
     have hc:=nc HS.out a1 b1 HK.out.1 (by have:=HK.out;omega) (by have:=HK.out;omega);rw[HZ.out]at hc;unfold cK ptrTo at hc;have HC:=ae hc;clear hc;have HF:Hid (r=insertionSort (ltOf (aQ bt)) dk a1 b1):=ae (by rw[<- HO.out];exact pdq_small (by have:=HK.out;omega));go_wp2_with fail;refine HC.out.mono ?_;rintro e w1⟨rfl,hs1⟩;have jg:=ae hs1;clear hs1;go_wp2;go_returns;rw[HF.out];exact⟨rfl,jg.out⟩
    ·have aak:¬((L:Int)<=12):=by omega
     by_cases hl0:lim=0
     ·subst hl0;have hc:=E3 HS.out a1 b1 (by have:=HK.out;omega) (by have:=HK.out;omega) (by have:=HK.out;omega);rw[HZ.out]at hc;unfold cK ptrTo at hc;have HC:=ae hc;clear hc;have HF:Hid (r=heapSort (ltOf (aQ bt)) dk a1 b1):=ae (by rw[<- HO.out];exact pdq_heap (by have:=HK.out;omega) rfl);go_wp2_with fail;refine HC.out.mono ?_;rintro e w1⟨rfl,hs1⟩;have jg:=ae hs1;clear hs1;go_wp2;go_returns;rw[HF.out];exact⟨rfl,jg.out⟩
     ·have ajt:((lim:Int) == 0)=false:=by simp;omega
      have JY:Hid (1<=lim/\12<L):=ae af;obtain⟨R,HR⟩:∃R,Hid (Round (ltOf (aQ bt)) a1 b1 lim wb wp dk R):=⟨_,ae (Si (oM bt) wb wp (by have:=HK.out;omega) hl0 (by have:=HK.out;omega) HBk.out)⟩;clear hl0 ET;go_upto_if 39 with fail
      go_cut [3] from 21 to 147 (fun s3 wc=>s3=.int .i64 (R.lim:Int)/\fE bt w0 jb pb bf made base g cap R.d1 wc)
      case first=>
       cases wb with
       |false=>
         obtain⟨e1,e2⟩:=HR.out.brk rfl;have hc:=uK HS.out a1 b1 (by have:=HK.out;have:=JY.out;omega) (by have:=HK.out;omega) (by have:=HK.out;omega);rw[HZ.out,<- e1]at hc;unfold cK ptrTo at hc;have HC:=ae hc;have wl1:IntKind.i64.wrap ((lim:Int)-1)=(R.lim:Int):=by
          have:=HK.out;have:=JY.out
          rw[aw]<;>omega
         clear hc e1 e2;go_wp2_with fail;refine HC.out.mono ?_;rintro e w1⟨rfl,hs1⟩;have jg:=ae hs1;clear hs1;go_wp2;go_meet
         exact⟨rfl,jg.out⟩
       |true=>
         obtain⟨e1,e2⟩:=HR.out.nob rfl;go_wp2;go_meet
         exact⟨by rw[e2],by rw[e1];exact HS.out⟩
      case rest=>
       obtain⟨rfl,hs1⟩:=hcut;have jg:=ae hs1;have Yg:Hid (R.d1.size=N):=ae (HR.out.s1.trans HZ.out);clear hs1;have hc:=y4 jg.out a1 b1 (by have:=HK.out;have:=JY.out;omega) (by have:=HK.out;have:=Yg.out;omega) (by have:=HK.out;have:=Yg.out;omega);rw[Yg.out,<- HR.out.c]at hc;unfold cK ptrTo at hc;have HC:=ae hc;clear hc;go_upto_if 56 with fail
       refine HC.out.mono ?_;rintro e w2⟨rfl,hs2⟩;have eP:=ae hs2;clear hs2 HC;go_upto_if 56 with fail
       go_cut [13,14] from 21 to 147 (fun s13 s14 wc=>s13=.int .i64 (R.pivot:Int)/\s14=.int .i64 (nh R.hint:Int)/\fE bt w0 jb pb bf made base g cap R.d2 wc)
       case first=>
        by_cases hh:R.c.2=.decreasing
        ·obtain⟨e2,epv,V0⟩:=HR.out.dec hh;have hz:(nh R.c.2:Int)=2:=by rw[hh];rfl
         have hc:=wY eP.out a1 b1 (by have:=HK.out;have:=JY.out;omega) (by have:=HK.out;have:=Yg.out;omega) (by have:=HK.out;have:=Yg.out;omega);rw[Yg.out,<- e2]at hc;unfold cK ptrTo at hc;have HC:=ae hc;obtain⟨P,hP⟩:∃P,P=R.c.1-a1:=⟨_,rfl⟩;have wb1:IntKind.i64.wrap ((b1:Int)-1)=(b1:Int)-1:=by
          have:=HK.out;have:=JY.out
          rw[aw]<;>omega
         have wP:IntKind.i64.wrap ((R.c.1:Int)-(a1:Int))=(P:Int):=by
          have:=HK.out;have:=HR.out.c1;have:=HR.out.c2
          rw[aw]<;>omega
         have wV:IntKind.i64.wrap ((b1:Int)-1-(P:Int))=(R.pivot:Int):=by
          have:=HK.out;have:=HR.out.c1;have:=HR.out.c2
          rw[aw]<;>omega
         have HE:Hid (R.hint=.increasing):=ae V0;clear hc e2 epv V0 hP hh;go_wp2_with fail;refine HC.out.mono ?_;rintro e w3⟨rfl,hs3⟩;have fF:=ae hs3;clear hs3;go_wp2;go_meet
         exact⟨rfl,by rw[HE.out];rfl,fF.out⟩
        ·obtain⟨e2,epv,V0⟩:=HR.out.Sh hh;have hz:((nh R.c.2:Int) == 2)=false:=by
          simp only[beq_eq_false_iff_ne,ne_eq];exact fun h=>hh (OE af)
         go_wp2;go_meet
         exact⟨by rw[epv],by rw[V0],by rw[e2];exact eP.out⟩
       case rest=>
        obtain⟨rfl,rfl,hs3⟩:=hcut;have fF:=ae hs3;have HZ2:Hid (R.d2.size=N):=ae (HR.out.s2.trans HZ.out);clear hs3;obtain⟨z,hz⟩:∃z:Int,z=(nh R.hint:Int):=⟨_,rfl⟩;rw[<- hz];have HV:Hid (decide (R.hint=.increasing)=(z == 1)):=ae (by rw[hz];cases R.hint<;>rfl);clear hz;go_upto_region 15 with fail
        go_cut [75] from 21 to 147 (fun s75 wx=>s75=.bool (wb && wp && decide (R.hint=.increasing))/\fE bt w0 jb pb bf made base g cap R.d2 wx)
        case first=>
         cases wb<;>cases wp<;>(
          go_wp2_with fail;go_meet
          exact⟨by rw[HV.out];simp,fF.out⟩)
        case rest=>
         obtain⟨rfl,pq⟩:=hcut;have gD:=ae pq;clear pq;go_upto_if 75 with fail
         go_cut [] from 21 to 147 (fun wx=>R.pi.2=false/\fE bt w0 jb pb bf made base g cap R.pi.1 wx)
         case first=>
          cases h68:(wb && wp && decide (R.hint=.increasing))
          ·have V1:=ae (HR.out.no h68);go_wp2;go_meet
           exact⟨by rw[V1.out],by rw[V1.out];exact gD.out⟩
          ·have V1:=ae (HR.out.yes h68);have hc:=nZ gD.out a1 b1 (by have:=HK.out;have:=JY.out;omega) (by have:=HK.out;have:=HZ2.out;omega) (by have:=HK.out;have:=HZ2.out;omega);rw[HZ2.out,<- V1.out]at hc;unfold cK ptrTo at hc;have HC:=ae hc;clear hc;cases ko:R.pi.2
           ·go_wp2_with fail;refine HC.out.mono ?_;rintro e w4⟨rfl,pq⟩;rw[ko];have b7:=ae pq;have p8:=ae ko;clear pq ko;go_wp2;go_meet
            exact⟨p8.out,b7.out⟩
           ·have HF:Hid (r=R.pi.1):=ae (by rw[<- HO.out];exact HR.out.done ko);go_wp2_with fail;refine HC.out.mono ?_;rintro e w4⟨rfl,pq⟩;rw[ko];have b7:=ae pq;clear pq ko;go_wp2;go_returns;rw[HF.out];exact⟨rfl,b7.out⟩
         case rest=>
          obtain⟨ko,hs5⟩:=hcut;have b7:=ae hs5;have p8:=ae ko;have Ql:Hid (R.pi.1.size=N):=ae (HR.out.s3.trans HZ.out);clear hs5 ko;generalize wc=W5 at *;have bV:(R.pivot:Int)<(N:Int):=by have:=HR.out.p2;have:=HK.out;omega
          go_upto_region 17 with fail
          go_cut [97] from 21 to 147 (fun s97 wx=>s97=.bool (decide (a1>0) && !ltOf (aQ bt) R.pi.1[a1-1]! R.pi.1[R.pivot]!)/\fE bt w0 jb pb bf made base g cap R.pi.1 wx)
          case first=>
           rcases Nat.eq_zero_or_pos a1 with ha0 | ha0
           ·have aem:decide ((a1:Int)>0)=false:=decide_eq_false af;have ajw:decide (0<a1)=false:=decide_eq_false af;have HA0:=ae ha0;clear ha0;go_wp2_with fail;go_quiet (fail)
            have vK:RowKit.Below W5.heap.size W5 (W5.drewN nq):=⟨rfl,rfl,rfl,Nat.le_refl _,fun _ _=>rfl⟩;have gH:=ae (b7.out.below vK);clear vK;go_wp2;go_meet
            exact⟨by simp[HA0.out],gH.out⟩
           ·have aem:(a1:Int)>0:=by omega
            obtain⟨A1,hA1⟩:∃A1,A1=a1-1:=⟨_,rfl⟩;have bA:(A1:Int)<(N:Int):=by have:=HK.out;omega
            have wA1:IntKind.i64.wrap ((a1:Int)-1)=(A1:Int):=by
             have:=HK.out;rw[aw]<;>omega
            obtain⟨x,hx⟩:∃x,R.pi.1[A1]! = x:=⟨_,rfl⟩;obtain⟨y,hy⟩:∃y,R.pi.1[R.pivot]! = y:=⟨_,rfl⟩;have F:=ae (b7.out.reads (i:=A1) (j:=R.pivot) (by have:=HK.out;have:=Ql.out;omega) (by have:=HK.out;have:=Ql.out;have:=HR.out.p2;omega) hx hy);have HW:Hid ((decide (a1>0) && !ltOf (aQ bt) R.pi.1[a1-1]! R.pi.1[R.pivot]!)=!decide (aQ bt x y<0)):=ae (by
             rw[<- hA1,hx,hy,decide_eq_true ha0];rfl)
            clear hA1 hx hy;by_cases hl:aQ bt x y<0
            ·go_wp2_with fail;refine wq W5 ?_;iterate 8 (refine qz ?_)
             refine qz ?_ (fun w' hw'=>by obtain⟨⟨c0,c1,c2,c3⟩,-,-⟩:=F.out w' hw';go_simp<;>rfl);iterate 3 (refine qz ?_)
             refine qz ?_ (fun w' hw'=>by obtain⟨-,⟨c0,c1,c2,c3⟩,-⟩:=F.out w' hw';go_simp<;>rfl);refine qw (fun w' hw'=>(F.out w' hw').2.2) ?_;iterate 3 (refine qz ?_)
             refine wpQuiet_nil ?_;intro w6 V2;have gH:=ae (b7.out.below V2);clear V2;go_wp2;go_meet
             exact⟨by rw[HW.out,decide_eq_true hl];rfl,gH.out⟩
            ·have DK:decide (aQ bt x y<0)=false:=decide_eq_false hl;go_wp2_with fail;refine wq W5 ?_;iterate 8 (refine qz ?_)
             refine qz ?_ (fun w' hw'=>by obtain⟨⟨c0,c1,c2,c3⟩,-,-⟩:=F.out w' hw';go_simp<;>rfl);iterate 3 (refine qz ?_)
             refine qz ?_ (fun w' hw'=>by obtain⟨-,⟨c0,c1,c2,c3⟩,-⟩:=F.out w' hw';go_simp<;>rfl);refine qw (fun w' hw'=>(F.out w' hw').2.2) ?_;iterate 3 (refine qz ?_)
             refine wpQuiet_nil ?_;intro w6 V2;have gH:=ae (b7.out.below V2);clear V2;go_wp2;go_meet
             exact⟨by rw[HW.out,DK];rfl,gH.out⟩
          case rest=>
           obtain⟨rfl,U3⟩:=hcut;have gH:=ae U3;clear U3;cases OG:(decide (a1>0) && !ltOf (aQ bt) R.pi.1[a1-1]! R.pi.1[R.pivot]!)
           ·obtain⟨mid,ap,d4,hx⟩:∃mid ap d4,partition (ltOf (aQ bt)) R.pi.1 a1 b1 R.pivot=(mid,ap,d4):=⟨(partition (ltOf (aQ bt)) R.pi.1 a1 b1 R.pivot).1,(partition (ltOf (aQ bt)) R.pi.1 a1 b1 R.pivot).2.1,(partition (ltOf (aQ bt)) R.pi.1 a1 b1 R.pivot).2.2,rfl⟩;have V3:=ae (round_part (oM bt) (partition_holds (ltOf (aQ bt))) HR.out.p1 HR.out.p2 (show b1<=R.pi.1.size by have:=HK.out;have:=Ql.out;omega) HR.out.B3 hx);have hc:=CI gH.out a1 b1 R.pivot HR.out.p1 HR.out.p2 (by have:=HK.out;have:=Ql.out;omega) (by have:=HK.out;have:=Ql.out;omega);rw[Ql.out,hx]at hc;unfold cK ptrTo at hc;have HC:=ae hc;have hr1:=V3.out.1;have hr2:=V3.out.2.1;have Yh:=ae (HR.out.left p8.out OG mid ap d4 hx hr1 hr2);have HRT:=ae (HR.out.right p8.out OG mid ap d4 hx hr1 hr2);have vF:Hid (d4.size=N):=ae (V3.out.2.2.1.trans Ql.out);obtain⟨A,hA⟩:∃A,A=mid-a1:=⟨_,rfl⟩;obtain⟨B,hB⟩:∃B,B=b1-mid:=⟨_,rfl⟩;obtain⟨E,hE⟩:∃E,E=L/8:=⟨_,rfl⟩;have wA:IntKind.i64.wrap ((mid:Int)-(a1:Int))=(A:Int):=by
             have:=HK.out;rw[aw]<;>omega
            have wB:IntKind.i64.wrap ((b1:Int)-(mid:Int))=(B:Int):=by
             have:=HK.out;rw[aw]<;>omega
            have wE:IntKind.i64.wrap ((L:Int).tdiv 8)=(E:Int):=by
             have:=HK.out;rw[show((L:Int)).tdiv 8=((L/8:Nat):Int) from rfl,aw]<;>omega
            have wE2:IntKind.i64.wrap ((L:Int)/8)=(E:Int):=by
             have:=HK.out;rw[aw]<;>omega
            have wM:IntKind.i64.wrap ((mid:Int)+1)=((mid+1:Nat):Int):=by
             have:=HK.out;rw[aw]<;>omega
            have HM:Hid (A=mid-a1/\B=b1-mid/\E=L/8/\a1<=mid/\mid<b1):=ae ⟨hA,hB,hE,hr1,hr2⟩;clear hc hx hA hB hE hr1 hr2 OG;go_wp2_with fail;refine HC.out.mono ?_;rintro e w7⟨rfl,K5⟩;dsimp only at K5;have j5:=ae K5;clear K5 HC;by_cases h4:A<B
            ·have h4z:(A:Int)<(B:Int):=by omega
             have Ic:=ih j5.out a1 mid R.lim HM.out.2.2.2.1 (by have:=HK.out;have:=HM.out;have:=vF.out;omega) (by have:=HK.out;have:=vF.out;omega) (by have:=HK.out;have:=HM.out;omega) (Nat.le_trans HR.out.jZ HK.out.2.2.2.2.1) V3.out.2.2.2.1;obtain⟨pL,sL⟩:=pdq_sorts (ltOf (aQ bt)) (oM bt) d4 a1 mid R.lim true true HM.out.2.2.2.1 (by have:=HK.out;have:=HM.out;have:=vF.out;omega) V3.out.2.2.2.1;have E5:=ae (V3.out.2.2.2.2.2.1 _ pL sL).1;have HZ5:Hid ((pdq (ltOf (aQ bt)) d4 a1 mid R.lim true true).size=N):=ae (pL.1.trans vF.out);have HF:Hid (pdq (ltOf (aQ bt)) (pdq (ltOf (aQ bt)) d4 a1 mid R.lim true true) (mid+1) b1 R.lim (decide (A >= E)) ap=r):=ae (by
              have q:=HM.out;rw[<- HO.out,Yh.out af,q.1,q.2.2.1,HK.out.2.2.1])
             rw[vF.out]at Ic;unfold cK ptrTo at Ic;have Sk:=ae Ic;clear Ic pL sL h4;go_wp2_with fail;refine Sk.out.mono ?_;rintro e w8⟨rfl,K6⟩;have jK:=ae K6;clear K6 Sk;go_wp2;have q:=HM.out;have q2:=HK.out;exact⟨⟨mid+1,b1,R.lim,decide (A >= E),ap,_,rfl,rfl,rfl,congrArg Value.bool ai,rfl,af,af,af,Nat.le_trans HR.out.jZ q2.2.2.2.2.1,HZ5.out,E5,jK.out,HF⟩,by simp[intOf];omega⟩
            ·have h4z:¬(A:Int)<(B:Int):=by omega
             have Ic:=ih j5.out (mid+1) b1 R.lim HM.out.2.2.2.2 (by have:=HK.out;have:=HM.out;have:=vF.out;omega) (by have:=HK.out;have:=vF.out;omega) (by have:=HK.out;have:=HM.out;omega) (Nat.le_trans HR.out.jZ HK.out.2.2.2.2.1) V3.out.2.2.2.2.1;obtain⟨pL,sL⟩:=pdq_sorts (ltOf (aQ bt)) (oM bt) d4 (mid+1) b1 R.lim true true HM.out.2.2.2.2 (by have:=HK.out;have:=HM.out;have:=vF.out;omega) V3.out.2.2.2.2.1;have E5:=ae (V3.out.2.2.2.2.2.2 _ pL sL).1;have HZ5:Hid ((pdq (ltOf (aQ bt)) d4 (mid+1) b1 R.lim true true).size=N):=ae (pL.1.trans vF.out);have HF:Hid (pdq (ltOf (aQ bt)) (pdq (ltOf (aQ bt)) d4 (mid+1) b1 R.lim true true) a1 mid R.lim (decide (B >= E)) ap=r):=ae (by
              have q:=HM.out;rw[<- HO.out,HRT.out af,q.2.1,q.2.2.1,HK.out.2.2.1])
             rw[vF.out]at Ic;unfold cK ptrTo at Ic;have Sk:=ae Ic;clear Ic pL sL h4;go_wp2_with fail;refine Sk.out.mono ?_;rintro e w8⟨rfl,K6⟩;have jK:=ae K6;clear K6 Sk;go_wp2;have q:=HM.out;have q2:=HK.out;exact⟨⟨a1,mid,R.lim,decide (B >= E),ap,_,rfl,rfl,rfl,congrArg Value.bool ai,rfl,af,af,af,Nat.le_trans HR.out.jZ q2.2.2.2.2.1,HZ5.out,E5,jK.out,HF⟩,by simp[intOf];omega⟩
           ·have E6:=OG;simp only[Bool.and_eq_true,decide_eq_true_eq,Bool.not_eq_true']at E6;obtain⟨mid,d4,hx⟩:∃mid d4,partitionEqual (ltOf (aQ bt)) R.pi.1 a1 b1 R.pivot=(mid,d4):=⟨(partitionEqual (ltOf (aQ bt)) R.pi.1 a1 b1 R.pivot).1,(partitionEqual (ltOf (aQ bt)) R.pi.1 a1 b1 R.pivot).2,rfl⟩;have Qm:=ae (round_eq (oM bt) (partitionEqual_holds (ltOf (aQ bt))) E6.1 HR.out.p1 HR.out.p2 (show b1<=R.pi.1.size by have:=HK.out;have:=Ql.out;omega) HR.out.B3 E6.2 hx);have hc:=tj gH.out a1 b1 R.pivot HR.out.p1 HR.out.p2 (by have:=HK.out;have:=Ql.out;omega) (by have:=HK.out;have:=Ql.out;omega);rw[Ql.out,hx]at hc;unfold cK ptrTo at hc;have HC:=ae hc;have HF:Hid (pdq (ltOf (aQ bt)) d4 mid b1 R.lim wb wp=r):=ae (by
             rw[<- HO.out,HR.out.eq p8.out OG mid d4 hx Qm.out.1 Qm.out.2.1])
            have vF:Hid (d4.size=N):=ae (Qm.out.2.2.1.trans Ql.out);clear hc hx OG E6;go_wp2_with fail;refine HC.out.mono ?_;rintro e w7⟨rfl,K5⟩;dsimp only at K5;have j5:=ae K5;clear K5 HC;go_wp2;have q1:=Qm.out.1;have q3:=Qm.out.2.1;have q2:=HK.out;exact⟨⟨mid,b1,R.lim,wb,wp,d4,rfl,rfl,rfl,rfl,rfl,q3,q2.2.1,af,Nat.le_trans HR.out.jZ q2.2.2.2.2.1,vF.out,ae Qm.out.2.2.2.1,j5.out,HF⟩,by simp[intOf];omega⟩
theorem Ek{m:Nat}(hm:m<=1000000):qN m:=Ia hm (VZ m)
end
section
open Go.RowKit Go.Maps Go.MapKept
theorem AQ{κ υ:Type}[DecidableEq κ]{m:List (κ×υ)}{k:κ}(h:aB m k=none):bX m k=m:=by
 grind [bX,List.filter_eq_self,aB,Option.map_eq_none_iff]
theorem j6(L:aH)(p:Name×iB):need (p::L)=p.2.need+need L:=by
 rfl
theorem qd{L:aH}{k:Name}(f:iB)(h:aB L k=none):need (aS L k f)=f.need+need L:=by
 grind [aS,AQ,j6]
theorem cR(es:List aD)(fl:Bool):(ax es fl).need<=4*es.length:=by
 grind [ax,iB.need,dV,cz,eO]
def jL(d d':Dsk)(B c:Nat):Prop:=c=5/\d.bO<B\/c=6/\d'.dead=true
theorem lK.num{d d':Dsk}{L:aH}{c B:Nat}(h:lK d d' L c)(hB:need L<=B):jL d d' B c:=by
 rcases h with⟨h1,h2⟩| h
 ·exact .inl ⟨h1,af⟩
 ·exact .inr h
theorem jL.ne{d d':Dsk}{B c:Nat}(h:jL d d' B c):c≠0:=by rcases h with h | h<;>omega
theorem jL.mono{d d':Dsk}{B B' c:Nat}(h:jL d d' B c)(hB:B<=B'):jL d d' B' c:=by
 rcases h with⟨h1,h2⟩| h
 ·exact .inl ⟨h1,af⟩
 ·exact .inr h
theorem jL.later{d d1 d2:Dsk}{B c:Nat}(hq:d1.bO=d.bO)(h:jL d1 d2 B c):jL d d2 B c:=by
 rcases h with⟨h1,h2⟩| h
 ·exact .inl ⟨h1,af⟩
 ·exact .inr h
def Ie(S:Nat->Prop)(n pb db:Nat)(w:World)(o:au)(d:Dsk)(L:aH)(name:Name)(out:List aD)(B:Nat)(e:Ending)(w':World):Prop:=
 ∃c d' o' L',e=.returned (.int .i64 ((c:Nat):Int))/\Moved S n pb db w o d w' o' d' L'/\(c=0/\L'=aS L name (ax out false)\/jL d d' B c)/\∀x,x≠name->aB L' x=aB L x
section
variable {S:Nat->Prop} {w w':World} {pb db n cb kb sb jb bf made:Nat} {by':Bool} {name:Name} {o o':au} {d d':Dsk} {L L':aH}
theorem E7(HW:aP){m:Nat}(HS:qN m)(h:aR w pb db n o d L)(hj:cU w jb pb bf made by')(km:o jb=none)(_hob:o bf=none)(fe:bM name=true)(hno:aB L name=none){v:Value}{base:Nat}{es:List aD}(hv:aJ w base v es)(mG:∀x,v.ownBlock=some x->o x=none/\x≠jb/\x≠bf)(hm:es.length<=m)(hes:es.length<65535) :
 Calls prog 222 #[ptrTo jb,.string name,v] w (Ie (fun x=>v.ownBlock=some x) n pb db w o d L name (aC by' es) (need L+4*es.length)):=by
 have yC:Hid (Calls prog 260 #[v,cK jb] w (fun e w'=>∃ts,e=.returned (.tuple #[])/\ts.Perm es/\ts.Pairwise (dB by')/\aJ w' base v ts/\aG (fun x=>v.ownBlock=some x) w w')):=ae (by
  rcases ck hv with⟨rfl,rfl⟩|⟨g,cap,rfl,hg,hc1,hc2⟩
  ·refine(EW _ _ _ _).mono ?_;rintro e w'⟨rfl,rfl⟩;exact⟨[],rfl,List.Perm.refl _,List.Pairwise.nil,hv,aG.refl _ _⟩
  ·refine(HS hj es hm hv (mG g rfl).2.1 (mG g rfl).2.2).mono ?_;rintro e w'⟨ts,rfl,h1,h2,h3,h4⟩;exact⟨ts,rfl,h1,h2,h3,h4.mono (fun x _ e=>by rw[e];rfl)⟩)
 have KA:∃a cap,v=.slice a es.length cap/\∀x,v.ownBlock=some x->a=some ⟨x,0,none⟩:=by
  rcases ck hv with⟨rfl,rfl⟩|⟨g,cap,rfl,hg,hc1,hc2⟩
  ·exact⟨none,0,rfl,fun x hx=>by cases hx⟩
  ·exact⟨some ⟨g,0,none⟩,cap,rfl,fun x hx=>by cases hx;rfl⟩
 have E8:Hid (∀W,aR W pb db n o d L->cU W jb pb bf made by'->Calls prog 223 #[ptrTo jb,.string name] W (mn n pb db W o d L name)):=ae (fun W hW hjW=>sB hW hjW km fe hno);have hput:Hid (∀W o' d' kb sb out,aR W pb db n o' d' (aS L name (ax out false))->aF W sb pb name 20->o' sb=none->o' kb=none->kb≠sb->fc W kb sb out->out.length<65535->∀x:aD,
  Calls prog 225 #[ptrTo kb,.agg #[.int .u32 (x.t.toNat:Int),.int .u32 (x.h.toNat:Int),.int .u64 (x.x.toNat:Int),.int .u32 (x.m.toNat:Int)]] W (AB n pb db W o' d' (aS L name (ax out false)) name kb sb out x)):=
  ae (fun W o' d' kb sb out hW hst ho Sl hne hk hl x=>yz HW hW hst ho Sl hne (by grind [ay]) hl hk x)
 have H:=ae h;have HJ:=ae hj;have wN:=ae mG;have HNO:=ae hno;have OH:Hid (∀x,v.ownBlock=some x->x<w.heap.size):=ae (fun x hx=>(aL hv x hx).1);have AR:Hid (∀ts:List aD,ts.Perm es->ts.Pairwise (dB by')->fL ts=aC by' es):=ae (fun ts h1 h2=>((wF h2).congr (fun x=>h1.mem_iff)).eq);obtain⟨a,cap,rfl,ha⟩:=KA;have HA:=ae ha;clear h hj km _hob fe hno hv mG hm ha;unfold cK ptrTo at *;generalize hN:es.length=N at *;have HN:=ae hN;clear hN;go_enter func222,ntmps222;go_wp2_with fail;refine yC.out.mono ?_;rintro e w1⟨ts,rfl,zU,hs1,JP,mJ⟩;have zo:ts.length=N:=by rw[zU.length_eq,HN.out]
 have HTL:=ae zo;have e9:Hid (Moved (fun x=>(Value.slice a N cap).ownBlock=some x) n pb db w o d w1 o d L):=ae ⟨H.out.kept mJ (fun x hx e=>au.dE (wN.out x e).1 hx) (fun _ _ h=>h) (fun x t hx=>Nat.lt_of_lt_of_le (H.out.owned x t hx) mJ.size),mJ.mono (fun _ _ h=>.inr h),cF.refl _ _,bR.refl _⟩;have HJ1:Hid (cU w1 jb pb bf made by'):=ae (HJ.out.kept (mJ.block _ HJ.out.lt.1 (fun e=>(wN.out _ e).2.1 rfl)) (mJ.block _ HJ.out.lt.2 (fun e=>(wN.out _ e).2.2 rfl)));have RF:=ae JP;have HB:=ae (AR.out ts zU hs1);clear zU hs1 JP mJ zo;have aM:=ae (E8.out w1 e9.out.aY HJ1.out);go_wp2_with fail;refine aM.out.mono ?_;rintro e w2⟨v2,c2,d2,o2,rfl,cT,qp,jw⟩;have Hs:=ae qp;have ajD:w.heap.size<=w1.heap.size:=e9.out.size;by_cases hc2:c2=0
 ·subst hc2;obtain⟨kb,sb,rfl,hk2,oO,Ig,AU,pJ,hkb,CB⟩:=jw rfl;simp only[if_true]at cT;have eV:=ae (e9.out.trans cT (fun _ _ h=>h.elim));have UQ:Hid (aJ w2 base (.slice a N cap) ts):=ae (cT.ownsRow RF.out (fun b hb=>⟨(wN.out b hb).1,fun h=>h⟩));have HK2:=ae hk2;have nS:=ae oO;have V4:=ae Ig;have CJ:=ae AU;have K7:=ae pJ;have HNK:Hid (∀x,(Value.slice a N cap).ownBlock=some x->x≠kb):=ae (fun x hx e=>by grind [Hid.out]);have hs2:w.heap.size<=kb:=Nat.le_trans ajD hkb;clear jw cT hk2 oO Ig AU pJ qp aM;unfold ptrTo;go_wp2;go_loopw [27] (fun i wr=>∃(k:Nat)(d':Dsk)(o':au),k<=N/\i=.int .i64 (k:Int)/\Moved (fun x=>(Value.slice a N cap).ownBlock=some x) n pb db w o d wr o' d' (aS L name (ax (fL (ts.take k)) false))/\fc wr kb sb (fL (ts.take k))/\aF wr sb pb name 20/\o' kb=none/\o' sb=none/\aJ wr base (.slice a N cap) ts/\(∀x,(Value.slice a N cap).ownBlock=some x->o' x=none)) (fun i _=>N-(intOf i).toNat)
  case atStart=>exact⟨0,d2,o2,Nat.zero_le _,rfl,by assumption,by assumption,nS.out,V4.out,CJ.out,UQ.out,fun x hx=>eV.out.free (OH.out x hx) (wN.out x hx).1⟩
  case round=>
   obtain⟨k,d3,o3,hk,rfl,eE,hk3,uD,uC,OI,hv3,aen⟩:=hrel;have eH:=ae eE;have HK3:=ae hk3;have CK:=ae uD;have Sm:=ae uC;have wZ:=ae OI;have Ge:=ae hv3;have aeo:=ae aen;have yS:=hk3.lt;have UM:=uD.lt;clear eE hk3 uD uC OI hv3 aen;by_cases hlt:k<N
   ·have hkt:k<ts.length:=by grind [Hid.out]
    have V5:∃g,a=some ⟨g,0,none⟩/\N<=cap/\cap<=maxLen:=by
     grind [ck,Hid.out]
    obtain⟨g,rfl,aep,Sn⟩:=V5;unfold maxLen at Sn;have XV:=Ge.out;rw[<- HTL.out]at XV;obtain⟨e0,e1,e2,e3⟩:=bK XV (List.getElem?_eq_getElem hkt);have hgl:g<wr.heap.size:=World.block_lt_of_cell? _ _ e0;have nO:Hid (fL (ts.take (k+1))=sZ (fL (ts.take k)) ts[k]):=ae (by rw[List.take_succ_eq_append_getElem hkt,wz]);have hpl:Hid ((fL (ts.take k)).length<=k):=ae (Nat.le_trans (mS _) (List.length_take_le _ _));have pZ:Hid (∀ob:Obj,Moved (fun x=>(Value.slice (some ⟨g,0,none⟩) N cap).ownBlock=some x) n pb db w o d (wr.alloc ob) o3 d3 (aS L name (ax (fL (ts.take k)) false))):=ae (fun ob=>eH.out.alloc ob);have Sp:=ae (fun W(hW:aR W pb db n o3 d3 (aS L name (ax (fL (ts.take k)) false)))(hst:aF W sb pb name 20)(hsk:fc W kb sb (fL (ts.take k)))=>hput.out W o3 d3 kb sb (fL (ts.take k)) hW hst wZ.out Sm.out K7.out hsk (by grind [Hid.out]) ts[k]);clear XV;generalize ts[k]=x at *;go_wp2_with fail;have hbl:∀ob:Obj,Below wr.heap.size wr (wr.alloc ob):=fun ob=>ak.alloc (Nat.le_refl _) ob;refine(Sp.out _ (pZ.out _).aY (CK.out.below (hbl _)) (HK3.out.below (hbl _))).mono ?_;rintro e w4⟨c4,d4,o4,rfl,eX,yX,hk4⟩;have KD:Hid (aJ w4 base (.slice (some ⟨g,0,none⟩) N cap) ts):=ae (eX.ownsRow (Ge.out.alloc _) (fun b hb=>⟨aeo.out b hb,HNK.out b hb⟩));have uF:Hid (aF w4 sb pb name 20):=ae ((CK.out.below (hbl _)).moved eX wZ.out (fun e=>K7.out e.symm));have V6:Hid (o4 kb=none):=ae (eX.free (Nat.lt_of_lt_of_le yS (hbl _).size) Sm.out);have V7:Hid (o4 sb=none):=ae (eX.free (Nat.lt_of_lt_of_le UM (hbl _).size) wZ.out);have apY:Hid (∀x,(Value.slice (some ⟨g,0,none⟩) N cap).ownBlock=some x->o4 x=none):=ae (fun x hx=>eX.free (Nat.lt_of_lt_of_le (by cases hx;omega) (hbl _).size) (aeo.out x hx));have HK4:=ae hk4;clear hk4 Sp e0 e1 e2 e3;by_cases iz:c4=0
    ·subst iz;simp only[if_true,iZ]at eX;have gC:=ae ((pZ.out _).trans eX (fun x hx e=>by omega));have Sq:=HK4.out rfl;rw[<- nO.out]at gC Sq;have HK5:=ae Sq;clear eX yX Sq;go_wp2;go_roundw
     case rel=>grind [Hid.out]
     grind [intOf]
    ·have uA:¬(c4:Int)=0:=by omega
     rw[if_neg iz]at eX;have gC:=ae ((pZ.out _).trans eX (fun x hx e=>by omega));have Kb:need (aS L name (ax (fL (ts.take k)) false))<=need L+4*N:=by
      rw[qd _ HNO.out];have h1:=cR (fL (ts.take k)) false;have h2:=hpl.out;omega
     have Cs:=ae (((yX.resolve_left iz).num Kb).later eH.out.on.bO);clear eX yX iz Kb;go_wp2;go_ret;exact⟨c4,d4,o4,_,rfl,gC.out,.inr Cs.out,fun x hx=>by grind [ay]⟩
   ·obtain rfl:k=N:=by omega
    go_wp2;go_ret;refine⟨0,d3,o3,_,rfl,eH.out,.inl ⟨rfl,?_⟩,fun x hx=>by grind [ay]⟩;grind [Hid.out]
 ·have KR:¬(c2:Int)=0:=by omega
  have HC2:=ae hc2;rw[if_neg hc2]at cT;have eV:=ae (e9.out.trans cT (fun _ _ h=>h.elim));clear hc2 cT jw qp aM;go_wp2;go_ret;exact⟨c2,d2,o2,_,rfl,eV.out,.inr (.inr (Hs.out.resolve_left HC2.out)),fun x _=>rfl⟩
end
end
section
open Go.RowKit
abbrev tO:=Name×List aD
def dL(rs:List tO)(L:aH):aH:=rs.foldl (fun L p=>aS L p.1 (ax p.2 false)) L
theorem AV(rs:List tO)(p:tO)(L:aH):dL (rs++[p]) L=aS (dL rs L) p.1 (ax p.2 false):=by grind [dL]
theorem tk(rs:List tO)(p:tO)(L:aH):dL (p::rs) L=dL rs (aS L p.1 (ax p.2 false)):=rfl
theorem eJ(rs:List tO):∀(L:aH)(x:Name),x ∉ rs.map (·.1)->aB (dL rs L) x=aB L x:=by
 induction rs with
 |nil=>intro L x _;rfl
 |cons p rs ih=>
   grind [tk,ay]
theorem xe(rs:List tO):∀(L:aH),(rs.map (·.1)).Nodup->∀p∈rs,aB (dL rs L) p.1=some (ax p.2 false):=by
 induction rs with
 |nil=>simp
 |cons q rs ih=>
   grind [tk,eJ,ay]
theorem K8(rs:List tO):∀(L:aH),(L.map (·.1)).Nodup->((dL rs L).map (·.1)).Nodup:=by
 induction rs with
 |nil=>intro L h;exact h
 |cons p rs ih=>intro L h;exact ih _ (ct h)
def lens(rs:List tO):Nat:=(rs.map (fun p=>p.2.length)).sum
theorem cL(L:aH)(k:Name)(f:iB):need (aS L k f)<=f.need+need L:=by
 unfold aS;rw[j6];have:need (bX L k)<=need L:=by
  induction L with
  |nil=>exact Nat.le_refl _
  |cons q L ih=>
    grind [bX,j6]
 grind
theorem tq(rs:List tO):∀(L:aH),need (dL rs L)<=need L+4*lens rs:=by
 induction rs with
 |nil=>intro L;exact Nat.le_add_right _ _
 |cons p rs ih=>
   grind [tk,cL,cR,lens]
theorem yD(a b:List tO):lens (a++b)=lens a+lens b:=by grind [lens]
def ep(rs:List tO):List aD:=(rs.map (·.2)).flatten
theorem uL(a b:List tO):ep (a++b)=ep a++ep b:=by grind [ep]
theorem uM(rs:List tO):(ep rs).length=lens rs:=by
 unfold ep lens;rw[List.length_flatten,List.map_map];rfl
theorem b8(b:Bool)(l:List aD):(aC b l).length<=l.length:=by
 grind [aC,mS,List.length_mergeSort]
theorem ni(b:Bool)(l:List aD):aC b (aC b l)=aC b l:=((bL b l).trans (bL b (aC b l))).eq
theorem E9{b:Bool}{l l':List aD}(h:∀x,x∈l↔x∈l'):aC b l=aC b l':=((bL b l).congr h).eq
theorem np(b:Bool)(l m:List aD):aC b (aC b l++aC b m)=aC b (l++m):=((bL b l).both (bL b m) (bL b _)).eq
theorem Fa(b:Bool)(l m:List aD):aC b (l++aC b m)=aC b (l++m):=by
 rw[<- np b l m,<- np b l (aC b m),ni]
theorem OJ{b:Bool}{l l' m m':List aD}(h1:aC b l=aC b l')(h2:aC b m=aC b m'):aC b (l++m)=aC b (l'++m'):=by
 rw[<- np,h1,h2,np]
theorem Ih(b:Bool)(l m:List aD):aC b (l++m)=aC b (m++l):=E9 fun x=>by grind
structure oh(b:Bool)(es:List aD)(rs:List tO):Prop where
 each:∀p∈rs,aC b p.2=p.2
 all:aC b (ep rs)=aC b es
 len:lens rs<=es.length
 nodup:(rs.map (·.1)).Nodup
def il(out x:Name):Prop:=x=out\/∃k,k<128/\x=dC k
theorem Ii{a b:Nat}:Lib.decDigits a=Lib.decDigits b->a=b:=by
 induction a using Nat.strongRecOn generalizing b with
 |_ a ih=>
   grind [Lib.decDigits.eq_1,UInt8.toNat_ofNat',Lib.decDigits_length,List.append_inj']
theorem xf{a b:Nat}(h:dC a=dC b):a=b:=by
 grind [dC,Ii]
theorem Fb{k:Nat}(h:k<100):(Lib.decDigits k).all jl=true/\(Lib.decDigits k).length<=2:=by
 have hb:∀j,j<10->jl (UInt8.ofNat (48+j))=true:=by decide
 grind [Lib.decDigits_one,Lib.decDigits_two]
theorem Ij{k:Nat}(h:k<100):bM (dC k)=true:=by
 obtain⟨h1,h2⟩:=Fb h;unfold bM dC;have hs:(ByteArray.mk ([116,46]++Lib.decDigits k).toArray).size=2+(Lib.decDigits k).length:=by
  show Array.size _=_;grind
 rw[hs];simp only[List.cons_append,List.nil_append,List.all_cons,h1,Bool.and_eq_true,decide_eq_true_eq];refine⟨⟨⟨ag,ag,trivial⟩,af⟩,af⟩
end
section
open Go.RowKit Go.Maps
def mr(v:Value)(w w':World)(v':Value):Prop:=w.grownBy w' v.ownBlock/\(v'.ownBlock=v.ownBlock\/v'.ownBlock=some w.heap.size)
theorem dO{P:Program}{w:World}{ops:Array Oper}{rest:List Oper}{op:Oper}{a:Act}{Q:Exit->Act->World->Prop}(hgd:op.guard=none)(s x:Operand)(t:TypeId)(ho:op.op=.call { callee:=.builtin .append,args:=#[s,x],argTypes:=#[t,t] })(base:Nat)(e:TypeId)(z:Value)(size bytes:Nat)(ht:P.underlying t=some (.slice e))(hi:(P.info? e).map (fun i=>(i.zero,i.size,i.bytes))=some (some z,size,bytes))(hzs:z.cells.size=size)(hsz:0<size)(v:Value)(n:Nat)(xs:List Value)(hs:a.eval s=v)(hown:w.ownsRow base e size v n xs)(ad:Addr)(m c:Nat)(news:List Value)(hx:a.eval x=.slice (some ad) m c)(hl:news.length=m*size)(hnews:∀j u,news[j]? = some u->w.cell? (ad.add j)=some u)(h1:∀u∈news,u.oneCell'=true)(h63:n+m<=maxLen)(hbytes:(n+m)*bytes<=140737488355328)(hbase:base<=w.heap.size)(k:∀v' w',w'.ownsRow base e size v' (n+m) (xs++news)->mr v w w' v'->wpList P ops Q rest (a.put op.dst v') w'):wpList P ops Q (op::rest) a w:=by
 obtain⟨i0,tK,hz0,hz1,hz2⟩:=info_parts hi;refine wpList_plain hgd fun K hK=>?_;obtain⟨v',w',g1,g2,g3,g4,g5⟩:=run_append_own_at (P:=P) w base t op.type e i0 z size bytes ht tK hz0 hz1 hz2 hzs hsz v n xs hown ad m c news hl hnews h1 h63 hbytes hbase;unfold Oper.wp execOp;simp only[ho,resolve,invoke,builtin,Sem.run_bind,Sem.run_pure,Result.andThen_ok,List.map_toArray,List.map_cons,List.map_nil,hs,hx,g1];exact hK _ _ (k v' w' g2 ⟨g3,g5⟩)
section
variable {w:World} {ops:Array Oper} {rest:List Oper} {op:Oper} {a:Act} {Q:Exit->Act->World->Prop}
theorem cQ(hgd:op.guard=none)(s x:Operand)(ho:op.op=.call { callee:=.builtin .append,args:=#[s,x],argTypes:=#[22,22] })(base:Nat)(v:Value)(l:List aD)(hs:a.eval s=v)(hown:aJ w base v l)(y:aD)(c:Nat)(hx:a.eval x=.slice (some ⟨w.heap.size,0,none⟩) 1 c)(hl:l.length<=100000)(hbase:base<=w.heap.size)(k:∀v' w',aJ w' base v' (l++[y])->mr v (w.alloc (.cells #[.int .u32 (y.t.toNat:Int),.int .u32 (y.h.toNat:Int),.int .u64 (y.x.toNat:Int),.int .u32 (y.m.toNat:Int)] 64)) w' v'->wpList prog ops Q rest (a.put op.dst v') w') :
 wpList prog ops Q (op::rest) a (w.alloc (.cells #[.int .u32 (y.t.toNat:Int),.int .u32 (y.h.toNat:Int),.int .u64 (y.x.toNat:Int),.int .u32 (y.m.toNat:Int)] 64)):=by
 refine dO hgd s x 22 ho base 64 _ 4 24 Tryz.underlying22 rI rfl ag v l.length (dD l) hs (World.ownsRow.alloc hown _) ⟨w.heap.size,0,none⟩ 1 c y.cells hx rfl (fun j u hj=>?_) (by simp[Value.oneCell']) (by grind [maxLen]) af (by simp;omega) (fun v' w' h1 h2=>k v' w' ?_ h2)
 ·rw[bI,Nat.zero_add];simp_all
 ·unfold aJ;rw[nY,List.length_append];exact h1
theorem uN(hgd:op.guard=none)(s x:Operand)(ho:op.op=.call { callee:=.builtin .append,args:=#[s,x],argTypes:=#[91,91] })(base:Nat)(v:Value)(l:List Name)(hs:a.eval s=v)(hown:w.ownsRow base 9 1 v l.length (l.map Value.string))(y:Name)(c:Nat)(hx:a.eval x=.slice (some ⟨w.heap.size,0,none⟩) 1 c)(hl:l.length<=100000)(hbase:base<=w.heap.size)(k:∀v' w',w'.ownsRow base 9 1 v' (l++[y]).length ((l++[y]).map Value.string)->mr v (w.alloc (.cells #[.string y] 9)) w' v'->wpList prog ops Q rest (a.put op.dst v') w') :
 wpList prog ops Q (op::rest) a (w.alloc (.cells #[.string y] 9)):=by
 refine dO hgd s x 91 ho base 9 _ 1 16 Tryz.underlying91 yw rfl ag v l.length (l.map Value.string) hs (World.ownsRow.alloc hown _) ⟨w.heap.size,0,none⟩ 1 c [.string y] hx rfl (fun j u hj=>?_) (by simp[Value.oneCell']) (by grind [maxLen]) af (by simp;omega) (fun v' w' h1 h2=>k v' w' ?_ h2)
 ·rw[bI,Nat.zero_add];simp_all
 grind
end
section
variable {S:Nat->Prop} {n pb db:Nat} {w W w':World} {o o':au} {d d':Dsk} {L':aH} {v v':Value}
theorem mr.moved{ob:Obj}(ha:mr v (W.alloc ob) w' v')(hm:Moved S n pb db w o d W o' d' L')(hv:∀x,v.ownBlock=some x->o' x=none/\w.heap.size<=x) :
 Moved S n pb db w o d w' o' d' L'/\(∀x,v'.ownBlock=some x->o' x=none/\w.heap.size<=x)/\(∀x,x<W.heap.size->v.ownBlock≠some x->w'.heap[x]? = W.heap[x]?)/\W.heap.size<=w'.heap.size:=by
 obtain⟨hg,hb⟩:=ha;have hs:W.heap.size<(W.alloc ob).heap.size:=by simp
 refine⟨(hm.alloc ob).grown hg (fun k hk=>⟨(hv k hk).1,.inr (hv k hk).2⟩),fun x hx=>?_,fun x hx hne=>?_,Nat.le_trans (Nat.le_of_lt hs) hg.size⟩
 ·rcases hb with e | e
  ·grind
  ·rw[e]at hx;cases hx;exact⟨hm.aY.fresh (Nat.le_of_lt hs),Nat.le_trans hm.size (Nat.le_of_lt hs)⟩
 grind [World.grownBy.block,MapKept.heap_alloc]
theorem bH{base:Nat}{e:TypeId}{size:Nat}{k:Nat}{xs:List Value}(hr:W.ownsRow base e size v k xs)(hb:∀x,v.ownBlock=some x->w'.heap[x]? = W.heap[x]?):w'.ownsRow base e size v k xs:=by
 obtain⟨hl,hr⟩:=hr;refine⟨hl,?_⟩;rcases hr with hr |⟨g,cap,cur,hv,hg,hh,r⟩
 ·grind
 ·exact .inr ⟨g,cap,cur,hv,hg,(hb g (by rw[hv];rfl)).trans hh,r⟩
theorem kx{base base':Nat}{e e':TypeId}{size size' k k':Nat}{xs xs':List Value}(h:W.ownsRow base e size v k xs)(h':W.ownsRow base' e' size' v' k' xs')(hne:e≠e'):∀x,v.ownBlock=some x->v'.ownBlock≠some x:=by
 intro x hx U2;obtain⟨_,⟨h1,_⟩|⟨g,cap,cur,h1,_,h2,_⟩⟩:=h
 ·rw[h1]at hx;cases hx
 ·obtain⟨_,⟨g1,_⟩|⟨g',cap',cur',g1,_,g2,_⟩⟩:=h'
  ·rw[g1]at U2;cases U2
  ·rw[h1]at hx;rw[g1]at U2;cases hx;cases U2;grind
end
end
end Go.Proofs.YthkkgdpomhhjjaaGreatDoor
