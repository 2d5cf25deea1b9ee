/-
  Joined.
-/
import Derived.Test.YthkkgdpomhhjjaaGreatDoorK13
set_option maxRecDepth 100000
set_option maxHeartbeats 16000000
namespace Go.Proofs.YthkkgdpomhhjjaaGreatDoor
open Go.Proofs.Tryz
section
open Go.RowKit Go.Maps Go.Sort
section
variable {w0 W W':World} {base g cap:Nat} {d:Array Nat}
theorem PG(h:bw w0 base g cap d W)(a b:Nat)(hab:a<=b)(hb:b<=d.size)(hsz:d.size<=1000000) :
 Calls prog 247 #[.slice (some ⟨g,0,none⟩) d.size cap,.int .i64 (a:Int),.int .i64 (b:Int)] W (pW w0 base g cap (insertionSort aZ d a b)):=by
 have H:=ae h;obtain⟨N,hN⟩:∃N,N=d.size:=⟨_,rfl⟩;rw[<- hN]at hb hsz ⊢;have HX:Hid (a<=b/\b<=N/\N<=1000000/\d.size=N):=ae af;have wa:IntKind.i64.wrap ((a:Int)+1)=((a+1:Nat):Int):=by rw[aw]<;>omega
 clear h hab hb hsz hN;go_enter func247,ntmps247;go_wp2;go_loopw [6] (fun vi wr=>∃(i:Nat)(dk:Array Nat),vi=.int .i64 (i:Int)/\a<i/\i<=b+1/\dk.size=N/\bw w0 base g cap dk wr/\Hid (insOuter aZ a b i dk=insertionSort aZ d a b)) (fun vi _=>b+1-(intOf vi).toNat)
 case atStart=>exact⟨a+1,d,by go_num,af,by have:=HX.out;omega,HX.out.2.2.2,H.out,rfl⟩
 case round=>
  obtain⟨i,dk,rfl,hai,hib,hsk,hs,HO⟩:=hrel;have HS:=ae hs;by_cases hlt:i<b
  ·have KP:(i:Int)<(b:Int):=by omega
   have HI:=ae (show a<i/\i<b/\dk.size=N from⟨hai,hlt,hsk⟩);have qo:Hid (∀dj,insInner aZ a i dk=dj->insOuter aZ a b (i+1) dj=insertionSort aZ d a b):=ae fun dj h=>by rw[<- HO.out,insOuter_go _ _ _ _ _ hlt,h]
   have wi:IntKind.i64.wrap ((i:Int)+1)=((i+1:Nat):Int):=by have:=HX.out;rw[aw]<;>omega
   clear hs hai hib hsk hlt HO;go_wp2;go_loopw [7] (fun vj wr2=>∃(j:Nat)(dj:Array Nat),vj=.int .i64 (j:Int)/\a<=j/\j<=i/\dj.size=N/\bw w0 base g cap dj wr2/\Hid (insInner aZ a i dk=insInner aZ a j dj)) (fun vj _=>(intOf vj).toNat)
   case atStart=>exact⟨i,dk,rfl,by have:=HI.out;omega,Nat.le_refl _,HI.out.2.2,HS.out,rfl⟩
   case round=>
    obtain⟨j,dj,rfl,haj,vQ,hsj,hs2,HJ⟩:=hrel;have eP:=ae hs2;by_cases hja:a<j
    ·obtain⟨k,rfl⟩:∃k,j=k+1:=⟨j-1,af⟩;have JX:(a:Int)<(k:Int)+1:=by omega
     have hx:=HX.out;have hi:=HI.out;have wk:IntKind.i64.wrap (k:Int)=(k:Int):=aw af af;have b1:(k:Int)+1<(N:Int):=by omega
     have b2:(k:Int)<(N:Int):=by omega
     have p0:(0:Int)<=(k:Int)+1:=by omega
     have e0:((k:Int)+1).toNat=k+1:=by omega
     obtain⟨x,y,c,x0,y0,hl,hc⟩:=hs2.two (k+1) k af af;have HB:=ae (show k+1<dj.size/\k<dj.size/\a<=k/\k<=i/\dj.size=N by omega);have HST:Hid (insInner aZ a i dk=cond c (insInner aZ a k (swp dj (k+1) k)) dj):=ae (by
      cases c
      ·rw[HJ.out,insInner_stop _ _ _ _ (.inr (by rw[Nat.add_sub_cancel,<- hc.out]))];rfl
      ·rw[HJ.out,insInner_go (lt:=aZ) a (k+1) dj hja (by rw[Nat.add_sub_cancel,<- hc.out]),Nat.add_sub_cancel];rfl)
     clear hs2 haj vQ hsj hja hx hi hc HJ;go_wp2_with fail;go_quiet ((go_at_call 253;exact Calls.quiet_of_same (hl.out _)))
     have fF:=ae (eP.out.drawn nq);clear x0 y0 eP;generalize wr.drewN nq=W3 at *;cases c
     ·have HF:=ae (qo.out _ HST.out);go_wp2;exact⟨⟨i+1,dj,rfl,by have:=HI.out;omega,by have:=HI.out;omega,HB.out.2.2.2.2,fF.out,HF⟩,by have:=HI.out;simp[intOf];omega⟩
     ·obtain⟨u,v,u0,v0,dQ,⟨z,z0⟩,HD⟩:=fF.out.swap (k+1) k HB.out.1 HB.out.2.1;have HF:=ae HST.out;clear HST;go_wp2_with fail;go_big_region
      all_goals
       clear u0 v0 dQ z0;go_wp2;exact⟨⟨k,_,rfl,HB.out.2.2.1,HB.out.2.2.2.1,by rw[size_swp];exact HB.out.2.2.2.2,HD.out,ae HF.out⟩,by simp[intOf]⟩
    ·have JX:¬(a:Int)<(j:Int):=by omega
     have HF:=ae (qo.out dj (by rw[HJ.out,insInner_stop _ _ _ _ (.inl af)]));have HB:=ae hsj;clear hs2 haj vQ hsj HJ;go_wp2_with fail;go_quiet (fail)
     have fF:=ae (eP.out.drawn nq);go_wp2;exact⟨⟨i+1,dj,rfl,by have:=HI.out;omega,by have:=HI.out;omega,HB.out,fF.out,HF⟩,by have:=HI.out;simp[intOf];omega⟩
  ·have KP:¬(i:Int)<(b:Int):=by omega
   have HF:=ae (show bw w0 base g cap (insertionSort aZ d a b) wr by rw[<- HO.out,insOuter_stop _ _ _ _ _ hlt];exact hs);clear hs HO;go_wp2;go_returns;exact⟨rfl,HF.out⟩
end
end
section
open Go.RowKit Go.Maps Go.Sort
theorem TW{h:Hint}(e:nh h=2):h=.decreasing:=by cases h<;>simp[nh]at e ⊢
def Xf(m:Nat):Prop:=∀{w0 W:World}{base g cap:Nat}{d:Array Nat},bw w0 base g cap d W->∀a b limit:Nat,a<=b->b<=d.size->d.size<=1000000->b-a<=m->limit<=64->Sort.Below aZ a b d ->
 Calls prog 207 #[.slice (some ⟨g,0,none⟩) d.size cap,.int .i64 (a:Int),.int .i64 (b:Int),.int .i64 (limit:Int)] W (pW w0 base g cap (pdq aZ d a b limit true true))
theorem Mj(m:Nat)(ald:m<50):Xf m:=by
 induction m using Nat.strongRecOn with
 |ind m ih=>
   intro w0 W base g cap d h a b limit hab hb hsz hm hl Sj;have H:=ae h;have kR:=ae Sj;have IH:Hid (∀{W:World}{d:Array Nat},bw w0 base g cap d W->12<m->∀a b limit:Nat,a<=b->b<=d.size->d.size<=1000000->b-a+1<=m->limit<=64->Sort.Below aZ a b d ->
    Calls prog 207 #[.slice (some ⟨g,0,none⟩) d.size cap,.int .i64 (a:Int),.int .i64 (b:Int),.int .i64 (limit:Int)] W (pW w0 base g cap (pdq aZ d a b limit true true))):=ae fun h ET a b l q1 q2 q3 q4 q5 q6=>ih (m-1) af af h a b l q1 q2 q3 af q5 q6
   obtain⟨N,hN⟩:∃N,N=d.size:=⟨_,rfl⟩;rw[<- hN]at hb hsz ⊢;obtain⟨r,hr⟩:∃r,r=pdq aZ d a b limit true true:=⟨_,rfl⟩;rw[<- hr];have Yf:Hid (pdq aZ d a b limit true true=r):=ae hr.symm;have HX:Hid (a<=b/\b<=N/\N<=1000000/\b-a<=m/\limit<=64/\d.size=N/\m<50):=ae af;clear h hN Sj hr hab hb hsz hm hl ih ald;go_enter func207,ntmps207;go_wp2_with fail;go_loopw [1,2,3,8,9] (fun s1 s2 s3 s10 s11 wr=>∃(a1 b1 lim:Nat)(wb wp:Bool)(dk:Array Nat),s1=.int .i64 (a1:Int)/\s2=.int .i64 (b1:Int)/\s3=.int .i64 (lim:Int)/\s10=.bool wb/\s11=.bool wp/\a1<=b1/\b1<=N/\b1-a1<=m/\lim<=64/\dk.size=N/\Hid (Sort.Below aZ a1 b1 dk)/\bw w0 base g cap dk wr/\Hid (pdq aZ dk a1 b1 lim wb wp=r)) (fun s1 s2 _ _ _ _=>(intOf s2-intOf s1).toNat)
   case atStart=>exact⟨a,b,limit,true,true,d,rfl,rfl,rfl,rfl,rfl,HX.out.1,HX.out.2.1,HX.out.2.2.2.1,HX.out.2.2.2.2.1,HX.out.2.2.2.2.2.1,kR,H.out,Yf⟩
   case round=>
    obtain⟨a1,b1,lim,wb,wp,dk,rfl,rfl,rfl,rfl,rfl,aaj,hb1,P0,JS,hsk,HBk,hs,HO⟩:=hrel;generalize wr=Wr at *;have HS:=ae hs;obtain⟨L,hL⟩:∃L,L=b1-a1:=⟨_,rfl⟩;have wL:IntKind.i64.wrap ((b1:Int)-(a1:Int))=(L:Int):=by have:=HX.out;rw[aw]<;>omega
    have HK:Hid (a1<=b1/\b1<=N/\L=b1-a1/\L<=m/\lim<=64/\N<=1000000/\dk.size=N/\m<50):=ae (by have:=HX.out;omega);clear hs hsk hL aaj hb1 P0 JS;by_cases ET:L<=12
    ·have aak:(L:Int)<=12:=by omega
     have hk:=HK.out;have hc:=PG HS.out a1 b1 hk.1 af af;rw[hk.2.2.2.2.2.2.1,show insertionSort aZ dk a1 b1=r by rw[<- HO.out];exact(pdq_small af).symm]at hc;have HC:=ae hc;clear hc hk;go_wp2_with fail;refine HC.out.mono ?_;rintro e w1⟨rfl,hs1⟩;have jg:=ae hs1;clear hs1;go_wp2;go_returns;exact⟨rfl,jg.out⟩
    ·have aak:¬((L:Int)<=12):=by omega
     by_cases hl0:lim=0
     ·subst hl0;have hk:=HK.out;have hc:=Mg HS.out a1 b1 af af af;rw[hk.2.2.2.2.2.2.1,show heapSort aZ dk a1 b1=r by rw[<- HO.out];exact(pdq_heap af rfl).symm]at hc;have HC:=ae hc;clear hc hk;go_wp2_with fail;refine HC.out.mono ?_;rintro e w1⟨rfl,hs1⟩;have jg:=ae hs1;clear hs1;go_wp2;go_returns;exact⟨rfl,jg.out⟩
     ·have ajt:((lim:Int) == 0)=false:=by simp;omega
      obtain⟨R,HR⟩:∃R,Hid (TV aZ a1 b1 lim wb wp dk R):=⟨_,ae (PF Ec wb wp (by have:=HK.out;omega) hl0 (by have:=HK.out;omega) HBk.out)⟩;have JY:Hid (1<=lim/\12<L/\R.d1.size=N/\R.d2.size=N/\R.pi.1.size=N):=ae ⟨af,af,HR.out.s1.trans HK.out.2.2.2.2.2.2.1,HR.out.s2.trans HK.out.2.2.2.2.2.2.1,HR.out.s3.trans HK.out.2.2.2.2.2.2.1⟩;clear hl0 ET;go_upto_if 35 with fail
      go_cut [3] from 19 to 133 (fun s3 wc=>s3=.int .i64 (R.lim:Int)/\bw w0 base g cap R.d1 wc)
      case first=>
       cases wb with
       |false=>
         obtain⟨e1,e2⟩:=HR.out.brk rfl;have hk:=HK.out;have hp:=JY.out;have hc:=Jq HS.out a1 b1 af af af;rw[hk.2.2.2.2.2.2.1,<- e1]at hc;have HC:=ae hc;have wl1:IntKind.i64.wrap ((lim:Int)-1)=(R.lim:Int):=by rw[aw]<;>omega
         clear hc e1 e2 hk hp;go_wp2_with fail;refine HC.out.mono ?_;rintro e w1⟨rfl,hs1⟩;have jg:=ae hs1;clear hs1;go_wp2;go_meet
         exact⟨rfl,jg.out⟩
       |true=>
         obtain⟨e1,e2⟩:=HR.out.nob rfl;go_wp2;go_meet
         exact⟨by rw[e2],by rw[e1];exact HS.out⟩
      case rest=>
       obtain⟨rfl,hs1⟩:=hcut;have jg:=ae hs1;have hk:=HK.out;have hp:=JY.out;have hc:=Jp jg.out a1 b1 af af af af;rw[hp.2.2.1,<- HR.out.c]at hc;have HC:=ae hc;clear hc hs1 hk hp;go_upto_if 50 with fail
       refine HC.out.mono ?_;rintro e w2⟨rfl,hs2⟩;have eP:=ae hs2;clear hs2 HC;go_upto_if 50 with fail
       go_cut [11,12] from 19 to 133 (fun s13 s14 wc=>s13=.int .i64 (R.pivot:Int)/\s14=.int .i64 (nh R.hint:Int)/\bw w0 base g cap R.d2 wc)
       case first=>
        by_cases hh:R.c.2=.decreasing
        ·obtain⟨e2,epv,V0⟩:=HR.out.dec hh;have hz:(nh R.c.2:Int)=2:=by rw[hh];rfl
         have hk:=HK.out;have hp:=JY.out;have hc:=C0 eP.out a1 b1 af af af;rw[hp.2.2.1,<- e2]at hc;have HC:=ae hc;obtain⟨P,hP⟩:∃P,P=R.c.1-a1:=⟨_,rfl⟩;have h1:=HR.out.c1;have h2:=HR.out.c2;have wb1:IntKind.i64.wrap ((b1:Int)-1)=(b1:Int)-1:=by rw[aw]<;>omega
         have wP:IntKind.i64.wrap ((R.c.1:Int)-(a1:Int))=(P:Int):=by rw[aw]<;>omega
         have wV:IntKind.i64.wrap ((b1:Int)-1-(P:Int))=(R.pivot:Int):=by rw[aw]<;>omega
         have HE:Hid (R.hint=.increasing):=ae V0;clear hc e2 epv V0 hP hh h1 h2 hk hp;go_wp2_with fail;refine HC.out.mono ?_;rintro e w3⟨rfl,hs3⟩;have fF:=ae hs3;clear hs3;go_wp2;go_meet
         exact⟨rfl,by rw[HE.out];rfl,fF.out⟩
        ·obtain⟨e2,epv,V0⟩:=HR.out.Sh hh;have hz:((nh R.c.2:Int) == 2)=false:=by
          simp only[beq_eq_false_iff_ne,ne_eq];exact fun h=>hh (TW af)
         go_wp2;go_meet
         exact⟨by rw[epv],by rw[V0],by rw[e2];exact eP.out⟩
       case rest=>
        obtain⟨rfl,rfl,hs3⟩:=hcut;have fF:=ae hs3;clear hs3;obtain⟨z,hz⟩:∃z:Int,z=(nh R.hint:Int):=⟨_,rfl⟩;rw[<- hz];have HV:Hid (decide (R.hint=.increasing)=(z == 1)):=ae (by rw[hz];cases R.hint<;>rfl);clear hz;go_upto_region 15 with fail
        go_cut [68] from 19 to 133 (fun s68 wx=>s68=.bool (wb && wp && decide (R.hint=.increasing))/\bw w0 base g cap R.d2 wx)
        case first=>
         cases wb<;>cases wp<;>(
          go_wp2_with fail;go_meet
          exact⟨by rw[HV.out];simp,fF.out⟩)
        case rest=>
         obtain⟨rfl,pq⟩:=hcut;have gD:=ae pq;clear pq;go_upto_if 68 with fail
         go_cut [] from 19 to 133 (fun wx=>R.pi.2=false/\bw w0 base g cap R.pi.1 wx)
         case first=>
          cases h68:(wb && wp && decide (R.hint=.increasing))
          ·have V1:=ae (HR.out.no h68);go_wp2;go_meet
           exact⟨by rw[V1.out],by rw[V1.out];exact gD.out⟩
          ·have V1:=ae (HR.out.yes h68);have hk:=HK.out;have hp:=JY.out;have hc:=C5 gD.out a1 b1 af af af af;rw[hp.2.2.2.1,<- V1.out]at hc;have HC:=ae hc;clear hc hk hp;cases ko:R.pi.2
           ·go_wp2_with fail;refine HC.out.mono ?_;rintro e w4⟨rfl,e1,pq⟩;rw[ko];rw[<- e1]at pq;have b7:=ae (show _/\_ from⟨ko,pq⟩);clear pq ko e1;go_wp2;go_meet
            exact b7.out
           ·have HF:Hid (R.pi.1=r):=ae (by rw[<- HO.out];exact(HR.out.done ko).symm);go_wp2_with fail;refine HC.out.mono ?_;rintro e w4⟨rfl,e1,pq⟩;rw[ko];rw[<- e1,HF.out]at pq;have b7:=ae pq;clear pq ko e1;go_wp2;go_returns;exact⟨rfl,b7.out⟩
         case rest=>
          obtain⟨ko,hs5⟩:=hcut;have b7:=ae hs5;have p8:=ae ko;clear hs5 ko;generalize wc=W5 at *;have bV:(R.pivot:Int)<(N:Int):=by have:=HR.out.p2;have:=HK.out;omega
          go_upto_region 17 with fail
          go_cut [87] from 19 to 133 (fun v wx=>v=.bool (decide (a1>0) && !aZ R.pi.1[a1-1]! R.pi.1[R.pivot]!)/\bw w0 base g cap R.pi.1 wx)
          case first=>
           rcases Nat.eq_zero_or_pos a1 with ha0 | ha0
           ·have ajw:decide (0<a1)=false:=decide_eq_false af;have HA0:=ae ha0;clear ha0;go_wp2_with fail;go_quiet (fail)
            have gH:=ae (b7.out.drawn nq);go_wp2;go_meet
            exact⟨by simp[HA0.out],gH.out⟩
           ·have aem:(a1:Int)>0:=by omega
            obtain⟨A,hA⟩:∃A,A=a1-1:=⟨_,rfl⟩;have hk:=HK.out;have hp:=JY.out;have hv:=HR.out.p2;have bA:(A:Int)<(N:Int):=by omega
            have wA:IntKind.i64.wrap ((a1:Int)-1)=(A:Int):=by rw[aw]<;>omega
            obtain⟨x,y,c,x0,y0,hl,hc⟩:=b7.out.two A R.pivot af af;have HW:Hid ((decide (a1>0) && !aZ R.pi.1[a1-1]! R.pi.1[R.pivot]!)=!c):=ae (by rw[<- hA,<- hc.out,decide_eq_true ha0];rfl);clear hA hk hp hv hc;go_wp2_with fail;go_quiet ((go_at_call 253;exact Calls.quiet_of_same (hl.out _)))
            have gH:=ae (b7.out.drawn nq);go_wp2;go_meet
            exact⟨by rw[HW.out],gH.out⟩
          case rest=>
           obtain⟨rfl,U3⟩:=hcut;have gH:=ae U3;clear U3;have hk:=HK.out;have hp:=JY.out;cases OG:(decide (a1>0) && !aZ R.pi.1[a1-1]! R.pi.1[R.pivot]!)
           ·obtain⟨mid,ap,d4,hx⟩:∃mid ap d4,partition aZ R.pi.1 a1 b1 R.pivot=(mid,ap,d4):=⟨_,_,_,rfl⟩;obtain⟨hr1,hr2,hr3,hr4,Lx,Bi,YH⟩:=round_part Ec (partition_holds aZ) HR.out.p1 HR.out.p2 (show b1<=R.pi.1.size by omega) HR.out.B3 hx;have hc:=Mi gH.out a1 b1 R.pivot HR.out.p1 HR.out.p2 af af;rw[hp.2.2.2.2,hx]at hc;have HC:=ae hc;have Yh:=ae (HR.out.left p8.out OG mid ap d4 hx hr1 hr2);have HRT:=ae (HR.out.right p8.out OG mid ap d4 hx hr1 hr2);obtain⟨A,hA⟩:∃A,A=mid-a1:=⟨_,rfl⟩;obtain⟨B,hB⟩:∃B,B=b1-mid:=⟨_,rfl⟩;obtain⟨E,hE⟩:∃E,E=L/8:=⟨_,rfl⟩;have wA:IntKind.i64.wrap ((mid:Int)-(a1:Int))=(A:Int):=by rw[aw]<;>omega
            have wB:IntKind.i64.wrap ((b1:Int)-(mid:Int))=(B:Int):=by rw[aw]<;>omega
            have wE:IntKind.i64.wrap ((L:Int)/8)=(E:Int):=by rw[aw]<;>omega
            have wM:IntKind.i64.wrap ((mid:Int)+1)=((mid+1:Nat):Int):=by rw[aw]<;>omega
            have HM:Hid (A=mid-a1/\B=b1-mid/\E=L/8/\a1<=mid/\mid<b1/\d4.size=N):=ae ⟨hA,hB,hE,hr1,hr2,hr3.trans hp.2.2.2.2⟩;have Gf:=ae (show _/\_/\_/\_ from⟨hr4,Lx,Bi,YH⟩);clear hc hx hA hB hE hr1 hr2 hr3 hr4 Lx Bi YH OG hk hp;go_wp2_with fail;refine HC.out.mono ?_;rintro e w7⟨rfl,K5⟩;dsimp only at K5;have j5:=ae K5;clear K5 HC;have hk:=HK.out;have hp:=JY.out;have hq:=HM.out;by_cases h4:A<B
            ·have h4z:(A:Int)<(B:Int):=by omega
             have Ic:=IH.out j5.out af a1 mid R.lim hq.2.2.2.1 af af af (Nat.le_trans HR.out.jZ hk.2.2.2.2.1) Gf.out.1;obtain⟨pL,sL⟩:=pdq_sorts aZ Ec d4 a1 mid R.lim true true hq.2.2.2.1 af Gf.out.1;have E5:=ae (Gf.out.2.2.1 _ pL sL).1;have HF:Hid (pdq aZ (pdq aZ d4 a1 mid R.lim true true) (mid+1) b1 R.lim (decide (A >= E)) ap=r/\(pdq aZ d4 a1 mid R.lim true true).size=N):=ae ⟨by
              rw[<- HO.out,Yh.out af,hq.1,hq.2.2.1,hk.2.2.1],pL.1.trans hq.2.2.2.2.2⟩
             rw[hq.2.2.2.2.2]at Ic;have Sk:=ae Ic;clear Ic pL sL h4 hk hp hq;go_wp2_with fail;refine Sk.out.mono ?_;rintro e w8⟨rfl,K6⟩;have jK:=ae K6;clear K6 Sk;go_wp2;have q:=HM.out;have q2:=HK.out;exact⟨⟨mid+1,b1,R.lim,decide (A >= E),ap,_,rfl,rfl,rfl,congrArg Value.bool ai,rfl,af,af,af,Nat.le_trans HR.out.jZ q2.2.2.2.2.1,HF.out.2,E5,jK.out,ae HF.out.1⟩,by simp[intOf];omega⟩
            ·have h4z:¬(A:Int)<(B:Int):=by omega
             have Ic:=IH.out j5.out af (mid+1) b1 R.lim af af af af (Nat.le_trans HR.out.jZ hk.2.2.2.2.1) Gf.out.2.1;obtain⟨pL,sL⟩:=pdq_sorts aZ Ec d4 (mid+1) b1 R.lim true true af af Gf.out.2.1;have E5:=ae (Gf.out.2.2.2 _ pL sL).1;have HF:Hid (pdq aZ (pdq aZ d4 (mid+1) b1 R.lim true true) a1 mid R.lim (decide (B >= E)) ap=r/\(pdq aZ d4 (mid+1) b1 R.lim true true).size=N):=ae ⟨by
              rw[<- HO.out,HRT.out af,hq.2.1,hq.2.2.1,hk.2.2.1],pL.1.trans hq.2.2.2.2.2⟩
             rw[hq.2.2.2.2.2]at Ic;have Sk:=ae Ic;clear Ic pL sL h4 hk hp hq;go_wp2_with fail;refine Sk.out.mono ?_;rintro e w8⟨rfl,K6⟩;have jK:=ae K6;clear K6 Sk;go_wp2;have q:=HM.out;have q2:=HK.out;exact⟨⟨a1,mid,R.lim,decide (B >= E),ap,_,rfl,rfl,rfl,congrArg Value.bool ai,rfl,af,af,af,Nat.le_trans HR.out.jZ q2.2.2.2.2.1,HF.out.2,E5,jK.out,ae HF.out.1⟩,by simp[intOf];omega⟩
           ·have E6:=OG;simp only[Bool.and_eq_true,decide_eq_true_eq,Bool.not_eq_true']at E6;obtain⟨mid,d4,hx⟩:∃mid d4,partitionEqual aZ R.pi.1 a1 b1 R.pivot=(mid,d4):=⟨_,_,rfl⟩;obtain⟨e1,e2,e3,e4⟩:=round_eq Ec (partitionEqual_holds aZ) E6.1 HR.out.p1 HR.out.p2 (show b1<=R.pi.1.size by omega) HR.out.B3 E6.2 hx;have hc:=FP gH.out a1 b1 R.pivot HR.out.p1 HR.out.p2 af af;rw[hp.2.2.2.2,hx]at hc;have HC:=ae hc;have HF:Hid (pdq aZ d4 mid b1 R.lim wb wp=r/\a1<mid/\mid<=b1/\d4.size=N):=ae ⟨by rw[<- HO.out,HR.out.eq p8.out OG mid d4 hx e1 e2],e1,e2,e3.trans hp.2.2.2.2⟩;have E5:=ae e4.1;clear hc hx OG E6 e1 e2 e3 e4 hk hp;go_wp2_with fail;refine HC.out.mono ?_;rintro e w7⟨rfl,K5⟩;dsimp only at K5;have j5:=ae K5;clear K5 HC;go_wp2;have q:=HF.out;have q2:=HK.out;exact⟨⟨mid,b1,R.lim,wb,wp,d4,rfl,rfl,rfl,rfl,rfl,q.2.2.1,q2.2.1,af,Nat.le_trans HR.out.jZ q2.2.2.2.2.1,q.2.2.2,E5,j5.out,ae q.1⟩,by simp[intOf];omega⟩
section
variable {base:Nat}
theorem xL(v:Value)(w:World):Calls prog 247 #[v,.int .i64 0,.int .i64 0] w fun e w'=>e=.returned (.tuple #[])/\w=w':=by
 go_enter func247,ntmps247;go_wp2;refine wp_loop_rounds 1 ?_;iterate 1 (rw[rounds_succ];go_wp2)
 go_returns;exact⟨rfl,rfl⟩
theorem C6(v:Value)(lim:Int)(w:World):Calls prog 207 #[v,.int .i64 0,.int .i64 0,.int .i64 lim] w fun e w'=>e=.returned (.tuple #[])/\w=w':=by
 have HI:=ae (xL v w);go_enter func207,ntmps207;go_wp2;refine wp_loop_rounds 1 ?_;rw[rounds_succ];go_wp2_with fail;refine HI.out.mono ?_;rintro e w'⟨rfl,rfl⟩;go_wp2;go_returns;exact⟨rfl,rfl⟩
theorem Mk{w:World}{v:Value}{l:List Nat}(h:bF w base v l)(hl:l.length<50):Calls prog 150 #[v] w (Bw w base v l):=by
 have HL:Hid (Calls prog 87 #[.int .u64 (l.length:Int)] w fun e w'=>e=.returned (.int .i64 (Lib.bitLen l.length:Nat))/\w'=w):=
  ae (Any.bits_Len (SlLaysF0.n15.bits (P:=prog) (ρ:=Tryz.eI) { Tryz.jY with }) l.length w af af)
 have hc:IntKind.u64.wrap (l.length:Int)=(l.length:Int):=fW _ af af;have HP:Hid (Calls prog 207 #[v,.int .i64 0,.int .i64 (l.length:Int),.int .i64 ((Lib.bitLen l.length:Nat):Int)] w (Bw w base v l)):=ae (by
  obtain⟨-,⟨rfl,h0⟩|⟨g,cap,_,rfl,_⟩⟩:=id h
  ·obtain rfl:=List.eq_nil_of_length_eq_zero h0;refine(C6 _ _ w).mono ?_;rintro e w'⟨rfl,rfl⟩;exact⟨[],rfl,h,List.Perm.refl _,List.Pairwise.nil,aG.refl _ _⟩
  ·have hn:bw w base g cap l.toArray w:=⟨by simpa using h,aG.refl _ _⟩;have hp:=Mj 49 af hn 0 l.length (Lib.bitLen l.length) (Nat.zero_le _) ai (by simp;omega) af (Nat.le_trans (Lib.bitLen_le _ 62 af af) ag) (.inl rfl);rw[List.size_toArray]at hp;refine hp.mono ?_;rintro e w'⟨rfl,h1⟩;obtain⟨⟨hsz,-,Ib⟩,yC⟩:=pdq_sorts aZ Ec l.toArray 0 l.length (Lib.bitLen l.length) true true (Nat.zero_le _) ai (.inl rfl);generalize pdq aZ l.toArray 0 l.length (Lib.bitLen l.length) true true=D at *;have hsz:D.size=l.length:=by simpa using hsz
   refine⟨D.toList,rfl,?_,?_,?_,h1.turn.mono (fun b _ e=>by rw[e];rfl)⟩
   ·have:=h1.row;rw[hsz]at this;unfold bF at this ⊢;simpa[hsz]using this
   ·rw[show D.extract 0 l.length=D by rw[<- hsz];simp]at Ib;simpa using Ib
   ·rw[List.pairwise_iff_getElem];intro i j hi hj eY;have h2:=yC i j (Nat.zero_le _) eY (by simpa[hsz]using hj);rw[getElem!_pos D i (by simpa using hi),getElem!_pos D j (by simpa using hj)]at h2;have:=of_decide_eq_false h2;simp only[Array.getElem_toList];omega)
 obtain⟨a,k,rfl⟩:=aA h;clear h hl;generalize l.length=n at *;generalize Lib.bitLen n=bl at *;obtain⟨PST,mE⟩:∃P,P=Bw w base (.slice a n k) l:=⟨_,rfl⟩;rw[<- mE]at HP ⊢;have HQ:Hid (∀e w',PST e w'->e=.returned (.tuple #[])):=ae (by rw[mE];rintro e w'⟨l',h,-⟩;exact h);clear mE;go_enter func150,ntmps150;go_wp2_with fail;refine HL.out.mono ?_;rintro e w'⟨rfl,rfl⟩;go_wp2_with fail;refine HP.out.mono ?_;intro e w2 hq;obtain rfl:=HQ.out _ _ hq;have HQ2:=ae hq;clear hq HP HL HQ;go_wp2;go_returns;exact HQ2.out
end
end
section
open Go.RowKit Go.Maps
open Go.ChangeMaps (setBlock)
abbrev kM:=zy×(Option Addr×Nat)
abbrev Bz(p:kM):Value:=.slice p.2.1 p.1.n.length p.2.2
abbrev sP(p:kM):Value:=.agg #[.int .u32 (p.1.v:Int),.int .u64 (p.1.k:Int),.slice p.2.1 p.1.n.length p.2.2]
def iN:List kM->List Value
 | []=>[]
 |p::l=>[.int .u32 (p.1.v:Int),.int .u64 (p.1.k:Int),Bz p]++iN l
theorem BA(a b:List kM):iN (a++b)=iN a++iN b:=by
 induction a with
 |nil=>rfl
 |cons e a ih=>rw[List.cons_append,iN,iN,ih,List.append_assoc]
theorem Jr{l:List kM}{i:Nat}{p:kM}(h:l[i]? = some p):(iN l)[i*3]? = some (.int .u32 (p.1.v:Int))/\(iN l)[i*3+1]? = some (.int .u64 (p.1.k:Int))/\(iN l)[i*3+2]? = some (Bz p):=by
 induction l generalizing i with
 |nil=>cases h
 |cons q l ih=>
   cases i with
   |zero=>cases h;exact⟨rfl,rfl,rfl⟩
   |succ i=>
     have:=ih (i:=i) (by simpa using h);rw[show(i+1)*3=i*3+3 by omega];exact this
abbrev kf(w:World)(base:Nat)(v:Value)(l:List kM):Prop:=w.ownsRow base 181 3 v l.length (iN l)
theorem Js{w:World}{base g cap:Nat}{l:List kM}(h:kf w base (.slice (some ⟨g,0,none⟩) l.length cap) l){i:Nat}{p:kM}(hi:l[i]? = some p) :
 w.cell? ⟨g,i*3,none⟩=some (.int .u32 (p.1.v:Int))/\w.cell? ⟨g,i*3+1,none⟩=some (.int .u64 (p.1.k:Int))/\w.cell? ⟨g,i*3+2,none⟩=some (Bz p):=by
 have hc:∀(j:Nat)(u:Value),(iN l)[j]? = some u->w.cell? ⟨g,j,none⟩=some u:=fun j u hj=>by
  have:=World.ownsRow.cells h (g:=g) rfl j u hj;rwa [bI,Nat.zero_add]at this
 obtain⟨h1,h2,h3⟩:=Jr hi;exact⟨hc _ _ h1,hc _ _ h2,hc _ _ h3⟩
abbrev Ml(w:World)(b:Nat)(m:List (Nat×kM)):Prop:=bS prog 26 je sP w b m
structure xM(w:World)(base:Nat)(lv:Value)(cs:List kM):Prop where
 row:kf w base lv cs
 lu:∀p∈cs,bF w 0 (Bz p) p.1.n/\∀y∈p.1.n,y<4294967296
 v32:∀p∈cs,p.1.v<4294967296
 gU:(cs.map (·.1.v)).Pairwise (· < ·)
 len:cs.length<=24
def fQ(cs:List kM):List (Nat×kM):=cs.reverse.map fun p=>(p.1.v,p)
section
variable {w w' W:World} {base:Nat} {lv:Value} {cs:List kM}
theorem Mm{l:List Nat}(h:l.Pairwise (· < ·)):l.Nodup:=h.imp (fun h e=>by omega)
theorem PH{j:Nat}{p:kM}(h:xM w base lv cs)(hj:cs[j]? = some p):aS (fQ (cs.take j)) p.1.v p=fQ (cs.take (j+1))/\aB (fQ (cs.take j)) p.1.v=none:=by
 obtain⟨hl,rfl⟩:=List.getElem?_eq_some_iff.1 hj;have hne:∀q∈fQ (cs.take j),q.1≠cs[j].1.v:=by
  intro q hq;obtain⟨x,hx,rfl⟩:=List.mem_map.1 hq;rw[List.mem_reverse]at hx;obtain⟨i,hi⟩:=List.mem_iff_getElem?.1 hx;have eY:i<j:=by
   have:=(List.getElem?_eq_some_iff.1 hi).1;rw[List.length_take]at this;omega
  rw[List.getElem?_take_of_lt eY]at hi;obtain⟨mU,rfl⟩:=List.getElem?_eq_some_iff.1 hi;have:=List.pairwise_iff_getElem.1 h.gU i j (by simpa using mU) (by simpa using hl) eY;simp at this;show cs[i].1.v≠_;omega
 refine⟨?_,lH.2 hne⟩;unfold aS;rw[oD hne];unfold fQ;rw[List.take_succ_eq_append_getElem hl,List.reverse_append];rfl
theorem TX(h:xM w base lv cs)(v:Nat):(∃p∈cs,p.1.v=v/\aB (fQ cs) v=some p)\/(aB (fQ cs) v=none/\∀p∈cs,p.1.v≠v):=by
 have hk:((fQ cs).map (·.1)).Nodup:=by
  unfold fQ;rw[List.map_map];exact((List.reverse_perm cs).map (·.1.v)).nodup_iff.2 (Mm h.gU)
 cases e:aB (fQ cs) v with
 |none=>
   refine .inr ⟨rfl,fun p hp he=>?_⟩;exact lH.1 e (p.1.v,p) (List.mem_map.2 ⟨p,List.mem_reverse.2 hp,rfl⟩) he
 |some q=>
   obtain⟨x,hx,he⟩:=List.mem_map.1 (eK e);cases he;exact .inl ⟨q,List.mem_reverse.1 hx,rfl,rfl⟩
theorem vp{l:List Nat}{k y:Nat}{P:Nat->Prop}{Q:Prop}(h:l[k]? = some y):(Q\/∃x∈l.take (k+1),P x)↔((Q\/∃x∈l.take k,P x)\/P y):=by
 obtain⟨hl,rfl⟩:=List.getElem?_eq_some_iff.1 h;rw[List.take_succ_eq_append_getElem hl];constructor
 ·rintro(h |⟨x,hx,h⟩)
  ·exact .inl (.inl h)
  ·rcases List.mem_append.1 hx with hx | hx
   ·exact .inl (.inr ⟨x,hx,h⟩)
   ·rw[List.mem_singleton]at hx;subst hx;exact .inr h
 ·rintro((h |⟨x,hx,h⟩) | h)
  ·exact .inl h
  ·exact .inr ⟨x,List.mem_append.2 (.inl hx),h⟩
  ·exact .inr ⟨_,List.mem_append.2 (.inr ai),h⟩
theorem TY(h:xM w base lv cs){a b:kM}(ha:a∈cs)(hb:b∈cs)(e:a.1.v=b.1.v):a=b:=by
 obtain⟨i,hi⟩:=List.mem_iff_getElem?.1 ha;obtain⟨j,hj⟩:=List.mem_iff_getElem?.1 hb;obtain⟨mU,rfl⟩:=List.getElem?_eq_some_iff.1 hi;obtain⟨lQ,rfl⟩:=List.getElem?_eq_some_iff.1 hj;have hp:=List.pairwise_iff_getElem.1 h.gU;rcases Nat.lt_trichotomy i j with h1 | h1 | h1
 ·have:=hp i j (by simpa using mU) (by simpa using lQ) h1;simp at this;omega
 ·subst h1;rfl
 ·have:=hp j i (by simpa using lQ) (by simpa using mU) h1;simp at this;omega
theorem T1(h:xM w base lv cs){S ts:List Nat}{dn:List (Nat×kM)}(hL:∀z,z∈S↔Bk (cs.map (·.1)) z)(hp:dn.Perm (fQ cs))(ht:ts.Perm ((dn.map (·.1)).filter (fun x=>decide (x ∉ S))))(hs:ts.Pairwise (·<=·)):ts=lf (cs.map (·.1)):=by
 have e:lf (cs.map (·.1))=(cs.map (·.1.v)).filter (fun x=>decide (x ∉ S)):=by
  unfold lf;rw[List.map_map];refine List.filter_congr fun x _=>?_;simp only[hL x]
 rw[e];have hq:ts.Perm ((cs.map (·.1.v)).filter (fun x=>decide (x ∉ S))):=by
  refine ht.trans (List.Perm.filter _ ((hp.map (·.1)).trans ?_));unfold fQ;rw[List.map_map];exact(List.reverse_perm cs).map _
 refine hq.eq_of_pairwise (le:=fun a b=>a<=b) (fun a b _ _ h1 h2=>Nat.le_antisymm h1 h2) hs ?_;exact(h.gU.imp (fun h=>Nat.le_of_lt h)).filter _
def T2(w:World)(l:List Nat)(e:Ending)(w':World):Prop:=∃v,e=.returned v/\Below w.heap.size w w'/\bF w' w.heap.size v l
theorem PI(w:World):(zeroValue 181).run prog w=.ok (.agg #[.int .u32 0,.int .u64 0,.slice none 0 0]) w:=Tryz.zeroValue181 w
theorem T3(h:xM w base lv cs):Calls prog 100 #[lv] w (T2 w (lf (cs.map (·.1)))):=by
 obtain⟨la,lk,rfl⟩:=aA h.row;have H:=ae h;have HZ:=ae PI;have HZU:=ae D9;have tL:∀(t:TypeId)(W:World),(Instr.makeMap t none).run prog W=.ok (.map (some W.heap.size)) (W.alloc (.map #[] 0)):=fun _ _=>rfl;clear h;obtain⟨R,HR⟩:∃R,Hid (lf (cs.map (·.1))=R):=⟨_,ae rfl⟩;rw[HR.out];obtain⟨M,hM⟩:∃M,M=cs.length:=⟨_,rfl⟩;rw[<- hM];have HM:Hid (M=cs.length/\M<=24):=ae ⟨hM,by rw[hM];exact H.out.len⟩;clear hM;have HO0:Hid (Ml (w.alloc (.map #[] 0)) w.heap.size (fQ (cs.take 0))):=ae (bS.made w prog 26 je sP);have kR:Hid (Below w.heap.size w (w.alloc (.map #[] 0))):=ae aj;go_enter func100,ntmps100;go_wp2_with fail;go_loopw [22] (fun vi wr=>∃j:Nat,vi=.int .i64 (j:Int)/\j<=M/\Hid (Ml wr w.heap.size (fQ (cs.take j)))/\Hid (Below w.heap.size w wr)) (fun vi _=>M-(intOf vi).toNat)
 case atStart=>exact⟨0,rfl,Nat.zero_le _,HO0,kR⟩
 case round=>
  obtain⟨j,rfl,hj,HO,HB⟩:=hrel;clear HO0 kR;generalize wr=W1 at *;by_cases hlt:j<M
  ·have JX:(j:Int)<(M:Int):=by omega
   have wj:IntKind.i64.wrap ((j:Int)+1)=((j+1:Nat):Int):=by have:=HM.out;rw[aw]<;>omega
   obtain⟨p,hp⟩:∃x,cs[j]? = some x:=⟨_,List.getElem?_eq_getElem (by have:=HM.out;omega)⟩;have HP:=ae hp;have HG:=ae (fU (H.out.v32 p (List.mem_of_getElem? hp)));obtain⟨g,rfl⟩:∃g,la=some ⟨g,0,none⟩:=by
    obtain⟨-,⟨h1,h2⟩|⟨g,_,_,h1,_⟩⟩:=H.out.row
    ·have:=HM.out;omega
    ·cases h1;exact⟨g,rfl⟩
   obtain⟨q0,q1,q2⟩:=Js (aW H.out.row HB.out) hp;obtain⟨c,na,nk⟩:=p;have cY:Hid (Below W1.heap.size W1 (W1.alloc (.cells #[.int .u32 (c.v:Int),.int .u64 (c.k:Int),.slice na c.n.length nk] 181))):=ae aj;have qo:Hid (Ml (W1.alloc (.cells #[.int .u32 (c.v:Int),.int .u64 (c.k:Int),.slice na c.n.length nk] 181)) w.heap.size (fQ (cs.take j))):=ae (HO.out.kept (cY.out.block _ HO.out.lt));have mQ:Hid (Ml ((W1.alloc (.cells #[.int .u32 (c.v:Int),.int .u64 (c.k:Int),.slice na c.n.length nk] 181)).alloc (.cells #[.int .u32 0,.int .u64 0,.slice none 0 0] 181)) w.heap.size (fQ (cs.take j))):=ae (qo.out.kept ((MapKept.heap_alloc _ _).2 _ qo.out.lt));obtain⟨hput,ik⟩:=PH H.out hp;have nO:=ae hput;have Fi:=ae ik;clear hp hput ik;go_wp2_with (first | (at_lookup;refine bY _ rfl _ _ _ _ rfl 181 cd dr Tryz.underlying241 (HZ.out _) w.heap.size _ rfl qo.out c.v rfl HG.out ?_;unfold qh;rw[Fi.out];simp only[Option.map_none,Option.getD_none,Option.isSome_none]) | (at_mapUpdate;refine eL _ rfl _ _ _ _ rfl 181 cd dr Tryz.underlying241 w.heap.size _ rfl mQ.out c.v (c,na,nk) rfl rfl HG.out ?_;intro es clock hm;rw[nO.out]at hm;have gC:=ae hm;clear hm));have E5:Hid (Below w.heap.size w (setBlock ((W1.alloc (.cells #[.int .u32 (c.v:Int),.int .u64 (c.k:Int),.slice na c.n.length nk] 181)).alloc (.cells #[.int .u32 0,.int .u64 0,.slice none 0 0] 181)) w.heap.size (.map es clock))):=ae (by
    have ht:aG (fun x=>w.heap.size<=x) w (setBlock ((W1.alloc (.cells #[.int .u32 (c.v:Int),.int .u64 (c.k:Int),.slice na c.n.length nk] 181)).alloc (.cells #[.int .u32 0,.int .u64 0,.slice none 0 0] 181)) w.heap.size (.map es clock)):=(((aG.aV HB.out).alloc _).alloc _).setBlock _ _ (.inl (Nat.le_refl _));exact ht.below (Nat.le_refl _) (fun _ h=>h))
   exact⟨⟨j+1,by go_num,af,gC,E5⟩,by simp[intOf];omega⟩
  ·have JX:¬(j:Int)<(M:Int):=by omega
   have HOF:Hid (Ml W1 w.heap.size (fQ cs)):=ae (by have:=HO.out;rwa [List.take_of_length_le (by have:=HM.out;omega)]at this);clear HO;have zx:Hid (Below W1.heap.size W1 ((W1.alloc (.map #[] 0)).alloc (.cells #[.map (some W1.heap.size)] 243))/\((W1.alloc (.map #[] 0)).alloc (.cells #[.map (some W1.heap.size)] 243)).heap.size=W1.heap.size+1+1):=ae ⟨aj.alloc ai _,ai⟩;have mQ:Hid (Ml ((W1.alloc (.map #[] 0)).alloc (.cells #[.map (some W1.heap.size)] 243)) w.heap.size (fQ cs)):=ae (HOF.out.kept (zx.out.1.block _ HOF.out.lt));have fF:Hid (jE ((W1.alloc (.map #[] 0)).alloc (.cells #[.map (some W1.heap.size)] 243)) W1.heap.size []/\((W1.alloc (.map #[] 0)).alloc (.cells #[.map (some W1.heap.size)] 243)).heap[W1.heap.size+1]? = some (.cells #[.map (some W1.heap.size)] 243)):=ae ⟨(bS.made W1 prog 26 je (fun _:Unit=>Value.agg #[])).kept ((MapKept.heap_alloc _ _).2 _ ai),by
    have:=heap_alloc_new (W1.alloc (.map #[] 0)) (.cells #[.map (some W1.heap.size)] 243);simpa using this⟩
   have HLT:Hid (w.heap.size<W1.heap.size):=ae HOF.out.lt;clear HOF;go_wp2_with (at_range;refine pz _ rfl _ _ rfl 181 Tryz.underlying241 w.heap.size _ rfl mQ.out ?_;intro ob0 tK);try go_frame
   rw[zx.out.2]at tK;have HI0:=ae tK;clear tK;obtain⟨lb,DK⟩:∃x,x=W1.heap.size:=⟨_,rfl⟩;obtain⟨qc,hqc⟩:∃x,x=W1.heap.size+1:=⟨_,rfl⟩;obtain⟨ib,hib⟩:∃x,x=W1.heap.size+1+1:=⟨_,rfl⟩;have HN:Hid (w.heap.size<lb/\lb<qc/\qc<ib):=ae (by have:=HLT.out;omega);have oB:Hid (Below w.heap.size w (((W1.alloc (.map #[] 0)).alloc (.cells #[.map (some W1.heap.size)] 243)).alloc ob0)):=ae ((HB.out.trans (zx.out.1.mono HB.out.size)).alloc (by rw[zx.out.2];have:=HB.out.size;omega) _);have gD:Hid (jE (((W1.alloc (.map #[] 0)).alloc (.cells #[.map (some W1.heap.size)] 243)).alloc ob0) lb []/\(((W1.alloc (.map #[] 0)).alloc (.cells #[.map (some W1.heap.size)] 243)).alloc ob0).heap[qc]? = some (.cells #[.map (some lb)] 243)):=ae (by
    subst DK hqc;exact⟨fF.out.1.kept ((MapKept.heap_alloc _ _).2 _ fF.out.1.lt),by rw[(MapKept.heap_alloc _ _).2 _ (by rw[zx.out.2];omega)];exact fF.out.2⟩)
   rw[<- hib]at HI0;rw[<- hib,<- hqc];generalize ((W1.alloc (.map #[] 0)).alloc (.cells #[.map (some W1.heap.size)] 243)).alloc ob0=W4 at *;clear DK hqc hib fF mQ zx HLT HB tL;go_loopw [] (fun wr=>∃dn todo S,Hid (cw prog 26 je sP wr w.heap.size ib (fQ cs) todo)/\Hid (Below w.heap.size w wr)/\Hid (jE wr lb S/\wr.heap[qc]? = some (.cells #[.map (some lb)] 243))/\Hid ((dn++todo).Perm (fQ cs))/\Hid (∀z,z∈S ↔ ∃q∈dn,∃b∈cs,b.1.v∈q.2.1.n/\FM q.2.1 b.1 z)) (fun wr=>wr.rangeLeft w.heap.size ib)
   case atStart=>exact⟨[],_,[],HI0,oB,gD,ae (List.Perm.refl _),ae ai⟩
   case round=>
    obtain⟨dn,todo,S,HI,HB,HS,HP,HZS⟩:=hrel;clear HI0 oB gD;generalize wr=W5 at *;go_wp2_with (at_next;refine pA _ rfl _ rfl w.heap.size ib (fQ cs) todo rfl HI.out ?_ ?_)
    ·rintro rfl;have afV:Hid (∀z,z∈S↔Bk (cs.map (·.1)) z):=ae (fun z=>by
      have hp:dn.Perm (fQ cs):=by simpa using HP.out
      rw[HZS.out z];unfold Bk;constructor
      ·rintro⟨q,hq,b,hb,h1,h2⟩;obtain⟨x,hx,rfl⟩:=List.mem_map.1 (hp.mem_iff.1 hq);exact⟨x.1,List.mem_map.2 ⟨x,List.mem_reverse.1 hx,rfl⟩,b.1,List.mem_map.2 ⟨b,hb,rfl⟩,h1,h2.1,h2.2⟩
      ·rintro⟨a,ha,b,hb,h1,h2,h3⟩;obtain⟨x,hx,rfl⟩:=List.mem_map.1 ha;obtain⟨y,hy,rfl⟩:=List.mem_map.1 hb;exact⟨(x.1.v,x),hp.mem_iff.2 (List.mem_map.2 ⟨x,List.mem_reverse.2 hx,rfl⟩),y,hy,h1,h2,h3⟩)
     have ZR:Hid (Ml W5 w.heap.size (fQ cs)):=ae HI.out.map;clear HP HZS HI;go_wp2_with (at_range;refine pz _ rfl _ _ rfl 181 Tryz.underlying241 w.heap.size _ rfl ZR.out ?_;intro ob5 VD);try go_frame
     obtain⟨ie,VS⟩:∃x,x=W5.heap.size:=⟨_,rfl⟩;have HI0:=ae VD;have Pp:Hid (qc<ie):=ae (by rw[VS];exact(Array.getElem?_eq_some_iff.1 HS.out.2).1);have kR:Hid (Below w.heap.size w (W5.alloc ob5)):=ae (HB.out.alloc HB.out.size _);have Fc:Hid (jE (W5.alloc ob5) lb S/\(W5.alloc ob5).heap[qc]? = some (.cells #[.map (some lb)] 243)):=ae ⟨HS.out.1.kept ((MapKept.heap_alloc _ _).2 _ HS.out.1.lt),by rw[(MapKept.heap_alloc _ _).2 _ (Array.getElem?_eq_some_iff.1 HS.out.2).1];exact HS.out.2⟩;rw[<- VS]at HI0;rw[<- VS];generalize W5.alloc ob5=W6 at *;clear VS VD HS HB ZR;go_loopw [2] (fun v wr=>∃(todo:List (Nat×kM))(acc:List Nat),Hid (bF wr (ie+1) v acc)/\Hid (cw prog 26 je sP wr w.heap.size ie (fQ cs) todo)/\Hid (Below w.heap.size w wr)/\Hid (jE wr lb S/\wr.heap[qc]? = some (.cells #[.map (some lb)] 243))/\Hid (∃dn,(dn++todo).Perm (fQ cs)/\acc=(dn.map (·.1)).filter (fun x=>decide (x ∉ S)))) (fun _ wr=>wr.rangeLeft w.heap.size ie)
     case atStart=>exact⟨_,[],ae ⟨rfl,.inl ⟨rfl,rfl⟩⟩,HI0,kR,Fc,ae ⟨[],List.Perm.refl _,rfl⟩⟩
     case round=>
      generalize u2=ov at *;obtain⟨todo,acc,nN,HI,HB,HS,HA⟩:=hrel;clear HI0 kR Fc;generalize wr=W7 at *;have YQ:Hid (acc.length<=24):=ae (by
       obtain⟨dn,hp,rfl⟩:=HA.out;have h1:=hp.length_eq;have h2:=List.length_filter_le (fun x=>decide (x ∉ S)) (dn.map (·.1));have h3:=H.out.len;unfold fQ at h1;simp only[List.length_append,List.length_map,List.length_reverse]at h1 h2;omega)
      go_wp2_with (at_next;refine pA _ rfl _ rfl w.heap.size ie (fQ cs) todo rfl HI.out ?_ ?_)
      ·rintro rfl;have HC:=ae (Mk nN.out (Nat.lt_of_le_of_lt YQ.out ag));go_wp2_with fail;refine HC.out.mono ?_;rintro e w8⟨ts,rfl,hr8,hp8,K6,ht8⟩;have HQ:Hid (Below w.heap.size w w8/\bF w8 w.heap.size ov R):=ae (by
        refine⟨?_,?_⟩
        ·have h0:aG (fun x=>w.heap.size<=x) w W7:=aG.aV HB.out;exact(h0.trans ht8 (fun x hx e=>by have:=aI nN.out x (by first | exact e | exact e.symm);have:=Pp.out;have:=HN.out;omega)).below (Nat.le_refl _) (fun _ h=>h)
        ·obtain⟨dn,hp,rfl⟩:=HA.out;rw[List.append_nil]at hp;rw[<- HR.out,<- T1 H.out afV.out hp hp8 K6];exact aU hr8 (by have:=Pp.out;have:=HN.out;omega))
       clear hr8 hp8 K6 ht8 HC;go_wp2;go_ret;exact⟨ov,rfl,HQ.out.1,HQ.out.2⟩
      ·intro kv c na nk rs w1 r9 hp pZ se hen;have YR:∀x,x≠ie->(setBlock w1 ie r9).heap[x]? = W7.heap[x]? := fun x hx=>by
        rcases pZ with rfl | rfl
        ·exact bg _ hx
        ·exact bg _ hx
       have hb1:Below w.heap.size w (setBlock w1 ie r9):=by
        have h0:aG (fun x=>w.heap.size<=x) w W7:=aG.aV HB.out;have:aG (fun x=>w.heap.size<=x) w (setBlock w1 ie r9):=by
         have:=HN.out;have:=Pp.out;rcases pZ with rfl | rfl
         ·exact h0.setBlock _ _ (.inl af)
         ·exact h0.drew.setBlock _ _ (.inl af)
        exact this.below (Nat.le_refl _) (fun _ h=>h)
       have jK:Hid (jE (setBlock w1 ie r9) lb S/\(setBlock w1 ie r9).heap[qc]? = some (.cells #[.map (some lb)] 243)):=ae ⟨HS.out.1.kept (YR _ (by have:=HN.out;have:=Pp.out;omega)),by rw[YR _ (by have:=Pp.out;omega)];exact HS.out.2⟩;have HR8:Hid (bF (setBlock w1 ie r9) (ie+1) ov acc):=ae (bH nN.out (fun x hx=>YR x (by have:=aI nN.out x hx;omega)));have zC:=ae hb1;have HKV:Hid ((kv,(c,na,nk))∈fQ cs):=ae (by
        obtain⟨dn,hq,-⟩:=HA.out;exact hq.mem_iff.1 (List.mem_append.2 (.inr (hp.mem_iff.2 ai))))
       have HGV:Hid (Good prog 26 (je kv)):=ae (by
        obtain⟨x,hx,he⟩:=List.mem_map.1 HKV.out;cases he;exact fU (H.out.v32 _ (List.mem_reverse.1 hx)))
       have Mn:=ae se;have Yh:Hid (todo.length=rs.length+1/\W7.rangeLeft w.heap.size ie=todo.length):=ae ⟨by have:=hp.length_eq;simpa using this,HI.out.left⟩;have Jt:Hid (∃dn,(dn++[(kv,(c,na,nk))]++rs).Perm (fQ cs)/\acc=(dn.map (·.1)).filter (fun x=>decide (x ∉ S))):=ae (by
        obtain⟨dn,hq,he⟩:=HA.out;refine⟨dn,List.Perm.trans ?_ hq,he⟩;rw[List.append_assoc];exact List.Perm.append_left dn (by simpa using hp.symm))
       clear YR hb1 hp pZ se HI HB HS nN HA;simp only[je]at hen;generalize setBlock w1 ie r9=W8 at *;have q0:W8.cell? ⟨qc,0,none⟩=some (.map (some lb)):=by rw[ar jK.out.2];rfl
       have HU9:Hid (Below W8.heap.size W8 (W8.alloc (.cells #[] 245))):=ae aj;have qs:Hid (jE (W8.alloc (.cells #[] 245)) lb S/\(W8.alloc (.cells #[] 245)).heap[qc]? = some (.cells #[.map (some lb)] 243)):=ae ⟨jK.out.1.kept (HU9.out.block _ jK.out.1.lt),(HU9.out.block _ (Array.getElem?_eq_some_iff.1 jK.out.2).1).trans jK.out.2⟩;have HI9:Hid (cw prog 26 je sP (W8.alloc (.cells #[] 245)) w.heap.size ie (fQ cs) rs):=ae (Mn.out.kept (HU9.out.block _ Mn.out.map.lt) (HU9.out.block _ Mn.out.lt));have rZ:Hid (Below w.heap.size w (W8.alloc (.cells #[] 245))):=ae (zC.out.trans (HU9.out.mono zC.out.size));have HR9:Hid (bF (W8.alloc (.cells #[] 245)) (ie+1) ov acc):=ae (aW HR8.out HU9.out);have HLE:Hid (ie+1<=(W8.alloc (.cells #[] 245)).heap.size/\acc.length<=100000):=ae ⟨HI9.out.lt,by have:=YQ.out;omega⟩;by_cases hlt:kv∈S
       ·have TC:Hid (decide (kv∈S)=true):=ae (decide_eq_true hlt);have LZ:Hid (∃dn,(dn++rs).Perm (fQ cs)/\acc=(dn.map (·.1)).filter (fun x=>decide (x ∉ S))):=ae (by
         obtain⟨dn,hq,he⟩:=Jt.out;refine⟨_,hq,?_⟩;rw[List.map_append,List.filter_append,<- he];simp[hlt])
        have Qr:Hid ((W8.alloc (.cells #[] 245)).rangeLeft w.heap.size ie<W7.rangeLeft w.heap.size ie):=ae (by have:=Yh.out;rw[HI9.out.left];omega);clear hlt Jt;go_wp2_with (at_lookup;refine bY _ rfl _ _ _ _ rfl 245 cd dr Tryz.underlying243 (HZU.out _) lb _ rfl jK.out.1 kv rfl HGV.out ?_;rw[uZ,rN];try rw[TC.out]);go_roundw
        case rel=>exact⟨rs,acc,HR9,HI9,rZ,qs,LZ⟩
        case measure=>exact Qr.out
       ·have TC:Hid (decide (kv∈S)=false):=ae (decide_eq_false hlt);have LZ:Hid (∃dn,(dn++rs).Perm (fQ cs)/\acc++[kv]=(dn.map (·.1)).filter (fun x=>decide (x ∉ S))):=ae (by
         obtain⟨dn,hq,he⟩:=Jt.out;refine⟨_,hq,?_⟩;rw[List.map_append,List.filter_append,<- he];simp[hlt])
        clear hlt Jt;obtain⟨oa,ok,rfl⟩:=aA HR9.out;go_wp2_with (first | (at_lookup;refine bY _ rfl _ _ _ _ rfl 245 cd dr Tryz.underlying243 (HZU.out _) lb _ rfl jK.out.1 kv rfl HGV.out ?_;rw[uZ,rN];try rw[TC.out]) | (at_builtin;refine nI rfl _ _ rfl (ie+1) _ acc rfl HR9.out kv 1 (by simp[go_sem]) HLE.out.2 HLE.out.1 ?_;intro v5 w5 h5 ha));obtain⟨⟨q1,q2,q3,q4,q5⟩,-⟩:=ha;have hsz:((W8.alloc (.cells #[] 245)).alloc (.cells #[.int .u32 (kv:Int)] 26)).heap.size=(W8.alloc (.cells #[] 245)).heap.size+1:=by simp
        have hlt:=HLE.out.1;have hblk:∀x,x<=ie->w5.heap[x]? = (W8.alloc (.cells #[] 245)).heap[x]? := fun x hx=>by
         rw[q5 x (by rw[hsz];omega) (fun e=>by have:=aI HR9.out x (by first | exact e | exact e.symm);omega)];exact(MapKept.heap_alloc _ _).2 _ af
        have hN:=HN.out;have hN5:=Pp.out;have PJ:Hid (cw prog 26 je sP w5 w.heap.size ie (fQ cs) rs):=ae (HI9.out.kept (hblk _ af) (hblk _ (Nat.le_refl _)));have T4:Hid (Below w.heap.size w w5):=ae (rZ.out.trans ⟨by rw[q1];rfl,by rw[q2];rfl,by rw[q3];rfl,by rw[hsz]at q4;omega,fun k hk=>hblk k af⟩);have oy:Hid (jE w5 lb S/\w5.heap[qc]? = some (.cells #[.map (some lb)] 243)):=ae ⟨qs.out.1.kept (hblk _ af),(hblk _ af).trans qs.out.2⟩;have ali:=ae h5;have Qr:Hid (w5.rangeLeft w.heap.size ie<W7.rangeLeft w.heap.size ie):=ae (by have:=Yh.out;rw[PJ.out.left];omega);clear q1 q2 q3 q4 q5 hsz hlt hblk hN hN5 h5;go_roundw
        case rel=>exact⟨rs,acc++[kv],ali,PJ,T4,oy,LZ⟩
        case measure=>exact Qr.out
    ·intro kv c na nk rs w1 r9 hp pZ se hen;have YR:∀x,x≠ib->(setBlock w1 ib r9).heap[x]? = W5.heap[x]? := fun x hx=>by
      rcases pZ with rfl | rfl
      ·exact bg _ hx
      ·exact bg _ hx
     have hb1:Below w.heap.size w (setBlock w1 ib r9):=by
      have h0:aG (fun x=>w.heap.size<=x) w W5:=aG.aV HB.out;have:aG (fun x=>w.heap.size<=x) w (setBlock w1 ib r9):=by
       have:=HN.out;rcases pZ with rfl | rfl
       ·exact h0.setBlock _ _ (.inl af)
       ·exact h0.drew.setBlock _ _ (.inl af)
      exact this.below (Nat.le_refl _) (fun _ h=>h)
     have gH:Hid (jE (setBlock w1 ib r9) lb S/\(setBlock w1 ib r9).heap[qc]? = some (.cells #[.map (some lb)] 243)):=ae ⟨HS.out.1.kept (YR _ (by have:=HN.out;omega)),by rw[YR _ (by have:=HN.out;omega)];exact HS.out.2⟩;have nw:=ae hb1;have HPP:=ae hp;have HKV:Hid ((kv,(c,na,nk))∈fQ cs):=ae (HP.out.mem_iff.1 (List.mem_append.2 (.inr (hp.mem_iff.2 ai))));have HI6:=ae se;have Yh:Hid (todo.length=rs.length+1/\W5.rangeLeft w.heap.size ib=todo.length):=ae ⟨by have:=hp.length_eq;simpa using this,HI.out.left⟩;clear YR hb1 hp pZ se HI HB HS;generalize setBlock w1 ib r9=W6 at *;have HPC:Hid ((c,na,nk)∈cs/\kv=c.v):=ae (by
      obtain⟨x,hx,he⟩:=List.mem_map.1 HKV.out;cases he;exact⟨List.mem_reverse.1 hx,rfl⟩)
     have HNR:=ae (H.out.lu _ HPC.out.1);have Ti:Hid (Below W6.heap.size W6 (W6.alloc (.cells #[.int .u32 (c.v:Int),.int .u64 (c.k:Int),.slice na c.n.length nk] 181))/\(W6.alloc (.cells #[.int .u32 (c.v:Int),.int .u64 (c.k:Int),.slice na c.n.length nk] 181)).heap[W6.heap.size]? = some (.cells #[.int .u32 (c.v:Int),.int .u64 (c.k:Int),.slice na c.n.length nk] 181)):=ae ⟨ak.alloc (Nat.le_refl _) _,heap_alloc_new _ _⟩;have HI7:Hid (cw prog 26 je sP (W6.alloc (.cells #[.int .u32 (c.v:Int),.int .u64 (c.k:Int),.slice na c.n.length nk] 181)) w.heap.size ib (fQ cs) rs):=ae (HI6.out.kept (Ti.out.1.block _ HI6.out.map.lt) (Ti.out.1.block _ HI6.out.lt));have rY:Hid (Below w.heap.size w (W6.alloc (.cells #[.int .u32 (c.v:Int),.int .u64 (c.k:Int),.slice na c.n.length nk] 181))):=ae (nw.out.trans (Ti.out.1.mono nw.out.size));have j5:Hid (jE (W6.alloc (.cells #[.int .u32 (c.v:Int),.int .u64 (c.k:Int),.slice na c.n.length nk] 181)) lb S/\(W6.alloc (.cells #[.int .u32 (c.v:Int),.int .u64 (c.k:Int),.slice na c.n.length nk] 181)).heap[qc]? = some (.cells #[.map (some lb)] 243)):=ae ⟨gH.out.1.kept (Ti.out.1.block _ gH.out.1.lt),(Ti.out.1.block _ (Array.getElem?_eq_some_iff.1 gH.out.2).1).trans gH.out.2⟩;obtain⟨ab,hab⟩:∃x,x=W6.heap.size:=⟨_,rfl⟩;have HAB:Hid ((W6.alloc (.cells #[.int .u32 (c.v:Int),.int .u64 (c.k:Int),.slice na c.n.length nk] 181)).heap[ab]? = some (.cells #[.int .u32 (c.v:Int),.int .u64 (c.k:Int),.slice na c.n.length nk] 181)/\ab≠lb):=ae ⟨by rw[hab];exact Ti.out.2,by have:=gH.out.1.lt;omega⟩;clear HI6 nw gH;go_wp2_with fail;rw[<- hab];generalize W6.alloc (.cells #[.int .u32 (c.v:Int),.int .u64 (c.k:Int),.slice na c.n.length nk] 181)=W7 at *;clear hab Ti hen;go_loopw [51] (fun vk wr=>∃(k:Nat)(S':List Nat),vk=.int .i64 (k:Int)/\k<=c.n.length/\Hid (cw prog 26 je sP wr w.heap.size ib (fQ cs) rs)/\Hid (Below w.heap.size w wr)/\Hid (jE wr lb S'/\wr.heap[qc]? = some (.cells #[.map (some lb)] 243))/\Hid (wr.heap[ab]? = some (.cells #[.int .u32 (c.v:Int),.int .u64 (c.k:Int),.slice na c.n.length nk] 181)/\ab≠lb)/\Hid (∀z,z∈S'↔z∈S\/∃y∈c.n.take k,∃b∈cs,b.1.v=y/\FM c b.1 z)) (fun vk _=>c.n.length-(intOf vk).toNat)
     case atStart=>exact⟨0,S,rfl,Nat.zero_le _,HI7,rY,j5,HAB,ae ai⟩
     case round=>
      obtain⟨k,S',rfl,hk,Mn,zC,jK,Jt,Yy⟩:=hrel;clear HI7 rY j5 HAB;generalize wr=W8 at *;by_cases hkt:k<c.n.length
      ·have Gj:(k:Int)<(c.n.length:Int):=by omega
       obtain⟨g,rfl,x9⟩:∃g,na=some ⟨g,0,none⟩/\c.n.length<=maxLen:=by
        obtain⟨-,⟨h1,h2⟩|⟨g,cap,_,h1,_,_,Zc,hcm,_⟩⟩:=HNR.out.1
        ·omega
        ·cases h1;exact⟨g,rfl,af⟩
       unfold maxLen at x9;have wk:IntKind.i64.wrap ((k:Int)+1)=((k+1:Nat):Int):=by rw[aw]<;>omega
       obtain⟨y,hy⟩:∃x,c.n[k]? = some x:=⟨_,List.getElem?_eq_getElem hkt⟩;have HY:=ae hy;have HGY:=ae (fU (HNR.out.2 y (List.mem_of_getElem? hy)));have q0:=iG (aW HNR.out.1 zC.out) hy;have a0:W8.cell? ⟨ab,0,none⟩=some (.int .u32 (c.v:Int)):=by rw[ar Jt.out.1];rfl
       have a1:W8.cell? ⟨ab,1,none⟩=some (.int .u64 (c.k:Int)):=by rw[ar Jt.out.1];rfl
       have a2:W8.cell? ⟨ab,2,none⟩=some (.slice (some ⟨g,0,none⟩) c.n.length nk):=by rw[ar Jt.out.1];rfl
       obtain⟨⟨b,nb,nbk⟩,hp,Ye,ik⟩|⟨ik,hno⟩:=TX H.out y
       ·have Fi:=ae ik;have HPB:=ae (show(b,nb,nbk)∈cs/\b.v=y from⟨hp,Ye⟩);clear hp Ye ik hy;have rZ:Hid (Below W8.heap.size W8 (W8.alloc (.cells #[.int .u32 (b.v:Int),.int .u64 (b.k:Int),.slice nb b.n.length nbk] 181))):=ae aj;have qs:Hid (jE (W8.alloc (.cells #[.int .u32 (b.v:Int),.int .u64 (b.k:Int),.slice nb b.n.length nbk] 181)) lb S'/\(W8.alloc (.cells #[.int .u32 (b.v:Int),.int .u64 (b.k:Int),.slice nb b.n.length nbk] 181)).heap[qc]? = some (.cells #[.map (some lb)] 243)):=ae ⟨jK.out.1.kept (rZ.out.block _ jK.out.1.lt),(rZ.out.block _ (Array.getElem?_eq_some_iff.1 jK.out.2).1).trans jK.out.2⟩;have e0:=Bc rZ.out a0;have e1:=Bc rZ.out a1;have e2:=Bc rZ.out a2;have HMT:=ae (TR (y:=b) qs.out.2 qs.out.1 (by have:=HN.out;omega) c (H.out.v32 _ HPC.out.1) (H.out.v32 _ HPB.out.1) (xa:=some ⟨g,0,none⟩) (xn:=c.n.length) (xc:=nk) (ya:=nb) (yn:=b.n.length) (yc:=nbk));go_wp2_with (at_lookup;refine bY _ rfl _ _ _ _ rfl 181 cd dr Tryz.underlying241 (HZ.out _) w.heap.size _ rfl Mn.out.map y rfl HGY.out ?_;unfold qh;rw[Fi.out];simp only[Option.map_some,Option.getD_some,Option.isSome_some]);refine HMT.out.mono ?_;rintro e w9⟨S9,rfl,hs9,hz9,ht9,hc9⟩;have Q6:∀x,x<W8.heap.size->x≠lb->w9.heap[x]? = W8.heap[x]? := fun x hx hne=>by
         exact(ht9.block x (by have:=rZ.out.size;omega) hne).trans (rZ.out.block _ hx)
        have PJ:Hid (cw prog 26 je sP w9 w.heap.size ib (fQ cs) rs):=ae (Mn.out.kept (Q6 _ Mn.out.map.lt (by have:=HN.out;omega)) (Q6 _ Mn.out.lt (by have:=HN.out;omega)));have T4:Hid (Below w.heap.size w w9):=ae (by
         have h0:aG (fun x=>w.heap.size<=x) w w9:=((aG.aV zC.out).alloc _).trans ht9 (fun x _ e=>by have:=HN.out;omega);exact h0.below (Nat.le_refl _) (fun _ h=>h))
        have oy:=ae (show _/\_ from⟨hs9,hc9⟩);have abr:Hid (w9.heap[ab]? = some (.cells #[.int .u32 (c.v:Int),.int .u64 (c.k:Int),.slice (some ⟨g,0,none⟩) c.n.length nk] 181)/\ab≠lb):=ae ⟨(Q6 _ (Array.getElem?_eq_some_iff.1 Jt.out.1).1 Jt.out.2).trans Jt.out.1,Jt.out.2⟩;have abt:Hid (∀z,z∈S9↔z∈S\/∃y∈c.n.take (k+1),∃b∈cs,b.1.v=y/\FM c b.1 z):=ae (fun z=>by
         rw[hz9 z,Yy.out z,vp HY.out];refine or_congr Iff.rfl ⟨fun h=>⟨_,HPB.out.1,HPB.out.2,h⟩,?_⟩;rintro⟨b',hb',hv,hm⟩;rw[TY H.out hb' HPB.out.1 (hv.trans HPB.out.2.symm)]at hm;exact hm)
        clear hs9 hz9 ht9 hc9 Q6 Mn zC jK Jt Yy HMT qs rZ a0 a1 a2 e0 e1 e2 q0;go_wp2;go_roundw
        case rel=>exact⟨k+1,S9,by go_num,af,PJ,T4,oy,abr,abt⟩
        case measure=>simp[intOf];omega
       ·have Fi:=ae ik;have abt:Hid (∀z,z∈S'↔z∈S\/∃y∈c.n.take (k+1),∃b∈cs,b.1.v=y/\FM c b.1 z):=ae (fun z=>by
         rw[Yy.out z,vp HY.out];refine⟨.inl,fun h=>h.elim id ?_⟩;rintro⟨b',hb',hv,-⟩;exact absurd hv (hno _ hb'))
        clear ik hno hy;have rZ:Hid (Below W8.heap.size W8 (W8.alloc (.cells #[.int .u32 0,.int .u64 0,.slice none 0 0] 181))):=ae aj;have oy:Hid (jE (W8.alloc (.cells #[.int .u32 0,.int .u64 0,.slice none 0 0] 181)) lb S'/\(W8.alloc (.cells #[.int .u32 0,.int .u64 0,.slice none 0 0] 181)).heap[qc]? = some (.cells #[.map (some lb)] 243)):=ae ⟨jK.out.1.kept (rZ.out.block _ jK.out.1.lt),(rZ.out.block _ (Array.getElem?_eq_some_iff.1 jK.out.2).1).trans jK.out.2⟩;have PJ:Hid (cw prog 26 je sP (W8.alloc (.cells #[.int .u32 0,.int .u64 0,.slice none 0 0] 181)) w.heap.size ib (fQ cs) rs):=ae (Mn.out.kept (rZ.out.block _ Mn.out.map.lt) (rZ.out.block _ Mn.out.lt));have T4:Hid (Below w.heap.size w (W8.alloc (.cells #[.int .u32 0,.int .u64 0,.slice none 0 0] 181))):=ae (zC.out.trans (rZ.out.mono zC.out.size));have abr:Hid ((W8.alloc (.cells #[.int .u32 0,.int .u64 0,.slice none 0 0] 181)).heap[ab]? = some (.cells #[.int .u32 (c.v:Int),.int .u64 (c.k:Int),.slice (some ⟨g,0,none⟩) c.n.length nk] 181)/\ab≠lb):=ae ⟨(rZ.out.block _ (Array.getElem?_eq_some_iff.1 Jt.out.1).1).trans Jt.out.1,Jt.out.2⟩;clear Yy rZ a0 a1 a2;go_wp2_with (at_lookup;refine bY _ rfl _ _ _ _ rfl 181 cd dr Tryz.underlying241 (HZ.out _) w.heap.size _ rfl Mn.out.map y rfl HGY.out ?_;unfold qh;rw[Fi.out];simp only[Option.map_none,Option.getD_none,Option.isSome_none]);go_roundw
        case rel=>exact⟨k+1,S',by go_num,af,PJ,T4,oy,abr,abt⟩
        case measure=>simp[intOf];omega
      ·have Gj:¬(k:Int)<(c.n.length:Int):=by omega
       have HPN:Hid (((dn++[(kv,(c,na,nk))])++rs).Perm (fQ cs)):=ae (by
        refine List.Perm.trans ?_ HP.out;rw[List.append_assoc];exact(List.Perm.append_left dn (by simpa using HPP.out.symm)))
       have HZN:Hid (∀z,z∈S' ↔ ∃q∈dn++[(kv,(c,na,nk))],∃b∈cs,b.1.v∈q.2.1.n/\FM q.2.1 b.1 z):=ae (fun z=>by
        rw[Yy.out z,HZS.out z,List.take_of_length_le af];constructor
        ·rintro(⟨q,hq,r⟩|⟨y,hy,b,hb,rfl,hm⟩)
         ·exact⟨q,List.mem_append.2 (.inl hq),r⟩
         ·exact⟨(kv,(c,na,nk)),List.mem_append.2 (.inr ai),b,hb,hy,hm⟩
        ·rintro⟨q,hq,b,hb,h1,h2⟩;rcases List.mem_append.1 hq with hq | hq
         ·exact .inl ⟨q,hq,b,hb,h1,h2⟩
         ·rw[List.mem_singleton]at hq;subst hq;exact .inr ⟨_,h1,b,hb,rfl,h2⟩)
       have Qr:Hid (W8.rangeLeft w.heap.size ib<W5.rangeLeft w.heap.size ib):=ae (by have:=Yh.out;rw[Mn.out.left];omega);clear Yy Jt;go_wp2;go_roundw
       case rel=>exact⟨_,rs,S',Mn,zC,jK,HPN,HZN⟩
       case measure=>exact Qr.out
end
end
section
open Go.RowKit Go.Maps
open Go.ChangeMaps (setBlock)
abbrev fK(w:World)(b:Nat)(S:List Nat):Prop:=bS prog 26 je (fun _:Unit=>Value.bool true) w b (S.map fun x=>(x,()))
theorem PK:(prog.info? 181).map (fun i=>(i.zero,i.size,i.bytes))=some (some (.agg #[.int .u32 0,.int .u64 0,.slice none 0 0]),3,40):=by kernel_rfl
section
variable {w:World} {ops:Array Oper} {rest:List Oper} {op:Oper} {a:Act} {Q:Exit->Act->World->Prop}
theorem tF(hgd:op.guard=none)(s x:Operand)(ho:op.op=.call { callee:=.builtin .append,args:=#[s,x],argTypes:=#[174,174] })(base:Nat)(v:Value)(l:List kM)(hs:a.eval s=v)(hown:kf w base v l)(y:kM)(c:Nat)(hx:a.eval x=.slice (some ⟨w.heap.size,0,none⟩) 1 c)(hl:l.length<=100000)(hbase:base<=w.heap.size)(k:∀v' w',kf w' base v' (l++[y])->mr v (w.alloc (.cells #[.int .u32 (y.1.v:Int),.int .u64 (y.1.k:Int),.slice y.2.1 y.1.n.length y.2.2] 181)) w' v'->wpList prog ops Q rest (a.put op.dst v') w') :
 wpList prog ops Q (op::rest) a (w.alloc (.cells #[.int .u32 (y.1.v:Int),.int .u64 (y.1.k:Int),.slice y.2.1 y.1.n.length y.2.2] 181)):=by
 refine dO hgd s x 174 ho base 181 _ 3 40 Tryz.underlying174 PK rfl ag v l.length (iN l) hs (World.ownsRow.alloc hown _) ⟨w.heap.size,0,none⟩ 1 c [.int .u32 (y.1.v:Int),.int .u64 (y.1.k:Int),Bz y] hx rfl (fun j u hj=>?_) (by simp[Value.oneCell']) (by grind [maxLen]) af (by simp;omega) (fun v' w' h1 h2=>k v' w' ?_ h2)
 ·rw[bI,Nat.zero_add];simp_all
 ·unfold kf;rw[BA,List.length_append];exact h1
end
section
variable {w0 w w' W W':World} {pb db n gb gen N ob ib vb rb:Nat} {o o' gY:au} {d d' ig:Dsk} {L:aH} {es:List aD} {vs:List cj} {lv J7:Value} {cs:List kM}
structure xN(n pb db:Nat)(w:World)(o:au)(d:Dsk)(L:aH)(lv:Value)(cs:List kM)(W:World)(o':au)(d':Dsk):Prop where
 mv:Moved (fun _=>False) n pb db w o d W o' d' L
 row:kf W w.heap.size lv cs
 own:∀b,lv.ownBlock=some b->o' b=none
 lu:∀p∈cs,bF W w.heap.size (Bz p) p.1.n/\∀b,(Bz p).ownBlock=some b->o' b=none
theorem xN.below(h:xN n pb db w o d L lv cs W o' d')(hb:Below W.heap.size W W'):xN n pb db w o d L lv cs W' o' d':=
 ⟨h.mv.below hb,aW h.row hb,h.own,fun p hp=>⟨aW (h.lu p hp).1 hb,(h.lu p hp).2⟩⟩
theorem xN.moved(h:xN n pb db w o d L lv cs W o' d')(hm:Moved (fun _=>False) n pb db W o' d' W' gY ig L):xN n pb db w o d L lv cs W' gY ig:=
 ⟨h.mv.trans hm (fun _ _ e=>e),hm.ownsRow h.row (fun b hb=>⟨h.own b hb,fun e=>e⟩),fun b hb=>hm.free (aL h.row b hb).1 (h.own b hb),
  fun p hp=>⟨hm.ownsRow (h.lu p hp).1 (fun b hb=>⟨(h.lu p hp).2 b hb,fun e=>e⟩),fun b hb=>hm.free (aL (h.lu p hp).1 b hb).1 ((h.lu p hp).2 b hb)⟩⟩
theorem xN.LF(h:xN n pb db w o d L lv cs W o' d'){y:kM}{ob:Obj}(hr:kf W' w.heap.size J7 (cs++[y]))(ha:mr lv (W.alloc ob) W' J7)(hy:bF W w.heap.size (Bz y) y.1.n)(hyo:∀b,(Bz y).ownBlock=some b->o' b=none):xN n pb db w o d L J7 (cs++[y]) W' o' d':=by
 obtain⟨hm,hf,hh,hz⟩:=ha.moved h.mv (fun x hx=>⟨h.own x hx,(aL h.row x hx).2⟩);have hk:∀p:kM,bF W w.heap.size (Bz p) p.1.n->bF W' w.heap.size (Bz p) p.1.n:=fun p hp=>
  bH hp (fun b hb=>hh b (aL hp b hb).1 (fun e=>kx hp h.row ag b hb e))
 refine⟨hm,hr,fun b hb=>(hf b hb).1,fun p hp=>?_⟩;grind [lu]
theorem FQ{vs:List cj}{k:Nat}:∀c∈(vs.zipIdx k).filterMap (fun p=>if p.1.r=4294967295 then some (oW es p.2 p.1) else none),k<=c.v/\c.v<k+vs.length:=by
 grind [oW]
theorem Mp(vs:List cj):∀k,(((vs.zipIdx k).filterMap (fun p=>if p.1.r=4294967295 then some (oW es p.2 p.1) else none)).map (·.v)).Pairwise (· < ·):=by
 induction vs with
 |nil=>simp
 |cons x vs ih=>
   intro k;rw[List.zipIdx_cons,List.filterMap_cons];split
   ·grind
   ·rename_i c hc
    rw[List.map_cons,List.pairwise_cons];refine⟨fun y hy=>?_,ih (k+1)⟩;obtain⟨z,hz,rfl⟩:=List.mem_map.1 hy;have h1:=(FQ z hz).1;simp only at hc;split at hc
    ·cases hc;assumption
    grind
theorem NF{v:Nat}(h:∀x∈es,x.t.toNat<N/\x.h.toNat<N):∀y∈cV es v,y<N:=by
 have Gp:∀(l acc:List Nat)(y:Nat),y∈l.foldl iH acc->y∈acc\/y∈l:=by
  intro l;induction l with
  |nil=>simp
  |cons x l ih=>
    grind [PB]
 intro y hy;rw[Bu]at hy;rcases Gp _ _ y hy with h1 | h1
 ·rcases Gp _ _ y h1 with h2 | h2
  ·cases h2
  ·obtain⟨x,hx,rfl⟩:=List.mem_map.1 h2;grind [Bo]
 ·obtain⟨x,hx,rfl⟩:=List.mem_map.1 h1;grind [Nz]
noncomputable def kB(es:List aD)(vs:List cj)(j:Nat):List zy:=eu es (vs.take j)
theorem Ju(es:List aD)(vs:List cj){j:Nat}(h:vs.length<=j):kB es vs j=eu es vs:=by grind [kB,List.take_of_length_le]
theorem vr(es:List aD)(vs:List cj){j:Nat}{x:cj}(h:vs[j]? = some x):kB es vs (j+1)=kB es vs j++if x.r=4294967295 then [oW es j x] else []:=by
 grind [kB,eu,List.take_succ_eq_append_getElem]
theorem Mq(es:List aD)(vs:List cj)(j:Nat):(kB es vs j).length<=(eu es vs).length:=by
 grind [kB,eu,List.take_append_drop]
theorem xN.pick(h:xN n pb db w o d L lv cs W o' d')(he:cs.map (·.1)=eu es vs)(hn:∀x∈es,x.t.toNat<vs.length/\x.h.toNat<vs.length)(hv:vs.length<=1000)(hl:(eu es vs).length<=24):xM W w.heap.size lv cs:=by
 have mI:∀p∈cs,p.1∈eu es vs:=fun p hp=>by grind
 refine⟨h.row,fun p hp=>⟨aU (h.lu p hp).1 (Nat.zero_le _),fun y hy=>?_⟩,fun p hp=>?_,?_,?_⟩
 ·obtain⟨⟨x,i⟩,-,hq⟩:=List.mem_filterMap.1 (mI p hp);split at hq
  ·have hq:=Option.some.inj hq;rw[<- hq]at hy;have:=NF hn y hy;omega
  grind
 ·have:=(FQ _ (mI p hp)).2;omega
 ·have:=Mp (es:=es) vs 0;rw[show cs.map (·.1.v)=(cs.map (·.1)).map (·.v) by simp,he];exact this
 grind
end
end
section
open Go.RowKit Go.Maps
theorem eB{b:Bool}{l:List aD}{e:aD}:e∈aC b l↔e∈l/\e.t≠e.h/\∀x∈l,same x e->rk e<=rk x:=by
 have h:=bL b l;refine⟨h.mem e,fun⟨h1,h2,h3⟩=>?_⟩;obtain⟨y,hy,hs⟩:=h.all e h1 h2;obtain⟨g1,-,g3⟩:=h.mem y hy;have h6:=Rc (Nat.le_antisymm (g3 e h1 hs.symm) (h3 y g1 hs));rw[<- aD.ext' hs.1 hs.2 h6.1 h6.2];exact hy
theorem rP(b b':Bool)(l:List aD):aC b (aC b' l)=aC b l:=((bL b' l).trans (bL b _)).unique (bL b l)
theorem T5(l:List Nat):∀(acc:List Nat)(y:Nat),y∈l.foldl (fun a x=>if x∈a then a else a++[x]) acc↔y∈acc\/y∈l:=by
 induction l with
 |nil=>simp
 |cons x l ih=>
   grind
theorem lD{es:List aD}{v:Nat}{x:aD}:x∈aX es v↔x∈aC false es/\x.t.toNat=v:=by
 grind [aX,II,gj]
theorem tG{es:List aD}{v:Nat}{x:aD}:x∈fJ es v↔x∈aC false es/\x.h.toNat=v:=by
 grind [fJ,II,gj,eB]
theorem rp{es:List aD}{v w:Nat}:w∈cV es v ↔ ∃x∈aC false es,x.t.toNat=v/\x.h.toNat=w\/x.h.toNat=v/\x.t.toNat=w:=by
 grind [cV,Tx,T5,lD,tG]
theorem Ed{es:List aD}{v:Nat}:v ∉ cV es v:=fun h=>by
 grind [rp,eB,UInt32.toNat_inj]
theorem Jv:∀cs:List zy,cs≠[]->∃a∈cs,∀b∈cs,¬gM b a:=by
 intro cs;induction cs with
 |nil=>simp
 |cons x cs ih=>
   intro _;by_cases e:cs=[]
   ·subst e;exact⟨x,ai,fun b hb=>by grind [gM]⟩
   grind [gM]
theorem BB{cs:List zy}{v:Nat}:v∈lf cs↔(∃c∈cs,c.v=v)/\¬Bk cs v:=by
 grind [lf]
theorem Xg{cs:List zy}(hn:∀a∈cs,∀b∈cs,a.v=b.v->a=b)(h:cs≠[]):lf cs≠[]:=by
 obtain⟨a,ha,hl⟩:=Jv cs h;have:a.v∈lf cs:=by
  rw[BB];refine⟨⟨a,ha,rfl⟩,?_⟩;rintro⟨x,hx,y,hy,-,hne,⟨h1,h2⟩|⟨h1,h2⟩⟩
  ·grind
  grind [gM]
 grind
theorem Mr{cs:List zy}{a b:zy}(ha:a∈cs)(hb:b∈cs)(h1:a.v∈lf cs)(h2:b.v∈lf cs)(hne:a.v≠b.v):b.v ∉ a.n:=fun hn=>by
 rw[BB]at h1 h2;by_cases h:gM a b
 ·exact h2.2 ⟨a,ha,b,hb,hn,hne,.inl ⟨h,rfl⟩⟩
 ·exact h1.2 ⟨a,ha,b,hb,hn,hne,.inr ⟨h,rfl⟩⟩
theorem vu{es:List aD}{vs:List cj}{c:zy}:c∈eu es vs ↔ ∃(i:Nat)(x:cj),vs[i]? = some x/\x.r=4294967295/\c=oW es i x:=by
 unfold eu;rw[List.mem_filterMap];constructor
 ·grind
 ·rintro⟨i,x,hx,hr,rfl⟩;exact⟨(x,i),by grind,by grind⟩
theorem T6{es:List aD}{vs:List cj}:∀a∈eu es vs,∀b∈eu es vs,a.v=b.v->a=b:=by
 intro a ha b hb e;obtain⟨i,x,h1,-,rfl⟩:=vu.1 ha;obtain⟨j,y,h2,-,rfl⟩:=vu.1 hb;have e:i=j:=e;grind
theorem gR{es:List aD}{vs:List cj}{v:Nat}(h:v∈az es vs):∃x,vs[v]? = some x/\x.r=4294967295/\oW es v x∈eu es vs:=by
 obtain⟨⟨c,hc,rfl⟩,-⟩:=BB.1 h;obtain⟨i,x,h1,h2,rfl⟩:=vu.1 hc;exact⟨x,h1,h2,hc⟩
theorem lM{es:List aD}{vs:List cj}{v:Nat}(h:v∈az es vs):v<vs.length:=by
 grind [gR]
theorem lF{es:List aD}{vs:List cj}{v w:Nat}(hv:v∈az es vs)(hw:w∈az es vs):w ∉ cV es v:=by
 by_cases e:v=w
 ·grind [Ed]
 ·obtain⟨x,-,-,hx⟩:=gR hv;obtain⟨y,-,-,hy⟩:=gR hw;exact Mr hx hy hv hw e
theorem jd(es:List aD)(vs:List cj):(az es vs).Pairwise (· < ·):=by
 have key:∀(vs:List cj)(k:Nat),(((vs.zipIdx k).filterMap fun p=>if p.1.r=4294967295 then some (oW es p.2 p.1) else none).map (·.v)).Pairwise (· < ·)/\∀v∈((vs.zipIdx k).filterMap fun p=>if p.1.r=4294967295 then some (oW es p.2 p.1) else none).map (·.v),k<=v:=by
  intro vs;induction vs with
  |nil=>simp
  |cons x vs ih=>
    intro k;obtain⟨h1,h2⟩:=ih (k+1);rw[List.zipIdx_cons,List.filterMap_cons];by_cases hx:x.r=4294967295
    ·simp only[hx,if_true,List.map_cons,List.pairwise_cons,List.mem_cons];refine⟨⟨fun y hy=>?_,h1⟩,?_⟩
     ·have:=h2 y hy;assumption
     ·rintro y (rfl | hy)
      ·simp
      grind
    grind
 grind [az,lf,eu]
theorem PL{es:List aD}{vs:List cj}{i:Nat}{x:cj}(h:vs[i]? = some x)(hx:x.r=4294967295):az es vs≠[]:=
 Xg T6 (fun e=>by
  have:=(vu (es:=es)).2 ⟨i,x,h,hx,rfl⟩;grind)
theorem Ms{es:List aD}{vs:List cj}(h:∀(i:Nat)(x:cj),vs[i]? = some x->x.r≠4294967295):az es vs=[]:=by
 cases e:az es vs with
 |nil=>rfl
 |cons v l=>
   obtain⟨x,h1,h2,-⟩:=gR (es:=es) (vs:=vs) (v:=v) (by grind);grind
theorem FR(lv:UInt32)(vs:List cj)(w:Nat):(kL lv vs w).length=vs.length:=by grind [kL]
theorem Ee(lv:UInt32)(vs:List cj)(w u:Nat):(kL lv vs w)[u]? = if w=u then (vs[u]?).map (fun x=>⟨x.r,if x.l<lv then lv else x.l,x.g+1⟩) else vs[u]? := by
 grind [kL]
theorem FT(lv:UInt32)(l:List Nat):∀vs:List cj,(l.foldl (kL lv) vs).length=vs.length:=by
 induction l with
 |nil=>simp
 |cons w l ih=>grind [FR]
theorem Xh(lv:UInt32)(l:List Nat)(u:Nat):∀vs:List cj,((l.foldl (kL lv) vs)[u]?).map (·.r)=(vs[u]?).map (·.r):=by
 induction l with
 |nil=>simp
 |cons w l ih=>
   grind [Ee]
theorem yL(lv:UInt32)(l:List Nat)(u:Nat)(h:u ∉ l):∀vs:List cj,(l.foldl (kL lv) vs)[u]? = vs[u]? := by
 induction l with
 |nil=>simp
 |cons w l ih=>
   grind [Ee]
section
variable {es:List aD} {was vs:List cj} {done gen i v u:Nat}
theorem Jw:(gw es was done gen vs i v).length=vs.length:=by grind [gw,FT]
theorem abu(h:u≠v):((gw es was done gen vs i v)[u]?).map (·.r)=(vs[u]?).map (·.r):=by
 grind [gw,Xh]
theorem BD(h:u≠v)(hn:u ∉ cV es v):(gw es was done gen vs i v)[u]? = vs[u]? := by
 grind [gw,yL]
theorem T7:(gw es was done gen vs i v)[v]? = (vs[v]?).map fun x=>⟨UInt32.ofNat (done+i),UInt32.ofNat (gen+1),x.g⟩:=by
 grind [gw,yL,Ed]
theorem FU(ch:List Nat):∀(k:Nat)(vs:List cj),((ch.zipIdx k).foldl (fun vs p=>gw es was done gen vs p.2 p.1) vs).length=vs.length:=by
 induction ch with
 |nil=>simp
 |cons v ch ih=>grind [List.zipIdx_cons,Jw]
theorem Xi{ch:List Nat}(h:u ∉ ch):∀(k:Nat)(vs:List cj),(((ch.zipIdx k).foldl (fun vs p=>gw es was done gen vs p.2 p.1) vs)[u]?).map (·.r)=(vs[u]?).map (·.r):=by
 induction ch with
 |nil=>simp
 |cons v ch ih=>grind [List.zipIdx_cons,abu]
theorem yM{ch:List Nat}(h:u ∉ ch)(hn:∀v∈ch,u ∉ cV es v):∀(k:Nat)(vs:List cj),((ch.zipIdx k).foldl (fun vs p=>gw es was done gen vs p.2 p.1) vs)[u]? = vs[u]? := by
 induction ch with
 |nil=>simp
 |cons v ch ih=>grind [List.zipIdx_cons,BD]
theorem PN{ch:List Nat}(hr:ch.Pairwise (· < ·))(hn:∀v∈ch,u ∉ cV es v):∀(k:Nat)(vs:List cj),ch[i]? = some u->((ch.zipIdx k).foldl (fun vs p=>gw es was done gen vs p.2 p.1) vs)[u]? = (vs[u]?).map fun x=>⟨UInt32.ofNat (done+(k+i)),UInt32.ofNat (gen+1),x.g⟩:=by
 induction ch generalizing i with
 |nil=>simp
 |cons v ch ih=>
   intro k vs h;rw[List.pairwise_cons]at hr;rw[List.zipIdx_cons,List.foldl_cons];cases i with
   |zero=>
     cases h;rw[yM (fun e=>by grind) (fun x hx=>hn x (by grind)),T7];rfl
   |succ i=>
     rw[List.getElem?_cons_succ]at h;rw[ih hr.2 (fun x hx=>hn x (by grind)) (k+1) _ h,BD (fun e=>by have:=hr.1 _ (List.mem_of_getElem? h);omega) (hn v ai),show k+1+i=k+(i+1) by omega]
end
section
variable {es:List aD} {was:List cj} {done gen i u:Nat}
theorem vw(ch:List Nat):(cS es was done gen ch).length=was.length:=FU ch 0 was
theorem vy{ch:List Nat}(h:u ∉ ch):((cS es was done gen ch)[u]?).map (·.r)=(was[u]?).map (·.r):=Xi h 0 was
theorem Jx{ch:List Nat}(h:u ∉ ch)(hn:∀v∈ch,u ∉ cV es v):(cS es was done gen ch)[u]? = was[u]? := yM h hn 0 was
theorem xO(h:(az es was)[i]? = some u):(cS es was done gen (az es was))[u]? = (was[u]?).map fun x=>⟨UInt32.ofNat (done+i),UInt32.ofNat (gen+1),x.g⟩:=by
 have:=PN (es:=es) (was:=was) (done:=done) (gen:=gen) (i:=i) (u:=u) (jd es was) (fun v hv=>lF hv (List.mem_of_getElem? h)) 0 was h;rw[Nat.zero_add]at this;exact this
end
def jG(vs:List cj)(i:Nat):Bool:=match vs[i]? with
 |some x=>x.r != 4294967295
 |none=>false
structure kN(N:Nat)(es:List aD)(vs:List cj)(done:Nat):Prop where
 len:vs.length=N
 top:N<=1000
 ends:∀x∈es,∃a b,vs[x.t.toNat]? = some a/\vs[x.h.toNat]? = some b/\a.r=4294967295/\b.r=4294967295
 low:∀(i:Nat)(x:cj),vs[i]? = some x->x.r≠4294967295->x.r.toNat<done
 one:∀(i j:Nat)(x y:cj),vs[i]? = some x->vs[j]? = some y->x.r≠4294967295->x.r=y.r->i=j
 count:((List.range N).filter (jG vs)).length=done
theorem yN{l:List Nat}{p q r:Nat->Bool}(hr:∀x∈l,r x=(p x || q x))(hd:∀x∈l,p x=true->q x=true->False):(l.filter r).length=(l.filter p).length+(l.filter q).length:=by
 induction l with
 |nil=>rfl
 |cons a l ih=>
   grind
theorem Mt{ch:List Nat}{N:Nat}(hr:ch.Pairwise (· < ·))(hl:∀v∈ch,v<N):(List.range N).filter (fun v=>decide (v∈ch))=ch:=
 GV (f:=id) (List.pairwise_lt_range.filter _) hr (fun x=>by grind)
section
variable {N done gen:Nat} {es:List aD} {vs:List cj}
theorem kN.pX(h:kN N es vs done):done<=N:=by
 have:=List.length_filter_le (jG vs) (List.range N);grind [count]
theorem vz{es:List aD}{ch:List Nat}{x:aD}:x∈gO es ch↔x∈aC false es/\x.t.toNat ∉ ch/\x.h.toNat ∉ ch:=by
 grind [gO]
theorem NG{E:Nat->List aD}{A:Nat->Bool}{ins:List aD}{v:UInt32}{y:aD}(h:y∈nA E A ins v):∃a∈ins,∃b∈E v.toNat,y=⟨a.t,b.h,UInt64.ofNat (a.x.toNat+b.x.toNat),v⟩/\a.t≠b.h/\A a.t.toNat=false/\A b.h.toNat=false/\a.x.toNat+b.x.toNat<9223372036854775808/\∀x∈E a.t.toNat,x.h.toNat=b.h.toNat->a.x.toNat+b.x.toNat<x.x.toNat:=by
 grind [nA,iT]
theorem Jy{ch:List Nat}{x:aD}(h:x∈ew es ch):x.t.toNat ∉ ch/\x.h.toNat ∉ ch/\(∃y∈aC false es,y.t=x.t)/\∃y∈aC false es,y.h=x.h:=by
 grind [ew,vz,iu,NG,tG,lD]
theorem kg{i:Nat}:jG vs i=true ↔ ∃x,vs[i]? = some x/\x.r≠4294967295:=by
 grind [jG]
theorem kN.next(h:kN N es vs done)(hd:done+(az es vs).length<=1000):kN N (aC false (ew es (az es vs))) (cS es vs done gen (az es vs)) (done+(az es vs).length):=by
 have hr:∀u,u ∉ az es vs->∀y,(cS es vs done gen (az es vs))[u]? = some y->∃x,vs[u]? = some x/\x.r=y.r:=fun u hu y hy=>by
  grind [vy]
 have ho:∀u,u∈az es vs->∀y,(cS es vs done gen (az es vs))[u]? = some y->∃i,(az es vs)[i]? = some u/\y.r=UInt32.ofNat (done+i)/\i<(az es vs).length:=fun u hu y hy=>by
  obtain⟨i,hi,e⟩:=List.getElem_of_mem hu;have hi':(az es vs)[i]? = some u:=by grind
  grind [xO]
 have Va:∀i,i<(az es vs).length->(UInt32.ofNat (done+i)).toNat=done+i:=fun i hi=>by grind [UInt32.toNat_ofNat']
 refine⟨by rw[vw,h.len],h.top,fun x hx=>?_,fun i y hy hn=>?_,fun i j x y hi hj hn e=>?_,?_⟩
 ·obtain⟨h1,h2,⟨y,hy,ey⟩,⟨z,hz,ez⟩⟩:=Jy (eB.1 hx).1;grind [ends,eB,vy]
 ·by_cases hc:i∈az es vs
  ·grind
  ·obtain⟨x,hx,e⟩:=hr i hc y hy;have:=h.low i x hx (by grind);grind
 ·by_cases hc:i∈az es vs<;>by_cases hc':j∈az es vs
  ·grind
  ·obtain⟨k,hk,e1,Ce⟩:=ho i hc x hi;obtain⟨z,hz,e2⟩:=hr j hc' y hj;have:=h.low j z hz (by grind);grind
  ·obtain⟨k,hk,e1,Ce⟩:=ho j hc' y hj;obtain⟨z,hz,e2⟩:=hr i hc x hi;have:=h.low i z hz (by grind);grind
  grind [one]
 ·have key:=yN (l:=List.range N) (p:=jG vs) (q:=fun v=>decide (v∈az es vs)) (r:=jG (cS es vs done gen (az es vs))) (fun i hi=>?_) (fun i hi h1 h2=>?_)
  ·rw[key,h.count,Mt (jd es vs) (fun v hv=>by rw[<- h.len];exact lM hv)]
  ·by_cases hc:i∈az es vs
   ·obtain⟨k,hk,e⟩:=List.getElem_of_mem hc;have Ce:(az es vs)[k]? = some i:=by grind
    have:=xO (done:=done) (gen:=gen) Ce;obtain⟨x,hx,-⟩:=gR hc;rw[hx]at this;have h2:jG (cS es vs done gen (az es vs)) i=true:=by
     rw[kg];refine⟨_,this,fun e=>?_⟩;have e:UInt32.ofNat (done+k)=4294967295:=e;have:=congrArg UInt32.toNat e;grind
    grind
   grind [kg,vy]
  grind [kg,gR]
theorem kN.all(h:kN N es vs done):az es vs=[]↔done=N:=by
 constructor
 ·intro e;have:(List.range N).filter (jG vs)=List.range N:=by
   rw[List.filter_eq_self];intro i hi;rw[List.mem_range]at hi;rw[kg];have hi':i<vs.length:=by grind [len]
   refine⟨vs[i],List.getElem?_eq_getElem hi',fun e2=>?_⟩;exact PL (es:=es) (List.getElem?_eq_getElem hi') e2 e
  grind [count]
 ·intro e;refine Ms fun(i:Nat)(x:cj)hx hn=>?_;have hi:=aN hx;have h1:(List.range N).filter (jG vs)=List.range N:=List.filter_sublist.eq_of_length (by grind [count]);rw[List.filter_eq_self]at h1;obtain⟨y,hy,hy'⟩:=kg.1 (h1 i (List.mem_range.2 (by grind [len])));grind
end
end
section
open Go.RowKit Go.Maps
open Go.ChangeMaps (setBlock)
section
variable {w0 w w' W W':World} {pb db n gb gen N ob ib vb rb done base:Nat} {o o' gY:au} {d d' ig:Dsk} {L:aH} {es:List aD} {vs:List cj} {lv J7 vv x4 x5:Value} {cs:List kM}
def tH(n pb db:Nat)(w:World)(o:au)(d:Dsk)(L:aH)(rb gb gen done:Nat)(vv:Value)(ch:List Nat)(e:Ending)(w':World):Prop:=
 ∃mb ov S d' o',e=.returned (.int .i64 0)/\Moved (·=rb) n pb db w o d w' o' d' L/\dx w' rb pb gb gen done (.map (some mb)) ov vv/\bF w' w.heap.size ov ch/\(∀b,ov.ownBlock=some b->o' b=none)/\fK w' mb S/\w.heap.size<=mb/\o' mb=none/\∀z,z∈S↔z∈ch
theorem jH{w:World}{base g cap i:Nat}{l:List cj}{x:cj}(h:dM w base (.slice (some ⟨g,0,none⟩) l.length cap) l)(hi:l[i]? = some x) :
 w.cell? ⟨g,i*3,none⟩=some (.int .u32 (x.r.toNat:Int))/\w.cell? ⟨g,i*3+1,none⟩=some (.int .u32 (x.l.toNat:Int))/\w.cell? ⟨g,i*3+2,none⟩=some (.int .u32 (x.g.toNat:Int)):=by
 have hc:∀(j:Nat)(u:Value),(cJ l)[j]? = some u->w.cell? ⟨g,j,none⟩=some u:=fun j u hj=>by
  have:=World.ownsRow.cells h (g:=g) rfl j u hj;grind [bI]
 refine⟨hc _ _ ?_,hc _ _ ?_,hc _ _ ?_⟩
 ·have:=iR hi (j:=0) ag;grind
 ·rw[iR hi ag];rfl
 ·rw[iR hi ag];rfl
theorem Xj(i o s:Nat)(x:cj):Tr (i:Int) (o:Int) (s:Int) (x.l.toNat:Int) (x.g.toNat:Int)=(Ty i o s x:Int):=by
 grind [Ty,Tr]
theorem zm(HW:aP)(h:fN w0 w pb db n o d L gb gen vs.length ob ib vb es)(hr:dx w rb pb gb gen done x4 x5 vv)(hro:q9 w0 w o rb gb ob ib vb)(hvv:dM w base vv vs)(mG:∀b,vv.ownBlock=some b->o b=none)(xG:∀v,v<vs.length->(fJ es v).length*(aX es v).length<=100000)(hlen:(eu es vs).length<=24) :
 Calls prog 64 #[ptrTo rb] w (tH n pb db w o d L rb gb gen done vv (az es vs)):=by
 obtain⟨va,vk,rfl⟩:=aA hvv;have H:=ae h;have HR:=ae hr;have Hu:=ae hro;have HVV:=ae hvv;have wN:=ae mG;have HD:=ae xG;have HLEN:=ae hlen;have tL:∀(t:TypeId)(W:World),(Instr.makeMap t none).run prog W=.ok (.map (some W.heap.size)) (W.alloc (.map #[] 0)):=fun _ _=>rfl;obtain⟨R,hR⟩:∃R,R=tH n pb db w o d L rb gb gen done (.slice va vs.length vk) (az es vs):=⟨_,rfl⟩;have TM:=ae hR;rw[<- hR];obtain⟨M,hM⟩:∃M,M=vs.length:=⟨_,rfl⟩;have HM:Hid (M=vs.length/\M<=1000):=ae ⟨hM,by rw[hM];exact h.top⟩;have Fc:Hid (xN n pb db w o d L (.slice none 0 0) [] w o d):=ae ⟨Moved.refl _ h.held.aY,World.ownsRow_nil _ _ _ _,(fun b e=>by cases e),fun p hp=>by cases hp⟩;obtain⟨c0,c1,c2,c3,c4,c5,c6,f6⟩:=hr.cells;have JR:=hr.lt;rw[<- hM]at c6;clear h hr hro hvv mG xG hlen hR hM c0 c2 c3 c4 c5;unfold ptrTo at *;go_enter func64,ntmps64;go_wp2_with fail;clear c1 c6 f6;go_loopw [3,18] (fun lv vi wr=>∃(j:Nat)(cs:List kM)(o':au)(d':Dsk),vi=.int .i64 (j:Int)/\j<=M/\Hid (cs.map (·.1)=kB es vs j)/\Hid (xN n pb db w o d L lv cs wr o' d')) (fun _ vi _=>M-(intOf vi).toNat)
 case atStart=>exact⟨0,[],o,d,rfl,Nat.zero_le _,ae rfl,Fc⟩
 case round=>
  generalize u3=lv at *;obtain⟨j,cs,o1,d1,rfl,hj,HCS,HS⟩:=hrel;clear Fc;generalize wr=W1 at *;by_cases hlt:j<M
  ·have JX:(j:Int)<(M:Int):=by omega
   have wj:IntKind.i64.wrap ((j:Int)+1)=((j+1:Nat):Int):=by grind [Hid.out,aw]
   have wu:IntKind.u32.wrap (j:Int)=(j:Int):=by grind [Hid.out,eo]
   obtain⟨x,hx⟩:∃x,vs[j]? = some x:=⟨_,List.getElem?_eq_getElem (by grind [Hid.out])⟩;have HX:=ae hx;obtain⟨g,rfl⟩:∃g,va=some ⟨g,0,none⟩:=by
    obtain⟨-,⟨h1,h2⟩|⟨g,_,_,h1,_⟩⟩:=HVV.out
    ·grind
    grind
   have hrow:dM W1 base (.slice (some ⟨g,0,none⟩) vs.length vk) vs:=HS.out.mv.ownsRow HVV.out (fun b hb=>⟨wN.out b hb,fun e=>e⟩);obtain⟨q0,q1,q2⟩:=jH hrow hx;clear hrow hx;have eP:=ae (HS.out.below (ak.alloc (Nat.le_refl _) (.cells #[.int .u32 (x.r.toNat:Int),.int .u32 (x.l.toNat:Int),.int .u32 (x.g.toNat:Int)] 55)));by_cases hrk:(x.r.toNat:Int)=4294967295
   ·have hkb:((x.r.toNat:Int) == 4294967295)=true:=by grind
    have HK:=ae (show x.r=4294967295 from UInt32.toNat_inj.1 (by grind));clear hrk;obtain⟨V,hV⟩:∃V,V=UInt32.ofNat j:=⟨_,rfl⟩;have hVj:V.toNat=j:=by grind [UInt32.toNat_ofNat',Hid.out]
    have HV:=ae (show V=UInt32.ofNat j/\V.toNat=j from⟨hV,hVj⟩);have CM:Hid (dx (W1.alloc (.cells #[.int .u32 (x.r.toNat:Int),.int .u32 (x.l.toNat:Int),.int .u32 (x.g.toNat:Int)] 55)) rb pb gb gen done x4 x5 (.slice (some ⟨g,0,none⟩) vs.length vk)):=ae (HR.out.moved Hu.out.free eP.out.mv);have cY:Hid ((W1.alloc (.cells #[.int .u32 (x.r.toNat:Int),.int .u32 (x.l.toNat:Int),.int .u32 (x.g.toNat:Int)] 55)).heap[W1.heap.size]? = some (.cells #[.int .u32 (x.r.toNat:Int),.int .u32 (x.l.toNat:Int),.int .u32 (x.g.toNat:Int)] 55)/\o1 W1.heap.size=none):=ae ⟨heap_alloc_new _ _,HS.out.mv.aY.fresh (Nat.le_refl _)⟩;have X3:Hid (o1 rb=none):=ae (HS.out.mv.free Hu.out.lt Hu.out.free);clear hV HS;go_wp2_with fail;obtain⟨xb,Gl⟩:∃b,b=W1.heap.size:=⟨_,rfl⟩;rw[<- Gl]at cY;rw[<- Gl];generalize W1.alloc (.cells #[.int .u32 (x.r.toNat:Int),.int .u32 (x.l.toNat:Int),.int .u32 (x.g.toNat:Int)] 55)=W2 at *;clear Gl q0 q1 q2;have HC:Hid (∀W',(∃o' d',Moved (fun _=>False) n pb db W2 o1 d1 W' o' d' L)->Calls prog 97 #[ve gb,FH gb,.int .u32 (j:Int)] W' fun e w''=>e=.returned (.tuple #[.int .i64 ((fJ es j).length:Int),.int .i64 ((aX es j).length:Int),.int .i64 ((nA (aX es) (fun _=>false) (fJ es j) V).length:Int),.int .i64 0])/\∃o' d',Moved (fun _=>False) n pb db W2 o1 d1 w'' o' d' L):=ae (by
     rintro W'⟨o',d',hm⟩;have:=Jl HW ((H.out.moved eP.out.mv).moved hm) V (by rw[HV.out.2];have:=HM.out;omega) (by rw[HV.out.2];exact HD.out j (by have:=HM.out;omega));rw[HV.out.2]at this;refine this.mono ?_;rintro e w''⟨ig,gY,rfl,YF⟩;exact⟨rfl,gY,ig,hm.trans YF (fun _ _ e=>e)⟩)
    have HCE:Hid (∀W',(∃o' d',Moved (fun _=>False) n pb db W2 o1 d1 W' o' d' L)->W'.cell? ⟨rb,1,none⟩=some (ptrTo gb)):=ae (by
     rintro W'⟨o',d',hm⟩;exact(CM.out.moved X3.out hm).cells.2.1)
    unfold ve FH ptrTo at *;refine cP (fun W'=>∃o' d',Moved (fun _=>False) n pb db W2 o1 d1 W' o' d' L) (by rfl) ah ⟨o1,d1,(Moved.refl _ eP.out.mv.aY).drew⟩ ?_;iterate 3 (refine qz ?_)
    refine qz ?_ (fun w' hw'=>by have hc:=HCE.out _ hw';go_simp<;>rfl);iterate 4 (refine qz ?_)
    refine qz ?_ (fun w' hw'=>by have hc:=HCE.out _ hw';go_simp<;>rfl);iterate 2 (refine qz ?_)
    refine qz ?_ (fun w' hw'=>by have hx:=wu;go_simp<;>rfl);refine qw (fun w' hw'=>HC.out _ hw') ?_;iterate 9 (refine qz ?_)
    refine wpQuiet_nil ?_;rintro W3⟨o3,d3,eE⟩;have fF:=ae (eP.out.moved eE);have BS:Hid (dx W3 rb pb gb gen done x4 x5 (.slice (some ⟨g,0,none⟩) vs.length vk)/\o3 rb=none):=ae ⟨CM.out.moved X3.out eE,eE.free CM.out.lt X3.out⟩;have jJ:Hid (W3.heap[xb]? = some (.cells #[.int .u32 (x.r.toNat:Int),.int .u32 (x.l.toNat:Int),.int .u32 (x.g.toNat:Int)] 55)/\o3 xb=none):=ae ⟨eE.heap cY.out.1 cY.out.2 (fun e=>e),eE.free (Array.getElem?_eq_some_iff.1 cY.out.1).1 cY.out.2⟩;have YS:=ae (Jm HW ((H.out.moved eP.out.mv).moved eE) j (by have:=HM.out;omega) BS.out.1 rfl BS.out.2);clear HC HCE eP CM cY X3 eE;have YT:Hid (oW es j x=⟨j,Ty (fJ es j).length (aX es j).length (nA (aX es) (fun _=>false) (fJ es j) V).length x,cV es j⟩):=ae (by unfold oW;rw[<- HV.out.1]);generalize (fJ es j).length=n1 at *;generalize (aX es j).length=n2 at *;generalize (nA (aX es) (fun _=>false) (fJ es j) V).length=n3 at *;unfold ptrTo at *;go_wp2_with fail;refine YS.out.mono ?_;rintro e w4⟨nv,d4,o4,rfl,eX,hr4,Em⟩;obtain⟨na,nk,rfl⟩:=aA hr4;have gD:=ae (fF.out.moved eX);have Xc:Hid (bF w4 w.heap.size (.slice na (cV es j).length nk) (cV es j)/\∀b,(Value.slice na (cV es j).length nk).ownBlock=some b->o4 b=none):=ae ⟨aU hr4 fF.out.mv.size,Em⟩;have hb4:=eX.heap jJ.out.1 jJ.out.2 (fun e=>e);have k0:w4.cell? ⟨xb,0,none⟩=some (.int .u32 (x.r.toNat:Int)):=by rw[ar hb4];rfl
    have k1:w4.cell? ⟨xb,1,none⟩=some (.int .u32 (x.l.toNat:Int)):=by rw[ar hb4];rfl
    have k2:w4.cell? ⟨xb,2,none⟩=some (.int .u32 (x.g.toNat:Int)):=by rw[ar hb4];rfl
    have hkey:=ae (fun W=>I4 (n1:Int) (n2:Int) (n3:Int) (x.r.toNat:Int) (x.l.toNat:Int) (x.g.toNat:Int) W af (by have:=x.l.toNat_lt;omega) af (by have:=x.g.toNat_lt;omega));rw[Xj]at hkey;clear YS eX hr4 Em hb4 fF BS jJ;generalize Ty n1 n2 n3 x=K at *;have ars:Hid ((cs++[((⟨j,K,cV es j⟩:zy),(na,nk))]).map (·.1)=kB es vs (j+1)):=ae (by
     rw[vr es vs HX.out,if_pos HK.out,YT.out,List.map_append,HCS.out];rfl)
    have M6:Hid (cs.length<=100000):=ae (by
     have h1:=Mq es vs j;rw[<- HCS.out,List.length_map]at h1;have:=HLEN.out;omega)
    go_wp2_with fail;refine(hkey.out _).mono ?_;rintro e w5⟨rfl,pj⟩;have b7:=ae (gD.out.below pj);have Pp:Hid (bF w5 w.heap.size (.slice na (cV es j).length nk) (cV es j)/\∀b,(Value.slice na (cV es j).length nk).ownBlock=some b->o4 b=none):=ae ⟨aW Xc.out.1 pj,Xc.out.2⟩;obtain⟨la,lk,rfl⟩:=aA b7.out.row;clear pj gD Xc YT HCS k0 k1 k2 hkey;go_wp2_with (at_builtin;go_loud (refine tF rfl _ _ rfl w.heap.size _ cs rfl b7.out.row ((⟨j,K,cV es j⟩:zy),(na,nk)) 1 (by rfl) M6.out b7.out.mv.size ?_);intro v6 w6 h6 ha;have gH:=ae (b7.out.LF h6 ha Pp.out.1 Pp.out.2);clear h6 ha);grind [intOf]
   ·have alj:Hid (cs.map (·.1)=kB es vs (j+1)):=ae (by
     rw[vr es vs HX.out,if_neg (fun e=>hrk (by simp_all)),List.append_nil];assumption)
    clear HS HCS HX;go_wp2_with fail;go_roundw
    case rel=>exact⟨j+1,cs,o1,d1,by go_num,af,alj,eP⟩
    case measure=>simp[intOf];omega
  ·have JX:¬(j:Int)<(M:Int):=by omega
   have HCF:Hid (cs.map (·.1)=eu es vs):=ae (by grind [Hid.out,Ju]);have NH:=ae (T3 (HS.out.pick HCF.out H.out.ends (by grind [Hid.out]) HLEN.out));rw[HCF.out]at NH;obtain⟨CH,hCH⟩:∃l,l=az es vs:=⟨_,rfl⟩;rw[show lf (eu es vs)=CH from hCH.symm]at NH;obtain⟨KN,JZ⟩:∃k,k=CH.length:=⟨_,rfl⟩;have HKN:Hid (KN=CH.length/\KN<=24/\∀y∈CH,y<4294967296):=ae (by
    refine⟨JZ,?_,fun y hy=>?_⟩
    ·grind [az,lf,Hid.out]
    ·rw[hCH]at hy;unfold az lf at hy;obtain⟨c,hc,rfl⟩:=List.mem_map.1 (List.mem_filter.1 hy).1;have:=(FQ _ hc).2;grind [Hid.out])
   have YU:=ae hCH;have RJ:Hid (o1 rb=none):=ae (HS.out.mv.free Hu.out.lt Hu.out.free);have nN:Hid (dx W1 rb pb gb gen done x4 x5 (.slice va vs.length vk)/\o1 rb=none):=ae ⟨HR.out.moved Hu.out.free HS.out.mv,HS.out.mv.free Hu.out.lt Hu.out.free⟩;have Qo:=ae HS.out.mv;obtain⟨la,lk,rfl⟩:=aA HS.out.row;clear HCS HCF HS hCH;go_wp2_with fail;refine NH.out.mono ?_;rintro e w2⟨ov,rfl,hb2,hr2⟩;have CM:=ae (nN.out.1.below hb2);have Xk:=ae (Qo.out.below hb2);obtain⟨oa,ok,rfl⟩:=aA hr2;rw[<- JZ];have qo:Hid (bF w2 w.heap.size (.slice oa KN ok) CH/\∀b,(Value.slice oa KN ok).ownBlock=some b->o1 b=none/\b<w2.heap.size/\w.heap.size<=b):=ae (by
    rw[JZ];exact⟨aU hr2 Qo.out.size,fun b hb=>⟨Qo.out.aY.fresh (aL hr2 b hb).2,(aL hr2 b hb).1,Nat.le_trans Qo.out.size (aL hr2 b hb).2⟩⟩)
   obtain⟨c0,c1,c2,c3,c4,c5,c6,f6⟩:=CM.out.cells;have f5:=f6 5;have f4:=f6 4;have alk:=CM.out.lt;clear JZ hb2 hr2 nN Qo NH c0 c1 c2 c3 c6 f6;have fR:o1 rb=none:=RJ.out;have O6:Hid (dx (((w2.setCell ⟨rb,5,none⟩ (.slice oa KN ok)).setCell ⟨rb,4,none⟩ (.map (some w2.heap.size))).alloc (.map #[] 0)) rb pb gb gen done (.map (some w2.heap.size)) (.slice oa KN ok) (.slice va vs.length vk)/\Moved (·=rb) n pb db w o d (((w2.setCell ⟨rb,5,none⟩ (.slice oa KN ok)).setCell ⟨rb,4,none⟩ (.map (some w2.heap.size))).alloc (.map #[] 0)) o1 d1 L/\bF (((w2.setCell ⟨rb,5,none⟩ (.slice oa KN ok)).setCell ⟨rb,4,none⟩ (.map (some w2.heap.size))).alloc (.map #[] 0)) w.heap.size (.slice oa KN ok) CH/\fK (((w2.setCell ⟨rb,5,none⟩ (.slice oa KN ok)).setCell ⟨rb,4,none⟩ (.map (some w2.heap.size))).alloc (.map #[] 0)) w2.heap.size []/\rb≠w2.heap.size/\o1 w2.heap.size=none/\w.heap.size<=w2.heap.size/\∀b,(Value.slice oa KN ok).ownBlock=some b->b≠w2.heap.size/\o1 b=none):=ae (by
    have h4:=(CM.out.ala (.slice oa KN ok)).ak9 (.map (some w2.heap.size));have hne:rb≠w2.heap.size:=by omega
    have Lh:∀b,(Value.slice oa KN ok).ownBlock=some b->b≠rb:=fun b hb e=>by have:=(qo.out.2 b hb).2.2;omega
    have hsz:((w2.setCell ⟨rb,5,none⟩ (.slice oa KN ok)).setCell ⟨rb,4,none⟩ (.map (some w2.heap.size))).heap.size=w2.heap.size:=by simp
    have pZ:=MapKept.heap_alloc ((w2.setCell ⟨rb,5,none⟩ (.slice oa KN ok)).setCell ⟨rb,4,none⟩ (.map (some w2.heap.size))) (.map #[] 0);have ej:Moved (·=rb) n pb db w o d (w2.setCell ⟨rb,5,none⟩ (.slice oa KN ok)) o1 d1 L:=(Xk.out.mono (fun _ _ e=>e.elim)).setCell ⟨rb,5,none⟩ (.slice oa KN ok) fR (.inl rfl);have cT:=(ej.setCell ⟨rb,4,none⟩ (.map (some w2.heap.size)) fR (.inl rfl)).alloc (.map #[] 0);refine⟨(pZ.2 rb af).trans h4,cT,?_,?_,hne,Xk.out.aY.fresh (Nat.le_refl _),Xk.out.size,fun b hb=>⟨by have:=(qo.out.2 b hb).2.1;omega,(qo.out.2 b hb).1⟩⟩
    ·refine bH qo.out.1 (fun b hb=>?_);rw[pZ.2 b (by rw[hsz];exact(qo.out.2 b hb).2.1),Below.heap_setCell _ _ _ _ (Lh b hb),Below.heap_setCell _ _ _ _ (Lh b hb)]
    ·have:=bS.made ((w2.setCell ⟨rb,5,none⟩ (.slice oa KN ok)).setCell ⟨rb,4,none⟩ (.map (some w2.heap.size))) prog 26 je (fun _:Unit=>Value.bool true);rw[hsz]at this;exact this)
   have UW:Hid (CH.Pairwise (· < ·)):=ae (by rw[YU.out];exact jd es vs);clear CM Xk qo RJ fR;go_wp2_with fail;generalize hmb:w2.heap.size=mb at *;generalize ((w2.setCell ⟨rb,5,none⟩ (.slice oa KN ok)).setCell ⟨rb,4,none⟩ (.map (some mb))).alloc (.map #[] 0)=W3 at *;clear hmb c4 c5 f4 f5 alk;go_loopw [84] (fun vi wr=>∃k:Nat,vi=.int .i64 (k:Int)/\k<=KN/\Hid (dx wr rb pb gb gen done (.map (some mb)) (.slice oa KN ok) (.slice va vs.length vk)/\Moved (·=rb) n pb db w o d wr o1 d1 L/\bF wr w.heap.size (.slice oa KN ok) CH/\fK wr mb (CH.take k).reverse)) (fun vi _=>KN-(intOf vi).toNat)
   case atStart=>exact⟨0,rfl,Nat.zero_le _,ae ⟨O6.out.1,O6.out.2.1,O6.out.2.2.1,O6.out.2.2.2.1⟩⟩
   case round=>
    obtain⟨k,rfl,hk,HST⟩:=hrel;generalize wr=W4 at *;by_cases hkt:k<KN
    ·have Gj:(k:Int)<(KN:Int):=by omega
     have wk:IntKind.i64.wrap ((k:Int)+1)=((k+1:Nat):Int):=by have:=HKN.out.2.1;rw[aw]<;>omega
     obtain⟨y,hy⟩:∃y,CH[k]? = some y:=⟨_,List.getElem?_eq_getElem (by have:=HKN.out.1;omega)⟩;obtain⟨g,rfl⟩:∃g,oa=some ⟨g,0,none⟩:=by
      obtain⟨-,⟨h1,h2⟩|⟨g,_,_,h1,_⟩⟩:=HST.out.2.2.1
      ·simp_all
      simp_all
     have q0:=iG (l:=CH) (by have:=HST.out.2.2.1;rwa [HKN.out.1]at this) hy;obtain⟨-,-,-,-,c4,-⟩:=HST.out.1.cells;have HG:=ae (fU (HKN.out.2.2 y (List.mem_of_getElem? hy)));have nO:Hid (aS ((CH.take k).reverse.map fun x=>(x,())) y ()=((CH.take (k+1)).reverse.map fun x=>(x,()))):=ae (by
      obtain⟨hl,he⟩:=List.getElem?_eq_some_iff.1 hy;have hni:y ∉ CH.take k:=fun hm=>by
       obtain⟨j,hj,hje⟩:=List.getElem_of_mem hm;rw[List.length_take]at hj;rw[List.getElem_take]at hje;have:=List.pairwise_iff_getElem.1 UW.out j k af hl af;omega
      rw[FE (by simp_all),List.take_succ_eq_append_getElem hl,he];simp)
     clear hy;go_wp2_with (at_mapUpdate;refine eL _ rfl _ _ _ _ rfl 4 cd dr Tryz.underlying131 mb _ rfl HST.out.2.2.2 y () rfl rfl HG.out ?_;intro es' clock cT;rw[nO.out]at cT;have eV:=ae cT;clear cT);have nS:Hid (dx (setBlock W4 mb (.map es' clock)) rb pb gb gen done (.map (some mb)) (.slice (some ⟨g,0,none⟩) KN ok) (.slice va vs.length vk)/\Moved (·=rb) n pb db w o d (setBlock W4 mb (.map es' clock)) o1 d1 L/\bF (setBlock W4 mb (.map es' clock)) w.heap.size (.slice (some ⟨g,0,none⟩) KN ok) CH/\fK (setBlock W4 mb (.map es' clock)) mb (CH.take (k+1)).reverse):=ae ⟨(bg (w:=W4) (b:=mb) (.map es' clock) O6.out.2.2.2.2.1).trans HST.out.1,HST.out.2.1.turned O6.out.2.2.2.2.2.1 (.inr O6.out.2.2.2.2.2.2.1) ((aG.refl _ W4).setBlock _ _ (.inl rfl)),bH HST.out.2.2.1 (fun b hb=>bg _ (O6.out.2.2.2.2.2.2.2 b hb).1),eV.out⟩;clear eV HST q0 c4;go_roundw
     case rel=>exact⟨k+1,by go_num,af,nS⟩
     case measure=>simp[intOf];omega
    ·have Gj:¬(k:Int)<(KN:Int):=by omega
     have HQ:Hid (R (.returned (.int .i64 0)) W4):=ae (by
      rw[TM.out,<- YU.out];obtain⟨h1,h2,h3,h4⟩:=HST.out;rw[List.take_of_length_le (by have:=HKN.out.1;omega)]at h4;exact⟨mb,.slice oa KN ok,CH.reverse,d1,o1,rfl,h2,h1,h3,fun b hb=>(O6.out.2.2.2.2.2.2.2 b hb).2,h4,O6.out.2.2.2.2.2.2.1,O6.out.2.2.2.2.2.1,fun z=>by simp⟩)
     clear HST TM;go_wp2;exact HQ.out
end
end
section
open Go.RowKit Go.Maps
section
variable {S:Nat->Prop} {w0 w w' W W':World} {pb db n gb gen N ob ib vb rb done sb:Nat} {o o' gY:au} {d d' ig:Dsk} {L L' Ao:aH} {es l:List aD} {vs:List cj} {vv x4 x5 x6 v:Value} {name:Name} {fl:Bool}
theorem Moved.self(h:Moved S n pb db w o d w' o' d' L){f:iB}(hL:aB L name=some f):Moved S n pb db w o d w' o' d' (aS L name f):=
 h.congr (ct h.aY.keys) (fun x=>by
  rw[ay];by_cases e:x=name
  ·rw[if_pos e,e,hL]
  ·rw[if_neg e])
def kO(n pb db:Nat)(w:World)(o:au)(d:Dsk)(L:aH)(name:Name)(e:Ending)(w':World):Prop:=
 ∃sb d' o',e=.returned (.tuple #[ptrTo sb,.int .i64 0])/\Moved (fun _=>False) n pb db w o d w' o' d' (aS L name (ax [] true))/\aF w' sb pb name 20/\w.heap.size<=sb/\o' sb=none
theorem kX(h:Held w0 w pb db n o d L)(hr:dx w rb pb gb gen done x4 x5 x6)(hro:o rb=none)(fe:bM name=true)(hno:aB L name=none) :
 Calls prog 101 #[ptrTo rb,.string name] w (kO n pb db w o d L name):=by
 have hc0:cZ d L name=0:=by
  unfold cZ;rw[h.tick,fe,hno];rfl
 have qj:=ae (kJ h.aY name (cg fe));unfold fO at qj;rw[hc0]at qj;simp only[if_true]at qj;have HOP:Hid (∀W o' d',aR W pb db n o' d' (aS L name (ax [] true))->d'.dead=false->Calls prog 67 #[ptrTo pb,.string name,.int .i64 20] W (dW W pb name 20 0)):=ae (fun W o' d' hp hd=>by
  have h3:=dX (sz:=20) hp name (cg fe) ag ag;rw[gX hp (by rw[ay,if_pos rfl];rfl),hd]at h3;exact h3)
 obtain⟨c0,-⟩:=hr.cells;have HR:=ae hr;have Hu:=ae hro;have H:=ae h;clear h hr hro fe hno hc0;unfold ptrTo at *;go_enter func101,ntmps101;go_wp2_with fail;refine qj.out.mono ?_;rintro e w1⟨d1,o1,rfl,ej,hx1,-⟩;have hop:=ae (HOP.out w1 o1 d1 ej.aY (hx1 trivial));have e9:=ae ej;have c1:=(HR.out.moved Hu.out ej).cells.1;clear ej hx1 qj c0 HOP;unfold ptrTo at *;go_wp2_with fail;refine hop.out.mono ?_;rintro e w2⟨v2,rfl,hb2,hs2,-⟩;obtain⟨sb,rfl,hst,CB⟩:=hs2 rfl;have HQ:Hid (kO n pb db w o d L name (.returned (.tuple #[ptrTo sb,.int .i64 0])) w2):=ae ⟨sb,d1,o1,rfl,e9.out.below hb2,hst,Nat.le_trans e9.out.size CB,e9.out.aY.fresh CB⟩;clear hb2 hs2 hst CB hop c1;unfold ptrTo at *;go_wp2;go_returns;exact HQ.out
def jI(S:Nat->Prop)(n pb db:Nat)(w:World)(o:au)(d:Dsk)(L:aH)(name:Name)(es:List aD)(e:Ending)(w':World):Prop:=
 ∃fl d' o',e=.returned (.int .i64 0)/\Moved S n pb db w o d w' o' d' (aS L name (ax es fl))
theorem Jz(HW:aP)(h:Held w0 w pb db n o d L)(hst:aF w sb pb name 20)(ho:o sb=none)(hL:aB L name=some (ax es fl))(hv:kC w v l)(mG:∀b,v.ownBlock=some b->o b=none)(Np:need L+4*(es.length+l.length)<=131072)(hlen:es.length+l.length<65535) :
 Calls prog 151 #[ptrTo sb,v] w (jI (fun _=>False) n pb db w o d L name (es++l)):=by
 have KJ:Hid (∀W o' d' kT rv(x:aD)(k:Nat),Moved (fun _=>False) n pb db w o d W o' d' (aS L name (ax (es++l.take k) kT))->l[k]? = some x->Rd W rv x.bytes->(∀y,rv.ownBlock=some y->o' y=none) ->
  Calls prog 72 #[ptrTo sb,rv] W fun e w'=>∃ig gY,e=.returned (.int .i64 0)/\Moved (fun _=>False) n pb db w o d w' gY ig (aS L name (ax (es++l.take (k+1)) false))):=ae (fun W o' d' kT rv x k hm hx BP hro=>by
  obtain⟨hk,U2⟩:=List.getElem?_eq_some_iff.1 hx;refine(ku HW hm.aY (hst.moved hm ho (fun e=>e)) (hm.free hst.lt ho) ag ag (by rw[ay,if_pos rfl];rfl) (fw _) (by rw[List.length_map,List.length_append,List.length_take];omega) BP x.eF hro).mono ?_;rintro e w'⟨c,ig,gY,rfl,cT,qp⟩;have he:(es++l.take k).map aD.bytes++[x.bytes]=(es++l.take (k+1)).map aD.bytes:=by rw[List.take_succ_eq_append_getElem hk,U2];simp
  have hh:=h.moved hm (fun _ e=>e.elim);have h0:c=0:=hh.qY cT qp (by
   have h1:=cL L name (ax (es++l.take k) kT);have h2:=cR (es++l.take k) kT;rw[List.length_append,List.length_take]at h2;omega)
  subst h0;rw[if_pos rfl,iZ,he]at cT;exact⟨ig,gY,rfl,hm.trans cT (fun _ _ e=>e)⟩)
 have HV:Hid (∀W o' d' L',Moved (fun _=>False) n pb db w o d W o' d' L'->kC W v l):=ae (fun W o' d' L' hm=>hv.moved hm mG);have Xl:Hid (Moved (fun _=>False) n pb db w o d w o d (aS L name (ax (es++l.take 0) fl))):=ae (by
  rw[List.take_zero,List.append_nil];exact(Moved.refl _ h.aY).self hL)
 obtain⟨a,cap,rfl,-⟩:=hv;obtain⟨M,hM⟩:∃M,M=l.length:=⟨_,rfl⟩;have HM:Hid (M=l.length/\M<65535):=ae ⟨hM,af⟩;obtain⟨R,hR⟩:∃R,R=jI (fun _=>False) n pb db w o d L name (es++l):=⟨_,rfl⟩;have TM:=ae hR;rw[<- hR];rw[<- hM]at HV ⊢;clear h hst ho hL mG Np hlen hM hR;unfold ptrTo at *;go_enter func151,ntmps151;go_wp2_with fail;go_loopw [10] (fun vi wr=>∃(k:Nat)(kT:Bool)(o':au)(d':Dsk),vi=.int .i64 (k:Int)/\k<=M/\Hid (Moved (fun _=>False) n pb db w o d wr o' d' (aS L name (ax (es++l.take k) kT)))) (fun vi _=>M-(intOf vi).toNat)
 case atStart=>exact⟨0,fl,o,d,rfl,Nat.zero_le _,Xl⟩
 case round=>
  obtain⟨k,kT,o1,d1,rfl,hk,e9⟩:=hrel;clear Xl;generalize wr=W1 at *;by_cases hlt:k<M
  ·have Gj:(k:Int)<(M:Int):=by omega
   have wk:IntKind.i64.wrap ((k:Int)+1)=((k+1:Nat):Int):=by have:=HM.out;rw[aw]<;>omega
   obtain⟨x,hx⟩:∃x,l[k]? = some x:=⟨_,List.getElem?_eq_getElem (by have:=HM.out;omega)⟩;have HX:=ae hx;obtain⟨a',cap',Cz,hce⟩:=HV.out _ _ _ _ e9.out;obtain⟨rfl,-,rfl⟩:a=a'/\M=l.length/\cap=cap':=by simpa using Cz
   obtain⟨b,off,rfl,Qt⟩:=hce.resolve_left (by have:=HM.out;omega);obtain⟨q0,q1,q2,q3⟩:=Qt k _ hx;clear hce Qt Cz hx;have eV:=ae (e9.out.alloc (.cells #[.int .u32 (x.t.toNat:Int),.int .u32 (x.h.toNat:Int),.int .u64 (x.x.toNat:Int),.int .u32 (x.m.toNat:Int)] 64));have Qm:=ae (fun W=>uG x W);go_wp2_with fail;refine(Qm.out _).mono ?_;rintro e w3⟨v3,rfl,iW,hb3⟩;have lq:=ae (KJ.out w3 o1 d1 kT v3 x k (eV.out.below hb3) HX.out (fH iW) (fun y hy=>eV.out.aY.fresh (aI iW y hy)));clear iW hb3 Qm q0 q1 q2 q3;go_wp2_with fail;refine lq.out.mono ?_;rintro e w4⟨d4,o4,rfl,eX⟩;have gC:=ae eX;clear eX lq e9 eV;go_wp2;go_roundw
   case rel=>exact⟨k+1,false,o4,d4,by go_num,af,gC⟩
   case measure=>simp[intOf];omega
  ·have Gj:¬(k:Int)<(M:Int):=by omega
   have HQ:Hid (R (.returned (.int .i64 0)) W1):=ae (by
    have:=e9.out;rw[List.take_of_length_le (by have:=HM.out;omega)]at this;rw[TM.out];exact⟨kT,d1,o1,rfl,this⟩)
   clear e9 TM;go_wp2;exact HQ.out
end
end
end Go.Proofs.YthkkgdpomhhjjaaGreatDoor
