/-
  Joined.
-/
import Derived.Test.YthkkgdpomhhjjaaGreatDoorX13
set_option maxRecDepth 100000
set_option maxHeartbeats 16000000
namespace Go.Proofs.YthkkgdpomhhjjaaGreatDoor
open Go.Proofs.Tryz
section
open Go.RowKit Go.Maps Go.Sort
theorem Ta{h:Hint}(e:mM h=2):h=.decreasing:=by cases h<;>simp[mM]at e ⊢
def V4(m:Nat):Prop:=∀{w0 W:World}{base g cap:Nat}{d:Array Nat},br w0 base g cap d W->∀a b limit:Nat,a<=b->b<=d.size->d.size<=1000000->b-a<=m->limit<=64->Sort.Below bf a b d ->
 Calls prog 207 #[.slice (some ⟨g,0,none⟩) d.size cap,.int .i64 (a:Int),.int .i64 (b:Int),.int .i64 (limit:Int)] W (pJ w0 base g cap (pdq bf d a b limit true true))
theorem Li(m:Nat)(aj8:m<50):V4 m:=by
 induction m using Nat.strongRecOn with
 |ind m ih=>
   intro w0 W base g cap d h a b limit hab hb hsz hm hl Rt;have H:=aa h;have kE:=aa Rt;have IH:Hid (∀{W:World}{d:Array Nat},br w0 base g cap d W->12<m->∀a b limit:Nat,a<=b->b<=d.size->d.size<=1000000->b-a+1<=m->limit<=64->Sort.Below bf a b d ->
    Calls prog 207 #[.slice (some ⟨g,0,none⟩) d.size cap,.int .i64 (a:Int),.int .i64 (b:Int),.int .i64 (limit:Int)] W (pJ w0 base g cap (pdq bf d a b limit true true))):=aa fun h Ej a b l q1 q2 q3 q4 q5 q6=>ih (m-1) ae ae h a b l q1 q2 q3 ae q5 q6
   obtain⟨N,hN⟩:∃N,N=d.size:=⟨_,rfl⟩;rw[<- hN]at hb hsz ⊢;obtain⟨r,hr⟩:∃r,r=pdq bf d a b limit true true:=⟨_,rfl⟩;rw[<- hr];have HR0:Hid (pdq bf d a b limit true true=r):=aa hr.symm;have HX:Hid (a<=b/\b<=N/\N<=1000000/\b-a<=m/\limit<=64/\d.size=N/\m<50):=aa ae;clear h hN Rt hr hab hb hsz hm hl ih aj8;go_enter func207,ntmps207;go_wp2_with fail;go_loopw [1,2,3,8,9] (fun s1 s2 s3 s10 s11 wr=>∃(a1 b1 lim:Nat)(wb wp:Bool)(dk:Array Nat),s1=.int .i64 (a1:Int)/\s2=.int .i64 (b1:Int)/\s3=.int .i64 (lim:Int)/\s10=.bool wb/\s11=.bool wp/\a1<=b1/\b1<=N/\b1-a1<=m/\lim<=64/\dk.size=N/\Hid (Sort.Below bf a1 b1 dk)/\br w0 base g cap dk wr/\Hid (pdq bf dk a1 b1 lim wb wp=r)) (fun s1 s2 _ _ _ _=>(intOf s2-intOf s1).toNat)
   case atStart=>exact⟨a,b,limit,true,true,d,rfl,rfl,rfl,rfl,rfl,HX.o.1,HX.o.2.1,HX.o.2.2.2.1,HX.o.2.2.2.2.1,HX.o.2.2.2.2.2.1,kE,H.o,HR0⟩
   case round=>
    obtain⟨a1,b1,lim,wb,wp,dk,rfl,rfl,rfl,rfl,rfl,Zd,hb1,Pc,Md,hsk,HBk,hs,HO⟩:=hrel;generalize wr=Wr at *;have HS:=aa hs;obtain⟨L,hL⟩:∃L,L=b1-a1:=⟨_,rfl⟩;have wL:IntKind.i64.wrap ((b1:Int)-(a1:Int))=(L:Int):=by have:=HX.o;rw[ax]<;>omega
    have HK:Hid (a1<=b1/\b1<=N/\L=b1-a1/\L<=m/\lim<=64/\N<=1000000/\dk.size=N/\m<50):=aa (by have:=HX.o;omega);clear hs hsk hL Zd hb1 Pc Md;by_cases Ej:L<=12
    ·have Ze:(L:Int)<=12:=by omega
     have hk:=HK.o;have hc:=OT HS.o a1 b1 hk.1 ae ae;rw[hk.2.2.2.2.2.2.1,show insertionSort bf dk a1 b1=r by rw[<- HO.out];exact(pdq_small ae).symm]at hc;have HC:=aa hc;clear hc hk;go_wp2_with fail;refine HC.o.mono ?_;rintro e w1⟨rfl,hs1⟩;have iV:=aa hs1;clear hs1;go_wp2;go_returns;exact⟨rfl,iV.o⟩
    ·have Ze:¬((L:Int)<=12):=by omega
     by_cases hl0:lim=0
     ·subst hl0;have hk:=HK.o;have hc:=Lf HS.o a1 b1 ae ae ae;rw[hk.2.2.2.2.2.2.1,show heapSort bf dk a1 b1=r by rw[<- HO.out];exact(pdq_heap ae rfl).symm]at hc;have HC:=aa hc;clear hc hk;go_wp2_with fail;refine HC.o.mono ?_;rintro e w1⟨rfl,hs1⟩;have iV:=aa hs1;clear hs1;go_wp2;go_returns;exact⟨rfl,iV.o⟩
     ·have ail:((lim:Int) == 0)=false:=by simp;omega
      obtain⟨R,HR⟩:∃R,Hid (S8 bf a1 b1 lim wb wp dk R):=⟨_,aa (OS Dx wb wp (by have:=HK.o;omega) hl0 (by have:=HK.o;omega) HBk.out)⟩;have Jj:Hid (1<=lim/\12<L/\R.d1.size=N/\R.d2.size=N/\R.pi.1.size=N):=aa ⟨ae,ae,HR.out.s1.trans HK.o.2.2.2.2.2.2.1,HR.out.s2.trans HK.o.2.2.2.2.2.2.1,HR.out.s3.trans HK.o.2.2.2.2.2.2.1⟩;clear hl0 Ej;go_upto_if 35 with fail
      go_cut [3] from 19 to 133 (fun s3 wc=>s3=.int .i64 (R.lim:Int)/\br w0 base g cap R.d1 wc)
      case first=>
       cases wb with
       |false=>
         obtain⟨e1,e2⟩:=HR.out.brk rfl;have hk:=HK.o;have hp:=Jj.o;have hc:=IP HS.o a1 b1 ae ae ae;rw[hk.2.2.2.2.2.2.1,<- e1]at hc;have HC:=aa hc;have wl1:IntKind.i64.wrap ((lim:Int)-1)=(R.lim:Int):=by rw[ax]<;>omega
         clear hc e1 e2 hk hp;go_wp2_with fail;refine HC.o.mono ?_;rintro e w1⟨rfl,hs1⟩;have iV:=aa hs1;clear hs1;go_wp2;go_meet
         exact⟨rfl,iV.o⟩
       |true=>
         obtain⟨e1,e2⟩:=HR.out.nob rfl;go_wp2;go_meet
         exact⟨by rw[e2],by rw[e1];exact HS.o⟩
      case rest=>
       obtain⟨rfl,hs1⟩:=hcut;have iV:=aa hs1;have hk:=HK.o;have hp:=Jj.o;have hc:=IM iV.o a1 b1 ae ae ae ae;rw[hp.2.2.1,<- HR.out.c]at hc;have HC:=aa hc;clear hc hs1 hk hp;go_upto_if 50 with fail
       refine HC.o.mono ?_;rintro e w2⟨rfl,hs2⟩;have eK:=aa hs2;clear hs2 HC;go_upto_if 50 with fail
       go_cut [11,12] from 19 to 133 (fun s13 s14 wc=>s13=.int .i64 (R.pivot:Int)/\s14=.int .i64 (mM R.hint:Int)/\br w0 base g cap R.d2 wc)
       case first=>
        by_cases hh:R.c.2=.decreasing
        ·obtain⟨e2,Zf,Vb⟩:=HR.out.dec hh;have hz:(mM R.c.2:Int)=2:=by rw[hh];rfl
         have hk:=HK.o;have hp:=Jj.o;have hc:=Cr eK.o a1 b1 ae ae ae;rw[hp.2.2.1,<- e2]at hc;have HC:=aa hc;obtain⟨P,hP⟩:∃P,P=R.c.1-a1:=⟨_,rfl⟩;have h1:=HR.out.c1;have h2:=HR.out.c2;have wb1:IntKind.i64.wrap ((b1:Int)-1)=(b1:Int)-1:=by rw[ax]<;>omega
         have wP:IntKind.i64.wrap ((R.c.1:Int)-(a1:Int))=(P:Int):=by rw[ax]<;>omega
         have wV:IntKind.i64.wrap ((b1:Int)-1-(P:Int))=(R.pivot:Int):=by rw[ax]<;>omega
         have HE:Hid (R.hint=.increasing):=aa Vb;clear hc e2 Zf Vb hP hh h1 h2 hk hp;go_wp2_with fail;refine HC.o.mono ?_;rintro e w3⟨rfl,hs3⟩;have fC:=aa hs3;clear hs3;go_wp2;go_meet
         exact⟨rfl,by rw[HE.o];rfl,fC.o⟩
        ·obtain⟨e2,Zf,Vb⟩:=HR.out.Rq hh;have hz:((mM R.c.2:Int) == 2)=false:=by
          simp only[beq_eq_false_iff_ne,ne_eq];exact fun h=>hh (Ta ae)
         go_wp2;go_meet
         exact⟨by rw[Zf],by rw[Vb],by rw[e2];exact eK.o⟩
       case rest=>
        obtain⟨rfl,rfl,hs3⟩:=hcut;have fC:=aa hs3;clear hs3;obtain⟨z,hz⟩:∃z:Int,z=(mM R.hint:Int):=⟨_,rfl⟩;rw[<- hz];have HV:Hid (decide (R.hint=.increasing)=(z == 1)):=aa (by rw[hz];cases R.hint<;>rfl);clear hz;go_upto_region 15 with fail
        go_cut [68] from 19 to 133 (fun s68 wx=>s68=.bool (wb && wp && decide (R.hint=.increasing))/\br w0 base g cap R.d2 wx)
        case first=>
         cases wb<;>cases wp<;>(
          go_wp2_with fail;go_meet
          exact⟨by rw[HV.o];simp,fC.o⟩)
        case rest=>
         obtain⟨rfl,oT⟩:=hcut;have gp:=aa oT;clear oT;go_upto_if 68 with fail
         go_cut [] from 19 to 133 (fun wx=>R.pi.2=false/\br w0 base g cap R.pi.1 wx)
         case first=>
          cases h68:(wb && wp && decide (R.hint=.increasing))
          ·have Vc:=aa (HR.out.no h68);go_wp2;go_meet
           exact⟨by rw[Vc.o],by rw[Vc.o];exact gp.o⟩
          ·have Vc:=aa (HR.out.yes h68);have hk:=HK.o;have hp:=Jj.o;have hc:=Cs gp.o a1 b1 ae ae ae ae;rw[hp.2.2.2.1,<- Vc.o]at hc;have HC:=aa hc;clear hc hk hp;cases jW:R.pi.2
           ·go_wp2_with fail;refine HC.o.mono ?_;rintro e w4⟨rfl,e1,oT⟩;rw[jW];rw[<- e1]at oT;have b6:=aa (show _/\_ from⟨jW,oT⟩);clear oT jW e1;go_wp2;go_meet
            exact b6.o
           ·have HF:Hid (R.pi.1=r):=aa (by rw[<- HO.out];exact(HR.out.done jW).symm);go_wp2_with fail;refine HC.o.mono ?_;rintro e w4⟨rfl,e1,oT⟩;rw[jW];rw[<- e1,HF.o]at oT;have b6:=aa oT;clear oT jW e1;go_wp2;go_returns;exact⟨rfl,b6.o⟩
         case rest=>
          obtain⟨jW,hs5⟩:=hcut;have b6:=aa hs5;have pO:=aa jW;clear hs5 jW;generalize wc=W5 at *;have bV:(R.pivot:Int)<(N:Int):=by have:=HR.out.p2;have:=HK.o;omega
          go_upto_region 17 with fail
          go_cut [87] from 19 to 133 (fun v wx=>v=.bool (decide (a1>0) && !bf R.pi.1[a1-1]! R.pi.1[R.pivot]!)/\br w0 base g cap R.pi.1 wx)
          case first=>
           rcases Nat.eq_zero_or_pos a1 with ha0 | ha0
           ·have aio:decide (0<a1)=false:=decide_eq_false ae;have HA0:=aa ha0;clear ha0;go_wp2_with fail;go_quiet (fail)
            have gy:=aa (b6.o.drawn nq);go_wp2;go_meet
            exact⟨by simp[HA0.o],gy.o⟩
           ·have ac8:(a1:Int)>0:=by omega
            obtain⟨A,hA⟩:∃A,A=a1-1:=⟨_,rfl⟩;have hk:=HK.o;have hp:=Jj.o;have hv:=HR.out.p2;have bA:(A:Int)<(N:Int):=by omega
            have wA:IntKind.i64.wrap ((a1:Int)-1)=(A:Int):=by rw[ax]<;>omega
            obtain⟨x,y,c,x0,y0,hl,hc⟩:=b6.o.two A R.pivot ae ae;have HW:Hid ((decide (a1>0) && !bf R.pi.1[a1-1]! R.pi.1[R.pivot]!)=!c):=aa (by rw[<- hA,<- hc.out,decide_eq_true ha0];rfl);clear hA hk hp hv hc;go_wp2_with fail;go_quiet ((go_at_call 253;exact Calls.quiet_of_same (hl.out _)))
            have gy:=aa (b6.o.drawn nq);go_wp2;go_meet
            exact⟨by rw[HW.o],gy.o⟩
          case rest=>
           obtain⟨rfl,T7⟩:=hcut;have gy:=aa T7;clear T7;have hk:=HK.o;have hp:=Jj.o;cases NP:(decide (a1>0) && !bf R.pi.1[a1-1]! R.pi.1[R.pivot]!)
           ·obtain⟨mid,ap,d4,hx⟩:∃mid ap d4,partition bf R.pi.1 a1 b1 R.pivot=(mid,ap,d4):=⟨_,_,_,rfl⟩;obtain⟨hr1,hr2,hr3,hr4,KE,AG,XJ⟩:=round_part Dx (partition_holds bf) HR.out.p1 HR.out.p2 (show b1<=R.pi.1.size by omega) HR.out.B3 hx;have hc:=Lh gy.o a1 b1 R.pivot HR.out.p1 HR.out.p2 ae ae;rw[hp.2.2.2.2,hx]at hc;have HC:=aa hc;have Xm:=aa (HR.out.left pO.o NP mid ap d4 hx hr1 hr2);have HRT:=aa (HR.out.right pO.o NP mid ap d4 hx hr1 hr2);obtain⟨A,hA⟩:∃A,A=mid-a1:=⟨_,rfl⟩;obtain⟨B,hB⟩:∃B,B=b1-mid:=⟨_,rfl⟩;obtain⟨E,hE⟩:∃E,E=L/8:=⟨_,rfl⟩;have wA:IntKind.i64.wrap ((mid:Int)-(a1:Int))=(A:Int):=by rw[ax]<;>omega
            have wB:IntKind.i64.wrap ((b1:Int)-(mid:Int))=(B:Int):=by rw[ax]<;>omega
            have wE:IntKind.i64.wrap ((L:Int)/8)=(E:Int):=by rw[ax]<;>omega
            have wM:IntKind.i64.wrap ((mid:Int)+1)=((mid+1:Nat):Int):=by rw[ax]<;>omega
            have HM:Hid (A=mid-a1/\B=b1-mid/\E=L/8/\a1<=mid/\mid<b1/\d4.size=N):=aa ⟨hA,hB,hE,hr1,hr2,hr3.trans hp.2.2.2.2⟩;have Fz:=aa (show _/\_/\_/\_ from⟨hr4,KE,AG,XJ⟩);clear hc hx hA hB hE hr1 hr2 hr3 hr4 KE AG XJ NP hk hp;go_wp2_with fail;refine HC.o.mono ?_;rintro e w7⟨rfl,Kh⟩;dsimp only at Kh;have jP:=aa Kh;clear Kh HC;have hk:=HK.o;have hp:=Jj.o;have hq:=HM.o;by_cases h4:A<B
            ·have h4z:(A:Int)<(B:Int):=by omega
             have G4:=IH.o jP.o ae a1 mid R.lim hq.2.2.2.1 ae ae ae (Nat.le_trans HR.out.jO hk.2.2.2.2.1) Fz.o.1;obtain⟨pL,sL⟩:=pdq_sorts bf Dx d4 a1 mid R.lim true true hq.2.2.2.1 ae Fz.o.1;have Et:=aa (Fz.o.2.2.1 _ pL sL).1;have HF:Hid (pdq bf (pdq bf d4 a1 mid R.lim true true) (mid+1) b1 R.lim (decide (A >= E)) ap=r/\(pdq bf d4 a1 mid R.lim true true).size=N):=aa ⟨by
              rw[<- HO.out,Xm.o ae,hq.1,hq.2.2.1,hk.2.2.1],pL.1.trans hq.2.2.2.2.2⟩
             rw[hq.2.2.2.2.2]at G4;have Ru:=aa G4;clear G4 pL sL h4 hk hp hq;go_wp2_with fail;refine Ru.o.mono ?_;rintro e w8⟨rfl,Ki⟩;have jC:=aa Ki;clear Ki Ru;go_wp2;have q:=HM.o;have q2:=HK.o;exact⟨⟨mid+1,b1,R.lim,decide (A >= E),ap,_,rfl,rfl,rfl,congrArg Value.bool ah,rfl,ae,ae,ae,Nat.le_trans HR.out.jO q2.2.2.2.2.1,HF.o.2,Et,jC.o,aa HF.o.1⟩,by simp[intOf];omega⟩
            ·have h4z:¬(A:Int)<(B:Int):=by omega
             have G4:=IH.o jP.o ae (mid+1) b1 R.lim ae ae ae ae (Nat.le_trans HR.out.jO hk.2.2.2.2.1) Fz.o.2.1;obtain⟨pL,sL⟩:=pdq_sorts bf Dx d4 (mid+1) b1 R.lim true true ae ae Fz.o.2.1;have Et:=aa (Fz.o.2.2.2 _ pL sL).1;have HF:Hid (pdq bf (pdq bf d4 (mid+1) b1 R.lim true true) a1 mid R.lim (decide (B >= E)) ap=r/\(pdq bf d4 (mid+1) b1 R.lim true true).size=N):=aa ⟨by
              rw[<- HO.out,HRT.o ae,hq.2.1,hq.2.2.1,hk.2.2.1],pL.1.trans hq.2.2.2.2.2⟩
             rw[hq.2.2.2.2.2]at G4;have Ru:=aa G4;clear G4 pL sL h4 hk hp hq;go_wp2_with fail;refine Ru.o.mono ?_;rintro e w8⟨rfl,Ki⟩;have jC:=aa Ki;clear Ki Ru;go_wp2;have q:=HM.o;have q2:=HK.o;exact⟨⟨a1,mid,R.lim,decide (B >= E),ap,_,rfl,rfl,rfl,congrArg Value.bool ah,rfl,ae,ae,ae,Nat.le_trans HR.out.jO q2.2.2.2.2.1,HF.o.2,Et,jC.o,aa HF.o.1⟩,by simp[intOf];omega⟩
           ·have Eu:=NP;simp only[Bool.and_eq_true,decide_eq_true_eq,Bool.not_eq_true']at Eu;obtain⟨mid,d4,hx⟩:∃mid d4,partitionEqual bf R.pi.1 a1 b1 R.pivot=(mid,d4):=⟨_,_,rfl⟩;obtain⟨e1,e2,e3,e4⟩:=round_eq Dx (partitionEqual_holds bf) Eu.1 HR.out.p1 HR.out.p2 (show b1<=R.pi.1.size by omega) HR.out.B3 Eu.2 hx;have hc:=Fb gy.o a1 b1 R.pivot HR.out.p1 HR.out.p2 ae ae;rw[hp.2.2.2.2,hx]at hc;have HC:=aa hc;have HF:Hid (pdq bf d4 mid b1 R.lim wb wp=r/\a1<mid/\mid<=b1/\d4.size=N):=aa ⟨by rw[<- HO.out,HR.out.eq pO.o NP mid d4 hx e1 e2],e1,e2,e3.trans hp.2.2.2.2⟩;have Et:=aa e4.1;clear hc hx NP Eu e1 e2 e3 e4 hk hp;go_wp2_with fail;refine HC.o.mono ?_;rintro e w7⟨rfl,Kh⟩;dsimp only at Kh;have jP:=aa Kh;clear Kh HC;go_wp2;have q:=HF.o;have q2:=HK.o;exact⟨⟨mid,b1,R.lim,wb,wp,d4,rfl,rfl,rfl,rfl,rfl,q.2.2.1,q2.2.1,ae,Nat.le_trans HR.out.jO q2.2.2.2.2.1,q.2.2.2,Et,jP.o,aa q.1⟩,by simp[intOf];omega⟩
section
variable {base:Nat}
theorem wH(v:Value)(w:World):Calls prog 247 #[v,.int .i64 0,.int .i64 0] w fun e w'=>e=.returned (.tuple #[])/\w=w':=by
 go_enter func247,ntmps247;go_wp2;refine wp_loop_rounds 1 ?_;iterate 1 (rw[rounds_succ];go_wp2)
 go_returns;exact⟨rfl,rfl⟩
theorem Ct(v:Value)(lim:Int)(w:World):Calls prog 207 #[v,.int .i64 0,.int .i64 0,.int .i64 lim] w fun e w'=>e=.returned (.tuple #[])/\w=w':=by
 have HI:=aa (wH v w);go_enter func207,ntmps207;go_wp2;refine wp_loop_rounds 1 ?_;rw[rounds_succ];go_wp2_with fail;refine HI.o.mono ?_;rintro e w'⟨rfl,rfl⟩;go_wp2;go_returns;exact⟨rfl,rfl⟩
theorem Lj{w:World}{v:Value}{l:List Nat}(h:bD w base v l)(hl:l.length<50):Calls prog 150 #[v] w (AV w base v l):=by
 have HL:Hid (Calls prog 87 #[.int .u64 (l.length:Int)] w fun e w'=>e=.returned (.int .i64 (Lib.bitLen l.length:Nat))/\w'=w):=
  aa (Any.bits_Len (SlLaysF0.n15.bits (P:=prog) (ρ:=Tryz.eE) { Tryz.jN with }) l.length w ae ae)
 have hc:IntKind.u64.wrap (l.length:Int)=(l.length:Int):=iK _ ae ae;have HP:Hid (Calls prog 207 #[v,.int .i64 0,.int .i64 (l.length:Int),.int .i64 ((Lib.bitLen l.length:Nat):Int)] w (AV w base v l)):=aa (by
  obtain⟨-,⟨rfl,h0⟩|⟨g,cap,_,rfl,_⟩⟩:=id h
  ·obtain rfl:=List.eq_nil_of_length_eq_zero h0;refine(Ct _ _ w).mono ?_;rintro e w'⟨rfl,rfl⟩;exact⟨[],rfl,h,List.Perm.refl _,List.Pairwise.nil,aF.refl _ _⟩
  ·have hn:br w base g cap l.toArray w:=⟨by simpa using h,aF.refl _ _⟩;have hp:=Li 49 ae hn 0 l.length (Lib.bitLen l.length) (Nat.zero_le _) ah (by simp;omega) ae (Nat.le_trans (Lib.bitLen_le _ 62 ae ae) af) (.inl rfl);rw[List.size_toArray]at hp;refine hp.mono ?_;rintro e w'⟨rfl,h1⟩;obtain⟨⟨hsz,-,G3⟩,xK⟩:=pdq_sorts bf Dx l.toArray 0 l.length (Lib.bitLen l.length) true true (Nat.zero_le _) ah (.inl rfl);generalize pdq bf l.toArray 0 l.length (Lib.bitLen l.length) true true=D at *;have hsz:D.size=l.length:=by simpa using hsz
   refine⟨D.toList,rfl,?_,?_,?_,h1.turn.mono (fun b _ e=>by rw[e];rfl)⟩
   ·have:=h1.row;rw[hsz]at this;unfold bD at this ⊢;simpa[hsz]using this
   ·rw[show D.extract 0 l.length=D by rw[<- hsz];simp]at G3;simpa using G3
   ·rw[List.pairwise_iff_getElem];intro i j hi hj fg;have h2:=xK i j (Nat.zero_le _) fg (by simpa[hsz]using hj);rw[getElem!_pos D i (by simpa using hi),getElem!_pos D j (by simpa using hj)]at h2;have:=of_decide_eq_false h2;simp only[Array.getElem_toList];omega)
 obtain⟨a,k,rfl⟩:=az h;clear h hl;generalize l.length=n at *;generalize Lib.bitLen n=bl at *;obtain⟨PST,mg⟩:∃P,P=AV w base (.slice a n k) l:=⟨_,rfl⟩;rw[<- mg]at HP ⊢;have HQ:Hid (∀e w',PST e w'->e=.returned (.tuple #[])):=aa (by rw[mg];rintro e w'⟨l',h,-⟩;exact h);clear mg;go_enter func150,ntmps150;go_wp2_with fail;refine HL.o.mono ?_;rintro e w'⟨rfl,rfl⟩;go_wp2_with fail;refine HP.o.mono ?_;intro e w2 hq;obtain rfl:=HQ.o _ _ hq;have HQ2:=aa hq;clear hq HP HL HQ;go_wp2;go_returns;exact HQ2.o
end
end
section
open Go.RowKit Go.Maps
open Go.ChangeMaps (setBlock)
abbrev kA:=yS×(Option Addr×Nat)
abbrev AX(p:kA):Value:=.slice p.2.1 p.1.n.length p.2.2
abbrev sA(p:kA):Value:=.agg #[.int .u32 (p.1.v:Int),.int .u64 (p.1.k:Int),.slice p.2.1 p.1.n.length p.2.2]
def iC:List kA->List Value
 | []=>[]
 |p::l=>[.int .u32 (p.1.v:Int),.int .u64 (p.1.k:Int),AX p]++iC l
theorem AY(a b:List kA):iC (a++b)=iC a++iC b:=by
 induction a with
 |nil=>rfl
 |cons e a ih=>rw[List.cons_append,iC,iC,ih,List.append_assoc]
theorem IQ{l:List kA}{i:Nat}{p:kA}(h:l[i]? = some p):(iC l)[i*3]? = some (.int .u32 (p.1.v:Int))/\(iC l)[i*3+1]? = some (.int .u64 (p.1.k:Int))/\(iC l)[i*3+2]? = some (AX p):=by
 induction l generalizing i with
 |nil=>cases h
 |cons q l ih=>
   cases i with
   |zero=>cases h;exact⟨rfl,rfl,rfl⟩
   |succ i=>
     have:=ih (i:=i) (by simpa using h);rw[show(i+1)*3=i*3+3 by omega];exact this
abbrev jT(w:World)(base:Nat)(v:Value)(l:List kA):Prop:=w.ownsRow base 181 3 v l.length (iC l)
theorem IU{w:World}{base g cap:Nat}{l:List kA}(h:jT w base (.slice (some ⟨g,0,none⟩) l.length cap) l){i:Nat}{p:kA}(hi:l[i]? = some p) :
 w.cell? ⟨g,i*3,none⟩=some (.int .u32 (p.1.v:Int))/\w.cell? ⟨g,i*3+1,none⟩=some (.int .u64 (p.1.k:Int))/\w.cell? ⟨g,i*3+2,none⟩=some (AX p):=by
 have hc:∀(j:Nat)(u:Value),(iC l)[j]? = some u->w.cell? ⟨g,j,none⟩=some u:=fun j u hj=>by
  have:=World.ownsRow.cells h (g:=g) rfl j u hj;rwa [bF,Nat.zero_add]at this
 obtain⟨h1,h2,h3⟩:=IQ hi;exact⟨hc _ _ h1,hc _ _ h2,hc _ _ h3⟩
abbrev Lk(w:World)(b:Nat)(m:List (Nat×kA)):Prop:=bN prog 26 iU sA w b m
structure pK(w:World)(base:Nat)(lv:Value)(cs:List kA):Prop where
 row:jT w base lv cs
 km:∀p∈cs,bD w 0 (AX p) p.1.n/\∀y∈p.1.n,y<4294967296
 v32:∀p∈cs,p.1.v<4294967296
 gA:(cs.map (·.1.v)).Pairwise (· < ·)
 len:cs.length<=24
def fN(cs:List kA):List (Nat×kA):=cs.reverse.map fun p=>(p.1.v,p)
section
variable {w w' W:World} {base:Nat} {lv:Value} {cs:List kA}
theorem Ll{l:List Nat}(h:l.Pairwise (· < ·)):l.Nodup:=h.imp (fun h e=>by omega)
theorem OU{j:Nat}{p:kA}(h:pK w base lv cs)(hj:cs[j]? = some p):aS (fN (cs.take j)) p.1.v p=fN (cs.take (j+1))/\aA (fN (cs.take j)) p.1.v=none:=by
 obtain⟨hl,rfl⟩:=List.getElem?_eq_some_iff.1 hj;have hne:∀q∈fN (cs.take j),q.1≠cs[j].1.v:=by
  intro q hq;obtain⟨x,hx,rfl⟩:=List.mem_map.1 hq;rw[List.mem_reverse]at hx;obtain⟨i,hi⟩:=List.mem_iff_getElem?.1 hx;have fg:i<j:=by
   have:=(List.getElem?_eq_some_iff.1 hi).1;rw[List.length_take]at this;omega
  rw[List.getElem?_take_of_lt fg]at hi;obtain⟨lu,rfl⟩:=List.getElem?_eq_some_iff.1 hi;have:=List.pairwise_iff_getElem.1 h.gA i j (by simpa using lu) (by simpa using hl) fg;simp at this;show cs[i].1.v≠_;omega
 refine⟨?_,lp.2 hne⟩;unfold aS;rw[nS hne];unfold fN;rw[List.take_succ_eq_append_getElem hl,List.reverse_append];rfl
theorem Tb(h:pK w base lv cs)(v:Nat):(∃p∈cs,p.1.v=v/\aA (fN cs) v=some p)\/(aA (fN cs) v=none/\∀p∈cs,p.1.v≠v):=by
 have hk:((fN cs).map (·.1)).Nodup:=by
  unfold fN;rw[List.map_map];exact((List.reverse_perm cs).map (·.1.v)).nodup_iff.2 (Ll h.gA)
 cases e:aA (fN cs) v with
 |none=>
   refine .inr ⟨rfl,fun p hp he=>?_⟩;exact lp.1 e (p.1.v,p) (List.mem_map.2 ⟨p,List.mem_reverse.2 hp,rfl⟩) he
 |some q=>
   obtain⟨x,hx,he⟩:=List.mem_map.1 (eG e);cases he;exact .inl ⟨q,List.mem_reverse.1 hx,rfl,rfl⟩
theorem uE{l:List Nat}{k y:Nat}{P:Nat->Prop}{Q:Prop}(h:l[k]? = some y):(Q\/∃x∈l.take (k+1),P x)↔((Q\/∃x∈l.take k,P x)\/P y):=by
 obtain⟨hl,rfl⟩:=List.getElem?_eq_some_iff.1 h;rw[List.take_succ_eq_append_getElem hl];constructor
 ·rintro(h |⟨x,hx,h⟩)
  ·exact .inl (.inl h)
  ·rcases List.mem_append.1 hx with hx | hx
   ·exact .inl (.inr ⟨x,hx,h⟩)
   ·rw[List.mem_singleton]at hx;subst hx;exact .inr h
 ·rintro((h |⟨x,hx,h⟩) | h)
  ·exact .inl h
  ·exact .inr ⟨x,List.mem_append.2 (.inl hx),h⟩
  ·exact .inr ⟨_,List.mem_append.2 (.inr ah),h⟩
theorem Tc(h:pK w base lv cs){a b:kA}(ha:a∈cs)(hb:b∈cs)(e:a.1.v=b.1.v):a=b:=by
 obtain⟨i,hi⟩:=List.mem_iff_getElem?.1 ha;obtain⟨j,hj⟩:=List.mem_iff_getElem?.1 hb;obtain⟨lu,rfl⟩:=List.getElem?_eq_some_iff.1 hi;obtain⟨lA,rfl⟩:=List.getElem?_eq_some_iff.1 hj;have hp:=List.pairwise_iff_getElem.1 h.gA;rcases Nat.lt_trichotomy i j with h1 | h1 | h1
 ·have:=hp i j (by simpa using lu) (by simpa using lA) h1;simp at this;omega
 ·subst h1;rfl
 ·have:=hp j i (by simpa using lA) (by simpa using lu) h1;simp at this;omega
theorem Td(h:pK w base lv cs){S ts:List Nat}{dn:List (Nat×kA)}(hL:∀z,z∈S↔AJ (cs.map (·.1)) z)(hp:dn.Perm (fN cs))(ht:ts.Perm ((dn.map (·.1)).filter (fun x=>decide (x ∉ S))))(hs:ts.Pairwise (·<=·)):ts=kT (cs.map (·.1)):=by
 have e:kT (cs.map (·.1))=(cs.map (·.1.v)).filter (fun x=>decide (x ∉ S)):=by
  unfold kT;rw[List.map_map];refine List.filter_congr fun x _=>?_;simp only[hL x]
 rw[e];have hq:ts.Perm ((cs.map (·.1.v)).filter (fun x=>decide (x ∉ S))):=by
  refine ht.trans (List.Perm.filter _ ((hp.map (·.1)).trans ?_));unfold fN;rw[List.map_map];exact(List.reverse_perm cs).map _
 refine hq.eq_of_pairwise (le:=fun a b=>a<=b) (fun a b _ _ h1 h2=>Nat.le_antisymm h1 h2) hs ?_;exact(h.gA.imp (fun h=>Nat.le_of_lt h)).filter _
def Te(w:World)(l:List Nat)(e:Ending)(w':World):Prop:=∃v,e=.returned v/\Below w.heap.size w w'/\bD w' w.heap.size v l
theorem OV(w:World):(zeroValue 181).run prog w=.ok (.agg #[.int .u32 0,.int .u64 0,.slice none 0 0]) w:=Tryz.zeroValue181 w
theorem Tf(h:pK w base lv cs):Calls prog 100 #[lv] w (Te w (kT (cs.map (·.1)))):=by
 obtain⟨la,lk,rfl⟩:=az h.row;have H:=aa h;have HZ:=aa OV;have HZU:=aa Dt;have vy:∀(t:TypeId)(W:World),(Instr.makeMap t none).run prog W=.ok (.map (some W.heap.size)) (W.alloc (.map #[] 0)):=fun _ _=>rfl;clear h;obtain⟨R,HR⟩:∃R,Hid (kT (cs.map (·.1))=R):=⟨_,aa rfl⟩;rw[HR.out];obtain⟨M,hM⟩:∃M,M=cs.length:=⟨_,rfl⟩;rw[<- hM];have HM:Hid (M=cs.length/\M<=24):=aa ⟨hM,by rw[hM];exact H.o.len⟩;clear hM;have HO0:Hid (Lk (w.alloc (.map #[] 0)) w.heap.size (fN (cs.take 0))):=aa (bN.made w prog 26 iU sA);have kE:Hid (Below w.heap.size w (w.alloc (.map #[] 0))):=aa ai;go_enter func100,ntmps100;go_wp2_with fail;go_loopw [22] (fun vi wr=>∃j:Nat,vi=.int .i64 (j:Int)/\j<=M/\Hid (Lk wr w.heap.size (fN (cs.take j)))/\Hid (Below w.heap.size w wr)) (fun vi _=>M-(intOf vi).toNat)
 case atStart=>exact⟨0,rfl,Nat.zero_le _,HO0,kE⟩
 case round=>
  obtain⟨j,rfl,hj,HO,HB⟩:=hrel;clear HO0 kE;generalize wr=W1 at *;by_cases hlt:j<M
  ·have Ji:(j:Int)<(M:Int):=by omega
   have wj:IntKind.i64.wrap ((j:Int)+1)=((j+1:Nat):Int):=by have:=HM.o;rw[ax]<;>omega
   obtain⟨p,hp⟩:∃x,cs[j]? = some x:=⟨_,List.getElem?_eq_getElem (by have:=HM.o;omega)⟩;have HP:=aa hp;have HG:=aa (fQ (H.o.v32 p (List.mem_of_getElem? hp)));obtain⟨g,rfl⟩:∃g,la=some ⟨g,0,none⟩:=by
    obtain⟨-,⟨h1,h2⟩|⟨g,_,_,h1,_⟩⟩:=H.o.row
    ·have:=HM.o;omega
    ·cases h1;exact⟨g,rfl⟩
   obtain⟨q0,q1,q2⟩:=IU (aV H.o.row HB.out) hp;obtain⟨c,na,nk⟩:=p;have cX:Hid (Below W1.heap.size W1 (W1.alloc (.cells #[.int .u32 (c.v:Int),.int .u64 (c.k:Int),.slice na c.n.length nk] 181))):=aa ai;have pZ:Hid (Lk (W1.alloc (.cells #[.int .u32 (c.v:Int),.int .u64 (c.k:Int),.slice na c.n.length nk] 181)) w.heap.size (fN (cs.take j))):=aa (HO.out.kept (cX.o.block _ HO.out.lt));have mC:Hid (Lk ((W1.alloc (.cells #[.int .u32 (c.v:Int),.int .u64 (c.k:Int),.slice na c.n.length nk] 181)).alloc (.cells #[.int .u32 0,.int .u64 0,.slice none 0 0] 181)) w.heap.size (fN (cs.take j))):=aa (pZ.o.kept ((MapKept.heap_alloc _ _).2 _ pZ.o.lt));obtain⟨hput,iT⟩:=OU H.o hp;have ny:=aa hput;have EE:=aa iT;clear hp hput iT;go_wp2_with (first | (at_lookup;refine bW _ rfl _ _ _ _ rfl 181 b8 dr Tryz.underlying241 (HZ.o _) w.heap.size _ rfl pZ.o c.v rfl HG.o ?_;unfold pU;rw[EE.o];simp only[Option.map_none,Option.getD_none,Option.isSome_none]) | (at_mapUpdate;refine eH _ rfl _ _ _ _ rfl 181 b8 dr Tryz.underlying241 w.heap.size _ rfl mC.o c.v (c,na,nk) rfl rfl HG.o ?_;intro es clock hm;rw[ny.o]at hm;have gl:=aa hm;clear hm));have Et:Hid (Below w.heap.size w (setBlock ((W1.alloc (.cells #[.int .u32 (c.v:Int),.int .u64 (c.k:Int),.slice na c.n.length nk] 181)).alloc (.cells #[.int .u32 0,.int .u64 0,.slice none 0 0] 181)) w.heap.size (.map es clock))):=aa (by
    have ht:aF (fun x=>w.heap.size<=x) w (setBlock ((W1.alloc (.cells #[.int .u32 (c.v:Int),.int .u64 (c.k:Int),.slice na c.n.length nk] 181)).alloc (.cells #[.int .u32 0,.int .u64 0,.slice none 0 0] 181)) w.heap.size (.map es clock)):=(((aF.aW HB.out).alloc _).alloc _).setBlock _ _ (.inl (Nat.le_refl _));exact ht.below (Nat.le_refl _) (fun _ h=>h))
   exact⟨⟨j+1,by go_num,ae,gl,Et⟩,by simp[intOf];omega⟩
  ·have Ji:¬(j:Int)<(M:Int):=by omega
   have ZW:Hid (Lk W1 w.heap.size (fN cs)):=aa (by have:=HO.out;rwa [List.take_of_length_le (by have:=HM.o;omega)]at this);clear HO;have yQ:Hid (Below W1.heap.size W1 ((W1.alloc (.map #[] 0)).alloc (.cells #[.map (some W1.heap.size)] 243))/\((W1.alloc (.map #[] 0)).alloc (.cells #[.map (some W1.heap.size)] 243)).heap.size=W1.heap.size+1+1):=aa ⟨ai.alloc ah _,ah⟩;have mC:Hid (Lk ((W1.alloc (.map #[] 0)).alloc (.cells #[.map (some W1.heap.size)] 243)) w.heap.size (fN cs)):=aa (ZW.o.kept (yQ.o.1.block _ ZW.o.lt));have fC:Hid (jt ((W1.alloc (.map #[] 0)).alloc (.cells #[.map (some W1.heap.size)] 243)) W1.heap.size []/\((W1.alloc (.map #[] 0)).alloc (.cells #[.map (some W1.heap.size)] 243)).heap[W1.heap.size+1]? = some (.cells #[.map (some W1.heap.size)] 243)):=aa ⟨(bN.made W1 prog 26 iU (fun _:Unit=>Value.agg #[])).kept ((MapKept.heap_alloc _ _).2 _ ah),by
    have:=heap_alloc_new (W1.alloc (.map #[] 0)) (.cells #[.map (some W1.heap.size)] 243);simpa using this⟩
   have Zc:Hid (w.heap.size<W1.heap.size):=aa ZW.o.lt;clear ZW;go_wp2_with (at_range;refine oV _ rfl _ _ rfl 181 Tryz.underlying241 w.heap.size _ rfl mC.o ?_;intro ob0 uQ);try go_frame
   rw[yQ.o.2]at uQ;have HI0:=aa uQ;clear uQ;obtain⟨lb,C8⟩:∃x,x=W1.heap.size:=⟨_,rfl⟩;obtain⟨qc,hqc⟩:∃x,x=W1.heap.size+1:=⟨_,rfl⟩;obtain⟨ib,hib⟩:∃x,x=W1.heap.size+1+1:=⟨_,rfl⟩;have HN:Hid (w.heap.size<lb/\lb<qc/\qc<ib):=aa (by have:=Zc.o;omega);have nQ:Hid (Below w.heap.size w (((W1.alloc (.map #[] 0)).alloc (.cells #[.map (some W1.heap.size)] 243)).alloc ob0)):=aa ((HB.out.trans (yQ.o.1.mono HB.out.size)).alloc (by rw[yQ.o.2];have:=HB.out.size;omega) _);have gp:Hid (jt (((W1.alloc (.map #[] 0)).alloc (.cells #[.map (some W1.heap.size)] 243)).alloc ob0) lb []/\(((W1.alloc (.map #[] 0)).alloc (.cells #[.map (some W1.heap.size)] 243)).alloc ob0).heap[qc]? = some (.cells #[.map (some lb)] 243)):=aa (by
    subst C8 hqc;exact⟨fC.o.1.kept ((MapKept.heap_alloc _ _).2 _ fC.o.1.lt),by rw[(MapKept.heap_alloc _ _).2 _ (by rw[yQ.o.2];omega)];exact fC.o.2⟩)
   rw[<- hib]at HI0;rw[<- hib,<- hqc];generalize ((W1.alloc (.map #[] 0)).alloc (.cells #[.map (some W1.heap.size)] 243)).alloc ob0=W4 at *;clear C8 hqc hib fC mC yQ Zc HB vy;go_loopw [] (fun wr=>∃dn todo S,Hid (cu prog 26 iU sA wr w.heap.size ib (fN cs) todo)/\Hid (Below w.heap.size w wr)/\Hid (jt wr lb S/\wr.heap[qc]? = some (.cells #[.map (some lb)] 243))/\Hid ((dn++todo).Perm (fN cs))/\Hid (∀z,z∈S ↔ ∃q∈dn,∃b∈cs,b.1.v∈q.2.1.n/\E8 q.2.1 b.1 z)) (fun wr=>wr.rangeLeft w.heap.size ib)
   case atStart=>exact⟨[],_,[],HI0,nQ,gp,aa (List.Perm.refl _),aa ah⟩
   case round=>
    obtain⟨dn,todo,S,HI,HB,HS,HP,HZS⟩:=hrel;clear HI0 nQ gp;generalize wr=W5 at *;go_wp2_with (at_next;refine oW _ rfl _ rfl w.heap.size ib (fN cs) todo rfl HI.out ?_ ?_)
    ·rintro rfl;have aeI:Hid (∀z,z∈S↔AJ (cs.map (·.1)) z):=aa (fun z=>by
      have hp:dn.Perm (fN cs):=by simpa using HP.o
      rw[HZS.out z];unfold AJ;constructor
      ·rintro⟨q,hq,b,hb,h1,h2⟩;obtain⟨x,hx,rfl⟩:=List.mem_map.1 (hp.mem_iff.1 hq);exact⟨x.1,List.mem_map.2 ⟨x,List.mem_reverse.1 hx,rfl⟩,b.1,List.mem_map.2 ⟨b,hb,rfl⟩,h1,h2.1,h2.2⟩
      ·rintro⟨a,ha,b,hb,h1,h2,h3⟩;obtain⟨x,hx,rfl⟩:=List.mem_map.1 ha;obtain⟨y,hy,rfl⟩:=List.mem_map.1 hb;exact⟨(x.1.v,x),hp.mem_iff.2 (List.mem_map.2 ⟨x,List.mem_reverse.2 hx,rfl⟩),y,hy,h1,h2,h3⟩)
     have YO:Hid (Lk W5 w.heap.size (fN cs)):=aa HI.out.map;clear HP HZS HI;go_wp2_with (at_range;refine oV _ rfl _ _ rfl 181 Tryz.underlying241 w.heap.size _ rfl YO.o ?_;intro ob5 UI);try go_frame
     obtain⟨ie,U3⟩:∃x,x=W5.heap.size:=⟨_,rfl⟩;have HI0:=aa UI;have Ox:Hid (qc<ie):=aa (by rw[U3];exact(Array.getElem?_eq_some_iff.1 HS.out.2).1);have kE:Hid (Below w.heap.size w (W5.alloc ob5)):=aa (HB.out.alloc HB.out.size _);have EA:Hid (jt (W5.alloc ob5) lb S/\(W5.alloc ob5).heap[qc]? = some (.cells #[.map (some lb)] 243)):=aa ⟨HS.out.1.kept ((MapKept.heap_alloc _ _).2 _ HS.out.1.lt),by rw[(MapKept.heap_alloc _ _).2 _ (Array.getElem?_eq_some_iff.1 HS.out.2).1];exact HS.out.2⟩;rw[<- U3]at HI0;rw[<- U3];generalize W5.alloc ob5=W6 at *;clear U3 UI HS HB YO;go_loopw [2] (fun v wr=>∃(todo:List (Nat×kA))(acc:List Nat),Hid (bD wr (ie+1) v acc)/\Hid (cu prog 26 iU sA wr w.heap.size ie (fN cs) todo)/\Hid (Below w.heap.size w wr)/\Hid (jt wr lb S/\wr.heap[qc]? = some (.cells #[.map (some lb)] 243))/\Hid (∃dn,(dn++todo).Perm (fN cs)/\acc=(dn.map (·.1)).filter (fun x=>decide (x ∉ S)))) (fun _ wr=>wr.rangeLeft w.heap.size ie)
     case atStart=>exact⟨_,[],aa ⟨rfl,.inl ⟨rfl,rfl⟩⟩,HI0,kE,EA,aa ⟨[],List.Perm.refl _,rfl⟩⟩
     case round=>
      generalize u2=ov at *;obtain⟨todo,acc,nx,HI,HB,HS,HA⟩:=hrel;clear HI0 kE EA;generalize wr=W7 at *;have HAL:Hid (acc.length<=24):=aa (by
       obtain⟨dn,hp,rfl⟩:=HA.out;have h1:=hp.length_eq;have h2:=List.length_filter_le (fun x=>decide (x ∉ S)) (dn.map (·.1));have h3:=H.o.len;unfold fN at h1;simp only[List.length_append,List.length_map,List.length_reverse]at h1 h2;omega)
      go_wp2_with (at_next;refine oW _ rfl _ rfl w.heap.size ie (fN cs) todo rfl HI.out ?_ ?_)
      ·rintro rfl;have HC:=aa (Lj nx.out (Nat.lt_of_le_of_lt HAL.o af));go_wp2_with fail;refine HC.o.mono ?_;rintro e w8⟨ts,rfl,hr8,hp8,Ki,ht8⟩;have HQ:Hid (Below w.heap.size w w8/\bD w8 w.heap.size ov R):=aa (by
        refine⟨?_,?_⟩
        ·have h0:aF (fun x=>w.heap.size<=x) w W7:=aF.aW HB.out;exact(h0.trans ht8 (fun x hx e=>by have:=aG nx.out x (by first | exact e | exact e.symm);have:=Ox.o;have:=HN.o;omega)).below (Nat.le_refl _) (fun _ h=>h)
        ·obtain⟨dn,hp,rfl⟩:=HA.out;rw[List.append_nil]at hp;rw[<- HR.out,<- Td H.o aeI.o hp hp8 Ki];exact aU hr8 (by have:=Ox.o;have:=HN.o;omega))
       clear hr8 hp8 Ki ht8 HC;go_wp2;go_ret;exact⟨ov,rfl,HQ.o.1,HQ.o.2⟩
      ·intro kv c na nk rs w1 rR hp qa rS hen;have XS:∀x,x≠ie->(setBlock w1 ie rR).heap[x]? = W7.heap[x]? := fun x hx=>by
        rcases qa with rfl | rfl
        ·exact bh _ hx
        ·exact bh _ hx
       have hb1:Below w.heap.size w (setBlock w1 ie rR):=by
        have h0:aF (fun x=>w.heap.size<=x) w W7:=aF.aW HB.out;have:aF (fun x=>w.heap.size<=x) w (setBlock w1 ie rR):=by
         have:=HN.o;have:=Ox.o;rcases qa with rfl | rfl
         ·exact h0.setBlock _ _ (.inl ae)
         ·exact h0.drew.setBlock _ _ (.inl ae)
        exact this.below (Nat.le_refl _) (fun _ h=>h)
       have jC:Hid (jt (setBlock w1 ie rR) lb S/\(setBlock w1 ie rR).heap[qc]? = some (.cells #[.map (some lb)] 243)):=aa ⟨HS.out.1.kept (XS _ (by have:=HN.o;have:=Ox.o;omega)),by rw[XS _ (by have:=Ox.o;omega)];exact HS.out.2⟩;have HR8:Hid (bD (setBlock w1 ie rR) (ie+1) ov acc):=aa (bH nx.out (fun x hx=>XS x (by have:=aG nx.out x hx;omega)));have yV:=aa hb1;have HKV:Hid ((kv,(c,na,nk))∈fN cs):=aa (by
        obtain⟨dn,hq,-⟩:=HA.out;exact hq.mem_iff.1 (List.mem_append.2 (.inr (hp.mem_iff.2 ah))))
       have HGV:Hid (Good prog 26 (iU kv)):=aa (by
        obtain⟨x,hx,he⟩:=List.mem_map.1 HKV.o;cases he;exact fQ (H.o.v32 _ (List.mem_reverse.1 hx)))
       have Lm:=aa rS;have Xm:Hid (todo.length=rs.length+1/\W7.rangeLeft w.heap.size ie=todo.length):=aa ⟨by have:=hp.length_eq;simpa using this,HI.out.left⟩;have IV:Hid (∃dn,(dn++[(kv,(c,na,nk))]++rs).Perm (fN cs)/\acc=(dn.map (·.1)).filter (fun x=>decide (x ∉ S))):=aa (by
        obtain⟨dn,hq,he⟩:=HA.out;refine⟨dn,List.Perm.trans ?_ hq,he⟩;rw[List.append_assoc];exact List.Perm.append_left dn (by simpa using hp.symm))
       clear XS hb1 hp qa rS HI HB HS nx HA;simp only[iU]at hen;generalize setBlock w1 ie rR=W8 at *;have q0:W8.cell? ⟨qc,0,none⟩=some (.map (some lb)):=by rw[aq jC.o.2];rfl
       have HU9:Hid (Below W8.heap.size W8 (W8.alloc (.cells #[] 245))):=aa ai;have p8:Hid (jt (W8.alloc (.cells #[] 245)) lb S/\(W8.alloc (.cells #[] 245)).heap[qc]? = some (.cells #[.map (some lb)] 243)):=aa ⟨jC.o.1.kept (HU9.o.block _ jC.o.1.lt),(HU9.o.block _ (Array.getElem?_eq_some_iff.1 jC.o.2).1).trans jC.o.2⟩;have HI9:Hid (cu prog 26 iU sA (W8.alloc (.cells #[] 245)) w.heap.size ie (fN cs) rs):=aa (Lm.o.kept (HU9.o.block _ Lm.o.map.lt) (HU9.o.block _ Lm.o.lt));have rM:Hid (Below w.heap.size w (W8.alloc (.cells #[] 245))):=aa (yV.o.trans (HU9.o.mono yV.o.size));have HR9:Hid (bD (W8.alloc (.cells #[] 245)) (ie+1) ov acc):=aa (aV HR8.o HU9.o);have HLE:Hid (ie+1<=(W8.alloc (.cells #[] 245)).heap.size/\acc.length<=100000):=aa ⟨HI9.o.lt,by have:=HAL.o;omega⟩;by_cases hlt:kv∈S
       ·have SN:Hid (decide (kv∈S)=true):=aa (decide_eq_true hlt);have K8:Hid (∃dn,(dn++rs).Perm (fN cs)/\acc=(dn.map (·.1)).filter (fun x=>decide (x ∉ S))):=aa (by
         obtain⟨dn,hq,he⟩:=IV.o;refine⟨_,hq,?_⟩;rw[List.map_append,List.filter_append,<- he];simp[hlt])
        have PG:Hid ((W8.alloc (.cells #[] 245)).rangeLeft w.heap.size ie<W7.rangeLeft w.heap.size ie):=aa (by have:=Xm.o;rw[HI9.o.left];omega);clear hlt IV;go_wp2_with (at_lookup;refine bW _ rfl _ _ _ _ rfl 245 b8 dr Tryz.underlying243 (HZU.o _) lb _ rfl jC.o.1 kv rfl HGV.o ?_;rw[uB,rB];try rw[SN.o]);go_roundw
        case rel=>exact⟨rs,acc,HR9,HI9,rM,p8,K8⟩
        case measure=>exact PG.o
       ·have SN:Hid (decide (kv∈S)=false):=aa (decide_eq_false hlt);have K8:Hid (∃dn,(dn++rs).Perm (fN cs)/\acc++[kv]=(dn.map (·.1)).filter (fun x=>decide (x ∉ S))):=aa (by
         obtain⟨dn,hq,he⟩:=IV.o;refine⟨_,hq,?_⟩;rw[List.map_append,List.filter_append,<- he];simp[hlt])
        clear hlt IV;obtain⟨oa,ok,rfl⟩:=az HR9.o;go_wp2_with (first | (at_lookup;refine bW _ rfl _ _ _ _ rfl 245 b8 dr Tryz.underlying243 (HZU.o _) lb _ rfl jC.o.1 kv rfl HGV.o ?_;rw[uB,rB];try rw[SN.o]) | (at_builtin;refine nc rfl _ _ rfl (ie+1) _ acc rfl HR9.o kv 1 (by simp[go_sem]) HLE.o.2 HLE.o.1 ?_;intro v5 w5 h5 ha));obtain⟨⟨q1,q2,q3,q4,q5⟩,-⟩:=ha;have hsz:((W8.alloc (.cells #[] 245)).alloc (.cells #[.int .u32 (kv:Int)] 26)).heap.size=(W8.alloc (.cells #[] 245)).heap.size+1:=by simp
        have hlt:=HLE.o.1;have hblk:∀x,x<=ie->w5.heap[x]? = (W8.alloc (.cells #[] 245)).heap[x]? := fun x hx=>by
         rw[q5 x (by rw[hsz];omega) (fun e=>by have:=aG HR9.o x (by first | exact e | exact e.symm);omega)];exact(MapKept.heap_alloc _ _).2 _ ae
        have hN:=HN.o;have hN5:=Ox.o;have OW:Hid (cu prog 26 iU sA w5 w.heap.size ie (fN cs) rs):=aa (HI9.o.kept (hblk _ ae) (hblk _ (Nat.le_refl _)));have Tg:Hid (Below w.heap.size w w5):=aa (rM.o.trans ⟨by rw[q1];rfl,by rw[q2];rfl,by rw[q3];rfl,by rw[hsz]at q4;omega,fun k hk=>hblk k ae⟩);have nN:Hid (jt w5 lb S/\w5.heap[qc]? = some (.cells #[.map (some lb)] 243)):=aa ⟨p8.o.1.kept (hblk _ ae),(hblk _ ae).trans p8.o.2⟩;have akd:=aa h5;have PG:Hid (w5.rangeLeft w.heap.size ie<W7.rangeLeft w.heap.size ie):=aa (by have:=Xm.o;rw[OW.o.left];omega);clear q1 q2 q3 q4 q5 hsz hlt hblk hN hN5 h5;go_roundw
        case rel=>exact⟨rs,acc++[kv],akd,OW,Tg,nN,K8⟩
        case measure=>exact PG.o
    ·intro kv c na nk rs w1 rR hp qa rS hen;have XS:∀x,x≠ib->(setBlock w1 ib rR).heap[x]? = W5.heap[x]? := fun x hx=>by
      rcases qa with rfl | rfl
      ·exact bh _ hx
      ·exact bh _ hx
     have hb1:Below w.heap.size w (setBlock w1 ib rR):=by
      have h0:aF (fun x=>w.heap.size<=x) w W5:=aF.aW HB.out;have:aF (fun x=>w.heap.size<=x) w (setBlock w1 ib rR):=by
       have:=HN.o;rcases qa with rfl | rfl
       ·exact h0.setBlock _ _ (.inl ae)
       ·exact h0.drew.setBlock _ _ (.inl ae)
      exact this.below (Nat.le_refl _) (fun _ h=>h)
     have gy:Hid (jt (setBlock w1 ib rR) lb S/\(setBlock w1 ib rR).heap[qc]? = some (.cells #[.map (some lb)] 243)):=aa ⟨HS.out.1.kept (XS _ (by have:=HN.o;omega)),by rw[XS _ (by have:=HN.o;omega)];exact HS.out.2⟩;have mS:=aa hb1;have HPP:=aa hp;have HKV:Hid ((kv,(c,na,nk))∈fN cs):=aa (HP.o.mem_iff.1 (List.mem_append.2 (.inr (hp.mem_iff.2 ah))));have HI6:=aa rS;have Xm:Hid (todo.length=rs.length+1/\W5.rangeLeft w.heap.size ib=todo.length):=aa ⟨by have:=hp.length_eq;simpa using this,HI.out.left⟩;clear XS hb1 hp qa rS HI HB HS;generalize setBlock w1 ib rR=W6 at *;have HPC:Hid ((c,na,nk)∈cs/\kv=c.v):=aa (by
      obtain⟨x,hx,he⟩:=List.mem_map.1 HKV.o;cases he;exact⟨List.mem_reverse.1 hx,rfl⟩)
     have HNR:=aa (H.o.km _ HPC.o.1);have Su:Hid (Below W6.heap.size W6 (W6.alloc (.cells #[.int .u32 (c.v:Int),.int .u64 (c.k:Int),.slice na c.n.length nk] 181))/\(W6.alloc (.cells #[.int .u32 (c.v:Int),.int .u64 (c.k:Int),.slice na c.n.length nk] 181)).heap[W6.heap.size]? = some (.cells #[.int .u32 (c.v:Int),.int .u64 (c.k:Int),.slice na c.n.length nk] 181)):=aa ⟨aj.alloc (Nat.le_refl _) _,heap_alloc_new _ _⟩;have HI7:Hid (cu prog 26 iU sA (W6.alloc (.cells #[.int .u32 (c.v:Int),.int .u64 (c.k:Int),.slice na c.n.length nk] 181)) w.heap.size ib (fN cs) rs):=aa (HI6.o.kept (Su.o.1.block _ HI6.o.map.lt) (Su.o.1.block _ HI6.o.lt));have rL:Hid (Below w.heap.size w (W6.alloc (.cells #[.int .u32 (c.v:Int),.int .u64 (c.k:Int),.slice na c.n.length nk] 181))):=aa (mS.o.trans (Su.o.1.mono mS.o.size));have jP:Hid (jt (W6.alloc (.cells #[.int .u32 (c.v:Int),.int .u64 (c.k:Int),.slice na c.n.length nk] 181)) lb S/\(W6.alloc (.cells #[.int .u32 (c.v:Int),.int .u64 (c.k:Int),.slice na c.n.length nk] 181)).heap[qc]? = some (.cells #[.map (some lb)] 243)):=aa ⟨gy.o.1.kept (Su.o.1.block _ gy.o.1.lt),(Su.o.1.block _ (Array.getElem?_eq_some_iff.1 gy.o.2).1).trans gy.o.2⟩;obtain⟨ab,hab⟩:∃x,x=W6.heap.size:=⟨_,rfl⟩;have HAB:Hid ((W6.alloc (.cells #[.int .u32 (c.v:Int),.int .u64 (c.k:Int),.slice na c.n.length nk] 181)).heap[ab]? = some (.cells #[.int .u32 (c.v:Int),.int .u64 (c.k:Int),.slice na c.n.length nk] 181)/\ab≠lb):=aa ⟨by rw[hab];exact Su.o.2,by have:=gy.o.1.lt;omega⟩;clear HI6 mS gy;go_wp2_with fail;rw[<- hab];generalize W6.alloc (.cells #[.int .u32 (c.v:Int),.int .u64 (c.k:Int),.slice na c.n.length nk] 181)=W7 at *;clear hab Su hen;go_loopw [51] (fun vk wr=>∃(k:Nat)(S':List Nat),vk=.int .i64 (k:Int)/\k<=c.n.length/\Hid (cu prog 26 iU sA wr w.heap.size ib (fN cs) rs)/\Hid (Below w.heap.size w wr)/\Hid (jt wr lb S'/\wr.heap[qc]? = some (.cells #[.map (some lb)] 243))/\Hid (wr.heap[ab]? = some (.cells #[.int .u32 (c.v:Int),.int .u64 (c.k:Int),.slice na c.n.length nk] 181)/\ab≠lb)/\Hid (∀z,z∈S'↔z∈S\/∃y∈c.n.take k,∃b∈cs,b.1.v=y/\E8 c b.1 z)) (fun vk _=>c.n.length-(intOf vk).toNat)
     case atStart=>exact⟨0,S,rfl,Nat.zero_le _,HI7,rL,jP,HAB,aa ah⟩
     case round=>
      obtain⟨k,S',rfl,hk,Lm,yV,jC,IV,XC⟩:=hrel;clear HI7 rL jP HAB;generalize wr=W8 at *;by_cases hkt:k<c.n.length
      ·have FE:(k:Int)<(c.n.length:Int):=by omega
       obtain⟨g,rfl,vB⟩:∃g,na=some ⟨g,0,none⟩/\c.n.length<=maxLen:=by
        obtain⟨-,⟨h1,h2⟩|⟨g,cap,_,h1,_,_,X9,hcm,_⟩⟩:=HNR.o.1
        ·omega
        ·cases h1;exact⟨g,rfl,ae⟩
       unfold maxLen at vB;have wk:IntKind.i64.wrap ((k:Int)+1)=((k+1:Nat):Int):=by rw[ax]<;>omega
       obtain⟨y,hy⟩:∃x,c.n[k]? = some x:=⟨_,List.getElem?_eq_getElem hkt⟩;have HY:=aa hy;have HGY:=aa (fQ (HNR.o.2 y (List.mem_of_getElem? hy)));have q0:=iw (aV HNR.o.1 yV.o) hy;have a0:W8.cell? ⟨ab,0,none⟩=some (.int .u32 (c.v:Int)):=by rw[aq IV.o.1];rfl
       have a1:W8.cell? ⟨ab,1,none⟩=some (.int .u64 (c.k:Int)):=by rw[aq IV.o.1];rfl
       have a2:W8.cell? ⟨ab,2,none⟩=some (.slice (some ⟨g,0,none⟩) c.n.length nk):=by rw[aq IV.o.1];rfl
       obtain⟨⟨b,nb,nbk⟩,hp,Xk,iT⟩|⟨iT,hno⟩:=Tb H.o y
       ·have EE:=aa iT;have HPB:=aa (show(b,nb,nbk)∈cs/\b.v=y from⟨hp,Xk⟩);clear hp Xk iT hy;have rM:Hid (Below W8.heap.size W8 (W8.alloc (.cells #[.int .u32 (b.v:Int),.int .u64 (b.k:Int),.slice nb b.n.length nbk] 181))):=aa ai;have p8:Hid (jt (W8.alloc (.cells #[.int .u32 (b.v:Int),.int .u64 (b.k:Int),.slice nb b.n.length nbk] 181)) lb S'/\(W8.alloc (.cells #[.int .u32 (b.v:Int),.int .u64 (b.k:Int),.slice nb b.n.length nbk] 181)).heap[qc]? = some (.cells #[.map (some lb)] 243)):=aa ⟨jC.o.1.kept (rM.o.block _ jC.o.1.lt),(rM.o.block _ (Array.getElem?_eq_some_iff.1 jC.o.2).1).trans jC.o.2⟩;have e0:=Ax rM.o a0;have e1:=Ax rM.o a1;have e2:=Ax rM.o a2;have HMT:=aa (S4 (y:=b) p8.o.2 p8.o.1 (by have:=HN.o;omega) c (H.o.v32 _ HPC.o.1) (H.o.v32 _ HPB.o.1) (xa:=some ⟨g,0,none⟩) (xn:=c.n.length) (xc:=nk) (ya:=nb) (yn:=b.n.length) (yc:=nbk));go_wp2_with (at_lookup;refine bW _ rfl _ _ _ _ rfl 181 b8 dr Tryz.underlying241 (HZ.o _) w.heap.size _ rfl Lm.o.map y rfl HGY.o ?_;unfold pU;rw[EE.o];simp only[Option.map_some,Option.getD_some,Option.isSome_some]);refine HMT.o.mono ?_;rintro e w9⟨S9,rfl,hs9,hz9,ht9,hc9⟩;have Ys:∀x,x<W8.heap.size->x≠lb->w9.heap[x]? = W8.heap[x]? := fun x hx hne=>by
         exact(ht9.block x (by have:=rM.o.size;omega) hne).trans (rM.o.block _ hx)
        have OW:Hid (cu prog 26 iU sA w9 w.heap.size ib (fN cs) rs):=aa (Lm.o.kept (Ys _ Lm.o.map.lt (by have:=HN.o;omega)) (Ys _ Lm.o.lt (by have:=HN.o;omega)));have Tg:Hid (Below w.heap.size w w9):=aa (by
         have h0:aF (fun x=>w.heap.size<=x) w w9:=((aF.aW yV.o).alloc _).trans ht9 (fun x _ e=>by have:=HN.o;omega);exact h0.below (Nat.le_refl _) (fun _ h=>h))
        have nN:=aa (show _/\_ from⟨hs9,hc9⟩);have aak:Hid (w9.heap[ab]? = some (.cells #[.int .u32 (c.v:Int),.int .u64 (c.k:Int),.slice (some ⟨g,0,none⟩) c.n.length nk] 181)/\ab≠lb):=aa ⟨(Ys _ (Array.getElem?_eq_some_iff.1 IV.o.1).1 IV.o.2).trans IV.o.1,IV.o.2⟩;have aal:Hid (∀z,z∈S9↔z∈S\/∃y∈c.n.take (k+1),∃b∈cs,b.1.v=y/\E8 c b.1 z):=aa (fun z=>by
         rw[hz9 z,XC.out z,uE HY.o];refine or_congr Iff.rfl ⟨fun h=>⟨_,HPB.o.1,HPB.o.2,h⟩,?_⟩;rintro⟨b',hb',hv,hm⟩;rw[Tc H.o hb' HPB.o.1 (hv.trans HPB.o.2.symm)]at hm;exact hm)
        clear hs9 hz9 ht9 hc9 Ys Lm yV jC IV XC HMT p8 rM a0 a1 a2 e0 e1 e2 q0;go_wp2;go_roundw
        case rel=>exact⟨k+1,S9,by go_num,ae,OW,Tg,nN,aak,aal⟩
        case measure=>simp[intOf];omega
       ·have EE:=aa iT;have aal:Hid (∀z,z∈S'↔z∈S\/∃y∈c.n.take (k+1),∃b∈cs,b.1.v=y/\E8 c b.1 z):=aa (fun z=>by
         rw[XC.out z,uE HY.o];refine⟨.inl,fun h=>h.elim id ?_⟩;rintro⟨b',hb',hv,-⟩;exact absurd hv (hno _ hb'))
        clear iT hno hy;have rM:Hid (Below W8.heap.size W8 (W8.alloc (.cells #[.int .u32 0,.int .u64 0,.slice none 0 0] 181))):=aa ai;have nN:Hid (jt (W8.alloc (.cells #[.int .u32 0,.int .u64 0,.slice none 0 0] 181)) lb S'/\(W8.alloc (.cells #[.int .u32 0,.int .u64 0,.slice none 0 0] 181)).heap[qc]? = some (.cells #[.map (some lb)] 243)):=aa ⟨jC.o.1.kept (rM.o.block _ jC.o.1.lt),(rM.o.block _ (Array.getElem?_eq_some_iff.1 jC.o.2).1).trans jC.o.2⟩;have OW:Hid (cu prog 26 iU sA (W8.alloc (.cells #[.int .u32 0,.int .u64 0,.slice none 0 0] 181)) w.heap.size ib (fN cs) rs):=aa (Lm.o.kept (rM.o.block _ Lm.o.map.lt) (rM.o.block _ Lm.o.lt));have Tg:Hid (Below w.heap.size w (W8.alloc (.cells #[.int .u32 0,.int .u64 0,.slice none 0 0] 181))):=aa (yV.o.trans (rM.o.mono yV.o.size));have aak:Hid ((W8.alloc (.cells #[.int .u32 0,.int .u64 0,.slice none 0 0] 181)).heap[ab]? = some (.cells #[.int .u32 (c.v:Int),.int .u64 (c.k:Int),.slice (some ⟨g,0,none⟩) c.n.length nk] 181)/\ab≠lb):=aa ⟨(rM.o.block _ (Array.getElem?_eq_some_iff.1 IV.o.1).1).trans IV.o.1,IV.o.2⟩;clear XC rM a0 a1 a2;go_wp2_with (at_lookup;refine bW _ rfl _ _ _ _ rfl 181 b8 dr Tryz.underlying241 (HZ.o _) w.heap.size _ rfl Lm.o.map y rfl HGY.o ?_;unfold pU;rw[EE.o];simp only[Option.map_none,Option.getD_none,Option.isSome_none]);go_roundw
        case rel=>exact⟨k+1,S',by go_num,ae,OW,Tg,nN,aak,aal⟩
        case measure=>simp[intOf];omega
      ·have FE:¬(k:Int)<(c.n.length:Int):=by omega
       have HPN:Hid (((dn++[(kv,(c,na,nk))])++rs).Perm (fN cs)):=aa (by
        refine List.Perm.trans ?_ HP.o;rw[List.append_assoc];exact(List.Perm.append_left dn (by simpa using HPP.o.symm)))
       have HZN:Hid (∀z,z∈S' ↔ ∃q∈dn++[(kv,(c,na,nk))],∃b∈cs,b.1.v∈q.2.1.n/\E8 q.2.1 b.1 z):=aa (fun z=>by
        rw[XC.out z,HZS.out z,List.take_of_length_le ae];constructor
        ·rintro(⟨q,hq,r⟩|⟨y,hy,b,hb,rfl,hm⟩)
         ·exact⟨q,List.mem_append.2 (.inl hq),r⟩
         ·exact⟨(kv,(c,na,nk)),List.mem_append.2 (.inr ah),b,hb,hy,hm⟩
        ·rintro⟨q,hq,b,hb,h1,h2⟩;rcases List.mem_append.1 hq with hq | hq
         ·exact .inl ⟨q,hq,b,hb,h1,h2⟩
         ·rw[List.mem_singleton]at hq;subst hq;exact .inr ⟨_,h1,b,hb,rfl,h2⟩)
       have PG:Hid (W8.rangeLeft w.heap.size ib<W5.rangeLeft w.heap.size ib):=aa (by have:=Xm.o;rw[Lm.o.left];omega);clear XC IV;go_wp2;go_roundw
       case rel=>exact⟨_,rs,S',Lm,yV,jC,HPN,HZN⟩
       case measure=>exact PG.o
end
end
section
open Go.RowKit Go.Maps
open Go.ChangeMaps (setBlock)
abbrev fF(w:World)(b:Nat)(S:List Nat):Prop:=bN prog 26 iU (fun _:Unit=>Value.bool true) w b (S.map fun x=>(x,()))
theorem OX:(prog.info? 181).map (fun i=>(i.zero,i.size,i.bytes))=some (some (.agg #[.int .u32 0,.int .u64 0,.slice none 0 0]),3,40):=by kernel_rfl
section
variable {w:World} {ops:Array Oper} {rest:List Oper} {op:Oper} {a:Act} {Q:Exit->Act->World->Prop}
theorem s5(hgd:op.guard=none)(s x:Operand)(ho:op.op=.call { callee:=.builtin .append,args:=#[s,x],argTypes:=#[174,174] })(base:Nat)(v:Value)(l:List kA)(hs:a.eval s=v)(hown:jT w base v l)(y:kA)(c:Nat)(hx:a.eval x=.slice (some ⟨w.heap.size,0,none⟩) 1 c)(hl:l.length<=100000)(hbase:base<=w.heap.size)(k:∀v' w',jT w' base v' (l++[y])->lj v (w.alloc (.cells #[.int .u32 (y.1.v:Int),.int .u64 (y.1.k:Int),.slice y.2.1 y.1.n.length y.2.2] 181)) w' v'->wpList prog ops Q rest (a.put op.dst v') w') :
 wpList prog ops Q (op::rest) a (w.alloc (.cells #[.int .u32 (y.1.v:Int),.int .u64 (y.1.k:Int),.slice y.2.1 y.1.n.length y.2.2] 181)):=by
 refine dN hgd s x 174 ho base 181 _ 3 40 Tryz.underlying174 OX rfl af v l.length (iC l) hs (World.ownsRow.alloc hown _) ⟨w.heap.size,0,none⟩ 1 c [.int .u32 (y.1.v:Int),.int .u64 (y.1.k:Int),AX y] hx rfl (fun j u hj=>?_) (by simp[Value.oneCell']) (by grind [maxLen]) ae (by simp;omega) (fun v' w' h1 h2=>k v' w' ?_ h2)
 ·rw[bF,Nat.zero_add];simp_all
 ·unfold jT;rw[AY,List.length_append];exact h1
end
section
variable {w0 w w' W W':World} {pb db n gb gen N ob ib vb rb:Nat} {o o' gR:ar} {d d' gT:Dsk} {L:aC} {es:List aH} {vs:List ck} {lv Jp:Value} {cs:List kA}
structure wN(n pb db:Nat)(w:World)(o:ar)(d:Dsk)(L:aC)(lv:Value)(cs:List kA)(W:World)(o':ar)(d':Dsk):Prop where
 mv:au (fun _=>False) n pb db w o d W o' d' L
 row:jT W w.heap.size lv cs
 own:∀b,lv.ownBlock=some b->o' b=none
 km:∀p∈cs,bD W w.heap.size (AX p) p.1.n/\∀b,(AX p).ownBlock=some b->o' b=none
theorem wN.below(h:wN n pb db w o d L lv cs W o' d')(hb:Below W.heap.size W W'):wN n pb db w o d L lv cs W' o' d':=
 ⟨h.mv.below hb,aV h.row hb,h.own,fun p hp=>⟨aV (h.km p hp).1 hb,(h.km p hp).2⟩⟩
theorem wN.moved(h:wN n pb db w o d L lv cs W o' d')(hm:au (fun _=>False) n pb db W o' d' W' gR gT L):wN n pb db w o d L lv cs W' gR gT:=
 ⟨h.mv.trans hm (fun _ _ e=>e),hm.ownsRow h.row (fun b hb=>⟨h.own b hb,fun e=>e⟩),fun b hb=>hm.free (aL h.row b hb).1 (h.own b hb),
  fun p hp=>⟨hm.ownsRow (h.km p hp).1 (fun b hb=>⟨(h.km p hp).2 b hb,fun e=>e⟩),fun b hb=>hm.free (aL (h.km p hp).1 b hb).1 ((h.km p hp).2 b hb)⟩⟩
theorem wN.Ie(h:wN n pb db w o d L lv cs W o' d'){y:kA}{ob:Obj}(hr:jT W' w.heap.size Jp (cs++[y]))(ha:lj lv (W.alloc ob) W' Jp)(hy:bD W w.heap.size (AX y) y.1.n)(hyo:∀b,(AX y).ownBlock=some b->o' b=none):wN n pb db w o d L Jp (cs++[y]) W' o' d':=by
 obtain⟨hm,hf,hh,hz⟩:=ha.moved h.mv (fun x hx=>⟨h.own x hx,(aL h.row x hx).2⟩);have hk:∀p:kA,bD W w.heap.size (AX p) p.1.n->bD W' w.heap.size (AX p) p.1.n:=fun p hp=>
  bH hp (fun b hb=>hh b (aL hp b hb).1 (fun e=>jZ hp h.row af b hb e))
 refine⟨hm,hr,fun b hb=>(hf b hb).1,fun p hp=>?_⟩;grind [km]
theorem Fc{vs:List ck}{k:Nat}:∀c∈(vs.zipIdx k).filterMap (fun p=>if p.1.r=4294967295 then some (oH es p.2 p.1) else none),k<=c.v/\c.v<k+vs.length:=by
 grind [oH]
theorem Ln(vs:List ck):∀k,(((vs.zipIdx k).filterMap (fun p=>if p.1.r=4294967295 then some (oH es p.2 p.1) else none)).map (·.v)).Pairwise (· < ·):=by
 induction vs with
 |nil=>simp
 |cons x vs ih=>
   intro k;rw[List.zipIdx_cons,List.filterMap_cons];split
   ·grind
   ·rename_i c hc
    rw[List.map_cons,List.pairwise_cons];refine⟨fun y hy=>?_,ih (k+1)⟩;obtain⟨z,hz,rfl⟩:=List.mem_map.1 hy;have h1:=(Fc z hz).1;simp only at hc;split at hc
    ·cases hc;assumption
    grind
theorem ML{v:Nat}(h:∀x∈es,x.t.toNat<N/\x.h.toNat<N):∀y∈cT es v,y<N:=by
 have FL:∀(l acc:List Nat)(y:Nat),y∈l.foldl ix acc->y∈acc\/y∈l:=by
  intro l;induction l with
  |nil=>simp
  |cons x l ih=>
    grind [OM]
 intro y hy;rw[AR]at hy;rcases FL _ _ y hy with h1 | h1
 ·rcases FL _ _ y h1 with h2 | h2
  ·cases h2
  ·obtain⟨x,hx,rfl⟩:=List.mem_map.1 h2;grind [AK]
 ·obtain⟨x,hx,rfl⟩:=List.mem_map.1 h1;grind [MH]
noncomputable def j8(es:List aH)(vs:List ck)(j:Nat):List yS:=eo es (vs.take j)
theorem IW(es:List aH)(vs:List ck){j:Nat}(h:vs.length<=j):j8 es vs j=eo es vs:=by grind [j8,List.take_of_length_le]
theorem uF(es:List aH)(vs:List ck){j:Nat}{x:ck}(h:vs[j]? = some x):j8 es vs (j+1)=j8 es vs j++if x.r=4294967295 then [oH es j x] else []:=by
 grind [j8,eo,List.take_succ_eq_append_getElem]
theorem Lr(es:List aH)(vs:List ck)(j:Nat):(j8 es vs j).length<=(eo es vs).length:=by
 grind [j8,eo,List.take_append_drop]
theorem wN.pick(h:wN n pb db w o d L lv cs W o' d')(he:cs.map (·.1)=eo es vs)(hn:∀x∈es,x.t.toNat<vs.length/\x.h.toNat<vs.length)(hv:vs.length<=1000)(hl:(eo es vs).length<=24):pK W w.heap.size lv cs:=by
 have mn:∀p∈cs,p.1∈eo es vs:=fun p hp=>by grind
 refine⟨h.row,fun p hp=>⟨aU (h.km p hp).1 (Nat.zero_le _),fun y hy=>?_⟩,fun p hp=>?_,?_,?_⟩
 ·obtain⟨⟨x,i⟩,-,hq⟩:=List.mem_filterMap.1 (mn p hp);split at hq
  ·have hq:=Option.some.inj hq;rw[<- hq]at hy;have:=ML hn y hy;omega
  grind
 ·have:=(Fc _ (mn p hp)).2;omega
 ·have:=Ln (es:=es) vs 0;rw[show cs.map (·.1.v)=(cs.map (·.1)).map (·.v) by simp,he];exact this
 grind
end
end
section
open Go.RowKit Go.Maps
theorem eQ{b:Bool}{l:List aH}{e:aH}:e∈aJ b l↔e∈l/\e.t≠e.h/\∀x∈l,same x e->rk e<=rk x:=by
 have h:=bT b l;refine⟨h.mem e,fun⟨h1,h2,h3⟩=>?_⟩;obtain⟨y,hy,hs⟩:=h.all e h1 h2;obtain⟨g1,-,g3⟩:=h.mem y hy;have h6:=Qt (Nat.le_antisymm (g3 e h1 hs.symm) (h3 y g1 hs));rw[<- aH.ext' hs.1 hs.2 h6.1 h6.2];exact hy
theorem rD(b b':Bool)(l:List aH):aJ b (aJ b' l)=aJ b l:=((bT b' l).trans (bT b _)).unique (bT b l)
theorem OY(es:List aH):aX (aJ false es)=aX es:=by grind [aX,rD]
theorem Th(es:List aH):eW (aJ false es)=eW es:=by grind [eW,rD]
theorem Ti(l:List Nat):∀(acc:List Nat)(y:Nat),y∈l.foldl (fun a x=>if x∈a then a else a++[x]) acc↔y∈acc\/y∈l:=by
 induction l with
 |nil=>simp
 |cons x l ih=>
   grind
theorem nh{es:List aH}{v:Nat}{x:aH}:x∈aX es v↔x∈aJ false es/\x.t.toNat=v:=by
 grind [aX,Hx,fV]
theorem qW{es:List aH}{v:Nat}{x:aH}:x∈eW es v↔x∈aJ false es/\x.h.toNat=v:=by
 grind [eW,Hx,fV,eQ]
theorem oJ{es:List aH}{v w:Nat}:w∈cT es v ↔ ∃x∈aJ false es,x.t.toNat=v/\x.h.toNat=w\/x.h.toNat=v/\x.t.toNat=w:=by
 grind [cT,SJ,Ti,nh,qW]
theorem Dy{es:List aH}{v:Nat}:v ∉ cT es v:=fun h=>by
 grind [oJ,eQ,UInt32.toNat_inj]
theorem IX:∀cs:List yS,cs≠[]->∃a∈cs,∀b∈cs,¬gF b a:=by
 intro cs;induction cs with
 |nil=>simp
 |cons x cs ih=>
   intro _;by_cases e:cs=[]
   ·subst e;exact⟨x,ah,fun b hb=>by grind [gF]⟩
   grind [gF]
theorem AZ{cs:List yS}{v:Nat}:v∈kT cs↔(∃c∈cs,c.v=v)/\¬AJ cs v:=by
 grind [kT]
theorem V5{cs:List yS}(hn:∀a∈cs,∀b∈cs,a.v=b.v->a=b)(h:cs≠[]):kT cs≠[]:=by
 obtain⟨a,ha,hl⟩:=IX cs h;have:a.v∈kT cs:=by
  rw[AZ];refine⟨⟨a,ha,rfl⟩,?_⟩;rintro⟨x,hx,y,hy,-,hne,⟨h1,h2⟩|⟨h1,h2⟩⟩
  ·grind
  grind [gF]
 grind
theorem Ls{cs:List yS}{a b:yS}(ha:a∈cs)(hb:b∈cs)(h1:a.v∈kT cs)(h2:b.v∈kT cs)(hne:a.v≠b.v):b.v ∉ a.n:=fun hn=>by
 rw[AZ]at h1 h2;by_cases h:gF a b
 ·exact h2.2 ⟨a,ha,b,hb,hn,hne,.inl ⟨h,rfl⟩⟩
 ·exact h1.2 ⟨a,ha,b,hb,hn,hne,.inr ⟨h,rfl⟩⟩
theorem uG{es:List aH}{vs:List ck}{c:yS}:c∈eo es vs ↔ ∃(i:Nat)(x:ck),vs[i]? = some x/\x.r=4294967295/\c=oH es i x:=by
 unfold eo;rw[List.mem_filterMap];constructor
 ·grind
 ·rintro⟨i,x,hx,hr,rfl⟩;exact⟨(x,i),by grind,by grind⟩
theorem Tj{es:List aH}{vs:List ck}:∀a∈eo es vs,∀b∈eo es vs,a.v=b.v->a=b:=by
 intro a ha b hb e;obtain⟨i,x,h1,-,rfl⟩:=uG.1 ha;obtain⟨j,y,h2,-,rfl⟩:=uG.1 hb;have e:i=j:=e;grind
theorem fK{es:List aH}{vs:List ck}{v:Nat}(h:v∈aB es vs):∃x,vs[v]? = some x/\x.r=4294967295/\oH es v x∈eo es vs:=by
 obtain⟨⟨c,hc,rfl⟩,-⟩:=AZ.1 h;obtain⟨i,x,h1,h2,rfl⟩:=uG.1 hc;exact⟨x,h1,h2,hc⟩
theorem jU{es:List aH}{vs:List ck}{v:Nat}(h:v∈aB es vs):v<vs.length:=by
 grind [fK]
theorem jv{es:List aH}{vs:List ck}{v w:Nat}(hv:v∈aB es vs)(hw:w∈aB es vs):w ∉ cT es v:=by
 by_cases e:v=w
 ·grind [Dy]
 ·obtain⟨x,-,-,hx⟩:=fK hv;obtain⟨y,-,-,hy⟩:=fK hw;exact Ls hx hy hv hw e
theorem gL(es:List aH)(vs:List ck):(aB es vs).Pairwise (· < ·):=by
 have key:∀(vs:List ck)(k:Nat),(((vs.zipIdx k).filterMap fun p=>if p.1.r=4294967295 then some (oH es p.2 p.1) else none).map (·.v)).Pairwise (· < ·)/\∀v∈((vs.zipIdx k).filterMap fun p=>if p.1.r=4294967295 then some (oH es p.2 p.1) else none).map (·.v),k<=v:=by
  intro vs;induction vs with
  |nil=>simp
  |cons x vs ih=>
    intro k;obtain⟨h1,h2⟩:=ih (k+1);rw[List.zipIdx_cons,List.filterMap_cons];by_cases hx:x.r=4294967295
    ·simp only[hx,if_true,List.map_cons,List.pairwise_cons,List.mem_cons];refine⟨⟨fun y hy=>?_,h1⟩,?_⟩
     ·have:=h2 y hy;assumption
     ·rintro y (rfl | hy)
      ·simp
      grind
    grind
 grind [aB,kT,eo]
theorem OZ{es:List aH}{vs:List ck}{i:Nat}{x:ck}(h:vs[i]? = some x)(hx:x.r=4294967295):aB es vs≠[]:=
 V5 Tj (fun e=>by
  have:=(uG (es:=es)).2 ⟨i,x,h,hx,rfl⟩;grind)
theorem Lt{es:List aH}{vs:List ck}(h:∀(i:Nat)(x:ck),vs[i]? = some x->x.r≠4294967295):aB es vs=[]:=by
 cases e:aB es vs with
 |nil=>rfl
 |cons v l=>
   obtain⟨x,h1,h2,-⟩:=fK (es:=es) (vs:=vs) (v:=v) (by grind);grind
theorem Fe(lv:UInt32)(vs:List ck)(w:Nat):(ky lv vs w).length=vs.length:=by grind [ky]
theorem Dz(lv:UInt32)(vs:List ck)(w u:Nat):(ky lv vs w)[u]? = if w=u then (vs[u]?).map (fun x=>⟨x.r,if x.l<lv then lv else x.l,x.g+1⟩) else vs[u]? := by
 grind [ky]
theorem Ff(lv:UInt32)(l:List Nat):∀vs:List ck,(l.foldl (ky lv) vs).length=vs.length:=by
 induction l with
 |nil=>simp
 |cons w l ih=>grind [Fe]
theorem V6(lv:UInt32)(l:List Nat)(u:Nat):∀vs:List ck,((l.foldl (ky lv) vs)[u]?).map (·.r)=(vs[u]?).map (·.r):=by
 induction l with
 |nil=>simp
 |cons w l ih=>
   grind [Dz]
theorem xU(lv:UInt32)(l:List Nat)(u:Nat)(h:u ∉ l):∀vs:List ck,(l.foldl (ky lv) vs)[u]? = vs[u]? := by
 induction l with
 |nil=>simp
 |cons w l ih=>
   grind [Dz]
section
variable {es:List aH} {was vs:List ck} {done gen i v u:Nat}
theorem IY:(fY es was done gen vs i v).length=vs.length:=by grind [fY,Ff]
theorem aam(h:u≠v):((fY es was done gen vs i v)[u]?).map (·.r)=(vs[u]?).map (·.r):=by
 grind [fY,V6]
theorem A3(h:u≠v)(hn:u ∉ cT es v):(fY es was done gen vs i v)[u]? = vs[u]? := by
 grind [fY,xU]
theorem Tk:(fY es was done gen vs i v)[v]? = (vs[v]?).map fun x=>⟨UInt32.ofNat (done+i),UInt32.ofNat (gen+1),x.g⟩:=by
 grind [fY,xU,Dy]
theorem Fg(ch:List Nat):∀(k:Nat)(vs:List ck),((ch.zipIdx k).foldl (fun vs p=>fY es was done gen vs p.2 p.1) vs).length=vs.length:=by
 induction ch with
 |nil=>simp
 |cons v ch ih=>grind [List.zipIdx_cons,IY]
theorem V7{ch:List Nat}(h:u ∉ ch):∀(k:Nat)(vs:List ck),(((ch.zipIdx k).foldl (fun vs p=>fY es was done gen vs p.2 p.1) vs)[u]?).map (·.r)=(vs[u]?).map (·.r):=by
 induction ch with
 |nil=>simp
 |cons v ch ih=>grind [List.zipIdx_cons,aam]
theorem xV{ch:List Nat}(h:u ∉ ch)(hn:∀v∈ch,u ∉ cT es v):∀(k:Nat)(vs:List ck),((ch.zipIdx k).foldl (fun vs p=>fY es was done gen vs p.2 p.1) vs)[u]? = vs[u]? := by
 induction ch with
 |nil=>simp
 |cons v ch ih=>grind [List.zipIdx_cons,A3]
theorem O0{ch:List Nat}(hr:ch.Pairwise (· < ·))(hn:∀v∈ch,u ∉ cT es v):∀(k:Nat)(vs:List ck),ch[i]? = some u->((ch.zipIdx k).foldl (fun vs p=>fY es was done gen vs p.2 p.1) vs)[u]? = (vs[u]?).map fun x=>⟨UInt32.ofNat (done+(k+i)),UInt32.ofNat (gen+1),x.g⟩:=by
 induction ch generalizing i with
 |nil=>simp
 |cons v ch ih=>
   intro k vs h;rw[List.pairwise_cons]at hr;rw[List.zipIdx_cons,List.foldl_cons];cases i with
   |zero=>
     cases h;rw[xV (fun e=>by grind) (fun x hx=>hn x (by grind)),Tk];rfl
   |succ i=>
     rw[List.getElem?_cons_succ]at h;rw[ih hr.2 (fun x hx=>hn x (by grind)) (k+1) _ h,A3 (fun e=>by have:=hr.1 _ (List.mem_of_getElem? h);omega) (hn v ah),show k+1+i=k+(i+1) by omega]
end
section
variable {es:List aH} {was:List ck} {done gen i u:Nat}
theorem Fh(ch:List Nat):(cU es was done gen ch).length=was.length:=Fg ch 0 was
theorem uH{ch:List Nat}(h:u ∉ ch):((cU es was done gen ch)[u]?).map (·.r)=(was[u]?).map (·.r):=V7 h 0 was
theorem IZ{ch:List Nat}(h:u ∉ ch)(hn:∀v∈ch,u ∉ cT es v):(cU es was done gen ch)[u]? = was[u]? := xV h hn 0 was
theorem wR(h:(aB es was)[i]? = some u):(cU es was done gen (aB es was))[u]? = (was[u]?).map fun x=>⟨UInt32.ofNat (done+i),UInt32.ofNat (gen+1),x.g⟩:=by
 have:=O0 (es:=es) (was:=was) (done:=done) (gen:=gen) (i:=i) (u:=u) (gL es was) (fun v hv=>jv hv (List.mem_of_getElem? h)) 0 was h;rw[Nat.zero_add]at this;exact this
end
def jw(vs:List ck)(i:Nat):Bool:=match vs[i]? with
 |some x=>x.r != 4294967295
 |none=>false
structure kU(N:Nat)(es:List aH)(vs:List ck)(done:Nat):Prop where
 len:vs.length=N
 top:N<=1000
 ends:∀x∈es,∃a b,vs[x.t.toNat]? = some a/\vs[x.h.toNat]? = some b/\a.r=4294967295/\b.r=4294967295
 low:∀(i:Nat)(x:ck),vs[i]? = some x->x.r≠4294967295->x.r.toNat<done
 one:∀(i j:Nat)(x y:ck),vs[i]? = some x->vs[j]? = some y->x.r≠4294967295->x.r=y.r->i=j
 count:((List.range N).filter (jw vs)).length=done
theorem xW{l:List Nat}{p q r:Nat->Bool}(hr:∀x∈l,r x=(p x || q x))(hd:∀x∈l,p x=true->q x=true->False):(l.filter r).length=(l.filter p).length+(l.filter q).length:=by
 induction l with
 |nil=>rfl
 |cons a l ih=>
   grind
theorem Lu{ch:List Nat}{N:Nat}(hr:ch.Pairwise (· < ·))(hl:∀v∈ch,v<N):(List.range N).filter (fun v=>decide (v∈ch))=ch:=
 Gg (f:=id) (List.pairwise_lt_range.filter _) hr (fun x=>by grind)
section
variable {N done gen:Nat} {es:List aH} {vs:List ck}
theorem kU.ni(h:kU N es vs done):done<=N:=by
 have:=List.length_filter_le (jw vs) (List.range N);grind [count]
theorem I0{es:List aH}{ch:List Nat}{x:aH}:x∈gG es ch↔x∈aJ false es/\x.t.toNat ∉ ch/\x.h.toNat ∉ ch:=by
 grind [gG]
theorem V8{E:Nat->List aH}{A:Nat->Bool}{ins:List aH}{v:UInt32}{y:aH}(h:y∈oF E A ins v):∃a∈ins,∃b∈E v.toNat,y=⟨a.t,b.h,UInt64.ofNat (a.x.toNat+b.x.toNat),v⟩/\a.t≠b.h/\A a.t.toNat=false/\A b.h.toNat=false/\a.x.toNat+b.x.toNat<9223372036854775808/\∀x∈E a.t.toNat,x.h.toNat=b.h.toNat->a.x.toNat+b.x.toNat<x.x.toNat:=by
 grind [oF,jE]
theorem uI{ch:List Nat}{x:aH}(h:x∈fR es ch):x.t.toNat ∉ ch/\x.h.toNat ∉ ch/\(∃y∈aJ false es,y.t=x.t)/\∃y∈aJ false es,y.h=x.h:=by
 grind [fR,I0,iH,V8,qW,nh]
theorem jV{i:Nat}:jw vs i=true ↔ ∃x,vs[i]? = some x/\x.r≠4294967295:=by
 grind [jw]
theorem kU.next(h:kU N es vs done)(hd:done+(aB es vs).length<=1000):kU N (aJ false (fR es (aB es vs))) (cU es vs done gen (aB es vs)) (done+(aB es vs).length):=by
 have hr:∀u,u ∉ aB es vs->∀y,(cU es vs done gen (aB es vs))[u]? = some y->∃x,vs[u]? = some x/\x.r=y.r:=fun u hu y hy=>by
  grind [uH]
 have ho:∀u,u∈aB es vs->∀y,(cU es vs done gen (aB es vs))[u]? = some y->∃i,(aB es vs)[i]? = some u/\y.r=UInt32.ofNat (done+i)/\i<(aB es vs).length:=fun u hu y hy=>by
  obtain⟨i,hi,e⟩:=List.getElem_of_mem hu;have hi':(aB es vs)[i]? = some u:=by grind
  grind [wR]
 have Ug:∀i,i<(aB es vs).length->(UInt32.ofNat (done+i)).toNat=done+i:=fun i hi=>by grind [UInt32.toNat_ofNat']
 refine⟨by rw[Fh,h.len],h.top,fun x hx=>?_,fun i y hy hn=>?_,fun i j x y hi hj hn e=>?_,?_⟩
 ·obtain⟨h1,h2,⟨y,hy,ey⟩,⟨z,hz,ez⟩⟩:=uI (eQ.1 hx).1;grind [ends,eQ,uH]
 ·by_cases hc:i∈aB es vs
  ·grind
  ·obtain⟨x,hx,e⟩:=hr i hc y hy;have:=h.low i x hx (by grind);grind
 ·by_cases hc:i∈aB es vs<;>by_cases hc':j∈aB es vs
  ·grind
  ·obtain⟨k,hk,e1,Bw⟩:=ho i hc x hi;obtain⟨z,hz,e2⟩:=hr j hc' y hj;have:=h.low j z hz (by grind);grind
  ·obtain⟨k,hk,e1,Bw⟩:=ho j hc' y hj;obtain⟨z,hz,e2⟩:=hr i hc x hi;have:=h.low i z hz (by grind);grind
  grind [one]
 ·have key:=xW (l:=List.range N) (p:=jw vs) (q:=fun v=>decide (v∈aB es vs)) (r:=jw (cU es vs done gen (aB es vs))) (fun i hi=>?_) (fun i hi h1 h2=>?_)
  ·rw[key,h.count,Lu (gL es vs) (fun v hv=>by rw[<- h.len];exact jU hv)]
  ·by_cases hc:i∈aB es vs
   ·obtain⟨k,hk,e⟩:=List.getElem_of_mem hc;have Bw:(aB es vs)[k]? = some i:=by grind
    have:=wR (done:=done) (gen:=gen) Bw;obtain⟨x,hx,-⟩:=fK hc;rw[hx]at this;have h2:jw (cU es vs done gen (aB es vs)) i=true:=by
     rw[jV];refine⟨_,this,fun e=>?_⟩;have e:UInt32.ofNat (done+k)=4294967295:=e;have:=congrArg UInt32.toNat e;grind
    grind
   grind [jV,uH]
  grind [jV,fK]
theorem kU.all(h:kU N es vs done):aB es vs=[]↔done=N:=by
 constructor
 ·intro e;have:(List.range N).filter (jw vs)=List.range N:=by
   rw[List.filter_eq_self];intro i hi;rw[List.mem_range]at hi;rw[jV];have hi':i<vs.length:=by grind [len]
   refine⟨vs[i],List.getElem?_eq_getElem hi',fun e2=>?_⟩;exact OZ (es:=es) (List.getElem?_eq_getElem hi') e2 e
  grind [count]
 ·intro e;refine Lt fun(i:Nat)(x:ck)hx hn=>?_;have hi:=aN hx;have h1:(List.range N).filter (jw vs)=List.range N:=List.filter_sublist.eq_of_length (by grind [count]);rw[List.filter_eq_self]at h1;obtain⟨y,hy,hy'⟩:=jV.1 (h1 i (List.mem_range.2 (by grind [len])));grind
end
end
section
open Go.RowKit Go.Maps
open Go.ChangeMaps (setBlock)
section
variable {w0 w w' W W':World} {pb db n gb gen N ob ib vb rb done base:Nat} {o o' gR:ar} {d d' gT:Dsk} {L:aC} {es:List aH} {vs:List ck} {lv Jp vv x4 x5:Value} {cs:List kA}
def s6(n pb db:Nat)(w:World)(o:ar)(d:Dsk)(L:aC)(rb gb gen done:Nat)(vv:Value)(ch:List Nat)(e:Ending)(w':World):Prop:=
 ∃mb ov S d' o',e=.returned (.int .i64 0)/\au (·=rb) n pb db w o d w' o' d' L/\dy w' rb pb gb gen done (.map (some mb)) ov vv/\bD w' w.heap.size ov ch/\(∀b,ov.ownBlock=some b->o' b=none)/\fF w' mb S/\w.heap.size<=mb/\o' mb=none/\∀z,z∈S↔z∈ch
theorem jx{w:World}{base g cap i:Nat}{l:List ck}{x:ck}(h:dL w base (.slice (some ⟨g,0,none⟩) l.length cap) l)(hi:l[i]? = some x) :
 w.cell? ⟨g,i*3,none⟩=some (.int .u32 (x.r.toNat:Int))/\w.cell? ⟨g,i*3+1,none⟩=some (.int .u32 (x.l.toNat:Int))/\w.cell? ⟨g,i*3+2,none⟩=some (.int .u32 (x.g.toNat:Int)):=by
 have hc:∀(j:Nat)(u:Value),(cJ l)[j]? = some u->w.cell? ⟨g,j,none⟩=some u:=fun j u hj=>by
  have:=World.ownsRow.cells h (g:=g) rfl j u hj;grind [bF]
 refine⟨hc _ _ ?_,hc _ _ ?_,hc _ _ ?_⟩
 ·have:=iG hi (j:=0) af;grind
 ·rw[iG hi af];rfl
 ·rw[iG hi af];rfl
theorem V9(i o s:Nat)(x:ck):SC (i:Int) (o:Int) (s:Int) (x.l.toNat:Int) (x.g.toNat:Int)=(SK i o s x:Int):=by
 grind [SK,SC]
theorem yK(HW:aP)(h:fJ w0 w pb db n o d L gb gen vs.length ob ib vb es)(hr:dy w rb pb gb gen done x4 x5 vv)(hro:qU w0 w o rb gb ob ib vb)(hvv:dL w base vv vs)(mj:∀b,vv.ownBlock=some b->o b=none)(wy:∀v,v<vs.length->(eW es v).length*(aX es v).length<=100000)(hlen:(eo es vs).length<=24) :
 Calls prog 64 #[ptrTo rb] w (s6 n pb db w o d L rb gb gen done vv (aB es vs)):=by
 obtain⟨va,vk,rfl⟩:=az hvv;have H:=aa h;have HR:=aa hr;have GQ:=aa hro;have HVV:=aa hvv;have vI:=aa mj;have HD:=aa wy;have HLEN:=aa hlen;have vy:∀(t:TypeId)(W:World),(Instr.makeMap t none).run prog W=.ok (.map (some W.heap.size)) (W.alloc (.map #[] 0)):=fun _ _=>rfl;obtain⟨R,hR⟩:∃R,R=s6 n pb db w o d L rb gb gen done (.slice va vs.length vk) (aB es vs):=⟨_,rfl⟩;have S0:=aa hR;rw[<- hR];obtain⟨M,hM⟩:∃M,M=vs.length:=⟨_,rfl⟩;have HM:Hid (M=vs.length/\M<=1000):=aa ⟨hM,by rw[hM];exact h.top⟩;have EA:Hid (wN n pb db w o d L (.slice none 0 0) [] w o d):=aa ⟨au.refl _ h.held.aY,World.ownsRow_nil _ _ _ _,(fun b e=>by cases e),fun p hp=>by cases hp⟩;obtain⟨c0,c1,c2,c3,c4,c5,c6,f6⟩:=hr.cells;have Jd:=hr.lt;rw[<- hM]at c6;clear h hr hro hvv mj wy hlen hR hM c0 c2 c3 c4 c5;unfold ptrTo at *;go_enter func64,ntmps64;go_wp2_with fail;clear c1 c6 f6;go_loopw [3,18] (fun lv vi wr=>∃(j:Nat)(cs:List kA)(o':ar)(d':Dsk),vi=.int .i64 (j:Int)/\j<=M/\Hid (cs.map (·.1)=j8 es vs j)/\Hid (wN n pb db w o d L lv cs wr o' d')) (fun _ vi _=>M-(intOf vi).toNat)
 case atStart=>exact⟨0,[],o,d,rfl,Nat.zero_le _,aa rfl,EA⟩
 case round=>
  generalize u3=lv at *;obtain⟨j,cs,o1,d1,rfl,hj,HCS,HS⟩:=hrel;clear EA;generalize wr=W1 at *;by_cases hlt:j<M
  ·have Ji:(j:Int)<(M:Int):=by omega
   have wj:IntKind.i64.wrap ((j:Int)+1)=((j+1:Nat):Int):=by grind [Hid.out,ax]
   have wu:IntKind.u32.wrap (j:Int)=(j:Int):=by grind [Hid.out,dY]
   obtain⟨x,hx⟩:∃x,vs[j]? = some x:=⟨_,List.getElem?_eq_getElem (by grind [Hid.out])⟩;have HX:=aa hx;obtain⟨g,rfl⟩:∃g,va=some ⟨g,0,none⟩:=by
    obtain⟨-,⟨h1,h2⟩|⟨g,_,_,h1,_⟩⟩:=HVV.o
    ·grind
    grind
   have hrow:dL W1 base (.slice (some ⟨g,0,none⟩) vs.length vk) vs:=HS.out.mv.ownsRow HVV.o (fun b hb=>⟨vI.o b hb,fun e=>e⟩);obtain⟨q0,q1,q2⟩:=jx hrow hx;clear hrow hx;have eK:=aa (HS.out.below (aj.alloc (Nat.le_refl _) (.cells #[.int .u32 (x.r.toNat:Int),.int .u32 (x.l.toNat:Int),.int .u32 (x.g.toNat:Int)] 55)));by_cases hrk:(x.r.toNat:Int)=4294967295
   ·have hkb:((x.r.toNat:Int) == 4294967295)=true:=by grind
    have HK:=aa (show x.r=4294967295 from UInt32.toNat_inj.1 (by grind));clear hrk;obtain⟨V,hV⟩:∃V,V=UInt32.ofNat j:=⟨_,rfl⟩;have hVj:V.toNat=j:=by grind [UInt32.toNat_ofNat',Hid.out]
    have HV:=aa (show V=UInt32.ofNat j/\V.toNat=j from⟨hV,hVj⟩);have Cc:Hid (dy (W1.alloc (.cells #[.int .u32 (x.r.toNat:Int),.int .u32 (x.l.toNat:Int),.int .u32 (x.g.toNat:Int)] 55)) rb pb gb gen done x4 x5 (.slice (some ⟨g,0,none⟩) vs.length vk)):=aa (HR.o.moved GQ.o.free eK.o.mv);have cX:Hid ((W1.alloc (.cells #[.int .u32 (x.r.toNat:Int),.int .u32 (x.l.toNat:Int),.int .u32 (x.g.toNat:Int)] 55)).heap[W1.heap.size]? = some (.cells #[.int .u32 (x.r.toNat:Int),.int .u32 (x.l.toNat:Int),.int .u32 (x.g.toNat:Int)] 55)/\o1 W1.heap.size=none):=aa ⟨heap_alloc_new _ _,HS.out.mv.aY.fresh (Nat.le_refl _)⟩;have WZ:Hid (o1 rb=none):=aa (HS.out.mv.free GQ.o.lt GQ.o.free);clear hV HS;go_wp2_with fail;obtain⟨xb,FI⟩:∃b,b=W1.heap.size:=⟨_,rfl⟩;rw[<- FI]at cX;rw[<- FI];generalize W1.alloc (.cells #[.int .u32 (x.r.toNat:Int),.int .u32 (x.l.toNat:Int),.int .u32 (x.g.toNat:Int)] 55)=W2 at *;clear FI q0 q1 q2;have HC:Hid (∀W',(∃o' d',au (fun _=>False) n pb db W2 o1 d1 W' o' d' L)->Calls prog 97 #[uC gb,E3 gb,.int .u32 (j:Int)] W' fun e w''=>e=.returned (.tuple #[.int .i64 ((eW es j).length:Int),.int .i64 ((aX es j).length:Int),.int .i64 ((oF (aX es) (fun _=>false) (eW es j) V).length:Int),.int .i64 0])/\∃o' d',au (fun _=>False) n pb db W2 o1 d1 w'' o' d' L):=aa (by
     rintro W'⟨o',d',hm⟩;have:=II HW ((H.o.moved eK.o.mv).moved hm) V (by rw[HV.o.2];have:=HM.o;omega) (by rw[HV.o.2];exact HD.o j (by have:=HM.o;omega));rw[HV.o.2]at this;refine this.mono ?_;rintro e w''⟨gT,gR,rfl,hm'⟩;exact⟨rfl,gR,gT,hm.trans hm' (fun _ _ e=>e)⟩)
    have HCE:Hid (∀W',(∃o' d',au (fun _=>False) n pb db W2 o1 d1 W' o' d' L)->W'.cell? ⟨rb,1,none⟩=some (ptrTo gb)):=aa (by
     rintro W'⟨o',d',hm⟩;exact(Cc.o.moved WZ.o hm).cells.2.1)
    unfold uC E3 ptrTo at *;refine cP (fun W'=>∃o' d',au (fun _=>False) n pb db W2 o1 d1 W' o' d' L) (by rfl) ag ⟨o1,d1,(au.refl _ eK.o.mv.aY).drew⟩ ?_;iterate 3 (refine qz ?_)
    refine qz ?_ (fun w' hw'=>by have hc:=HCE.o _ hw';go_simp<;>rfl);iterate 4 (refine qz ?_)
    refine qz ?_ (fun w' hw'=>by have hc:=HCE.o _ hw';go_simp<;>rfl);iterate 2 (refine qz ?_)
    refine qz ?_ (fun w' hw'=>by have hx:=wu;go_simp<;>rfl);refine qw (fun w' hw'=>HC.o _ hw') ?_;iterate 9 (refine qz ?_)
    refine wpQuiet_nil ?_;rintro W3⟨o3,d3,ep⟩;have fC:=aa (eK.o.moved ep);have Bf:Hid (dy W3 rb pb gb gen done x4 x5 (.slice (some ⟨g,0,none⟩) vs.length vk)/\o3 rb=none):=aa ⟨Cc.o.moved WZ.o ep,ep.free Cc.o.lt WZ.o⟩;have jB:Hid (W3.heap[xb]? = some (.cells #[.int .u32 (x.r.toNat:Int),.int .u32 (x.l.toNat:Int),.int .u32 (x.g.toNat:Int)] 55)/\o3 xb=none):=aa ⟨ep.heap cX.o.1 cX.o.2 (fun e=>e),ep.free (Array.getElem?_eq_some_iff.1 cX.o.1).1 cX.o.2⟩;have XT:=aa (IJ HW ((H.o.moved eK.o.mv).moved ep) j (by have:=HM.o;omega) Bf.o.1 rfl Bf.o.2);clear HC HCE eK Cc cX WZ ep;have XU:Hid (oH es j x=⟨j,SK (eW es j).length (aX es j).length (oF (aX es) (fun _=>false) (eW es j) V).length x,cT es j⟩):=aa (by unfold oH;rw[<- HV.o.1]);generalize (eW es j).length=n1 at *;generalize (aX es j).length=n2 at *;generalize (oF (aX es) (fun _=>false) (eW es j) V).length=n3 at *;unfold ptrTo at *;go_wp2_with fail;refine XT.o.mono ?_;rintro e w4⟨nv,d4,o4,rfl,eV,hr4,DG⟩;obtain⟨na,nk,rfl⟩:=az hr4;have gp:=aa (fC.o.moved eV);have PK:Hid (bD w4 w.heap.size (.slice na (cT es j).length nk) (cT es j)/\∀b,(Value.slice na (cT es j).length nk).ownBlock=some b->o4 b=none):=aa ⟨aU hr4 fC.o.mv.size,DG⟩;have hb4:=eV.heap jB.o.1 jB.o.2 (fun e=>e);have k0:w4.cell? ⟨xb,0,none⟩=some (.int .u32 (x.r.toNat:Int)):=by rw[aq hb4];rfl
    have k1:w4.cell? ⟨xb,1,none⟩=some (.int .u32 (x.l.toNat:Int)):=by rw[aq hb4];rfl
    have k2:w4.cell? ⟨xb,2,none⟩=some (.int .u32 (x.g.toNat:Int)):=by rw[aq hb4];rfl
    have hkey:=aa (fun W=>Ip (n1:Int) (n2:Int) (n3:Int) (x.r.toNat:Int) (x.l.toNat:Int) (x.g.toNat:Int) W ae (by have:=x.l.toNat_lt;omega) ae (by have:=x.g.toNat_lt;omega));rw[V9]at hkey;clear XT eV hr4 DG hb4 fC Bf jB;generalize SK n1 n2 n3 x=K at *;have ap8:Hid ((cs++[((⟨j,K,cT es j⟩:yS),(na,nk))]).map (·.1)=j8 es vs (j+1)):=aa (by
     rw[uF es vs HX.o,if_pos HK.o,XU.o,List.map_append,HCS.out];rfl)
    have Mj:Hid (cs.length<=100000):=aa (by
     have h1:=Lr es vs j;rw[<- HCS.out,List.length_map]at h1;have:=HLEN.o;omega)
    go_wp2_with fail;refine(hkey.o _).mono ?_;rintro e w5⟨rfl,oN⟩;have b6:=aa (gp.o.below oN);have Ox:Hid (bD w5 w.heap.size (.slice na (cT es j).length nk) (cT es j)/\∀b,(Value.slice na (cT es j).length nk).ownBlock=some b->o4 b=none):=aa ⟨aV PK.o.1 oN,PK.o.2⟩;obtain⟨la,lk,rfl⟩:=az b6.o.row;clear oN gp PK XU HCS k0 k1 k2 hkey;go_wp2_with (at_builtin;go_loud (refine s5 rfl _ _ rfl w.heap.size _ cs rfl b6.o.row ((⟨j,K,cT es j⟩:yS),(na,nk)) 1 (by rfl) Mj.o b6.o.mv.size ?_);intro v6 w6 h6 ha;have gy:=aa (b6.o.Ie h6 ha Ox.o.1 Ox.o.2);clear h6 ha);grind [intOf]
   ·have akf:Hid (cs.map (·.1)=j8 es vs (j+1)):=aa (by
     rw[uF es vs HX.o,if_neg (fun e=>hrk (by simp_all)),List.append_nil];assumption)
    clear HS HCS HX;go_wp2_with fail;go_roundw
    case rel=>exact⟨j+1,cs,o1,d1,by go_num,ae,akf,eK⟩
    case measure=>simp[intOf];omega
  ·have Ji:¬(j:Int)<(M:Int):=by omega
   have HCF:Hid (cs.map (·.1)=eo es vs):=aa (by grind [Hid.out,IW]);have MM:=aa (Tf (HS.out.pick HCF.o H.o.ends (by grind [Hid.out]) HLEN.o));rw[HCF.o]at MM;obtain⟨CH,Tl⟩:∃l,l=aB es vs:=⟨_,rfl⟩;rw[show kT (eo es vs)=CH from Tl.symm]at MM;obtain⟨KN,Jk⟩:∃k,k=CH.length:=⟨_,rfl⟩;have HKN:Hid (KN=CH.length/\KN<=24/\∀y∈CH,y<4294967296):=aa (by
    refine⟨Jk,?_,fun y hy=>?_⟩
    ·grind [aB,kT,Hid.out]
    ·rw[Tl]at hy;unfold aB kT at hy;obtain⟨c,hc,rfl⟩:=List.mem_map.1 (List.mem_filter.1 hy).1;have:=(Fc _ hc).2;grind [Hid.out])
   have MN:=aa Tl;have QV:Hid (o1 rb=none):=aa (HS.out.mv.free GQ.o.lt GQ.o.free);have nx:Hid (dy W1 rb pb gb gen done x4 x5 (.slice va vs.length vk)/\o1 rb=none):=aa ⟨HR.o.moved GQ.o.free HS.out.mv,HS.out.mv.free GQ.o.lt GQ.o.free⟩;have Cb:=aa HS.out.mv;obtain⟨la,lk,rfl⟩:=az HS.out.row;clear HCS HCF HS Tl;go_wp2_with fail;refine MM.o.mono ?_;rintro e w2⟨ov,rfl,hb2,hr2⟩;have Cc:=aa (nx.o.1.below hb2);have Wa:=aa (Cb.o.below hb2);obtain⟨oa,ok,rfl⟩:=az hr2;rw[<- Jk];have pZ:Hid (bD w2 w.heap.size (.slice oa KN ok) CH/\∀b,(Value.slice oa KN ok).ownBlock=some b->o1 b=none/\b<w2.heap.size/\w.heap.size<=b):=aa (by
    rw[Jk];exact⟨aU hr2 Cb.o.size,fun b hb=>⟨Cb.o.aY.fresh (aL hr2 b hb).2,(aL hr2 b hb).1,Nat.le_trans Cb.o.size (aL hr2 b hb).2⟩⟩)
   obtain⟨c0,c1,c2,c3,c4,c5,c6,f6⟩:=Cc.o.cells;have f5:=f6 5;have f4:=f6 4;have akg:=Cc.o.lt;clear Jk hb2 hr2 nx Cb MM c0 c1 c2 c3 c6 f6;have fO:o1 rb=none:=QV.o;have Ob:Hid (dy (((w2.setCell ⟨rb,5,none⟩ (.slice oa KN ok)).setCell ⟨rb,4,none⟩ (.map (some w2.heap.size))).alloc (.map #[] 0)) rb pb gb gen done (.map (some w2.heap.size)) (.slice oa KN ok) (.slice va vs.length vk)/\au (·=rb) n pb db w o d (((w2.setCell ⟨rb,5,none⟩ (.slice oa KN ok)).setCell ⟨rb,4,none⟩ (.map (some w2.heap.size))).alloc (.map #[] 0)) o1 d1 L/\bD (((w2.setCell ⟨rb,5,none⟩ (.slice oa KN ok)).setCell ⟨rb,4,none⟩ (.map (some w2.heap.size))).alloc (.map #[] 0)) w.heap.size (.slice oa KN ok) CH/\fF (((w2.setCell ⟨rb,5,none⟩ (.slice oa KN ok)).setCell ⟨rb,4,none⟩ (.map (some w2.heap.size))).alloc (.map #[] 0)) w2.heap.size []/\rb≠w2.heap.size/\o1 w2.heap.size=none/\w.heap.size<=w2.heap.size/\∀b,(Value.slice oa KN ok).ownBlock=some b->b≠w2.heap.size/\o1 b=none):=aa (by
    have h4:=(Cc.o.aj5 (.slice oa KN ok)).aj4 (.map (some w2.heap.size));have hne:rb≠w2.heap.size:=by omega
    have PE:∀b,(Value.slice oa KN ok).ownBlock=some b->b≠rb:=fun b hb e=>by have:=(pZ.o.2 b hb).2.2;omega
    have hsz:((w2.setCell ⟨rb,5,none⟩ (.slice oa KN ok)).setCell ⟨rb,4,none⟩ (.map (some w2.heap.size))).heap.size=w2.heap.size:=by simp
    have qa:=MapKept.heap_alloc ((w2.setCell ⟨rb,5,none⟩ (.slice oa KN ok)).setCell ⟨rb,4,none⟩ (.map (some w2.heap.size))) (.map #[] 0);have dZ:au (·=rb) n pb db w o d (w2.setCell ⟨rb,5,none⟩ (.slice oa KN ok)) o1 d1 L:=(Wa.o.mono (fun _ _ e=>e.elim)).setCell ⟨rb,5,none⟩ (.slice oa KN ok) fO (.inl rfl);have cR:=(dZ.setCell ⟨rb,4,none⟩ (.map (some w2.heap.size)) fO (.inl rfl)).alloc (.map #[] 0);refine⟨(qa.2 rb ae).trans h4,cR,?_,?_,hne,Wa.o.aY.fresh (Nat.le_refl _),Wa.o.size,fun b hb=>⟨by have:=(pZ.o.2 b hb).2.1;omega,(pZ.o.2 b hb).1⟩⟩
    ·refine bH pZ.o.1 (fun b hb=>?_);rw[qa.2 b (by rw[hsz];exact(pZ.o.2 b hb).2.1),Below.heap_setCell _ _ _ _ (PE b hb),Below.heap_setCell _ _ _ _ (PE b hb)]
    ·have:=bN.made ((w2.setCell ⟨rb,5,none⟩ (.slice oa KN ok)).setCell ⟨rb,4,none⟩ (.map (some w2.heap.size))) prog 26 iU (fun _:Unit=>Value.bool true);rw[hsz]at this;exact this)
   have T1:Hid (CH.Pairwise (· < ·)):=aa (by rw[MN.o];exact gL es vs);clear Cc Wa pZ QV fO;go_wp2_with fail;generalize hmb:w2.heap.size=mb at *;generalize ((w2.setCell ⟨rb,5,none⟩ (.slice oa KN ok)).setCell ⟨rb,4,none⟩ (.map (some mb))).alloc (.map #[] 0)=W3 at *;clear hmb c4 c5 f4 f5 akg;go_loopw [84] (fun vi wr=>∃k:Nat,vi=.int .i64 (k:Int)/\k<=KN/\Hid (dy wr rb pb gb gen done (.map (some mb)) (.slice oa KN ok) (.slice va vs.length vk)/\au (·=rb) n pb db w o d wr o1 d1 L/\bD wr w.heap.size (.slice oa KN ok) CH/\fF wr mb (CH.take k).reverse)) (fun vi _=>KN-(intOf vi).toNat)
   case atStart=>exact⟨0,rfl,Nat.zero_le _,aa ⟨Ob.o.1,Ob.o.2.1,Ob.o.2.2.1,Ob.o.2.2.2.1⟩⟩
   case round=>
    obtain⟨k,rfl,hk,HST⟩:=hrel;generalize wr=W4 at *;by_cases hkt:k<KN
    ·have FE:(k:Int)<(KN:Int):=by omega
     have wk:IntKind.i64.wrap ((k:Int)+1)=((k+1:Nat):Int):=by have:=HKN.o.2.1;rw[ax]<;>omega
     obtain⟨y,hy⟩:∃y,CH[k]? = some y:=⟨_,List.getElem?_eq_getElem (by have:=HKN.o.1;omega)⟩;obtain⟨g,rfl⟩:∃g,oa=some ⟨g,0,none⟩:=by
      obtain⟨-,⟨h1,h2⟩|⟨g,_,_,h1,_⟩⟩:=HST.out.2.2.1
      ·simp_all
      simp_all
     have q0:=iw (l:=CH) (by have:=HST.out.2.2.1;rwa [HKN.o.1]at this) hy;obtain⟨-,-,-,-,c4,-⟩:=HST.out.1.cells;have HG:=aa (fQ (HKN.o.2.2 y (List.mem_of_getElem? hy)));have ny:Hid (aS ((CH.take k).reverse.map fun x=>(x,())) y ()=((CH.take (k+1)).reverse.map fun x=>(x,()))):=aa (by
      obtain⟨hl,he⟩:=List.getElem?_eq_some_iff.1 hy;have hni:y ∉ CH.take k:=fun hm=>by
       obtain⟨j,hj,hje⟩:=List.getElem_of_mem hm;rw[List.length_take]at hj;rw[List.getElem_take]at hje;have:=List.pairwise_iff_getElem.1 T1.o j k ae hl ae;omega
      rw[EY (by simp_all),List.take_succ_eq_append_getElem hl,he];simp)
     clear hy;go_wp2_with (at_mapUpdate;refine eH _ rfl _ _ _ _ rfl 4 b8 dr Tryz.underlying131 mb _ rfl HST.out.2.2.2 y () rfl rfl HG.o ?_;intro es' clock cR;rw[ny.o]at cR;have eT:=aa cR;clear cR);have nB:Hid (dy (setBlock W4 mb (.map es' clock)) rb pb gb gen done (.map (some mb)) (.slice (some ⟨g,0,none⟩) KN ok) (.slice va vs.length vk)/\au (·=rb) n pb db w o d (setBlock W4 mb (.map es' clock)) o1 d1 L/\bD (setBlock W4 mb (.map es' clock)) w.heap.size (.slice (some ⟨g,0,none⟩) KN ok) CH/\fF (setBlock W4 mb (.map es' clock)) mb (CH.take (k+1)).reverse):=aa ⟨(bh (w:=W4) (b:=mb) (.map es' clock) Ob.o.2.2.2.2.1).trans HST.out.1,HST.out.2.1.turned Ob.o.2.2.2.2.2.1 (.inr Ob.o.2.2.2.2.2.2.1) ((aF.refl _ W4).setBlock _ _ (.inl rfl)),bH HST.out.2.2.1 (fun b hb=>bh _ (Ob.o.2.2.2.2.2.2.2 b hb).1),eT.o⟩;clear eT HST q0 c4;go_roundw
     case rel=>exact⟨k+1,by go_num,ae,nB⟩
     case measure=>simp[intOf];omega
    ·have FE:¬(k:Int)<(KN:Int):=by omega
     have HQ:Hid (R (.returned (.int .i64 0)) W4):=aa (by
      rw[S0.o,<- MN.o];obtain⟨h1,h2,h3,h4⟩:=HST.out;rw[List.take_of_length_le (by have:=HKN.o.1;omega)]at h4;exact⟨mb,.slice oa KN ok,CH.reverse,d1,o1,rfl,h2,h1,h3,fun b hb=>(Ob.o.2.2.2.2.2.2.2 b hb).2,h4,Ob.o.2.2.2.2.2.2.1,Ob.o.2.2.2.2.2.1,fun z=>by simp⟩)
     clear HST S0;go_wp2;exact HQ.o
end
end
section
open Go.RowKit Go.Maps
section
variable {S:Nat->Prop} {w0 w w' W W':World} {pb db n gb gen N ob ib vb rb done sb:Nat} {o o' gR:ar} {d d' gT:Dsk} {L L' xD:aC} {es l:List aH} {vs:List ck} {vv x4 x5 x6 v:Value} {name:Name} {fl:Bool}
theorem au.self(h:au S n pb db w o d w' o' d' L){f:gS}(hL:aA L name=some f):au S n pb db w o d w' o' d' (aS L name f):=
 h.congr (cC h.aY.keys) (fun x=>by
  rw[ay];by_cases e:x=name
  ·rw[if_pos e,e,hL]
  ·rw[if_neg e])
def kB(n pb db:Nat)(w:World)(o:ar)(d:Dsk)(L:aC)(name:Name)(e:Ending)(w':World):Prop:=
 ∃sb d' o',e=.returned (.tuple #[ptrTo sb,.int .i64 0])/\au (fun _=>False) n pb db w o d w' o' d' (aS L name (aw [] true))/\aD w' sb pb name 20/\w.heap.size<=sb/\o' sb=none
theorem kP(h:Held w0 w pb db n o d L)(hr:dy w rb pb gb gen done x4 x5 x6)(hro:o rb=none)(fw:bL name=true)(hno:aA L name=none) :
 Calls prog 101 #[ptrTo rb,.string name] w (kB n pb db w o d L name):=by
 have hc0:cY d L name=0:=by
  unfold cY;rw[h.tick,fw,hno];rfl
 have mJ:=aa (ku h.aY name (b9 fw));unfold fL at mJ;rw[hc0]at mJ;simp only[if_true]at mJ;have HOP:Hid (∀W o' d',aQ W pb db n o' d' (aS L name (aw [] true))->d'.dead=false->Calls prog 67 #[ptrTo pb,.string name,.int .i64 20] W (dU W pb name 20 0)):=aa (fun W o' d' hp hd=>by
  have h3:=dV (sz:=20) hp name (b9 fw) af af;rw[gQ hp (by rw[ay,if_pos rfl];rfl),hd]at h3;exact h3)
 obtain⟨c0,-⟩:=hr.cells;have HR:=aa hr;have GQ:=aa hro;have H:=aa h;clear h hr hro fw hno hc0;unfold ptrTo at *;go_enter func101,ntmps101;go_wp2_with fail;refine mJ.o.mono ?_;rintro e w1⟨d1,o1,rfl,dZ,hx1,-⟩;have hop:=aa (HOP.o w1 o1 d1 dZ.aY (hx1 trivial));have eY:=aa dZ;have c1:=(HR.o.moved GQ.o dZ).cells.1;clear dZ hx1 mJ c0 HOP;unfold ptrTo at *;go_wp2_with fail;refine hop.o.mono ?_;rintro e w2⟨v2,rfl,hb2,hs2,-⟩;obtain⟨sb,rfl,hst,BW⟩:=hs2 rfl;have HQ:Hid (kB n pb db w o d L name (.returned (.tuple #[ptrTo sb,.int .i64 0])) w2):=aa ⟨sb,d1,o1,rfl,eY.o.below hb2,hst,Nat.le_trans eY.o.size BW,eY.o.aY.fresh BW⟩;clear hb2 hs2 hst BW hop c1;unfold ptrTo at *;go_wp2;go_returns;exact HQ.o
def jy(S:Nat->Prop)(n pb db:Nat)(w:World)(o:ar)(d:Dsk)(L:aC)(name:Name)(es:List aH)(e:Ending)(w':World):Prop:=
 ∃fl d' o',e=.returned (.int .i64 0)/\au S n pb db w o d w' o' d' (aS L name (aw es fl))
theorem I1(HW:aP)(h:Held w0 w pb db n o d L)(hst:aD w sb pb name 20)(ho:o sb=none)(hL:aA L name=some (aw es fl))(hv:kF w v l)(mj:∀b,v.ownBlock=some b->o b=none)(Mz:need L+4*(es.length+l.length)<=131072)(hlen:es.length+l.length<65535) :
 Calls prog 151 #[ptrTo sb,v] w (jy (fun _=>False) n pb db w o d L name (es++l)):=by
 have J3:Hid (∀W o' d' kI rv(x:aH)(k:Nat),au (fun _=>False) n pb db w o d W o' d' (aS L name (aw (es++l.take k) kI))->l[k]? = some x->Rd W rv x.bytes->(∀y,rv.ownBlock=some y->o' y=none) ->
  Calls prog 72 #[ptrTo sb,rv] W fun e w'=>∃gT gR,e=.returned (.int .i64 0)/\au (fun _=>False) n pb db w o d w' gR gT (aS L name (aw (es++l.take (k+1)) false))):=aa (fun W o' d' kI rv x k hm hx Bc hro=>by
  obtain⟨hk,T6⟩:=List.getElem?_eq_some_iff.1 hx;refine(jY HW hm.aY (hst.moved hm ho (fun e=>e)) (hm.free hst.lt ho) af af (by rw[ay,if_pos rfl];rfl) (fp _) (by rw[List.length_map,List.length_append,List.length_take];omega) Bc x.eA hro).mono ?_;rintro e w'⟨c,gT,gR,rfl,cR,p7⟩;have he:(es++l.take k).map aH.bytes++[x.bytes]=(es++l.take (k+1)).map aH.bytes:=by rw[List.take_succ_eq_append_getElem hk,T6];simp
  have hh:=h.moved hm (fun _ e=>e.elim);have h0:c=0:=hh.pT cR p7 (by
   have h1:=cM L name (aw (es++l.take k) kI);have h2:=cE (es++l.take k) kI;rw[List.length_append,List.length_take]at h2;omega)
  subst h0;rw[if_pos rfl,iO,he]at cR;exact⟨gT,gR,rfl,hm.trans cR (fun _ _ e=>e)⟩)
 have HV:Hid (∀W o' d' L',au (fun _=>False) n pb db w o d W o' d' L'->kF W v l):=aa (fun W o' d' L' hm=>hv.moved hm mj);have Wb:Hid (au (fun _=>False) n pb db w o d w o d (aS L name (aw (es++l.take 0) fl))):=aa (by
  rw[List.take_zero,List.append_nil];exact(au.refl _ h.aY).self hL)
 obtain⟨a,cap,rfl,-⟩:=hv;obtain⟨M,hM⟩:∃M,M=l.length:=⟨_,rfl⟩;have HM:Hid (M=l.length/\M<65535):=aa ⟨hM,ae⟩;obtain⟨R,hR⟩:∃R,R=jy (fun _=>False) n pb db w o d L name (es++l):=⟨_,rfl⟩;have S0:=aa hR;rw[<- hR];rw[<- hM]at HV ⊢;clear h hst ho hL mj Mz hlen hM hR;unfold ptrTo at *;go_enter func151,ntmps151;go_wp2_with fail;go_loopw [10] (fun vi wr=>∃(k:Nat)(kI:Bool)(o':ar)(d':Dsk),vi=.int .i64 (k:Int)/\k<=M/\Hid (au (fun _=>False) n pb db w o d wr o' d' (aS L name (aw (es++l.take k) kI)))) (fun vi _=>M-(intOf vi).toNat)
 case atStart=>exact⟨0,fl,o,d,rfl,Nat.zero_le _,Wb⟩
 case round=>
  obtain⟨k,kI,o1,d1,rfl,hk,eY⟩:=hrel;clear Wb;generalize wr=W1 at *;by_cases hlt:k<M
  ·have FE:(k:Int)<(M:Int):=by omega
   have wk:IntKind.i64.wrap ((k:Int)+1)=((k+1:Nat):Int):=by have:=HM.o;rw[ax]<;>omega
   obtain⟨x,hx⟩:∃x,l[k]? = some x:=⟨_,List.getElem?_eq_getElem (by have:=HM.o;omega)⟩;have HX:=aa hx;obtain⟨a',cap',BU,hce⟩:=HV.o _ _ _ _ eY.out;obtain⟨rfl,-,rfl⟩:a=a'/\M=l.length/\cap=cap':=by simpa using BU
   obtain⟨b,off,rfl,PI⟩:=hce.resolve_left (by have:=HM.o;omega);obtain⟨q0,q1,q2,q3⟩:=PI k _ hx;clear hce PI BU hx;have eT:=aa (eY.out.alloc (.cells #[.int .u32 (x.t.toNat:Int),.int .u32 (x.h.toNat:Int),.int .u64 (x.x.toNat:Int),.int .u32 (x.m.toNat:Int)] 64));have PC:=aa (fun W=>ua x W);go_wp2_with fail;refine(PC.o _).mono ?_;rintro e w3⟨v3,rfl,iL,hb3⟩;have kZ:=aa (J3.o w3 o1 d1 kI v3 x k (eT.o.below hb3) HX.o (fD iL) (fun y hy=>eT.o.aY.fresh (aG iL y hy)));clear iL hb3 PC q0 q1 q2 q3;go_wp2_with fail;refine kZ.o.mono ?_;rintro e w4⟨d4,o4,rfl,eV⟩;have gl:=aa eV;clear eV kZ eY eT;go_wp2;go_roundw
   case rel=>exact⟨k+1,false,o4,d4,by go_num,ae,gl⟩
   case measure=>simp[intOf];omega
  ·have FE:¬(k:Int)<(M:Int):=by omega
   have HQ:Hid (R (.returned (.int .i64 0)) W1):=aa (by
    have:=eY.out;rw[List.take_of_length_le (by have:=HM.o;omega)]at this;rw[S0.o];exact⟨kI,d1,o1,rfl,this⟩)
   clear eY S0;go_wp2;exact HQ.o
end
end
end Go.Proofs.YthkkgdpomhhjjaaGreatDoor
