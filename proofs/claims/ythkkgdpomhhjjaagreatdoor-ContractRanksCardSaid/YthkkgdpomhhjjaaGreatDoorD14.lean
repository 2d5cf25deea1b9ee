/-
  Joined.
-/
import Derived.Test.YthkkgdpomhhjjaaGreatDoorD13
set_option maxRecDepth 100000
set_option maxHeartbeats 16000000
namespace Go.Proofs.YthkkgdpomhhjjaaGreatDoor
open Go.Proofs.Tryz
section
open Go.RowKit Go.Maps Go.Sort
theorem Tp{h:Hint}(e:mP h=2):h=.decreasing:=by cases h<;>simp[mP]at e ⊢
def Wb(m:Nat):Prop:=∀{w0 W:World}{base g cap:Nat}{d:Array Nat},bw w0 base g cap d W->∀a b limit:Nat,a<=b->b<=d.size->d.size<=1000000->b-a<=m->limit<=64->Sort.Below aZ a b d ->
 Calls prog 207 #[.slice (some ⟨g,0,none⟩) d.size cap,.int .i64 (a:Int),.int .i64 (b:Int),.int .i64 (limit:Int)] W (pO w0 base g cap (pdq aZ d a b limit true true))
theorem LI(m:Nat)(akq:m<50):Wb m:=by
 induction m using Nat.strongRecOn with
 |ind m ih=>
   intro w0 W base g cap d h a b limit hab hb hsz hm hl RM;have H:=aa h;have kK:=aa RM;have IH:Hid (∀{W:World}{d:Array Nat},bw w0 base g cap d W->12<m->∀a b limit:Nat,a<=b->b<=d.size->d.size<=1000000->b-a+1<=m->limit<=64->Sort.Below aZ a b d ->
    Calls prog 207 #[.slice (some ⟨g,0,none⟩) d.size cap,.int .i64 (a:Int),.int .i64 (b:Int),.int .i64 (limit:Int)] W (pO w0 base g cap (pdq aZ d a b limit true true))):=aa fun h EB a b l q1 q2 q3 q4 q5 q6=>ih (m-1) ae ae h a b l q1 q2 q3 ae q5 q6
   obtain⟨N,hN⟩:∃N,N=d.size:=⟨_,rfl⟩;rw[<- hN]at hb hsz ⊢;obtain⟨r,hr⟩:∃r,r=pdq aZ d a b limit true true:=⟨_,rfl⟩;rw[<- hr];have HR0:Hid (pdq aZ d a b limit true true=r):=aa hr.symm;have HX:Hid (a<=b/\b<=N/\N<=1000000/\b-a<=m/\limit<=64/\d.size=N/\m<50):=aa ae;clear h hN RM hr hab hb hsz hm hl ih akq;go_enter func207,ntmps207;go_wp2_with fail;go_loopw [1,2,3,8,9] (fun s1 s2 s3 s10 s11 wr=>∃(a1 b1 lim:Nat)(wb wp:Bool)(dk:Array Nat),s1=.int .i64 (a1:Int)/\s2=.int .i64 (b1:Int)/\s3=.int .i64 (lim:Int)/\s10=.bool wb/\s11=.bool wp/\a1<=b1/\b1<=N/\b1-a1<=m/\lim<=64/\dk.size=N/\Hid (Sort.Below aZ a1 b1 dk)/\bw w0 base g cap dk wr/\Hid (pdq aZ dk a1 b1 lim wb wp=r)) (fun s1 s2 _ _ _ _=>(intOf s2-intOf s1).toNat)
   case atStart=>exact⟨a,b,limit,true,true,d,rfl,rfl,rfl,rfl,rfl,HX.o.1,HX.o.2.1,HX.o.2.2.2.1,HX.o.2.2.2.2.1,HX.o.2.2.2.2.2.1,kK,H.o,HR0⟩
   case round=>
    obtain⟨a1,b1,lim,wb,wp,dk,rfl,rfl,rfl,rfl,rfl,Zq,hb1,Nv,Kg,hsk,HBk,hs,HO⟩:=hrel;generalize wr=Wr at *;have HS:=aa hs;obtain⟨L,hL⟩:∃L,L=b1-a1:=⟨_,rfl⟩;have wL:IntKind.i64.wrap ((b1:Int)-(a1:Int))=(L:Int):=by have:=HX.o;rw[ax]<;>omega
    have HK:Hid (a1<=b1/\b1<=N/\L=b1-a1/\L<=m/\lim<=64/\N<=1000000/\dk.size=N/\m<50):=aa (by have:=HX.o;omega);clear hs hsk hL Zq hb1 Nv Kg;by_cases EB:L<=12
    ·have Zr:(L:Int)<=12:=by omega
     have hk:=HK.o;have hc:=Pb HS.o a1 b1 hk.1 ae ae;rw[hk.2.2.2.2.2.2.1,show insertionSort aZ dk a1 b1=r by rw[<- HO.out];exact(pdq_small ae).symm]at hc;have HC:=aa hc;clear hc hk;go_wp2_with fail;refine HC.o.mono ?_;rintro e w1⟨rfl,hs1⟩;have iY:=aa hs1;clear hs1;go_wp2;go_returns;exact⟨rfl,iY.o⟩
    ·have Zr:¬((L:Int)<=12):=by omega
     by_cases hl0:lim=0
     ·subst hl0;have hk:=HK.o;have hc:=LF HS.o a1 b1 ae ae ae;rw[hk.2.2.2.2.2.2.1,show heapSort aZ dk a1 b1=r by rw[<- HO.out];exact(pdq_heap ae rfl).symm]at hc;have HC:=aa hc;clear hc hk;go_wp2_with fail;refine HC.o.mono ?_;rintro e w1⟨rfl,hs1⟩;have iY:=aa hs1;clear hs1;go_wp2;go_returns;exact⟨rfl,iY.o⟩
     ·have aiB:((lim:Int) == 0)=false:=by simp;omega
      obtain⟨R,HR⟩:∃R,Hid (Tn aZ a1 b1 lim wb wp dk R):=⟨_,aa (Pa DT wb wp (by have:=HK.o;omega) hl0 (by have:=HK.o;omega) HBk.out)⟩;have JG:Hid (1<=lim/\12<L/\R.d1.size=N/\R.d2.size=N/\R.pi.1.size=N):=aa ⟨ae,ae,HR.out.s1.trans HK.o.2.2.2.2.2.2.1,HR.out.s2.trans HK.o.2.2.2.2.2.2.1,HR.out.s3.trans HK.o.2.2.2.2.2.2.1⟩;clear hl0 EB;go_upto_if 35 with fail
      go_cut [3] from 19 to 133 (fun s3 wc=>s3=.int .i64 (R.lim:Int)/\bw w0 base g cap R.d1 wc)
      case first=>
       cases wb with
       |false=>
         obtain⟨e1,e2⟩:=HR.out.brk rfl;have hk:=HK.o;have hp:=JG.o;have hc:=Ja HS.o a1 b1 ae ae ae;rw[hk.2.2.2.2.2.2.1,<- e1]at hc;have HC:=aa hc;have wl1:IntKind.i64.wrap ((lim:Int)-1)=(R.lim:Int):=by rw[ax]<;>omega
         clear hc e1 e2 hk hp;go_wp2_with fail;refine HC.o.mono ?_;rintro e w1⟨rfl,hs1⟩;have iY:=aa hs1;clear hs1;go_wp2;go_meet
         exact⟨rfl,iY.o⟩
       |true=>
         obtain⟨e1,e2⟩:=HR.out.nob rfl;go_wp2;go_meet
         exact⟨by rw[e2],by rw[e1];exact HS.o⟩
      case rest=>
       obtain⟨rfl,hs1⟩:=hcut;have iY:=aa hs1;have hk:=HK.o;have hp:=JG.o;have hc:=I9 iY.o a1 b1 ae ae ae ae;rw[hp.2.2.1,<- HR.out.c]at hc;have HC:=aa hc;clear hc hs1 hk hp;go_upto_if 50 with fail
       refine HC.o.mono ?_;rintro e w2⟨rfl,hs2⟩;have eR:=aa hs2;clear hs2 HC;go_upto_if 50 with fail
       go_cut [11,12] from 19 to 133 (fun s13 s14 wc=>s13=.int .i64 (R.pivot:Int)/\s14=.int .i64 (mP R.hint:Int)/\bw w0 base g cap R.d2 wc)
       case first=>
        by_cases hh:R.c.2=.decreasing
        ·obtain⟨e2,Zs,Vk⟩:=HR.out.dec hh;have hz:(mP R.c.2:Int)=2:=by rw[hh];rfl
         have hk:=HK.o;have hp:=JG.o;have hc:=CM eR.o a1 b1 ae ae ae;rw[hp.2.2.1,<- e2]at hc;have HC:=aa hc;obtain⟨P,hP⟩:∃P,P=R.c.1-a1:=⟨_,rfl⟩;have h1:=HR.out.c1;have h2:=HR.out.c2;have wb1:IntKind.i64.wrap ((b1:Int)-1)=(b1:Int)-1:=by rw[ax]<;>omega
         have wP:IntKind.i64.wrap ((R.c.1:Int)-(a1:Int))=(P:Int):=by rw[ax]<;>omega
         have wV:IntKind.i64.wrap ((b1:Int)-1-(P:Int))=(R.pivot:Int):=by rw[ax]<;>omega
         have HE:Hid (R.hint=.increasing):=aa Vk;clear hc e2 Zs Vk hP hh h1 h2 hk hp;go_wp2_with fail;refine HC.o.mono ?_;rintro e w3⟨rfl,hs3⟩;have fB:=aa hs3;clear hs3;go_wp2;go_meet
         exact⟨rfl,by rw[HE.o];rfl,fB.o⟩
        ·obtain⟨e2,Zs,Vk⟩:=HR.out.RI hh;have hz:((mP R.c.2:Int) == 2)=false:=by
          simp only[beq_eq_false_iff_ne,ne_eq];exact fun h=>hh (Tp ae)
         go_wp2;go_meet
         exact⟨by rw[Zs],by rw[Vk],by rw[e2];exact eR.o⟩
       case rest=>
        obtain⟨rfl,rfl,hs3⟩:=hcut;have fB:=aa hs3;clear hs3;obtain⟨z,hz⟩:∃z:Int,z=(mP R.hint:Int):=⟨_,rfl⟩;rw[<- hz];have HV:Hid (decide (R.hint=.increasing)=(z == 1)):=aa (by rw[hz];cases R.hint<;>rfl);clear hz;go_upto_region 15 with fail
        go_cut [68] from 19 to 133 (fun s68 wx=>s68=.bool (wb && wp && decide (R.hint=.increasing))/\bw w0 base g cap R.d2 wx)
        case first=>
         cases wb<;>cases wp<;>(
          go_wp2_with fail;go_meet
          exact⟨by rw[HV.o];simp,fB.o⟩)
        case rest=>
         obtain⟨rfl,oX⟩:=hcut;have gq:=aa oX;clear oX;go_upto_if 68 with fail
         go_cut [] from 19 to 133 (fun wx=>R.pi.2=false/\bw w0 base g cap R.pi.1 wx)
         case first=>
          cases h68:(wb && wp && decide (R.hint=.increasing))
          ·have Vl:=aa (HR.out.no h68);go_wp2;go_meet
           exact⟨by rw[Vl.o],by rw[Vl.o];exact gq.o⟩
          ·have Vl:=aa (HR.out.yes h68);have hk:=HK.o;have hp:=JG.o;have hc:=CN gq.o a1 b1 ae ae ae ae;rw[hp.2.2.2.1,<- Vl.o]at hc;have HC:=aa hc;clear hc hk hp;cases j7:R.pi.2
           ·go_wp2_with fail;refine HC.o.mono ?_;rintro e w4⟨rfl,e1,oX⟩;rw[j7];rw[<- e1]at oX;have b9:=aa (show _/\_ from⟨j7,oX⟩);clear oX j7 e1;go_wp2;go_meet
            exact b9.o
           ·have HF:Hid (R.pi.1=r):=aa (by rw[<- HO.out];exact(HR.out.done j7).symm);go_wp2_with fail;refine HC.o.mono ?_;rintro e w4⟨rfl,e1,oX⟩;rw[j7];rw[<- e1,HF.o]at oX;have b9:=aa oX;clear oX j7 e1;go_wp2;go_returns;exact⟨rfl,b9.o⟩
         case rest=>
          obtain⟨j7,hs5⟩:=hcut;have b9:=aa hs5;have pU:=aa j7;clear hs5 j7;generalize wc=W5 at *;have bV:(R.pivot:Int)<(N:Int):=by have:=HR.out.p2;have:=HK.o;omega
          go_upto_region 17 with fail
          go_cut [87] from 19 to 133 (fun v wx=>v=.bool (decide (a1>0) && !aZ R.pi.1[a1-1]! R.pi.1[R.pivot]!)/\bw w0 base g cap R.pi.1 wx)
          case first=>
           rcases Nat.eq_zero_or_pos a1 with ha0 | ha0
           ·have aiE:decide (0<a1)=false:=decide_eq_false ae;have HA0:=aa ha0;clear ha0;go_wp2_with fail;go_quiet (fail)
            have gA:=aa (b9.o.drawn nq);go_wp2;go_meet
            exact⟨by simp[HA0.o],gA.o⟩
           ·have adl:(a1:Int)>0:=by omega
            obtain⟨A,hA⟩:∃A,A=a1-1:=⟨_,rfl⟩;have hk:=HK.o;have hp:=JG.o;have hv:=HR.out.p2;have bA:(A:Int)<(N:Int):=by omega
            have wA:IntKind.i64.wrap ((a1:Int)-1)=(A:Int):=by rw[ax]<;>omega
            obtain⟨x,y,c,x0,y0,hl,hc⟩:=b9.o.two A R.pivot ae ae;have HW:Hid ((decide (a1>0) && !aZ R.pi.1[a1-1]! R.pi.1[R.pivot]!)=!c):=aa (by rw[<- hA,<- hc.out,decide_eq_true ha0];rfl);clear hA hk hp hv hc;go_wp2_with fail;go_quiet ((go_at_call 253;exact Calls.quiet_of_same (hl.out _)))
            have gA:=aa (b9.o.drawn nq);go_wp2;go_meet
            exact⟨by rw[HW.o],gA.o⟩
          case rest=>
           obtain⟨rfl,Ug⟩:=hcut;have gA:=aa Ug;clear Ug;have hk:=HK.o;have hp:=JG.o;cases N6:(decide (a1>0) && !aZ R.pi.1[a1-1]! R.pi.1[R.pivot]!)
           ·obtain⟨mid,ap,d4,hx⟩:∃mid ap d4,partition aZ R.pi.1 a1 b1 R.pivot=(mid,ap,d4):=⟨_,_,_,rfl⟩;obtain⟨hr1,hr2,hr3,hr4,K7,A6,XU⟩:=round_part DT (partition_holds aZ) HR.out.p1 HR.out.p2 (show b1<=R.pi.1.size by omega) HR.out.B3 hx;have hc:=LH gA.o a1 b1 R.pivot HR.out.p1 HR.out.p2 ae ae;rw[hp.2.2.2.2,hx]at hc;have HC:=aa hc;have Xw:=aa (HR.out.left pU.o N6 mid ap d4 hx hr1 hr2);have HRT:=aa (HR.out.right pU.o N6 mid ap d4 hx hr1 hr2);obtain⟨A,hA⟩:∃A,A=mid-a1:=⟨_,rfl⟩;obtain⟨B,hB⟩:∃B,B=b1-mid:=⟨_,rfl⟩;obtain⟨E,hE⟩:∃E,E=L/8:=⟨_,rfl⟩;have wA:IntKind.i64.wrap ((mid:Int)-(a1:Int))=(A:Int):=by rw[ax]<;>omega
            have wB:IntKind.i64.wrap ((b1:Int)-(mid:Int))=(B:Int):=by rw[ax]<;>omega
            have wE:IntKind.i64.wrap ((L:Int)/8)=(E:Int):=by rw[ax]<;>omega
            have wM:IntKind.i64.wrap ((mid:Int)+1)=((mid+1:Nat):Int):=by rw[ax]<;>omega
            have HM:Hid (A=mid-a1/\B=b1-mid/\E=L/8/\a1<=mid/\mid<b1/\d4.size=N):=aa ⟨hA,hB,hE,hr1,hr2,hr3.trans hp.2.2.2.2⟩;have z7:=aa (show _/\_/\_/\_ from⟨hr4,K7,A6,XU⟩);clear hc hx hA hB hE hr1 hr2 hr3 hr4 K7 A6 XU N6 hk hp;go_wp2_with fail;refine HC.o.mono ?_;rintro e w7⟨rfl,KC⟩;dsimp only at KC;have jU:=aa KC;clear KC HC;have hk:=HK.o;have hp:=JG.o;have hq:=HM.o;by_cases h4:A<B
            ·have h4z:(A:Int)<(B:Int):=by omega
             have Hp:=IH.o jU.o ae a1 mid R.lim hq.2.2.2.1 ae ae ae (Nat.le_trans HR.out.jT hk.2.2.2.2.1) z7.o.1;obtain⟨pL,sL⟩:=pdq_sorts aZ DT d4 a1 mid R.lim true true hq.2.2.2.1 ae z7.o.1;have EM:=aa (z7.o.2.2.1 _ pL sL).1;have HF:Hid (pdq aZ (pdq aZ d4 a1 mid R.lim true true) (mid+1) b1 R.lim (decide (A >= E)) ap=r/\(pdq aZ d4 a1 mid R.lim true true).size=N):=aa ⟨by
              rw[<- HO.out,Xw.o ae,hq.1,hq.2.2.1,hk.2.2.1],pL.1.trans hq.2.2.2.2.2⟩
             rw[hq.2.2.2.2.2]at Hp;have FT:=aa Hp;clear Hp pL sL h4 hk hp hq;go_wp2_with fail;refine FT.o.mono ?_;rintro e w8⟨rfl,KD⟩;have jG:=aa KD;clear KD FT;go_wp2;have q:=HM.o;have q2:=HK.o;exact⟨⟨mid+1,b1,R.lim,decide (A >= E),ap,_,rfl,rfl,rfl,congrArg Value.bool ah,rfl,ae,ae,ae,Nat.le_trans HR.out.jT q2.2.2.2.2.1,HF.o.2,EM,jG.o,aa HF.o.1⟩,by simp[intOf];omega⟩
            ·have h4z:¬(A:Int)<(B:Int):=by omega
             have Hp:=IH.o jU.o ae (mid+1) b1 R.lim ae ae ae ae (Nat.le_trans HR.out.jT hk.2.2.2.2.1) z7.o.2.1;obtain⟨pL,sL⟩:=pdq_sorts aZ DT d4 (mid+1) b1 R.lim true true ae ae z7.o.2.1;have EM:=aa (z7.o.2.2.2 _ pL sL).1;have HF:Hid (pdq aZ (pdq aZ d4 (mid+1) b1 R.lim true true) a1 mid R.lim (decide (B >= E)) ap=r/\(pdq aZ d4 (mid+1) b1 R.lim true true).size=N):=aa ⟨by
              rw[<- HO.out,HRT.o ae,hq.2.1,hq.2.2.1,hk.2.2.1],pL.1.trans hq.2.2.2.2.2⟩
             rw[hq.2.2.2.2.2]at Hp;have FT:=aa Hp;clear Hp pL sL h4 hk hp hq;go_wp2_with fail;refine FT.o.mono ?_;rintro e w8⟨rfl,KD⟩;have jG:=aa KD;clear KD FT;go_wp2;have q:=HM.o;have q2:=HK.o;exact⟨⟨a1,mid,R.lim,decide (B >= E),ap,_,rfl,rfl,rfl,congrArg Value.bool ah,rfl,ae,ae,ae,Nat.le_trans HR.out.jT q2.2.2.2.2.1,HF.o.2,EM,jG.o,aa HF.o.1⟩,by simp[intOf];omega⟩
           ·have EN:=N6;simp only[Bool.and_eq_true,decide_eq_true_eq,Bool.not_eq_true']at EN;obtain⟨mid,d4,hx⟩:∃mid d4,partitionEqual aZ R.pi.1 a1 b1 R.pivot=(mid,d4):=⟨_,_,rfl⟩;obtain⟨e1,e2,e3,e4⟩:=round_eq DT (partitionEqual_holds aZ) EN.1 HR.out.p1 HR.out.p2 (show b1<=R.pi.1.size by omega) HR.out.B3 EN.2 hx;have hc:=Fv gA.o a1 b1 R.pivot HR.out.p1 HR.out.p2 ae ae;rw[hp.2.2.2.2,hx]at hc;have HC:=aa hc;have HF:Hid (pdq aZ d4 mid b1 R.lim wb wp=r/\a1<mid/\mid<=b1/\d4.size=N):=aa ⟨by rw[<- HO.out,HR.out.eq pU.o N6 mid d4 hx e1 e2],e1,e2,e3.trans hp.2.2.2.2⟩;have EM:=aa e4.1;clear hc hx N6 EN e1 e2 e3 e4 hk hp;go_wp2_with fail;refine HC.o.mono ?_;rintro e w7⟨rfl,KC⟩;dsimp only at KC;have jU:=aa KC;clear KC HC;go_wp2;have q:=HF.o;have q2:=HK.o;exact⟨⟨mid,b1,R.lim,wb,wp,d4,rfl,rfl,rfl,rfl,rfl,q.2.2.1,q2.2.1,ae,Nat.le_trans HR.out.jT q2.2.2.2.2.1,q.2.2.2,EM,jU.o,aa q.1⟩,by simp[intOf];omega⟩
section
variable {base:Nat}
theorem xv(v:Value)(w:World):Calls prog 247 #[v,.int .i64 0,.int .i64 0] w fun e w'=>e=.returned (.tuple #[])/\w=w':=by
 go_enter func247,ntmps247;go_wp2;refine wp_loop_rounds 1 ?_;iterate 1 (rw[rounds_succ];go_wp2)
 go_returns;exact⟨rfl,rfl⟩
theorem CO(v:Value)(lim:Int)(w:World):Calls prog 207 #[v,.int .i64 0,.int .i64 0,.int .i64 lim] w fun e w'=>e=.returned (.tuple #[])/\w=w':=by
 have HI:=aa (xv v w);go_enter func207,ntmps207;go_wp2;refine wp_loop_rounds 1 ?_;rw[rounds_succ];go_wp2_with fail;refine HI.o.mono ?_;rintro e w'⟨rfl,rfl⟩;go_wp2;go_returns;exact⟨rfl,rfl⟩
theorem LJ{w:World}{v:Value}{l:List Nat}(h:bF w base v l)(hl:l.length<50):Calls prog 150 #[v] w (Bg w base v l):=by
 have HL:Hid (Calls prog 87 #[.int .u64 (l.length:Int)] w fun e w'=>e=.returned (.int .i64 (Lib.bitLen l.length:Nat))/\w'=w):=
  aa (Any.bits_Len (SlLaysF0.n15.bits (P:=prog) (ρ:=Tryz.eJ) { Tryz.jS with }) l.length w ae ae)
 have hc:IntKind.u64.wrap (l.length:Int)=(l.length:Int):=iM _ ae ae;have HP:Hid (Calls prog 207 #[v,.int .i64 0,.int .i64 (l.length:Int),.int .i64 ((Lib.bitLen l.length:Nat):Int)] w (Bg w base v l)):=aa (by
  obtain⟨-,⟨rfl,h0⟩|⟨g,cap,_,rfl,_⟩⟩:=id h
  ·obtain rfl:=List.eq_nil_of_length_eq_zero h0;refine(CO _ _ w).mono ?_;rintro e w'⟨rfl,rfl⟩;exact⟨[],rfl,h,List.Perm.refl _,List.Pairwise.nil,aH.refl _ _⟩
  ·have hn:bw w base g cap l.toArray w:=⟨by simpa using h,aH.refl _ _⟩;have hp:=LI 49 ae hn 0 l.length (Lib.bitLen l.length) (Nat.zero_le _) ah (by simp;omega) ae (Nat.le_trans (Lib.bitLen_le _ 62 ae ae) af) (.inl rfl);rw[List.size_toArray]at hp;refine hp.mono ?_;rintro e w'⟨rfl,h1⟩;obtain⟨⟨hsz,-,Ho⟩,xZ⟩:=pdq_sorts aZ DT l.toArray 0 l.length (Lib.bitLen l.length) true true (Nat.zero_le _) ah (.inl rfl);generalize pdq aZ l.toArray 0 l.length (Lib.bitLen l.length) true true=D at *;have hsz:D.size=l.length:=by simpa using hsz
   refine⟨D.toList,rfl,?_,?_,?_,h1.turn.mono (fun b _ e=>by rw[e];rfl)⟩
   ·have:=h1.row;rw[hsz]at this;unfold bF at this ⊢;simpa[hsz]using this
   ·rw[show D.extract 0 l.length=D by rw[<- hsz];simp]at Ho;simpa using Ho
   ·rw[List.pairwise_iff_getElem];intro i j hi hj fg;have h2:=xZ i j (Nat.zero_le _) fg (by simpa[hsz]using hj);rw[getElem!_pos D i (by simpa using hi),getElem!_pos D j (by simpa using hj)]at h2;have:=of_decide_eq_false h2;simp only[Array.getElem_toList];omega)
 obtain⟨a,k,rfl⟩:=az h;clear h hl;generalize l.length=n at *;generalize Lib.bitLen n=bl at *;obtain⟨PST,mq⟩:∃P,P=Bg w base (.slice a n k) l:=⟨_,rfl⟩;rw[<- mq]at HP ⊢;have HQ:Hid (∀e w',PST e w'->e=.returned (.tuple #[])):=aa (by rw[mq];rintro e w'⟨l',h,-⟩;exact h);clear mq;go_enter func150,ntmps150;go_wp2_with fail;refine HL.o.mono ?_;rintro e w'⟨rfl,rfl⟩;go_wp2_with fail;refine HP.o.mono ?_;intro e w2 hq;obtain rfl:=HQ.o _ _ hq;have HQ2:=aa hq;clear hq HP HL HQ;go_wp2;go_returns;exact HQ2.o
end
end
section
open Go.RowKit Go.Maps
open Go.ChangeMaps (setBlock)
abbrev kG:=zb×(Option Addr×Nat)
abbrev Bi(p:kG):Value:=.slice p.2.1 p.1.n.length p.2.2
abbrev sJ(p:kG):Value:=.agg #[.int .u32 (p.1.v:Int),.int .u64 (p.1.k:Int),.slice p.2.1 p.1.n.length p.2.2]
def iE:List kG->List Value
 | []=>[]
 |p::l=>[.int .u32 (p.1.v:Int),.int .u64 (p.1.k:Int),Bi p]++iE l
theorem Bj(a b:List kG):iE (a++b)=iE a++iE b:=by
 induction a with
 |nil=>rfl
 |cons e a ih=>rw[List.cons_append,iE,iE,ih,List.append_assoc]
theorem Jb{l:List kG}{i:Nat}{p:kG}(h:l[i]? = some p):(iE l)[i*3]? = some (.int .u32 (p.1.v:Int))/\(iE l)[i*3+1]? = some (.int .u64 (p.1.k:Int))/\(iE l)[i*3+2]? = some (Bi p):=by
 induction l generalizing i with
 |nil=>cases h
 |cons q l ih=>
   cases i with
   |zero=>cases h;exact⟨rfl,rfl,rfl⟩
   |succ i=>
     have:=ih (i:=i) (by simpa using h);rw[show(i+1)*3=i*3+3 by omega];exact this
abbrev jZ(w:World)(base:Nat)(v:Value)(l:List kG):Prop:=w.ownsRow base 181 3 v l.length (iE l)
theorem Jc{w:World}{base g cap:Nat}{l:List kG}(h:jZ w base (.slice (some ⟨g,0,none⟩) l.length cap) l){i:Nat}{p:kG}(hi:l[i]? = some p) :
 w.cell? ⟨g,i*3,none⟩=some (.int .u32 (p.1.v:Int))/\w.cell? ⟨g,i*3+1,none⟩=some (.int .u64 (p.1.k:Int))/\w.cell? ⟨g,i*3+2,none⟩=some (Bi p):=by
 have hc:∀(j:Nat)(u:Value),(iE l)[j]? = some u->w.cell? ⟨g,j,none⟩=some u:=fun j u hj=>by
  have:=World.ownsRow.cells h (g:=g) rfl j u hj;rwa [bG,Nat.zero_add]at this
 obtain⟨h1,h2,h3⟩:=Jb hi;exact⟨hc _ _ h1,hc _ _ h2,hc _ _ h3⟩
abbrev LK(w:World)(b:Nat)(m:List (Nat×kG)):Prop:=bO prog 26 iX sJ w b m
structure pP(w:World)(base:Nat)(lv:Value)(cs:List kG):Prop where
 row:jZ w base lv cs
 ky:∀p∈cs,bF w 0 (Bi p) p.1.n/\∀y∈p.1.n,y<4294967296
 v32:∀p∈cs,p.1.v<4294967296
 gC:(cs.map (·.1.v)).Pairwise (· < ·)
 len:cs.length<=24
def fN(cs:List kG):List (Nat×kG):=cs.reverse.map fun p=>(p.1.v,p)
section
variable {w w' W:World} {base:Nat} {lv:Value} {cs:List kG}
theorem LL{l:List Nat}(h:l.Pairwise (· < ·)):l.Nodup:=h.imp (fun h e=>by omega)
theorem Pc{j:Nat}{p:kG}(h:pP w base lv cs)(hj:cs[j]? = some p):aS (fN (cs.take j)) p.1.v p=fN (cs.take (j+1))/\aB (fN (cs.take j)) p.1.v=none:=by
 obtain⟨hl,rfl⟩:=List.getElem?_eq_some_iff.1 hj;have hne:∀q∈fN (cs.take j),q.1≠cs[j].1.v:=by
  intro q hq;obtain⟨x,hx,rfl⟩:=List.mem_map.1 hq;rw[List.mem_reverse]at hx;obtain⟨i,hi⟩:=List.mem_iff_getElem?.1 hx;have fg:i<j:=by
   have:=(List.getElem?_eq_some_iff.1 hi).1;rw[List.length_take]at this;omega
  rw[List.getElem?_take_of_lt fg]at hi;obtain⟨kB,rfl⟩:=List.getElem?_eq_some_iff.1 hi;have:=List.pairwise_iff_getElem.1 h.gC i j (by simpa using kB) (by simpa using hl) fg;simp at this;show cs[i].1.v≠_;omega
 refine⟨?_,lA.2 hne⟩;unfold aS;rw[nW hne];unfold fN;rw[List.take_succ_eq_append_getElem hl,List.reverse_append];rfl
theorem Tq(h:pP w base lv cs)(v:Nat):(∃p∈cs,p.1.v=v/\aB (fN cs) v=some p)\/(aB (fN cs) v=none/\∀p∈cs,p.1.v≠v):=by
 have hk:((fN cs).map (·.1)).Nodup:=by
  unfold fN;rw[List.map_map];exact((List.reverse_perm cs).map (·.1.v)).nodup_iff.2 (LL h.gC)
 cases e:aB (fN cs) v with
 |none=>
   refine .inr ⟨rfl,fun p hp he=>?_⟩;exact lA.1 e (p.1.v,p) (List.mem_map.2 ⟨p,List.mem_reverse.2 hp,rfl⟩) he
 |some q=>
   obtain⟨x,hx,he⟩:=List.mem_map.1 (eM e);cases he;exact .inl ⟨q,List.mem_reverse.1 hx,rfl,rfl⟩
theorem uQ{l:List Nat}{k y:Nat}{P:Nat->Prop}{Q:Prop}(h:l[k]? = some y):(Q\/∃x∈l.take (k+1),P x)↔((Q\/∃x∈l.take k,P x)\/P y):=by
 obtain⟨hl,rfl⟩:=List.getElem?_eq_some_iff.1 h;rw[List.take_succ_eq_append_getElem hl];constructor
 ·rintro(h |⟨x,hx,h⟩)
  ·exact .inl (.inl h)
  ·rcases List.mem_append.1 hx with hx | hx
   ·exact .inl (.inr ⟨x,hx,h⟩)
   ·rw[List.mem_singleton]at hx;subst hx;exact .inr h
 ·rintro((h |⟨x,hx,h⟩) | h)
  ·exact .inl h
  ·exact .inr ⟨x,List.mem_append.2 (.inl hx),h⟩
  ·exact .inr ⟨_,List.mem_append.2 (.inr ah),h⟩
theorem Tr(h:pP w base lv cs){a b:kG}(ha:a∈cs)(hb:b∈cs)(e:a.1.v=b.1.v):a=b:=by
 obtain⟨i,hi⟩:=List.mem_iff_getElem?.1 ha;obtain⟨j,hj⟩:=List.mem_iff_getElem?.1 hb;obtain⟨kB,rfl⟩:=List.getElem?_eq_some_iff.1 hi;obtain⟨kY,rfl⟩:=List.getElem?_eq_some_iff.1 hj;have hp:=List.pairwise_iff_getElem.1 h.gC;rcases Nat.lt_trichotomy i j with h1 | h1 | h1
 ·have:=hp i j (by simpa using kB) (by simpa using kY) h1;simp at this;omega
 ·subst h1;rfl
 ·have:=hp j i (by simpa using kY) (by simpa using kB) h1;simp at this;omega
theorem Ts(h:pP w base lv cs){S ts:List Nat}{dn:List (Nat×kG)}(hL:∀z,z∈S↔A8 (cs.map (·.1)) z)(hp:dn.Perm (fN cs))(ht:ts.Perm ((dn.map (·.1)).filter (fun x=>decide (x ∉ S))))(hs:ts.Pairwise (·<=·)):ts=kX (cs.map (·.1)):=by
 have e:kX (cs.map (·.1))=(cs.map (·.1.v)).filter (fun x=>decide (x ∉ S)):=by
  unfold kX;rw[List.map_map];refine List.filter_congr fun x _=>?_;simp only[hL x]
 rw[e];have hq:ts.Perm ((cs.map (·.1.v)).filter (fun x=>decide (x ∉ S))):=by
  refine ht.trans (List.Perm.filter _ ((hp.map (·.1)).trans ?_));unfold fN;rw[List.map_map];exact(List.reverse_perm cs).map _
 refine hq.eq_of_pairwise (le:=fun a b=>a<=b) (fun a b _ _ h1 h2=>Nat.le_antisymm h1 h2) hs ?_;exact(h.gC.imp (fun h=>Nat.le_of_lt h)).filter _
def Tt(w:World)(l:List Nat)(e:Ending)(w':World):Prop:=∃v,e=.returned v/\Below w.heap.size w w'/\bF w' w.heap.size v l
theorem Pe(w:World):(zeroValue 181).run prog w=.ok (.agg #[.int .u32 0,.int .u64 0,.slice none 0 0]) w:=Tryz.zeroValue181 w
theorem Tu(h:pP w base lv cs):Calls prog 100 #[lv] w (Tt w (kX (cs.map (·.1)))):=by
 obtain⟨la,lk,rfl⟩:=az h.row;have H:=aa h;have HZ:=aa Pe;have HZU:=aa DM;have vL:∀(t:TypeId)(W:World),(Instr.makeMap t none).run prog W=.ok (.map (some W.heap.size)) (W.alloc (.map #[] 0)):=fun _ _=>rfl;clear h;obtain⟨R,HR⟩:∃R,Hid (kX (cs.map (·.1))=R):=⟨_,aa rfl⟩;rw[HR.out];obtain⟨M,hM⟩:∃M,M=cs.length:=⟨_,rfl⟩;rw[<- hM];have HM:Hid (M=cs.length/\M<=24):=aa ⟨hM,by rw[hM];exact H.o.len⟩;clear hM;have HO0:Hid (LK (w.alloc (.map #[] 0)) w.heap.size (fN (cs.take 0))):=aa (bO.made w prog 26 iX sJ);have kK:Hid (Below w.heap.size w (w.alloc (.map #[] 0))):=aa ai;go_enter func100,ntmps100;go_wp2_with fail;go_loopw [22] (fun vi wr=>∃j:Nat,vi=.int .i64 (j:Int)/\j<=M/\Hid (LK wr w.heap.size (fN (cs.take j)))/\Hid (Below w.heap.size w wr)) (fun vi _=>M-(intOf vi).toNat)
 case atStart=>exact⟨0,rfl,Nat.zero_le _,HO0,kK⟩
 case round=>
  obtain⟨j,rfl,hj,HO,HB⟩:=hrel;clear HO0 kK;generalize wr=W1 at *;by_cases hlt:j<M
  ·have JF:(j:Int)<(M:Int):=by omega
   have wj:IntKind.i64.wrap ((j:Int)+1)=((j+1:Nat):Int):=by have:=HM.o;rw[ax]<;>omega
   obtain⟨p,hp⟩:∃x,cs[j]? = some x:=⟨_,List.getElem?_eq_getElem (by have:=HM.o;omega)⟩;have HP:=aa hp;have HG:=aa (fQ (H.o.v32 p (List.mem_of_getElem? hp)));obtain⟨g,rfl⟩:∃g,la=some ⟨g,0,none⟩:=by
    obtain⟨-,⟨h1,h2⟩|⟨g,_,_,h1,_⟩⟩:=H.o.row
    ·have:=HM.o;omega
    ·cases h1;exact⟨g,rfl⟩
   obtain⟨q0,q1,q2⟩:=Jc (aV H.o.row HB.out) hp;obtain⟨c,na,nk⟩:=p;have cZ:Hid (Below W1.heap.size W1 (W1.alloc (.cells #[.int .u32 (c.v:Int),.int .u64 (c.k:Int),.slice na c.n.length nk] 181))):=aa ai;have qd:Hid (LK (W1.alloc (.cells #[.int .u32 (c.v:Int),.int .u64 (c.k:Int),.slice na c.n.length nk] 181)) w.heap.size (fN (cs.take j))):=aa (HO.out.kept (cZ.o.block _ HO.out.lt));have mG:Hid (LK ((W1.alloc (.cells #[.int .u32 (c.v:Int),.int .u64 (c.k:Int),.slice na c.n.length nk] 181)).alloc (.cells #[.int .u32 0,.int .u64 0,.slice none 0 0] 181)) w.heap.size (fN (cs.take j))):=aa (qd.o.kept ((MapKept.heap_alloc _ _).2 _ qd.o.lt));obtain⟨hput,gV⟩:=Pc H.o hp;have nz:=aa hput;have AD:=aa gV;clear hp hput gV;go_wp2_with (first | (at_lookup;refine bY _ rfl _ _ _ _ rfl 181 ck dv Tryz.underlying241 (HZ.o _) w.heap.size _ rfl qd.o c.v rfl HG.o ?_;unfold p7;rw[AD.o];simp only[Option.map_none,Option.getD_none,Option.isSome_none]) | (at_mapUpdate;refine eO _ rfl _ _ _ _ rfl 181 ck dv Tryz.underlying241 w.heap.size _ rfl mG.o c.v (c,na,nk) rfl rfl HG.o ?_;intro es clock hm;rw[nz.o]at hm;have gp:=aa hm;clear hm));have EM:Hid (Below w.heap.size w (setBlock ((W1.alloc (.cells #[.int .u32 (c.v:Int),.int .u64 (c.k:Int),.slice na c.n.length nk] 181)).alloc (.cells #[.int .u32 0,.int .u64 0,.slice none 0 0] 181)) w.heap.size (.map es clock))):=aa (by
    have ht:aH (fun x=>w.heap.size<=x) w (setBlock ((W1.alloc (.cells #[.int .u32 (c.v:Int),.int .u64 (c.k:Int),.slice na c.n.length nk] 181)).alloc (.cells #[.int .u32 0,.int .u64 0,.slice none 0 0] 181)) w.heap.size (.map es clock)):=(((aH.aW HB.out).alloc _).alloc _).setBlock _ _ (.inl (Nat.le_refl _));exact ht.below (Nat.le_refl _) (fun _ h=>h))
   exact⟨⟨j+1,by go_num,ae,gp,EM⟩,by simp[intOf];omega⟩
  ·have JF:¬(j:Int)<(M:Int):=by omega
   have HOF:Hid (LK W1 w.heap.size (fN cs)):=aa (by have:=HO.out;rwa [List.take_of_length_le (by have:=HM.o;omega)]at this);clear HO;have y9:Hid (Below W1.heap.size W1 ((W1.alloc (.map #[] 0)).alloc (.cells #[.map (some W1.heap.size)] 243))/\((W1.alloc (.map #[] 0)).alloc (.cells #[.map (some W1.heap.size)] 243)).heap.size=W1.heap.size+1+1):=aa ⟨ai.alloc ah _,ah⟩;have mG:Hid (LK ((W1.alloc (.map #[] 0)).alloc (.cells #[.map (some W1.heap.size)] 243)) w.heap.size (fN cs)):=aa (HOF.o.kept (y9.o.1.block _ HOF.o.lt));have fB:Hid (jy ((W1.alloc (.map #[] 0)).alloc (.cells #[.map (some W1.heap.size)] 243)) W1.heap.size []/\((W1.alloc (.map #[] 0)).alloc (.cells #[.map (some W1.heap.size)] 243)).heap[W1.heap.size+1]? = some (.cells #[.map (some W1.heap.size)] 243)):=aa ⟨(bO.made W1 prog 26 iX (fun _:Unit=>Value.agg #[])).kept ((MapKept.heap_alloc _ _).2 _ ah),by
    have:=heap_alloc_new (W1.alloc (.map #[] 0)) (.cells #[.map (some W1.heap.size)] 243);simpa using this⟩
   have Uf:Hid (w.heap.size<W1.heap.size):=aa HOF.o.lt;clear HOF;go_wp2_with (at_range;refine pd _ rfl _ _ rfl 181 Tryz.underlying241 w.heap.size _ rfl mG.o ?_;intro ob0 rV);try go_frame
   rw[y9.o.2]at rV;have HI0:=aa rV;clear rV;obtain⟨lb,s6⟩:∃x,x=W1.heap.size:=⟨_,rfl⟩;obtain⟨qc,hqc⟩:∃x,x=W1.heap.size+1:=⟨_,rfl⟩;obtain⟨ib,hib⟩:∃x,x=W1.heap.size+1+1:=⟨_,rfl⟩;have HN:Hid (w.heap.size<lb/\lb<qc/\qc<ib):=aa (by have:=Uf.o;omega);have oZ:Hid (Below w.heap.size w (((W1.alloc (.map #[] 0)).alloc (.cells #[.map (some W1.heap.size)] 243)).alloc ob0)):=aa ((HB.out.trans (y9.o.1.mono HB.out.size)).alloc (by rw[y9.o.2];have:=HB.out.size;omega) _);have gq:Hid (jy (((W1.alloc (.map #[] 0)).alloc (.cells #[.map (some W1.heap.size)] 243)).alloc ob0) lb []/\(((W1.alloc (.map #[] 0)).alloc (.cells #[.map (some W1.heap.size)] 243)).alloc ob0).heap[qc]? = some (.cells #[.map (some lb)] 243)):=aa (by
    subst s6 hqc;exact⟨fB.o.1.kept ((MapKept.heap_alloc _ _).2 _ fB.o.1.lt),by rw[(MapKept.heap_alloc _ _).2 _ (by rw[y9.o.2];omega)];exact fB.o.2⟩)
   rw[<- hib]at HI0;rw[<- hib,<- hqc];generalize ((W1.alloc (.map #[] 0)).alloc (.cells #[.map (some W1.heap.size)] 243)).alloc ob0=W4 at *;clear s6 hqc hib fB mG y9 Uf HB vL;go_loopw [] (fun wr=>∃dn todo S,Hid (cx prog 26 iX sJ wr w.heap.size ib (fN cs) todo)/\Hid (Below w.heap.size w wr)/\Hid (jy wr lb S/\wr.heap[qc]? = some (.cells #[.map (some lb)] 243))/\Hid ((dn++todo).Perm (fN cs))/\Hid (∀z,z∈S ↔ ∃q∈dn,∃b∈cs,b.1.v∈q.2.1.n/\Fq q.2.1 b.1 z)) (fun wr=>wr.rangeLeft w.heap.size ib)
   case atStart=>exact⟨[],_,[],HI0,oZ,gq,aa (List.Perm.refl _),aa ah⟩
   case round=>
    obtain⟨dn,todo,S,HI,HB,HS,HP,HZS⟩:=hrel;clear HI0 oZ gq;generalize wr=W5 at *;go_wp2_with (at_next;refine pg _ rfl _ rfl w.heap.size ib (fN cs) todo rfl HI.out ?_ ?_)
    ·rintro rfl;have aeS:Hid (∀z,z∈S↔A8 (cs.map (·.1)) z):=aa (fun z=>by
      have hp:dn.Perm (fN cs):=by simpa using HP.o
      rw[HZS.out z];unfold A8;constructor
      ·rintro⟨q,hq,b,hb,h1,h2⟩;obtain⟨x,hx,rfl⟩:=List.mem_map.1 (hp.mem_iff.1 hq);exact⟨x.1,List.mem_map.2 ⟨x,List.mem_reverse.1 hx,rfl⟩,b.1,List.mem_map.2 ⟨b,hb,rfl⟩,h1,h2.1,h2.2⟩
      ·rintro⟨a,ha,b,hb,h1,h2,h3⟩;obtain⟨x,hx,rfl⟩:=List.mem_map.1 ha;obtain⟨y,hy,rfl⟩:=List.mem_map.1 hb;exact⟨(x.1.v,x),hp.mem_iff.2 (List.mem_map.2 ⟨x,List.mem_reverse.2 hx,rfl⟩),y,hy,h1,h2,h3⟩)
     have Y1:Hid (LK W5 w.heap.size (fN cs)):=aa HI.out.map;clear HP HZS HI;go_wp2_with (at_range;refine pd _ rfl _ _ rfl 181 Tryz.underlying241 w.heap.size _ rfl Y1.o ?_;intro ob5 UT);try go_frame
     obtain⟨ie,Vd⟩:∃x,x=W5.heap.size:=⟨_,rfl⟩;have HI0:=aa UT;have OP:Hid (qc<ie):=aa (by rw[Vd];exact(Array.getElem?_eq_some_iff.1 HS.out.2).1);have kK:Hid (Below w.heap.size w (W5.alloc ob5)):=aa (HB.out.alloc HB.out.size _);have EU:Hid (jy (W5.alloc ob5) lb S/\(W5.alloc ob5).heap[qc]? = some (.cells #[.map (some lb)] 243)):=aa ⟨HS.out.1.kept ((MapKept.heap_alloc _ _).2 _ HS.out.1.lt),by rw[(MapKept.heap_alloc _ _).2 _ (Array.getElem?_eq_some_iff.1 HS.out.2).1];exact HS.out.2⟩;rw[<- Vd]at HI0;rw[<- Vd];generalize W5.alloc ob5=W6 at *;clear Vd UT HS HB Y1;go_loopw [2] (fun v wr=>∃(todo:List (Nat×kG))(acc:List Nat),Hid (bF wr (ie+1) v acc)/\Hid (cx prog 26 iX sJ wr w.heap.size ie (fN cs) todo)/\Hid (Below w.heap.size w wr)/\Hid (jy wr lb S/\wr.heap[qc]? = some (.cells #[.map (some lb)] 243))/\Hid (∃dn,(dn++todo).Perm (fN cs)/\acc=(dn.map (·.1)).filter (fun x=>decide (x ∉ S)))) (fun _ wr=>wr.rangeLeft w.heap.size ie)
     case atStart=>exact⟨_,[],aa ⟨rfl,.inl ⟨rfl,rfl⟩⟩,HI0,kK,EU,aa ⟨[],List.Perm.refl _,rfl⟩⟩
     case round=>
      generalize u2=ov at *;obtain⟨todo,acc,ny,HI,HB,HS,HA⟩:=hrel;clear HI0 kK EU;generalize wr=W7 at *;have HAL:Hid (acc.length<=24):=aa (by
       obtain⟨dn,hp,rfl⟩:=HA.out;have h1:=hp.length_eq;have h2:=List.length_filter_le (fun x=>decide (x ∉ S)) (dn.map (·.1));have h3:=H.o.len;unfold fN at h1;simp only[List.length_append,List.length_map,List.length_reverse]at h1 h2;omega)
      go_wp2_with (at_next;refine pg _ rfl _ rfl w.heap.size ie (fN cs) todo rfl HI.out ?_ ?_)
      ·rintro rfl;have HC:=aa (LJ ny.out (Nat.lt_of_le_of_lt HAL.o af));go_wp2_with fail;refine HC.o.mono ?_;rintro e w8⟨ts,rfl,hr8,hp8,KD,ht8⟩;have HQ:Hid (Below w.heap.size w w8/\bF w8 w.heap.size ov R):=aa (by
        refine⟨?_,?_⟩
        ·have h0:aH (fun x=>w.heap.size<=x) w W7:=aH.aW HB.out;exact(h0.trans ht8 (fun x hx e=>by have:=aF ny.out x (by first | exact e | exact e.symm);have:=OP.o;have:=HN.o;omega)).below (Nat.le_refl _) (fun _ h=>h)
        ·obtain⟨dn,hp,rfl⟩:=HA.out;rw[List.append_nil]at hp;rw[<- HR.out,<- Ts H.o aeS.o hp hp8 KD];exact aU hr8 (by have:=OP.o;have:=HN.o;omega))
       clear hr8 hp8 KD ht8 HC;go_wp2;go_ret;exact⟨ov,rfl,HQ.o.1,HQ.o.2⟩
      ·intro kv c na nk rs w1 rW hp qi rX hen;have X1:∀x,x≠ie->(setBlock w1 ie rW).heap[x]? = W7.heap[x]? := fun x hx=>by
        rcases qi with rfl | rfl
        ·exact bg _ hx
        ·exact bg _ hx
       have hb1:Below w.heap.size w (setBlock w1 ie rW):=by
        have h0:aH (fun x=>w.heap.size<=x) w W7:=aH.aW HB.out;have:aH (fun x=>w.heap.size<=x) w (setBlock w1 ie rW):=by
         have:=HN.o;have:=OP.o;rcases qi with rfl | rfl
         ·exact h0.setBlock _ _ (.inl ae)
         ·exact h0.drew.setBlock _ _ (.inl ae)
        exact this.below (Nat.le_refl _) (fun _ h=>h)
       have jG:Hid (jy (setBlock w1 ie rW) lb S/\(setBlock w1 ie rW).heap[qc]? = some (.cells #[.map (some lb)] 243)):=aa ⟨HS.out.1.kept (X1 _ (by have:=HN.o;have:=OP.o;omega)),by rw[X1 _ (by have:=OP.o;omega)];exact HS.out.2⟩;have HR8:Hid (bF (setBlock w1 ie rW) (ie+1) ov acc):=aa (bI ny.out (fun x hx=>X1 x (by have:=aF ny.out x hx;omega)));have zh:=aa hb1;have HKV:Hid ((kv,(c,na,nk))∈fN cs):=aa (by
        obtain⟨dn,hq,-⟩:=HA.out;exact hq.mem_iff.1 (List.mem_append.2 (.inr (hp.mem_iff.2 ah))))
       have HGV:Hid (Good prog 26 (iX kv)):=aa (by
        obtain⟨x,hx,he⟩:=List.mem_map.1 HKV.o;cases he;exact fQ (H.o.v32 _ (List.mem_reverse.1 hx)))
       have LM:=aa rX;have Xw:Hid (todo.length=rs.length+1/\W7.rangeLeft w.heap.size ie=todo.length):=aa ⟨by have:=hp.length_eq;simpa using this,HI.out.left⟩;have Jd:Hid (∃dn,(dn++[(kv,(c,na,nk))]++rs).Perm (fN cs)/\acc=(dn.map (·.1)).filter (fun x=>decide (x ∉ S))):=aa (by
        obtain⟨dn,hq,he⟩:=HA.out;refine⟨dn,List.Perm.trans ?_ hq,he⟩;rw[List.append_assoc];exact List.Perm.append_left dn (by simpa using hp.symm))
       clear X1 hb1 hp qi rX HI HB HS ny HA;simp only[iX]at hen;generalize setBlock w1 ie rW=W8 at *;have q0:W8.cell? ⟨qc,0,none⟩=some (.map (some lb)):=by rw[aq jG.o.2];rfl
       have HU9:Hid (Below W8.heap.size W8 (W8.alloc (.cells #[] 245))):=aa ai;have qg:Hid (jy (W8.alloc (.cells #[] 245)) lb S/\(W8.alloc (.cells #[] 245)).heap[qc]? = some (.cells #[.map (some lb)] 243)):=aa ⟨jG.o.1.kept (HU9.o.block _ jG.o.1.lt),(HU9.o.block _ (Array.getElem?_eq_some_iff.1 jG.o.2).1).trans jG.o.2⟩;have HI9:Hid (cx prog 26 iX sJ (W8.alloc (.cells #[] 245)) w.heap.size ie (fN cs) rs):=aa (LM.o.kept (HU9.o.block _ LM.o.map.lt) (HU9.o.block _ LM.o.lt));have rR:Hid (Below w.heap.size w (W8.alloc (.cells #[] 245))):=aa (zh.o.trans (HU9.o.mono zh.o.size));have HR9:Hid (bF (W8.alloc (.cells #[] 245)) (ie+1) ov acc):=aa (aV HR8.o HU9.o);have HLE:Hid (ie+1<=(W8.alloc (.cells #[] 245)).heap.size/\acc.length<=100000):=aa ⟨HI9.o.lt,by have:=HAL.o;omega⟩;by_cases hlt:kv∈S
       ·have S5:Hid (decide (kv∈S)=true):=aa (decide_eq_true hlt);have Lx:Hid (∃dn,(dn++rs).Perm (fN cs)/\acc=(dn.map (·.1)).filter (fun x=>decide (x ∉ S))):=aa (by
         obtain⟨dn,hq,he⟩:=Jd.o;refine⟨_,hq,?_⟩;rw[List.map_append,List.filter_append,<- he];simp[hlt])
        have PY:Hid ((W8.alloc (.cells #[] 245)).rangeLeft w.heap.size ie<W7.rangeLeft w.heap.size ie):=aa (by have:=Xw.o;rw[HI9.o.left];omega);clear hlt Jd;go_wp2_with (at_lookup;refine bY _ rfl _ _ _ _ rfl 245 ck dv Tryz.underlying243 (HZU.o _) lb _ rfl jG.o.1 kv rfl HGV.o ?_;rw[uN,rI];try rw[S5.o]);go_roundw
        case rel=>exact⟨rs,acc,HR9,HI9,rR,qg,Lx⟩
        case measure=>exact PY.o
       ·have S5:Hid (decide (kv∈S)=false):=aa (decide_eq_false hlt);have Lx:Hid (∃dn,(dn++rs).Perm (fN cs)/\acc++[kv]=(dn.map (·.1)).filter (fun x=>decide (x ∉ S))):=aa (by
         obtain⟨dn,hq,he⟩:=Jd.o;refine⟨_,hq,?_⟩;rw[List.map_append,List.filter_append,<- he];simp[hlt])
        clear hlt Jd;obtain⟨oa,ok,rfl⟩:=az HR9.o;go_wp2_with (first | (at_lookup;refine bY _ rfl _ _ _ _ rfl 245 ck dv Tryz.underlying243 (HZU.o _) lb _ rfl jG.o.1 kv rfl HGV.o ?_;rw[uN,rI];try rw[S5.o]) | (at_builtin;refine ni rfl _ _ rfl (ie+1) _ acc rfl HR9.o kv 1 (by simp[go_sem]) HLE.o.2 HLE.o.1 ?_;intro v5 w5 h5 ha));obtain⟨⟨q1,q2,q3,q4,q5⟩,-⟩:=ha;have hsz:((W8.alloc (.cells #[] 245)).alloc (.cells #[.int .u32 (kv:Int)] 26)).heap.size=(W8.alloc (.cells #[] 245)).heap.size+1:=by simp
        have hlt:=HLE.o.1;have hblk:∀x,x<=ie->w5.heap[x]? = (W8.alloc (.cells #[] 245)).heap[x]? := fun x hx=>by
         rw[q5 x (by rw[hsz];omega) (fun e=>by have:=aF HR9.o x (by first | exact e | exact e.symm);omega)];exact(MapKept.heap_alloc _ _).2 _ ae
        have hN:=HN.o;have hN5:=OP.o;have Pf:Hid (cx prog 26 iX sJ w5 w.heap.size ie (fN cs) rs):=aa (HI9.o.kept (hblk _ ae) (hblk _ (Nat.le_refl _)));have Tv:Hid (Below w.heap.size w w5):=aa (rR.o.trans ⟨by rw[q1];rfl,by rw[q2];rfl,by rw[q3];rfl,by rw[hsz]at q4;omega,fun k hk=>hblk k ae⟩);have nP:Hid (jy w5 lb S/\w5.heap[qc]? = some (.cells #[.map (some lb)] 243)):=aa ⟨qg.o.1.kept (hblk _ ae),(hblk _ ae).trans qg.o.2⟩;have akv:=aa h5;have PY:Hid (w5.rangeLeft w.heap.size ie<W7.rangeLeft w.heap.size ie):=aa (by have:=Xw.o;rw[Pf.o.left];omega);clear q1 q2 q3 q4 q5 hsz hlt hblk hN hN5 h5;go_roundw
        case rel=>exact⟨rs,acc++[kv],akv,Pf,Tv,nP,Lx⟩
        case measure=>exact PY.o
    ·intro kv c na nk rs w1 rW hp qi rX hen;have X1:∀x,x≠ib->(setBlock w1 ib rW).heap[x]? = W5.heap[x]? := fun x hx=>by
      rcases qi with rfl | rfl
      ·exact bg _ hx
      ·exact bg _ hx
     have hb1:Below w.heap.size w (setBlock w1 ib rW):=by
      have h0:aH (fun x=>w.heap.size<=x) w W5:=aH.aW HB.out;have:aH (fun x=>w.heap.size<=x) w (setBlock w1 ib rW):=by
       have:=HN.o;rcases qi with rfl | rfl
       ·exact h0.setBlock _ _ (.inl ae)
       ·exact h0.drew.setBlock _ _ (.inl ae)
      exact this.below (Nat.le_refl _) (fun _ h=>h)
     have gA:Hid (jy (setBlock w1 ib rW) lb S/\(setBlock w1 ib rW).heap[qc]? = some (.cells #[.map (some lb)] 243)):=aa ⟨HS.out.1.kept (X1 _ (by have:=HN.o;omega)),by rw[X1 _ (by have:=HN.o;omega)];exact HS.out.2⟩;have mW:=aa hb1;have HPP:=aa hp;have HKV:Hid ((kv,(c,na,nk))∈fN cs):=aa (HP.o.mem_iff.1 (List.mem_append.2 (.inr (hp.mem_iff.2 ah))));have HI6:=aa rX;have Xw:Hid (todo.length=rs.length+1/\W5.rangeLeft w.heap.size ib=todo.length):=aa ⟨by have:=hp.length_eq;simpa using this,HI.out.left⟩;clear X1 hb1 hp qi rX HI HB HS;generalize setBlock w1 ib rW=W6 at *;have HPC:Hid ((c,na,nk)∈cs/\kv=c.v):=aa (by
      obtain⟨x,hx,he⟩:=List.mem_map.1 HKV.o;cases he;exact⟨List.mem_reverse.1 hx,rfl⟩)
     have HNR:=aa (H.o.ky _ HPC.o.1);have SJ:Hid (Below W6.heap.size W6 (W6.alloc (.cells #[.int .u32 (c.v:Int),.int .u64 (c.k:Int),.slice na c.n.length nk] 181))/\(W6.alloc (.cells #[.int .u32 (c.v:Int),.int .u64 (c.k:Int),.slice na c.n.length nk] 181)).heap[W6.heap.size]? = some (.cells #[.int .u32 (c.v:Int),.int .u64 (c.k:Int),.slice na c.n.length nk] 181)):=aa ⟨aj.alloc (Nat.le_refl _) _,heap_alloc_new _ _⟩;have HI7:Hid (cx prog 26 iX sJ (W6.alloc (.cells #[.int .u32 (c.v:Int),.int .u64 (c.k:Int),.slice na c.n.length nk] 181)) w.heap.size ib (fN cs) rs):=aa (HI6.o.kept (SJ.o.1.block _ HI6.o.map.lt) (SJ.o.1.block _ HI6.o.lt));have rQ:Hid (Below w.heap.size w (W6.alloc (.cells #[.int .u32 (c.v:Int),.int .u64 (c.k:Int),.slice na c.n.length nk] 181))):=aa (mW.o.trans (SJ.o.1.mono mW.o.size));have jU:Hid (jy (W6.alloc (.cells #[.int .u32 (c.v:Int),.int .u64 (c.k:Int),.slice na c.n.length nk] 181)) lb S/\(W6.alloc (.cells #[.int .u32 (c.v:Int),.int .u64 (c.k:Int),.slice na c.n.length nk] 181)).heap[qc]? = some (.cells #[.map (some lb)] 243)):=aa ⟨gA.o.1.kept (SJ.o.1.block _ gA.o.1.lt),(SJ.o.1.block _ (Array.getElem?_eq_some_iff.1 gA.o.2).1).trans gA.o.2⟩;obtain⟨ab,hab⟩:∃x,x=W6.heap.size:=⟨_,rfl⟩;have HAB:Hid ((W6.alloc (.cells #[.int .u32 (c.v:Int),.int .u64 (c.k:Int),.slice na c.n.length nk] 181)).heap[ab]? = some (.cells #[.int .u32 (c.v:Int),.int .u64 (c.k:Int),.slice na c.n.length nk] 181)/\ab≠lb):=aa ⟨by rw[hab];exact SJ.o.2,by have:=gA.o.1.lt;omega⟩;clear HI6 mW gA;go_wp2_with fail;rw[<- hab];generalize W6.alloc (.cells #[.int .u32 (c.v:Int),.int .u64 (c.k:Int),.slice na c.n.length nk] 181)=W7 at *;clear hab SJ hen;go_loopw [51] (fun vk wr=>∃(k:Nat)(S':List Nat),vk=.int .i64 (k:Int)/\k<=c.n.length/\Hid (cx prog 26 iX sJ wr w.heap.size ib (fN cs) rs)/\Hid (Below w.heap.size w wr)/\Hid (jy wr lb S'/\wr.heap[qc]? = some (.cells #[.map (some lb)] 243))/\Hid (wr.heap[ab]? = some (.cells #[.int .u32 (c.v:Int),.int .u64 (c.k:Int),.slice na c.n.length nk] 181)/\ab≠lb)/\Hid (∀z,z∈S'↔z∈S\/∃y∈c.n.take k,∃b∈cs,b.1.v=y/\Fq c b.1 z)) (fun vk _=>c.n.length-(intOf vk).toNat)
     case atStart=>exact⟨0,S,rfl,Nat.zero_le _,HI7,rQ,jU,HAB,aa ah⟩
     case round=>
      obtain⟨k,S',rfl,hk,LM,zh,jG,Jd,XM⟩:=hrel;clear HI7 rQ jU HAB;generalize wr=W8 at *;by_cases hkt:k<c.n.length
      ·have FV:(k:Int)<(c.n.length:Int):=by omega
       obtain⟨g,rfl,zK⟩:∃g,na=some ⟨g,0,none⟩/\c.n.length<=maxLen:=by
        obtain⟨-,⟨h1,h2⟩|⟨g,cap,_,h1,_,_,Yn,hcm,_⟩⟩:=HNR.o.1
        ·omega
        ·cases h1;exact⟨g,rfl,ae⟩
       unfold maxLen at zK;have wk:IntKind.i64.wrap ((k:Int)+1)=((k+1:Nat):Int):=by rw[ax]<;>omega
       obtain⟨y,hy⟩:∃x,c.n[k]? = some x:=⟨_,List.getElem?_eq_getElem hkt⟩;have HY:=aa hy;have HGY:=aa (fQ (HNR.o.2 y (List.mem_of_getElem? hy)));have q0:=iy (aV HNR.o.1 zh.o) hy;have a0:W8.cell? ⟨ab,0,none⟩=some (.int .u32 (c.v:Int)):=by rw[aq Jd.o.1];rfl
       have a1:W8.cell? ⟨ab,1,none⟩=some (.int .u64 (c.k:Int)):=by rw[aq Jd.o.1];rfl
       have a2:W8.cell? ⟨ab,2,none⟩=some (.slice (some ⟨g,0,none⟩) c.n.length nk):=by rw[aq Jd.o.1];rfl
       obtain⟨⟨b,nb,nbk⟩,hp,Xu,gV⟩|⟨gV,hno⟩:=Tq H.o y
       ·have AD:=aa gV;have HPB:=aa (show(b,nb,nbk)∈cs/\b.v=y from⟨hp,Xu⟩);clear hp Xu gV hy;have rR:Hid (Below W8.heap.size W8 (W8.alloc (.cells #[.int .u32 (b.v:Int),.int .u64 (b.k:Int),.slice nb b.n.length nbk] 181))):=aa ai;have qg:Hid (jy (W8.alloc (.cells #[.int .u32 (b.v:Int),.int .u64 (b.k:Int),.slice nb b.n.length nbk] 181)) lb S'/\(W8.alloc (.cells #[.int .u32 (b.v:Int),.int .u64 (b.k:Int),.slice nb b.n.length nbk] 181)).heap[qc]? = some (.cells #[.map (some lb)] 243)):=aa ⟨jG.o.1.kept (rR.o.block _ jG.o.1.lt),(rR.o.block _ (Array.getElem?_eq_some_iff.1 jG.o.2).1).trans jG.o.2⟩;have e0:=AW rR.o a0;have e1:=AW rR.o a1;have e2:=AW rR.o a2;have HMT:=aa (Tj (y:=b) qg.o.2 qg.o.1 (by have:=HN.o;omega) c (H.o.v32 _ HPC.o.1) (H.o.v32 _ HPB.o.1) (xa:=some ⟨g,0,none⟩) (xn:=c.n.length) (xc:=nk) (ya:=nb) (yn:=b.n.length) (yc:=nbk));go_wp2_with (at_lookup;refine bY _ rfl _ _ _ _ rfl 181 ck dv Tryz.underlying241 (HZ.o _) w.heap.size _ rfl LM.o.map y rfl HGY.o ?_;unfold p7;rw[AD.o];simp only[Option.map_some,Option.getD_some,Option.isSome_some]);refine HMT.o.mono ?_;rintro e w9⟨S9,rfl,hs9,hz9,ht9,hc9⟩;have YG:∀x,x<W8.heap.size->x≠lb->w9.heap[x]? = W8.heap[x]? := fun x hx hne=>by
         exact(ht9.block x (by have:=rR.o.size;omega) hne).trans (rR.o.block _ hx)
        have Pf:Hid (cx prog 26 iX sJ w9 w.heap.size ib (fN cs) rs):=aa (LM.o.kept (YG _ LM.o.map.lt (by have:=HN.o;omega)) (YG _ LM.o.lt (by have:=HN.o;omega)));have Tv:Hid (Below w.heap.size w w9):=aa (by
         have h0:aH (fun x=>w.heap.size<=x) w w9:=((aH.aW zh.o).alloc _).trans ht9 (fun x _ e=>by have:=HN.o;omega);exact h0.below (Nat.le_refl _) (fun _ h=>h))
        have nP:=aa (show _/\_ from⟨hs9,hc9⟩);have aax:Hid (w9.heap[ab]? = some (.cells #[.int .u32 (c.v:Int),.int .u64 (c.k:Int),.slice (some ⟨g,0,none⟩) c.n.length nk] 181)/\ab≠lb):=aa ⟨(YG _ (Array.getElem?_eq_some_iff.1 Jd.o.1).1 Jd.o.2).trans Jd.o.1,Jd.o.2⟩;have aay:Hid (∀z,z∈S9↔z∈S\/∃y∈c.n.take (k+1),∃b∈cs,b.1.v=y/\Fq c b.1 z):=aa (fun z=>by
         rw[hz9 z,XM.out z,uQ HY.o];refine or_congr Iff.rfl ⟨fun h=>⟨_,HPB.o.1,HPB.o.2,h⟩,?_⟩;rintro⟨b',hb',hv,hm⟩;rw[Tr H.o hb' HPB.o.1 (hv.trans HPB.o.2.symm)]at hm;exact hm)
        clear hs9 hz9 ht9 hc9 YG LM zh jG Jd XM HMT qg rR a0 a1 a2 e0 e1 e2 q0;go_wp2;go_roundw
        case rel=>exact⟨k+1,S9,by go_num,ae,Pf,Tv,nP,aax,aay⟩
        case measure=>simp[intOf];omega
       ·have AD:=aa gV;have aay:Hid (∀z,z∈S'↔z∈S\/∃y∈c.n.take (k+1),∃b∈cs,b.1.v=y/\Fq c b.1 z):=aa (fun z=>by
         rw[XM.out z,uQ HY.o];refine⟨.inl,fun h=>h.elim id ?_⟩;rintro⟨b',hb',hv,-⟩;exact absurd hv (hno _ hb'))
        clear gV hno hy;have rR:Hid (Below W8.heap.size W8 (W8.alloc (.cells #[.int .u32 0,.int .u64 0,.slice none 0 0] 181))):=aa ai;have nP:Hid (jy (W8.alloc (.cells #[.int .u32 0,.int .u64 0,.slice none 0 0] 181)) lb S'/\(W8.alloc (.cells #[.int .u32 0,.int .u64 0,.slice none 0 0] 181)).heap[qc]? = some (.cells #[.map (some lb)] 243)):=aa ⟨jG.o.1.kept (rR.o.block _ jG.o.1.lt),(rR.o.block _ (Array.getElem?_eq_some_iff.1 jG.o.2).1).trans jG.o.2⟩;have Pf:Hid (cx prog 26 iX sJ (W8.alloc (.cells #[.int .u32 0,.int .u64 0,.slice none 0 0] 181)) w.heap.size ib (fN cs) rs):=aa (LM.o.kept (rR.o.block _ LM.o.map.lt) (rR.o.block _ LM.o.lt));have Tv:Hid (Below w.heap.size w (W8.alloc (.cells #[.int .u32 0,.int .u64 0,.slice none 0 0] 181))):=aa (zh.o.trans (rR.o.mono zh.o.size));have aax:Hid ((W8.alloc (.cells #[.int .u32 0,.int .u64 0,.slice none 0 0] 181)).heap[ab]? = some (.cells #[.int .u32 (c.v:Int),.int .u64 (c.k:Int),.slice (some ⟨g,0,none⟩) c.n.length nk] 181)/\ab≠lb):=aa ⟨(rR.o.block _ (Array.getElem?_eq_some_iff.1 Jd.o.1).1).trans Jd.o.1,Jd.o.2⟩;clear XM rR a0 a1 a2;go_wp2_with (at_lookup;refine bY _ rfl _ _ _ _ rfl 181 ck dv Tryz.underlying241 (HZ.o _) w.heap.size _ rfl LM.o.map y rfl HGY.o ?_;unfold p7;rw[AD.o];simp only[Option.map_none,Option.getD_none,Option.isSome_none]);go_roundw
        case rel=>exact⟨k+1,S',by go_num,ae,Pf,Tv,nP,aax,aay⟩
        case measure=>simp[intOf];omega
      ·have FV:¬(k:Int)<(c.n.length:Int):=by omega
       have HPN:Hid (((dn++[(kv,(c,na,nk))])++rs).Perm (fN cs)):=aa (by
        refine List.Perm.trans ?_ HP.o;rw[List.append_assoc];exact(List.Perm.append_left dn (by simpa using HPP.o.symm)))
       have HZN:Hid (∀z,z∈S' ↔ ∃q∈dn++[(kv,(c,na,nk))],∃b∈cs,b.1.v∈q.2.1.n/\Fq q.2.1 b.1 z):=aa (fun z=>by
        rw[XM.out z,HZS.out z,List.take_of_length_le ae];constructor
        ·rintro(⟨q,hq,r⟩|⟨y,hy,b,hb,rfl,hm⟩)
         ·exact⟨q,List.mem_append.2 (.inl hq),r⟩
         ·exact⟨(kv,(c,na,nk)),List.mem_append.2 (.inr ah),b,hb,hy,hm⟩
        ·rintro⟨q,hq,b,hb,h1,h2⟩;rcases List.mem_append.1 hq with hq | hq
         ·exact .inl ⟨q,hq,b,hb,h1,h2⟩
         ·rw[List.mem_singleton]at hq;subst hq;exact .inr ⟨_,h1,b,hb,rfl,h2⟩)
       have PY:Hid (W8.rangeLeft w.heap.size ib<W5.rangeLeft w.heap.size ib):=aa (by have:=Xw.o;rw[LM.o.left];omega);clear XM Jd;go_wp2;go_roundw
       case rel=>exact⟨_,rs,S',LM,zh,jG,HPN,HZN⟩
       case measure=>exact PY.o
end
end
section
open Go.RowKit Go.Maps
open Go.ChangeMaps (setBlock)
abbrev fE(w:World)(b:Nat)(S:List Nat):Prop:=bO prog 26 iX (fun _:Unit=>Value.bool true) w b (S.map fun x=>(x,()))
theorem Ph:(prog.info? 181).map (fun i=>(i.zero,i.size,i.bytes))=some (some (.agg #[.int .u32 0,.int .u64 0,.slice none 0 0]),3,40):=by kernel_rfl
section
variable {w:World} {ops:Array Oper} {rest:List Oper} {op:Oper} {a:Act} {Q:Exit->Act->World->Prop}
theorem tk(hgd:op.guard=none)(s x:Operand)(ho:op.op=.call { callee:=.builtin .append,args:=#[s,x],argTypes:=#[174,174] })(base:Nat)(v:Value)(l:List kG)(hs:a.eval s=v)(hown:jZ w base v l)(y:kG)(c:Nat)(hx:a.eval x=.slice (some ⟨w.heap.size,0,none⟩) 1 c)(hl:l.length<=100000)(hbase:base<=w.heap.size)(k:∀v' w',jZ w' base v' (l++[y])->lr v (w.alloc (.cells #[.int .u32 (y.1.v:Int),.int .u64 (y.1.k:Int),.slice y.2.1 y.1.n.length y.2.2] 181)) w' v'->wpList prog ops Q rest (a.put op.dst v') w') :
 wpList prog ops Q (op::rest) a (w.alloc (.cells #[.int .u32 (y.1.v:Int),.int .u64 (y.1.k:Int),.slice y.2.1 y.1.n.length y.2.2] 181)):=by
 refine dR hgd s x 174 ho base 181 _ 3 40 Tryz.underlying174 Ph rfl af v l.length (iE l) hs (World.ownsRow.alloc hown _) ⟨w.heap.size,0,none⟩ 1 c [.int .u32 (y.1.v:Int),.int .u64 (y.1.k:Int),Bi y] hx rfl (fun j u hj=>?_) (by simp[Value.oneCell']) (by grind [maxLen]) ae (by simp;omega) (fun v' w' h1 h2=>k v' w' ?_ h2)
 ·rw[bG,Nat.zero_add];simp_all
 ·unfold jZ;rw[Bj,List.length_append];exact h1
end
section
variable {w0 w w' W W':World} {pb db n gb gen N ob ib vb rb:Nat} {o o' gP:ar} {d d' gB:Dsk} {L:aD} {es:List aJ} {vs:List bW} {lv JN:Value} {cs:List kG}
structure xw(n pb db:Nat)(w:World)(o:ar)(d:Dsk)(L:aD)(lv:Value)(cs:List kG)(W:World)(o':ar)(d':Dsk):Prop where
 mv:au (fun _=>False) n pb db w o d W o' d' L
 row:jZ W w.heap.size lv cs
 own:∀b,lv.ownBlock=some b->o' b=none
 ky:∀p∈cs,bF W w.heap.size (Bi p) p.1.n/\∀b,(Bi p).ownBlock=some b->o' b=none
theorem xw.below(h:xw n pb db w o d L lv cs W o' d')(hb:Below W.heap.size W W'):xw n pb db w o d L lv cs W' o' d':=
 ⟨h.mv.below hb,aV h.row hb,h.own,fun p hp=>⟨aV (h.ky p hp).1 hb,(h.ky p hp).2⟩⟩
theorem xw.moved(h:xw n pb db w o d L lv cs W o' d')(hm:au (fun _=>False) n pb db W o' d' W' gP gB L):xw n pb db w o d L lv cs W' gP gB:=
 ⟨h.mv.trans hm (fun _ _ e=>e),hm.ownsRow h.row (fun b hb=>⟨h.own b hb,fun e=>e⟩),fun b hb=>hm.free (aL h.row b hb).1 (h.own b hb),
  fun p hp=>⟨hm.ownsRow (h.ky p hp).1 (fun b hb=>⟨(h.ky p hp).2 b hb,fun e=>e⟩),fun b hb=>hm.free (aL (h.ky p hp).1 b hb).1 ((h.ky p hp).2 b hb)⟩⟩
theorem xw.IA(h:xw n pb db w o d L lv cs W o' d'){y:kG}{ob:Obj}(hr:jZ W' w.heap.size JN (cs++[y]))(ha:lr lv (W.alloc ob) W' JN)(hy:bF W w.heap.size (Bi y) y.1.n)(hyo:∀b,(Bi y).ownBlock=some b->o' b=none):xw n pb db w o d L JN (cs++[y]) W' o' d':=by
 obtain⟨hm,hf,hh,hz⟩:=ha.moved h.mv (fun x hx=>⟨h.own x hx,(aL h.row x hx).2⟩);have hk:∀p:kG,bF W w.heap.size (Bi p) p.1.n->bF W' w.heap.size (Bi p) p.1.n:=fun p hp=>
  bI hp (fun b hb=>hh b (aL hp b hb).1 (fun e=>j9 hp h.row af b hb e))
 refine⟨hm,hr,fun b hb=>(hf b hb).1,fun p hp=>?_⟩;grind [ky]
theorem Fw{vs:List bW}{k:Nat}:∀c∈(vs.zipIdx k).filterMap (fun p=>if p.1.r=4294967295 then some (oK es p.2 p.1) else none),k<=c.v/\c.v<k+vs.length:=by
 grind [oK]
theorem LN(vs:List bW):∀k,(((vs.zipIdx k).filterMap (fun p=>if p.1.r=4294967295 then some (oK es p.2 p.1) else none)).map (·.v)).Pairwise (· < ·):=by
 induction vs with
 |nil=>simp
 |cons x vs ih=>
   intro k;rw[List.zipIdx_cons,List.filterMap_cons];split
   ·grind
   ·rename_i c hc
    rw[List.map_cons,List.pairwise_cons];refine⟨fun y hy=>?_,ih (k+1)⟩;obtain⟨z,hz,rfl⟩:=List.mem_map.1 hy;have h1:=(Fw z hz).1;simp only at hc;split at hc
    ·cases hc;assumption
    grind
theorem M8{v:Nat}(h:∀x∈es,x.t.toNat<N/\x.h.toNat<N):∀y∈cV es v,y<N:=by
 have F0:∀(l acc:List Nat)(y:Nat),y∈l.foldl iz acc->y∈acc\/y∈l:=by
  intro l;induction l with
  |nil=>simp
  |cons x l ih=>
    grind [O6]
 intro y hy;rw[Be]at hy;rcases F0 _ _ y hy with h1 | h1
 ·rcases F0 _ _ y h1 with h2 | h2
  ·cases h2
  ·obtain⟨x,hx,rfl⟩:=List.mem_map.1 h2;grind [A9]
 ·obtain⟨x,hx,rfl⟩:=List.mem_map.1 h1;grind [MZ]
noncomputable def km(es:List aJ)(vs:List bW)(j:Nat):List zb:=er es (vs.take j)
theorem Je(es:List aJ)(vs:List bW){j:Nat}(h:vs.length<=j):km es vs j=er es vs:=by grind [km,List.take_of_length_le]
theorem uR(es:List aJ)(vs:List bW){j:Nat}{x:bW}(h:vs[j]? = some x):km es vs (j+1)=km es vs j++if x.r=4294967295 then [oK es j x] else []:=by
 grind [km,er,List.take_succ_eq_append_getElem]
theorem LO(es:List aJ)(vs:List bW)(j:Nat):(km es vs j).length<=(er es vs).length:=by
 grind [km,er,List.take_append_drop]
theorem xw.pick(h:xw n pb db w o d L lv cs W o' d')(he:cs.map (·.1)=er es vs)(hn:∀x∈es,x.t.toNat<vs.length/\x.h.toNat<vs.length)(hv:vs.length<=1000)(hl:(er es vs).length<=24):pP W w.heap.size lv cs:=by
 have mA:∀p∈cs,p.1∈er es vs:=fun p hp=>by grind
 refine⟨h.row,fun p hp=>⟨aU (h.ky p hp).1 (Nat.zero_le _),fun y hy=>?_⟩,fun p hp=>?_,?_,?_⟩
 ·obtain⟨⟨x,i⟩,-,hq⟩:=List.mem_filterMap.1 (mA p hp);split at hq
  ·have hq:=Option.some.inj hq;rw[<- hq]at hy;have:=M8 hn y hy;omega
  grind
 ·have:=(Fw _ (mA p hp)).2;omega
 ·have:=LN (es:=es) vs 0;rw[show cs.map (·.1.v)=(cs.map (·.1)).map (·.v) by simp,he];exact this
 grind
end
end
section
open Go.RowKit Go.Maps
theorem fS{b:Bool}{l:List aJ}{e:aJ}:e∈aK b l↔e∈l/\e.t≠e.h/\∀x∈l,same x e->rk e<=rk x:=by
 have h:=bU b l;refine⟨h.mem e,fun⟨h1,h2,h3⟩=>?_⟩;obtain⟨y,hy,hs⟩:=h.all e h1 h2;obtain⟨g1,-,g3⟩:=h.mem y hy;have h6:=QK (Nat.le_antisymm (g3 e h1 hs.symm) (h3 y g1 hs));rw[<- aJ.ext' hs.1 hs.2 h6.1 h6.2];exact hy
theorem DU(b b':Bool)(l:List aJ):aK b (aK b' l)=aK b l:=((bU b' l).trans (bU b _)).unique (bU b l)
theorem Tw(l:List Nat):∀(acc:List Nat)(y:Nat),y∈l.foldl (fun a x=>if x∈a then a else a++[x]) acc↔y∈acc\/y∈l:=by
 induction l with
 |nil=>simp
 |cons x l ih=>
   grind
theorem pQ{es:List aJ}{v:Nat}{x:aJ}:x∈aY es v↔x∈aK false es/\x.t.toNat=v:=by
 grind [aY,Ip,fW]
theorem tq{es:List aJ}{v:Nat}{x:aJ}:x∈fC es v↔x∈aK false es/\x.h.toNat=v:=by
 grind [fC,Ip,fW,fS]
theorem oN{es:List aJ}{v w:Nat}:w∈cV es v ↔ ∃x∈aK false es,x.t.toNat=v/\x.h.toNat=w\/x.h.toNat=v/\x.t.toNat=w:=by
 grind [cV,S1,Tw,pQ,tq]
theorem DV{es:List aJ}{v:Nat}:v ∉ cV es v:=fun h=>by
 grind [oN,fS,UInt32.toNat_inj]
theorem Jf:∀cs:List zb,cs≠[]->∃a∈cs,∀b∈cs,¬gH b a:=by
 intro cs;induction cs with
 |nil=>simp
 |cons x cs ih=>
   intro _;by_cases e:cs=[]
   ·subst e;exact⟨x,ah,fun b hb=>by grind [gH]⟩
   grind [gH]
theorem Bk{cs:List zb}{v:Nat}:v∈kX cs↔(∃c∈cs,c.v=v)/\¬A8 cs v:=by
 grind [kX]
theorem Wc{cs:List zb}(hn:∀a∈cs,∀b∈cs,a.v=b.v->a=b)(h:cs≠[]):kX cs≠[]:=by
 obtain⟨a,ha,hl⟩:=Jf cs h;have:a.v∈kX cs:=by
  rw[Bk];refine⟨⟨a,ha,rfl⟩,?_⟩;rintro⟨x,hx,y,hy,-,hne,⟨h1,h2⟩|⟨h1,h2⟩⟩
  ·grind
  grind [gH]
 grind
theorem LP{cs:List zb}{a b:zb}(ha:a∈cs)(hb:b∈cs)(h1:a.v∈kX cs)(h2:b.v∈kX cs)(hne:a.v≠b.v):b.v ∉ a.n:=fun hn=>by
 rw[Bk]at h1 h2;by_cases h:gH a b
 ·exact h2.2 ⟨a,ha,b,hb,hn,hne,.inl ⟨h,rfl⟩⟩
 ·exact h1.2 ⟨a,ha,b,hb,hn,hne,.inr ⟨h,rfl⟩⟩
theorem uS{es:List aJ}{vs:List bW}{c:zb}:c∈er es vs ↔ ∃(i:Nat)(x:bW),vs[i]? = some x/\x.r=4294967295/\c=oK es i x:=by
 unfold er;rw[List.mem_filterMap];constructor
 ·grind
 ·rintro⟨i,x,hx,hr,rfl⟩;exact⟨(x,i),by grind,by grind⟩
theorem Tx{es:List aJ}{vs:List bW}:∀a∈er es vs,∀b∈er es vs,a.v=b.v->a=b:=by
 intro a ha b hb e;obtain⟨i,x,h1,-,rfl⟩:=uS.1 ha;obtain⟨j,y,h2,-,rfl⟩:=uS.1 hb;have e:i=j:=e;grind
theorem fJ{es:List aJ}{vs:List bW}{v:Nat}(h:v∈aA es vs):∃x,vs[v]? = some x/\x.r=4294967295/\oK es v x∈er es vs:=by
 obtain⟨⟨c,hc,rfl⟩,-⟩:=Bk.1 h;obtain⟨i,x,h1,h2,rfl⟩:=uS.1 hc;exact⟨x,h1,h2,hc⟩
theorem j5{es:List aJ}{vs:List bW}{v:Nat}(h:v∈aA es vs):v<vs.length:=by
 grind [fJ]
theorem jB{es:List aJ}{vs:List bW}{v w:Nat}(hv:v∈aA es vs)(hw:w∈aA es vs):w ∉ cV es v:=by
 by_cases e:v=w
 ·grind [DV]
 ·obtain⟨x,-,-,hx⟩:=fJ hv;obtain⟨y,-,-,hy⟩:=fJ hw;exact LP hx hy hv hw e
theorem gM(es:List aJ)(vs:List bW):(aA es vs).Pairwise (· < ·):=by
 have key:∀(vs:List bW)(k:Nat),(((vs.zipIdx k).filterMap fun p=>if p.1.r=4294967295 then some (oK es p.2 p.1) else none).map (·.v)).Pairwise (· < ·)/\∀v∈((vs.zipIdx k).filterMap fun p=>if p.1.r=4294967295 then some (oK es p.2 p.1) else none).map (·.v),k<=v:=by
  intro vs;induction vs with
  |nil=>simp
  |cons x vs ih=>
    intro k;obtain⟨h1,h2⟩:=ih (k+1);rw[List.zipIdx_cons,List.filterMap_cons];by_cases hx:x.r=4294967295
    ·simp only[hx,if_true,List.map_cons,List.pairwise_cons,List.mem_cons];refine⟨⟨fun y hy=>?_,h1⟩,?_⟩
     ·have:=h2 y hy;assumption
     ·rintro y (rfl | hy)
      ·simp
      grind
    grind
 grind [aA,kX,er]
theorem DW{es:List aJ}{vs:List bW}{i:Nat}{x:bW}(h:vs[i]? = some x)(hx:x.r=4294967295):aA es vs≠[]:=
 Wc Tx (fun e=>by
  have:=(uS (es:=es)).2 ⟨i,x,h,hx,rfl⟩;grind)
theorem LQ{es:List aJ}{vs:List bW}(h:∀(i:Nat)(x:bW),vs[i]? = some x->x.r≠4294967295):aA es vs=[]:=by
 cases e:aA es vs with
 |nil=>rfl
 |cons v l=>
   obtain⟨x,h1,h2,-⟩:=fJ (es:=es) (vs:=vs) (v:=v) (by grind);grind
theorem Fx(lv:UInt32)(vs:List bW)(w:Nat):(kF lv vs w).length=vs.length:=by grind [kF]
theorem DX(lv:UInt32)(vs:List bW)(w u:Nat):(kF lv vs w)[u]? = if w=u then (vs[u]?).map (fun x=>⟨x.r,if x.l<lv then lv else x.l,x.g+1⟩) else vs[u]? := by
 grind [kF]
theorem Fy(lv:UInt32)(l:List Nat):∀vs:List bW,(l.foldl (kF lv) vs).length=vs.length:=by
 induction l with
 |nil=>simp
 |cons w l ih=>grind [Fx]
theorem Wd(lv:UInt32)(l:List Nat)(u:Nat):∀vs:List bW,((l.foldl (kF lv) vs)[u]?).map (·.r)=(vs[u]?).map (·.r):=by
 induction l with
 |nil=>simp
 |cons w l ih=>
   grind [DX]
theorem yu(lv:UInt32)(l:List Nat)(u:Nat)(h:u ∉ l):∀vs:List bW,(l.foldl (kF lv) vs)[u]? = vs[u]? := by
 induction l with
 |nil=>simp
 |cons w l ih=>
   grind [DX]
section
variable {es:List aJ} {was vs:List bW} {done gen i v u:Nat}
theorem Jg:(fZ es was done gen vs i v).length=vs.length:=by grind [fZ,Fy]
theorem aaz(h:u≠v):((fZ es was done gen vs i v)[u]?).map (·.r)=(vs[u]?).map (·.r):=by
 grind [fZ,Wd]
theorem Bl(h:u≠v)(hn:u ∉ cV es v):(fZ es was done gen vs i v)[u]? = vs[u]? := by
 grind [fZ,yu]
theorem Ty:(fZ es was done gen vs i v)[v]? = (vs[v]?).map fun x=>⟨UInt32.ofNat (done+i),UInt32.ofNat (gen+1),x.g⟩:=by
 grind [fZ,yu,DV]
theorem Fz(ch:List Nat):∀(k:Nat)(vs:List bW),((ch.zipIdx k).foldl (fun vs p=>fZ es was done gen vs p.2 p.1) vs).length=vs.length:=by
 induction ch with
 |nil=>simp
 |cons v ch ih=>grind [List.zipIdx_cons,Jg]
theorem We{ch:List Nat}(h:u ∉ ch):∀(k:Nat)(vs:List bW),(((ch.zipIdx k).foldl (fun vs p=>fZ es was done gen vs p.2 p.1) vs)[u]?).map (·.r)=(vs[u]?).map (·.r):=by
 induction ch with
 |nil=>simp
 |cons v ch ih=>grind [List.zipIdx_cons,aaz]
theorem yv{ch:List Nat}(h:u ∉ ch)(hn:∀v∈ch,u ∉ cV es v):∀(k:Nat)(vs:List bW),((ch.zipIdx k).foldl (fun vs p=>fZ es was done gen vs p.2 p.1) vs)[u]? = vs[u]? := by
 induction ch with
 |nil=>simp
 |cons v ch ih=>grind [List.zipIdx_cons,Bl]
theorem Pj{ch:List Nat}(hr:ch.Pairwise (· < ·))(hn:∀v∈ch,u ∉ cV es v):∀(k:Nat)(vs:List bW),ch[i]? = some u->((ch.zipIdx k).foldl (fun vs p=>fZ es was done gen vs p.2 p.1) vs)[u]? = (vs[u]?).map fun x=>⟨UInt32.ofNat (done+(k+i)),UInt32.ofNat (gen+1),x.g⟩:=by
 induction ch generalizing i with
 |nil=>simp
 |cons v ch ih=>
   intro k vs h;rw[List.pairwise_cons]at hr;rw[List.zipIdx_cons,List.foldl_cons];cases i with
   |zero=>
     cases h;rw[yv (fun e=>by grind) (fun x hx=>hn x (by grind)),Ty];rfl
   |succ i=>
     rw[List.getElem?_cons_succ]at h;rw[ih hr.2 (fun x hx=>hn x (by grind)) (k+1) _ h,Bl (fun e=>by have:=hr.1 _ (List.mem_of_getElem? h);omega) (hn v ah),show k+1+i=k+(i+1) by omega]
end
section
variable {es:List aJ} {was:List bW} {done gen i u:Nat}
theorem ly(ch:List Nat):(cn es was done gen ch).length=was.length:=Fz ch 0 was
theorem uT{ch:List Nat}(h:u ∉ ch):((cn es was done gen ch)[u]?).map (·.r)=(was[u]?).map (·.r):=We h 0 was
theorem Jh{ch:List Nat}(h:u ∉ ch)(hn:∀v∈ch,u ∉ cV es v):(cn es was done gen ch)[u]? = was[u]? := yv h hn 0 was
theorem xy(h:(aA es was)[i]? = some u):(cn es was done gen (aA es was))[u]? = (was[u]?).map fun x=>⟨UInt32.ofNat (done+i),UInt32.ofNat (gen+1),x.g⟩:=by
 have:=Pj (es:=es) (was:=was) (done:=done) (gen:=gen) (i:=i) (u:=u) (gM es was) (fun v hv=>jB hv (List.mem_of_getElem? h)) 0 was h;rw[Nat.zero_add]at this;exact this
end
def jC(vs:List bW)(i:Nat):Bool:=match vs[i]? with
 |some x=>x.r != 4294967295
 |none=>false
structure iV(N:Nat)(es:List aJ)(vs:List bW)(done:Nat):Prop where
 len:vs.length=N
 top:N<=1000
 ends:∀x∈es,∃a b,vs[x.t.toNat]? = some a/\vs[x.h.toNat]? = some b/\a.r=4294967295/\b.r=4294967295
 low:∀(i:Nat)(x:bW),vs[i]? = some x->x.r≠4294967295->x.r.toNat<done
 one:∀(i j:Nat)(x y:bW),vs[i]? = some x->vs[j]? = some y->x.r≠4294967295->x.r=y.r->i=j
 count:((List.range N).filter (jC vs)).length=done
theorem yw{l:List Nat}{p q r:Nat->Bool}(hr:∀x∈l,r x=(p x || q x))(hd:∀x∈l,p x=true->q x=true->False):(l.filter r).length=(l.filter p).length+(l.filter q).length:=by
 induction l with
 |nil=>rfl
 |cons a l ih=>
   grind
theorem LR{ch:List Nat}{N:Nat}(hr:ch.Pairwise (· < ·))(hl:∀v∈ch,v<N):(List.range N).filter (fun v=>decide (v∈ch))=ch:=
 Gw (f:=id) (List.pairwise_lt_range.filter _) hr (fun x=>by grind)
section
variable {N done gen:Nat} {es:List aJ} {vs:List bW}
theorem iV.nr(h:iV N es vs done):done<=N:=by
 have:=List.length_filter_le (jC vs) (List.range N);grind [count]
theorem Ji{es:List aJ}{ch:List Nat}{x:aJ}:x∈gJ es ch↔x∈aK false es/\x.t.toNat ∉ ch/\x.h.toNat ∉ ch:=by
 grind [gJ]
theorem Wf{E:Nat->List aJ}{A:Nat->Bool}{ins:List aJ}{v:UInt32}{y:aJ}(h:y∈oJ E A ins v):∃a∈ins,∃b∈E v.toNat,y=⟨a.t,b.h,UInt64.ofNat (a.x.toNat+b.x.toNat),v⟩/\a.t≠b.h/\A a.t.toNat=false/\A b.h.toNat=false/\a.x.toNat+b.x.toNat<9223372036854775808/\∀x∈E a.t.toNat,x.h.toNat=b.h.toNat->a.x.toNat+b.x.toNat<x.x.toNat:=by
 grind [oJ,jJ]
theorem Jj{ch:List Nat}{x:aJ}(h:x∈fM es ch):x.t.toNat ∉ ch/\x.h.toNat ∉ ch/\(∃y∈aK false es,y.t=x.t)/\∃y∈aK false es,y.h=x.h:=by
 grind [fM,Ji,iJ,Wf,tq,pQ]
theorem j6{i:Nat}:jC vs i=true ↔ ∃x,vs[i]? = some x/\x.r≠4294967295:=by
 grind [jC]
theorem iV.next(h:iV N es vs done)(hd:done+(aA es vs).length<=1000):iV N (aK false (fM es (aA es vs))) (cn es vs done gen (aA es vs)) (done+(aA es vs).length):=by
 have hr:∀u,u ∉ aA es vs->∀y,(cn es vs done gen (aA es vs))[u]? = some y->∃x,vs[u]? = some x/\x.r=y.r:=fun u hu y hy=>by
  grind [uT]
 have ho:∀u,u∈aA es vs->∀y,(cn es vs done gen (aA es vs))[u]? = some y->∃i,(aA es vs)[i]? = some u/\y.r=UInt32.ofNat (done+i)/\i<(aA es vs).length:=fun u hu y hy=>by
  obtain⟨i,hi,e⟩:=List.getElem_of_mem hu;have hi':(aA es vs)[i]? = some u:=by grind
  grind [xy]
 have Um:∀i,i<(aA es vs).length->(UInt32.ofNat (done+i)).toNat=done+i:=fun i hi=>by grind [UInt32.toNat_ofNat']
 refine⟨by rw[ly,h.len],h.top,fun x hx=>?_,fun i y hy hn=>?_,fun i j x y hi hj hn e=>?_,?_⟩
 ·obtain⟨h1,h2,⟨y,hy,ey⟩,⟨z,hz,ez⟩⟩:=Jj (fS.1 hx).1;grind [ends,fS,uT]
 ·by_cases hc:i∈aA es vs
  ·grind
  ·obtain⟨x,hx,e⟩:=hr i hc y hy;have:=h.low i x hx (by grind);grind
 ·by_cases hc:i∈aA es vs<;>by_cases hc':j∈aA es vs
  ·grind
  ·obtain⟨k,hk,e1,BX⟩:=ho i hc x hi;obtain⟨z,hz,e2⟩:=hr j hc' y hj;have:=h.low j z hz (by grind);grind
  ·obtain⟨k,hk,e1,BX⟩:=ho j hc' y hj;obtain⟨z,hz,e2⟩:=hr i hc x hi;have:=h.low i z hz (by grind);grind
  grind [one]
 ·have key:=yw (l:=List.range N) (p:=jC vs) (q:=fun v=>decide (v∈aA es vs)) (r:=jC (cn es vs done gen (aA es vs))) (fun i hi=>?_) (fun i hi h1 h2=>?_)
  ·rw[key,h.count,LR (gM es vs) (fun v hv=>by rw[<- h.len];exact j5 hv)]
  ·by_cases hc:i∈aA es vs
   ·obtain⟨k,hk,e⟩:=List.getElem_of_mem hc;have BX:(aA es vs)[k]? = some i:=by grind
    have:=xy (done:=done) (gen:=gen) BX;obtain⟨x,hx,-⟩:=fJ hc;rw[hx]at this;have h2:jC (cn es vs done gen (aA es vs)) i=true:=by
     rw[j6];refine⟨_,this,fun e=>?_⟩;have e:UInt32.ofNat (done+k)=4294967295:=e;have:=congrArg UInt32.toNat e;grind
    grind
   grind [j6,uT]
  grind [j6,fJ]
theorem iV.all(h:iV N es vs done):aA es vs=[]↔done=N:=by
 constructor
 ·intro e;have:(List.range N).filter (jC vs)=List.range N:=by
   rw[List.filter_eq_self];intro i hi;rw[List.mem_range]at hi;rw[j6];have hi':i<vs.length:=by grind [len]
   refine⟨vs[i],List.getElem?_eq_getElem hi',fun e2=>?_⟩;exact DW (es:=es) (List.getElem?_eq_getElem hi') e2 e
  grind [count]
 ·intro e;refine LQ fun(i:Nat)(x:bW)hx hn=>?_;have hi:=aM hx;have h1:(List.range N).filter (jC vs)=List.range N:=List.filter_sublist.eq_of_length (by grind [count]);rw[List.filter_eq_self]at h1;obtain⟨y,hy,hy'⟩:=j6.1 (h1 i (List.mem_range.2 (by grind [len])));grind
end
end
section
open Go.RowKit Go.Maps
open Go.ChangeMaps (setBlock)
section
variable {w0 w w' W W':World} {pb db n gb gen N ob ib vb rb done base:Nat} {o o' gP:ar} {d d' gB:Dsk} {L:aD} {es:List aJ} {vs:List bW} {lv JN vv x4 x5:Value} {cs:List kG}
def tu(n pb db:Nat)(w:World)(o:ar)(d:Dsk)(L:aD)(rb gb gen done:Nat)(vv:Value)(ch:List Nat)(e:Ending)(w':World):Prop:=
 ∃mb ov S d' o',e=.returned (.int .i64 0)/\au (·=rb) n pb db w o d w' o' d' L/\dA w' rb pb gb gen done (.map (some mb)) ov vv/\bF w' w.heap.size ov ch/\(∀b,ov.ownBlock=some b->o' b=none)/\fE w' mb S/\w.heap.size<=mb/\o' mb=none/\∀z,z∈S↔z∈ch
theorem jD{w:World}{base g cap i:Nat}{l:List bW}{x:bW}(h:dP w base (.slice (some ⟨g,0,none⟩) l.length cap) l)(hi:l[i]? = some x) :
 w.cell? ⟨g,i*3,none⟩=some (.int .u32 (x.r.toNat:Int))/\w.cell? ⟨g,i*3+1,none⟩=some (.int .u32 (x.l.toNat:Int))/\w.cell? ⟨g,i*3+2,none⟩=some (.int .u32 (x.g.toNat:Int)):=by
 have hc:∀(j:Nat)(u:Value),(cL l)[j]? = some u->w.cell? ⟨g,j,none⟩=some u:=fun j u hj=>by
  have:=World.ownsRow.cells h (g:=g) rfl j u hj;grind [bG]
 refine⟨hc _ _ ?_,hc _ _ ?_,hc _ _ ?_⟩
 ·have:=iI hi (j:=0) af;grind
 ·rw[iI hi af];rfl
 ·rw[iI hi af];rfl
theorem Wh(i o s:Nat)(x:bW):SS (i:Int) (o:Int) (s:Int) (x.l.toNat:Int) (x.g.toNat:Int)=(S2 i o s x:Int):=by
 grind [S2,SS]
theorem yZ(HW:aP)(h:fI w0 w pb db n o d L gb gen vs.length ob ib vb es)(hr:dA w rb pb gb gen done x4 x5 vv)(hro:qY w0 w o rb gb ob ib vb)(hvv:dP w base vv vs)(my:∀b,vv.ownBlock=some b->o b=none)(wZ:∀v,v<vs.length->(fC es v).length*(aY es v).length<=100000)(hlen:(er es vs).length<=24) :
 Calls prog 64 #[ptrTo rb] w (tu n pb db w o d L rb gb gen done vv (aA es vs)):=by
 obtain⟨va,vk,rfl⟩:=az hvv;have H:=aa h;have HR:=aa hr;have G8:=aa hro;have HVV:=aa hvv;have vV:=aa my;have HD:=aa wZ;have HLEN:=aa hlen;have vL:∀(t:TypeId)(W:World),(Instr.makeMap t none).run prog W=.ok (.map (some W.heap.size)) (W.alloc (.map #[] 0)):=fun _ _=>rfl;obtain⟨R,hR⟩:∃R,R=tu n pb db w o d L rb gb gen done (.slice va vs.length vk) (aA es vs):=⟨_,rfl⟩;have Tf:=aa hR;rw[<- hR];obtain⟨M,hM⟩:∃M,M=vs.length:=⟨_,rfl⟩;have HM:Hid (M=vs.length/\M<=1000):=aa ⟨hM,by rw[hM];exact h.top⟩;have EU:Hid (xw n pb db w o d L (.slice none 0 0) [] w o d):=aa ⟨au.refl _ h.held.aX,World.ownsRow_nil _ _ _ _,(fun b e=>by cases e),fun p hp=>by cases hp⟩;obtain⟨c0,c1,c2,c3,c4,c5,c6,f6⟩:=hr.cells;have Gp:=hr.lt;rw[<- hM]at c6;clear h hr hro hvv my wZ hlen hR hM c0 c2 c3 c4 c5;unfold ptrTo at *;go_enter func64,ntmps64;go_wp2_with fail;clear c1 c6 f6;go_loopw [3,18] (fun lv vi wr=>∃(j:Nat)(cs:List kG)(o':ar)(d':Dsk),vi=.int .i64 (j:Int)/\j<=M/\Hid (cs.map (·.1)=km es vs j)/\Hid (xw n pb db w o d L lv cs wr o' d')) (fun _ vi _=>M-(intOf vi).toNat)
 case atStart=>exact⟨0,[],o,d,rfl,Nat.zero_le _,aa rfl,EU⟩
 case round=>
  generalize u3=lv at *;obtain⟨j,cs,o1,d1,rfl,hj,HCS,HS⟩:=hrel;clear EU;generalize wr=W1 at *;by_cases hlt:j<M
  ·have JF:(j:Int)<(M:Int):=by omega
   have wj:IntKind.i64.wrap ((j:Int)+1)=((j+1:Nat):Int):=by grind [Hid.out,ax]
   have wu:IntKind.u32.wrap (j:Int)=(j:Int):=by grind [Hid.out,eL]
   obtain⟨x,hx⟩:∃x,vs[j]? = some x:=⟨_,List.getElem?_eq_getElem (by grind [Hid.out])⟩;have HX:=aa hx;obtain⟨g,rfl⟩:∃g,va=some ⟨g,0,none⟩:=by
    obtain⟨-,⟨h1,h2⟩|⟨g,_,_,h1,_⟩⟩:=HVV.o
    ·grind
    grind
   have hrow:dP W1 base (.slice (some ⟨g,0,none⟩) vs.length vk) vs:=HS.out.mv.ownsRow HVV.o (fun b hb=>⟨vV.o b hb,fun e=>e⟩);obtain⟨q0,q1,q2⟩:=jD hrow hx;clear hrow hx;have eR:=aa (HS.out.below (aj.alloc (Nat.le_refl _) (.cells #[.int .u32 (x.r.toNat:Int),.int .u32 (x.l.toNat:Int),.int .u32 (x.g.toNat:Int)] 55)));by_cases hrk:(x.r.toNat:Int)=4294967295
   ·have hkb:((x.r.toNat:Int) == 4294967295)=true:=by grind
    have HK:=aa (show x.r=4294967295 from UInt32.toNat_inj.1 (by grind));clear hrk;obtain⟨V,hV⟩:∃V,V=UInt32.ofNat j:=⟨_,rfl⟩;have hVj:V.toNat=j:=by grind [UInt32.toNat_ofNat',Hid.out]
    have HV:=aa (show V=UInt32.ofNat j/\V.toNat=j from⟨hV,hVj⟩);have Cy:Hid (dA (W1.alloc (.cells #[.int .u32 (x.r.toNat:Int),.int .u32 (x.l.toNat:Int),.int .u32 (x.g.toNat:Int)] 55)) rb pb gb gen done x4 x5 (.slice (some ⟨g,0,none⟩) vs.length vk)):=aa (HR.o.moved G8.o.free eR.o.mv);have cZ:Hid ((W1.alloc (.cells #[.int .u32 (x.r.toNat:Int),.int .u32 (x.l.toNat:Int),.int .u32 (x.g.toNat:Int)] 55)).heap[W1.heap.size]? = some (.cells #[.int .u32 (x.r.toNat:Int),.int .u32 (x.l.toNat:Int),.int .u32 (x.g.toNat:Int)] 55)/\o1 W1.heap.size=none):=aa ⟨heap_alloc_new _ _,HS.out.mv.aX.fresh (Nat.le_refl _)⟩;have Xj:Hid (o1 rb=none):=aa (HS.out.mv.free G8.o.lt G8.o.free);clear hV HS;go_wp2_with fail;obtain⟨xb,FX⟩:∃b,b=W1.heap.size:=⟨_,rfl⟩;rw[<- FX]at cZ;rw[<- FX];generalize W1.alloc (.cells #[.int .u32 (x.r.toNat:Int),.int .u32 (x.l.toNat:Int),.int .u32 (x.g.toNat:Int)] 55)=W2 at *;clear FX q0 q1 q2;have HC:Hid (∀W',(∃o' d',au (fun _=>False) n pb db W2 o1 d1 W' o' d' L)->Calls prog 97 #[uO gb,Fk gb,.int .u32 (j:Int)] W' fun e w''=>e=.returned (.tuple #[.int .i64 ((fC es j).length:Int),.int .i64 ((aY es j).length:Int),.int .i64 ((oJ (aY es) (fun _=>false) (fC es j) V).length:Int),.int .i64 0])/\∃o' d',au (fun _=>False) n pb db W2 o1 d1 w'' o' d' L):=aa (by
     rintro W'⟨o',d',hm⟩;have:=I4 HW ((H.o.moved eR.o.mv).moved hm) V (by rw[HV.o.2];have:=HM.o;omega) (by rw[HV.o.2];exact HD.o j (by have:=HM.o;omega));rw[HV.o.2]at this;refine this.mono ?_;rintro e w''⟨gB,gP,rfl,hm'⟩;exact⟨rfl,gP,gB,hm.trans hm' (fun _ _ e=>e)⟩)
    have HCE:Hid (∀W',(∃o' d',au (fun _=>False) n pb db W2 o1 d1 W' o' d' L)->W'.cell? ⟨rb,1,none⟩=some (ptrTo gb)):=aa (by
     rintro W'⟨o',d',hm⟩;exact(Cy.o.moved Xj.o hm).cells.2.1)
    unfold uO Fk ptrTo at *;refine cR (fun W'=>∃o' d',au (fun _=>False) n pb db W2 o1 d1 W' o' d' L) (by rfl) ag ⟨o1,d1,(au.refl _ eR.o.mv.aX).drew⟩ ?_;iterate 3 (refine qz ?_)
    refine qz ?_ (fun w' hw'=>by have hc:=HCE.o _ hw';go_simp<;>rfl);iterate 4 (refine qz ?_)
    refine qz ?_ (fun w' hw'=>by have hc:=HCE.o _ hw';go_simp<;>rfl);iterate 2 (refine qz ?_)
    refine qz ?_ (fun w' hw'=>by have hx:=wu;go_simp<;>rfl);refine qw (fun w' hw'=>HC.o _ hw') ?_;iterate 9 (refine qz ?_)
    refine wpQuiet_nil ?_;rintro W3⟨o3,d3,ej⟩;have fB:=aa (eR.o.moved ej);have BD:Hid (dA W3 rb pb gb gen done x4 x5 (.slice (some ⟨g,0,none⟩) vs.length vk)/\o3 rb=none):=aa ⟨Cy.o.moved Xj.o ej,ej.free Cy.o.lt Xj.o⟩;have jF:Hid (W3.heap[xb]? = some (.cells #[.int .u32 (x.r.toNat:Int),.int .u32 (x.l.toNat:Int),.int .u32 (x.g.toNat:Int)] 55)/\o3 xb=none):=aa ⟨ej.heap cZ.o.1 cZ.o.2 (fun e=>e),ej.free (Array.getElem?_eq_some_iff.1 cZ.o.1).1 cZ.o.2⟩;have X2:=aa (I6 HW ((H.o.moved eR.o.mv).moved ej) j (by have:=HM.o;omega) BD.o.1 rfl BD.o.2);clear HC HCE eR Cy cZ Xj ej;have X3:Hid (oK es j x=⟨j,S2 (fC es j).length (aY es j).length (oJ (aY es) (fun _=>false) (fC es j) V).length x,cV es j⟩):=aa (by unfold oK;rw[<- HV.o.1]);generalize (fC es j).length=n1 at *;generalize (aY es j).length=n2 at *;generalize (oJ (aY es) (fun _=>false) (fC es j) V).length=n3 at *;unfold ptrTo at *;go_wp2_with fail;refine X2.o.mono ?_;rintro e w4⟨nv,d4,o4,rfl,eG,hr4,Bw⟩;obtain⟨na,nk,rfl⟩:=az hr4;have gq:=aa (fB.o.moved eG);have V8:Hid (bF w4 w.heap.size (.slice na (cV es j).length nk) (cV es j)/\∀b,(Value.slice na (cV es j).length nk).ownBlock=some b->o4 b=none):=aa ⟨aU hr4 fB.o.mv.size,Bw⟩;have hb4:=eG.heap jF.o.1 jF.o.2 (fun e=>e);have k0:w4.cell? ⟨xb,0,none⟩=some (.int .u32 (x.r.toNat:Int)):=by rw[aq hb4];rfl
    have k1:w4.cell? ⟨xb,1,none⟩=some (.int .u32 (x.l.toNat:Int)):=by rw[aq hb4];rfl
    have k2:w4.cell? ⟨xb,2,none⟩=some (.int .u32 (x.g.toNat:Int)):=by rw[aq hb4];rfl
    have hkey:=aa (fun W=>IL (n1:Int) (n2:Int) (n3:Int) (x.r.toNat:Int) (x.l.toNat:Int) (x.g.toNat:Int) W ae (by have:=x.l.toNat_lt;omega) ae (by have:=x.g.toNat_lt;omega));rw[Wh]at hkey;clear X2 eG hr4 Bw hb4 fB BD jF;generalize S2 n1 n2 n3 x=K at *;have aqJ:Hid ((cs++[((⟨j,K,cV es j⟩:zb),(na,nk))]).map (·.1)=km es vs (j+1)):=aa (by
     rw[uR es vs HX.o,if_pos HK.o,X3.o,List.map_append,HCS.out];rfl)
    have MC:Hid (cs.length<=100000):=aa (by
     have h1:=LO es vs j;rw[<- HCS.out,List.length_map]at h1;have:=HLEN.o;omega)
    go_wp2_with fail;refine(hkey.o _).mono ?_;rintro e w5⟨rfl,oh⟩;have b9:=aa (gq.o.below oh);have OP:Hid (bF w5 w.heap.size (.slice na (cV es j).length nk) (cV es j)/\∀b,(Value.slice na (cV es j).length nk).ownBlock=some b->o4 b=none):=aa ⟨aV V8.o.1 oh,V8.o.2⟩;obtain⟨la,lk,rfl⟩:=az b9.o.row;clear oh gq V8 X3 HCS k0 k1 k2 hkey;go_wp2_with (at_builtin;go_loud (refine tk rfl _ _ rfl w.heap.size _ cs rfl b9.o.row ((⟨j,K,cV es j⟩:zb),(na,nk)) 1 (by rfl) MC.o b9.o.mv.size ?_);intro v6 w6 h6 ha;have gA:=aa (b9.o.IA h6 ha OP.o.1 OP.o.2);clear h6 ha);grind [intOf]
   ·have akx:Hid (cs.map (·.1)=km es vs (j+1)):=aa (by
     rw[uR es vs HX.o,if_neg (fun e=>hrk (by simp_all)),List.append_nil];assumption)
    clear HS HCS HX;go_wp2_with fail;go_roundw
    case rel=>exact⟨j+1,cs,o1,d1,by go_num,ae,akx,eR⟩
    case measure=>simp[intOf];omega
  ·have JF:¬(j:Int)<(M:Int):=by omega
   have HCF:Hid (cs.map (·.1)=er es vs):=aa (by grind [Hid.out,Je]);have M9:=aa (Tu (HS.out.pick HCF.o H.o.ends (by grind [Hid.out]) HLEN.o));rw[HCF.o]at M9;obtain⟨CH,hCH⟩:∃l,l=aA es vs:=⟨_,rfl⟩;rw[show kX (er es vs)=CH from hCH.symm]at M9;obtain⟨KN,JH⟩:∃k,k=CH.length:=⟨_,rfl⟩;have HKN:Hid (KN=CH.length/\KN<=24/\∀y∈CH,y<4294967296):=aa (by
    refine⟨JH,?_,fun y hy=>?_⟩
    ·grind [aA,kX,Hid.out]
    ·rw[hCH]at hy;unfold aA kX at hy;obtain⟨c,hc,rfl⟩:=List.mem_map.1 (List.mem_filter.1 hy).1;have:=(Fw _ hc).2;grind [Hid.out])
   have X4:=aa hCH;have Rh:Hid (o1 rb=none):=aa (HS.out.mv.free G8.o.lt G8.o.free);have ny:Hid (dA W1 rb pb gb gen done x4 x5 (.slice va vs.length vk)/\o1 rb=none):=aa ⟨HR.o.moved G8.o.free HS.out.mv,HS.out.mv.free G8.o.lt G8.o.free⟩;have PU:=aa HS.out.mv;obtain⟨la,lk,rfl⟩:=az HS.out.row;clear HCS HCF HS hCH;go_wp2_with fail;refine M9.o.mono ?_;rintro e w2⟨ov,rfl,hb2,hr2⟩;have Cy:=aa (ny.o.1.below hb2);have Wi:=aa (PU.o.below hb2);obtain⟨oa,ok,rfl⟩:=az hr2;rw[<- JH];have qd:Hid (bF w2 w.heap.size (.slice oa KN ok) CH/\∀b,(Value.slice oa KN ok).ownBlock=some b->o1 b=none/\b<w2.heap.size/\w.heap.size<=b):=aa (by
    rw[JH];exact⟨aU hr2 PU.o.size,fun b hb=>⟨PU.o.aX.fresh (aL hr2 b hb).2,(aL hr2 b hb).1,Nat.le_trans PU.o.size (aL hr2 b hb).2⟩⟩)
   obtain⟨c0,c1,c2,c3,c4,c5,c6,f6⟩:=Cy.o.cells;have f5:=f6 5;have f4:=f6 4;have aky:=Cy.o.lt;clear JH hb2 hr2 ny PU M9 c0 c1 c2 c3 c6 f6;have fO:o1 rb=none:=Rh.o;have Ox:Hid (dA (((w2.setCell ⟨rb,5,none⟩ (.slice oa KN ok)).setCell ⟨rb,4,none⟩ (.map (some w2.heap.size))).alloc (.map #[] 0)) rb pb gb gen done (.map (some w2.heap.size)) (.slice oa KN ok) (.slice va vs.length vk)/\au (·=rb) n pb db w o d (((w2.setCell ⟨rb,5,none⟩ (.slice oa KN ok)).setCell ⟨rb,4,none⟩ (.map (some w2.heap.size))).alloc (.map #[] 0)) o1 d1 L/\bF (((w2.setCell ⟨rb,5,none⟩ (.slice oa KN ok)).setCell ⟨rb,4,none⟩ (.map (some w2.heap.size))).alloc (.map #[] 0)) w.heap.size (.slice oa KN ok) CH/\fE (((w2.setCell ⟨rb,5,none⟩ (.slice oa KN ok)).setCell ⟨rb,4,none⟩ (.map (some w2.heap.size))).alloc (.map #[] 0)) w2.heap.size []/\rb≠w2.heap.size/\o1 w2.heap.size=none/\w.heap.size<=w2.heap.size/\∀b,(Value.slice oa KN ok).ownBlock=some b->b≠w2.heap.size/\o1 b=none):=aa (by
    have h4:=(Cy.o.akn (.slice oa KN ok)).akm (.map (some w2.heap.size));have hne:rb≠w2.heap.size:=by omega
    have PV:∀b,(Value.slice oa KN ok).ownBlock=some b->b≠rb:=fun b hb e=>by have:=(qd.o.2 b hb).2.2;omega
    have hsz:((w2.setCell ⟨rb,5,none⟩ (.slice oa KN ok)).setCell ⟨rb,4,none⟩ (.map (some w2.heap.size))).heap.size=w2.heap.size:=by simp
    have qi:=MapKept.heap_alloc ((w2.setCell ⟨rb,5,none⟩ (.slice oa KN ok)).setCell ⟨rb,4,none⟩ (.map (some w2.heap.size))) (.map #[] 0);have ee:au (·=rb) n pb db w o d (w2.setCell ⟨rb,5,none⟩ (.slice oa KN ok)) o1 d1 L:=(Wi.o.mono (fun _ _ e=>e.elim)).setCell ⟨rb,5,none⟩ (.slice oa KN ok) fO (.inl rfl);have cQ:=(ee.setCell ⟨rb,4,none⟩ (.map (some w2.heap.size)) fO (.inl rfl)).alloc (.map #[] 0);refine⟨(qi.2 rb ae).trans h4,cQ,?_,?_,hne,Wi.o.aX.fresh (Nat.le_refl _),Wi.o.size,fun b hb=>⟨by have:=(qd.o.2 b hb).2.1;omega,(qd.o.2 b hb).1⟩⟩
    ·refine bI qd.o.1 (fun b hb=>?_);rw[qi.2 b (by rw[hsz];exact(qd.o.2 b hb).2.1),Below.heap_setCell _ _ _ _ (PV b hb),Below.heap_setCell _ _ _ _ (PV b hb)]
    ·have:=bO.made ((w2.setCell ⟨rb,5,none⟩ (.slice oa KN ok)).setCell ⟨rb,4,none⟩ (.map (some w2.heap.size))) prog 26 iX (fun _:Unit=>Value.bool true);rw[hsz]at this;exact this)
   have NZ:Hid (CH.Pairwise (· < ·)):=aa (by rw[X4.o];exact gM es vs);clear Cy Wi qd Rh fO;go_wp2_with fail;generalize XZ:w2.heap.size=mb at *;generalize ((w2.setCell ⟨rb,5,none⟩ (.slice oa KN ok)).setCell ⟨rb,4,none⟩ (.map (some mb))).alloc (.map #[] 0)=W3 at *;clear XZ c4 c5 f4 f5 aky;go_loopw [84] (fun vi wr=>∃k:Nat,vi=.int .i64 (k:Int)/\k<=KN/\Hid (dA wr rb pb gb gen done (.map (some mb)) (.slice oa KN ok) (.slice va vs.length vk)/\au (·=rb) n pb db w o d wr o1 d1 L/\bF wr w.heap.size (.slice oa KN ok) CH/\fE wr mb (CH.take k).reverse)) (fun vi _=>KN-(intOf vi).toNat)
   case atStart=>exact⟨0,rfl,Nat.zero_le _,aa ⟨Ox.o.1,Ox.o.2.1,Ox.o.2.2.1,Ox.o.2.2.2.1⟩⟩
   case round=>
    obtain⟨k,rfl,hk,HST⟩:=hrel;generalize wr=W4 at *;by_cases hkt:k<KN
    ·have FV:(k:Int)<(KN:Int):=by omega
     have wk:IntKind.i64.wrap ((k:Int)+1)=((k+1:Nat):Int):=by have:=HKN.o.2.1;rw[ax]<;>omega
     obtain⟨y,hy⟩:∃y,CH[k]? = some y:=⟨_,List.getElem?_eq_getElem (by have:=HKN.o.1;omega)⟩;obtain⟨g,rfl⟩:∃g,oa=some ⟨g,0,none⟩:=by
      obtain⟨-,⟨h1,h2⟩|⟨g,_,_,h1,_⟩⟩:=HST.out.2.2.1
      ·simp_all
      simp_all
     have q0:=iy (l:=CH) (by have:=HST.out.2.2.1;rwa [HKN.o.1]at this) hy;obtain⟨-,-,-,-,c4,-⟩:=HST.out.1.cells;have HG:=aa (fQ (HKN.o.2.2 y (List.mem_of_getElem? hy)));have nz:Hid (aS ((CH.take k).reverse.map fun x=>(x,())) y ()=((CH.take (k+1)).reverse.map fun x=>(x,()))):=aa (by
      obtain⟨hl,he⟩:=List.getElem?_eq_some_iff.1 hy;have hni:y ∉ CH.take k:=fun hm=>by
       obtain⟨j,hj,hje⟩:=List.getElem_of_mem hm;rw[List.length_take]at hj;rw[List.getElem_take]at hje;have:=List.pairwise_iff_getElem.1 NZ.o j k ae hl ae;omega
      rw[Fh (by simp_all),List.take_succ_eq_append_getElem hl,he];simp)
     clear hy;go_wp2_with (at_mapUpdate;refine eO _ rfl _ _ _ _ rfl 4 ck dv Tryz.underlying131 mb _ rfl HST.out.2.2.2 y () rfl rfl HG.o ?_;intro es' clock cQ;rw[nz.o]at cQ;have eB:=aa cQ;clear cQ);have nC:Hid (dA (setBlock W4 mb (.map es' clock)) rb pb gb gen done (.map (some mb)) (.slice (some ⟨g,0,none⟩) KN ok) (.slice va vs.length vk)/\au (·=rb) n pb db w o d (setBlock W4 mb (.map es' clock)) o1 d1 L/\bF (setBlock W4 mb (.map es' clock)) w.heap.size (.slice (some ⟨g,0,none⟩) KN ok) CH/\fE (setBlock W4 mb (.map es' clock)) mb (CH.take (k+1)).reverse):=aa ⟨(bg (w:=W4) (b:=mb) (.map es' clock) Ox.o.2.2.2.2.1).trans HST.out.1,HST.out.2.1.turned Ox.o.2.2.2.2.2.1 (.inr Ox.o.2.2.2.2.2.2.1) ((aH.refl _ W4).setBlock _ _ (.inl rfl)),bI HST.out.2.2.1 (fun b hb=>bg _ (Ox.o.2.2.2.2.2.2.2 b hb).1),eB.o⟩;clear eB HST q0 c4;go_roundw
     case rel=>exact⟨k+1,by go_num,ae,nC⟩
     case measure=>simp[intOf];omega
    ·have FV:¬(k:Int)<(KN:Int):=by omega
     have HQ:Hid (R (.returned (.int .i64 0)) W4):=aa (by
      rw[Tf.o,<- X4.o];obtain⟨h1,h2,h3,h4⟩:=HST.out;rw[List.take_of_length_le (by have:=HKN.o.1;omega)]at h4;exact⟨mb,.slice oa KN ok,CH.reverse,d1,o1,rfl,h2,h1,h3,fun b hb=>(Ox.o.2.2.2.2.2.2.2 b hb).2,h4,Ox.o.2.2.2.2.2.2.1,Ox.o.2.2.2.2.2.1,fun z=>by simp⟩)
     clear HST Tf;go_wp2;exact HQ.o
end
end
section
open Go.RowKit Go.Maps
section
variable {S:Nat->Prop} {w0 w w' W W':World} {pb db n gb gen N ob ib vb rb done sb:Nat} {o o' gP:ar} {d d' gB:Dsk} {L L' xQ:aD} {es l:List aJ} {vs:List bW} {vv x4 x5 x6 v:Value} {name:Name} {fl:Bool}
theorem au.self(h:au S n pb db w o d w' o' d' L){f:gT}(hL:aB L name=some f):au S n pb db w o d w' o' d' (aS L name f):=
 h.congr (cF h.aX.keys) (fun x=>by
  rw[ay];by_cases e:x=name
  ·rw[if_pos e,e,hL]
  ·rw[if_neg e])
def kH(n pb db:Nat)(w:World)(o:ar)(d:Dsk)(L:aD)(name:Name)(e:Ending)(w':World):Prop:=
 ∃sb d' o',e=.returned (.tuple #[ptrTo sb,.int .i64 0])/\au (fun _=>False) n pb db w o d w' o' d' (aS L name (aw [] true))/\aC w' sb pb name 20/\w.heap.size<=sb/\o' sb=none
theorem kT(h:Held w0 w pb db n o d L)(hr:dA w rb pb gb gen done x4 x5 x6)(hro:o rb=none)(eD:bM name=true)(hno:aB L name=none) :
 Calls prog 101 #[ptrTo rb,.string name] w (kH n pb db w o d L name):=by
 have hc0:dh d L name=0:=by
  unfold dh;rw[h.tick,eD,hno];rfl
 have nH:=aa (kD h.aX name (b6 eD));unfold fK at nH;rw[hc0]at nH;simp only[if_true]at nH;have HOP:Hid (∀W o' d',aQ W pb db n o' d' (aS L name (aw [] true))->d'.dead=false->Calls prog 67 #[ptrTo pb,.string name,.int .i64 20] W (dF W pb name 20 0)):=aa (fun W o' d' hp hd=>by
  have h3:=dG (sz:=20) hp name (b6 eD) af af;rw[gS hp (by rw[ay,if_pos rfl];rfl),hd]at h3;exact h3)
 obtain⟨c0,-⟩:=hr.cells;have HR:=aa hr;have G8:=aa hro;have H:=aa h;clear h hr hro eD hno hc0;unfold ptrTo at *;go_enter func101,ntmps101;go_wp2_with fail;refine nH.o.mono ?_;rintro e w1⟨d1,o1,rfl,ee,hx1,-⟩;have hop:=aa (HOP.o w1 o1 d1 ee.aX (hx1 trivial));have eu:=aa ee;have c1:=(HR.o.moved G8.o ee).cells.1;clear ee hx1 nH c0 HOP;unfold ptrTo at *;go_wp2_with fail;refine hop.o.mono ?_;rintro e w2⟨v2,rfl,hb2,hs2,-⟩;obtain⟨sb,rfl,hst,vr⟩:=hs2 rfl;have HQ:Hid (kH n pb db w o d L name (.returned (.tuple #[ptrTo sb,.int .i64 0])) w2):=aa ⟨sb,d1,o1,rfl,eu.o.below hb2,hst,Nat.le_trans eu.o.size vr,eu.o.aX.fresh vr⟩;clear hb2 hs2 hst vr hop c1;unfold ptrTo at *;go_wp2;go_returns;exact HQ.o
def jE(S:Nat->Prop)(n pb db:Nat)(w:World)(o:ar)(d:Dsk)(L:aD)(name:Name)(es:List aJ)(e:Ending)(w':World):Prop:=
 ∃fl d' o',e=.returned (.int .i64 0)/\au S n pb db w o d w' o' d' (aS L name (aw es fl))
theorem Jk(HW:aP)(h:Held w0 w pb db n o d L)(hst:aC w sb pb name 20)(ho:o sb=none)(hL:aB L name=some (aw es fl))(hv:kL w v l)(my:∀b,v.ownBlock=some b->o b=none)(MQ:need L+4*(es.length+l.length)<=131072)(hlen:es.length+l.length<65535) :
 Calls prog 151 #[ptrTo sb,v] w (jE (fun _=>False) n pb db w o d L name (es++l)):=by
 have Kp:Hid (∀W o' d' kO rv(x:aJ)(k:Nat),au (fun _=>False) n pb db w o d W o' d' (aS L name (aw (es++l.take k) kO))->l[k]? = some x->Rd W rv x.bytes->(∀y,rv.ownBlock=some y->o' y=none) ->
  Calls prog 72 #[ptrTo sb,rv] W fun e w'=>∃gB gP,e=.returned (.int .i64 0)/\au (fun _=>False) n pb db w o d w' gP gB (aS L name (aw (es++l.take (k+1)) false))):=aa (fun W o' d' kO rv x k hm hx Bx hro=>by
  obtain⟨hk,N3⟩:=List.getElem?_eq_some_iff.1 hx;refine(j8 HW hm.aX (hst.moved hm ho (fun e=>e)) (hm.free hst.lt ho) af af (by rw[ay,if_pos rfl];rfl) (dY _) (by rw[List.length_map,List.length_append,List.length_take];omega) Bx x.eF hro).mono ?_;rintro e w'⟨c,gB,gP,rfl,cQ,pV⟩;have he:(es++l.take k).map aJ.bytes++[x.bytes]=(es++l.take (k+1)).map aJ.bytes:=by rw[List.take_succ_eq_append_getElem hk,N3];simp
  have hh:=h.moved hm (fun _ e=>e.elim);have h0:c=0:=hh.oH cQ pV (by
   have h1:=cO L name (aw (es++l.take k) kO);have h2:=cH (es++l.take k) kO;rw[List.length_append,List.length_take]at h2;omega)
  subst h0;rw[if_pos rfl,iQ,he]at cQ;exact⟨gB,gP,rfl,hm.trans cQ (fun _ _ e=>e)⟩)
 have HV:Hid (∀W o' d' L',au (fun _=>False) n pb db w o d W o' d' L'->kL W v l):=aa (fun W o' d' L' hm=>hv.moved hm my);have Wk:Hid (au (fun _=>False) n pb db w o d w o d (aS L name (aw (es++l.take 0) fl))):=aa (by
  rw[List.take_zero,List.append_nil];exact(au.refl _ h.aX).self hL)
 obtain⟨a,cap,rfl,-⟩:=hv;obtain⟨M,hM⟩:∃M,M=l.length:=⟨_,rfl⟩;have HM:Hid (M=l.length/\M<65535):=aa ⟨hM,ae⟩;obtain⟨R,hR⟩:∃R,R=jE (fun _=>False) n pb db w o d L name (es++l):=⟨_,rfl⟩;have Tf:=aa hR;rw[<- hR];rw[<- hM]at HV ⊢;clear h hst ho hL my MQ hlen hM hR;unfold ptrTo at *;go_enter func151,ntmps151;go_wp2_with fail;go_loopw [10] (fun vi wr=>∃(k:Nat)(kO:Bool)(o':ar)(d':Dsk),vi=.int .i64 (k:Int)/\k<=M/\Hid (au (fun _=>False) n pb db w o d wr o' d' (aS L name (aw (es++l.take k) kO)))) (fun vi _=>M-(intOf vi).toNat)
 case atStart=>exact⟨0,fl,o,d,rfl,Nat.zero_le _,Wk⟩
 case round=>
  obtain⟨k,kO,o1,d1,rfl,hk,eu⟩:=hrel;clear Wk;generalize wr=W1 at *;by_cases hlt:k<M
  ·have FV:(k:Int)<(M:Int):=by omega
   have wk:IntKind.i64.wrap ((k:Int)+1)=((k+1:Nat):Int):=by have:=HM.o;rw[ax]<;>omega
   obtain⟨x,hx⟩:∃x,l[k]? = some x:=⟨_,List.getElem?_eq_getElem (by have:=HM.o;omega)⟩;have HX:=aa hx;obtain⟨a',cap',Co,hce⟩:=HV.o _ _ _ _ eu.out;obtain⟨rfl,-,rfl⟩:a=a'/\M=l.length/\cap=cap':=by simpa using Co
   obtain⟨b,off,rfl,P0⟩:=hce.resolve_left (by have:=HM.o;omega);obtain⟨q0,q1,q2,q3⟩:=P0 k _ hx;clear hce P0 Co hx;have eB:=aa (eu.out.alloc (.cells #[.int .u32 (x.t.toNat:Int),.int .u32 (x.h.toNat:Int),.int .u64 (x.x.toNat:Int),.int .u32 (x.m.toNat:Int)] 64));have PS:=aa (fun W=>uu x W);go_wp2_with fail;refine(PS.o _).mono ?_;rintro e w3⟨v3,rfl,iN,hb3⟩;have lf:=aa (Kp.o w3 o1 d1 kO v3 x k (eB.o.below hb3) HX.o (fw iN) (fun y hy=>eB.o.aX.fresh (aF iN y hy)));clear iN hb3 PS q0 q1 q2 q3;go_wp2_with fail;refine lf.o.mono ?_;rintro e w4⟨d4,o4,rfl,eG⟩;have gp:=aa eG;clear eG lf eu eB;go_wp2;go_roundw
   case rel=>exact⟨k+1,false,o4,d4,by go_num,ae,gp⟩
   case measure=>simp[intOf];omega
  ·have FV:¬(k:Int)<(M:Int):=by omega
   have HQ:Hid (R (.returned (.int .i64 0)) W1):=aa (by
    have:=eu.out;rw[List.take_of_length_le (by have:=HM.o;omega)]at this;rw[Tf.o];exact⟨kO,d1,o1,rfl,this⟩)
   clear eu Tf;go_wp2;exact HQ.o
end
end
end Go.Proofs.YthkkgdpomhhjjaaGreatDoor
