/-
  Joined.
-/
import Derived.Test.YthkkgdpomhhjjaaGreatDoorC13
set_option maxRecDepth 100000
set_option maxHeartbeats 16000000
namespace Go.Proofs.YthkkgdpomhhjjaaGreatDoor
open Go.Proofs.Tryz
section
open Go.RowKit Go.Maps Go.Sort
theorem Tc{h:Hint}(e:mK h=2):h=.decreasing:=by cases h<;>simp[mK]at e ⊢
def V2(m:Nat):Prop:=∀{w0 W:World}{base g cap:Nat}{d:Array Nat},bw w0 base g cap d W->∀a b limit:Nat,a<=b->b<=d.size->d.size<=1000000->b-a<=m->limit<=64->Sort.Below aZ a b d ->
 Calls prog 207 #[.slice (some ⟨g,0,none⟩) d.size cap,.int .i64 (a:Int),.int .i64 (b:Int),.int .i64 (limit:Int)] W (pJ w0 base g cap (pdq aZ d a b limit true true))
theorem Ls(m:Nat)(ajU:m<50):V2 m:=by
 induction m using Nat.strongRecOn with
 |ind m ih=>
   intro w0 W base g cap d h a b limit hab hb hsz hm hl Ru;have H:=aa h;have jQ:=aa Ru;have IH:Hid (∀{W:World}{d:Array Nat},bw w0 base g cap d W->12<m->∀a b limit:Nat,a<=b->b<=d.size->d.size<=1000000->b-a+1<=m->limit<=64->Sort.Below aZ a b d ->
    Calls prog 207 #[.slice (some ⟨g,0,none⟩) d.size cap,.int .i64 (a:Int),.int .i64 (b:Int),.int .i64 (limit:Int)] W (pJ w0 base g cap (pdq aZ d a b limit true true))):=aa fun h Eo a b l q1 q2 q3 q4 q5 q6=>ih (m-1) ae ae h a b l q1 q2 q3 ae q5 q6
   obtain⟨N,hN⟩:∃N,N=d.size:=⟨_,rfl⟩;rw[<- hN]at hb hsz ⊢;obtain⟨r,hr⟩:∃r,r=pdq aZ d a b limit true true:=⟨_,rfl⟩;rw[<- hr];have HR0:Hid (pdq aZ d a b limit true true=r):=aa hr.symm;have HX:Hid (a<=b/\b<=N/\N<=1000000/\b-a<=m/\limit<=64/\d.size=N/\m<50):=aa ae;clear h hN Ru hr hab hb hsz hm hl ih ajU;go_enter func207,ntmps207;go_wp2_with fail;go_loopw [1,2,3,8,9] (fun s1 s2 s3 s10 s11 wr=>∃(a1 b1 lim:Nat)(wb wp:Bool)(dk:Array Nat),s1=.int .i64 (a1:Int)/\s2=.int .i64 (b1:Int)/\s3=.int .i64 (lim:Int)/\s10=.bool wb/\s11=.bool wp/\a1<=b1/\b1<=N/\b1-a1<=m/\lim<=64/\dk.size=N/\Hid (Sort.Below aZ a1 b1 dk)/\bw w0 base g cap dk wr/\Hid (pdq aZ dk a1 b1 lim wb wp=r)) (fun s1 s2 _ _ _ _=>(intOf s2-intOf s1).toNat)
   case atStart=>exact⟨a,b,limit,true,true,d,rfl,rfl,rfl,rfl,rfl,HX.o.1,HX.o.2.1,HX.o.2.2.2.1,HX.o.2.2.2.2.1,HX.o.2.2.2.2.2.1,jQ,H.o,HR0⟩
   case round=>
    obtain⟨a1,b1,lim,wb,wp,dk,rfl,rfl,rfl,rfl,rfl,Y8,hb1,Pr,Mg,hsk,HBk,hs,HO⟩:=hrel;generalize wr=Wr at *;have HS:=aa hs;obtain⟨L,hL⟩:∃L,L=b1-a1:=⟨_,rfl⟩;have wL:IntKind.i64.wrap ((b1:Int)-(a1:Int))=(L:Int):=by have:=HX.o;rw[ax]<;>omega
    have HK:Hid (a1<=b1/\b1<=N/\L=b1-a1/\L<=m/\lim<=64/\N<=1000000/\dk.size=N/\m<50):=aa (by have:=HX.o;omega);clear hs hsk hL Y8 hb1 Pr Mg;by_cases Eo:L<=12
    ·have Y9:(L:Int)<=12:=by omega
     have hk:=HK.o;have hc:=OY HS.o a1 b1 hk.1 ae ae;rw[hk.2.2.2.2.2.2.1,show insertionSort aZ dk a1 b1=r by rw[<- HO.out];exact(pdq_small ae).symm]at hc;have HC:=aa hc;clear hc hk;go_wp2_with fail;refine HC.o.mono ?_;rintro e w1⟨rfl,hs1⟩;have iU:=aa hs1;clear hs1;go_wp2;go_returns;exact⟨rfl,iU.o⟩
    ·have Y9:¬((L:Int)<=12):=by omega
     by_cases hl0:lim=0
     ·subst hl0;have hk:=HK.o;have hc:=Lm HS.o a1 b1 ae ae ae;rw[hk.2.2.2.2.2.2.1,show heapSort aZ dk a1 b1=r by rw[<- HO.out];exact(pdq_heap ae rfl).symm]at hc;have HC:=aa hc;clear hc hk;go_wp2_with fail;refine HC.o.mono ?_;rintro e w1⟨rfl,hs1⟩;have iU:=aa hs1;clear hs1;go_wp2;go_returns;exact⟨rfl,iU.o⟩
     ·have ah8:((lim:Int) == 0)=false:=by simp;omega
      obtain⟨R,HR⟩:∃R,Hid (Tb aZ a1 b1 lim wb wp dk R):=⟨_,aa (OX DF wb wp (by have:=HK.o;omega) hl0 (by have:=HK.o;omega) HBk.out)⟩;have Js:Hid (1<=lim/\12<L/\R.d1.size=N/\R.d2.size=N/\R.pi.1.size=N):=aa ⟨ae,ae,HR.out.s1.trans HK.o.2.2.2.2.2.2.1,HR.out.s2.trans HK.o.2.2.2.2.2.2.1,HR.out.s3.trans HK.o.2.2.2.2.2.2.1⟩;clear hl0 Eo;go_upto_if 35 with fail
      go_cut [3] from 19 to 133 (fun s3 wc=>s3=.int .i64 (R.lim:Int)/\bw w0 base g cap R.d1 wc)
      case first=>
       cases wb with
       |false=>
         obtain⟨e1,e2⟩:=HR.out.brk rfl;have hk:=HK.o;have hp:=Js.o;have hc:=IY HS.o a1 b1 ae ae ae;rw[hk.2.2.2.2.2.2.1,<- e1]at hc;have HC:=aa hc;have wl1:IntKind.i64.wrap ((lim:Int)-1)=(R.lim:Int):=by rw[ax]<;>omega
         clear hc e1 e2 hk hp;go_wp2_with fail;refine HC.o.mono ?_;rintro e w1⟨rfl,hs1⟩;have iU:=aa hs1;clear hs1;go_wp2;go_meet
         exact⟨rfl,iU.o⟩
       |true=>
         obtain⟨e1,e2⟩:=HR.out.nob rfl;go_wp2;go_meet
         exact⟨by rw[e2],by rw[e1];exact HS.o⟩
      case rest=>
       obtain⟨rfl,hs1⟩:=hcut;have iU:=aa hs1;have hk:=HK.o;have hp:=Js.o;have hc:=IX iU.o a1 b1 ae ae ae ae;rw[hp.2.2.1,<- HR.out.c]at hc;have HC:=aa hc;clear hc hs1 hk hp;go_upto_if 50 with fail
       refine HC.o.mono ?_;rintro e w2⟨rfl,hs2⟩;have eM:=aa hs2;clear hs2 HC;go_upto_if 50 with fail
       go_cut [11,12] from 19 to 133 (fun s13 s14 wc=>s13=.int .i64 (R.pivot:Int)/\s14=.int .i64 (mK R.hint:Int)/\bw w0 base g cap R.d2 wc)
       case first=>
        by_cases hh:R.c.2=.decreasing
        ·obtain⟨e2,Za,Va⟩:=HR.out.dec hh;have hz:(mK R.c.2:Int)=2:=by rw[hh];rfl
         have hk:=HK.o;have hp:=Js.o;have hc:=CD eM.o a1 b1 ae ae ae;rw[hp.2.2.1,<- e2]at hc;have HC:=aa hc;obtain⟨P,hP⟩:∃P,P=R.c.1-a1:=⟨_,rfl⟩;have h1:=HR.out.c1;have h2:=HR.out.c2;have wb1:IntKind.i64.wrap ((b1:Int)-1)=(b1:Int)-1:=by rw[ax]<;>omega
         have wP:IntKind.i64.wrap ((R.c.1:Int)-(a1:Int))=(P:Int):=by rw[ax]<;>omega
         have wV:IntKind.i64.wrap ((b1:Int)-1-(P:Int))=(R.pivot:Int):=by rw[ax]<;>omega
         have HE:Hid (R.hint=.increasing):=aa Va;clear hc e2 Za Va hP hh h1 h2 hk hp;go_wp2_with fail;refine HC.o.mono ?_;rintro e w3⟨rfl,hs3⟩;have fy:=aa hs3;clear hs3;go_wp2;go_meet
         exact⟨rfl,by rw[HE.o];rfl,fy.o⟩
        ·obtain⟨e2,Za,Va⟩:=HR.out.Rs hh;have hz:((mK R.c.2:Int) == 2)=false:=by
          simp only[beq_eq_false_iff_ne,ne_eq];exact fun h=>hh (Tc ae)
         go_wp2;go_meet
         exact⟨by rw[Za],by rw[Va],by rw[e2];exact eM.o⟩
       case rest=>
        obtain⟨rfl,rfl,hs3⟩:=hcut;have fy:=aa hs3;clear hs3;obtain⟨z,hz⟩:∃z:Int,z=(mK R.hint:Int):=⟨_,rfl⟩;rw[<- hz];have HV:Hid (decide (R.hint=.increasing)=(z == 1)):=aa (by rw[hz];cases R.hint<;>rfl);clear hz;go_upto_region 15 with fail
        go_cut [68] from 19 to 133 (fun s68 wx=>s68=.bool (wb && wp && decide (R.hint=.increasing))/\bw w0 base g cap R.d2 wx)
        case first=>
         cases wb<;>cases wp<;>(
          go_wp2_with fail;go_meet
          exact⟨by rw[HV.o];simp,fy.o⟩)
        case rest=>
         obtain⟨rfl,oP⟩:=hcut;have gj:=aa oP;clear oP;go_upto_if 68 with fail
         go_cut [] from 19 to 133 (fun wx=>R.pi.2=false/\bw w0 base g cap R.pi.1 wx)
         case first=>
          cases h68:(wb && wp && decide (R.hint=.increasing))
          ·have Vb:=aa (HR.out.no h68);go_wp2;go_meet
           exact⟨by rw[Vb.o],by rw[Vb.o];exact gj.o⟩
          ·have Vb:=aa (HR.out.yes h68);have hk:=HK.o;have hp:=Js.o;have hc:=CE gj.o a1 b1 ae ae ae ae;rw[hp.2.2.2.1,<- Vb.o]at hc;have HC:=aa hc;clear hc hk hp;cases j5:R.pi.2
           ·go_wp2_with fail;refine HC.o.mono ?_;rintro e w4⟨rfl,e1,oP⟩;rw[j5];rw[<- e1]at oP;have b8:=aa (show _/\_ from⟨j5,oP⟩);clear oP j5 e1;go_wp2;go_meet
            exact b8.o
           ·have HF:Hid (R.pi.1=r):=aa (by rw[<- HO.out];exact(HR.out.done j5).symm);go_wp2_with fail;refine HC.o.mono ?_;rintro e w4⟨rfl,e1,oP⟩;rw[j5];rw[<- e1,HF.o]at oP;have b8:=aa oP;clear oP j5 e1;go_wp2;go_returns;exact⟨rfl,b8.o⟩
         case rest=>
          obtain⟨j5,hs5⟩:=hcut;have b8:=aa hs5;have pP:=aa j5;clear hs5 j5;generalize wc=W5 at *;have bV:(R.pivot:Int)<(N:Int):=by have:=HR.out.p2;have:=HK.o;omega
          go_upto_region 17 with fail
          go_cut [87] from 19 to 133 (fun v wx=>v=.bool (decide (a1>0) && !aZ R.pi.1[a1-1]! R.pi.1[R.pivot]!)/\bw w0 base g cap R.pi.1 wx)
          case first=>
           rcases Nat.eq_zero_or_pos a1 with ha0 | ha0
           ·have aib:decide (0<a1)=false:=decide_eq_false ae;have HA0:=aa ha0;clear ha0;go_wp2_with fail;go_quiet (fail)
            have gu:=aa (b8.o.drawn nq);go_wp2;go_meet
            exact⟨by simp[HA0.o],gu.o⟩
           ·have acT:(a1:Int)>0:=by omega
            obtain⟨A,hA⟩:∃A,A=a1-1:=⟨_,rfl⟩;have hk:=HK.o;have hp:=Js.o;have hv:=HR.out.p2;have bA:(A:Int)<(N:Int):=by omega
            have wA:IntKind.i64.wrap ((a1:Int)-1)=(A:Int):=by rw[ax]<;>omega
            obtain⟨x,y,c,x0,y0,hl,hc⟩:=b8.o.two A R.pivot ae ae;have HW:Hid ((decide (a1>0) && !aZ R.pi.1[a1-1]! R.pi.1[R.pivot]!)=!c):=aa (by rw[<- hA,<- hc.out,decide_eq_true ha0];rfl);clear hA hk hp hv hc;go_wp2_with fail;go_quiet ((go_at_call 253;exact Calls.quiet_of_same (hl.out _)))
            have gu:=aa (b8.o.drawn nq);go_wp2;go_meet
            exact⟨by rw[HW.o],gu.o⟩
          case rest=>
           obtain⟨rfl,T5⟩:=hcut;have gu:=aa T5;clear T5;have hk:=HK.o;have hp:=Js.o;cases NU:(decide (a1>0) && !aZ R.pi.1[a1-1]! R.pi.1[R.pivot]!)
           ·obtain⟨mid,ap,d4,hx⟩:∃mid ap d4,partition aZ R.pi.1 a1 b1 R.pivot=(mid,ap,d4):=⟨_,_,_,rfl⟩;obtain⟨hr1,hr2,hr3,hr4,KO,AP,SK⟩:=round_part DF (partition_holds aZ) HR.out.p1 HR.out.p2 (show b1<=R.pi.1.size by omega) HR.out.B3 hx;have hc:=Lr gu.o a1 b1 R.pivot HR.out.p1 HR.out.p2 ae ae;rw[hp.2.2.2.2,hx]at hc;have HC:=aa hc;have Xg:=aa (HR.out.left pP.o NU mid ap d4 hx hr1 hr2);have HRT:=aa (HR.out.right pP.o NU mid ap d4 hx hr1 hr2);obtain⟨A,hA⟩:∃A,A=mid-a1:=⟨_,rfl⟩;obtain⟨B,hB⟩:∃B,B=b1-mid:=⟨_,rfl⟩;obtain⟨E,hE⟩:∃E,E=L/8:=⟨_,rfl⟩;have wA:IntKind.i64.wrap ((mid:Int)-(a1:Int))=(A:Int):=by rw[ax]<;>omega
            have wB:IntKind.i64.wrap ((b1:Int)-(mid:Int))=(B:Int):=by rw[ax]<;>omega
            have wE:IntKind.i64.wrap ((L:Int)/8)=(E:Int):=by rw[ax]<;>omega
            have wM:IntKind.i64.wrap ((mid:Int)+1)=((mid+1:Nat):Int):=by rw[ax]<;>omega
            have HM:Hid (A=mid-a1/\B=b1-mid/\E=L/8/\a1<=mid/\mid<b1/\d4.size=N):=aa ⟨hA,hB,hE,hr1,hr2,hr3.trans hp.2.2.2.2⟩;have FH:=aa (show _/\_/\_/\_ from⟨hr4,KO,AP,SK⟩);clear hc hx hA hB hE hr1 hr2 hr3 hr4 KO AP SK NU hk hp;go_wp2_with fail;refine HC.o.mono ?_;rintro e w7⟨rfl,Ko⟩;dsimp only at Ko;have jR:=aa Ko;clear Ko HC;have hk:=HK.o;have hp:=Js.o;have hq:=HM.o;by_cases h4:A<B
            ·have h4z:(A:Int)<(B:Int):=by omega
             have G6:=IH.o jR.o ae a1 mid R.lim hq.2.2.2.1 ae ae ae (Nat.le_trans HR.out.jP hk.2.2.2.2.1) FH.o.1;obtain⟨pL,sL⟩:=pdq_sorts aZ DF d4 a1 mid R.lim true true hq.2.2.2.1 ae FH.o.1;have Ck:=aa (FH.o.2.2.1 _ pL sL).1;have HF:Hid (pdq aZ (pdq aZ d4 a1 mid R.lim true true) (mid+1) b1 R.lim (decide (A >= E)) ap=r/\(pdq aZ d4 a1 mid R.lim true true).size=N):=aa ⟨by
              rw[<- HO.out,Xg.o ae,hq.1,hq.2.2.1,hk.2.2.1],pL.1.trans hq.2.2.2.2.2⟩
             rw[hq.2.2.2.2.2]at G6;have Rv:=aa G6;clear G6 pL sL h4 hk hp hq;go_wp2_with fail;refine Rv.o.mono ?_;rintro e w8⟨rfl,Kp⟩;have jD:=aa Kp;clear Kp Rv;go_wp2;have q:=HM.o;have q2:=HK.o;exact⟨⟨mid+1,b1,R.lim,decide (A >= E),ap,_,rfl,rfl,rfl,congrArg Value.bool ah,rfl,ae,ae,ae,Nat.le_trans HR.out.jP q2.2.2.2.2.1,HF.o.2,Ck,jD.o,aa HF.o.1⟩,by simp[intOf];omega⟩
            ·have h4z:¬(A:Int)<(B:Int):=by omega
             have G6:=IH.o jR.o ae (mid+1) b1 R.lim ae ae ae ae (Nat.le_trans HR.out.jP hk.2.2.2.2.1) FH.o.2.1;obtain⟨pL,sL⟩:=pdq_sorts aZ DF d4 (mid+1) b1 R.lim true true ae ae FH.o.2.1;have Ck:=aa (FH.o.2.2.2 _ pL sL).1;have HF:Hid (pdq aZ (pdq aZ d4 (mid+1) b1 R.lim true true) a1 mid R.lim (decide (B >= E)) ap=r/\(pdq aZ d4 (mid+1) b1 R.lim true true).size=N):=aa ⟨by
              rw[<- HO.out,HRT.o ae,hq.2.1,hq.2.2.1,hk.2.2.1],pL.1.trans hq.2.2.2.2.2⟩
             rw[hq.2.2.2.2.2]at G6;have Rv:=aa G6;clear G6 pL sL h4 hk hp hq;go_wp2_with fail;refine Rv.o.mono ?_;rintro e w8⟨rfl,Kp⟩;have jD:=aa Kp;clear Kp Rv;go_wp2;have q:=HM.o;have q2:=HK.o;exact⟨⟨a1,mid,R.lim,decide (B >= E),ap,_,rfl,rfl,rfl,congrArg Value.bool ah,rfl,ae,ae,ae,Nat.le_trans HR.out.jP q2.2.2.2.2.1,HF.o.2,Ck,jD.o,aa HF.o.1⟩,by simp[intOf];omega⟩
           ·have Ez:=NU;simp only[Bool.and_eq_true,decide_eq_true_eq,Bool.not_eq_true']at Ez;obtain⟨mid,d4,hx⟩:∃mid d4,partitionEqual aZ R.pi.1 a1 b1 R.pivot=(mid,d4):=⟨_,_,rfl⟩;obtain⟨e1,e2,e3,e4⟩:=round_eq DF (partitionEqual_holds aZ) Ez.1 HR.out.p1 HR.out.p2 (show b1<=R.pi.1.size by omega) HR.out.B3 Ez.2 hx;have hc:=Fj gu.o a1 b1 R.pivot HR.out.p1 HR.out.p2 ae ae;rw[hp.2.2.2.2,hx]at hc;have HC:=aa hc;have HF:Hid (pdq aZ d4 mid b1 R.lim wb wp=r/\a1<mid/\mid<=b1/\d4.size=N):=aa ⟨by rw[<- HO.out,HR.out.eq pP.o NU mid d4 hx e1 e2],e1,e2,e3.trans hp.2.2.2.2⟩;have Ck:=aa e4.1;clear hc hx NU Ez e1 e2 e3 e4 hk hp;go_wp2_with fail;refine HC.o.mono ?_;rintro e w7⟨rfl,Ko⟩;dsimp only at Ko;have jR:=aa Ko;clear Ko HC;go_wp2;have q:=HF.o;have q2:=HK.o;exact⟨⟨mid,b1,R.lim,wb,wp,d4,rfl,rfl,rfl,rfl,rfl,q.2.2.1,q2.2.1,ae,Nat.le_trans HR.out.jP q2.2.2.2.2.1,q.2.2.2,Ck,jR.o,aa q.1⟩,by simp[intOf];omega⟩
section
variable {base:Nat}
theorem wX(v:Value)(w:World):Calls prog 247 #[v,.int .i64 0,.int .i64 0] w fun e w'=>e=.returned (.tuple #[])/\w=w':=by
 go_enter func247,ntmps247;go_wp2;refine wp_loop_rounds 1 ?_;iterate 1 (rw[rounds_succ];go_wp2)
 go_returns;exact⟨rfl,rfl⟩
theorem CF(v:Value)(lim:Int)(w:World):Calls prog 207 #[v,.int .i64 0,.int .i64 0,.int .i64 lim] w fun e w'=>e=.returned (.tuple #[])/\w=w':=by
 have HI:=aa (wX v w);go_enter func207,ntmps207;go_wp2;refine wp_loop_rounds 1 ?_;rw[rounds_succ];go_wp2_with fail;refine HI.o.mono ?_;rintro e w'⟨rfl,rfl⟩;go_wp2;go_returns;exact⟨rfl,rfl⟩
theorem Lt{w:World}{v:Value}{l:List Nat}(h:bF w base v l)(hl:l.length<50):Calls prog 150 #[v] w (A4 w base v l):=by
 have HL:Hid (Calls prog 87 #[.int .u64 (l.length:Int)] w fun e w'=>e=.returned (.int .i64 (Lib.bitLen l.length:Nat))/\w'=w):=
  aa (Any.bits_Len (SlLaysF0.n15.bits (P:=prog) (ρ:=Tryz.eG) { Tryz.jO with }) l.length w ae ae)
 have hc:IntKind.u64.wrap (l.length:Int)=(l.length:Int):=gM _ ae ae;have HP:Hid (Calls prog 207 #[v,.int .i64 0,.int .i64 (l.length:Int),.int .i64 ((Lib.bitLen l.length:Nat):Int)] w (A4 w base v l)):=aa (by
  obtain⟨-,⟨rfl,h0⟩|⟨g,cap,_,rfl,_⟩⟩:=id h
  ·obtain rfl:=List.eq_nil_of_length_eq_zero h0;refine(CF _ _ w).mono ?_;rintro e w'⟨rfl,rfl⟩;exact⟨[],rfl,h,List.Perm.refl _,List.Pairwise.nil,aH.refl _ _⟩
  ·have hn:bw w base g cap l.toArray w:=⟨by simpa using h,aH.refl _ _⟩;have hp:=Ls 49 ae hn 0 l.length (Lib.bitLen l.length) (Nat.zero_le _) ah (by simp;omega) ae (Nat.le_trans (Lib.bitLen_le _ 62 ae ae) af) (.inl rfl);rw[List.size_toArray]at hp;refine hp.mono ?_;rintro e w'⟨rfl,h1⟩;obtain⟨⟨hsz,-,G5⟩,xS⟩:=pdq_sorts aZ DF l.toArray 0 l.length (Lib.bitLen l.length) true true (Nat.zero_le _) ah (.inl rfl);generalize pdq aZ l.toArray 0 l.length (Lib.bitLen l.length) true true=D at *;have hsz:D.size=l.length:=by simpa using hsz
   refine⟨D.toList,rfl,?_,?_,?_,h1.turn.mono (fun b _ e=>by rw[e];rfl)⟩
   ·have:=h1.row;rw[hsz]at this;unfold bF at this ⊢;simpa[hsz]using this
   ·rw[show D.extract 0 l.length=D by rw[<- hsz];simp]at G5;simpa using G5
   ·rw[List.pairwise_iff_getElem];intro i j hi hj e9;have h2:=xS i j (Nat.zero_le _) e9 (by simpa[hsz]using hj);rw[getElem!_pos D i (by simpa using hi),getElem!_pos D j (by simpa using hj)]at h2;have:=of_decide_eq_false h2;simp only[Array.getElem_toList];omega)
 obtain⟨a,k,rfl⟩:=az h;clear h hl;generalize l.length=n at *;generalize Lib.bitLen n=bl at *;obtain⟨PST,mh⟩:∃P,P=A4 w base (.slice a n k) l:=⟨_,rfl⟩;rw[<- mh]at HP ⊢;have HQ:Hid (∀e w',PST e w'->e=.returned (.tuple #[])):=aa (by rw[mh];rintro e w'⟨l',h,-⟩;exact h);clear mh;go_enter func150,ntmps150;go_wp2_with fail;refine HL.o.mono ?_;rintro e w'⟨rfl,rfl⟩;go_wp2_with fail;refine HP.o.mono ?_;intro e w2 hq;obtain rfl:=HQ.o _ _ hq;have HQ2:=aa hq;clear hq HP HL HQ;go_wp2;go_returns;exact HQ2.o
end
end
section
open Go.RowKit Go.Maps
open Go.ChangeMaps (setBlock)
abbrev kF:=yX×(Option Addr×Nat)
abbrev A6(p:kF):Value:=.slice p.2.1 p.1.n.length p.2.2
abbrev sG(p:kF):Value:=.agg #[.int .u32 (p.1.v:Int),.int .u64 (p.1.k:Int),.slice p.2.1 p.1.n.length p.2.2]
def iC:List kF->List Value
 | []=>[]
 |p::l=>[.int .u32 (p.1.v:Int),.int .u64 (p.1.k:Int),A6 p]++iC l
theorem A7(a b:List kF):iC (a++b)=iC a++iC b:=by
 induction a with
 |nil=>rfl
 |cons e a ih=>rw[List.cons_append,iC,iC,ih,List.append_assoc]
theorem IZ{l:List kF}{i:Nat}{p:kF}(h:l[i]? = some p):(iC l)[i*3]? = some (.int .u32 (p.1.v:Int))/\(iC l)[i*3+1]? = some (.int .u64 (p.1.k:Int))/\(iC l)[i*3+2]? = some (A6 p):=by
 induction l generalizing i with
 |nil=>cases h
 |cons q l ih=>
   cases i with
   |zero=>cases h;exact⟨rfl,rfl,rfl⟩
   |succ i=>
     have:=ih (i:=i) (by simpa using h);rw[show(i+1)*3=i*3+3 by omega];exact this
abbrev jW(w:World)(base:Nat)(v:Value)(l:List kF):Prop:=w.ownsRow base 181 3 v l.length (iC l)
theorem I0{w:World}{base g cap:Nat}{l:List kF}(h:jW w base (.slice (some ⟨g,0,none⟩) l.length cap) l){i:Nat}{p:kF}(hi:l[i]? = some p) :
 w.cell? ⟨g,i*3,none⟩=some (.int .u32 (p.1.v:Int))/\w.cell? ⟨g,i*3+1,none⟩=some (.int .u64 (p.1.k:Int))/\w.cell? ⟨g,i*3+2,none⟩=some (A6 p):=by
 have hc:∀(j:Nat)(u:Value),(iC l)[j]? = some u->w.cell? ⟨g,j,none⟩=some u:=fun j u hj=>by
  have:=World.ownsRow.cells h (g:=g) rfl j u hj;rwa [bG,Nat.zero_add]at this
 obtain⟨h1,h2,h3⟩:=IZ hi;exact⟨hc _ _ h1,hc _ _ h2,hc _ _ h3⟩
abbrev Lu(w:World)(b:Nat)(m:List (Nat×kF)):Prop:=bO prog 26 iT sG w b m
structure pK(w:World)(base:Nat)(lv:Value)(cs:List kF):Prop where
 row:jW w base lv cs
 kx:∀p∈cs,bF w 0 (A6 p) p.1.n/\∀y∈p.1.n,y<4294967296
 v32:∀p∈cs,p.1.v<4294967296
 gy:(cs.map (·.1.v)).Pairwise (· < ·)
 len:cs.length<=24
def fL(cs:List kF):List (Nat×kF):=cs.reverse.map fun p=>(p.1.v,p)
section
variable {w w' W:World} {base:Nat} {lv:Value} {cs:List kF}
theorem Lv{l:List Nat}(h:l.Pairwise (· < ·)):l.Nodup:=h.imp (fun h e=>by omega)
theorem OZ{j:Nat}{p:kF}(h:pK w base lv cs)(hj:cs[j]? = some p):aS (fL (cs.take j)) p.1.v p=fL (cs.take (j+1))/\aA (fL (cs.take j)) p.1.v=none:=by
 obtain⟨hl,rfl⟩:=List.getElem?_eq_some_iff.1 hj;have hne:∀q∈fL (cs.take j),q.1≠cs[j].1.v:=by
  intro q hq;obtain⟨x,hx,rfl⟩:=List.mem_map.1 hq;rw[List.mem_reverse]at hx;obtain⟨i,hi⟩:=List.mem_iff_getElem?.1 hx;have e9:i<j:=by
   have:=(List.getElem?_eq_some_iff.1 hi).1;rw[List.length_take]at this;omega
  rw[List.getElem?_take_of_lt e9]at hi;obtain⟨nZ,rfl⟩:=List.getElem?_eq_some_iff.1 hi;have:=List.pairwise_iff_getElem.1 h.gy i j (by simpa using nZ) (by simpa using hl) e9;simp at this;show cs[i].1.v≠_;omega
 refine⟨?_,lu.2 hne⟩;unfold aS;rw[nP hne];unfold fL;rw[List.take_succ_eq_append_getElem hl,List.reverse_append];rfl
theorem Td(h:pK w base lv cs)(v:Nat):(∃p∈cs,p.1.v=v/\aA (fL cs) v=some p)\/(aA (fL cs) v=none/\∀p∈cs,p.1.v≠v):=by
 have hk:((fL cs).map (·.1)).Nodup:=by
  unfold fL;rw[List.map_map];exact((List.reverse_perm cs).map (·.1.v)).nodup_iff.2 (Lv h.gy)
 cases e:aA (fL cs) v with
 |none=>
   refine .inr ⟨rfl,fun p hp he=>?_⟩;exact lu.1 e (p.1.v,p) (List.mem_map.2 ⟨p,List.mem_reverse.2 hp,rfl⟩) he
 |some q=>
   obtain⟨x,hx,he⟩:=List.mem_map.1 (eI e);cases he;exact .inl ⟨q,List.mem_reverse.1 hx,rfl,rfl⟩
theorem uM{l:List Nat}{k y:Nat}{P:Nat->Prop}{Q:Prop}(h:l[k]? = some y):(Q\/∃x∈l.take (k+1),P x)↔((Q\/∃x∈l.take k,P x)\/P y):=by
 obtain⟨hl,rfl⟩:=List.getElem?_eq_some_iff.1 h;rw[List.take_succ_eq_append_getElem hl];constructor
 ·rintro(h |⟨x,hx,h⟩)
  ·exact .inl (.inl h)
  ·rcases List.mem_append.1 hx with hx | hx
   ·exact .inl (.inr ⟨x,hx,h⟩)
   ·rw[List.mem_singleton]at hx;subst hx;exact .inr h
 ·rintro((h |⟨x,hx,h⟩) | h)
  ·exact .inl h
  ·exact .inr ⟨x,List.mem_append.2 (.inl hx),h⟩
  ·exact .inr ⟨_,List.mem_append.2 (.inr ah),h⟩
theorem Te(h:pK w base lv cs){a b:kF}(ha:a∈cs)(hb:b∈cs)(e:a.1.v=b.1.v):a=b:=by
 obtain⟨i,hi⟩:=List.mem_iff_getElem?.1 ha;obtain⟨j,hj⟩:=List.mem_iff_getElem?.1 hb;obtain⟨nZ,rfl⟩:=List.getElem?_eq_some_iff.1 hi;obtain⟨lB,rfl⟩:=List.getElem?_eq_some_iff.1 hj;have hp:=List.pairwise_iff_getElem.1 h.gy;rcases Nat.lt_trichotomy i j with h1 | h1 | h1
 ·have:=hp i j (by simpa using nZ) (by simpa using lB) h1;simp at this;omega
 ·subst h1;rfl
 ·have:=hp j i (by simpa using lB) (by simpa using nZ) h1;simp at this;omega
theorem Tf(h:pK w base lv cs){S ts:List Nat}{dn:List (Nat×kF)}(hL:∀z,z∈S↔AR (cs.map (·.1)) z)(hp:dn.Perm (fL cs))(ht:ts.Perm ((dn.map (·.1)).filter (fun x=>decide (x ∉ S))))(hs:ts.Pairwise (·<=·)):ts=kX (cs.map (·.1)):=by
 have e:kX (cs.map (·.1))=(cs.map (·.1.v)).filter (fun x=>decide (x ∉ S)):=by
  unfold kX;rw[List.map_map];refine List.filter_congr fun x _=>?_;simp only[hL x]
 rw[e];have hq:ts.Perm ((cs.map (·.1.v)).filter (fun x=>decide (x ∉ S))):=by
  refine ht.trans (List.Perm.filter _ ((hp.map (·.1)).trans ?_));unfold fL;rw[List.map_map];exact(List.reverse_perm cs).map _
 refine hq.eq_of_pairwise (le:=fun a b=>a<=b) (fun a b _ _ h1 h2=>Nat.le_antisymm h1 h2) hs ?_;exact(h.gy.imp (fun h=>Nat.le_of_lt h)).filter _
def Tg(w:World)(l:List Nat)(e:Ending)(w':World):Prop:=∃v,e=.returned v/\Below w.heap.size w w'/\bF w' w.heap.size v l
theorem O0(w:World):(zeroValue 181).run prog w=.ok (.agg #[.int .u32 0,.int .u64 0,.slice none 0 0]) w:=Tryz.zeroValue181 w
theorem Th(h:pK w base lv cs):Calls prog 100 #[lv] w (Tg w (kX (cs.map (·.1)))):=by
 obtain⟨la,lk,rfl⟩:=az h.row;have H:=aa h;have HZ:=aa O0;have HZU:=aa DA;have vG:∀(t:TypeId)(W:World),(Instr.makeMap t none).run prog W=.ok (.map (some W.heap.size)) (W.alloc (.map #[] 0)):=fun _ _=>rfl;clear h;obtain⟨R,HR⟩:∃R,Hid (kX (cs.map (·.1))=R):=⟨_,aa rfl⟩;rw[HR.out];obtain⟨M,hM⟩:∃M,M=cs.length:=⟨_,rfl⟩;rw[<- hM];have HM:Hid (M=cs.length/\M<=24):=aa ⟨hM,by rw[hM];exact H.o.len⟩;clear hM;have HO0:Hid (Lu (w.alloc (.map #[] 0)) w.heap.size (fL (cs.take 0))):=aa (bO.made w prog 26 iT sG);have jQ:Hid (Below w.heap.size w (w.alloc (.map #[] 0))):=aa ai;go_enter func100,ntmps100;go_wp2_with fail;go_loopw [22] (fun vi wr=>∃j:Nat,vi=.int .i64 (j:Int)/\j<=M/\Hid (Lu wr w.heap.size (fL (cs.take j)))/\Hid (Below w.heap.size w wr)) (fun vi _=>M-(intOf vi).toNat)
 case atStart=>exact⟨0,rfl,Nat.zero_le _,HO0,jQ⟩
 case round=>
  obtain⟨j,rfl,hj,HO,HB⟩:=hrel;clear HO0 jQ;generalize wr=W1 at *;by_cases hlt:j<M
  ·have Jr:(j:Int)<(M:Int):=by omega
   have wj:IntKind.i64.wrap ((j:Int)+1)=((j+1:Nat):Int):=by have:=HM.o;rw[ax]<;>omega
   obtain⟨p,hp⟩:∃x,cs[j]? = some x:=⟨_,List.getElem?_eq_getElem (by have:=HM.o;omega)⟩;have HP:=aa hp;have HG:=aa (fO (H.o.v32 p (List.mem_of_getElem? hp)));obtain⟨g,rfl⟩:∃g,la=some ⟨g,0,none⟩:=by
    obtain⟨-,⟨h1,h2⟩|⟨g,_,_,h1,_⟩⟩:=H.o.row
    ·have:=HM.o;omega
    ·cases h1;exact⟨g,rfl⟩
   obtain⟨q0,q1,q2⟩:=I0 (aW H.o.row HB.out) hp;obtain⟨c,na,nk⟩:=p;have cX:Hid (Below W1.heap.size W1 (W1.alloc (.cells #[.int .u32 (c.v:Int),.int .u64 (c.k:Int),.slice na c.n.length nk] 181))):=aa ai;have p7:Hid (Lu (W1.alloc (.cells #[.int .u32 (c.v:Int),.int .u64 (c.k:Int),.slice na c.n.length nk] 181)) w.heap.size (fL (cs.take j))):=aa (HO.out.kept (cX.o.block _ HO.out.lt));have mB:Hid (Lu ((W1.alloc (.cells #[.int .u32 (c.v:Int),.int .u64 (c.k:Int),.slice na c.n.length nk] 181)).alloc (.cells #[.int .u32 0,.int .u64 0,.slice none 0 0] 181)) w.heap.size (fL (cs.take j))):=aa (p7.o.kept ((MapKept.heap_alloc _ _).2 _ p7.o.lt));obtain⟨hput,iR⟩:=OZ H.o hp;have nw:=aa hput;have Am:=aa iR;clear hp hput iR;go_wp2_with (first | (at_lookup;refine bX _ rfl _ _ _ _ rfl 181 cg dm Tryz.underlying241 (HZ.o _) w.heap.size _ rfl p7.o c.v rfl HG.o ?_;unfold pW;rw[Am.o];simp only[Option.map_none,Option.getD_none,Option.isSome_none]) | (at_mapUpdate;refine eJ _ rfl _ _ _ _ rfl 181 cg dm Tryz.underlying241 w.heap.size _ rfl mB.o c.v (c,na,nk) rfl rfl HG.o ?_;intro es clock hm;rw[nw.o]at hm;have fZ:=aa hm;clear hm));have Ck:Hid (Below w.heap.size w (setBlock ((W1.alloc (.cells #[.int .u32 (c.v:Int),.int .u64 (c.k:Int),.slice na c.n.length nk] 181)).alloc (.cells #[.int .u32 0,.int .u64 0,.slice none 0 0] 181)) w.heap.size (.map es clock))):=aa (by
    have ht:aH (fun x=>w.heap.size<=x) w (setBlock ((W1.alloc (.cells #[.int .u32 (c.v:Int),.int .u64 (c.k:Int),.slice na c.n.length nk] 181)).alloc (.cells #[.int .u32 0,.int .u64 0,.slice none 0 0] 181)) w.heap.size (.map es clock)):=(((aH.aU HB.out).alloc _).alloc _).setBlock _ _ (.inl (Nat.le_refl _));exact ht.below (Nat.le_refl _) (fun _ h=>h))
   exact⟨⟨j+1,by go_num,ae,fZ,Ck⟩,by simp[intOf];omega⟩
  ·have Jr:¬(j:Int)<(M:Int):=by omega
   have ZU:Hid (Lu W1 w.heap.size (fL cs)):=aa (by have:=HO.out;rwa [List.take_of_length_le (by have:=HM.o;omega)]at this);clear HO;have yT:Hid (Below W1.heap.size W1 ((W1.alloc (.map #[] 0)).alloc (.cells #[.map (some W1.heap.size)] 243))/\((W1.alloc (.map #[] 0)).alloc (.cells #[.map (some W1.heap.size)] 243)).heap.size=W1.heap.size+1+1):=aa ⟨ai.alloc ah _,ah⟩;have mB:Hid (Lu ((W1.alloc (.map #[] 0)).alloc (.cells #[.map (some W1.heap.size)] 243)) w.heap.size (fL cs)):=aa (ZU.o.kept (yT.o.1.block _ ZU.o.lt));have fy:Hid (jv ((W1.alloc (.map #[] 0)).alloc (.cells #[.map (some W1.heap.size)] 243)) W1.heap.size []/\((W1.alloc (.map #[] 0)).alloc (.cells #[.map (some W1.heap.size)] 243)).heap[W1.heap.size+1]? = some (.cells #[.map (some W1.heap.size)] 243)):=aa ⟨(bO.made W1 prog 26 iT (fun _:Unit=>Value.agg #[])).kept ((MapKept.heap_alloc _ _).2 _ ah),by
    have:=heap_alloc_new (W1.alloc (.map #[] 0)) (.cells #[.map (some W1.heap.size)] 243);simpa using this⟩
   have Y7:Hid (w.heap.size<W1.heap.size):=aa ZU.o.lt;clear ZU;go_wp2_with (at_range;refine oV _ rfl _ _ rfl 181 Tryz.underlying241 w.heap.size _ rfl mB.o ?_;intro ob0 uV);try go_frame
   rw[yT.o.2]at uV;have HI0:=aa uV;clear uV;obtain⟨lb,Di⟩:∃x,x=W1.heap.size:=⟨_,rfl⟩;obtain⟨qc,hqc⟩:∃x,x=W1.heap.size+1:=⟨_,rfl⟩;obtain⟨ib,hib⟩:∃x,x=W1.heap.size+1+1:=⟨_,rfl⟩;have HN:Hid (w.heap.size<lb/\lb<qc/\qc<ib):=aa (by have:=Y7.o;omega);have oU:Hid (Below w.heap.size w (((W1.alloc (.map #[] 0)).alloc (.cells #[.map (some W1.heap.size)] 243)).alloc ob0)):=aa ((HB.out.trans (yT.o.1.mono HB.out.size)).alloc (by rw[yT.o.2];have:=HB.out.size;omega) _);have gj:Hid (jv (((W1.alloc (.map #[] 0)).alloc (.cells #[.map (some W1.heap.size)] 243)).alloc ob0) lb []/\(((W1.alloc (.map #[] 0)).alloc (.cells #[.map (some W1.heap.size)] 243)).alloc ob0).heap[qc]? = some (.cells #[.map (some lb)] 243)):=aa (by
    subst Di hqc;exact⟨fy.o.1.kept ((MapKept.heap_alloc _ _).2 _ fy.o.1.lt),by rw[(MapKept.heap_alloc _ _).2 _ (by rw[yT.o.2];omega)];exact fy.o.2⟩)
   rw[<- hib]at HI0;rw[<- hib,<- hqc];generalize ((W1.alloc (.map #[] 0)).alloc (.cells #[.map (some W1.heap.size)] 243)).alloc ob0=W4 at *;clear Di hqc hib fy mB yT Y7 HB vG;go_loopw [] (fun wr=>∃dn todo S,Hid (cu prog 26 iT sG wr w.heap.size ib (fL cs) todo)/\Hid (Below w.heap.size w wr)/\Hid (jv wr lb S/\wr.heap[qc]? = some (.cells #[.map (some lb)] 243))/\Hid ((dn++todo).Perm (fL cs))/\Hid (∀z,z∈S ↔ ∃q∈dn,∃b∈cs,b.1.v∈q.2.1.n/\Fg q.2.1 b.1 z)) (fun wr=>wr.rangeLeft w.heap.size ib)
   case atStart=>exact⟨[],_,[],HI0,oU,gj,aa (List.Perm.refl _),aa ah⟩
   case round=>
    obtain⟨dn,todo,S,HI,HB,HS,HP,HZS⟩:=hrel;clear HI0 oU gj;generalize wr=W5 at *;go_wp2_with (at_next;refine oW _ rfl _ rfl w.heap.size ib (fL cs) todo rfl HI.out ?_ ?_)
    ·rintro rfl;have aew:Hid (∀z,z∈S↔AR (cs.map (·.1)) z):=aa (fun z=>by
      have hp:dn.Perm (fL cs):=by simpa using HP.o
      rw[HZS.out z];unfold AR;constructor
      ·rintro⟨q,hq,b,hb,h1,h2⟩;obtain⟨x,hx,rfl⟩:=List.mem_map.1 (hp.mem_iff.1 hq);exact⟨x.1,List.mem_map.2 ⟨x,List.mem_reverse.1 hx,rfl⟩,b.1,List.mem_map.2 ⟨b,hb,rfl⟩,h1,h2.1,h2.2⟩
      ·rintro⟨a,ha,b,hb,h1,h2,h3⟩;obtain⟨x,hx,rfl⟩:=List.mem_map.1 ha;obtain⟨y,hy,rfl⟩:=List.mem_map.1 hb;exact⟨(x.1.v,x),hp.mem_iff.2 (List.mem_map.2 ⟨x,List.mem_reverse.2 hx,rfl⟩),y,hy,h1,h2,h3⟩)
     have YJ:Hid (Lu W5 w.heap.size (fL cs)):=aa HI.out.map;clear HP HZS HI;go_wp2_with (at_range;refine oV _ rfl _ _ rfl 181 Tryz.underlying241 w.heap.size _ rfl YJ.o ?_;intro ob5 UG);try go_frame
     obtain⟨ie,U0⟩:∃x,x=W5.heap.size:=⟨_,rfl⟩;have HI0:=aa UG;have OB:Hid (qc<ie):=aa (by rw[U0];exact(Array.getElem?_eq_some_iff.1 HS.out.2).1);have jQ:Hid (Below w.heap.size w (W5.alloc ob5)):=aa (HB.out.alloc HB.out.size _);have EG:Hid (jv (W5.alloc ob5) lb S/\(W5.alloc ob5).heap[qc]? = some (.cells #[.map (some lb)] 243)):=aa ⟨HS.out.1.kept ((MapKept.heap_alloc _ _).2 _ HS.out.1.lt),by rw[(MapKept.heap_alloc _ _).2 _ (Array.getElem?_eq_some_iff.1 HS.out.2).1];exact HS.out.2⟩;rw[<- U0]at HI0;rw[<- U0];generalize W5.alloc ob5=W6 at *;clear U0 UG HS HB YJ;go_loopw [2] (fun v wr=>∃(todo:List (Nat×kF))(acc:List Nat),Hid (bF wr (ie+1) v acc)/\Hid (cu prog 26 iT sG wr w.heap.size ie (fL cs) todo)/\Hid (Below w.heap.size w wr)/\Hid (jv wr lb S/\wr.heap[qc]? = some (.cells #[.map (some lb)] 243))/\Hid (∃dn,(dn++todo).Perm (fL cs)/\acc=(dn.map (·.1)).filter (fun x=>decide (x ∉ S)))) (fun _ wr=>wr.rangeLeft w.heap.size ie)
     case atStart=>exact⟨_,[],aa ⟨rfl,.inl ⟨rfl,rfl⟩⟩,HI0,jQ,EG,aa ⟨[],List.Perm.refl _,rfl⟩⟩
     case round=>
      generalize u2=ov at *;obtain⟨todo,acc,nu,HI,HB,HS,HA⟩:=hrel;clear HI0 jQ EG;generalize wr=W7 at *;have HAL:Hid (acc.length<=24):=aa (by
       obtain⟨dn,hp,rfl⟩:=HA.out;have h1:=hp.length_eq;have h2:=List.length_filter_le (fun x=>decide (x ∉ S)) (dn.map (·.1));have h3:=H.o.len;unfold fL at h1;simp only[List.length_append,List.length_map,List.length_reverse]at h1 h2;omega)
      go_wp2_with (at_next;refine oW _ rfl _ rfl w.heap.size ie (fL cs) todo rfl HI.out ?_ ?_)
      ·rintro rfl;have HC:=aa (Lt nu.out (Nat.lt_of_le_of_lt HAL.o af));go_wp2_with fail;refine HC.o.mono ?_;rintro e w8⟨ts,rfl,hr8,hp8,Kp,ht8⟩;have HQ:Hid (Below w.heap.size w w8/\bF w8 w.heap.size ov R):=aa (by
        refine⟨?_,?_⟩
        ·have h0:aH (fun x=>w.heap.size<=x) w W7:=aH.aU HB.out;exact(h0.trans ht8 (fun x hx e=>by have:=aG nu.out x (by first | exact e | exact e.symm);have:=OB.o;have:=HN.o;omega)).below (Nat.le_refl _) (fun _ h=>h)
        ·obtain⟨dn,hp,rfl⟩:=HA.out;rw[List.append_nil]at hp;rw[<- HR.out,<- Tf H.o aew.o hp hp8 Kp];exact aV hr8 (by have:=OB.o;have:=HN.o;omega))
       clear hr8 hp8 Kp ht8 HC;go_wp2;go_ret;exact⟨ov,rfl,HQ.o.1,HQ.o.2⟩
      ·intro kv c na nk rs w1 rW hp qa rX hen;have XL:∀x,x≠ie->(setBlock w1 ie rW).heap[x]? = W7.heap[x]? := fun x hx=>by
        rcases qa with rfl | rfl
        ·exact bg _ hx
        ·exact bg _ hx
       have hb1:Below w.heap.size w (setBlock w1 ie rW):=by
        have h0:aH (fun x=>w.heap.size<=x) w W7:=aH.aU HB.out;have:aH (fun x=>w.heap.size<=x) w (setBlock w1 ie rW):=by
         have:=HN.o;have:=OB.o;rcases qa with rfl | rfl
         ·exact h0.setBlock _ _ (.inl ae)
         ·exact h0.drew.setBlock _ _ (.inl ae)
        exact this.below (Nat.le_refl _) (fun _ h=>h)
       have jD:Hid (jv (setBlock w1 ie rW) lb S/\(setBlock w1 ie rW).heap[qc]? = some (.cells #[.map (some lb)] 243)):=aa ⟨HS.out.1.kept (XL _ (by have:=HN.o;have:=OB.o;omega)),by rw[XL _ (by have:=OB.o;omega)];exact HS.out.2⟩;have HR8:Hid (bF (setBlock w1 ie rW) (ie+1) ov acc):=aa (bI nu.out (fun x hx=>XL x (by have:=aG nu.out x hx;omega)));have y4:=aa hb1;have HKV:Hid ((kv,(c,na,nk))∈fL cs):=aa (by
        obtain⟨dn,hq,-⟩:=HA.out;exact hq.mem_iff.1 (List.mem_append.2 (.inr (hp.mem_iff.2 ah))))
       have HGV:Hid (Good prog 26 (iT kv)):=aa (by
        obtain⟨x,hx,he⟩:=List.mem_map.1 HKV.o;cases he;exact fO (H.o.v32 _ (List.mem_reverse.1 hx)))
       have Lx:=aa rX;have Xg:Hid (todo.length=rs.length+1/\W7.rangeLeft w.heap.size ie=todo.length):=aa ⟨by have:=hp.length_eq;simpa using this,HI.out.left⟩;have I1:Hid (∃dn,(dn++[(kv,(c,na,nk))]++rs).Perm (fL cs)/\acc=(dn.map (·.1)).filter (fun x=>decide (x ∉ S))):=aa (by
        obtain⟨dn,hq,he⟩:=HA.out;refine⟨dn,List.Perm.trans ?_ hq,he⟩;rw[List.append_assoc];exact List.Perm.append_left dn (by simpa using hp.symm))
       clear XL hb1 hp qa rX HI HB HS nu HA;simp only[iT]at hen;generalize setBlock w1 ie rW=W8 at *;have q0:W8.cell? ⟨qc,0,none⟩=some (.map (some lb)):=by rw[aq jD.o.2];rfl
       have HU9:Hid (Below W8.heap.size W8 (W8.alloc (.cells #[] 245))):=aa ai;have p8:Hid (jv (W8.alloc (.cells #[] 245)) lb S/\(W8.alloc (.cells #[] 245)).heap[qc]? = some (.cells #[.map (some lb)] 243)):=aa ⟨jD.o.1.kept (HU9.o.block _ jD.o.1.lt),(HU9.o.block _ (Array.getElem?_eq_some_iff.1 jD.o.2).1).trans jD.o.2⟩;have HI9:Hid (cu prog 26 iT sG (W8.alloc (.cells #[] 245)) w.heap.size ie (fL cs) rs):=aa (Lx.o.kept (HU9.o.block _ Lx.o.map.lt) (HU9.o.block _ Lx.o.lt));have rR:Hid (Below w.heap.size w (W8.alloc (.cells #[] 245))):=aa (y4.o.trans (HU9.o.mono y4.o.size));have HR9:Hid (bF (W8.alloc (.cells #[] 245)) (ie+1) ov acc):=aa (aW HR8.o HU9.o);have HLE:Hid (ie+1<=(W8.alloc (.cells #[] 245)).heap.size/\acc.length<=100000):=aa ⟨HI9.o.lt,by have:=HAL.o;omega⟩;by_cases hlt:kv∈S
       ·have SQ:Hid (decide (kv∈S)=true):=aa (decide_eq_true hlt);have Lg:Hid (∃dn,(dn++rs).Perm (fL cs)/\acc=(dn.map (·.1)).filter (fun x=>decide (x ∉ S))):=aa (by
         obtain⟨dn,hq,he⟩:=I1.o;refine⟨_,hq,?_⟩;rw[List.map_append,List.filter_append,<- he];simp[hlt])
        have PM:Hid ((W8.alloc (.cells #[] 245)).rangeLeft w.heap.size ie<W7.rangeLeft w.heap.size ie):=aa (by have:=Xg.o;rw[HI9.o.left];omega);clear hlt I1;go_wp2_with (at_lookup;refine bX _ rfl _ _ _ _ rfl 245 cg dm Tryz.underlying243 (HZU.o _) lb _ rfl jD.o.1 kv rfl HGV.o ?_;rw[uJ,rH];try rw[SQ.o]);go_roundw
        case rel=>exact⟨rs,acc,HR9,HI9,rR,p8,Lg⟩
        case measure=>exact PM.o
       ·have SQ:Hid (decide (kv∈S)=false):=aa (decide_eq_false hlt);have Lg:Hid (∃dn,(dn++rs).Perm (fL cs)/\acc++[kv]=(dn.map (·.1)).filter (fun x=>decide (x ∉ S))):=aa (by
         obtain⟨dn,hq,he⟩:=I1.o;refine⟨_,hq,?_⟩;rw[List.map_append,List.filter_append,<- he];simp[hlt])
        clear hlt I1;obtain⟨oa,ok,rfl⟩:=az HR9.o;go_wp2_with (first | (at_lookup;refine bX _ rfl _ _ _ _ rfl 245 cg dm Tryz.underlying243 (HZU.o _) lb _ rfl jD.o.1 kv rfl HGV.o ?_;rw[uJ,rH];try rw[SQ.o]) | (at_builtin;refine mY rfl _ _ rfl (ie+1) _ acc rfl HR9.o kv 1 (by simp[go_sem]) HLE.o.2 HLE.o.1 ?_;intro v5 w5 h5 ha));obtain⟨⟨q1,q2,q3,q4,q5⟩,-⟩:=ha;have hsz:((W8.alloc (.cells #[] 245)).alloc (.cells #[.int .u32 (kv:Int)] 26)).heap.size=(W8.alloc (.cells #[] 245)).heap.size+1:=by simp
        have hlt:=HLE.o.1;have hblk:∀x,x<=ie->w5.heap[x]? = (W8.alloc (.cells #[] 245)).heap[x]? := fun x hx=>by
         rw[q5 x (by rw[hsz];omega) (fun e=>by have:=aG HR9.o x (by first | exact e | exact e.symm);omega)];exact(MapKept.heap_alloc _ _).2 _ ae
        have hN:=HN.o;have hN5:=OB.o;have O4:Hid (cu prog 26 iT sG w5 w.heap.size ie (fL cs) rs):=aa (HI9.o.kept (hblk _ ae) (hblk _ (Nat.le_refl _)));have Ti:Hid (Below w.heap.size w w5):=aa (rR.o.trans ⟨by rw[q1];rfl,by rw[q2];rfl,by rw[q3];rfl,by rw[hsz]at q4;omega,fun k hk=>hblk k ae⟩);have nL:Hid (jv w5 lb S/\w5.heap[qc]? = some (.cells #[.map (some lb)] 243)):=aa ⟨p8.o.1.kept (hblk _ ae),(hblk _ ae).trans p8.o.2⟩;have ajZ:=aa h5;have PM:Hid (w5.rangeLeft w.heap.size ie<W7.rangeLeft w.heap.size ie):=aa (by have:=Xg.o;rw[O4.o.left];omega);clear q1 q2 q3 q4 q5 hsz hlt hblk hN hN5 h5;go_roundw
        case rel=>exact⟨rs,acc++[kv],ajZ,O4,Ti,nL,Lg⟩
        case measure=>exact PM.o
    ·intro kv c na nk rs w1 rW hp qa rX hen;have XL:∀x,x≠ib->(setBlock w1 ib rW).heap[x]? = W5.heap[x]? := fun x hx=>by
      rcases qa with rfl | rfl
      ·exact bg _ hx
      ·exact bg _ hx
     have hb1:Below w.heap.size w (setBlock w1 ib rW):=by
      have h0:aH (fun x=>w.heap.size<=x) w W5:=aH.aU HB.out;have:aH (fun x=>w.heap.size<=x) w (setBlock w1 ib rW):=by
       have:=HN.o;rcases qa with rfl | rfl
       ·exact h0.setBlock _ _ (.inl ae)
       ·exact h0.drew.setBlock _ _ (.inl ae)
      exact this.below (Nat.le_refl _) (fun _ h=>h)
     have gu:Hid (jv (setBlock w1 ib rW) lb S/\(setBlock w1 ib rW).heap[qc]? = some (.cells #[.map (some lb)] 243)):=aa ⟨HS.out.1.kept (XL _ (by have:=HN.o;omega)),by rw[XL _ (by have:=HN.o;omega)];exact HS.out.2⟩;have mQ:=aa hb1;have HPP:=aa hp;have HKV:Hid ((kv,(c,na,nk))∈fL cs):=aa (HP.o.mem_iff.1 (List.mem_append.2 (.inr (hp.mem_iff.2 ah))));have HI6:=aa rX;have Xg:Hid (todo.length=rs.length+1/\W5.rangeLeft w.heap.size ib=todo.length):=aa ⟨by have:=hp.length_eq;simpa using this,HI.out.left⟩;clear XL hb1 hp qa rX HI HB HS;generalize setBlock w1 ib rW=W6 at *;have HPC:Hid ((c,na,nk)∈cs/\kv=c.v):=aa (by
      obtain⟨x,hx,he⟩:=List.mem_map.1 HKV.o;cases he;exact⟨List.mem_reverse.1 hx,rfl⟩)
     have HNR:=aa (H.o.kx _ HPC.o.1);have Sv:Hid (Below W6.heap.size W6 (W6.alloc (.cells #[.int .u32 (c.v:Int),.int .u64 (c.k:Int),.slice na c.n.length nk] 181))/\(W6.alloc (.cells #[.int .u32 (c.v:Int),.int .u64 (c.k:Int),.slice na c.n.length nk] 181)).heap[W6.heap.size]? = some (.cells #[.int .u32 (c.v:Int),.int .u64 (c.k:Int),.slice na c.n.length nk] 181)):=aa ⟨aj.alloc (Nat.le_refl _) _,heap_alloc_new _ _⟩;have HI7:Hid (cu prog 26 iT sG (W6.alloc (.cells #[.int .u32 (c.v:Int),.int .u64 (c.k:Int),.slice na c.n.length nk] 181)) w.heap.size ib (fL cs) rs):=aa (HI6.o.kept (Sv.o.1.block _ HI6.o.map.lt) (Sv.o.1.block _ HI6.o.lt));have rQ:Hid (Below w.heap.size w (W6.alloc (.cells #[.int .u32 (c.v:Int),.int .u64 (c.k:Int),.slice na c.n.length nk] 181))):=aa (mQ.o.trans (Sv.o.1.mono mQ.o.size));have jR:Hid (jv (W6.alloc (.cells #[.int .u32 (c.v:Int),.int .u64 (c.k:Int),.slice na c.n.length nk] 181)) lb S/\(W6.alloc (.cells #[.int .u32 (c.v:Int),.int .u64 (c.k:Int),.slice na c.n.length nk] 181)).heap[qc]? = some (.cells #[.map (some lb)] 243)):=aa ⟨gu.o.1.kept (Sv.o.1.block _ gu.o.1.lt),(Sv.o.1.block _ (Array.getElem?_eq_some_iff.1 gu.o.2).1).trans gu.o.2⟩;obtain⟨ab,hab⟩:∃x,x=W6.heap.size:=⟨_,rfl⟩;have HAB:Hid ((W6.alloc (.cells #[.int .u32 (c.v:Int),.int .u64 (c.k:Int),.slice na c.n.length nk] 181)).heap[ab]? = some (.cells #[.int .u32 (c.v:Int),.int .u64 (c.k:Int),.slice na c.n.length nk] 181)/\ab≠lb):=aa ⟨by rw[hab];exact Sv.o.2,by have:=gu.o.1.lt;omega⟩;clear HI6 mQ gu;go_wp2_with fail;rw[<- hab];generalize W6.alloc (.cells #[.int .u32 (c.v:Int),.int .u64 (c.k:Int),.slice na c.n.length nk] 181)=W7 at *;clear hab Sv hen;go_loopw [51] (fun vk wr=>∃(k:Nat)(S':List Nat),vk=.int .i64 (k:Int)/\k<=c.n.length/\Hid (cu prog 26 iT sG wr w.heap.size ib (fL cs) rs)/\Hid (Below w.heap.size w wr)/\Hid (jv wr lb S'/\wr.heap[qc]? = some (.cells #[.map (some lb)] 243))/\Hid (wr.heap[ab]? = some (.cells #[.int .u32 (c.v:Int),.int .u64 (c.k:Int),.slice na c.n.length nk] 181)/\ab≠lb)/\Hid (∀z,z∈S'↔z∈S\/∃y∈c.n.take k,∃b∈cs,b.1.v=y/\Fg c b.1 z)) (fun vk _=>c.n.length-(intOf vk).toNat)
     case atStart=>exact⟨0,S,rfl,Nat.zero_le _,HI7,rQ,jR,HAB,aa ah⟩
     case round=>
      obtain⟨k,S',rfl,hk,Lx,y4,jD,I1,XA⟩:=hrel;clear HI7 rQ jR HAB;generalize wr=W8 at *;by_cases hkt:k<c.n.length
      ·have FI:(k:Int)<(c.n.length:Int):=by omega
       obtain⟨g,rfl,uY⟩:∃g,na=some ⟨g,0,none⟩/\c.n.length<=maxLen:=by
        obtain⟨-,⟨h1,h2⟩|⟨g,cap,_,h1,_,_,X5,hcm,_⟩⟩:=HNR.o.1
        ·omega
        ·cases h1;exact⟨g,rfl,ae⟩
       unfold maxLen at uY;have wk:IntKind.i64.wrap ((k:Int)+1)=((k+1:Nat):Int):=by rw[ax]<;>omega
       obtain⟨y,hy⟩:∃x,c.n[k]? = some x:=⟨_,List.getElem?_eq_getElem hkt⟩;have HY:=aa hy;have HGY:=aa (fO (HNR.o.2 y (List.mem_of_getElem? hy)));have q0:=iu (aW HNR.o.1 y4.o) hy;have a0:W8.cell? ⟨ab,0,none⟩=some (.int .u32 (c.v:Int)):=by rw[aq I1.o.1];rfl
       have a1:W8.cell? ⟨ab,1,none⟩=some (.int .u64 (c.k:Int)):=by rw[aq I1.o.1];rfl
       have a2:W8.cell? ⟨ab,2,none⟩=some (.slice (some ⟨g,0,none⟩) c.n.length nk):=by rw[aq I1.o.1];rfl
       obtain⟨⟨b,nb,nbk⟩,hp,Xe,iR⟩|⟨iR,hno⟩:=Td H.o y
       ·have Am:=aa iR;have HPB:=aa (show(b,nb,nbk)∈cs/\b.v=y from⟨hp,Xe⟩);clear hp Xe iR hy;have rR:Hid (Below W8.heap.size W8 (W8.alloc (.cells #[.int .u32 (b.v:Int),.int .u64 (b.k:Int),.slice nb b.n.length nbk] 181))):=aa ai;have p8:Hid (jv (W8.alloc (.cells #[.int .u32 (b.v:Int),.int .u64 (b.k:Int),.slice nb b.n.length nbk] 181)) lb S'/\(W8.alloc (.cells #[.int .u32 (b.v:Int),.int .u64 (b.k:Int),.slice nb b.n.length nbk] 181)).heap[qc]? = some (.cells #[.map (some lb)] 243)):=aa ⟨jD.o.1.kept (rR.o.block _ jD.o.1.lt),(rR.o.block _ (Array.getElem?_eq_some_iff.1 jD.o.2).1).trans jD.o.2⟩;have e0:=AE rR.o a0;have e1:=AE rR.o a1;have e2:=AE rR.o a2;have HMT:=aa (S6 (y:=b) p8.o.2 p8.o.1 (by have:=HN.o;omega) c (H.o.v32 _ HPC.o.1) (H.o.v32 _ HPB.o.1) (xa:=some ⟨g,0,none⟩) (xn:=c.n.length) (xc:=nk) (ya:=nb) (yn:=b.n.length) (yc:=nbk));go_wp2_with (at_lookup;refine bX _ rfl _ _ _ _ rfl 181 cg dm Tryz.underlying241 (HZ.o _) w.heap.size _ rfl Lx.o.map y rfl HGY.o ?_;unfold pW;rw[Am.o];simp only[Option.map_some,Option.getD_some,Option.isSome_some]);refine HMT.o.mono ?_;rintro e w9⟨S9,rfl,hs9,hz9,ht9,hc9⟩;have Yo:∀x,x<W8.heap.size->x≠lb->w9.heap[x]? = W8.heap[x]? := fun x hx hne=>by
         exact(ht9.block x (by have:=rR.o.size;omega) hne).trans (rR.o.block _ hx)
        have O4:Hid (cu prog 26 iT sG w9 w.heap.size ib (fL cs) rs):=aa (Lx.o.kept (Yo _ Lx.o.map.lt (by have:=HN.o;omega)) (Yo _ Lx.o.lt (by have:=HN.o;omega)));have Ti:Hid (Below w.heap.size w w9):=aa (by
         have h0:aH (fun x=>w.heap.size<=x) w w9:=((aH.aU y4.o).alloc _).trans ht9 (fun x _ e=>by have:=HN.o;omega);exact h0.below (Nat.le_refl _) (fun _ h=>h))
        have nL:=aa (show _/\_ from⟨hs9,hc9⟩);have aag:Hid (w9.heap[ab]? = some (.cells #[.int .u32 (c.v:Int),.int .u64 (c.k:Int),.slice (some ⟨g,0,none⟩) c.n.length nk] 181)/\ab≠lb):=aa ⟨(Yo _ (Array.getElem?_eq_some_iff.1 I1.o.1).1 I1.o.2).trans I1.o.1,I1.o.2⟩;have aah:Hid (∀z,z∈S9↔z∈S\/∃y∈c.n.take (k+1),∃b∈cs,b.1.v=y/\Fg c b.1 z):=aa (fun z=>by
         rw[hz9 z,XA.out z,uM HY.o];refine or_congr Iff.rfl ⟨fun h=>⟨_,HPB.o.1,HPB.o.2,h⟩,?_⟩;rintro⟨b',hb',hv,hm⟩;rw[Te H.o hb' HPB.o.1 (hv.trans HPB.o.2.symm)]at hm;exact hm)
        clear hs9 hz9 ht9 hc9 Yo Lx y4 jD I1 XA HMT p8 rR a0 a1 a2 e0 e1 e2 q0;go_wp2;go_roundw
        case rel=>exact⟨k+1,S9,by go_num,ae,O4,Ti,nL,aag,aah⟩
        case measure=>simp[intOf];omega
       ·have Am:=aa iR;have aah:Hid (∀z,z∈S'↔z∈S\/∃y∈c.n.take (k+1),∃b∈cs,b.1.v=y/\Fg c b.1 z):=aa (fun z=>by
         rw[XA.out z,uM HY.o];refine⟨.inl,fun h=>h.elim id ?_⟩;rintro⟨b',hb',hv,-⟩;exact absurd hv (hno _ hb'))
        clear iR hno hy;have rR:Hid (Below W8.heap.size W8 (W8.alloc (.cells #[.int .u32 0,.int .u64 0,.slice none 0 0] 181))):=aa ai;have nL:Hid (jv (W8.alloc (.cells #[.int .u32 0,.int .u64 0,.slice none 0 0] 181)) lb S'/\(W8.alloc (.cells #[.int .u32 0,.int .u64 0,.slice none 0 0] 181)).heap[qc]? = some (.cells #[.map (some lb)] 243)):=aa ⟨jD.o.1.kept (rR.o.block _ jD.o.1.lt),(rR.o.block _ (Array.getElem?_eq_some_iff.1 jD.o.2).1).trans jD.o.2⟩;have O4:Hid (cu prog 26 iT sG (W8.alloc (.cells #[.int .u32 0,.int .u64 0,.slice none 0 0] 181)) w.heap.size ib (fL cs) rs):=aa (Lx.o.kept (rR.o.block _ Lx.o.map.lt) (rR.o.block _ Lx.o.lt));have Ti:Hid (Below w.heap.size w (W8.alloc (.cells #[.int .u32 0,.int .u64 0,.slice none 0 0] 181))):=aa (y4.o.trans (rR.o.mono y4.o.size));have aag:Hid ((W8.alloc (.cells #[.int .u32 0,.int .u64 0,.slice none 0 0] 181)).heap[ab]? = some (.cells #[.int .u32 (c.v:Int),.int .u64 (c.k:Int),.slice (some ⟨g,0,none⟩) c.n.length nk] 181)/\ab≠lb):=aa ⟨(rR.o.block _ (Array.getElem?_eq_some_iff.1 I1.o.1).1).trans I1.o.1,I1.o.2⟩;clear XA rR a0 a1 a2;go_wp2_with (at_lookup;refine bX _ rfl _ _ _ _ rfl 181 cg dm Tryz.underlying241 (HZ.o _) w.heap.size _ rfl Lx.o.map y rfl HGY.o ?_;unfold pW;rw[Am.o];simp only[Option.map_none,Option.getD_none,Option.isSome_none]);go_roundw
        case rel=>exact⟨k+1,S',by go_num,ae,O4,Ti,nL,aag,aah⟩
        case measure=>simp[intOf];omega
      ·have FI:¬(k:Int)<(c.n.length:Int):=by omega
       have HPN:Hid (((dn++[(kv,(c,na,nk))])++rs).Perm (fL cs)):=aa (by
        refine List.Perm.trans ?_ HP.o;rw[List.append_assoc];exact(List.Perm.append_left dn (by simpa using HPP.o.symm)))
       have HZN:Hid (∀z,z∈S' ↔ ∃q∈dn++[(kv,(c,na,nk))],∃b∈cs,b.1.v∈q.2.1.n/\Fg q.2.1 b.1 z):=aa (fun z=>by
        rw[XA.out z,HZS.out z,List.take_of_length_le ae];constructor
        ·rintro(⟨q,hq,r⟩|⟨y,hy,b,hb,rfl,hm⟩)
         ·exact⟨q,List.mem_append.2 (.inl hq),r⟩
         ·exact⟨(kv,(c,na,nk)),List.mem_append.2 (.inr ah),b,hb,hy,hm⟩
        ·rintro⟨q,hq,b,hb,h1,h2⟩;rcases List.mem_append.1 hq with hq | hq
         ·exact .inl ⟨q,hq,b,hb,h1,h2⟩
         ·rw[List.mem_singleton]at hq;subst hq;exact .inr ⟨_,h1,b,hb,rfl,h2⟩)
       have PM:Hid (W8.rangeLeft w.heap.size ib<W5.rangeLeft w.heap.size ib):=aa (by have:=Xg.o;rw[Lx.o.left];omega);clear XA I1;go_wp2;go_roundw
       case rel=>exact⟨_,rs,S',Lx,y4,jD,HPN,HZN⟩
       case measure=>exact PM.o
end
end
section
open Go.RowKit Go.Maps
open Go.ChangeMaps (setBlock)
abbrev fD(w:World)(b:Nat)(S:List Nat):Prop:=bO prog 26 iT (fun _:Unit=>Value.bool true) w b (S.map fun x=>(x,()))
theorem O5:(prog.info? 181).map (fun i=>(i.zero,i.size,i.bytes))=some (some (.agg #[.int .u32 0,.int .u64 0,.slice none 0 0]),3,40):=by kernel_rfl
section
variable {w:World} {ops:Array Oper} {rest:List Oper} {op:Oper} {a:Act} {Q:Exit->Act->World->Prop}
theorem s8(hgd:op.guard=none)(s x:Operand)(ho:op.op=.call { callee:=.builtin .append,args:=#[s,x],argTypes:=#[174,174] })(base:Nat)(v:Value)(l:List kF)(hs:a.eval s=v)(hown:jW w base v l)(y:kF)(c:Nat)(hx:a.eval x=.slice (some ⟨w.heap.size,0,none⟩) 1 c)(hl:l.length<=100000)(hbase:base<=w.heap.size)(k:∀v' w',jW w' base v' (l++[y])->lq v (w.alloc (.cells #[.int .u32 (y.1.v:Int),.int .u64 (y.1.k:Int),.slice y.2.1 y.1.n.length y.2.2] 181)) w' v'->wpList prog ops Q rest (a.put op.dst v') w') :
 wpList prog ops Q (op::rest) a (w.alloc (.cells #[.int .u32 (y.1.v:Int),.int .u64 (y.1.k:Int),.slice y.2.1 y.1.n.length y.2.2] 181)):=by
 refine dO hgd s x 174 ho base 181 _ 3 40 Tryz.underlying174 O5 rfl af v l.length (iC l) hs (World.ownsRow.alloc hown _) ⟨w.heap.size,0,none⟩ 1 c [.int .u32 (y.1.v:Int),.int .u64 (y.1.k:Int),A6 y] hx rfl (fun j u hj=>?_) (by simp[Value.oneCell']) (by grind [maxLen]) ae (by simp;omega) (fun v' w' h1 h2=>k v' w' ?_ h2)
 ·rw[bG,Nat.zero_add];simp_all
 ·unfold jW;rw[A7,List.length_append];exact h1
end
section
variable {w0 w w' W W':World} {pb db n gb gen N ob ib vb rb:Nat} {o o' gL:ar} {d d' gw:Dsk} {L:aC} {es:List aF} {vs:List cr} {lv Jy:Value} {cs:List kF}
structure wY(n pb db:Nat)(w:World)(o:ar)(d:Dsk)(L:aC)(lv:Value)(cs:List kF)(W:World)(o':ar)(d':Dsk):Prop where
 mv:aw (fun _=>False) n pb db w o d W o' d' L
 row:jW W w.heap.size lv cs
 own:∀b,lv.ownBlock=some b->o' b=none
 kx:∀p∈cs,bF W w.heap.size (A6 p) p.1.n/\∀b,(A6 p).ownBlock=some b->o' b=none
theorem wY.below(h:wY n pb db w o d L lv cs W o' d')(hb:Below W.heap.size W W'):wY n pb db w o d L lv cs W' o' d':=
 ⟨h.mv.below hb,aW h.row hb,h.own,fun p hp=>⟨aW (h.kx p hp).1 hb,(h.kx p hp).2⟩⟩
theorem wY.moved(h:wY n pb db w o d L lv cs W o' d')(hm:aw (fun _=>False) n pb db W o' d' W' gL gw L):wY n pb db w o d L lv cs W' gL gw:=
 ⟨h.mv.trans hm (fun _ _ e=>e),hm.ownsRow h.row (fun b hb=>⟨h.own b hb,fun e=>e⟩),fun b hb=>hm.free (aL h.row b hb).1 (h.own b hb),
  fun p hp=>⟨hm.ownsRow (h.kx p hp).1 (fun b hb=>⟨(h.kx p hp).2 b hb,fun e=>e⟩),fun b hb=>hm.free (aL (h.kx p hp).1 b hb).1 ((h.kx p hp).2 b hb)⟩⟩
theorem wY.Ik(h:wY n pb db w o d L lv cs W o' d'){y:kF}{ob:Obj}(hr:jW W' w.heap.size Jy (cs++[y]))(ha:lq lv (W.alloc ob) W' Jy)(hy:bF W w.heap.size (A6 y) y.1.n)(hyo:∀b,(A6 y).ownBlock=some b->o' b=none):wY n pb db w o d L Jy (cs++[y]) W' o' d':=by
 obtain⟨hm,hf,hh,hz⟩:=ha.moved h.mv (fun x hx=>⟨h.own x hx,(aL h.row x hx).2⟩);have hk:∀p:kF,bF W w.heap.size (A6 p) p.1.n->bF W' w.heap.size (A6 p) p.1.n:=fun p hp=>
  bI hp (fun b hb=>hh b (aL hp b hb).1 (fun e=>j8 hp h.row af b hb e))
 refine⟨hm,hr,fun b hb=>(hf b hb).1,fun p hp=>?_⟩;grind [kx]
theorem Fk{vs:List cr}{k:Nat}:∀c∈(vs.zipIdx k).filterMap (fun p=>if p.1.r=4294967295 then some (oI es p.2 p.1) else none),k<=c.v/\c.v<k+vs.length:=by
 grind [oI]
theorem Lz(vs:List cr):∀k,(((vs.zipIdx k).filterMap (fun p=>if p.1.r=4294967295 then some (oI es p.2 p.1) else none)).map (·.v)).Pairwise (· < ·):=by
 induction vs with
 |nil=>simp
 |cons x vs ih=>
   intro k;rw[List.zipIdx_cons,List.filterMap_cons];split
   ·grind
   ·rename_i c hc
    rw[List.map_cons,List.pairwise_cons];refine⟨fun y hy=>?_,ih (k+1)⟩;obtain⟨z,hz,rfl⟩:=List.mem_map.1 hy;have h1:=(Fk z hz).1;simp only at hc;split at hc
    ·cases hc;assumption
    grind
theorem MP{v:Nat}(h:∀x∈es,x.t.toNat<N/\x.h.toNat<N):∀y∈cV es v,y<N:=by
 have FN:∀(l acc:List Nat)(y:Nat),y∈l.foldl iw acc->y∈acc\/y∈l:=by
  intro l;induction l with
  |nil=>simp
  |cons x l ih=>
    grind [OT]
 intro y hy;rw[AZ]at hy;rcases FN _ _ y hy with h1 | h1
 ·rcases FN _ _ y h1 with h2 | h2
  ·cases h2
  ·obtain⟨x,hx,rfl⟩:=List.mem_map.1 h2;grind [AU]
 ·obtain⟨x,hx,rfl⟩:=List.mem_map.1 h1;grind [MK]
noncomputable def kh(es:List aF)(vs:List cr)(j:Nat):List yX:=en es (vs.take j)
theorem I2(es:List aF)(vs:List cr){j:Nat}(h:vs.length<=j):kh es vs j=en es vs:=by grind [kh,List.take_of_length_le]
theorem uN(es:List aF)(vs:List cr){j:Nat}{x:cr}(h:vs[j]? = some x):kh es vs (j+1)=kh es vs j++if x.r=4294967295 then [oI es j x] else []:=by
 grind [kh,en,List.take_succ_eq_append_getElem]
theorem LA(es:List aF)(vs:List cr)(j:Nat):(kh es vs j).length<=(en es vs).length:=by
 grind [kh,en,List.take_append_drop]
theorem wY.pick(h:wY n pb db w o d L lv cs W o' d')(he:cs.map (·.1)=en es vs)(hn:∀x∈es,x.t.toNat<vs.length/\x.h.toNat<vs.length)(hv:vs.length<=1000)(hl:(en es vs).length<=24):pK W w.heap.size lv cs:=by
 have mo:∀p∈cs,p.1∈en es vs:=fun p hp=>by grind
 refine⟨h.row,fun p hp=>⟨aV (h.kx p hp).1 (Nat.zero_le _),fun y hy=>?_⟩,fun p hp=>?_,?_,?_⟩
 ·obtain⟨⟨x,i⟩,-,hq⟩:=List.mem_filterMap.1 (mo p hp);split at hq
  ·have hq:=Option.some.inj hq;rw[<- hq]at hy;have:=MP hn y hy;omega
  grind
 ·have:=(Fk _ (mo p hp)).2;omega
 ·have:=Lz (es:=es) vs 0;rw[show cs.map (·.1.v)=(cs.map (·.1)).map (·.v) by simp,he];exact this
 grind
end
end
section
open Go.RowKit Go.Maps
theorem gJ{b:Bool}{l:List aF}{e:aF}:e∈aK b l↔e∈l/\e.t≠e.h/\∀x∈l,same x e->rk e<=rk x:=by
 have h:=bU b l;refine⟨h.mem e,fun⟨h1,h2,h3⟩=>?_⟩;obtain⟨y,hy,hs⟩:=h.all e h1 h2;obtain⟨g1,-,g3⟩:=h.mem y hy;have h6:=JW (Nat.le_antisymm (g3 e h1 hs.symm) (h3 y g1 hs));rw[<- aF.ext' hs.1 hs.2 h6.1 h6.2];exact hy
theorem DG(b b':Bool)(l:List aF):aK b (aK b' l)=aK b l:=((bU b' l).trans (bU b _)).unique (bU b l)
theorem Tj(l:List Nat):∀(acc:List Nat)(y:Nat),y∈l.foldl (fun a x=>if x∈a then a else a++[x]) acc↔y∈acc\/y∈l:=by
 induction l with
 |nil=>simp
 |cons x l ih=>
   grind
theorem nd{es:List aF}{v:Nat}{x:aF}:x∈aY es v↔x∈aK false es/\x.t.toNat=v:=by
 grind [aY,H9,fT]
theorem s9{es:List aF}{v:Nat}{x:aF}:x∈fB es v↔x∈aK false es/\x.h.toNat=v:=by
 grind [fB,H9,fT,gJ]
theorem A8{es:List aF}{v w:Nat}:w∈cV es v ↔ ∃x∈aK false es,x.t.toNat=v/\x.h.toNat=w\/x.h.toNat=v/\x.t.toNat=w:=by
 grind [cV,SL,Tj,nd,s9]
theorem DI{es:List aF}{v:Nat}:v ∉ cV es v:=fun h=>by
 grind [A8,gJ,UInt32.toNat_inj]
theorem I3:∀cs:List yX,cs≠[]->∃a∈cs,∀b∈cs,¬gD b a:=by
 intro cs;induction cs with
 |nil=>simp
 |cons x cs ih=>
   intro _;by_cases e:cs=[]
   ·subst e;exact⟨x,ah,fun b hb=>by grind [gD]⟩
   grind [gD]
theorem A9{cs:List yX}{v:Nat}:v∈kX cs↔(∃c∈cs,c.v=v)/\¬AR cs v:=by
 grind [kX]
theorem V3{cs:List yX}(hn:∀a∈cs,∀b∈cs,a.v=b.v->a=b)(h:cs≠[]):kX cs≠[]:=by
 obtain⟨a,ha,hl⟩:=I3 cs h;have:a.v∈kX cs:=by
  rw[A9];refine⟨⟨a,ha,rfl⟩,?_⟩;rintro⟨x,hx,y,hy,-,hne,⟨h1,h2⟩|⟨h1,h2⟩⟩
  ·grind
  grind [gD]
 grind
theorem LB{cs:List yX}{a b:yX}(ha:a∈cs)(hb:b∈cs)(h1:a.v∈kX cs)(h2:b.v∈kX cs)(hne:a.v≠b.v):b.v ∉ a.n:=fun hn=>by
 rw[A9]at h1 h2;by_cases h:gD a b
 ·exact h2.2 ⟨a,ha,b,hb,hn,hne,.inl ⟨h,rfl⟩⟩
 ·exact h1.2 ⟨a,ha,b,hb,hn,hne,.inr ⟨h,rfl⟩⟩
theorem uO{es:List aF}{vs:List cr}{c:yX}:c∈en es vs ↔ ∃(i:Nat)(x:cr),vs[i]? = some x/\x.r=4294967295/\c=oI es i x:=by
 unfold en;rw[List.mem_filterMap];constructor
 ·grind
 ·rintro⟨i,x,hx,hr,rfl⟩;exact⟨(x,i),by grind,by grind⟩
theorem Tk{es:List aF}{vs:List cr}:∀a∈en es vs,∀b∈en es vs,a.v=b.v->a=b:=by
 intro a ha b hb e;obtain⟨i,x,h1,-,rfl⟩:=uO.1 ha;obtain⟨j,y,h2,-,rfl⟩:=uO.1 hb;have e:i=j:=e;grind
theorem iQ{es:List aF}{vs:List cr}{v:Nat}(h:v∈aD es vs):∃x,vs[v]? = some x/\x.r=4294967295/\oI es v x∈en es vs:=by
 obtain⟨⟨c,hc,rfl⟩,-⟩:=A9.1 h;obtain⟨i,x,h1,h2,rfl⟩:=uO.1 hc;exact⟨x,h1,h2,hc⟩
theorem jX{es:List aF}{vs:List cr}{v:Nat}(h:v∈aD es vs):v<vs.length:=by
 grind [iQ]
theorem pM{es:List aF}{vs:List cr}{v w:Nat}(hv:v∈aD es vs)(hw:w∈aD es vs):w ∉ cV es v:=by
 by_cases e:v=w
 ·grind [DI]
 ·obtain⟨x,-,-,hx⟩:=iQ hv;obtain⟨y,-,-,hy⟩:=iQ hw;exact LB hx hy hv hw e
theorem kG(es:List aF)(vs:List cr):(aD es vs).Pairwise (· < ·):=by
 have key:∀(vs:List cr)(k:Nat),(((vs.zipIdx k).filterMap fun p=>if p.1.r=4294967295 then some (oI es p.2 p.1) else none).map (·.v)).Pairwise (· < ·)/\∀v∈((vs.zipIdx k).filterMap fun p=>if p.1.r=4294967295 then some (oI es p.2 p.1) else none).map (·.v),k<=v:=by
  intro vs;induction vs with
  |nil=>simp
  |cons x vs ih=>
    intro k;obtain⟨h1,h2⟩:=ih (k+1);rw[List.zipIdx_cons,List.filterMap_cons];by_cases hx:x.r=4294967295
    ·simp only[hx,if_true,List.map_cons,List.pairwise_cons,List.mem_cons];refine⟨⟨fun y hy=>?_,h1⟩,?_⟩
     ·have:=h2 y hy;assumption
     ·rintro y (rfl | hy)
      ·simp
      grind
    grind
 grind [aD,kX,en]
theorem O6{es:List aF}{vs:List cr}{i:Nat}{x:cr}(h:vs[i]? = some x)(hx:x.r=4294967295):aD es vs≠[]:=
 V3 Tk (fun e=>by
  have:=(uO (es:=es)).2 ⟨i,x,h,hx,rfl⟩;grind)
theorem LC{es:List aF}{vs:List cr}(h:∀(i:Nat)(x:cr),vs[i]? = some x->x.r≠4294967295):aD es vs=[]:=by
 cases e:aD es vs with
 |nil=>rfl
 |cons v l=>
   obtain⟨x,h1,h2,-⟩:=iQ (es:=es) (vs:=vs) (v:=v) (by grind);grind
theorem Fl(lv:UInt32)(vs:List cr)(w:Nat):(kE lv vs w).length=vs.length:=by grind [kE]
theorem DJ(lv:UInt32)(vs:List cr)(w u:Nat):(kE lv vs w)[u]? = if w=u then (vs[u]?).map (fun x=>⟨x.r,if x.l<lv then lv else x.l,x.g+1⟩) else vs[u]? := by
 grind [kE]
theorem Fm(lv:UInt32)(l:List Nat):∀vs:List cr,(l.foldl (kE lv) vs).length=vs.length:=by
 induction l with
 |nil=>simp
 |cons w l ih=>grind [Fl]
theorem V4(lv:UInt32)(l:List Nat)(u:Nat):∀vs:List cr,((l.foldl (kE lv) vs)[u]?).map (·.r)=(vs[u]?).map (·.r):=by
 induction l with
 |nil=>simp
 |cons w l ih=>
   grind [DJ]
theorem ye(lv:UInt32)(l:List Nat)(u:Nat)(h:u ∉ l):∀vs:List cr,(l.foldl (kE lv) vs)[u]? = vs[u]? := by
 induction l with
 |nil=>simp
 |cons w l ih=>
   grind [DJ]
section
variable {es:List aF} {was vs:List cr} {done gen i v u:Nat}
theorem I4:(fW es was done gen vs i v).length=vs.length:=by grind [fW,Fm]
theorem aai(h:u≠v):((fW es was done gen vs i v)[u]?).map (·.r)=(vs[u]?).map (·.r):=by
 grind [fW,V4]
theorem Ba(h:u≠v)(hn:u ∉ cV es v):(fW es was done gen vs i v)[u]? = vs[u]? := by
 grind [fW,ye]
theorem Tl:(fW es was done gen vs i v)[v]? = (vs[v]?).map fun x=>⟨UInt32.ofNat (done+i),UInt32.ofNat (gen+1),x.g⟩:=by
 grind [fW,ye,DI]
theorem Fo(ch:List Nat):∀(k:Nat)(vs:List cr),((ch.zipIdx k).foldl (fun vs p=>fW es was done gen vs p.2 p.1) vs).length=vs.length:=by
 induction ch with
 |nil=>simp
 |cons v ch ih=>grind [List.zipIdx_cons,I4]
theorem V5{ch:List Nat}(h:u ∉ ch):∀(k:Nat)(vs:List cr),(((ch.zipIdx k).foldl (fun vs p=>fW es was done gen vs p.2 p.1) vs)[u]?).map (·.r)=(vs[u]?).map (·.r):=by
 induction ch with
 |nil=>simp
 |cons v ch ih=>grind [List.zipIdx_cons,aai]
theorem I5{ch:List Nat}(h:u ∉ ch)(hn:∀v∈ch,u ∉ cV es v):∀(k:Nat)(vs:List cr),((ch.zipIdx k).foldl (fun vs p=>fW es was done gen vs p.2 p.1) vs)[u]? = vs[u]? := by
 induction ch with
 |nil=>simp
 |cons v ch ih=>grind [List.zipIdx_cons,Ba]
theorem O7{ch:List Nat}(hr:ch.Pairwise (· < ·))(hn:∀v∈ch,u ∉ cV es v):∀(k:Nat)(vs:List cr),ch[i]? = some u->((ch.zipIdx k).foldl (fun vs p=>fW es was done gen vs p.2 p.1) vs)[u]? = (vs[u]?).map fun x=>⟨UInt32.ofNat (done+(k+i)),UInt32.ofNat (gen+1),x.g⟩:=by
 induction ch generalizing i with
 |nil=>simp
 |cons v ch ih=>
   intro k vs h;rw[List.pairwise_cons]at hr;rw[List.zipIdx_cons,List.foldl_cons];cases i with
   |zero=>
     cases h;rw[I5 (fun e=>by grind) (fun x hx=>hn x (by grind)),Tl];rfl
   |succ i=>
     rw[List.getElem?_cons_succ]at h;rw[ih hr.2 (fun x hx=>hn x (by grind)) (k+1) _ h,Ba (fun e=>by have:=hr.1 _ (List.mem_of_getElem? h);omega) (hn v ah),show k+1+i=k+(i+1) by omega]
end
section
variable {es:List aF} {was:List cr} {done gen i u:Nat}
theorem Fp(ch:List Nat):(dP es was done gen ch).length=was.length:=Fo ch 0 was
theorem y5{ch:List Nat}(h:u ∉ ch):((dP es was done gen ch)[u]?).map (·.r)=(was[u]?).map (·.r):=V5 h 0 was
theorem DK(h:(aD es was)[i]? = some u):(dP es was done gen (aD es was))[u]? = (was[u]?).map fun x=>⟨UInt32.ofNat (done+i),UInt32.ofNat (gen+1),x.g⟩:=by
 have:=O7 (es:=es) (was:=was) (done:=done) (gen:=gen) (i:=i) (u:=u) (kG es was) (fun v hv=>pM hv (List.mem_of_getElem? h)) 0 was h;rw[Nat.zero_add]at this;exact this
end
def jx(vs:List cr)(i:Nat):Bool:=match vs[i]? with
 |some x=>x.r != 4294967295
 |none=>false
structure pV(N:Nat)(es:List aF)(vs:List cr)(done:Nat):Prop where
 len:vs.length=N
 top:N<=1000
 ends:∀x∈es,∃a b,vs[x.t.toNat]? = some a/\vs[x.h.toNat]? = some b/\a.r=4294967295/\b.r=4294967295
 low:∀(i:Nat)(x:cr),vs[i]? = some x->x.r≠4294967295->x.r.toNat<done
 one:∀(i j:Nat)(x y:cr),vs[i]? = some x->vs[j]? = some y->x.r≠4294967295->x.r=y.r->i=j
 count:((List.range N).filter (jx vs)).length=done
theorem yf{l:List Nat}{p q r:Nat->Bool}(hr:∀x∈l,r x=(p x || q x))(hd:∀x∈l,p x=true->q x=true->False):(l.filter r).length=(l.filter p).length+(l.filter q).length:=by
 induction l with
 |nil=>rfl
 |cons a l ih=>
   grind
theorem LD{ch:List Nat}{N:Nat}(hr:ch.Pairwise (· < ·))(hl:∀v∈ch,v<N):(List.range N).filter (fun v=>decide (v∈ch))=ch:=
 Gj (f:=id) (List.pairwise_lt_range.filter _) hr (fun x=>by grind)
section
variable {N done gen:Nat} {es:List aF} {vs:List cr}
theorem pV.rJ(h:pV N es vs done):done<=N:=by
 have:=List.length_filter_le (jx vs) (List.range N);grind [count]
theorem Bb{es:List aF}{ch:List Nat}{x:aF}:x∈gF es ch↔x∈aK false es/\x.t.toNat ∉ ch/\x.h.toNat ∉ ch:=by
 grind [gF]
theorem MQ{E:Nat->List aF}{A:Nat->Bool}{ins:List aF}{v:UInt32}{y:aF}(h:y∈oH E A ins v):∃a∈ins,∃b∈E v.toNat,y=⟨a.t,b.h,UInt64.ofNat (a.x.toNat+b.x.toNat),v⟩/\a.t≠b.h/\A a.t.toNat=false/\A b.h.toNat=false/\a.x.toNat+b.x.toNat<9223372036854775808/\∀x∈E a.t.toNat,x.h.toNat=b.h.toNat->a.x.toNat+b.x.toNat<x.x.toNat:=by
 grind [oH,jF]
theorem I6{ch:List Nat}{x:aF}(h:x∈fK es ch):x.t.toNat ∉ ch/\x.h.toNat ∉ ch/\(∃y∈aK false es,y.t=x.t)/\∃y∈aK false es,y.h=x.h:=by
 grind [fK,Bb,iH,MQ,s9,nd]
theorem jY{i:Nat}:jx vs i=true ↔ ∃x,vs[i]? = some x/\x.r≠4294967295:=by
 grind [jx]
theorem pV.next(h:pV N es vs done)(hd:done+(aD es vs).length<=1000):pV N (aK false (fK es (aD es vs))) (dP es vs done gen (aD es vs)) (done+(aD es vs).length):=by
 have hr:∀u,u ∉ aD es vs->∀y,(dP es vs done gen (aD es vs))[u]? = some y->∃x,vs[u]? = some x/\x.r=y.r:=fun u hu y hy=>by
  grind [y5]
 have ho:∀u,u∈aD es vs->∀y,(dP es vs done gen (aD es vs))[u]? = some y->∃i,(aD es vs)[i]? = some u/\y.r=UInt32.ofNat (done+i)/\i<(aD es vs).length:=fun u hu y hy=>by
  obtain⟨i,hi,e⟩:=List.getElem_of_mem hu;have hi':(aD es vs)[i]? = some u:=by grind
  grind [DK]
 have Ud:∀i,i<(aD es vs).length->(UInt32.ofNat (done+i)).toNat=done+i:=fun i hi=>by grind [UInt32.toNat_ofNat']
 refine⟨by rw[Fp,h.len],h.top,fun x hx=>?_,fun i y hy hn=>?_,fun i j x y hi hj hn e=>?_,?_⟩
 ·obtain⟨h1,h2,⟨y,hy,ey⟩,⟨z,hz,ez⟩⟩:=I6 (gJ.1 hx).1;grind [ends,gJ,y5]
 ·by_cases hc:i∈aD es vs
  ·grind
  ·obtain⟨x,hx,e⟩:=hr i hc y hy;have:=h.low i x hx (by grind);grind
 ·by_cases hc:i∈aD es vs<;>by_cases hc':j∈aD es vs
  ·grind
  ·obtain⟨k,hk,e1,BK⟩:=ho i hc x hi;obtain⟨z,hz,e2⟩:=hr j hc' y hj;have:=h.low j z hz (by grind);grind
  ·obtain⟨k,hk,e1,BK⟩:=ho j hc' y hj;obtain⟨z,hz,e2⟩:=hr i hc x hi;have:=h.low i z hz (by grind);grind
  grind [one]
 ·have key:=yf (l:=List.range N) (p:=jx vs) (q:=fun v=>decide (v∈aD es vs)) (r:=jx (dP es vs done gen (aD es vs))) (fun i hi=>?_) (fun i hi h1 h2=>?_)
  ·rw[key,h.count,LD (kG es vs) (fun v hv=>by rw[<- h.len];exact jX hv)]
  ·by_cases hc:i∈aD es vs
   ·obtain⟨k,hk,e⟩:=List.getElem_of_mem hc;have BK:(aD es vs)[k]? = some i:=by grind
    have:=DK (done:=done) (gen:=gen) BK;obtain⟨x,hx,-⟩:=iQ hc;rw[hx]at this;have h2:jx (dP es vs done gen (aD es vs)) i=true:=by
     rw[jY];refine⟨_,this,fun e=>?_⟩;have e:UInt32.ofNat (done+k)=4294967295:=e;have:=congrArg UInt32.toNat e;grind
    grind
   grind [jY,y5]
  grind [jY,iQ]
theorem pV.all(h:pV N es vs done):aD es vs=[]↔done=N:=by
 constructor
 ·intro e;have:(List.range N).filter (jx vs)=List.range N:=by
   rw[List.filter_eq_self];intro i hi;rw[List.mem_range]at hi;rw[jY];have hi':i<vs.length:=by grind [len]
   refine⟨vs[i],List.getElem?_eq_getElem hi',fun e2=>?_⟩;exact O6 (es:=es) (List.getElem?_eq_getElem hi') e2 e
  grind [count]
 ·intro e;refine LC fun(i:Nat)(x:cr)hx hn=>?_;have hi:=aN hx;have h1:(List.range N).filter (jx vs)=List.range N:=List.filter_sublist.eq_of_length (by grind [count]);rw[List.filter_eq_self]at h1;obtain⟨y,hy,hy'⟩:=jY.1 (h1 i (List.mem_range.2 (by grind [len])));grind
end
end
section
open Go.RowKit Go.Maps
open Go.ChangeMaps (setBlock)
section
variable {w0 w w' W W':World} {pb db n gb gen N ob ib vb rb done base:Nat} {o o' gL:ar} {d d' gw:Dsk} {L:aC} {es:List aF} {vs:List cr} {lv Jy vv x4 x5:Value} {cs:List kF}
def td(n pb db:Nat)(w:World)(o:ar)(d:Dsk)(L:aC)(rb gb gen done:Nat)(vv:Value)(ch:List Nat)(e:Ending)(w':World):Prop:=
 ∃mb ov S d' o',e=.returned (.int .i64 0)/\aw (·=rb) n pb db w o d w' o' d' L/\dx w' rb pb gb gen done (.map (some mb)) ov vv/\bF w' w.heap.size ov ch/\(∀b,ov.ownBlock=some b->o' b=none)/\fD w' mb S/\w.heap.size<=mb/\o' mb=none/\∀z,z∈S↔z∈ch
theorem jy{w:World}{base g cap i:Nat}{l:List cr}{x:cr}(h:dM w base (.slice (some ⟨g,0,none⟩) l.length cap) l)(hi:l[i]? = some x) :
 w.cell? ⟨g,i*3,none⟩=some (.int .u32 (x.r.toNat:Int))/\w.cell? ⟨g,i*3+1,none⟩=some (.int .u32 (x.l.toNat:Int))/\w.cell? ⟨g,i*3+2,none⟩=some (.int .u32 (x.g.toNat:Int)):=by
 have hc:∀(j:Nat)(u:Value),(cK l)[j]? = some u->w.cell? ⟨g,j,none⟩=some u:=fun j u hj=>by
  have:=World.ownsRow.cells h (g:=g) rfl j u hj;grind [bG]
 refine⟨hc _ _ ?_,hc _ _ ?_,hc _ _ ?_⟩
 ·have:=iG hi (j:=0) af;grind
 ·rw[iG hi af];rfl
 ·rw[iG hi af];rfl
theorem V6(i o s:Nat)(x:cr):SD (i:Int) (o:Int) (s:Int) (x.l.toNat:Int) (x.g.toNat:Int)=(SM i o s x:Int):=by
 grind [SM,SD]
theorem yO(HW:aQ)(h:fH w0 w pb db n o d L gb gen vs.length ob ib vb es)(hr:dx w rb pb gb gen done x4 x5 vv)(hro:qX w0 w o rb gb ob ib vb)(hvv:dM w base vv vs)(mm:∀b,vv.ownBlock=some b->o b=none)(wR:∀v,v<vs.length->(fB es v).length*(aY es v).length<=100000)(hlen:(en es vs).length<=24) :
 Calls prog 64 #[ptrTo rb] w (td n pb db w o d L rb gb gen done vv (aD es vs)):=by
 obtain⟨va,vk,rfl⟩:=az hvv;have H:=aa h;have HR:=aa hr;have GV:=aa hro;have HVV:=aa hvv;have vQ:=aa mm;have HD:=aa wR;have HLEN:=aa hlen;have vG:∀(t:TypeId)(W:World),(Instr.makeMap t none).run prog W=.ok (.map (some W.heap.size)) (W.alloc (.map #[] 0)):=fun _ _=>rfl;obtain⟨R,hR⟩:∃R,R=td n pb db w o d L rb gb gen done (.slice va vs.length vk) (aD es vs):=⟨_,rfl⟩;have S2:=aa hR;rw[<- hR];obtain⟨M,hM⟩:∃M,M=vs.length:=⟨_,rfl⟩;have HM:Hid (M=vs.length/\M<=1000):=aa ⟨hM,by rw[hM];exact h.top⟩;have EG:Hid (wY n pb db w o d L (.slice none 0 0) [] w o d):=aa ⟨aw.refl _ h.held.aX,World.ownsRow_nil _ _ _ _,(fun b e=>by cases e),fun p hp=>by cases hp⟩;obtain⟨c0,c1,c2,c3,c4,c5,c6,f6⟩:=hr.cells;have Jk:=hr.lt;rw[<- hM]at c6;clear h hr hro hvv mm wR hlen hR hM c0 c2 c3 c4 c5;unfold ptrTo at *;go_enter func64,ntmps64;go_wp2_with fail;clear c1 c6 f6;go_loopw [3,18] (fun lv vi wr=>∃(j:Nat)(cs:List kF)(o':ar)(d':Dsk),vi=.int .i64 (j:Int)/\j<=M/\Hid (cs.map (·.1)=kh es vs j)/\Hid (wY n pb db w o d L lv cs wr o' d')) (fun _ vi _=>M-(intOf vi).toNat)
 case atStart=>exact⟨0,[],o,d,rfl,Nat.zero_le _,aa rfl,EG⟩
 case round=>
  generalize u3=lv at *;obtain⟨j,cs,o1,d1,rfl,hj,HCS,HS⟩:=hrel;clear EG;generalize wr=W1 at *;by_cases hlt:j<M
  ·have Jr:(j:Int)<(M:Int):=by omega
   have wj:IntKind.i64.wrap ((j:Int)+1)=((j+1:Nat):Int):=by grind [Hid.out,ax]
   have wu:IntKind.u32.wrap (j:Int)=(j:Int):=by grind [Hid.out,eW]
   obtain⟨x,hx⟩:∃x,vs[j]? = some x:=⟨_,List.getElem?_eq_getElem (by grind [Hid.out])⟩;have HX:=aa hx;obtain⟨g,rfl⟩:∃g,va=some ⟨g,0,none⟩:=by
    obtain⟨-,⟨h1,h2⟩|⟨g,_,_,h1,_⟩⟩:=HVV.o
    ·grind
    grind
   have hrow:dM W1 base (.slice (some ⟨g,0,none⟩) vs.length vk) vs:=HS.out.mv.ownsRow HVV.o (fun b hb=>⟨vQ.o b hb,fun e=>e⟩);obtain⟨q0,q1,q2⟩:=jy hrow hx;clear hrow hx;have eM:=aa (HS.out.below (aj.alloc (Nat.le_refl _) (.cells #[.int .u32 (x.r.toNat:Int),.int .u32 (x.l.toNat:Int),.int .u32 (x.g.toNat:Int)] 55)));by_cases hrk:(x.r.toNat:Int)=4294967295
   ·have hkb:((x.r.toNat:Int) == 4294967295)=true:=by grind
    have HK:=aa (show x.r=4294967295 from UInt32.toNat_inj.1 (by grind));clear hrk;obtain⟨V,hV⟩:∃V,V=UInt32.ofNat j:=⟨_,rfl⟩;have hVj:V.toNat=j:=by grind [UInt32.toNat_ofNat',Hid.out]
    have HV:=aa (show V=UInt32.ofNat j/\V.toNat=j from⟨hV,hVj⟩);have Co:Hid (dx (W1.alloc (.cells #[.int .u32 (x.r.toNat:Int),.int .u32 (x.l.toNat:Int),.int .u32 (x.g.toNat:Int)] 55)) rb pb gb gen done x4 x5 (.slice (some ⟨g,0,none⟩) vs.length vk)):=aa (HR.o.moved GV.o.free eM.o.mv);have cX:Hid ((W1.alloc (.cells #[.int .u32 (x.r.toNat:Int),.int .u32 (x.l.toNat:Int),.int .u32 (x.g.toNat:Int)] 55)).heap[W1.heap.size]? = some (.cells #[.int .u32 (x.r.toNat:Int),.int .u32 (x.l.toNat:Int),.int .u32 (x.g.toNat:Int)] 55)/\o1 W1.heap.size=none):=aa ⟨heap_alloc_new _ _,HS.out.mv.aX.fresh (Nat.le_refl _)⟩;have WU:Hid (o1 rb=none):=aa (HS.out.mv.free GV.o.lt GV.o.free);clear hV HS;go_wp2_with fail;obtain⟨xb,FK⟩:∃b,b=W1.heap.size:=⟨_,rfl⟩;rw[<- FK]at cX;rw[<- FK];generalize W1.alloc (.cells #[.int .u32 (x.r.toNat:Int),.int .u32 (x.l.toNat:Int),.int .u32 (x.g.toNat:Int)] 55)=W2 at *;clear FK q0 q1 q2;have HC:Hid (∀W',(∃o' d',aw (fun _=>False) n pb db W2 o1 d1 W' o' d' L)->Calls prog 97 #[uK gb,Fa gb,.int .u32 (j:Int)] W' fun e w''=>e=.returned (.tuple #[.int .i64 ((fB es j).length:Int),.int .i64 ((aY es j).length:Int),.int .i64 ((oH (aY es) (fun _=>false) (fB es j) V).length:Int),.int .i64 0])/\∃o' d',aw (fun _=>False) n pb db W2 o1 d1 w'' o' d' L):=aa (by
     rintro W'⟨o',d',hm⟩;have:=IQ HW ((H.o.moved eM.o.mv).moved hm) V (by rw[HV.o.2];have:=HM.o;omega) (by rw[HV.o.2];exact HD.o j (by have:=HM.o;omega));rw[HV.o.2]at this;refine this.mono ?_;rintro e w''⟨gw,gL,rfl,hm'⟩;exact⟨rfl,gL,gw,hm.trans hm' (fun _ _ e=>e)⟩)
    have HCE:Hid (∀W',(∃o' d',aw (fun _=>False) n pb db W2 o1 d1 W' o' d' L)->W'.cell? ⟨rb,1,none⟩=some (ptrTo gb)):=aa (by
     rintro W'⟨o',d',hm⟩;exact(Co.o.moved WU.o hm).cells.2.1)
    unfold uK Fa ptrTo at *;refine cQ (fun W'=>∃o' d',aw (fun _=>False) n pb db W2 o1 d1 W' o' d' L) (by rfl) ag ⟨o1,d1,(aw.refl _ eM.o.mv.aX).drew⟩ ?_;iterate 3 (refine qz ?_)
    refine qz ?_ (fun w' hw'=>by have hc:=HCE.o _ hw';go_simp<;>rfl);iterate 4 (refine qz ?_)
    refine qz ?_ (fun w' hw'=>by have hc:=HCE.o _ hw';go_simp<;>rfl);iterate 2 (refine qz ?_)
    refine qz ?_ (fun w' hw'=>by have hx:=wu;go_simp<;>rfl);refine qw (fun w' hw'=>HC.o _ hw') ?_;iterate 9 (refine qz ?_)
    refine wpQuiet_nil ?_;rintro W3⟨o3,d3,eA⟩;have fy:=aa (eM.o.moved eA);have Br:Hid (dx W3 rb pb gb gen done x4 x5 (.slice (some ⟨g,0,none⟩) vs.length vk)/\o3 rb=none):=aa ⟨Co.o.moved WU.o eA,eA.free Co.o.lt WU.o⟩;have jC:Hid (W3.heap[xb]? = some (.cells #[.int .u32 (x.r.toNat:Int),.int .u32 (x.l.toNat:Int),.int .u32 (x.g.toNat:Int)] 55)/\o3 xb=none):=aa ⟨eA.heap cX.o.1 cX.o.2 (fun e=>e),eA.free (Array.getElem?_eq_some_iff.1 cX.o.1).1 cX.o.2⟩;have XM:=aa (IU HW ((H.o.moved eM.o.mv).moved eA) j (by have:=HM.o;omega) Br.o.1 rfl Br.o.2);clear HC HCE eM Co cX WU eA;have XN:Hid (oI es j x=⟨j,SM (fB es j).length (aY es j).length (oH (aY es) (fun _=>false) (fB es j) V).length x,cV es j⟩):=aa (by unfold oI;rw[<- HV.o.1]);generalize (fB es j).length=n1 at *;generalize (aY es j).length=n2 at *;generalize (oH (aY es) (fun _=>false) (fB es j) V).length=n3 at *;unfold ptrTo at *;go_wp2_with fail;refine XM.o.mono ?_;rintro e w4⟨nv,d4,o4,rfl,eC,hr4,Bl⟩;obtain⟨na,nk,rfl⟩:=az hr4;have gj:=aa (fy.o.moved eC);have VZ:Hid (bF w4 w.heap.size (.slice na (cV es j).length nk) (cV es j)/\∀b,(Value.slice na (cV es j).length nk).ownBlock=some b->o4 b=none):=aa ⟨aV hr4 fy.o.mv.size,Bl⟩;have hb4:=eC.heap jC.o.1 jC.o.2 (fun e=>e);have k0:w4.cell? ⟨xb,0,none⟩=some (.int .u32 (x.r.toNat:Int)):=by rw[aq hb4];rfl
    have k1:w4.cell? ⟨xb,1,none⟩=some (.int .u32 (x.l.toNat:Int)):=by rw[aq hb4];rfl
    have k2:w4.cell? ⟨xb,2,none⟩=some (.int .u32 (x.g.toNat:Int)):=by rw[aq hb4];rfl
    have hkey:=aa (fun W=>Ix (n1:Int) (n2:Int) (n3:Int) (x.r.toNat:Int) (x.l.toNat:Int) (x.g.toNat:Int) W ae (by have:=x.l.toNat_lt;omega) ae (by have:=x.g.toNat_lt;omega));rw[V6]at hkey;clear XM eC hr4 Bl hb4 fy Br jC;generalize SM n1 n2 n3 x=K at *;have apY:Hid ((cs++[((⟨j,K,cV es j⟩:yX),(na,nk))]).map (·.1)=kh es vs (j+1)):=aa (by
     rw[uN es vs HX.o,if_pos HK.o,XN.o,List.map_append,HCS.out];rfl)
    have Ml:Hid (cs.length<=100000):=aa (by
     have h1:=LA es vs j;rw[<- HCS.out,List.length_map]at h1;have:=HLEN.o;omega)
    go_wp2_with fail;refine(hkey.o _).mono ?_;rintro e w5⟨rfl,nT⟩;have b8:=aa (gj.o.below nT);have OB:Hid (bF w5 w.heap.size (.slice na (cV es j).length nk) (cV es j)/\∀b,(Value.slice na (cV es j).length nk).ownBlock=some b->o4 b=none):=aa ⟨aW VZ.o.1 nT,VZ.o.2⟩;obtain⟨la,lk,rfl⟩:=az b8.o.row;clear nT gj VZ XN HCS k0 k1 k2 hkey;go_wp2_with (at_builtin;go_loud (refine s8 rfl _ _ rfl w.heap.size _ cs rfl b8.o.row ((⟨j,K,cV es j⟩:yX),(na,nk)) 1 (by rfl) Ml.o b8.o.mv.size ?_);intro v6 w6 h6 ha;have gu:=aa (b8.o.Ik h6 ha OB.o.1 OB.o.2);clear h6 ha);grind [intOf]
   ·have aj1:Hid (cs.map (·.1)=kh es vs (j+1)):=aa (by
     rw[uN es vs HX.o,if_neg (fun e=>hrk (by simp_all)),List.append_nil];assumption)
    clear HS HCS HX;go_wp2_with fail;go_roundw
    case rel=>exact⟨j+1,cs,o1,d1,by go_num,ae,aj1,eM⟩
    case measure=>simp[intOf];omega
  ·have Jr:¬(j:Int)<(M:Int):=by omega
   have HCF:Hid (cs.map (·.1)=en es vs):=aa (by grind [Hid.out,I2]);have MR:=aa (Th (HS.out.pick HCF.o H.o.ends (by grind [Hid.out]) HLEN.o));rw[HCF.o]at MR;obtain⟨CH,hCH⟩:∃l,l=aD es vs:=⟨_,rfl⟩;rw[show kX (en es vs)=CH from hCH.symm]at MR;obtain⟨KN,Jt⟩:∃k,k=CH.length:=⟨_,rfl⟩;have HKN:Hid (KN=CH.length/\KN<=24/\∀y∈CH,y<4294967296):=aa (by
    refine⟨Jt,?_,fun y hy=>?_⟩
    ·grind [aD,kX,Hid.out]
    ·rw[hCH]at hy;unfold aD kX at hy;obtain⟨c,hc,rfl⟩:=List.mem_map.1 (List.mem_filter.1 hy).1;have:=(Fk _ hc).2;grind [Hid.out])
   have XO:=aa hCH;have QX:Hid (o1 rb=none):=aa (HS.out.mv.free GV.o.lt GV.o.free);have nu:Hid (dx W1 rb pb gb gen done x4 x5 (.slice va vs.length vk)/\o1 rb=none):=aa ⟨HR.o.moved GV.o.free HS.out.mv,HS.out.mv.free GV.o.lt GV.o.free⟩;have PI:=aa HS.out.mv;obtain⟨la,lk,rfl⟩:=az HS.out.row;clear HCS HCF HS hCH;go_wp2_with fail;refine MR.o.mono ?_;rintro e w2⟨ov,rfl,hb2,hr2⟩;have Co:=aa (nu.o.1.below hb2);have V7:=aa (PI.o.below hb2);obtain⟨oa,ok,rfl⟩:=az hr2;rw[<- Jt];have p7:Hid (bF w2 w.heap.size (.slice oa KN ok) CH/\∀b,(Value.slice oa KN ok).ownBlock=some b->o1 b=none/\b<w2.heap.size/\w.heap.size<=b):=aa (by
    rw[Jt];exact⟨aV hr2 PI.o.size,fun b hb=>⟨PI.o.aX.fresh (aL hr2 b hb).2,(aL hr2 b hb).1,Nat.le_trans PI.o.size (aL hr2 b hb).2⟩⟩)
   obtain⟨c0,c1,c2,c3,c4,c5,c6,f6⟩:=Co.o.cells;have f5:=f6 5;have f4:=f6 4;have aj2:=Co.o.lt;clear Jt hb2 hr2 nu PI MR c0 c1 c2 c3 c6 f6;have fM:o1 rb=none:=QX.o;have Oh:Hid (dx (((w2.setCell ⟨rb,5,none⟩ (.slice oa KN ok)).setCell ⟨rb,4,none⟩ (.map (some w2.heap.size))).alloc (.map #[] 0)) rb pb gb gen done (.map (some w2.heap.size)) (.slice oa KN ok) (.slice va vs.length vk)/\aw (·=rb) n pb db w o d (((w2.setCell ⟨rb,5,none⟩ (.slice oa KN ok)).setCell ⟨rb,4,none⟩ (.map (some w2.heap.size))).alloc (.map #[] 0)) o1 d1 L/\bF (((w2.setCell ⟨rb,5,none⟩ (.slice oa KN ok)).setCell ⟨rb,4,none⟩ (.map (some w2.heap.size))).alloc (.map #[] 0)) w.heap.size (.slice oa KN ok) CH/\fD (((w2.setCell ⟨rb,5,none⟩ (.slice oa KN ok)).setCell ⟨rb,4,none⟩ (.map (some w2.heap.size))).alloc (.map #[] 0)) w2.heap.size []/\rb≠w2.heap.size/\o1 w2.heap.size=none/\w.heap.size<=w2.heap.size/\∀b,(Value.slice oa KN ok).ownBlock=some b->b≠w2.heap.size/\o1 b=none):=aa (by
    have h4:=(Co.o.ajR (.slice oa KN ok)).ajQ (.map (some w2.heap.size));have hne:rb≠w2.heap.size:=by omega
    have PJ:∀b,(Value.slice oa KN ok).ownBlock=some b->b≠rb:=fun b hb e=>by have:=(p7.o.2 b hb).2.2;omega
    have hsz:((w2.setCell ⟨rb,5,none⟩ (.slice oa KN ok)).setCell ⟨rb,4,none⟩ (.map (some w2.heap.size))).heap.size=w2.heap.size:=by simp
    have qa:=MapKept.heap_alloc ((w2.setCell ⟨rb,5,none⟩ (.slice oa KN ok)).setCell ⟨rb,4,none⟩ (.map (some w2.heap.size))) (.map #[] 0);have dY:aw (·=rb) n pb db w o d (w2.setCell ⟨rb,5,none⟩ (.slice oa KN ok)) o1 d1 L:=(V7.o.mono (fun _ _ e=>e.elim)).setCell ⟨rb,5,none⟩ (.slice oa KN ok) fM (.inl rfl);have cP:=(dY.setCell ⟨rb,4,none⟩ (.map (some w2.heap.size)) fM (.inl rfl)).alloc (.map #[] 0);refine⟨(qa.2 rb ae).trans h4,cP,?_,?_,hne,V7.o.aX.fresh (Nat.le_refl _),V7.o.size,fun b hb=>⟨by have:=(p7.o.2 b hb).2.1;omega,(p7.o.2 b hb).1⟩⟩
    ·refine bI p7.o.1 (fun b hb=>?_);rw[qa.2 b (by rw[hsz];exact(p7.o.2 b hb).2.1),Below.heap_setCell _ _ _ _ (PJ b hb),Below.heap_setCell _ _ _ _ (PJ b hb)]
    ·have:=bO.made ((w2.setCell ⟨rb,5,none⟩ (.slice oa KN ok)).setCell ⟨rb,4,none⟩ (.map (some w2.heap.size))) prog 26 iT (fun _:Unit=>Value.bool true);rw[hsz]at this;exact this)
   have NL:Hid (CH.Pairwise (· < ·)):=aa (by rw[XO.o];exact kG es vs);clear Co V7 p7 QX fM;go_wp2_with fail;generalize hmb:w2.heap.size=mb at *;generalize ((w2.setCell ⟨rb,5,none⟩ (.slice oa KN ok)).setCell ⟨rb,4,none⟩ (.map (some mb))).alloc (.map #[] 0)=W3 at *;clear hmb c4 c5 f4 f5 aj2;go_loopw [84] (fun vi wr=>∃k:Nat,vi=.int .i64 (k:Int)/\k<=KN/\Hid (dx wr rb pb gb gen done (.map (some mb)) (.slice oa KN ok) (.slice va vs.length vk)/\aw (·=rb) n pb db w o d wr o1 d1 L/\bF wr w.heap.size (.slice oa KN ok) CH/\fD wr mb (CH.take k).reverse)) (fun vi _=>KN-(intOf vi).toNat)
   case atStart=>exact⟨0,rfl,Nat.zero_le _,aa ⟨Oh.o.1,Oh.o.2.1,Oh.o.2.2.1,Oh.o.2.2.2.1⟩⟩
   case round=>
    obtain⟨k,rfl,hk,HST⟩:=hrel;generalize wr=W4 at *;by_cases hkt:k<KN
    ·have FI:(k:Int)<(KN:Int):=by omega
     have wk:IntKind.i64.wrap ((k:Int)+1)=((k+1:Nat):Int):=by have:=HKN.o.2.1;rw[ax]<;>omega
     obtain⟨y,hy⟩:∃y,CH[k]? = some y:=⟨_,List.getElem?_eq_getElem (by have:=HKN.o.1;omega)⟩;obtain⟨g,rfl⟩:∃g,oa=some ⟨g,0,none⟩:=by
      obtain⟨-,⟨h1,h2⟩|⟨g,_,_,h1,_⟩⟩:=HST.out.2.2.1
      ·simp_all
      simp_all
     have q0:=iu (l:=CH) (by have:=HST.out.2.2.1;rwa [HKN.o.1]at this) hy;obtain⟨-,-,-,-,c4,-⟩:=HST.out.1.cells;have HG:=aa (fO (HKN.o.2.2 y (List.mem_of_getElem? hy)));have nw:Hid (aS ((CH.take k).reverse.map fun x=>(x,())) y ()=((CH.take (k+1)).reverse.map fun x=>(x,()))):=aa (by
      obtain⟨hl,he⟩:=List.getElem?_eq_some_iff.1 hy;have hni:y ∉ CH.take k:=fun hm=>by
       obtain⟨j,hj,hje⟩:=List.getElem_of_mem hm;rw[List.length_take]at hj;rw[List.getElem_take]at hje;have:=List.pairwise_iff_getElem.1 NL.o j k ae hl ae;omega
      rw[E7 (by simp_all),List.take_succ_eq_append_getElem hl,he];simp)
     clear hy;go_wp2_with (at_mapUpdate;refine eJ _ rfl _ _ _ _ rfl 4 cg dm Tryz.underlying131 mb _ rfl HST.out.2.2.2 y () rfl rfl HG.o ?_;intro es' clock cP;rw[nw.o]at cP;have eu:=aa cP;clear cP);have nz:Hid (dx (setBlock W4 mb (.map es' clock)) rb pb gb gen done (.map (some mb)) (.slice (some ⟨g,0,none⟩) KN ok) (.slice va vs.length vk)/\aw (·=rb) n pb db w o d (setBlock W4 mb (.map es' clock)) o1 d1 L/\bF (setBlock W4 mb (.map es' clock)) w.heap.size (.slice (some ⟨g,0,none⟩) KN ok) CH/\fD (setBlock W4 mb (.map es' clock)) mb (CH.take (k+1)).reverse):=aa ⟨(bg (w:=W4) (b:=mb) (.map es' clock) Oh.o.2.2.2.2.1).trans HST.out.1,HST.out.2.1.turned Oh.o.2.2.2.2.2.1 (.inr Oh.o.2.2.2.2.2.2.1) ((aH.refl _ W4).setBlock _ _ (.inl rfl)),bI HST.out.2.2.1 (fun b hb=>bg _ (Oh.o.2.2.2.2.2.2.2 b hb).1),eu.o⟩;clear eu HST q0 c4;go_roundw
     case rel=>exact⟨k+1,by go_num,ae,nz⟩
     case measure=>simp[intOf];omega
    ·have FI:¬(k:Int)<(KN:Int):=by omega
     have HQ:Hid (R (.returned (.int .i64 0)) W4):=aa (by
      rw[S2.o,<- XO.o];obtain⟨h1,h2,h3,h4⟩:=HST.out;rw[List.take_of_length_le (by have:=HKN.o.1;omega)]at h4;exact⟨mb,.slice oa KN ok,CH.reverse,d1,o1,rfl,h2,h1,h3,fun b hb=>(Oh.o.2.2.2.2.2.2.2 b hb).2,h4,Oh.o.2.2.2.2.2.2.1,Oh.o.2.2.2.2.2.1,fun z=>by simp⟩)
     clear HST S2;go_wp2;exact HQ.o
end
end
section
open Go.RowKit Go.Maps
section
variable {S:Nat->Prop} {w0 w w' W W':World} {pb db n gb gen N ob ib vb rb done sb:Nat} {o o' gL:ar} {d d' gw:Dsk} {L L' xJ:aC} {es l:List aF} {vs:List cr} {vv x4 x5 x6 v:Value} {name:Name} {fl:Bool}
theorem aw.self(h:aw S n pb db w o d w' o' d' L){f:gR}(hL:aA L name=some f):aw S n pb db w o d w' o' d' (aS L name f):=
 h.congr (cD h.aX.keys) (fun x=>by
  rw[ay];by_cases e:x=name
  ·rw[if_pos e,e,hL]
  ·rw[if_neg e])
def kH(n pb db:Nat)(w:World)(o:ar)(d:Dsk)(L:aC)(name:Name)(e:Ending)(w':World):Prop:=
 ∃sb d' o',e=.returned (.tuple #[ptrTo sb,.int .i64 0])/\aw (fun _=>False) n pb db w o d w' o' d' (aS L name (au [] true))/\aB w' sb pb name 20/\w.heap.size<=sb/\o' sb=none
theorem kT(h:Held w0 w pb db n o d L)(hr:dx w rb pb gb gen done x4 x5 x6)(hro:o rb=none)(fw:bM name=true)(hno:aA L name=none) :
 Calls prog 101 #[ptrTo rb,.string name] w (kH n pb db w o d L name):=by
 have hc0:cY d L name=0:=by
  unfold cY;rw[h.tick,fw,hno];rfl
 have oz:=aa (kB h.aX name (bZ fw));unfold fI at oz;rw[hc0]at oz;simp only[if_true]at oz;have HOP:Hid (∀W o' d',aP W pb db n o' d' (aS L name (au [] true))->d'.dead=false->Calls prog 67 #[ptrTo pb,.string name,.int .i64 20] W (dC W pb name 20 0)):=aa (fun W o' d' hp hd=>by
  have h3:=dD (sz:=20) hp name (bZ fw) af af;rw[gQ hp (by rw[ay,if_pos rfl];rfl),hd]at h3;exact h3)
 obtain⟨c0,-⟩:=hr.cells;have HR:=aa hr;have GV:=aa hro;have H:=aa h;clear h hr hro fw hno hc0;unfold ptrTo at *;go_enter func101,ntmps101;go_wp2_with fail;refine oz.o.mono ?_;rintro e w1⟨d1,o1,rfl,dY,hx1,-⟩;have hop:=aa (HOP.o w1 o1 d1 dY.aX (hx1 trivial));have eo:=aa dY;have c1:=(HR.o.moved GV.o dY).cells.1;clear dY hx1 oz c0 HOP;unfold ptrTo at *;go_wp2_with fail;refine hop.o.mono ?_;rintro e w2⟨v2,rfl,hb2,hs2,-⟩;obtain⟨sb,rfl,hst,yU⟩:=hs2 rfl;have HQ:Hid (kH n pb db w o d L name (.returned (.tuple #[ptrTo sb,.int .i64 0])) w2):=aa ⟨sb,d1,o1,rfl,eo.o.below hb2,hst,Nat.le_trans eo.o.size yU,eo.o.aX.fresh yU⟩;clear hb2 hs2 hst yU hop c1;unfold ptrTo at *;go_wp2;go_returns;exact HQ.o
def jA(S:Nat->Prop)(n pb db:Nat)(w:World)(o:ar)(d:Dsk)(L:aC)(name:Name)(es:List aF)(e:Ending)(w':World):Prop:=
 ∃fl d' o',e=.returned (.int .i64 0)/\aw S n pb db w o d w' o' d' (aS L name (au es fl))
theorem I7(HW:aQ)(h:Held w0 w pb db n o d L)(hst:aB w sb pb name 20)(ho:o sb=none)(hL:aA L name=some (au es fl))(hv:kL w v l)(mm:∀b,v.ownBlock=some b->o b=none)(MA:need L+4*(es.length+l.length)<=131072)(hlen:es.length+l.length<65535) :
 Calls prog 151 #[ptrTo sb,v] w (jA (fun _=>False) n pb db w o d L name (es++l)):=by
 have Kc:Hid (∀W o' d' kO rv(x:aF)(k:Nat),aw (fun _=>False) n pb db w o d W o' d' (aS L name (au (es++l.take k) kO))->l[k]? = some x->Rd W rv x.bytes->(∀y,rv.ownBlock=some y->o' y=none) ->
  Calls prog 72 #[ptrTo sb,rv] W fun e w'=>∃gw gL,e=.returned (.int .i64 0)/\aw (fun _=>False) n pb db w o d w' gL gw (aS L name (au (es++l.take (k+1)) false))):=aa (fun W o' d' kO rv x k hm hx Bn hro=>by
  obtain⟨hk,T4⟩:=List.getElem?_eq_some_iff.1 hx;refine(j6 HW hm.aX (hst.moved hm ho (fun e=>e)) (hm.free hst.lt ho) af af (by rw[ay,if_pos rfl];rfl) (dW _) (by rw[List.length_map,List.length_append,List.length_take];omega) Bn x.eB hro).mono ?_;rintro e w'⟨c,gw,gL,rfl,cP,om⟩;have he:(es++l.take k).map aF.bytes++[x.bytes]=(es++l.take (k+1)).map aF.bytes:=by rw[List.take_succ_eq_append_getElem hk,T4];simp
  have hh:=h.moved hm (fun _ e=>e.elim);have h0:c=0:=hh.pU cP om (by
   have h1:=cN L name (au (es++l.take k) kO);have h2:=cF (es++l.take k) kO;rw[List.length_append,List.length_take]at h2;omega)
  subst h0;rw[if_pos rfl,iM,he]at cP;exact⟨gw,gL,rfl,hm.trans cP (fun _ _ e=>e)⟩)
 have HV:Hid (∀W o' d' L',aw (fun _=>False) n pb db w o d W o' d' L'->kL W v l):=aa (fun W o' d' L' hm=>hv.moved hm mm);have V8:Hid (aw (fun _=>False) n pb db w o d w o d (aS L name (au (es++l.take 0) fl))):=aa (by
  rw[List.take_zero,List.append_nil];exact(aw.refl _ h.aX).self hL)
 obtain⟨a,cap,rfl,-⟩:=hv;obtain⟨M,hM⟩:∃M,M=l.length:=⟨_,rfl⟩;have HM:Hid (M=l.length/\M<65535):=aa ⟨hM,ae⟩;obtain⟨R,hR⟩:∃R,R=jA (fun _=>False) n pb db w o d L name (es++l):=⟨_,rfl⟩;have S2:=aa hR;rw[<- hR];rw[<- hM]at HV ⊢;clear h hst ho hL mm MA hlen hM hR;unfold ptrTo at *;go_enter func151,ntmps151;go_wp2_with fail;go_loopw [10] (fun vi wr=>∃(k:Nat)(kO:Bool)(o':ar)(d':Dsk),vi=.int .i64 (k:Int)/\k<=M/\Hid (aw (fun _=>False) n pb db w o d wr o' d' (aS L name (au (es++l.take k) kO)))) (fun vi _=>M-(intOf vi).toNat)
 case atStart=>exact⟨0,fl,o,d,rfl,Nat.zero_le _,V8⟩
 case round=>
  obtain⟨k,kO,o1,d1,rfl,hk,eo⟩:=hrel;clear V8;generalize wr=W1 at *;by_cases hlt:k<M
  ·have FI:(k:Int)<(M:Int):=by omega
   have wk:IntKind.i64.wrap ((k:Int)+1)=((k+1:Nat):Int):=by have:=HM.o;rw[ax]<;>omega
   obtain⟨x,hx⟩:∃x,l[k]? = some x:=⟨_,List.getElem?_eq_getElem (by have:=HM.o;omega)⟩;have HX:=aa hx;obtain⟨a',cap',Cc,hce⟩:=HV.o _ _ _ _ eo.out;obtain⟨rfl,-,rfl⟩:a=a'/\M=l.length/\cap=cap':=by simpa using Cc
   obtain⟨b,off,rfl,Ie⟩:=hce.resolve_left (by have:=HM.o;omega);obtain⟨q0,q1,q2,q3⟩:=Ie k _ hx;clear hce Ie Cc hx;have eu:=aa (eo.out.alloc (.cells #[.int .u32 (x.t.toNat:Int),.int .u32 (x.h.toNat:Int),.int .u64 (x.x.toNat:Int),.int .u32 (x.m.toNat:Int)] 64));have PG:=aa (fun W=>uj x W);go_wp2_with fail;refine(PG.o _).mono ?_;rintro e w3⟨v3,rfl,iJ,hb3⟩;have k9:=aa (Kc.o w3 o1 d1 kO v3 x k (eu.o.below hb3) HX.o (fp iJ) (fun y hy=>eu.o.aX.fresh (aG iJ y hy)));clear iJ hb3 PG q0 q1 q2 q3;go_wp2_with fail;refine k9.o.mono ?_;rintro e w4⟨d4,o4,rfl,eC⟩;have fZ:=aa eC;clear eC k9 eo eu;go_wp2;go_roundw
   case rel=>exact⟨k+1,false,o4,d4,by go_num,ae,fZ⟩
   case measure=>simp[intOf];omega
  ·have FI:¬(k:Int)<(M:Int):=by omega
   have HQ:Hid (R (.returned (.int .i64 0)) W1):=aa (by
    have:=eo.out;rw[List.take_of_length_le (by have:=HM.o;omega)]at this;rw[S2.o];exact⟨kO,d1,o1,rfl,this⟩)
   clear eo S2;go_wp2;exact HQ.o
end
end
end Go.Proofs.YthkkgdpomhhjjaaGreatDoor
