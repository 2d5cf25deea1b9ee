/-
  Joined.
-/
import Derived.Test.YthkkgdpomhhjjaaGreatDoorQ09
import Derived.Maps.AppendAt
namespace Go.Proofs.YthkkgdpomhhjjaaGreatDoor
section
open Go.RowKit Go.Maps Go.Sort
structure Round (lt:Edg->Edg->Bool) (a b lim:Nat) (wb wp:Bool) (dk:Array Edg) (R:Sort.Rd Edg):Prop where
 brk:wb=false->R.d1=breakPatterns dk a b/\R.lim=lim - 1
 nob:wb=true->R.d1=dk/\R.lim=lim
 c:R.c=choosePivot lt R.d1 a b
 dec:R.c.2=.decreasing->R.d2=reverseRange R.d1 a b/\R.pivot=(b - 1) - (R.c.1 - a)/\R.hint=.increasing
 ndec:R.c.2≠.decreasing->R.d2=R.d1/\R.pivot=R.c.1/\R.hint=R.c.2
 yes:(wb && wp && decide (R.hint=.increasing))=true->R.pi=partialInsertionSort lt R.d2 a b
 no:(wb && wp && decide (R.hint=.increasing))=false->R.pi=(R.d2,false)
 s1:R.d1.size=dk.size
 c1:a<=R.c.1
 c2:R.c.1 < b
 s2:R.d2.size=dk.size
 p1:a<=R.pivot
 p2:R.pivot < b
 s3:R.pi.1.size=dk.size
 B3:Sort.Below lt a b R.pi.1
 lim_le:R.lim<=lim
 done:R.pi.2=true->pdq lt dk a b lim wb wp=R.pi.1
 eq:R.pi.2=false->(decide (a > 0) && !lt R.pi.1[a - 1]! R.pi.1[R.pivot]!)=true->∀ mid d4,partitionEqual lt R.pi.1 a b R.pivot=(mid,d4)->a < mid->mid<=b->pdq lt dk a b lim wb wp=pdq lt d4 mid b R.lim wb wp
 left:R.pi.2=false->(decide (a > 0) && !lt R.pi.1[a - 1]! R.pi.1[R.pivot]!)=false->∀ mid ap d4,partition lt R.pi.1 a b R.pivot=(mid,ap,d4)->a<=mid->mid < b->mid - a < b - mid->pdq lt dk a b lim wb wp=pdq lt (pdq lt d4 a mid R.lim true true) (mid+1) b R.lim (decide (mid - a >= (b - a) / 8)) ap
 right:R.pi.2=false->(decide (a > 0) && !lt R.pi.1[a - 1]! R.pi.1[R.pivot]!)=false->∀ mid ap d4,partition lt R.pi.1 a b R.pivot=(mid,ap,d4)->a<=mid->mid < b->¬ mid - a < b - mid->pdq lt dk a b lim wb wp=pdq lt (pdq lt d4 (mid+1) b R.lim true true) a mid R.lim (decide (b - mid >= (b - a) / 8)) ap
theorem round_is {lt:Edg->Edg->Bool} (h:SWO lt) {a b lim:Nat} (wb wp:Bool) {dk:Array Edg} (h12:¬ b - a<=12) (h0:¬ lim=0) (hb:b<=dk.size) (hB:Sort.Below lt a b dk):Round lt a b lim wb wp dk (rd lt dk a b lim wb wp):=by
 obtain ⟨s1,B1,hc1,s2,B2,hpv,s3,B3⟩:=rd_facts (limit:=lim) (wb:=wb) (wp:=wp) h partialInsertionSort_holds reverseRange_holds (show a < b by omega) hb hB;exact {
  brk:=by rintro rfl;exact rd_false
  nob:=by rintro rfl;exact rd_true
  c:=rd_c
  dec:=rd_dec
  ndec:=rd_not
  yes:=rd_pi_yes
  no:=rd_pi_no
  s1:=s1
  c1:=hc1.1
  c2:=hc1.2
  s2:=s2
  p1:=hpv.1
  p2:=hpv.2
  s3:=s3
  B3:=B3
  lim_le:=rd_lim_le
  done:=pdq_done h12 h0
  eq:=fun h1 h2 mid d4 hx r1 r2=>by rw [pdq_eq h12 h0 h1 h2 (by rw [hx];exact ⟨r1,r2⟩),hx]
  left:=fun h1 h2 mid ap d4 hx r1 r2 h4=>by rw [pdq_left h12 h0 h1 h2 (by rw [hx];exact ⟨r1,r2⟩) (by rw [hx];exact h4),hx]
  right:=fun h1 h2 mid ap d4 hx r1 r2 h4=>by rw [pdq_right h12 h0 h1 h2 (by rw [hx];exact ⟨r1,r2⟩) (by rw [hx];exact h4),hx] }
theorem hintN_two {h:Hint} (e:hintN h=2):h=.decreasing:=by cases h<;>simp [hintN] at e ⊢
set_option maxRecDepth 100000 in
set_option maxHeartbeats 16000000 in
theorem pdq_any:∀ m,PdqAt m:=by
 intro m;induction m with
 | zero=>exact fun h a b l h1 h2 h3 h4 h5 h6=>pdq_twelve h a b l h1 h2 h3 (by omega) h5 h6
 | succ m ih=>
   intro bt w0 W jb pb byb made base g cap d h a b limit hab hb hsz hm hl hBel;have H:=Lib.hid h;have HB0:=Lib.hid hBel;obtain ⟨N,hN⟩:∃ N,N=d.size:=⟨_,rfl⟩;rw [<- hN] at hb hsz ⊢;obtain ⟨r,hr⟩:∃ r,r=pdq (ltOf (cmpE bt)) d a b limit true true:=⟨_,rfl⟩;rw [<- hr];have HR0:Hid (pdq (ltOf (cmpE bt)) d a b limit true true=r):=Lib.hid hr.symm;have HX:Hid (a<=b/\b<=N/\N<=1000000/\b - a<=m+1/\limit<=64/\d.size=N):=Lib.hid (by omega);clear h hN hBel hr hab hb hsz hm hl;unfold cmpFn ptrTo;go_enter Tryz.func292,Tryz.ntmps292
   go_wp2_with fail
   go_loopw [1,2,3,10,11] (fun s1 s2 s3 s10 s11 wr=>∃ (a1 b1 lim:Nat) (wb wp:Bool) (dk:Array Edg),s1=.int .i64 (a1:Int)/\s2=.int .i64 (b1:Int)/\s3=.int .i64 (lim:Int)/\s10=.bool wb/\s11=.bool wp/\a1<=b1/\b1<=N/\b1 - a1<=m+1/\lim<=64/\dk.size=N/\Hid (Sort.Below (ltOf (cmpE bt)) a1 b1 dk)/\Srt bt w0 jb pb byb made base g cap dk wr/\Hid (pdq (ltOf (cmpE bt)) dk a1 b1 lim wb wp=r)) (fun s1 s2 _ _ _ _=>(intOf s2 - intOf s1).toNat)
   case atStart=>exact ⟨a,b,limit,true,true,d,rfl,rfl,rfl,rfl,rfl,HX.out.1,HX.out.2.1,HX.out.2.2.2.1,HX.out.2.2.2.2.1,HX.out.2.2.2.2.2,HB0,H.out,HR0⟩
   case round=>
    obtain ⟨a1,b1,lim,wb,wp,dk,rfl,rfl,rfl,rfl,rfl,hab1,hb1,hk1,hl1,hsk,HBk,hs,HO⟩:=hrel;generalize wr=Wr at *;have HS:=Lib.hid hs;have HZ:=Lib.hid hsk;obtain ⟨L,hL⟩:∃ L,L=b1 - a1:=⟨_,rfl⟩;have wL:IntKind.i64.wrap ((b1:Int) - (a1:Int))=(L:Int):=by
     have:=HX.out;rw [wrap_in]<;>omega
    have HK:Hid (a1<=b1/\b1<=N/\L=b1 - a1/\L<=m+1/\lim<=64/\N<=1000000/\dk.size=N):=Lib.hid (by have:=HX.out;omega);clear hs hsk hL hab1 hb1 hk1 hl1;by_cases h12:L<=12
    ·have h12z:(L:Int)<=12:=by omega
     have hc:=insertionSort_any HS.out a1 b1 HK.out.1 (by have:=HK.out;omega) (by have:=HK.out;omega);rw [HZ.out] at hc;unfold cmpFn ptrTo at hc;have HC:=Lib.hid hc;clear hc;have HF:Hid (r=insertionSort (ltOf (cmpE bt)) dk a1 b1):=Lib.hid (by rw [<- HO.out];exact pdq_small (by have:=HK.out;omega));go_wp2_with fail
     refine HC.out.mono ?_;rintro e w1 ⟨rfl,hs1⟩;have HS1:=Lib.hid hs1;clear hs1;go_wp2;go_returns
     rw [HF.out];exact ⟨rfl,HS1.out⟩
    ·have h12z:¬ ((L:Int)<=12):=by omega
     by_cases hl0:lim=0
     ·subst hl0;have hc:=heapSort_any HS.out a1 b1 (by have:=HK.out;omega) (by have:=HK.out;omega) (by have:=HK.out;omega);rw [HZ.out] at hc;unfold cmpFn ptrTo at hc;have HC:=Lib.hid hc;clear hc;have HF:Hid (r=heapSort (ltOf (cmpE bt)) dk a1 b1):=Lib.hid (by rw [<- HO.out];exact pdq_heap (by have:=HK.out;omega) rfl);go_wp2_with fail
      refine HC.out.mono ?_;rintro e w1 ⟨rfl,hs1⟩;have HS1:=Lib.hid hs1;clear hs1;go_wp2;go_returns
      rw [HF.out];exact ⟨rfl,HS1.out⟩
     ·have hl0z:((lim:Int) == 0)=false:=by simp;omega
      have HLP:Hid (1<=lim/\12 < L):=Lib.hid (by omega);obtain ⟨R,HR⟩:∃ R,Hid (Round (ltOf (cmpE bt)) a1 b1 lim wb wp dk R):=⟨_,Lib.hid (round_is (swo_cmpE bt) wb wp (by have:=HK.out;omega) hl0 (by have:=HK.out;omega) HBk.out)⟩;clear hl0 h12;go_upto_if 39 with fail
      go_cut [3] from 21 to 147 (fun s3 wc=>s3=.int .i64 (R.lim:Int)/\Srt bt w0 jb pb byb made base g cap R.d1 wc)
      case first=>
       cases wb with
       | false=>
         obtain ⟨e1,e2⟩:=HR.out.brk rfl;have hc:=breakPatterns_any HS.out a1 b1 (by have:=HK.out;have:=HLP.out;omega) (by have:=HK.out;omega) (by have:=HK.out;omega);rw [HZ.out,<- e1] at hc;unfold cmpFn ptrTo at hc;have HC:=Lib.hid hc;have wl1:IntKind.i64.wrap ((lim:Int) - 1)=(R.lim:Int):=by
          have:=HK.out;have:=HLP.out
          rw [wrap_in]<;>omega
         clear hc e1 e2;go_wp2_with fail
         refine HC.out.mono ?_;rintro e w1 ⟨rfl,hs1⟩;have HS1:=Lib.hid hs1;clear hs1;go_wp2;go_meet
         exact ⟨rfl,HS1.out⟩
       | true=>
         obtain ⟨e1,e2⟩:=HR.out.nob rfl;go_wp2;go_meet
         exact ⟨by rw [e2],by rw [e1];exact HS.out⟩
      case rest=>
       obtain ⟨rfl,hs1⟩:=hcut;have HS1:=Lib.hid hs1;have HZ1:Hid (R.d1.size=N):=Lib.hid (HR.out.s1.trans HZ.out);clear hs1;have hc:=choosePivot_any HS1.out a1 b1 (by have:=HK.out;have:=HLP.out;omega) (by have:=HK.out;have:=HZ1.out;omega) (by have:=HK.out;have:=HZ1.out;omega);rw [HZ1.out,<- HR.out.c] at hc;unfold cmpFn ptrTo at hc;have HC:=Lib.hid hc;clear hc;go_upto_if 56 with fail
       refine HC.out.mono ?_;rintro e w2 ⟨rfl,hs2⟩;have HS2:=Lib.hid hs2;clear hs2 HC;go_upto_if 56 with fail
       go_cut [13,14] from 21 to 147 (fun s13 s14 wc=>s13=.int .i64 (R.pivot:Int)/\s14=.int .i64 (hintN R.hint:Int)/\Srt bt w0 jb pb byb made base g cap R.d2 wc)
       case first=>
        by_cases hh:R.c.2=.decreasing
        ·obtain ⟨e2,epv,eht⟩:=HR.out.dec hh;have hz:(hintN R.c.2:Int)=2:=by rw [hh];rfl
         have hc:=reverseRange_any HS2.out a1 b1 (by have:=HK.out;have:=HLP.out;omega) (by have:=HK.out;have:=HZ1.out;omega) (by have:=HK.out;have:=HZ1.out;omega);rw [HZ1.out,<- e2] at hc;unfold cmpFn ptrTo at hc;have HC:=Lib.hid hc;obtain ⟨P,hP⟩:∃ P,P=R.c.1 - a1:=⟨_,rfl⟩;have wb1:IntKind.i64.wrap ((b1:Int) - 1)=(b1:Int) - 1:=by
          have:=HK.out;have:=HLP.out
          rw [wrap_in]<;>omega
         have wP:IntKind.i64.wrap ((R.c.1:Int) - (a1:Int))=(P:Int):=by
          have:=HK.out;have:=HR.out.c1;have:=HR.out.c2
          rw [wrap_in]<;>omega
         have wV:IntKind.i64.wrap ((b1:Int) - 1 - (P:Int))=(R.pivot:Int):=by
          have:=HK.out;have:=HR.out.c1;have:=HR.out.c2
          rw [wrap_in]<;>omega
         have HE:Hid (R.hint=.increasing):=Lib.hid eht;clear hc e2 epv eht hP hh;go_wp2_with fail
         refine HC.out.mono ?_;rintro e w3 ⟨rfl,hs3⟩;have HS3:=Lib.hid hs3;clear hs3;go_wp2;go_meet
         exact ⟨rfl,by rw [HE.out];rfl,HS3.out⟩
        ·obtain ⟨e2,epv,eht⟩:=HR.out.ndec hh;have hz:((hintN R.c.2:Int) == 2)=false:=by
          simp only [beq_eq_false_iff_ne,ne_eq];exact fun h=>hh (hintN_two (by omega))
         go_wp2;go_meet
         exact ⟨by rw [epv],by rw [eht],by rw [e2];exact HS2.out⟩
       case rest=>
        obtain ⟨rfl,rfl,hs3⟩:=hcut;have HS3:=Lib.hid hs3;have HZ2:Hid (R.d2.size=N):=Lib.hid (HR.out.s2.trans HZ.out);clear hs3;obtain ⟨z,hz⟩:∃ z:Int,z=(hintN R.hint:Int):=⟨_,rfl⟩;rw [<- hz];have HV:Hid (decide (R.hint=.increasing)=(z == 1)):=Lib.hid (by rw [hz];cases R.hint<;>rfl);clear hz;go_upto_region 15 with fail
        go_cut [75] from 21 to 147 (fun s75 wx=>s75=.bool (wb && wp && decide (R.hint=.increasing))/\Srt bt w0 jb pb byb made base g cap R.d2 wx)
        case first=>
         cases wb<;>cases wp<;>(
          go_wp2_with fail
          go_meet
          exact ⟨by rw [HV.out];simp,HS3.out⟩)
        case rest=>
         obtain ⟨rfl,hs4⟩:=hcut;have HS4:=Lib.hid hs4;clear hs4;go_upto_if 75 with fail
         go_cut [] from 21 to 147 (fun wx=>R.pi.2=false/\Srt bt w0 jb pb byb made base g cap R.pi.1 wx)
         case first=>
          cases h68:(wb && wp && decide (R.hint=.increasing))
          ·have epi:=Lib.hid (HR.out.no h68);go_wp2;go_meet
           exact ⟨by rw [epi.out],by rw [epi.out];exact HS4.out⟩
          ·have epi:=Lib.hid (HR.out.yes h68);have hc:=partialInsertionSort_any HS4.out a1 b1 (by have:=HK.out;have:=HLP.out;omega) (by have:=HK.out;have:=HZ2.out;omega) (by have:=HK.out;have:=HZ2.out;omega);rw [HZ2.out,<- epi.out] at hc;unfold cmpFn ptrTo at hc;have HC:=Lib.hid hc;clear hc;cases hp2:R.pi.2
           ·go_wp2_with fail
            refine HC.out.mono ?_;rintro e w4 ⟨rfl,hs4⟩;rw [hp2];have HS5:=Lib.hid hs4;have HP2:=Lib.hid hp2;clear hs4 hp2;go_wp2;go_meet
            exact ⟨HP2.out,HS5.out⟩
           ·have HF:Hid (r=R.pi.1):=Lib.hid (by rw [<- HO.out];exact HR.out.done hp2);go_wp2_with fail
            refine HC.out.mono ?_;rintro e w4 ⟨rfl,hs4⟩;rw [hp2];have HS5:=Lib.hid hs4;clear hs4 hp2;go_wp2;go_returns
            rw [HF.out];exact ⟨rfl,HS5.out⟩
         case rest=>
          obtain ⟨hp2,hs5⟩:=hcut;have HS5:=Lib.hid hs5;have HP2:=Lib.hid hp2;have HZ3:Hid (R.pi.1.size=N):=Lib.hid (HR.out.s3.trans HZ.out);clear hs5 hp2;generalize wc=W5 at *;have bV:(R.pivot:Int) < (N:Int):=by have:=HR.out.p2;have:=HK.out;omega
          go_upto_region 17 with fail
          go_cut [97] from 21 to 147 (fun s97 wx=>s97=.bool (decide (a1 > 0) && !ltOf (cmpE bt) R.pi.1[a1 - 1]! R.pi.1[R.pivot]!)/\Srt bt w0 jb pb byb made base g cap R.pi.1 wx)
          case first=>
           rcases Nat.eq_zero_or_pos a1 with ha0 | ha0
           ·have ha0z:decide ((a1:Int) > 0)=false:=decide_eq_false (by omega);have ha0n:decide (0 < a1)=false:=decide_eq_false (by omega);have HA0:=Lib.hid ha0;clear ha0;go_wp2_with fail
            go_quiet (fail)
            have HBd:RowKit.Below W5.heap.size W5 (W5.drewN nq):=⟨rfl,rfl,rfl,Nat.le_refl _,fun _ _=>rfl⟩;have HS6:=Lib.hid (HS5.out.below HBd);clear HBd;go_wp2;go_meet
            exact ⟨by simp [HA0.out],HS6.out⟩
           ·have ha0z:(a1:Int) > 0:=by omega
            obtain ⟨A1,hA1⟩:∃ A1,A1=a1 - 1:=⟨_,rfl⟩;have bA:(A1:Int) < (N:Int):=by have:=HK.out;omega
            have wA1:IntKind.i64.wrap ((a1:Int) - 1)=(A1:Int):=by
             have:=HK.out;rw [wrap_in]<;>omega
            obtain ⟨x,hx⟩:∃ x,R.pi.1[A1]! = x:=⟨_,rfl⟩;obtain ⟨y,hy⟩:∃ y,R.pi.1[R.pivot]! = y:=⟨_,rfl⟩;have F:=Lib.hid (HS5.out.reads (i:=A1) (j:=R.pivot) (by have:=HK.out;have:=HZ3.out;omega) (by have:=HK.out;have:=HZ3.out;have:=HR.out.p2;omega) hx hy);have HW:Hid ((decide (a1 > 0) && !ltOf (cmpE bt) R.pi.1[a1 - 1]! R.pi.1[R.pivot]!)=!decide (cmpE bt x y < 0)):=Lib.hid (by
             rw [<- hA1,hx,hy,decide_eq_true ha0];rfl)
            clear hA1 hx hy;by_cases hl:cmpE bt x y < 0
            ·go_wp2_with fail
             refine wq W5 ?_;iterate 8 (refine qo (fun K hK=>?_);go_simp;refine hK _ ?_;clear hK K)
             refine qo (fun K hK=>?_) (fun w' hw'=>by obtain ⟨⟨c0,c1,c2,c3⟩,-,-⟩:=F.out w' hw';go_simp<;>rfl);go_simp;refine hK _ ?_;clear hK K;iterate 3 (refine qo (fun K hK=>?_);go_simp;refine hK _ ?_;clear hK K)
             refine qo (fun K hK=>?_) (fun w' hw'=>by obtain ⟨-,⟨c0,c1,c2,c3⟩,-⟩:=F.out w' hw';go_simp<;>rfl);go_simp;refine hK _ ?_;clear hK K;refine qc (fun w' hw'=>(F.out w' hw').2.2) (fun K hK=>?_);go_simp;refine hK _ ?_;clear hK K;iterate 3 (refine qo (fun K hK=>?_);go_simp;refine hK _ ?_;clear hK K)
             refine wpQuiet_nil ?_;intro w6 hw6;have HS6:=Lib.hid (HS5.out.below hw6);clear hw6;go_wp2;go_meet
             exact ⟨by rw [HW.out,decide_eq_true hl];rfl,HS6.out⟩
            ·have hlb:decide (cmpE bt x y < 0)=false:=decide_eq_false hl;go_wp2_with fail
             refine wq W5 ?_;iterate 8 (refine qo (fun K hK=>?_);go_simp;refine hK _ ?_;clear hK K)
             refine qo (fun K hK=>?_) (fun w' hw'=>by obtain ⟨⟨c0,c1,c2,c3⟩,-,-⟩:=F.out w' hw';go_simp<;>rfl);go_simp;refine hK _ ?_;clear hK K;iterate 3 (refine qo (fun K hK=>?_);go_simp;refine hK _ ?_;clear hK K)
             refine qo (fun K hK=>?_) (fun w' hw'=>by obtain ⟨-,⟨c0,c1,c2,c3⟩,-⟩:=F.out w' hw';go_simp<;>rfl);go_simp;refine hK _ ?_;clear hK K;refine qc (fun w' hw'=>(F.out w' hw').2.2) (fun K hK=>?_);go_simp;refine hK _ ?_;clear hK K;iterate 3 (refine qo (fun K hK=>?_);go_simp;refine hK _ ?_;clear hK K)
             refine wpQuiet_nil ?_;intro w6 hw6;have HS6:=Lib.hid (HS5.out.below hw6);clear hw6;go_wp2;go_meet
             exact ⟨by rw [HW.out,hlb];rfl,HS6.out⟩
          case rest=>
           obtain ⟨rfl,hs6⟩:=hcut;have HS6:=Lib.hid hs6;clear hs6;cases h97:(decide (a1 > 0) && !ltOf (cmpE bt) R.pi.1[a1 - 1]! R.pi.1[R.pivot]!)
           ·obtain ⟨mid,ap,d4,hx⟩:∃ mid ap d4,partition (ltOf (cmpE bt)) R.pi.1 a1 b1 R.pivot=(mid,ap,d4):=⟨(partition (ltOf (cmpE bt)) R.pi.1 a1 b1 R.pivot).1,(partition (ltOf (cmpE bt)) R.pi.1 a1 b1 R.pivot).2.1,(partition (ltOf (cmpE bt)) R.pi.1 a1 b1 R.pivot).2.2,rfl⟩;have hrp:=Lib.hid (round_part (swo_cmpE bt) (partition_holds (ltOf (cmpE bt))) HR.out.p1 HR.out.p2 (show b1<=R.pi.1.size by have:=HK.out;have:=HZ3.out;omega) HR.out.B3 hx);have hc:=partition_any HS6.out a1 b1 R.pivot HR.out.p1 HR.out.p2 (by have:=HK.out;have:=HZ3.out;omega) (by have:=HK.out;have:=HZ3.out;omega);rw [HZ3.out,hx] at hc;unfold cmpFn ptrTo at hc;have HC:=Lib.hid hc;have hr1:=hrp.out.1;have hr2:=hrp.out.2.1;have HLF:=Lib.hid (HR.out.left HP2.out h97 mid ap d4 hx hr1 hr2);have HRT:=Lib.hid (HR.out.right HP2.out h97 mid ap d4 hx hr1 hr2);have hz4:Hid (d4.size=N):=Lib.hid (hrp.out.2.2.1.trans HZ3.out);obtain ⟨A,hA⟩:∃ A,A=mid - a1:=⟨_,rfl⟩;obtain ⟨B,hB⟩:∃ B,B=b1 - mid:=⟨_,rfl⟩;obtain ⟨E,hE⟩:∃ E,E=L / 8:=⟨_,rfl⟩;have wA:IntKind.i64.wrap ((mid:Int) - (a1:Int))=(A:Int):=by
             have:=HK.out;rw [wrap_in]<;>omega
            have wB:IntKind.i64.wrap ((b1:Int) - (mid:Int))=(B:Int):=by
             have:=HK.out;rw [wrap_in]<;>omega
            have wE:IntKind.i64.wrap ((L:Int).tdiv 8)=(E:Int):=by
             have:=HK.out;rw [show ((L:Int)).tdiv 8=((L / 8:Nat):Int) from rfl,wrap_in]<;>omega
            have wE2:IntKind.i64.wrap ((L:Int) / 8)=(E:Int):=by
             have:=HK.out;rw [wrap_in]<;>omega
            have wM:IntKind.i64.wrap ((mid:Int)+1)=((mid+1:Nat):Int):=by
             have:=HK.out;rw [wrap_in]<;>omega
            have HM:Hid (A=mid - a1/\B=b1 - mid/\E=L / 8/\a1<=mid/\mid < b1):=Lib.hid ⟨hA,hB,hE,hr1,hr2⟩;clear hc hx hA hB hE hr1 hr2 h97;go_wp2_with fail
            refine HC.out.mono ?_;rintro e w7 ⟨rfl,hs7⟩;dsimp only at hs7;have HS7:=Lib.hid hs7;clear hs7 HC;by_cases h4:A < B
            ·have h4z:(A:Int) < (B:Int):=by omega
             have hih:=ih HS7.out a1 mid R.lim HM.out.2.2.2.1 (by have:=HK.out;have:=HM.out;have:=hz4.out;omega) (by have:=HK.out;have:=hz4.out;omega) (by have:=HK.out;have:=HM.out;omega) (Nat.le_trans HR.out.lim_le HK.out.2.2.2.2.1) hrp.out.2.2.2.1;obtain ⟨pL,sL⟩:=pdq_sorts (ltOf (cmpE bt)) (swo_cmpE bt) d4 a1 mid R.lim true true HM.out.2.2.2.1 (by have:=HK.out;have:=HM.out;have:=hz4.out;omega) hrp.out.2.2.2.1;have HB5:=Lib.hid (hrp.out.2.2.2.2.2.1 _ pL sL).1;have HZ5:Hid ((pdq (ltOf (cmpE bt)) d4 a1 mid R.lim true true).size=N):=Lib.hid (pL.1.trans hz4.out);have HF:Hid (pdq (ltOf (cmpE bt)) (pdq (ltOf (cmpE bt)) d4 a1 mid R.lim true true) (mid+1) b1 R.lim (decide (A >= E)) ap=r):=Lib.hid (by
              have q:=HM.out;rw [<- HO.out,HLF.out (by omega),q.1,q.2.2.1,HK.out.2.2.1])
             rw [hz4.out] at hih;unfold cmpFn ptrTo at hih;have HIH:=Lib.hid hih;clear hih pL sL h4;go_wp2_with fail
             refine HIH.out.mono ?_;rintro e w8 ⟨rfl,hs8⟩;have HS8:=Lib.hid hs8;clear hs8 HIH;go_wp2;have q:=HM.out;have q2:=HK.out;exact ⟨⟨mid+1,b1,R.lim,decide (A >= E),ap,_,rfl,rfl,rfl,congrArg Value.bool (by simp),rfl,by omega,by omega,by omega,Nat.le_trans HR.out.lim_le q2.2.2.2.2.1,HZ5.out,HB5,HS8.out,HF⟩,by simp [intOf];omega⟩
            ·have h4z:¬ (A:Int) < (B:Int):=by omega
             have hih:=ih HS7.out (mid+1) b1 R.lim HM.out.2.2.2.2 (by have:=HK.out;have:=HM.out;have:=hz4.out;omega) (by have:=HK.out;have:=hz4.out;omega) (by have:=HK.out;have:=HM.out;omega) (Nat.le_trans HR.out.lim_le HK.out.2.2.2.2.1) hrp.out.2.2.2.2.1;obtain ⟨pL,sL⟩:=pdq_sorts (ltOf (cmpE bt)) (swo_cmpE bt) d4 (mid+1) b1 R.lim true true HM.out.2.2.2.2 (by have:=HK.out;have:=HM.out;have:=hz4.out;omega) hrp.out.2.2.2.2.1;have HB5:=Lib.hid (hrp.out.2.2.2.2.2.2 _ pL sL).1;have HZ5:Hid ((pdq (ltOf (cmpE bt)) d4 (mid+1) b1 R.lim true true).size=N):=Lib.hid (pL.1.trans hz4.out);have HF:Hid (pdq (ltOf (cmpE bt)) (pdq (ltOf (cmpE bt)) d4 (mid+1) b1 R.lim true true) a1 mid R.lim (decide (B >= E)) ap=r):=Lib.hid (by
              have q:=HM.out;rw [<- HO.out,HRT.out (by omega),q.2.1,q.2.2.1,HK.out.2.2.1])
             rw [hz4.out] at hih;unfold cmpFn ptrTo at hih;have HIH:=Lib.hid hih;clear hih pL sL h4;go_wp2_with fail
             refine HIH.out.mono ?_;rintro e w8 ⟨rfl,hs8⟩;have HS8:=Lib.hid hs8;clear hs8 HIH;go_wp2;have q:=HM.out;have q2:=HK.out;exact ⟨⟨a1,mid,R.lim,decide (B >= E),ap,_,rfl,rfl,rfl,congrArg Value.bool (by simp),rfl,by omega,by omega,by omega,Nat.le_trans HR.out.lim_le q2.2.2.2.2.1,HZ5.out,HB5,HS8.out,HF⟩,by simp [intOf];omega⟩
           ·have h97':=h97;simp only [Bool.and_eq_true,decide_eq_true_eq,Bool.not_eq_true'] at h97';obtain ⟨mid,d4,hx⟩:∃ mid d4,partitionEqual (ltOf (cmpE bt)) R.pi.1 a1 b1 R.pivot=(mid,d4):=⟨(partitionEqual (ltOf (cmpE bt)) R.pi.1 a1 b1 R.pivot).1,(partitionEqual (ltOf (cmpE bt)) R.pi.1 a1 b1 R.pivot).2,rfl⟩;have hre:=Lib.hid (round_eq (swo_cmpE bt) (partitionEqual_holds (ltOf (cmpE bt))) h97'.1 HR.out.p1 HR.out.p2 (show b1<=R.pi.1.size by have:=HK.out;have:=HZ3.out;omega) HR.out.B3 h97'.2 hx);have hc:=partitionEqual_any HS6.out a1 b1 R.pivot HR.out.p1 HR.out.p2 (by have:=HK.out;have:=HZ3.out;omega) (by have:=HK.out;have:=HZ3.out;omega);rw [HZ3.out,hx] at hc;unfold cmpFn ptrTo at hc;have HC:=Lib.hid hc;have HF:Hid (pdq (ltOf (cmpE bt)) d4 mid b1 R.lim wb wp=r):=Lib.hid (by
             rw [<- HO.out,HR.out.eq HP2.out h97 mid d4 hx hre.out.1 hre.out.2.1])
            have hz4:Hid (d4.size=N):=Lib.hid (hre.out.2.2.1.trans HZ3.out);clear hc hx h97 h97';go_wp2_with fail
            refine HC.out.mono ?_;rintro e w7 ⟨rfl,hs7⟩;dsimp only at hs7;have HS7:=Lib.hid hs7;clear hs7 HC;go_wp2;have q1:=hre.out.1;have q3:=hre.out.2.1;have q2:=HK.out;exact ⟨⟨mid,b1,R.lim,wb,wp,d4,rfl,rfl,rfl,rfl,rfl,q3,q2.2.1,by omega,Nat.le_trans HR.out.lim_le q2.2.2.2.2.1,hz4.out,Lib.hid hre.out.2.2.2.1,HS7.out,HF⟩,by simp [intOf];omega⟩
theorem sortSaid_any {m:Nat} (hm:m<=1000000):SortSaid m:=sortSaid_of hm (pdq_any m)
end
section
open Go.RowKit Go.Maps Go.MapKept
theorem mdel_fresh {κ υ:Type} [DecidableEq κ] {m:List (κ × υ)} {k:κ} (h:mget m k=none):mdel m k=m:=by
 unfold mdel;rw [List.filter_eq_self];intro p hp;simp only [decide_eq_true_eq];intro e;unfold mget at h;rw [Option.map_eq_none_iff,List.find?_eq_none] at h;exact h p hp (by simpa using e)
theorem need_cons (L:Logic) (p:Name × LFile):need (p::L)=p.2.need+need L:=by
 unfold need;rw [List.map_cons,List.sum_cons]
theorem need_mput_fresh {L:Logic} {k:Name} (f:LFile) (h:mget L k=none):need (mput L k f)=f.need+need L:=by
 unfold mput;rw [mdel_fresh h,need_cons]
theorem edgeFile_need (es:List Edg) (fl:Bool):(edgeFile es fl).need<=4*es.length:=by
 unfold edgeFile LFile.need;dsimp only;rw [pagesOf_length,List.length_map];have:pagesFor (per 20) es.length<=es.length:=by
  unfold pagesFor;have h12:per 20=12:=by decide
  rw [h12];omega
 omega
def ErrN (d d':Dsk) (B c:Nat):Prop:=c=5/\d.quota < B\/c=6/\d'.dead=true
theorem Err.num {d d':Dsk} {L:Logic} {c B:Nat} (h:Err d d' L c) (hB:need L<=B):ErrN d d' B c:=by
 rcases h with ⟨h1,h2⟩ | h
 ·exact .inl ⟨h1,by omega⟩
 ·exact .inr h
theorem ErrN.ne {d d':Dsk} {B c:Nat} (h:ErrN d d' B c):c≠0:=by rcases h with h | h<;>omega
theorem ErrN.mono {d d':Dsk} {B B' c:Nat} (h:ErrN d d' B c) (hB:B<=B'):ErrN d d' B' c:=by
 rcases h with ⟨h1,h2⟩ | h
 ·exact .inl ⟨h1,by omega⟩
 ·exact .inr h
theorem ErrN.later {d d1 d2:Dsk} {B c:Nat} (hq:d1.quota=d.quota) (h:ErrN d1 d2 B c):ErrN d d2 B c:=by
 rcases h with ⟨h1,h2⟩ | h
 ·exact .inl ⟨h1,by rw [<- hq];exact h2⟩
 ·exact .inr h
def MadePost (S:Nat->Prop) (n pb db:Nat) (w:World) (o:Owner) (d:Dsk) (L:Logic) (name:Name) (out:List Edg) (B:Nat) (e:Ending) (w':World):Prop:=
 ∃ c d' o' L',e=.returned (.int .i64 ((c:Nat):Int))/\Moved S n pb db w o d w' o' d' L'/\(c=0/\L'=mput L name (edgeFile out false)\/ErrN d d' B c)/\∀ x,x≠name->mget L' x=mget L x
section
variable {S:Nat->Prop} {w w':World} {pb db n cb kb sb jb byb made:Nat} {by':Bool} {name:Name} {o o':Owner} {d d':Dsk} {L L':Logic}
set_option maxRecDepth 100000 in
set_option maxHeartbeats 8000000 in
theorem jobWrite_any (HW:WriteSaid) {m:Nat} (HS:SortSaid m) (h:PoolAt w pb db n o d L) (hj:JobAt w jb pb byb made by') (hoj:o jb=none) (hob:o byb=none) (hok:okName name=true) (hno:mget L name=none)
 {v:Value} {base:Nat} {es:List Edg} (hv:ownsEdges w base v es) (hvo:∀ x,v.ownBlock=some x->o x=none/\x≠jb/\x≠byb) (hm:es.length<=m) (hes:es.length < 65535) :
 Calls Tryz.prog 222 #[ptrTo jb, .string name,v] w (MadePost (fun x=>v.ownBlock=some x) n pb db w o d L name (bestOf by' es) (need L+4*es.length)):=by
 have hsort:Hid (Calls Tryz.prog 260 #[v,cmpFn jb] w (fun e w'=>∃ ts,e=.returned (.tuple #[])/\ts.Perm es/\ts.Pairwise (Ahead by')/\ownsEdges w' base v ts/\Turn (fun x=>v.ownBlock=some x) w w')):=Lib.hid (by
  rcases ownsEdges_shape hv with ⟨rfl,rfl⟩ | ⟨g,cap,rfl,hg,hc1,hc2⟩
  ·refine (sortNone_any _ _ _ _).mono ?_;rintro e w' ⟨rfl,rfl⟩;exact ⟨[],rfl,List.Perm.refl _,List.Pairwise.nil,hv,Turn.refl _ _⟩
  ·refine (HS hj es hm hv (hvo g rfl).2.1 (hvo g rfl).2.2).mono ?_;rintro e w' ⟨ts,rfl,h1,h2,h3,h4⟩;exact ⟨ts,rfl,h1,h2,h3,h4.mono (fun x _ e=>by rw [e];rfl)⟩)
 have hshape:∃ a cap,v=.slice a es.length cap/\∀ x,v.ownBlock=some x->a=some ⟨x,0,none⟩:=by
  rcases ownsEdges_shape hv with ⟨rfl,rfl⟩ | ⟨g,cap,rfl,hg,hc1,hc2⟩
  ·exact ⟨none,0,rfl,fun x hx=>by cases hx⟩
  ·exact ⟨some ⟨g,0,none⟩,cap,rfl,fun x hx=>by cases hx;rfl⟩
 have hcreate:Hid (∀ W,PoolAt W pb db n o d L->JobAt W jb pb byb made by'->Calls Tryz.prog 223 #[ptrTo jb, .string name] W (CreateSinkPost n pb db W o d L name)):=Lib.hid (fun W hW hjW=>jobCreate_any hW hjW hoj hok hno);have hput:Hid (∀ W o' d' kb sb out,PoolAt W pb db n o' d' (mput L name (edgeFile out false))->StreamAt W sb pb name 20->o' sb=none->o' kb=none->kb≠sb->SinkOf W kb sb out->out.length < 65535->∀ x:Edg,
  Calls Tryz.prog 225 #[ptrTo kb, .agg #[.int .u32 (x.t.toNat:Int), .int .u32 (x.h.toNat:Int), .int .u64 (x.x.toNat:Int), .int .u32 (x.m.toNat:Int)]] W (SinkPost n pb db W o' d' (mput L name (edgeFile out false)) name kb sb out x)):=
  Lib.hid (fun W o' d' kb sb out hW hst ho hok' hne hk hl x=>sinkPut_any HW hW hst ho hok' hne (by rw [mget_mput,if_pos rfl]) hl hk x)
 have H:=Lib.hid h;have HJ:=Lib.hid hj;have HVO:=Lib.hid hvo;have HNO:=Lib.hid hno;have HVL:Hid (∀ x,v.ownBlock=some x->x < w.heap.size):=Lib.hid (fun x hx=>(ownBlock_old hv x hx).1);have HOJ:=Lib.hid hoj;have HOB:=Lib.hid hob;have hbest:Hid (∀ ts:List Edg,ts.Perm es->ts.Pairwise (Ahead by')->putL ts=bestOf by' es):=Lib.hid (fun ts h1 h2=>((best_putL h2).congr (fun x=>h1.mem_iff)).eq);obtain ⟨a,cap,rfl,ha⟩:=hshape;have HA:=Lib.hid ha;clear h hj hoj hob hok hno hv hvo hm ha;unfold cmpFn ptrTo at *;generalize hN:es.length=N at *;have HN:=Lib.hid hN;clear hN;go_enter Tryz.func222,Tryz.ntmps222
 go_wp2_with fail
 refine hsort.out.mono ?_;rintro e w1 ⟨ts,rfl,hp1,hs1,hv1,ht1⟩;have htl:ts.length=N:=by rw [hp1.length_eq,HN.out]
 have HTL:=Lib.hid htl;have HM1:Hid (Moved (fun x=>(Value.slice a N cap).ownBlock=some x) n pb db w o d w1 o d L):=Lib.hid ⟨H.out.kept ht1 (fun x hx e=>Owner.not_in_none (HVO.out x e).1 hx) (fun _ _ h=>h) (fun x t hx=>Nat.lt_of_lt_of_le (H.out.owned x t hx) ht1.size),ht1.mono (fun _ _ h=>.inr h),OGrow.refl _ _,Onward.refl _⟩;have HJ1:Hid (JobAt w1 jb pb byb made by'):=Lib.hid (HJ.out.kept (ht1.block _ HJ.out.lt.1 (fun e=>(HVO.out _ e).2.1 rfl)) (ht1.block _ HJ.out.lt.2 (fun e=>(HVO.out _ e).2.2 rfl)));have HV1:=Lib.hid hv1;have HB:=Lib.hid (hbest.out ts hp1 hs1);have hs1:w.heap.size<=w1.heap.size:=ht1.size;clear hp1 hs1 hv1 ht1 htl;have hcall:=Lib.hid (hcreate.out w1 HM1.out.pool HJ1.out);go_wp2_with fail
 refine hcall.out.mono ?_;rintro e w2 ⟨v2,c2,d2,o2,rfl,hm2,he2,hok2⟩;have HE2:=Lib.hid he2;have hs1':w.heap.size<=w1.heap.size:=HM1.out.size;by_cases hc2:c2=0
 ·subst hc2;obtain ⟨kb,sb,rfl,hk2,hst2,hok2',hos2,hne2,hkb,hsb⟩:=hok2 rfl;simp only [if_true] at hm2;have HM2:=Lib.hid (HM1.out.trans hm2 (fun _ _ h=>h.elim));have HV2:Hid (ownsEdges w2 base (.slice a N cap) ts):=Lib.hid (hm2.ownsRow HV1.out (fun b hb=>⟨(HVO.out b hb).1,fun h=>h⟩));have HK2:=Lib.hid hk2;have HST2:=Lib.hid hst2;have HOK2:=Lib.hid hok2';have HOS2:=Lib.hid hos2;have HNE2:=Lib.hid hne2;have HNK:Hid (∀ x,(Value.slice a N cap).ownBlock=some x->x≠kb):=Lib.hid (fun x hx e=>by have:=HVL.out x hx;omega);have hs2:w.heap.size<=kb:=Nat.le_trans hs1' hkb;clear hok2 hm2 hk2 hst2 hok2' hos2 hne2 he2 hcall;unfold ptrTo;go_wp2;go_loopw [27] (fun i wr=>∃ (k:Nat) (d':Dsk) (o':Owner),k<=N/\i=.int .i64 (k:Int)/\Moved (fun x=>(Value.slice a N cap).ownBlock=some x) n pb db w o d wr o' d' (mput L name (edgeFile (putL (ts.take k)) false))/\SinkOf wr kb sb (putL (ts.take k))/\StreamAt wr sb pb name 20/\o' kb=none/\o' sb=none/\ownsEdges wr base (.slice a N cap) ts/\(∀ x,(Value.slice a N cap).ownBlock=some x->o' x=none)) (fun i _=>N - (intOf i).toNat)
  case atStart=>exact ⟨0,d2,o2,Nat.zero_le _,rfl,by simpa [putL] using HM2.out,by simpa [putL] using HK2.out,HST2.out,HOK2.out,HOS2.out,HV2.out,fun x hx=>HM2.out.free (HVL.out x hx) (HVO.out x hx).1⟩
  case round=>
   obtain ⟨k,d3,o3,hk,rfl,hm3,hk3,hst3,hok3,hos3,hv3,hvo3⟩:=hrel;have HM3:=Lib.hid hm3;have HK3:=Lib.hid hk3;have HST3:=Lib.hid hst3;have HOK3:=Lib.hid hok3;have HOS3:=Lib.hid hos3;have HV3:=Lib.hid hv3;have HVO3:=Lib.hid hvo3;have hs3:w.heap.size<=wr.heap.size:=hm3.size;have hkl:=hk3.lt;have hsl:=hst3.lt;clear hm3 hk3 hst3 hok3 hos3 hv3 hvo3;by_cases hlt:k < N
   ·have hkt:k < ts.length:=by rw [HTL.out];exact hlt
    have hshape3:∃ g,a=some ⟨g,0,none⟩/\N<=cap/\cap<=maxLen:=by
     rcases ownsEdges_shape HV3.out with ⟨h1,_⟩ | ⟨g,cap',h1,_,h2,h3⟩
     ·rw [h1] at hkt;simp at hkt
     ·cases h1;rw [HTL.out] at h2;exact ⟨g,rfl,h2,h3⟩
    obtain ⟨g,rfl,hcap1,hcap2⟩:=hshape3;unfold maxLen at hcap2;have hvc:=HV3.out;rw [<- HTL.out] at hvc;obtain ⟨e0,e1,e2,e3⟩:=ownsEdges_cells hvc (List.getElem?_eq_getElem hkt);have hgl:g < wr.heap.size:=World.block_lt_of_cell? _ _ e0;have HPUT:Hid (putL (ts.take (k+1))=put1 (putL (ts.take k)) ts[k]):=Lib.hid (by rw [List.take_succ_eq_append_getElem hkt,putL_snoc]);have hpl:Hid ((putL (ts.take k)).length<=k):=Lib.hid (Nat.le_trans (putL_length _) (List.length_take_le _ _));have hal:Hid (∀ ob:Obj,Moved (fun x=>(Value.slice (some ⟨g,0,none⟩) N cap).ownBlock=some x) n pb db w o d (wr.alloc ob) o3 d3 (mput L name (edgeFile (putL (ts.take k)) false))):=Lib.hid (fun ob=>HM3.out.alloc ob);have hcallp:=Lib.hid (fun W (hW:PoolAt W pb db n o3 d3 (mput L name (edgeFile (putL (ts.take k)) false))) (hst:StreamAt W sb pb name 20) (hsk:SinkOf W kb sb (putL (ts.take k)))=>hput.out W o3 d3 kb sb (putL (ts.take k)) hW hst HOS3.out HOK3.out HNE2.out hsk (by have:=hpl.out;omega) ts[k]);clear hvc;generalize ts[k]=x at *;go_wp2_with fail
    have hbl:∀ ob:Obj,Below wr.heap.size wr (wr.alloc ob):=fun ob=>(Below.refl _ _).alloc (Nat.le_refl _) ob;refine (hcallp.out _ (hal.out _).pool (HST3.out.below (hbl _)) (HK3.out.below (hbl _))).mono ?_;rintro e w4 ⟨c4,d4,o4,rfl,hm4,he4,hk4⟩;have hsz4:wr.heap.size<=w4.heap.size:=Nat.le_trans (by simp) hm4.size;have HV4:Hid (ownsEdges w4 base (.slice (some ⟨g,0,none⟩) N cap) ts):=Lib.hid (hm4.ownsRow (HV3.out.alloc _) (fun b hb=>⟨HVO3.out b hb,HNK.out b hb⟩));have HST4:Hid (StreamAt w4 sb pb name 20):=Lib.hid ((HST3.out.below (hbl _)).moved hm4 HOS3.out (fun e=>HNE2.out e.symm));have HOK4:Hid (o4 kb=none):=Lib.hid (hm4.free (Nat.lt_of_lt_of_le hkl (hbl _).size) HOK3.out);have HOS4:Hid (o4 sb=none):=Lib.hid (hm4.free (Nat.lt_of_lt_of_le hsl (hbl _).size) HOS3.out);have HVO4:Hid (∀ x,(Value.slice (some ⟨g,0,none⟩) N cap).ownBlock=some x->o4 x=none):=Lib.hid (fun x hx=>hm4.free (Nat.lt_of_lt_of_le (by cases hx;exact hgl) (hbl _).size) (HVO3.out x hx));have HK4:=Lib.hid hk4;clear hk4 hcallp e0 e1 e2 e3;by_cases hc4:c4=0
    ·subst hc4;simp only [if_true,mput_mput] at hm4;have HM4:=Lib.hid ((hal.out _).trans hm4 (fun x hx e=>by subst e;omega));have hk5:=HK4.out rfl;rw [<- HPUT.out] at HM4 hk5;have HK5:=Lib.hid hk5;clear hm4 he4 hk5;go_wp2;go_roundw
     case rel=>exact ⟨k+1,d4,o4,by omega,by go_num,HM4.out,HK5.out,HST4.out,HOK4.out,HOS4.out,HV4.out,HVO4.out⟩
     case measure=>simp [intOf];omega
    ·have hc4':¬ (c4:Int)=0:=by omega
     rw [if_neg hc4] at hm4;have HM4:=Lib.hid ((hal.out _).trans hm4 (fun x hx e=>by subst e;omega));have hnd:need (mput L name (edgeFile (putL (ts.take k)) false))<=need L+4*N:=by
      rw [need_mput_fresh _ HNO.out];have h1:=edgeFile_need (putL (ts.take k)) false;have h2:=hpl.out;omega
     have HE4:=Lib.hid (((he4.resolve_left hc4).num hnd).later HM3.out.on.quota);clear hm4 he4 hc4 hnd;go_wp2;go_ret;exact ⟨c4,d4,o4,_,rfl,HM4.out, .inr HE4.out,fun x hx=>by rw [mget_mput,if_neg hx]⟩
   ·obtain rfl:k=N:=by omega
    go_wp2;go_ret;refine ⟨0,d3,o3,_,rfl,HM3.out, .inl ⟨rfl,?_⟩,fun x hx=>by rw [mget_mput,if_neg hx]⟩;rw [List.take_of_length_le (by rw [HTL.out];exact Nat.le_refl _),HB.out]
 ·have hc2':¬ (c2:Int)=0:=by omega
  have HC2:=Lib.hid hc2;rw [if_neg hc2] at hm2;have HM2:=Lib.hid (HM1.out.trans hm2 (fun _ _ h=>h.elim));clear hc2 hm2 hok2 he2 hcall;go_wp2;go_ret;exact ⟨c2,d2,o2,_,rfl,HM2.out, .inr (.inr (HE2.out.resolve_left HC2.out)),fun x _=>rfl⟩
end
end
section
open Go.RowKit
abbrev Run:=Name × List Edg
def runsL (rs:List Run) (L:Logic):Logic:=rs.foldl (fun L p=>mput L p.1 (edgeFile p.2 false)) L
theorem runsL_snoc (rs:List Run) (p:Run) (L:Logic):runsL (rs++[p]) L=mput (runsL rs L) p.1 (edgeFile p.2 false):=by unfold runsL;rw [List.foldl_append];rfl
theorem runsL_cons (rs:List Run) (p:Run) (L:Logic):runsL (p::rs) L=runsL rs (mput L p.1 (edgeFile p.2 false)):=rfl
theorem runsL_other (rs:List Run):∀ (L:Logic) (x:Name),x ∉ rs.map (·.1)->mget (runsL rs L) x=mget L x:=by
 induction rs with
 | nil=>intro L x _;rfl
 | cons p rs ih=>
   intro L x hx;rw [List.map_cons,List.mem_cons,not_or] at hx;rw [runsL_cons,ih _ _ hx.2,mget_mput,if_neg hx.1]
theorem runsL_get (rs:List Run):∀ (L:Logic),(rs.map (·.1)).Nodup->∀ p∈rs,mget (runsL rs L) p.1=some (edgeFile p.2 false):=by
 induction rs with
 | nil=>intro L _ p hp;cases hp
 | cons q rs ih=>
   intro L hn p hp;rw [List.map_cons,List.nodup_cons] at hn;rw [runsL_cons];rcases List.mem_cons.1 hp with rfl | hp
   ·rw [runsL_other _ _ _ hn.1,mget_mput,if_pos rfl]
   ·exact ih _ hn.2 p hp
theorem runsL_keys (rs:List Run):∀ (L:Logic),(L.map (·.1)).Nodup->((runsL rs L).map (·.1)).Nodup:=by
 induction rs with
 | nil=>intro L h;exact h
 | cons p rs ih=>intro L h;exact ih _ (mput_keys h)
def lens (rs:List Run):Nat:=(rs.map (fun p=>p.2.length)).sum
theorem need_mput_le (L:Logic) (k:Name) (f:LFile):need (mput L k f)<=f.need+need L:=by
 unfold mput;rw [need_cons];have:need (mdel L k)<=need L:=by
  induction L with
  | nil=>exact Nat.le_refl _
  | cons q L ih=>
    unfold mdel at ih ⊢;rw [List.filter_cons];split
    ·rw [need_cons,need_cons];omega
    ·rw [need_cons];omega
 dsimp only;omega
theorem runsL_need (rs:List Run):∀ (L:Logic),need (runsL rs L)<=need L+4*lens rs:=by
 induction rs with
 | nil=>intro L;exact Nat.le_add_right _ _
 | cons p rs ih=>
   intro L;rw [runsL_cons];have h1:=ih (mput L p.1 (edgeFile p.2 false));have h2:=need_mput_le L p.1 (edgeFile p.2 false);have h3:=edgeFile_need p.2 false;have h4:lens (p::rs)=p.2.length+lens rs:=by unfold lens;rw [List.map_cons,List.sum_cons]
   omega
theorem lens_append (a b:List Run):lens (a++b)=lens a+lens b:=by unfold lens;rw [List.map_append,List.sum_append]
def allOf (rs:List Run):List Edg:=(rs.map (·.2)).flatten
theorem allOf_append (a b:List Run):allOf (a++b)=allOf a++allOf b:=by unfold allOf;rw [List.map_append,List.flatten_append]
theorem allOf_length (rs:List Run):(allOf rs).length=lens rs:=by
 unfold allOf lens;rw [List.length_flatten,List.map_map];rfl
theorem bestOf_length (b:Bool) (l:List Edg):(bestOf b l).length<=l.length:=by
 unfold bestOf;refine Nat.le_trans (putL_length _) ?_;rw [List.length_mergeSort];exact Nat.le_refl _
theorem bestOf_same (b:Bool) (l:List Edg):bestOf b (bestOf b l)=bestOf b l:=((best_bestOf b l).trans (best_bestOf b (bestOf b l))).eq
theorem bestOf_congr {b:Bool} {l l':List Edg} (h:∀ x,x∈l ↔ x∈l'):bestOf b l=bestOf b l':=((best_bestOf b l).congr h).eq
theorem bestOf_both (b:Bool) (l m:List Edg):bestOf b (bestOf b l++bestOf b m)=bestOf b (l++m):=((best_bestOf b l).both (best_bestOf b m) (best_bestOf b _)).eq
theorem bestOf_right (b:Bool) (l m:List Edg):bestOf b (l++bestOf b m)=bestOf b (l++m):=by
 rw [<- bestOf_both b l m,<- bestOf_both b l (bestOf b m),bestOf_same]
theorem bestOf_lr {b:Bool} {l l' m m':List Edg} (h1:bestOf b l=bestOf b l') (h2:bestOf b m=bestOf b m'):bestOf b (l++m)=bestOf b (l'++m'):=by
 rw [<- bestOf_both,h1,h2,bestOf_both]
theorem bestOf_swap (b:Bool) (l m:List Edg):bestOf b (l++m)=bestOf b (m++l):=bestOf_congr fun x=>by rw [List.mem_append,List.mem_append,or_comm]
structure RunsOk (b:Bool) (es:List Edg) (rs:List Run):Prop where
 each:∀ p∈rs,bestOf b p.2=p.2
 all:bestOf b (allOf rs)=bestOf b es
 len:lens rs<=es.length
 nodup:(rs.map (·.1)).Nodup
def ofSort (out x:Name):Prop:=x=out\/∃ k,k < 128/\x=tName k
theorem nDigits_inj {a b:Nat}:Lib.decDigits a=Lib.decDigits b->a=b:=by
 induction a using Nat.strongRecOn generalizing b with
 | _ a ih=>
   intro h;rw [Lib.decDigits,Lib.decDigits.eq_1 b] at h;by_cases ha:a < 10
   ·by_cases hb:b < 10
    ·rw [dif_pos ha,dif_pos hb] at h;have h1:=List.cons.inj h;have h2:=congrArg UInt8.toNat h1.1;rw [UInt8.toNat_ofNat',UInt8.toNat_ofNat'] at h2;omega
    ·rw [dif_pos ha,dif_neg hb] at h;have h1:=congrArg List.length h;have h2:0 < (Lib.decDigits (b / 10)).length:=by rw [Lib.decDigits_length];exact Lib.nDigits_pos _
     simp at h1;rw [h1] at h2;simp at h2
   ·by_cases hb:b < 10
    ·rw [dif_neg ha,dif_pos hb] at h;have h1:=congrArg List.length h;have h2:0 < (Lib.decDigits (a / 10)).length:=by rw [Lib.decDigits_length];exact Lib.nDigits_pos _
     simp at h1;rw [h1] at h2;simp at h2
    ·rw [dif_neg ha,dif_neg hb] at h;have h1:=List.append_inj' h rfl;have h3:=ih (a / 10) (by omega) h1.1;have h2:=congrArg UInt8.toNat (List.cons.inj h1.2).1;rw [UInt8.toNat_ofNat',UInt8.toNat_ofNat'] at h2;omega
theorem tName_inj {a b:Nat} (h:tName a=tName b):a=b:=by
 unfold tName at h;have h1:=congrArg (fun x:ByteArray=>x.data.toList) h;simp only [List.cons_append,List.nil_append,List.cons.injEq,true_and] at h1;exact nDigits_inj h1
theorem decDigits_ok {k:Nat} (h:k < 100):(Lib.decDigits k).all okByte=true/\(Lib.decDigits k).length<=2:=by
 have hb:∀ j,j < 10->okByte (UInt8.ofNat (48+j))=true:=by decide
 by_cases h1:k < 10
 ·rw [Lib.decDigits_one h1];exact ⟨by simp only [List.all_cons,List.all_nil,Bool.and_true];exact hb k h1,by simp⟩
 ·rw [Lib.decDigits_two h1 h];exact ⟨by simp only [List.all_cons,List.all_nil,Bool.and_true,hb (k / 10) (by omega),hb (k % 10) (by omega)],by simp⟩
theorem tName_ok {k:Nat} (h:k < 100):okName (tName k)=true:=by
 obtain ⟨h1,h2⟩:=decDigits_ok h;unfold okName tName;have hs:(ByteArray.mk ([116,46]++Lib.decDigits k).toArray).size=2+(Lib.decDigits k).length:=by
  show Array.size _=_;simp;omega
 rw [hs];simp only [List.cons_append,List.nil_append,List.all_cons,h1,Bool.and_eq_true,decide_eq_true_eq];refine ⟨⟨⟨by decide,by decide,trivial⟩,by omega⟩,by omega⟩
end
section
open Go.RowKit Go.Maps
def Appd (v:Value) (w w':World) (v':Value):Prop:=w.grownBy w' v.ownBlock/\(v'.ownBlock=v.ownBlock\/v'.ownBlock=some w.heap.size)
theorem wpList_append_at {P:Program} {w:World} {ops:Array Oper} {rest:List Oper} {op:Oper} {a:Act} {Q:Exit->Act->World->Prop} (hgd:op.guard=none) (s x:Operand) (t:TypeId)
 (ho:op.op=.call { callee:=.builtin .append,args:=#[s,x],argTypes:=#[t,t] })
 (base:Nat) (e:TypeId) (z:Value) (size bytes:Nat) (ht:P.underlying t=some (.slice e)) (hi:(P.info? e).map (fun i=>(i.zero,i.size,i.bytes))=some (some z,size,bytes)) (hzs:z.cells.size=size) (hsz:0 < size)
 (v:Value) (n:Nat) (xs:List Value) (hs:a.eval s=v) (hown:w.ownsRow base e size v n xs)
 (ad:Addr) (m c:Nat) (news:List Value) (hx:a.eval x=.slice (some ad) m c) (hl:news.length=m*size) (hnews:∀ j u,news[j]? = some u->w.cell? (ad.add j)=some u) (h1:∀ u∈news,u.oneCell'=true)
 (h63:n+m<=maxLen) (hbytes:(n+m)*bytes<=140737488355328) (hbase:base<=w.heap.size)
 (k:∀ v' w',w'.ownsRow base e size v' (n+m) (xs++news)->Appd v w w' v'->wpList P ops Q rest (a.put op.dst v') w'):wpList P ops Q (op::rest) a w:=by
 obtain ⟨i0,hi0,hz0,hz1,hz2⟩:=info_parts hi;refine wpList_plain hgd fun K hK=>?_;obtain ⟨v',w',g1,g2,g3,g4,g5⟩:=run_append_own_at (P:=P) w base t op.type e i0 z size bytes ht hi0 hz0 hz1 hz2 hzs hsz v n xs hown ad m c news hl hnews h1 h63 hbytes hbase;unfold Oper.wp execOp;simp only [ho,resolve,invoke,builtin,Sem.run_bind,Sem.run_pure,Result.andThen_ok,List.map_toArray,List.map_cons,List.map_nil,hs,hx,g1];exact hK _ _ (k v' w' g2 ⟨g3,g5⟩)
section
variable {w:World} {ops:Array Oper} {rest:List Oper} {op:Oper} {a:Act} {Q:Exit->Act->World->Prop}
theorem wpList_append_edge (hgd:op.guard=none) (s x:Operand) (ho:op.op=.call { callee:=.builtin .append,args:=#[s,x],argTypes:=#[22,22] }) (base:Nat) (v:Value) (l:List Edg) (hs:a.eval s=v) (hown:ownsEdges w base v l)
 (y:Edg) (c:Nat) (hx:a.eval x=.slice (some ⟨w.heap.size,0,none⟩) 1 c) (hl:l.length<=100000) (hbase:base<=w.heap.size)
 (k:∀ v' w',ownsEdges w' base v' (l++[y])->Appd v (w.alloc (.cells #[.int .u32 (y.t.toNat:Int), .int .u32 (y.h.toNat:Int), .int .u64 (y.x.toNat:Int), .int .u32 (y.m.toNat:Int)] 64)) w' v'->wpList Tryz.prog ops Q rest (a.put op.dst v') w') :
 wpList Tryz.prog ops Q (op::rest) a (w.alloc (.cells #[.int .u32 (y.t.toNat:Int), .int .u32 (y.h.toNat:Int), .int .u64 (y.x.toNat:Int), .int .u32 (y.m.toNat:Int)] 64)):=by
 refine wpList_append_at hgd s x 22 ho base 64 _ 4 24 Tryz.underlying22 info_edge rfl (by decide) v l.length (edgRow l) hs (World.ownsRow.alloc hown _) ⟨w.heap.size,0,none⟩ 1 c y.cells hx rfl (fun j u hj=>?_) (by simp [Value.oneCell']) (by unfold maxLen;omega) (by omega) (by simp;omega) (fun v' w' h1 h2=>k v' w' ?_ h2)
 ·rw [Addr_add,Nat.zero_add];match j,hj with
  | 0,hj=>cases hj;simp
  | 1,hj=>cases hj;simp
  | 2,hj=>cases hj;simp
  | 3,hj=>cases hj;simp
  | j+4,hj=>cases hj
 ·unfold ownsEdges;rw [edgRow_append,List.length_append];exact h1
theorem wpList_append_str (hgd:op.guard=none) (s x:Operand) (ho:op.op=.call { callee:=.builtin .append,args:=#[s,x],argTypes:=#[91,91] }) (base:Nat) (v:Value) (l:List Name) (hs:a.eval s=v) (hown:w.ownsRow base 9 1 v l.length (l.map Value.string))
 (y:Name) (c:Nat) (hx:a.eval x=.slice (some ⟨w.heap.size,0,none⟩) 1 c) (hl:l.length<=100000) (hbase:base<=w.heap.size)
 (k:∀ v' w',w'.ownsRow base 9 1 v' (l++[y]).length ((l++[y]).map Value.string)->Appd v (w.alloc (.cells #[.string y] 9)) w' v'->wpList Tryz.prog ops Q rest (a.put op.dst v') w') :
 wpList Tryz.prog ops Q (op::rest) a (w.alloc (.cells #[.string y] 9)):=by
 refine wpList_append_at hgd s x 91 ho base 9 _ 1 16 Tryz.underlying91 info_string rfl (by decide) v l.length (l.map Value.string) hs (World.ownsRow.alloc hown _) ⟨w.heap.size,0,none⟩ 1 c [.string y] hx rfl (fun j u hj=>?_) (by simp [Value.oneCell']) (by unfold maxLen;omega) (by omega) (by simp;omega) (fun v' w' h1 h2=>k v' w' ?_ h2)
 ·rw [Addr_add,Nat.zero_add];match j,hj with
  | 0,hj=>cases hj;simp
  | j+1,hj=>cases hj
 ·rw [List.map_append,List.length_append];exact h1
end
section
variable {S:Nat->Prop} {n pb db:Nat} {w W w':World} {o o':Owner} {d d':Dsk} {L':Logic} {v v':Value}
theorem Appd.moved {ob:Obj} (ha:Appd v (W.alloc ob) w' v') (hm:Moved S n pb db w o d W o' d' L') (hv:∀ x,v.ownBlock=some x->o' x=none/\w.heap.size<=x) :
 Moved S n pb db w o d w' o' d' L'/\(∀ x,v'.ownBlock=some x->o' x=none/\w.heap.size<=x)/\(∀ x,x < W.heap.size->v.ownBlock≠some x->w'.heap[x]? = W.heap[x]?)/\W.heap.size<=w'.heap.size:=by
 obtain ⟨hg,hb⟩:=ha;have hs:W.heap.size < (W.alloc ob).heap.size:=by simp
 refine ⟨(hm.alloc ob).grown hg (fun k hk=>⟨(hv k hk).1, .inr (hv k hk).2⟩),fun x hx=>?_,fun x hx hne=>?_,Nat.le_trans (Nat.le_of_lt hs) hg.size⟩
 ·rcases hb with e | e
  ·rw [e] at hx;exact hv x hx
  ·rw [e] at hx;cases hx;exact ⟨hm.pool.fresh (Nat.le_of_lt hs),Nat.le_trans hm.size (Nat.le_of_lt hs)⟩
 ·exact (hg.block x (Nat.lt_trans hx hs) (fun e=>hne e.symm)).trans ((MapKept.heap_alloc W ob).2 x hx)
theorem ownsRow_heap {base:Nat} {e:TypeId} {size:Nat} {k:Nat} {xs:List Value} (hr:W.ownsRow base e size v k xs) (hb:∀ x,v.ownBlock=some x->w'.heap[x]? = W.heap[x]?):w'.ownsRow base e size v k xs:=by
 obtain ⟨hl,hr⟩:=hr;refine ⟨hl,?_⟩;rcases hr with hr | ⟨g,cap,cur,hv,hg,hh,r⟩
 ·exact .inl hr
 ·exact .inr ⟨g,cap,cur,hv,hg,(hb g (by rw [hv];rfl)).trans hh,r⟩
theorem ownsRow_apart {base base':Nat} {e e':TypeId} {size size' k k':Nat} {xs xs':List Value} (h:W.ownsRow base e size v k xs) (h':W.ownsRow base' e' size' v' k' xs') (hne:e≠e'):∀ x,v.ownBlock=some x->v'.ownBlock≠some x:=by
 intro x hx hx';obtain ⟨_,⟨h1,_⟩ | ⟨g,cap,cur,h1,_,h2,_⟩⟩:=h
 ·rw [h1] at hx;cases hx
 ·obtain ⟨_,⟨g1,_⟩ | ⟨g',cap',cur',g1,_,g2,_⟩⟩:=h'
  ·rw [g1] at hx';cases hx'
  ·rw [h1] at hx;rw [g1] at hx';cases hx;cases hx';rw [h2] at g2;have:=Option.some.inj g2;injection this with a b;exact hne b
end
end
end Go.Proofs.YthkkgdpomhhjjaaGreatDoor
