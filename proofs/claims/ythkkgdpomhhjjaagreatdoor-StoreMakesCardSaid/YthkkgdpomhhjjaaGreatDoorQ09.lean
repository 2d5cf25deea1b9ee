/-
  Joined.
-/
import Derived.Test.YthkkgdpomhhjjaaGreatDoorQ08
import Derived.Sort.LotD5
import Derived.Sort.Walk7
import Derived.Deep.CutBlock
import Derived.Sort.WalkC
import Derived.Sort.WalkA6
import Derived.Sort.AssemblyPlain
import Derived.Sort.Walk13a
namespace Go.Proofs.YthkkgdpomhhjjaaGreatDoor
section
open Go.RowKit Go.Maps Go.Sort
section
variable {bt:Bool} {w0 W W':World} {jb pb byb made base g cap c:Nat} {d:Array Edg}
structure Bxd (bt:Bool) (w0:World) (jb pb byb made base g cap:Nat) (d:Array Edg) (c:Nat) (v:Value) (W:World):Prop where
 srt:Srt bt w0 jb pb byb made base g cap d W
 box:∃ T,W.heap[c]? = some (.cells #[v] T (0,0))
 new:w0.heap.size<=c
 ng:c≠g
 nj:c≠jb
 nb:c≠byb
theorem Bxd.cell {v:Value} (h:Bxd bt w0 jb pb byb made base g cap d c v W):W.cell? ⟨c,0,none⟩=some v/\W.frozen? ⟨c,0,none⟩=false:=by
 obtain ⟨T,hT⟩:=h.box;exact ⟨by rw [cells_cell hT];rfl,cells_frozen hT _⟩
theorem Bxd.below {v:Value} (h:Bxd bt w0 jb pb byb made base g cap d c v W) (hb:RowKit.Below W.heap.size W W'):Bxd bt w0 jb pb byb made base g cap d c v W':=by
 obtain ⟨T,hT⟩:=h.box;exact ⟨h.srt.below hb,⟨T,by rw [hb.block c (Array.getElem?_eq_some_iff.1 hT).1];exact hT⟩,h.new,h.ng,h.nj,h.nb⟩
theorem Bxd.put {v:Value} (h:Bxd bt w0 jb pb byb made base g cap d c v W) (u:Value):Bxd bt w0 jb pb byb made base g cap d c u (W.setCell ⟨c,0,none⟩ u):=by
 obtain ⟨T,hT⟩:=h.box;have ht:Turn (·=c) W (W.setCell ⟨c,0,none⟩ u):=Turn.setCell (Turn.refl _ _) _ _ (.inl rfl);refine ⟨⟨ht.ownsRow h.srt.row (fun b hb e=>?_),h.srt.job.kept (ht.block _ h.srt.job.lt.1 (fun e=>h.nj e.symm)) (ht.block _ h.srt.job.lt.2 (fun e=>h.nb e.symm)),h.srt.nj,h.srt.nb,h.srt.turn.setCell _ _ (.inr h.new)⟩,⟨T,by rw [cells_set hT];rfl⟩,h.new,h.ng,h.nj,h.nb⟩;have:b=g:=by
  have:=hb;simp [Value.ownBlock] at this;exact this.symm
 exact h.ng (by rw [<- e,this])
theorem Bxd.swapped {v:Value} (h:Bxd bt w0 jb pb byb made base g cap d c v W) {d':Array Edg} {p q:Nat} {v0 v1 v2 v3 u0 u1 u2 u3:Value}
 (hs:Srt bt w0 jb pb byb made base g cap d' (((((((((W.setCell ⟨g,p,none⟩ v0).setCell ⟨g,p+1,none⟩ v1).setCell ⟨g,p+2,none⟩ v2).setCell ⟨g,p+3,none⟩ v3).setCell ⟨g,q,none⟩ u0).setCell ⟨g,q+1,none⟩ u1).setCell ⟨g,q+2,none⟩ u2).setCell ⟨g,q+3,none⟩ u3).drew)) :
 Bxd bt w0 jb pb byb made base g cap d' c v (((((((((W.setCell ⟨g,p,none⟩ v0).setCell ⟨g,p+1,none⟩ v1).setCell ⟨g,p+2,none⟩ v2).setCell ⟨g,p+3,none⟩ v3).setCell ⟨g,q,none⟩ u0).setCell ⟨g,q+1,none⟩ u1).setCell ⟨g,q+2,none⟩ u2).setCell ⟨g,q+3,none⟩ u3).drew):=by
 obtain ⟨T,hT⟩:=h.box;have ht:Turn (·=g) W (((((((((W.setCell ⟨g,p,none⟩ v0).setCell ⟨g,p+1,none⟩ v1).setCell ⟨g,p+2,none⟩ v2).setCell ⟨g,p+3,none⟩ v3).setCell ⟨g,q,none⟩ u0).setCell ⟨g,q+1,none⟩ u1).setCell ⟨g,q+2,none⟩ u2).setCell ⟨g,q+3,none⟩ u3).drew):=
  ((((((((((Turn.refl (·=g) W).setCell _ _ (.inl rfl)).setCell _ _ (.inl rfl)).setCell _ _ (.inl rfl)).setCell _ _ (.inl rfl)).setCell _ _ (.inl rfl)).setCell _ _ (.inl rfl)).setCell _ _ (.inl rfl)).setCell _ _ (.inl rfl))).drew
 exact ⟨hs,⟨T,ht.heap hT h.ng⟩,h.new,h.ng,h.nj,h.nb⟩
set_option maxRecDepth 100000 in
set_option maxHeartbeats 16000000 in
theorem breakPatterns_any (h:Srt bt w0 jb pb byb made base g cap d W) (a b:Nat) (hl:12 < b - a) (hb:b<=d.size) (hsz:d.size<=1000000) :
 Calls Tryz.prog 307 #[.slice (some ⟨g,0,none⟩) d.size cap, .int .i64 (a:Int), .int .i64 (b:Int),cmpFn jb] W (SrtPost bt w0 jb pb byb made base g cap (breakPatterns d a b)):=by
 have hgl:g < W.heap.size:=by
  obtain ⟨_,⟨h0,_⟩ | ⟨g',cap',cur,hv,_,hh,_⟩⟩:=h.row
  ·cases h0
  ·cases hv;exact (Array.getElem?_eq_some_iff.1 hh).1
 have hjl:=h.job.lt;obtain ⟨L,hL⟩:∃ L,L=b - a:=⟨_,rfl⟩;obtain rfl:b=a+L:=by omega
 have hL8:8<=L:=by omega
 rw [breakPatterns_eq d a L hL8];obtain ⟨M,hM⟩:∃ M:Nat,M=1 <<< bitsLen L:=⟨_,rfl⟩;have hM1:1<=M:=by rw [hM,Nat.one_shiftLeft];exact Nat.two_pow_pos _
 have hM2:M<=2*L:=by rw [hM,Nat.one_shiftLeft];exact two_pow_bitsLen_le (by omega)
 have HNP:Hid (∀ W',Calls Tryz.prog 192 #[.int .i64 (L:Int)] W' fun e w'=>e=.returned (.int .u64 (M:Int))/\w'=W'):=Lib.hid (fun W'=>by
  rw [hM];exact AnyF.nextPowerOfTwo (P:=Tryz.prog) (ρ:=Tryz.sortEdges_ren) { Tryz.sortEdges with } L (by omega) W')
 have HNX:Hid (∀ (W':World) (rb X:Nat),X < 18446744073709551616->W'.cell? ⟨rb,0,none⟩=some (.int .u64 (X:Int))->W'.frozen? ⟨rb,0,none⟩=false->Calls Tryz.prog 193 #[.pointer (some ⟨rb,0,none⟩)] W' fun e w'=>e=.returned (.int .u64 (xorNextN X:Nat))/\w'=(W'.setCell ⟨rb,0,none⟩ (.int .u64 (xorNextN X:Nat))).drewN 3):=Lib.hid (fun W' rb X hX hc hf=>
  AnyF.xorshift_Next (P:=Tryz.prog) (ρ:=Tryz.sortEdges_ren) { Tryz.sortEdges with } rb 0 X hX W' hc hf)
 rw [<- hM];obtain ⟨N,hN⟩:∃ N,N=d.size:=⟨_,rfl⟩;rw [<- hN] at hb hsz ⊢;have HN:=Lib.hid hN;obtain ⟨Q,hQ⟩:∃ Q,Q=L / 4:=⟨_,rfl⟩;obtain ⟨Q2,hQ2⟩:∃ Q2,Q2=Q*2:=⟨_,rfl⟩;obtain ⟨A2,hA2⟩:∃ A2,A2=a+Q2:=⟨_,rfl⟩;obtain ⟨E,hE⟩:∃ E,E=A2+1:=⟨_,rfl⟩;obtain ⟨B,hB⟩:∃ B,B=A2 - 1:=⟨_,rfl⟩;obtain ⟨BN,hBN⟩:∃ BN,BN=a+L:=⟨_,rfl⟩;have wL:IntKind.i64.wrap ((BN:Int) - (a:Int))=(L:Int):=by rw [wrap_in]<;>omega
 have wL64:IntKind.u64.wrap (L:Int)=(L:Int):=wraps_u64 _ (by omega) (by omega);have wQ:IntKind.i64.wrap ((L:Int) / 4)=(Q:Int):=by rw [wrap_in]<;>omega
 have wQ2:IntKind.i64.wrap ((Q:Int)*2)=(Q2:Int):=by rw [wrap_in]<;>omega
 have wA2:IntKind.i64.wrap ((a:Int)+(Q2:Int))=(A2:Int):=by rw [wrap_in]<;>omega
 have wE:IntKind.i64.wrap ((A2:Int)+1)=(E:Int):=by rw [wrap_in]<;>omega
 have wB:IntKind.i64.wrap ((A2:Int) - 1)=(B:Int):=by rw [wrap_in]<;>omega
 have wM:IntKind.u64.wrap ((M:Int) - 1)=(M:Int) - 1:=wraps_u64 _ (by omega) (by omega);have l8:¬ (L:Int) < 8:=by omega
 have HB:Hid (E=B+2/\B+3<=a+L/\a+L<=N/\a<=B/\8<=L/\1<=M/\M<=2*L/\L<=N/\N<=1000000):=Lib.hid (by omega);have HBE:Hid (a+L / 4*2 - 1=B):=Lib.hid (by omega);have H0:Hid (Bxd bt w0 jb pb byb made base g cap d W.heap.size (.int .u64 (L:Int)) (W.alloc (.cells #[.int .u64 (L:Int)] 280))):=Lib.hid ⟨h.below ((Below.refl _ _).alloc (Nat.le_refl _) _),⟨_,heap_alloc_new W _⟩,h.turn.size,by omega,by omega,by omega⟩;rw [<- hBN];rw [HBE.out];clear h hgl hjl hL hM hM1 hM2 hN hQ hQ2 hA2 hE hB hBN hb hsz hL8 hl;unfold cmpFn ptrTo at *;go_enter Tryz.func307,Tryz.ntmps307
 go_wp2_with fail
 generalize W.heap.size=rb at H0 ⊢;generalize W.alloc (.cells #[.int .u64 (L:Int)] 280)=W1 at H0 ⊢;refine (HNP.out _).mono ?_;rintro e w' ⟨rfl,hw'⟩;obtain rfl:=hw';clear HNP;go_wp2;go_loopw [11] (fun vi wr=>∃ (i t:Nat) (r:UInt64) (dk:Array Edg),vi=.int .i64 (i:Int)/\t<=3/\dk.size=N/\Bxd bt w0 jb pb byb made base g cap dk rb (.int .u64 (r.toNat:Int)) wr/\Hid (i=B+t)/\Hid (bpRest a L M B (3 - t) t (r,dk)=bpRest a L M B 3 0 (UInt64.ofNat L,d))) (fun vi _=>B+3 - (intOf vi).toNat)
 case atStart=>
  refine ⟨B,0,UInt64.ofNat L,d,rfl,by omega,HN.out.symm,?_,Lib.hid rfl,rfl⟩;rw [show (UInt64.ofNat L).toNat=L from by rw [UInt64.toNat_ofNat'];have:=HB.out;omega];exact H0.out
 case round=>
  obtain ⟨i,t,r,dk,rfl,ht,hsk,hs,hi,HO⟩:=hrel;generalize wr=Wr at *;have HS:=Lib.hid hs;have HSK:=Lib.hid hsk;clear hs hsk;by_cases ht3:t < 3
  ·obtain ⟨R0,hR0⟩:∃ R0:Nat,R0=r.toNat:=⟨_,rfl⟩;have lR:R0 < 18446744073709551616:=by rw [hR0];exact r.toNat_lt
   obtain ⟨R',hR'⟩:∃ R':Nat,R'=xorNextN R0:=⟨_,rfl⟩;have lR':R' < 18446744073709551616:=by rw [hR'];exact xorNextN_lt R0 lR
   obtain ⟨O,hO⟩:∃ O:Nat,O=R' &&& (M - 1):=⟨_,rfl⟩;have lO:O<=M - 1:=by rw [hO];exact Nat.and_le_right
   have eAnd:bits .and .u64 (R':Int) ((M:Int) - 1)=(O:Int):=by
    have:=HB.out;rw [show ((M:Int) - 1)=((M - 1:Nat):Int) by omega,bits_and_u64_nat _ _ lR' (by omega),hO]
   have HN2:Hid (R'=(xorNext r).toNat/\O=(xorNext r).toNat &&& (M - 1)):=Lib.hid (by
    have e:R'=(xorNext r).toNat:=by rw [hR',hR0,xorNext_toNat]
    exact ⟨e,by rw [hO,e]⟩)
   have hcl:=HS.out.cell;rw [<- hR0] at hcl;have HNext:Hid (Calls Tryz.prog 193 #[.pointer (some ⟨rb,0,none⟩)] Wr fun e w'=>e=.returned (.int .u64 (R':Int))/\Bxd bt w0 jb pb byb made base g cap dk rb (.int .u64 (R':Int)) w'):=Lib.hid ((HNX.out Wr rb R0 lR hcl.1 hcl.2).mono fun e w' ⟨h1,h2⟩=>by
    rw [<- hR'] at h1 h2;refine ⟨h1,?_⟩;rw [h2];exact (HS.out.put _).below ⟨rfl,rfl,rfl,Nat.le_refl _,fun _ _=>rfl⟩)
   have hieN:i<=E/\i < N/\O<=2000000:=by have:=HB.out;have:=hi.out;omega
   have hie:(i:Int)<=(E:Int):=by omega
   have bi:(i:Int) < (N:Int):=by omega
   have wO:IntKind.i64.wrap (O:Int)=(O:Int):=wrap_in (by omega) (by omega);have wi1:IntKind.i64.wrap ((i:Int)+1)=((i+1:Nat):Int):=by
    have:=HB.out;rw [wrap_in]<;>omega
   have HLO:=Lib.hid lO;have HIE:=Lib.hid hieN;clear hR0 hR' hO lR lR' lO hcl hieN;by_cases hLO:L<=O
   ·obtain ⟨V,hV⟩:∃ V,V=O - L:=⟨_,rfl⟩;obtain ⟨P,hP⟩:∃ P,P=a+V:=⟨_,rfl⟩;have hLOz:(O:Int) >= (L:Int):=by omega
    have wV:IntKind.i64.wrap ((O:Int) - (L:Int))=(V:Int):=by
     have:=HB.out;have:=HLO.out;have:=HIE.out
     rw [wrap_in]<;>omega
    have wP:IntKind.i64.wrap ((a:Int)+(V:Int))=(P:Int):=by
     have:=HB.out;have:=HLO.out;have:=HIE.out
     rw [wrap_in]<;>omega
    have hPN:P < N:=by have:=HB.out;have:=HLO.out;omega
    have bP:(P:Int) < (N:Int):=by omega
    have HBP:Hid (bpRest a L M B (3 - (t+1)) (t+1) (xorNext r,swp dk i P)=bpRest a L M B 3 0 (UInt64.ofNat L,d)):=Lib.hid (by
     rw [<- HO.out,bp_step a L M B t r dk V ht3 (by rw [<- HN2.out.2,if_pos hLO,hV]),hi.out,hP])
    clear hV hP;have HIP:Hid (i < dk.size/\P < dk.size):=Lib.hid (by rw [HSK.out];have:=HIE.out;omega);go_wp2_with fail
    refine HNext.out.mono ?_;rintro e w2 ⟨rfl,hb2⟩;have HB2:=Lib.hid hb2;clear hb2 HNext;obtain ⟨x,hx⟩:∃ x,dk[i]! = x:=⟨_,rfl⟩;by_cases hiP:i=P
    ·subst hiP;obtain ⟨pp,hpp,⟨x0,x1,x2,x3⟩,hfr,hdone⟩:=HB2.out.srt.exchSelf (i:=i) HIP.out.1 hx;have HD:=Lib.hid (HB2.out.swapped hdone);clear hdone;go_wp2_with fail
     go_big_region
     all_goals
      clear x0 x1 x2 x3 hfr;go_wp2;refine ⟨⟨i+1,t+1,xorNext r,swp dk i i,rfl,by omega,by rw [size_swp];exact HSK.out,by rw [<- HN2.out.1];exact HD.out,Lib.hid (by have:=hi.out;omega),HBP.out⟩,?_⟩;have:=HB.out;have:=hi.out;simp [intOf];omega
    ·obtain ⟨y,hy⟩:∃ y,dk[P]! = y:=⟨_,rfl⟩;obtain ⟨pp,qq,hex⟩:=HB2.out.srt.exch (i:=i) (j:=P) HIP.out.1 HIP.out.2 hx hy;have HEX:=Lib.hid hex;have HD:=Lib.hid (HB2.out.swapped hex.done);obtain ⟨hpp,hqq,x0,x1,x2,x3,y0,y1,y2,y3,hfr,hap,-⟩:=hex;obtain ⟨n0,n1,n2,n3,n4,n5,n6⟩:=hap hiP;clear hap;go_wp2_with fail
     go_big_region
     all_goals
      clear x0 x1 x2 x3 y0 y1 y2 y3 n0 n1 n2 n3 n4 n5 n6 hfr;go_wp2;refine ⟨⟨i+1,t+1,xorNext r,swp dk i P,rfl,by omega,by rw [size_swp];exact HSK.out,by rw [<- HN2.out.1];exact HD.out,Lib.hid (by have:=hi.out;omega),HBP.out⟩,?_⟩;have:=HB.out;have:=hi.out;simp [intOf];omega
   ·obtain ⟨P,hP⟩:∃ P,P=a+O:=⟨_,rfl⟩;have hLOz:¬ (O:Int) >= (L:Int):=by omega
    have wP:IntKind.i64.wrap ((a:Int)+(O:Int))=(P:Int):=by
     have:=HB.out;have:=HLO.out;have:=HIE.out
     rw [wrap_in]<;>omega
    have hPN:P < N:=by have:=HB.out;omega
    have bP:(P:Int) < (N:Int):=by omega
    have HBP:Hid (bpRest a L M B (3 - (t+1)) (t+1) (xorNext r,swp dk i P)=bpRest a L M B 3 0 (UInt64.ofNat L,d)):=Lib.hid (by
     rw [<- HO.out,bp_step a L M B t r dk O ht3 (by rw [<- HN2.out.2,if_neg (by omega)]),hi.out,hP])
    clear hP;have HIP:Hid (i < dk.size/\P < dk.size):=Lib.hid (by rw [HSK.out];have:=HIE.out;omega);go_wp2_with fail
    refine HNext.out.mono ?_;rintro e w2 ⟨rfl,hb2⟩;have HB2:=Lib.hid hb2;clear hb2 HNext;obtain ⟨x,hx⟩:∃ x,dk[i]! = x:=⟨_,rfl⟩;by_cases hiP:i=P
    ·subst hiP;obtain ⟨pp,hpp,⟨x0,x1,x2,x3⟩,hfr,hdone⟩:=HB2.out.srt.exchSelf (i:=i) HIP.out.1 hx;have HD:=Lib.hid (HB2.out.swapped hdone);clear hdone;go_wp2_with fail
     go_big_region
     all_goals
      clear x0 x1 x2 x3 hfr;go_wp2;refine ⟨⟨i+1,t+1,xorNext r,swp dk i i,rfl,by omega,by rw [size_swp];exact HSK.out,by rw [<- HN2.out.1];exact HD.out,Lib.hid (by have:=hi.out;omega),HBP.out⟩,?_⟩;have:=HB.out;have:=hi.out;simp [intOf];omega
    ·obtain ⟨y,hy⟩:∃ y,dk[P]! = y:=⟨_,rfl⟩;obtain ⟨pp,qq,hex⟩:=HB2.out.srt.exch (i:=i) (j:=P) HIP.out.1 HIP.out.2 hx hy;have HEX:=Lib.hid hex;have HD:=Lib.hid (HB2.out.swapped hex.done);obtain ⟨hpp,hqq,x0,x1,x2,x3,y0,y1,y2,y3,hfr,hap,-⟩:=hex;obtain ⟨n0,n1,n2,n3,n4,n5,n6⟩:=hap hiP;clear hap;go_wp2_with fail
     go_big_region
     all_goals
      clear x0 x1 x2 x3 y0 y1 y2 y3 n0 n1 n2 n3 n4 n5 n6 hfr;go_wp2;refine ⟨⟨i+1,t+1,xorNext r,swp dk i P,rfl,by omega,by rw [size_swp];exact HSK.out,by rw [<- HN2.out.1];exact HD.out,Lib.hid (by have:=hi.out;omega),HBP.out⟩,?_⟩;have:=HB.out;have:=hi.out;simp [intOf];omega
  ·have hie:¬ (i:Int)<=(E:Int):=by have:=HB.out;have:=hi.out;omega
   go_wp2;go_end0
   refine ⟨rfl,?_⟩;have h3:t=3:=by omega
   subst h3;rw [<- HO.out];exact HS.out.srt
end
end
section
open Go.RowKit Go.Maps Go.Sort
section
variable {bt:Bool} {w0 W W':World} {jb pb byb made base g cap:Nat} {d:Array Edg}
def PartPost (bt:Bool) (w0:World) (jb pb byb made base g cap:Nat) (r:Nat × Bool × Array Edg) (e:Ending) (w':World):Prop:=
 e=.returned (.tuple #[.int .i64 (r.1:Int), .bool r.2.1])/\Srt bt w0 jb pb byb made base g cap r.2.2 w'
theorem scan_apart {p q:Edg->Bool} {d:Array Edg} {i j u v:Nat} (hq:∀ x,q x=!p x) (hu:u=scanUp p d j i) (hv:v=scanDown q d u j) (h0:0 < v):u≠v:=by
 intro e;have h1:=(scanUp_spec p d j _ i rfl).2.2.2;have h2:=(scanDown_spec q d u j).2.2.2;rw [<- hu] at h1;rw [<- hv] at h2;have h3:=(scanDown_spec q d u j).1;rw [<- hv] at h3;have k1:=h1 (by omega);have k2:=h2 (by omega) h0;rw [hq,<- e,k1] at k2;cases k2
theorem scan_bounds {p q:Edg->Bool} {d:Array Edg} {i j u v:Nat} (hij:i<=j+1) (hu:u=scanUp p d j i) (hv:v=scanDown q d u j):i<=u/\u<=j+1/\v<=j/\u<=v+1:=by
 have h1:=scanUp_spec p d j _ i rfl;rw [<- hu] at h1;have h2:=scanDown_spec q d u j;rw [<- hv] at h2;exact ⟨h1.1,h1.2.1 hij,h2.1,h2.2.1 (h1.2.1 hij)⟩
theorem scan_up_in {p:Edg->Bool} {d:Array Edg} {i j u:Nat} (hij:i<=j+1) (hu:u=scanUp p d j i):i<=u/\u<=j+1:=by
 have h1:=scanUp_spec p d j _ i rfl;rw [<- hu] at h1;exact ⟨h1.1,h1.2.1 hij⟩
theorem partLoop_step {lt:Edg->Edg->Bool} {a i j u v:Nat} {d:Array Edg} (hu:u=scanUp (fun x=>lt x d[a]!) d j i) (hv:v=scanDown (fun x=>!lt x d[a]!) d u j) :
 partLoop lt a i j d=if u > v then (v,d) else partLoop lt a (u+1) (v - 1) (swp d u v):=by
 subst hu;subst hv;exact partLoop_eq lt a i j d
theorem partition_step {lt:Edg->Edg->Bool} {a b pv u v:Nat} {d D:Array Edg} {r:Nat × Array Edg} (hD:D=swp d a pv) (hu:u=scanUp (fun x=>lt x D[a]!) D (b - 1) (a+1)) (hv:v=scanDown (fun x=>!lt x D[a]!) D u (b - 1)) (hr:¬ u > v->r=partLoop lt a (u+1) (v - 1) (swp D u v)) :
 partition lt d a b pv=if u > v then (v,true,swp D v a) else (r.1,false,swp r.2 r.1 a):=by
 subst hD;subst hu;subst hv;unfold partition;dsimp only;split
 ·rfl
 ·rename_i h
  rw [hr h]
set_option maxRecDepth 100000 in
set_option maxHeartbeats 32000000 in
theorem partition_any (h:Srt bt w0 jb pb byb made base g cap d W) (a b pv:Nat) (hap:a<=pv) (hpb:pv < b) (hb:b<=d.size) (hsz:d.size<=1000000) :
 Calls Tryz.prog 312 #[.slice (some ⟨g,0,none⟩) d.size cap, .int .i64 (a:Int), .int .i64 (b:Int), .int .i64 (pv:Int),cmpFn jb] W (PartPost bt w0 jb pb byb made base g cap (partition (ltOf (cmpE bt)) d a b pv)):=by
 have H:=Lib.hid h;obtain ⟨N,hN⟩:∃ N,N=d.size:=⟨_,rfl⟩;rw [<- hN] at hb hsz ⊢;have HN:=Lib.hid hN;clear h hN;obtain ⟨J0,hJ0⟩:∃ J0,J0=b - 1:=⟨_,rfl⟩;have wJ0:IntKind.i64.wrap ((b:Int) - 1)=(J0:Int):=by rw [wrap_in]<;>omega
 have wI0:IntKind.i64.wrap ((a:Int)+1)=((a+1:Nat):Int):=by rw [wrap_in]<;>omega
 have ba:(a:Int) < (N:Int):=by omega
 have bp:(pv:Int) < (N:Int):=by omega
 have HB:Hid (a < d.size/\pv < d.size/\J0 < N/\a<=J0/\N<=1000000/\J0=b - 1/\d.size=N):=Lib.hid (by have:=HN.out;omega);clear hJ0 hap hpb hb hsz;unfold cmpFn ptrTo;go_enter Tryz.func312,Tryz.ntmps312
 go_upto_region 1 with fail
 go_cut [] from 14 to 27 (fun wx=>Srt bt w0 jb pb byb made base g cap (swp d a pv) wx)
 case first=>
  obtain ⟨x,hx⟩:∃ x,d[a]! = x:=⟨_,rfl⟩;have HIJ:Hid (a < d.size/\pv < d.size):=Lib.hid (by have:=HB.out;omega);by_cases heq:a=pv
  ·subst heq;obtain ⟨pp,hpp,⟨x0,x1,x2,x3⟩,hfr,hdone⟩:=H.out.exchSelf (i:=a) HIJ.out.1 hx;have HD:=Lib.hid hdone;clear hdone;go_big_region
   all_goals
    clear x0 x1 x2 x3 hfr;go_wp2;go_meet
    exact HD.out
  ·obtain ⟨y,hy⟩:∃ y,d[pv]! = y:=⟨_,rfl⟩;obtain ⟨pp,qq,hex⟩:=H.out.exch (i:=a) (j:=pv) HIJ.out.1 HIJ.out.2 hx hy;have HEX:=Lib.hid hex;obtain ⟨hpp,hqq,x0,x1,x2,x3,y0,y1,y2,y3,hfr,hapt,-⟩:=hex;obtain ⟨n0,n1,n2,n3,n4,n5,n6⟩:=hapt heq;clear hapt;go_big_region
   all_goals
    clear x0 x1 x2 x3 y0 y1 y2 y3 n0 n1 n2 n3 n4 n5 n6 hfr;go_wp2;go_meet
    exact HEX.out.done
 case rest=>
  have HS1:=Lib.hid hcut;clear hcut;obtain ⟨D1,hD1⟩:∃ D1,D1=swp d a pv:=⟨_,rfl⟩;rw [<- hD1] at HS1;have hs1:D1.size=N:=by rw [hD1,size_swp];exact HN.out.symm
  have HD1:=Lib.hid hD1;have HX1:Hid (a < D1.size/\J0 < D1.size/\D1.size=N/\a+1<=J0+1/\N<=1000000):=Lib.hid (by have:=HB.out;omega);clear hD1 hs1;go_upto_block 0 with fail
  go_cut [12] from 32 to 49 (fun vi wx=>∃ i:Nat,vi=.int .i64 (i:Int)/\Srt bt w0 jb pb byb made base g cap D1 wx/\Hid (i=scanUp (fun x=>ltOf (cmpE bt) x D1[a]!) D1 J0 (a+1)))
  case first=>
   go_wp2_with fail
   go_loopw [12] (fun vi wr=>∃ i:Nat,vi=.int .i64 (i:Int)/\(a+1)<=i/\i<=J0+1/\Srt bt w0 jb pb byb made base g cap D1 wr/\Hid (scanUp (fun x=>ltOf (cmpE bt) x D1[a]!) D1 J0 i=scanUp (fun x=>ltOf (cmpE bt) x D1[a]!) D1 J0 (a+1))) (fun vi _=>J0+1 - (intOf vi).toNat)
   case atStart=>exact ⟨(a+1),rfl,by have:=HX1.out;omega,by have:=HX1.out;omega,HS1.out,rfl⟩
   case round=>
    obtain ⟨i,rfl,hb1,hb2,hs,HO⟩:=hrel;generalize wr=Wr at *;have HS:=Lib.hid hs;clear hs;by_cases hij:i<=J0
    ·have hijz:(i:Int)<=(J0:Int):=by omega
     have bi:(i:Int) < (N:Int):=by have:=HX1.out;omega
     have wi1:IntKind.i64.wrap ((i:Int)+1)=((i+1:Nat):Int):=by
      have:=HX1.out;have:=HB.out
      rw [wrap_in]<;>omega
     obtain ⟨x,hx⟩:∃ x,D1[i]! = x:=⟨_,rfl⟩;obtain ⟨y,hy⟩:∃ y,D1[a]! = y:=⟨_,rfl⟩;have F:=Lib.hid (HS.out.reads (i:=i) (j:=a) (by have:=HX1.out;omega) (by have:=HX1.out;omega) hx hy);by_cases hl:cmpE bt x y < 0
     ·go_wp2_with fail
      refine wq Wr ?_;iterate 8 (refine qo (fun K hK=>?_);go_simp;refine hK _ ?_;clear hK K)
      refine qo (fun K hK=>?_) (fun w' hw'=>by obtain ⟨⟨c0,c1,c2,c3⟩,-,-⟩:=F.out w' hw';go_simp<;>rfl);go_simp;refine hK _ ?_;clear hK K;iterate 3 (refine qo (fun K hK=>?_);go_simp;refine hK _ ?_;clear hK K)
      refine qo (fun K hK=>?_) (fun w' hw'=>by obtain ⟨-,⟨c0,c1,c2,c3⟩,-⟩:=F.out w' hw';go_simp<;>rfl);go_simp;refine hK _ ?_;clear hK K;refine qc (fun w' hw'=>(F.out w' hw').2.2) (fun K hK=>?_);go_simp;refine hK _ ?_;clear hK K;iterate 2 (refine qo (fun K hK=>?_);go_simp;refine hK _ ?_;clear hK K)
      refine wpQuiet_nil ?_;intro w5 hw5;have HS5:=Lib.hid (HS.out.below hw5);clear hw5;go_wp2;refine ⟨⟨(i+1),rfl,by omega,by omega,HS5.out,?_⟩,by simp [intOf];omega⟩;show scanUp (fun x=>ltOf (cmpE bt) x D1[a]!) D1 J0 (i+1)=_;rw [<- HO.out];exact (scanUp_go _ _ _ _ hij (by have e:ltOf (cmpE bt) x y=true:=decide_eq_true hl;show ltOf (cmpE bt) D1[i]! D1[a]! = _;rw [hx,hy,e])).symm
     ·have hlb:decide (cmpE bt x y < 0)=false:=decide_eq_false hl;go_wp2_with fail
      refine wq Wr ?_;iterate 8 (refine qo (fun K hK=>?_);go_simp;refine hK _ ?_;clear hK K)
      refine qo (fun K hK=>?_) (fun w' hw'=>by obtain ⟨⟨c0,c1,c2,c3⟩,-,-⟩:=F.out w' hw';go_simp<;>rfl);go_simp;refine hK _ ?_;clear hK K;iterate 3 (refine qo (fun K hK=>?_);go_simp;refine hK _ ?_;clear hK K)
      refine qo (fun K hK=>?_) (fun w' hw'=>by obtain ⟨-,⟨c0,c1,c2,c3⟩,-⟩:=F.out w' hw';go_simp<;>rfl);go_simp;refine hK _ ?_;clear hK K;refine qc (fun w' hw'=>(F.out w' hw').2.2) (fun K hK=>?_);go_simp;refine hK _ ?_;clear hK K;iterate 2 (refine qo (fun K hK=>?_);go_simp;refine hK _ ?_;clear hK K)
      refine wpQuiet_nil ?_;intro w5 hw5;have HS5:=Lib.hid (HS.out.below hw5);clear hw5;go_wp2;go_meet
      exact ⟨i,rfl,HS5.out,Lib.hid (by rw [<- HO.out];exact (scanUp_end _ _ _ _ (.inr (by have e:ltOf (cmpE bt) x y=false:=decide_eq_false (by omega);show ltOf (cmpE bt) D1[i]! D1[a]! = _;rw [hx,hy,e]))).symm)⟩
    ·have hijz:¬ ((i:Int)<=(J0:Int)):=by omega
     go_wp2_with fail
     go_quiet (fail)
     have HBd:RowKit.Below Wr.heap.size Wr (Wr.drewN nq):=⟨rfl,rfl,rfl,Nat.le_refl _,fun _ _=>rfl⟩;have HS5:=Lib.hid (HS.out.below HBd);clear HBd;go_wp2;go_meet
     exact ⟨i,rfl,HS5.out,Lib.hid (by rw [<- HO.out];exact (scanUp_end _ _ _ _ (.inl hij)).symm)⟩
  case rest=>
   obtain ⟨i1,rfl,hsi1,hi1⟩:=hcut;have HSi1:=Lib.hid hsi1;have HEi1:=Lib.hid hi1.out;clear hsi1 hi1;have hbi:=scan_up_in (show a+1<=J0+1 by have:=HX1.out;omega) HEi1.out;have HX2:Hid (a < D1.size/\J0 < D1.size/\D1.size=N/\i1<=J0+1/\1<=i1/\a < i1/\N<=1000000):=Lib.hid (by have:=HX1.out;omega);clear hbi;go_upto_block 2 with fail
   go_cut [13] from 50 to 68 (fun vi wx=>∃ j:Nat,vi=.int .i64 (j:Int)/\Srt bt w0 jb pb byb made base g cap D1 wx/\Hid (j=scanDown (fun x=>!ltOf (cmpE bt) x D1[a]!) D1 i1 J0))
   case first=>
    go_wp2_with fail
    go_loopw [13] (fun vi wr=>∃ j:Nat,vi=.int .i64 (j:Int)/\j<=J0/\i1<=j+1/\Srt bt w0 jb pb byb made base g cap D1 wr/\Hid (scanDown (fun x=>!ltOf (cmpE bt) x D1[a]!) D1 i1 j=scanDown (fun x=>!ltOf (cmpE bt) x D1[a]!) D1 i1 J0)) (fun vi _=>(intOf vi).toNat)
    case atStart=>exact ⟨J0,rfl,by have:=HX2.out;omega,by have:=HX2.out;omega,HSi1.out,rfl⟩
    case round=>
     obtain ⟨j,rfl,hb1,hb2,hs,HO⟩:=hrel;generalize wr=Wr at *;have HS:=Lib.hid hs;clear hs;by_cases hij:i1<=j
     ·obtain ⟨j',hj'⟩:∃ j',j'=j - 1:=⟨_,rfl⟩;have hijz:(i1:Int)<=(j:Int):=by omega
      have bi:(j:Int) < (N:Int):=by have:=HX2.out;omega
      have wi1:IntKind.i64.wrap ((j:Int) - 1)=(j':Int):=by
       have:=HX2.out;have:=HB.out
       rw [wrap_in]<;>omega
      have HJ:Hid (j'=j - 1/\1<=j):=Lib.hid (by have:=HX2.out;omega);have hj1:1<=j:=by have:=HX2.out;omega
      clear hj';obtain ⟨x,hx⟩:∃ x,D1[j]! = x:=⟨_,rfl⟩;obtain ⟨y,hy⟩:∃ y,D1[a]! = y:=⟨_,rfl⟩;have F:=Lib.hid (HS.out.reads (i:=j) (j:=a) (by have:=HX2.out;omega) (by have:=HX2.out;omega) hx hy);by_cases hl:cmpE bt x y < 0
      ·go_wp2_with fail
       refine wq Wr ?_;iterate 8 (refine qo (fun K hK=>?_);go_simp;refine hK _ ?_;clear hK K)
       refine qo (fun K hK=>?_) (fun w' hw'=>by obtain ⟨⟨c0,c1,c2,c3⟩,-,-⟩:=F.out w' hw';go_simp<;>rfl);go_simp;refine hK _ ?_;clear hK K;iterate 3 (refine qo (fun K hK=>?_);go_simp;refine hK _ ?_;clear hK K)
       refine qo (fun K hK=>?_) (fun w' hw'=>by obtain ⟨-,⟨c0,c1,c2,c3⟩,-⟩:=F.out w' hw';go_simp<;>rfl);go_simp;refine hK _ ?_;clear hK K;refine qc (fun w' hw'=>(F.out w' hw').2.2) (fun K hK=>?_);go_simp;refine hK _ ?_;clear hK K;iterate 3 (refine qo (fun K hK=>?_);go_simp;refine hK _ ?_;clear hK K)
       refine wpQuiet_nil ?_;intro w5 hw5;have HS5:=Lib.hid (HS.out.below hw5);clear hw5;go_wp2;go_meet
       exact ⟨j,rfl,HS5.out,Lib.hid (by rw [<- HO.out];exact (scanDown_end _ _ _ _ (.inr (by have e:ltOf (cmpE bt) x y=true:=decide_eq_true hl;show (!ltOf (cmpE bt) D1[j]! D1[a]!)=_;rw [hx,hy,e];rfl))).symm)⟩
      ·have hlb:decide (cmpE bt x y < 0)=false:=decide_eq_false hl;go_wp2_with fail
       refine wq Wr ?_;iterate 8 (refine qo (fun K hK=>?_);go_simp;refine hK _ ?_;clear hK K)
       refine qo (fun K hK=>?_) (fun w' hw'=>by obtain ⟨⟨c0,c1,c2,c3⟩,-,-⟩:=F.out w' hw';go_simp<;>rfl);go_simp;refine hK _ ?_;clear hK K;iterate 3 (refine qo (fun K hK=>?_);go_simp;refine hK _ ?_;clear hK K)
       refine qo (fun K hK=>?_) (fun w' hw'=>by obtain ⟨-,⟨c0,c1,c2,c3⟩,-⟩:=F.out w' hw';go_simp<;>rfl);go_simp;refine hK _ ?_;clear hK K;refine qc (fun w' hw'=>(F.out w' hw').2.2) (fun K hK=>?_);go_simp;refine hK _ ?_;clear hK K;iterate 3 (refine qo (fun K hK=>?_);go_simp;refine hK _ ?_;clear hK K)
       refine wpQuiet_nil ?_;intro w5 hw5;have HS5:=Lib.hid (HS.out.below hw5);clear hw5;go_wp2;obtain ⟨hjj,hjq⟩:=HJ.out;refine ⟨⟨j',rfl,by omega,by omega,HS5.out,?_⟩,by simp [intOf];omega⟩;show scanDown (fun x=>!ltOf (cmpE bt) x D1[a]!) D1 i1 j'=_;rw [<- HO.out,show j'=j - 1 by omega];exact (scanDown_go _ _ _ _ hij (by omega) (by have e:ltOf (cmpE bt) x y=false:=decide_eq_false (by omega);show (!ltOf (cmpE bt) D1[j]! D1[a]!)=_;rw [hx,hy,e];rfl)).symm
     ·have hijz:¬ ((i1:Int)<=(j:Int)):=by omega
      go_wp2_with fail
      go_quiet (fail)
      have HBd:RowKit.Below Wr.heap.size Wr (Wr.drewN nq):=⟨rfl,rfl,rfl,Nat.le_refl _,fun _ _=>rfl⟩;have HS5:=Lib.hid (HS.out.below HBd);clear HBd;go_wp2;go_meet
      exact ⟨j,rfl,HS5.out,Lib.hid (by rw [<- HO.out];exact (scanDown_end _ _ _ _ (.inl hij)).symm)⟩
   case rest=>
    obtain ⟨j1,rfl,hsj1,hj1⟩:=hcut;have HSj1:=Lib.hid hsj1;have HEj1:=Lib.hid hj1.out;clear hsj1 hj1;have hbj:=scan_bounds (show a+1<=J0+1 by have:=HX1.out;omega) HEi1.out HEj1.out;have hap1:0 < j1->i1≠j1:=scan_apart (fun _=>rfl) HEi1.out HEj1.out;have HX3:Hid (a < D1.size/\j1 < D1.size/\D1.size=N/\(i1<=j1->i1 < D1.size/\i1+1<=j1)/\a<=j1/\a < i1/\i1<=j1+1/\N<=1000000):=Lib.hid (by have:=HX2.out;omega);have bj1:(j1:Int) < (N:Int):=by have:=HX3.out;omega
    clear hbj hap1;by_cases hgt:i1 > j1
    ·have hgtz:(i1:Int) > (j1:Int):=by omega
     go_upto_region 8 with fail
     go_cut [] from 72 to 85 (fun wx=>Srt bt w0 jb pb byb made base g cap (swp D1 j1 a) wx)
     case first=>
      obtain ⟨x,hx⟩:∃ x,D1[j1]! = x:=⟨_,rfl⟩;have HIJ:Hid (j1 < D1.size/\a < D1.size):=Lib.hid (by have:=HX3.out;omega);by_cases heq:j1=a
      ·subst heq;obtain ⟨pp,hpp,⟨x0,x1,x2,x3⟩,hfr,hdone⟩:=HSj1.out.exchSelf (i:=j1) HIJ.out.1 hx;have HD:=Lib.hid hdone;clear hdone;go_big_region
       all_goals
        clear x0 x1 x2 x3 hfr;go_wp2;go_meet
        exact HD.out
      ·obtain ⟨y,hy⟩:∃ y,D1[a]! = y:=⟨_,rfl⟩;obtain ⟨pp,qq,hex⟩:=HSj1.out.exch (i:=j1) (j:=a) HIJ.out.1 HIJ.out.2 hx hy;have HEX:=Lib.hid hex;obtain ⟨hpp,hqq,x0,x1,x2,x3,y0,y1,y2,y3,hfr,hapt,-⟩:=hex;obtain ⟨n0,n1,n2,n3,n4,n5,n6⟩:=hapt heq;clear hapt;go_big_region
       all_goals
        clear x0 x1 x2 x3 y0 y1 y2 y3 n0 n1 n2 n3 n4 n5 n6 hfr;go_wp2;go_meet
        exact HEX.out.done
     case rest=>
      have HS4:=Lib.hid hcut;clear hcut;have hpart:partition (ltOf (cmpE bt)) d a b pv=(j1,true,swp D1 j1 a):=by
       have hJ:J0=b - 1:=HB.out.2.2.2.2.2.1;rw [partition_step (u:=i1) (v:=j1) (r:=(0,d)) HD1.out (by rw [<- hJ];exact HEi1.out) (by rw [<- hJ];exact HEj1.out) (fun hn=>absurd hgt hn),if_pos hgt]
      have HP:=Lib.hid hpart;clear hpart;go_wp2;go_ret2
      rw [HP.out];exact ⟨rfl,HS4.out⟩
    ·have hgtz:¬ (i1:Int) > (j1:Int):=by omega
     have bi1:(i1:Int) < (N:Int):=by have:=HX3.out;omega
     have HX4:Hid (i1 < D1.size/\j1 < D1.size/\i1+1<=j1):=Lib.hid (by have:=HX3.out;omega);obtain ⟨J2,hJ2⟩:∃ J2,J2=j1 - 1:=⟨_,rfl⟩;have wi2:IntKind.i64.wrap ((i1:Int)+1)=((i1+1:Nat):Int):=by
      have:=HX3.out;rw [wrap_in]<;>omega
     have wj2:IntKind.i64.wrap ((j1:Int) - 1)=(J2:Int):=by
      have:=HX3.out;have:=HX4.out
      rw [wrap_in]<;>omega
     have HJ2:Hid (J2=j1 - 1/\1<=j1):=Lib.hid (by have:=HX4.out;omega);clear hJ2;go_upto_region 10 with fail
     go_cut [] from 87 to 100 (fun wx=>Srt bt w0 jb pb byb made base g cap (swp D1 i1 j1) wx)
     case first=>
      obtain ⟨x,hx⟩:∃ x,D1[i1]! = x:=⟨_,rfl⟩;have HIJ:Hid (i1 < D1.size/\j1 < D1.size):=Lib.hid (by have:=HX4.out;omega);by_cases heq:i1=j1
      ·subst heq;obtain ⟨pp,hpp,⟨x0,x1,x2,x3⟩,hfr,hdone⟩:=HSj1.out.exchSelf (i:=i1) HIJ.out.1 hx;have HD:=Lib.hid hdone;clear hdone;go_big_region
       all_goals
        clear x0 x1 x2 x3 hfr;go_wp2;go_meet
        exact HD.out
      ·obtain ⟨y,hy⟩:∃ y,D1[j1]! = y:=⟨_,rfl⟩;obtain ⟨pp,qq,hex⟩:=HSj1.out.exch (i:=i1) (j:=j1) HIJ.out.1 HIJ.out.2 hx hy;have HEX:=Lib.hid hex;obtain ⟨hpp,hqq,x0,x1,x2,x3,y0,y1,y2,y3,hfr,hapt,-⟩:=hex;obtain ⟨n0,n1,n2,n3,n4,n5,n6⟩:=hapt heq;clear hapt;go_big_region
       all_goals
        clear x0 x1 x2 x3 y0 y1 y2 y3 n0 n1 n2 n3 n4 n5 n6 hfr;go_wp2;go_meet
        exact HEX.out.done
     case rest=>
      have HS5:=Lib.hid hcut;clear hcut;obtain ⟨D2,hD2⟩:∃ D2,D2=swp D1 i1 j1:=⟨_,rfl⟩;rw [<- hD2] at HS5;have hs2:D2.size=N:=by rw [hD2,size_swp];exact HX3.out.2.2.1
      obtain ⟨r,hr⟩:∃ r,r=partLoop (ltOf (cmpE bt)) a (i1+1) J2 D2:=⟨_,rfl⟩;have hpart:partition (ltOf (cmpE bt)) d a b pv=(r.1,false,swp r.2 r.1 a):=by
       have hJ:J0=b - 1:=HB.out.2.2.2.2.2.1;rw [partition_step (u:=i1) (v:=j1) (r:=r) HD1.out (by rw [<- hJ];exact HEi1.out) (by rw [<- hJ];exact HEj1.out) (fun _=>by rw [hr,hD2,HJ2.out.1]),if_neg hgt]
      have HP:=Lib.hid hpart;have HS2s:=Lib.hid hs2;have HR:=Lib.hid hr;clear hpart hs2 hr hD2;go_wp2_with fail
      go_loopw [12,13] (fun vi vj wr=>∃ (i3 j3:Nat) (dk:Array Edg),vi=.int .i64 (i3:Int)/\vj=.int .i64 (j3:Int)/\a < i3/\i3<=j3+1/\j3 < N/\dk.size=N/\Srt bt w0 jb pb byb made base g cap dk wr/\Hid (partLoop (ltOf (cmpE bt)) a i3 j3 dk=r)) (fun vi vj _=>(intOf vj).toNat+1 - (intOf vi).toNat)
      case atStart=>exact ⟨i1+1,J2,D2,rfl,rfl,by have:=HX3.out;omega,by have:=HX4.out;have:=HJ2.out;omega,by have:=HX3.out;have:=HJ2.out;omega,HS2s.out,HS5.out,HR.out.symm⟩
      case round=>
       obtain ⟨i3,j3,dk,rfl,rfl,ha3,hij3,hj3,hsk,hs3,HO3⟩:=hrel;generalize wr=Wr3 at *;have HS6:=Lib.hid hs3;have HXK:Hid (a < dk.size/\j3 < dk.size/\dk.size=N/\i3<=j3+1/\a < i3/\N<=1000000):=Lib.hid (by have:=HX3.out;omega);clear hs3 hsk;go_upto_block 6 with fail
       go_cut [12] from 105 to 122 (fun vi wx=>∃ i:Nat,vi=.int .i64 (i:Int)/\Srt bt w0 jb pb byb made base g cap dk wx/\Hid (i=scanUp (fun x=>ltOf (cmpE bt) x dk[a]!) dk j3 i3))
       case first=>
        go_wp2_with fail
        go_loopw [12] (fun vi wr=>∃ i:Nat,vi=.int .i64 (i:Int)/\i3<=i/\i<=j3+1/\Srt bt w0 jb pb byb made base g cap dk wr/\Hid (scanUp (fun x=>ltOf (cmpE bt) x dk[a]!) dk j3 i=scanUp (fun x=>ltOf (cmpE bt) x dk[a]!) dk j3 i3)) (fun vi _=>j3+1 - (intOf vi).toNat)
        case atStart=>exact ⟨i3,rfl,by have:=HXK.out;omega,by have:=HXK.out;omega,HS6.out,rfl⟩
        case round=>
         obtain ⟨i,rfl,hb1,hb2,hs,HO⟩:=hrel;generalize wr=Wr at *;have HS:=Lib.hid hs;clear hs;by_cases hij:i<=j3
         ·have hijz:(i:Int)<=(j3:Int):=by omega
          have bi:(i:Int) < (N:Int):=by have:=HXK.out;omega
          have wi1:IntKind.i64.wrap ((i:Int)+1)=((i+1:Nat):Int):=by
           have:=HXK.out;have:=HB.out
           rw [wrap_in]<;>omega
          obtain ⟨x,hx⟩:∃ x,dk[i]! = x:=⟨_,rfl⟩;obtain ⟨y,hy⟩:∃ y,dk[a]! = y:=⟨_,rfl⟩;have F:=Lib.hid (HS.out.reads (i:=i) (j:=a) (by have:=HXK.out;omega) (by have:=HXK.out;omega) hx hy);by_cases hl:cmpE bt x y < 0
          ·go_wp2_with fail
           refine wq Wr ?_;iterate 8 (refine qo (fun K hK=>?_);go_simp;refine hK _ ?_;clear hK K)
           refine qo (fun K hK=>?_) (fun w' hw'=>by obtain ⟨⟨c0,c1,c2,c3⟩,-,-⟩:=F.out w' hw';go_simp<;>rfl);go_simp;refine hK _ ?_;clear hK K;iterate 3 (refine qo (fun K hK=>?_);go_simp;refine hK _ ?_;clear hK K)
           refine qo (fun K hK=>?_) (fun w' hw'=>by obtain ⟨-,⟨c0,c1,c2,c3⟩,-⟩:=F.out w' hw';go_simp<;>rfl);go_simp;refine hK _ ?_;clear hK K;refine qc (fun w' hw'=>(F.out w' hw').2.2) (fun K hK=>?_);go_simp;refine hK _ ?_;clear hK K;iterate 2 (refine qo (fun K hK=>?_);go_simp;refine hK _ ?_;clear hK K)
           refine wpQuiet_nil ?_;intro w5 hw5;have HS5:=Lib.hid (HS.out.below hw5);clear hw5;go_wp2;refine ⟨⟨(i+1),rfl,by omega,by omega,HS5.out,?_⟩,by simp [intOf];omega⟩;show scanUp (fun x=>ltOf (cmpE bt) x dk[a]!) dk j3 (i+1)=_;rw [<- HO.out];exact (scanUp_go _ _ _ _ hij (by have e:ltOf (cmpE bt) x y=true:=decide_eq_true hl;show ltOf (cmpE bt) dk[i]! dk[a]! = _;rw [hx,hy,e])).symm
          ·have hlb:decide (cmpE bt x y < 0)=false:=decide_eq_false hl;go_wp2_with fail
           refine wq Wr ?_;iterate 8 (refine qo (fun K hK=>?_);go_simp;refine hK _ ?_;clear hK K)
           refine qo (fun K hK=>?_) (fun w' hw'=>by obtain ⟨⟨c0,c1,c2,c3⟩,-,-⟩:=F.out w' hw';go_simp<;>rfl);go_simp;refine hK _ ?_;clear hK K;iterate 3 (refine qo (fun K hK=>?_);go_simp;refine hK _ ?_;clear hK K)
           refine qo (fun K hK=>?_) (fun w' hw'=>by obtain ⟨-,⟨c0,c1,c2,c3⟩,-⟩:=F.out w' hw';go_simp<;>rfl);go_simp;refine hK _ ?_;clear hK K;refine qc (fun w' hw'=>(F.out w' hw').2.2) (fun K hK=>?_);go_simp;refine hK _ ?_;clear hK K;iterate 2 (refine qo (fun K hK=>?_);go_simp;refine hK _ ?_;clear hK K)
           refine wpQuiet_nil ?_;intro w5 hw5;have HS5:=Lib.hid (HS.out.below hw5);clear hw5;go_wp2;go_meet
           exact ⟨i,rfl,HS5.out,Lib.hid (by rw [<- HO.out];exact (scanUp_end _ _ _ _ (.inr (by have e:ltOf (cmpE bt) x y=false:=decide_eq_false (by omega);show ltOf (cmpE bt) dk[i]! dk[a]! = _;rw [hx,hy,e]))).symm)⟩
         ·have hijz:¬ ((i:Int)<=(j3:Int)):=by omega
          go_wp2_with fail
          go_quiet (fail)
          have HBd:RowKit.Below Wr.heap.size Wr (Wr.drewN nq):=⟨rfl,rfl,rfl,Nat.le_refl _,fun _ _=>rfl⟩;have HS5:=Lib.hid (HS.out.below HBd);clear HBd;go_wp2;go_meet
          exact ⟨i,rfl,HS5.out,Lib.hid (by rw [<- HO.out];exact (scanUp_end _ _ _ _ (.inl hij)).symm)⟩
       case rest=>
        obtain ⟨i4,rfl,hsi4,hi4⟩:=hcut;have HSi4:=Lib.hid hsi4;have HEi4:=Lib.hid hi4.out;clear hsi4 hi4;have hbi4:=scan_up_in (show i3<=j3+1 by have:=HXK.out;omega) HEi4.out;have HX6:Hid (a < dk.size/\j3 < dk.size/\dk.size=N/\i4<=j3+1/\1<=i4/\a < i4/\i3<=i4/\N<=1000000):=Lib.hid (by have:=HXK.out;omega);clear hbi4;go_upto_block 8 with fail
        go_cut [13] from 123 to 141 (fun vi wx=>∃ j:Nat,vi=.int .i64 (j:Int)/\Srt bt w0 jb pb byb made base g cap dk wx/\Hid (j=scanDown (fun x=>!ltOf (cmpE bt) x dk[a]!) dk i4 j3))
        case first=>
         go_wp2_with fail
         go_loopw [13] (fun vi wr=>∃ j:Nat,vi=.int .i64 (j:Int)/\j<=j3/\i4<=j+1/\Srt bt w0 jb pb byb made base g cap dk wr/\Hid (scanDown (fun x=>!ltOf (cmpE bt) x dk[a]!) dk i4 j=scanDown (fun x=>!ltOf (cmpE bt) x dk[a]!) dk i4 j3)) (fun vi _=>(intOf vi).toNat)
         case atStart=>exact ⟨j3,rfl,by have:=HX6.out;omega,by have:=HX6.out;omega,HSi4.out,rfl⟩
         case round=>
          obtain ⟨j,rfl,hb1,hb2,hs,HO⟩:=hrel;generalize wr=Wr at *;have HS:=Lib.hid hs;clear hs;by_cases hij:i4<=j
          ·obtain ⟨j',hj'⟩:∃ j',j'=j - 1:=⟨_,rfl⟩;have hijz:(i4:Int)<=(j:Int):=by omega
           have bi:(j:Int) < (N:Int):=by have:=HX6.out;omega
           have wi1:IntKind.i64.wrap ((j:Int) - 1)=(j':Int):=by
            have:=HX6.out;have:=HB.out
            rw [wrap_in]<;>omega
           have HJ:Hid (j'=j - 1/\1<=j):=Lib.hid (by have:=HX6.out;omega);have hj1:1<=j:=by have:=HX6.out;omega
           clear hj';obtain ⟨x,hx⟩:∃ x,dk[j]! = x:=⟨_,rfl⟩;obtain ⟨y,hy⟩:∃ y,dk[a]! = y:=⟨_,rfl⟩;have F:=Lib.hid (HS.out.reads (i:=j) (j:=a) (by have:=HX6.out;omega) (by have:=HX6.out;omega) hx hy);by_cases hl:cmpE bt x y < 0
           ·go_wp2_with fail
            refine wq Wr ?_;iterate 8 (refine qo (fun K hK=>?_);go_simp;refine hK _ ?_;clear hK K)
            refine qo (fun K hK=>?_) (fun w' hw'=>by obtain ⟨⟨c0,c1,c2,c3⟩,-,-⟩:=F.out w' hw';go_simp<;>rfl);go_simp;refine hK _ ?_;clear hK K;iterate 3 (refine qo (fun K hK=>?_);go_simp;refine hK _ ?_;clear hK K)
            refine qo (fun K hK=>?_) (fun w' hw'=>by obtain ⟨-,⟨c0,c1,c2,c3⟩,-⟩:=F.out w' hw';go_simp<;>rfl);go_simp;refine hK _ ?_;clear hK K;refine qc (fun w' hw'=>(F.out w' hw').2.2) (fun K hK=>?_);go_simp;refine hK _ ?_;clear hK K;iterate 3 (refine qo (fun K hK=>?_);go_simp;refine hK _ ?_;clear hK K)
            refine wpQuiet_nil ?_;intro w5 hw5;have HS5:=Lib.hid (HS.out.below hw5);clear hw5;go_wp2;go_meet
            exact ⟨j,rfl,HS5.out,Lib.hid (by rw [<- HO.out];exact (scanDown_end _ _ _ _ (.inr (by have e:ltOf (cmpE bt) x y=true:=decide_eq_true hl;show (!ltOf (cmpE bt) dk[j]! dk[a]!)=_;rw [hx,hy,e];rfl))).symm)⟩
           ·have hlb:decide (cmpE bt x y < 0)=false:=decide_eq_false hl;go_wp2_with fail
            refine wq Wr ?_;iterate 8 (refine qo (fun K hK=>?_);go_simp;refine hK _ ?_;clear hK K)
            refine qo (fun K hK=>?_) (fun w' hw'=>by obtain ⟨⟨c0,c1,c2,c3⟩,-,-⟩:=F.out w' hw';go_simp<;>rfl);go_simp;refine hK _ ?_;clear hK K;iterate 3 (refine qo (fun K hK=>?_);go_simp;refine hK _ ?_;clear hK K)
            refine qo (fun K hK=>?_) (fun w' hw'=>by obtain ⟨-,⟨c0,c1,c2,c3⟩,-⟩:=F.out w' hw';go_simp<;>rfl);go_simp;refine hK _ ?_;clear hK K;refine qc (fun w' hw'=>(F.out w' hw').2.2) (fun K hK=>?_);go_simp;refine hK _ ?_;clear hK K;iterate 3 (refine qo (fun K hK=>?_);go_simp;refine hK _ ?_;clear hK K)
            refine wpQuiet_nil ?_;intro w5 hw5;have HS5:=Lib.hid (HS.out.below hw5);clear hw5;go_wp2;obtain ⟨hjj,hjq⟩:=HJ.out;refine ⟨⟨j',rfl,by omega,by omega,HS5.out,?_⟩,by simp [intOf];omega⟩;show scanDown (fun x=>!ltOf (cmpE bt) x dk[a]!) dk i4 j'=_;rw [<- HO.out,show j'=j - 1 by omega];exact (scanDown_go _ _ _ _ hij (by omega) (by have e:ltOf (cmpE bt) x y=false:=decide_eq_false (by omega);show (!ltOf (cmpE bt) dk[j]! dk[a]!)=_;rw [hx,hy,e];rfl)).symm
          ·have hijz:¬ ((i4:Int)<=(j:Int)):=by omega
           go_wp2_with fail
           go_quiet (fail)
           have HBd:RowKit.Below Wr.heap.size Wr (Wr.drewN nq):=⟨rfl,rfl,rfl,Nat.le_refl _,fun _ _=>rfl⟩;have HS5:=Lib.hid (HS.out.below HBd);clear HBd;go_wp2;go_meet
           exact ⟨j,rfl,HS5.out,Lib.hid (by rw [<- HO.out];exact (scanDown_end _ _ _ _ (.inl hij)).symm)⟩
        case rest=>
         obtain ⟨j4,rfl,hsj4,hj4⟩:=hcut;have HSj4:=Lib.hid hsj4;have HEj4:=Lib.hid hj4.out;clear hsj4 hj4;have hbj4:=scan_bounds (show i3<=j3+1 by have:=HXK.out;omega) HEi4.out HEj4.out;have hap4:0 < j4->i4≠j4:=scan_apart (fun _=>rfl) HEi4.out HEj4.out;have HX7:Hid (a < dk.size/\j4 < dk.size/\dk.size=N/\(i4<=j4->i4 < dk.size/\i4+1<=j4)/\a<=j4/\a < i4/\i4<=j4+1/\i3<=i4/\j4<=j3/\N<=1000000):=Lib.hid (by have:=HX6.out;omega);have bj4:(j4:Int) < (N:Int):=by have:=HX7.out;omega
         have hstep:=partLoop_step HEi4.out HEj4.out;clear hbj4 hap4;by_cases hgt4:i4 > j4
         ·have hgtz:(i4:Int) > (j4:Int):=by omega
          rw [if_pos hgt4,HO3.out] at hstep;have HST:=Lib.hid hstep;clear hstep;go_upto_region 21 with fail
          go_cut [] from 163 to 176 (fun wx=>Srt bt w0 jb pb byb made base g cap (swp dk j4 a) wx)
          case first=>
           obtain ⟨x,hx⟩:∃ x,dk[j4]! = x:=⟨_,rfl⟩;have HIJ:Hid (j4 < dk.size/\a < dk.size):=Lib.hid (by have:=HX7.out;omega);by_cases heq:j4=a
           ·subst heq;obtain ⟨pp,hpp,⟨x0,x1,x2,x3⟩,hfr,hdone⟩:=HSj4.out.exchSelf (i:=j4) HIJ.out.1 hx;have HD:=Lib.hid hdone;clear hdone;go_big_region
            all_goals
             clear x0 x1 x2 x3 hfr;go_wp2;go_meet
             exact HD.out
           ·obtain ⟨y,hy⟩:∃ y,dk[a]! = y:=⟨_,rfl⟩;obtain ⟨pp,qq,hex⟩:=HSj4.out.exch (i:=j4) (j:=a) HIJ.out.1 HIJ.out.2 hx hy;have HEX:=Lib.hid hex;obtain ⟨hpp,hqq,x0,x1,x2,x3,y0,y1,y2,y3,hfr,hapt,-⟩:=hex;obtain ⟨n0,n1,n2,n3,n4,n5,n6⟩:=hapt heq;clear hapt;go_big_region
            all_goals
             clear x0 x1 x2 x3 y0 y1 y2 y3 n0 n1 n2 n3 n4 n5 n6 hfr;go_wp2;go_meet
             exact HEX.out.done
          case rest=>
           have HS8:=Lib.hid hcut;clear hcut;go_wp2;go_ret2
           rw [HP.out,HST.out];exact ⟨rfl,HS8.out⟩
         ·have hgtz:¬ (i4:Int) > (j4:Int):=by omega
          rw [if_neg hgt4,HO3.out] at hstep;have HST:=Lib.hid hstep;clear hstep;have bi4:(i4:Int) < (N:Int):=by have:=HX7.out;omega
          have HX8:Hid (i4 < dk.size/\j4 < dk.size/\i4+1<=j4):=Lib.hid (by have:=HX7.out;omega);obtain ⟨J5,hJ5⟩:∃ J5,J5=j4 - 1:=⟨_,rfl⟩;have wi5:IntKind.i64.wrap ((i4:Int)+1)=((i4+1:Nat):Int):=by
           have:=HX7.out;rw [wrap_in]<;>omega
          have wj5:IntKind.i64.wrap ((j4:Int) - 1)=(J5:Int):=by
           have:=HX7.out;have:=HX8.out
           rw [wrap_in]<;>omega
          have HJ5:Hid (J5=j4 - 1/\1<=j4):=Lib.hid (by have:=HX8.out;omega);clear hJ5;go_upto_region 18 with fail
          go_cut [] from 145 to 158 (fun wx=>Srt bt w0 jb pb byb made base g cap (swp dk i4 j4) wx)
          case first=>
           obtain ⟨x,hx⟩:∃ x,dk[i4]! = x:=⟨_,rfl⟩;have HIJ:Hid (i4 < dk.size/\j4 < dk.size):=Lib.hid (by have:=HX8.out;omega);by_cases heq:i4=j4
           ·subst heq;obtain ⟨pp,hpp,⟨x0,x1,x2,x3⟩,hfr,hdone⟩:=HSj4.out.exchSelf (i:=i4) HIJ.out.1 hx;have HD:=Lib.hid hdone;clear hdone;go_big_region
            all_goals
             clear x0 x1 x2 x3 hfr;go_wp2;go_meet
             exact HD.out
           ·obtain ⟨y,hy⟩:∃ y,dk[j4]! = y:=⟨_,rfl⟩;obtain ⟨pp,qq,hex⟩:=HSj4.out.exch (i:=i4) (j:=j4) HIJ.out.1 HIJ.out.2 hx hy;have HEX:=Lib.hid hex;obtain ⟨hpp,hqq,x0,x1,x2,x3,y0,y1,y2,y3,hfr,hapt,-⟩:=hex;obtain ⟨n0,n1,n2,n3,n4,n5,n6⟩:=hapt heq;clear hapt;go_big_region
            all_goals
             clear x0 x1 x2 x3 y0 y1 y2 y3 n0 n1 n2 n3 n4 n5 n6 hfr;go_wp2;go_meet
             exact HEX.out.done
          case rest=>
           have HS9:=Lib.hid hcut;clear hcut;go_wp2;have q1:=HX7.out;have q2:=HX8.out;have q3:=HJ5.out;refine ⟨⟨i4+1,J5,swp dk i4 j4,rfl,rfl,by omega,by omega,by omega,by rw [size_swp];omega,HS9.out,?_⟩,by simp [intOf];omega⟩;show partLoop _ _ _ _ _=_;rw [HST.out,q3.1]
end
end
section
open Go.RowKit Go.Maps Go.Sort
section
variable {bt:Bool} {w0 W W':World} {jb pb byb made base g cap:Nat} {d:Array Edg}
def PartEqPost (bt:Bool) (w0:World) (jb pb byb made base g cap:Nat) (r:Nat × Array Edg) (e:Ending) (w':World):Prop:=
 e=.returned (.int .i64 (r.1:Int))/\Srt bt w0 jb pb byb made base g cap r.2 w'
theorem partEqLoop_step {lt:Edg->Edg->Bool} {a i j u v:Nat} {d:Array Edg} (hu:u=scanUp (fun x=>!lt d[a]! x) d j i) (hv:v=scanDown (fun x=>lt d[a]! x) d u j) :
 partEqLoop lt a i j d=if u > v then (u,d) else partEqLoop lt a (u+1) (v - 1) (swp d u v):=by
 subst hu;subst hv;exact partEqLoop_eq lt a i j d
set_option maxRecDepth 100000 in
set_option maxHeartbeats 32000000 in
theorem partitionEqual_any (h:Srt bt w0 jb pb byb made base g cap d W) (a b pv:Nat) (hap:a<=pv) (hpb:pv < b) (hb:b<=d.size) (hsz:d.size<=1000000) :
 Calls Tryz.prog 311 #[.slice (some ⟨g,0,none⟩) d.size cap, .int .i64 (a:Int), .int .i64 (b:Int), .int .i64 (pv:Int),cmpFn jb] W (PartEqPost bt w0 jb pb byb made base g cap (partitionEqual (ltOf (cmpE bt)) d a b pv)):=by
 have H:=Lib.hid h;obtain ⟨N,hN⟩:∃ N,N=d.size:=⟨_,rfl⟩;rw [<- hN] at hb hsz ⊢;have HN:=Lib.hid hN;clear h hN;obtain ⟨J0,hJ0⟩:∃ J0,J0=b - 1:=⟨_,rfl⟩;have wJ0:IntKind.i64.wrap ((b:Int) - 1)=(J0:Int):=by rw [wrap_in]<;>omega
 have wI0:IntKind.i64.wrap ((a:Int)+1)=((a+1:Nat):Int):=by rw [wrap_in]<;>omega
 have ba:(a:Int) < (N:Int):=by omega
 have bp:(pv:Int) < (N:Int):=by omega
 have HB:Hid (a < d.size/\pv < d.size/\J0 < N/\a<=J0/\N<=1000000/\J0=b - 1/\d.size=N):=Lib.hid (by have:=HN.out;omega);clear hJ0 hap hpb hb hsz;unfold cmpFn ptrTo;go_enter Tryz.func311,Tryz.ntmps311
 go_upto_region 1 with fail
 go_cut [] from 13 to 26 (fun wx=>Srt bt w0 jb pb byb made base g cap (swp d a pv) wx)
 case first=>
  obtain ⟨x,hx⟩:∃ x,d[a]! = x:=⟨_,rfl⟩;have HIJ:Hid (a < d.size/\pv < d.size):=Lib.hid (by have:=HB.out;omega);by_cases heq:a=pv
  ·subst heq;obtain ⟨pp,hpp,⟨x0,x1,x2,x3⟩,hfr,hdone⟩:=H.out.exchSelf (i:=a) HIJ.out.1 hx;have HD:=Lib.hid hdone;clear hdone;go_big_region
   all_goals
    clear x0 x1 x2 x3 hfr;go_wp2;go_meet
    exact HD.out
  ·obtain ⟨y,hy⟩:∃ y,d[pv]! = y:=⟨_,rfl⟩;obtain ⟨pp,qq,hex⟩:=H.out.exch (i:=a) (j:=pv) HIJ.out.1 HIJ.out.2 hx hy;have HEX:=Lib.hid hex;obtain ⟨hpp,hqq,x0,x1,x2,x3,y0,y1,y2,y3,hfr,hapt,-⟩:=hex;obtain ⟨n0,n1,n2,n3,n4,n5,n6⟩:=hapt heq;clear hapt;go_big_region
   all_goals
    clear x0 x1 x2 x3 y0 y1 y2 y3 n0 n1 n2 n3 n4 n5 n6 hfr;go_wp2;go_meet
    exact HEX.out.done
 case rest=>
  have HS1:=Lib.hid hcut;clear hcut;obtain ⟨D1,hD1⟩:∃ D1,D1=swp d a pv:=⟨_,rfl⟩;rw [<- hD1] at HS1;have hs1:D1.size=N:=by rw [hD1,size_swp];exact HN.out.symm
  obtain ⟨r,hr⟩:∃ r,r=partitionEqual (ltOf (cmpE bt)) d a b pv:=⟨_,rfl⟩;have HR:Hid (partEqLoop (ltOf (cmpE bt)) a (a+1) J0 D1=r):=Lib.hid (by rw [hr,HB.out.2.2.2.2.2.1,hD1];rfl);have HRE:=Lib.hid hr;have HX3:Hid (a < D1.size/\J0 < D1.size/\D1.size=N/\a+1<=J0+1/\N<=1000000):=Lib.hid (by have:=HB.out;omega);clear hD1 hs1 hr;go_wp2_with fail
  go_loopw [11,12] (fun vi vj wr=>∃ (i3 j3:Nat) (dk:Array Edg),vi=.int .i64 (i3:Int)/\vj=.int .i64 (j3:Int)/\a < i3/\i3<=j3+1/\j3 < N/\dk.size=N/\Srt bt w0 jb pb byb made base g cap dk wr/\Hid (partEqLoop (ltOf (cmpE bt)) a i3 j3 dk=r)) (fun vi vj _=>(intOf vj).toNat+1 - (intOf vi).toNat)
  case atStart=>exact ⟨a+1,J0,D1,by go_num,rfl,by omega,by have:=HX3.out;omega,by have:=HX3.out;omega,HX3.out.2.2.1,HS1.out,HR.out⟩
  case round=>
   obtain ⟨i3,j3,dk,rfl,rfl,ha3,hij3,hj3,hsk,hs3,HO3⟩:=hrel;generalize wr=Wr3 at *;have HS6:=Lib.hid hs3;have HXK:Hid (a < dk.size/\j3 < dk.size/\dk.size=N/\i3<=j3+1/\a < i3/\N<=1000000):=Lib.hid (by have:=HX3.out;omega);clear hs3 hsk;go_upto_block 2 with fail
   go_cut [11] from 31 to 49 (fun vi wx=>∃ i:Nat,vi=.int .i64 (i:Int)/\Srt bt w0 jb pb byb made base g cap dk wx/\Hid (i=scanUp (fun x=>!ltOf (cmpE bt) dk[a]! x) dk j3 i3))
   case first=>
    go_wp2_with fail
    go_loopw [11] (fun vi wr=>∃ i:Nat,vi=.int .i64 (i:Int)/\i3<=i/\i<=j3+1/\Srt bt w0 jb pb byb made base g cap dk wr/\Hid (scanUp (fun x=>!ltOf (cmpE bt) dk[a]! x) dk j3 i=scanUp (fun x=>!ltOf (cmpE bt) dk[a]! x) dk j3 i3)) (fun vi _=>j3+1 - (intOf vi).toNat)
    case atStart=>exact ⟨i3,rfl,by have:=HXK.out;omega,by have:=HXK.out;omega,HS6.out,rfl⟩
    case round=>
     obtain ⟨i,rfl,hb1,hb2,hs,HO⟩:=hrel;generalize wr=Wr at *;have HS:=Lib.hid hs;clear hs;by_cases hij:i<=j3
     ·have hijz:(i:Int)<=(j3:Int):=by omega
      have bi:(i:Int) < (N:Int):=by have:=HXK.out;omega
      have wi1:IntKind.i64.wrap ((i:Int)+1)=((i+1:Nat):Int):=by
       have:=HXK.out;have:=HB.out
       rw [wrap_in]<;>omega
      obtain ⟨x,hx⟩:∃ x,dk[a]! = x:=⟨_,rfl⟩;obtain ⟨y,hy⟩:∃ y,dk[i]! = y:=⟨_,rfl⟩;have F:=Lib.hid (HS.out.reads (i:=a) (j:=i) (by have:=HXK.out;omega) (by have:=HXK.out;omega) hx hy);by_cases hl:cmpE bt x y < 0
      ·go_wp2_with fail
       refine wq Wr ?_;iterate 8 (refine qo (fun K hK=>?_);go_simp;refine hK _ ?_;clear hK K)
       refine qo (fun K hK=>?_) (fun w' hw'=>by obtain ⟨⟨c0,c1,c2,c3⟩,-,-⟩:=F.out w' hw';go_simp<;>rfl);go_simp;refine hK _ ?_;clear hK K;iterate 3 (refine qo (fun K hK=>?_);go_simp;refine hK _ ?_;clear hK K)
       refine qo (fun K hK=>?_) (fun w' hw'=>by obtain ⟨-,⟨c0,c1,c2,c3⟩,-⟩:=F.out w' hw';go_simp<;>rfl);go_simp;refine hK _ ?_;clear hK K;refine qc (fun w' hw'=>(F.out w' hw').2.2) (fun K hK=>?_);go_simp;refine hK _ ?_;clear hK K;iterate 3 (refine qo (fun K hK=>?_);go_simp;refine hK _ ?_;clear hK K)
       refine wpQuiet_nil ?_;intro w5 hw5;have HS5:=Lib.hid (HS.out.below hw5);clear hw5;go_wp2;go_meet
       exact ⟨i,rfl,HS5.out,Lib.hid (by rw [<- HO.out];exact (scanUp_end _ _ _ _ (.inr (by have e:ltOf (cmpE bt) x y=true:=decide_eq_true hl;show (!ltOf (cmpE bt) dk[a]! dk[i]!)=_;rw [hx,hy,e];rfl))).symm)⟩
      ·have hlb:decide (cmpE bt x y < 0)=false:=decide_eq_false hl;go_wp2_with fail
       refine wq Wr ?_;iterate 8 (refine qo (fun K hK=>?_);go_simp;refine hK _ ?_;clear hK K)
       refine qo (fun K hK=>?_) (fun w' hw'=>by obtain ⟨⟨c0,c1,c2,c3⟩,-,-⟩:=F.out w' hw';go_simp<;>rfl);go_simp;refine hK _ ?_;clear hK K;iterate 3 (refine qo (fun K hK=>?_);go_simp;refine hK _ ?_;clear hK K)
       refine qo (fun K hK=>?_) (fun w' hw'=>by obtain ⟨-,⟨c0,c1,c2,c3⟩,-⟩:=F.out w' hw';go_simp<;>rfl);go_simp;refine hK _ ?_;clear hK K;refine qc (fun w' hw'=>(F.out w' hw').2.2) (fun K hK=>?_);go_simp;refine hK _ ?_;clear hK K;iterate 3 (refine qo (fun K hK=>?_);go_simp;refine hK _ ?_;clear hK K)
       refine wpQuiet_nil ?_;intro w5 hw5;have HS5:=Lib.hid (HS.out.below hw5);clear hw5;go_wp2;refine ⟨⟨(i+1),rfl,by omega,by omega,HS5.out,?_⟩,by simp [intOf];omega⟩;show scanUp (fun x=>!ltOf (cmpE bt) dk[a]! x) dk j3 (i+1)=_;rw [<- HO.out];exact (scanUp_go _ _ _ _ hij (by have e:ltOf (cmpE bt) x y=false:=decide_eq_false (by omega);show (!ltOf (cmpE bt) dk[a]! dk[i]!)=_;rw [hx,hy,e];rfl)).symm
     ·have hijz:¬ ((i:Int)<=(j3:Int)):=by omega
      go_wp2_with fail
      go_quiet (fail)
      have HBd:RowKit.Below Wr.heap.size Wr (Wr.drewN nq):=⟨rfl,rfl,rfl,Nat.le_refl _,fun _ _=>rfl⟩;have HS5:=Lib.hid (HS.out.below HBd);clear HBd;go_wp2;go_meet
      exact ⟨i,rfl,HS5.out,Lib.hid (by rw [<- HO.out];exact (scanUp_end _ _ _ _ (.inl hij)).symm)⟩
   case rest=>
    obtain ⟨i4,rfl,hsi4,hi4⟩:=hcut;have HSi4:=Lib.hid hsi4;have HEi4:=Lib.hid hi4.out;clear hsi4 hi4;have hbi4:=scan_up_in (show i3<=j3+1 by have:=HXK.out;omega) HEi4.out;have HX6:Hid (a < dk.size/\j3 < dk.size/\dk.size=N/\i4<=j3+1/\1<=i4/\a < i4/\i3<=i4/\N<=1000000):=Lib.hid (by have:=HXK.out;omega);clear hbi4;go_upto_block 4 with fail
    go_cut [12] from 50 to 67 (fun vi wx=>∃ j:Nat,vi=.int .i64 (j:Int)/\Srt bt w0 jb pb byb made base g cap dk wx/\Hid (j=scanDown (fun x=>ltOf (cmpE bt) dk[a]! x) dk i4 j3))
    case first=>
     go_wp2_with fail
     go_loopw [12] (fun vi wr=>∃ j:Nat,vi=.int .i64 (j:Int)/\j<=j3/\i4<=j+1/\Srt bt w0 jb pb byb made base g cap dk wr/\Hid (scanDown (fun x=>ltOf (cmpE bt) dk[a]! x) dk i4 j=scanDown (fun x=>ltOf (cmpE bt) dk[a]! x) dk i4 j3)) (fun vi _=>(intOf vi).toNat)
     case atStart=>exact ⟨j3,rfl,by have:=HX6.out;omega,by have:=HX6.out;omega,HSi4.out,rfl⟩
     case round=>
      obtain ⟨j,rfl,hb1,hb2,hs,HO⟩:=hrel;generalize wr=Wr at *;have HS:=Lib.hid hs;clear hs;by_cases hij:i4<=j
      ·obtain ⟨j',hj'⟩:∃ j',j'=j - 1:=⟨_,rfl⟩;have hijz:(i4:Int)<=(j:Int):=by omega
       have bi:(j:Int) < (N:Int):=by have:=HX6.out;omega
       have wi1:IntKind.i64.wrap ((j:Int) - 1)=(j':Int):=by
        have:=HX6.out;have:=HB.out
        rw [wrap_in]<;>omega
       have HJ:Hid (j'=j - 1/\1<=j):=Lib.hid (by have:=HX6.out;omega);have hj1:1<=j:=by have:=HX6.out;omega
       clear hj';obtain ⟨x,hx⟩:∃ x,dk[a]! = x:=⟨_,rfl⟩;obtain ⟨y,hy⟩:∃ y,dk[j]! = y:=⟨_,rfl⟩;have F:=Lib.hid (HS.out.reads (i:=a) (j:=j) (by have:=HX6.out;omega) (by have:=HX6.out;omega) hx hy);by_cases hl:cmpE bt x y < 0
       ·go_wp2_with fail
        refine wq Wr ?_;iterate 8 (refine qo (fun K hK=>?_);go_simp;refine hK _ ?_;clear hK K)
        refine qo (fun K hK=>?_) (fun w' hw'=>by obtain ⟨⟨c0,c1,c2,c3⟩,-,-⟩:=F.out w' hw';go_simp<;>rfl);go_simp;refine hK _ ?_;clear hK K;iterate 3 (refine qo (fun K hK=>?_);go_simp;refine hK _ ?_;clear hK K)
        refine qo (fun K hK=>?_) (fun w' hw'=>by obtain ⟨-,⟨c0,c1,c2,c3⟩,-⟩:=F.out w' hw';go_simp<;>rfl);go_simp;refine hK _ ?_;clear hK K;refine qc (fun w' hw'=>(F.out w' hw').2.2) (fun K hK=>?_);go_simp;refine hK _ ?_;clear hK K;iterate 2 (refine qo (fun K hK=>?_);go_simp;refine hK _ ?_;clear hK K)
        refine wpQuiet_nil ?_;intro w5 hw5;have HS5:=Lib.hid (HS.out.below hw5);clear hw5;go_wp2;obtain ⟨hjj,hjq⟩:=HJ.out;refine ⟨⟨j',rfl,by omega,by omega,HS5.out,?_⟩,by simp [intOf];omega⟩;show scanDown (fun x=>ltOf (cmpE bt) dk[a]! x) dk i4 j'=_;rw [<- HO.out,show j'=j - 1 by omega];exact (scanDown_go _ _ _ _ hij (by omega) (by have e:ltOf (cmpE bt) x y=true:=decide_eq_true hl;show ltOf (cmpE bt) dk[a]! dk[j]! = _;rw [hx,hy,e])).symm
       ·have hlb:decide (cmpE bt x y < 0)=false:=decide_eq_false hl;go_wp2_with fail
        refine wq Wr ?_;iterate 8 (refine qo (fun K hK=>?_);go_simp;refine hK _ ?_;clear hK K)
        refine qo (fun K hK=>?_) (fun w' hw'=>by obtain ⟨⟨c0,c1,c2,c3⟩,-,-⟩:=F.out w' hw';go_simp<;>rfl);go_simp;refine hK _ ?_;clear hK K;iterate 3 (refine qo (fun K hK=>?_);go_simp;refine hK _ ?_;clear hK K)
        refine qo (fun K hK=>?_) (fun w' hw'=>by obtain ⟨-,⟨c0,c1,c2,c3⟩,-⟩:=F.out w' hw';go_simp<;>rfl);go_simp;refine hK _ ?_;clear hK K;refine qc (fun w' hw'=>(F.out w' hw').2.2) (fun K hK=>?_);go_simp;refine hK _ ?_;clear hK K;iterate 2 (refine qo (fun K hK=>?_);go_simp;refine hK _ ?_;clear hK K)
        refine wpQuiet_nil ?_;intro w5 hw5;have HS5:=Lib.hid (HS.out.below hw5);clear hw5;go_wp2;go_meet
        exact ⟨j,rfl,HS5.out,Lib.hid (by rw [<- HO.out];exact (scanDown_end _ _ _ _ (.inr (by have e:ltOf (cmpE bt) x y=false:=decide_eq_false (by omega);show ltOf (cmpE bt) dk[a]! dk[j]! = _;rw [hx,hy,e]))).symm)⟩
      ·have hijz:¬ ((i4:Int)<=(j:Int)):=by omega
       go_wp2_with fail
       go_quiet (fail)
       have HBd:RowKit.Below Wr.heap.size Wr (Wr.drewN nq):=⟨rfl,rfl,rfl,Nat.le_refl _,fun _ _=>rfl⟩;have HS5:=Lib.hid (HS.out.below HBd);clear HBd;go_wp2;go_meet
       exact ⟨j,rfl,HS5.out,Lib.hid (by rw [<- HO.out];exact (scanDown_end _ _ _ _ (.inl hij)).symm)⟩
    case rest=>
     obtain ⟨j4,rfl,hsj4,hj4⟩:=hcut;have HSj4:=Lib.hid hsj4;have HEj4:=Lib.hid hj4.out;clear hsj4 hj4;have hbj4:=scan_bounds (show i3<=j3+1 by have:=HXK.out;omega) HEi4.out HEj4.out;have hap4:0 < j4->i4≠j4:=scan_apart (fun _=>by simp) HEi4.out HEj4.out;have HX7:Hid (a < dk.size/\j4 < dk.size/\dk.size=N/\(i4<=j4->i4 < dk.size/\i4+1<=j4)/\a<=j4/\a < i4/\i4<=j4+1/\i3<=i4/\j4<=j3/\N<=1000000):=Lib.hid (by have:=HX6.out;omega);have bj4:(j4:Int) < (N:Int):=by have:=HX7.out;omega
     have hstep:=partEqLoop_step HEi4.out HEj4.out;clear hbj4 hap4;by_cases hgt4:i4 > j4
     ·have hgtz:(i4:Int) > (j4:Int):=by omega
      rw [if_pos hgt4,HO3.out] at hstep;have HST:=Lib.hid hstep;clear hstep;go_wp2;go_ret;rw [<- HRE.out,HST.out];exact ⟨rfl,HSj4.out⟩
     ·have hgtz:¬ (i4:Int) > (j4:Int):=by omega
      rw [if_neg hgt4,HO3.out] at hstep;have HST:=Lib.hid hstep;clear hstep;have bi4:(i4:Int) < (N:Int):=by have:=HX7.out;omega
      have HX8:Hid (i4 < dk.size/\j4 < dk.size/\i4+1<=j4):=Lib.hid (by have:=HX7.out;omega);obtain ⟨J5,hJ5⟩:∃ J5,J5=j4 - 1:=⟨_,rfl⟩;have wi5:IntKind.i64.wrap ((i4:Int)+1)=((i4+1:Nat):Int):=by
       have:=HX7.out;rw [wrap_in]<;>omega
      have wj5:IntKind.i64.wrap ((j4:Int) - 1)=(J5:Int):=by
       have:=HX7.out;have:=HX8.out
       rw [wrap_in]<;>omega
      have HJ5:Hid (J5=j4 - 1/\1<=j4):=Lib.hid (by have:=HX8.out;omega);clear hJ5;go_upto_region 8 with fail
      go_cut [] from 71 to 84 (fun wx=>Srt bt w0 jb pb byb made base g cap (swp dk i4 j4) wx)
      case first=>
       obtain ⟨x,hx⟩:∃ x,dk[i4]! = x:=⟨_,rfl⟩;have HIJ:Hid (i4 < dk.size/\j4 < dk.size):=Lib.hid (by have:=HX8.out;omega);by_cases heq:i4=j4
       ·subst heq;obtain ⟨pp,hpp,⟨x0,x1,x2,x3⟩,hfr,hdone⟩:=HSj4.out.exchSelf (i:=i4) HIJ.out.1 hx;have HD:=Lib.hid hdone;clear hdone;go_big_region
        all_goals
         clear x0 x1 x2 x3 hfr;go_wp2;go_meet
         exact HD.out
       ·obtain ⟨y,hy⟩:∃ y,dk[j4]! = y:=⟨_,rfl⟩;obtain ⟨pp,qq,hex⟩:=HSj4.out.exch (i:=i4) (j:=j4) HIJ.out.1 HIJ.out.2 hx hy;have HEX:=Lib.hid hex;obtain ⟨hpp,hqq,x0,x1,x2,x3,y0,y1,y2,y3,hfr,hapt,-⟩:=hex;obtain ⟨n0,n1,n2,n3,n4,n5,n6⟩:=hapt heq;clear hapt;go_big_region
        all_goals
         clear x0 x1 x2 x3 y0 y1 y2 y3 n0 n1 n2 n3 n4 n5 n6 hfr;go_wp2;go_meet
         exact HEX.out.done
      case rest=>
       have HS9:=Lib.hid hcut;clear hcut;go_wp2;have q1:=HX7.out;have q2:=HX8.out;have q3:=HJ5.out;refine ⟨⟨i4+1,J5,swp dk i4 j4,rfl,rfl,by omega,by omega,by omega,by rw [size_swp];omega,HS9.out,?_⟩,by simp [intOf];omega⟩;show partEqLoop _ _ _ _ _=_;rw [HST.out,q3.1]
end
end
section
open Go.RowKit Go.Maps Go.Sort
section
variable {bt:Bool} {w0 W W':World} {jb pb byb made base g cap:Nat} {d:Array Edg}
def PartInsPost (bt:Bool) (w0:World) (jb pb byb made base g cap:Nat) (r:Array Edg × Bool) (e:Ending) (w':World):Prop:=
 e=.returned (.bool r.2)/\Srt bt w0 jb pb byb made base g cap r.1 w'
theorem partialIns_step {lt:Edg->Edg->Bool} {a b s i u:Nat} {d:Array Edg} (hu:u=scanSorted lt d b i) :
 partialIns lt a b (s+1) i d=if u=b then (d,true) else if b - a < 50 then (d,false) else
  partialIns lt a b s u (if b - u >= 2 then shiftUp lt b (u+1) (if u - a >= 2 then shiftDown lt (u - 1) (swp d u (u - 1)) else swp d u (u - 1)) else (if u - a >= 2 then shiftDown lt (u - 1) (swp d u (u - 1)) else swp d u (u - 1))):=by
 subst hu;rfl
set_option maxRecDepth 100000 in
set_option maxHeartbeats 32000000 in
theorem partialInsertionSort_any (h:Srt bt w0 jb pb byb made base g cap d W) (a b:Nat) (hab:a < b) (hb:b<=d.size) (hsz:d.size<=1000000) :
 Calls Tryz.prog 310 #[.slice (some ⟨g,0,none⟩) d.size cap, .int .i64 (a:Int), .int .i64 (b:Int),cmpFn jb] W (PartInsPost bt w0 jb pb byb made base g cap (partialInsertionSort (ltOf (cmpE bt)) d a b)):=by
 have H:=Lib.hid h;obtain ⟨N,hN⟩:∃ N,N=d.size:=⟨_,rfl⟩;rw [<- hN] at hb hsz ⊢;have HN:=Lib.hid hN;clear h hN;obtain ⟨L0,hL0⟩:∃ L0,L0=b - a:=⟨_,rfl⟩;have wL0:IntKind.i64.wrap ((b:Int) - (a:Int))=(L0:Int):=by rw [wrap_in]<;>omega
 have wI0:IntKind.i64.wrap ((a:Int)+1)=((a+1:Nat):Int):=by rw [wrap_in]<;>omega
 have HB:Hid (a < b/\b<=N/\N<=1000000/\L0=b - a/\d.size=N):=Lib.hid (by have:=HN.out;omega);obtain ⟨r,hr⟩:∃ r,r=partialInsertionSort (ltOf (cmpE bt)) d a b:=⟨_,rfl⟩;have HR:Hid (partialIns (ltOf (cmpE bt)) a b 5 (a+1) d=r):=Lib.hid (by rw [hr];rfl);rw [<- hr];clear hL0 hab hb hsz hr;unfold cmpFn ptrTo;go_enter Tryz.func310,Tryz.ntmps310
 go_wp2_with fail
 go_loopw [9,10] (fun vi vs wr=>∃ (i3 s3:Nat) (dk:Array Edg),vi=.int .i64 (i3:Int)/\vs=.int .i64 (s3:Int)/\a < i3/\i3<=b/\s3<=5/\dk.size=N/\Srt bt w0 jb pb byb made base g cap dk wr/\Hid (partialIns (ltOf (cmpE bt)) a b (5 - s3) i3 dk=r)) (fun _ vs _=>5 - (intOf vs).toNat)
 case atStart=>exact ⟨a+1,0,d,by go_num,rfl,by omega,by have:=HB.out;omega,by omega,HN.out.symm,H.out,HR.out⟩
 case round=>
  obtain ⟨i3,s3,dk,rfl,rfl,hai3,hib3,hs35,hsk,hs3,HO3⟩:=hrel;generalize wr=Wr3 at *;have HS6:=Lib.hid hs3;have HXK:Hid (dk.size=N/\a < i3/\i3<=b/\s3<=5/\b<=N/\N<=1000000/\0 < i3):=Lib.hid (by have:=HB.out;omega);clear hs3 hsk hai3 hib3;by_cases hs5:s3 < 5
  ·have hs5z:(s3:Int) < 5:=by omega
   have ws1:IntKind.i64.wrap ((s3:Int)+1)=((s3+1:Nat):Int):=by rw [wrap_in]<;>omega
   go_upto_block 2 with fail
   go_cut [9] from 19 to 38 (fun vi wx=>∃ i:Nat,vi=.int .i64 (i:Int)/\Srt bt w0 jb pb byb made base g cap dk wx/\Hid (i=scanSorted (ltOf (cmpE bt)) dk b i3/\i3<=i/\i<=b))
   case first=>
    go_wp2_with fail
    go_loopw [9] (fun vi wr=>∃ i:Nat,vi=.int .i64 (i:Int)/\i3<=i/\i<=b/\Srt bt w0 jb pb byb made base g cap dk wr/\Hid (scanSorted (ltOf (cmpE bt)) dk b i=scanSorted (ltOf (cmpE bt)) dk b i3)) (fun vi _=>b - (intOf vi).toNat)
    case atStart=>exact ⟨i3,rfl,Nat.le_refl _,HXK.out.2.2.1,HS6.out,rfl⟩
    case round=>
     obtain ⟨i,rfl,hb1,hb2,hs,HO⟩:=hrel;generalize wr=Wr at *;have HS:=Lib.hid hs;clear hs;by_cases hij:i < b
     ·obtain ⟨ip,hip⟩:∃ ip,ip=i - 1:=⟨_,rfl⟩;have hijz:(i:Int) < (b:Int):=by omega
      have bi:(i:Int) < (N:Int):=by have:=HXK.out;omega
      have bip:(ip:Int) < (N:Int):=by have:=HXK.out;omega
      have wi1:IntKind.i64.wrap ((i:Int)+1)=((i+1:Nat):Int):=by
       have:=HXK.out;rw [wrap_in]<;>omega
      have wim:IntKind.i64.wrap ((i:Int) - 1)=(ip:Int):=by
       have:=HXK.out;rw [wrap_in]<;>omega
      have HIP:Hid (ip=i - 1):=Lib.hid hip;obtain ⟨x,hx⟩:∃ x,dk[i]! = x:=⟨_,rfl⟩;obtain ⟨y,hy⟩:∃ y,dk[ip]! = y:=⟨_,rfl⟩;have F:=Lib.hid (HS.out.reads (i:=i) (j:=ip) (by have:=HXK.out;omega) (by have:=HXK.out;omega) hx hy);clear hip;by_cases hl:cmpE bt x y < 0
      ·go_wp2_with fail
       refine wq Wr ?_;iterate 8 (refine qo (fun K hK=>?_);go_simp;refine hK _ ?_;clear hK K)
       refine qo (fun K hK=>?_) (fun w' hw'=>by obtain ⟨⟨c0,c1,c2,c3⟩,-,-⟩:=F.out w' hw';go_simp<;>rfl);go_simp;refine hK _ ?_;clear hK K;iterate 4 (refine qo (fun K hK=>?_);go_simp;refine hK _ ?_;clear hK K)
       refine qo (fun K hK=>?_) (fun w' hw'=>by obtain ⟨-,⟨c0,c1,c2,c3⟩,-⟩:=F.out w' hw';go_simp<;>rfl);go_simp;refine hK _ ?_;clear hK K;refine qc (fun w' hw'=>(F.out w' hw').2.2) (fun K hK=>?_);go_simp;refine hK _ ?_;clear hK K;iterate 3 (refine qo (fun K hK=>?_);go_simp;refine hK _ ?_;clear hK K)
       refine wpQuiet_nil ?_;intro w5 hw5;have HS5:=Lib.hid (HS.out.below hw5);clear hw5;go_wp2;go_meet
       exact ⟨i,rfl,HS5.out,Lib.hid ⟨by rw [<- HO.out];exact (scanSorted_stop _ _ _ _ (.inr (by rw [<- HIP.out,hx,hy];exact decide_eq_true hl))).symm,hb1,hb2⟩⟩
      ·have hlb:decide (cmpE bt x y < 0)=false:=decide_eq_false hl;go_wp2_with fail
       refine wq Wr ?_;iterate 8 (refine qo (fun K hK=>?_);go_simp;refine hK _ ?_;clear hK K)
       refine qo (fun K hK=>?_) (fun w' hw'=>by obtain ⟨⟨c0,c1,c2,c3⟩,-,-⟩:=F.out w' hw';go_simp<;>rfl);go_simp;refine hK _ ?_;clear hK K;iterate 4 (refine qo (fun K hK=>?_);go_simp;refine hK _ ?_;clear hK K)
       refine qo (fun K hK=>?_) (fun w' hw'=>by obtain ⟨-,⟨c0,c1,c2,c3⟩,-⟩:=F.out w' hw';go_simp<;>rfl);go_simp;refine hK _ ?_;clear hK K;refine qc (fun w' hw'=>(F.out w' hw').2.2) (fun K hK=>?_);go_simp;refine hK _ ?_;clear hK K;iterate 3 (refine qo (fun K hK=>?_);go_simp;refine hK _ ?_;clear hK K)
       refine wpQuiet_nil ?_;intro w5 hw5;have HS5:=Lib.hid (HS.out.below hw5);clear hw5;go_wp2;refine ⟨⟨(i+1),rfl,by omega,by omega,HS5.out,?_⟩,by simp [intOf];omega⟩;show scanSorted _ _ _ _=_;rw [<- HO.out];exact (scanSorted_go _ _ _ _ hij (by rw [<- HIP.out,hx,hy];exact hlb)).symm
     ·have hijz:¬ ((i:Int) < (b:Int)):=by omega
      go_wp2_with fail
      go_quiet (fail)
      have HBd:RowKit.Below Wr.heap.size Wr (Wr.drewN nq):=⟨rfl,rfl,rfl,Nat.le_refl _,fun _ _=>rfl⟩;have HS5:=Lib.hid (HS.out.below HBd);clear HBd;go_wp2;go_meet
      exact ⟨i,rfl,HS5.out,Lib.hid ⟨by rw [<- HO.out];exact (scanSorted_stop _ _ _ _ (.inl hij)).symm,hb1,hb2⟩⟩
   case rest=>
    obtain ⟨u,rfl,hsu,hu⟩:=hcut;have HSu:=Lib.hid hsu;have HU:=Lib.hid hu.out;have HST:=Lib.hid (partialIns_step (a:=a) (s:=5 - (s3+1)) hu.out.1);have h5:5 - (s3+1)+1=5 - s3:=by omega
    rw [h5,HO3.out] at HST;clear hsu hu h5;by_cases hub:u=b
    ·have hubz:(u:Int)=(b:Int):=by omega
     have e:=HST.out;rw [if_pos hub] at e;have HE:=Lib.hid e;clear e hub;go_wp2;go_ret;rw [HE.out];exact ⟨rfl,HSu.out⟩
    ·have hubz:((u:Int) == (b:Int))=false:=by simp;omega
     by_cases h50:b - a < 50
     ·have h50z:(L0:Int) < 50:=by have:=HB.out;omega
      have e:=HST.out;rw [if_neg hub,if_pos h50] at e;have HE:=Lib.hid e;clear e hub h50;go_wp2;go_ret;rw [HE.out];exact ⟨rfl,HSu.out⟩
     ·have h50z:¬ (L0:Int) < 50:=by have:=HB.out;omega
      have e:=HST.out;rw [if_neg hub,if_neg h50] at e;have HE:=Lib.hid e;obtain ⟨U1,hU1⟩:∃ U1,U1=u - 1:=⟨_,rfl⟩;rw [<- hU1] at HE;have bu:(u:Int) < (N:Int):=by have:=HU.out;have:=HB.out;omega
      have bu1:(U1:Int) < (N:Int):=by have:=HU.out;have:=HB.out;omega
      have wu1:IntKind.i64.wrap ((u:Int) - 1)=(U1:Int):=by
       have:=HU.out;have:=HB.out;have:=HXK.out
       rw [wrap_in]<;>omega
      have wup:IntKind.i64.wrap ((u:Int)+1)=((u+1:Nat):Int):=by
       have:=HU.out;have:=HB.out
       rw [wrap_in]<;>omega
      obtain ⟨P,hP⟩:∃ P,P=u - a:=⟨_,rfl⟩;obtain ⟨Q,hQ⟩:∃ Q,Q=b - u:=⟨_,rfl⟩;have wP:IntKind.i64.wrap ((u:Int) - (a:Int))=(P:Int):=by
       have:=HU.out;have:=HB.out;have:=HXK.out
       rw [wrap_in]<;>omega
      have wQ:IntKind.i64.wrap ((b:Int) - (u:Int))=(Q:Int):=by
       have:=HU.out;have:=HB.out
       rw [wrap_in]<;>omega
      have HX7:Hid (u < dk.size/\U1 < dk.size/\u≠U1/\dk.size=N/\a < u/\u < b/\b<=N/\N<=1000000/\P=u - a/\Q=b - u/\U1=u - 1):=Lib.hid (by have:=HU.out;have:=HB.out;have:=HXK.out;omega);clear e hub h50 hU1 hP hQ;go_upto_region 11 with fail
      go_cut [] from 46 to 61 (fun wx=>Srt bt w0 jb pb byb made base g cap (swp dk u U1) wx)
      case first=>
       obtain ⟨x,hx⟩:∃ x,dk[u]! = x:=⟨_,rfl⟩;obtain ⟨y,hy⟩:∃ y,dk[U1]! = y:=⟨_,rfl⟩;obtain ⟨pp,qq,hex⟩:=HSu.out.exch (i:=u) (j:=U1) HX7.out.1 HX7.out.2.1 hx hy;have HEX:=Lib.hid hex;obtain ⟨hpp,hqq,x0,x1,x2,x3,y0,y1,y2,y3,hfr,hapt,-⟩:=hex;obtain ⟨n0,n1,n2,n3,n4,n5,n6⟩:=hapt HX7.out.2.2.1;clear hapt;go_big_region
       all_goals
        clear x0 x1 x2 x3 y0 y1 y2 y3 n0 n1 n2 n3 n4 n5 n6 hfr;go_wp2;go_meet
        exact HEX.out.done
      case rest=>
       have HS1:=Lib.hid hcut;clear hcut;obtain ⟨D1,hD1⟩:∃ D1,D1=swp dk u U1:=⟨_,rfl⟩;rw [<- hD1] at HS1 HE;have HZD1:Hid (D1.size=N):=Lib.hid (by rw [hD1,size_swp];exact HX7.out.2.2.2.1);clear hD1;rw [show u - a=P from HX7.out.2.2.2.2.2.2.2.2.1.symm,show b - u=Q from HX7.out.2.2.2.2.2.2.2.2.2.1.symm] at HE;go_upto_if 65 with fail
       go_cut [] from 65 to 100 (fun wx=>∃ dd:Array Edg,dd.size=N/\Srt bt w0 jb pb byb made base g cap dd wx/\Hid (dd=if P >= 2 then shiftDown (ltOf (cmpE bt)) U1 D1 else D1))
       case first=>
        by_cases hV:P >= 2
        ·have hVz:(P:Int) >= 2:=by omega
         go_wp2_with fail
         go_loopw [11] (fun vj wr=>∃ (j:Nat) (dj:Array Edg),vj=.int .i64 (j:Int)/\j<=U1/\dj.size=N/\Srt bt w0 jb pb byb made base g cap dj wr/\Hid (shiftDown (ltOf (cmpE bt)) j dj=shiftDown (ltOf (cmpE bt)) U1 D1)) (fun vj _=>(intOf vj).toNat)
         case atStart=>exact ⟨U1,D1,rfl,Nat.le_refl _,HZD1.out,HS1.out,rfl⟩
         case round=>
          obtain ⟨j,dj,rfl,hj1,hsj,hs,HI⟩:=hrel;generalize wr=Wr at *;have HSJ:=Lib.hid hs;have HZJ:=Lib.hid hsj;clear hs hsj;by_cases hjc:1<=j
          ·have hjz:(j:Int) >= 1:=by omega
           obtain ⟨jp,hjp⟩:∃ jp,jp=j - 1:=⟨_,rfl⟩;have bj:(j:Int) < (N:Int):=by have:=HX7.out;omega
           have bjp:(jp:Int) < (N:Int):=by have:=HX7.out;omega
           have wjp:IntKind.i64.wrap ((j:Int) - 1)=(jp:Int):=by
            have:=HX7.out;rw [wrap_in]<;>omega
           have HJ:Hid (j < dj.size/\jp < dj.size/\j≠jp/\jp=j - 1/\1<=j):=Lib.hid (by have:=HX7.out;have:=HZJ.out;omega);clear hjp;obtain ⟨x,hx⟩:∃ x,dj[j]! = x:=⟨_,rfl⟩;obtain ⟨y,hy⟩:∃ y,dj[jp]! = y:=⟨_,rfl⟩;have F:=Lib.hid (HSJ.out.reads (i:=j) (j:=jp) HJ.out.1 HJ.out.2.1 hx hy);by_cases hl:cmpE bt x y < 0
           ·have HLT:Hid (ltOf (cmpE bt) dj[j]! dj[jp]! = true):=Lib.hid (by rw [hx,hy];exact decide_eq_true hl);go_wp2_with fail
            refine wq Wr ?_;iterate 4 (refine qo (fun K hK=>?_);go_simp;refine hK _ ?_;clear hK K)
            refine qo (fun K hK=>?_) (fun w' hw'=>by obtain ⟨⟨c0,c1,c2,c3⟩,-,-⟩:=F.out w' hw';go_simp<;>rfl);go_simp;refine hK _ ?_;clear hK K;iterate 4 (refine qo (fun K hK=>?_);go_simp;refine hK _ ?_;clear hK K)
            refine qo (fun K hK=>?_) (fun w' hw'=>by obtain ⟨-,⟨c0,c1,c2,c3⟩,-⟩:=F.out w' hw';go_simp<;>rfl);go_simp;refine hK _ ?_;clear hK K;refine qc (fun w' hw'=>(F.out w' hw').2.2) (fun K hK=>?_);go_simp;refine hK _ ?_;clear hK K;iterate 2 (refine qo (fun K hK=>?_);go_simp;refine hK _ ?_;clear hK K)
            refine wpQuiet_nil ?_;intro w5 hw5;have HS5:=Lib.hid (HSJ.out.below hw5);clear hw5;clear hx hy F;go_upto_region 17 with fail
            obtain ⟨x',hx'⟩:∃ x,dj[j]! = x:=⟨_,rfl⟩;obtain ⟨y',hy'⟩:∃ y,dj[jp]! = y:=⟨_,rfl⟩;obtain ⟨pp,qq,hex⟩:=HS5.out.exch (i:=j) (j:=jp) HJ.out.1 HJ.out.2.1 hx' hy';have HEX:=Lib.hid hex;obtain ⟨hpp,hqq,x0,x1,x2,x3,y0,y1,y2,y3,hfr,hapt,-⟩:=hex;obtain ⟨n0,n1,n2,n3,n4,n5,n6⟩:=hapt HJ.out.2.2.1;clear hapt;go_big_region
            all_goals
             clear x0 x1 x2 x3 y0 y1 y2 y3 n0 n1 n2 n3 n4 n5 n6 hfr;have hdone:=Lib.hid HEX.out.done;go_wp2;have q:=HJ.out;refine ⟨⟨jp,swp dj j jp,rfl,by omega,by rw [size_swp];exact HZJ.out,hdone.out,?_⟩,by simp [intOf];omega⟩;show shiftDown (ltOf (cmpE bt)) _ _=_;rw [<- HI.out,q.2.2.2.1];exact (shiftDown_go _ _ _ q.2.2.2.2 (by rw [<- q.2.2.2.1];exact HLT.out)).symm
           ·have hlb:decide (cmpE bt x y < 0)=false:=decide_eq_false hl;go_wp2_with fail
            refine wq Wr ?_;iterate 4 (refine qo (fun K hK=>?_);go_simp;refine hK _ ?_;clear hK K)
            refine qo (fun K hK=>?_) (fun w' hw'=>by obtain ⟨⟨c0,c1,c2,c3⟩,-,-⟩:=F.out w' hw';go_simp<;>rfl);go_simp;refine hK _ ?_;clear hK K;iterate 4 (refine qo (fun K hK=>?_);go_simp;refine hK _ ?_;clear hK K)
            refine qo (fun K hK=>?_) (fun w' hw'=>by obtain ⟨-,⟨c0,c1,c2,c3⟩,-⟩:=F.out w' hw';go_simp<;>rfl);go_simp;refine hK _ ?_;clear hK K;refine qc (fun w' hw'=>(F.out w' hw').2.2) (fun K hK=>?_);go_simp;refine hK _ ?_;clear hK K;iterate 2 (refine qo (fun K hK=>?_);go_simp;refine hK _ ?_;clear hK K)
            refine wpQuiet_nil ?_;intro w5 hw5;have HS5:=Lib.hid (HSJ.out.below hw5);clear hw5;go_wp2;go_meet
            exact ⟨dj,HZJ.out,HS5.out,Lib.hid (by rw [if_pos hV,<- HI.out];exact (shiftDown_stop _ _ _ (.inr (by rw [<- HJ.out.2.2.2.1,hx,hy];exact hlb))).symm)⟩
          ·have hjz:¬ ((j:Int) >= 1):=by omega
           go_wp2;go_meet
           exact ⟨dj,HZJ.out,HSJ.out,Lib.hid (by rw [if_pos hV,<- HI.out];exact (shiftDown_stop _ _ _ (.inl (by omega))).symm)⟩
        ·have hVz:¬ (P:Int) >= 2:=by omega
         go_wp2;go_meet
         exact ⟨D1,HZD1.out,HS1.out,Lib.hid (by rw [if_neg hV])⟩
       case rest=>
        obtain ⟨D2,hz,hs,hD2⟩:=hcut;have HS2:=Lib.hid hs;have HZD2:=Lib.hid hz;have HED2:=Lib.hid hD2.out;clear hs hz hD2;rw [<- HED2.out] at HE;by_cases hV:Q >= 2
        ·have hVz:(Q:Int) >= 2:=by omega
         go_wp2_with fail
         go_loopw [12] (fun vj wr=>∃ (j:Nat) (dj:Array Edg),vj=.int .i64 (j:Int)/\u < j/\j<=b/\dj.size=N/\Srt bt w0 jb pb byb made base g cap dj wr/\Hid (shiftUp (ltOf (cmpE bt)) b j dj=shiftUp (ltOf (cmpE bt)) b (u+1) D2)) (fun vj _=>b - (intOf vj).toNat)
         case atStart=>exact ⟨(u+1),D2,rfl,by omega,by have:=HX7.out;omega,HZD2.out,HS2.out,rfl⟩
         case round=>
          obtain ⟨j,dj,rfl,hj0,hj1,hsj,hs,HI⟩:=hrel;generalize wr=Wr at *;have HSJ:=Lib.hid hs;have HZJ:=Lib.hid hsj;clear hs hsj;by_cases hjc:j < b
          ·have hjz:(j:Int) < (b:Int):=by omega
           obtain ⟨jp,hjp⟩:∃ jp,jp=j - 1:=⟨_,rfl⟩;have bj:(j:Int) < (N:Int):=by have:=HX7.out;omega
           have bjp:(jp:Int) < (N:Int):=by have:=HX7.out;omega
           have wjp:IntKind.i64.wrap ((j:Int) - 1)=(jp:Int):=by
            have:=HX7.out;rw [wrap_in]<;>omega
           have wjn:IntKind.i64.wrap ((j:Int)+1)=((j+1:Nat):Int):=by
            have:=HX7.out;rw [wrap_in]<;>omega
           have HJ:Hid (j < dj.size/\jp < dj.size/\j≠jp/\jp=j - 1/\1<=j):=Lib.hid (by have:=HX7.out;have:=HZJ.out;omega);clear hjp;obtain ⟨x,hx⟩:∃ x,dj[j]! = x:=⟨_,rfl⟩;obtain ⟨y,hy⟩:∃ y,dj[jp]! = y:=⟨_,rfl⟩;have F:=Lib.hid (HSJ.out.reads (i:=j) (j:=jp) HJ.out.1 HJ.out.2.1 hx hy);by_cases hl:cmpE bt x y < 0
           ·have HLT:Hid (ltOf (cmpE bt) dj[j]! dj[jp]! = true):=Lib.hid (by rw [hx,hy];exact decide_eq_true hl);go_wp2_with fail
            refine wq Wr ?_;iterate 4 (refine qo (fun K hK=>?_);go_simp;refine hK _ ?_;clear hK K)
            refine qo (fun K hK=>?_) (fun w' hw'=>by obtain ⟨⟨c0,c1,c2,c3⟩,-,-⟩:=F.out w' hw';go_simp<;>rfl);go_simp;refine hK _ ?_;clear hK K;iterate 4 (refine qo (fun K hK=>?_);go_simp;refine hK _ ?_;clear hK K)
            refine qo (fun K hK=>?_) (fun w' hw'=>by obtain ⟨-,⟨c0,c1,c2,c3⟩,-⟩:=F.out w' hw';go_simp<;>rfl);go_simp;refine hK _ ?_;clear hK K;refine qc (fun w' hw'=>(F.out w' hw').2.2) (fun K hK=>?_);go_simp;refine hK _ ?_;clear hK K;iterate 2 (refine qo (fun K hK=>?_);go_simp;refine hK _ ?_;clear hK K)
            refine wpQuiet_nil ?_;intro w5 hw5;have HS5:=Lib.hid (HSJ.out.below hw5);clear hw5;clear hx hy F;go_upto_region 23 with fail
            obtain ⟨x',hx'⟩:∃ x,dj[j]! = x:=⟨_,rfl⟩;obtain ⟨y',hy'⟩:∃ y,dj[jp]! = y:=⟨_,rfl⟩;obtain ⟨pp,qq,hex⟩:=HS5.out.exch (i:=j) (j:=jp) HJ.out.1 HJ.out.2.1 hx' hy';have HEX:=Lib.hid hex;obtain ⟨hpp,hqq,x0,x1,x2,x3,y0,y1,y2,y3,hfr,hapt,-⟩:=hex;obtain ⟨n0,n1,n2,n3,n4,n5,n6⟩:=hapt HJ.out.2.2.1;clear hapt;go_big_region
            all_goals
             clear x0 x1 x2 x3 y0 y1 y2 y3 n0 n1 n2 n3 n4 n5 n6 hfr;have hdone:=Lib.hid HEX.out.done;go_wp2;have q:=HJ.out;refine ⟨⟨(j+1),swp dj j jp,rfl,by omega,by omega,by rw [size_swp];exact HZJ.out,hdone.out,?_⟩,by simp [intOf];omega⟩;show shiftUp (ltOf (cmpE bt)) b _ _=_;rw [<- HI.out,q.2.2.2.1];exact (shiftUp_go _ _ _ _ hjc (by rw [<- q.2.2.2.1];exact HLT.out)).symm
           ·have hlb:decide (cmpE bt x y < 0)=false:=decide_eq_false hl;go_wp2_with fail
            refine wq Wr ?_;iterate 4 (refine qo (fun K hK=>?_);go_simp;refine hK _ ?_;clear hK K)
            refine qo (fun K hK=>?_) (fun w' hw'=>by obtain ⟨⟨c0,c1,c2,c3⟩,-,-⟩:=F.out w' hw';go_simp<;>rfl);go_simp;refine hK _ ?_;clear hK K;iterate 4 (refine qo (fun K hK=>?_);go_simp;refine hK _ ?_;clear hK K)
            refine qo (fun K hK=>?_) (fun w' hw'=>by obtain ⟨-,⟨c0,c1,c2,c3⟩,-⟩:=F.out w' hw';go_simp<;>rfl);go_simp;refine hK _ ?_;clear hK K;refine qc (fun w' hw'=>(F.out w' hw').2.2) (fun K hK=>?_);go_simp;refine hK _ ?_;clear hK K;iterate 2 (refine qo (fun K hK=>?_);go_simp;refine hK _ ?_;clear hK K)
            refine wpQuiet_nil ?_;intro w5 hw5;have HS5:=Lib.hid (HSJ.out.below hw5);clear hw5;have HED3:Hid (dj=if Q >= 2 then shiftUp (ltOf (cmpE bt)) b (u+1) D2 else D2):=Lib.hid (by rw [if_pos hV,<- HI.out];exact (shiftUp_stop _ _ _ _ (.inr (by rw [<- HJ.out.2.2.2.1,hx,hy];exact hlb))).symm);have HF:Hid (partialIns (ltOf (cmpE bt)) a b (5 - (s3+1)) u dj=r):=Lib.hid (by rw [HED3.out];exact HE.out.symm);go_wp2;have q:=HX7.out;exact ⟨⟨u,s3+1,dj,rfl,rfl,by omega,by omega,by omega,(HZJ.out),(HS5.out),HF⟩,by simp [intOf];omega⟩
          ·have hjz:¬ ((j:Int) < (b:Int)):=by omega
           have HED3:Hid (dj=if Q >= 2 then shiftUp (ltOf (cmpE bt)) b (u+1) D2 else D2):=Lib.hid (by rw [if_pos hV,<- HI.out];exact (shiftUp_stop _ _ _ _ (.inl hjc)).symm);have HF:Hid (partialIns (ltOf (cmpE bt)) a b (5 - (s3+1)) u dj=r):=Lib.hid (by rw [HED3.out];exact HE.out.symm);go_wp2;have q:=HX7.out;exact ⟨⟨u,s3+1,dj,rfl,rfl,by omega,by omega,by omega,(HZJ.out),(HSJ.out),HF⟩,by simp [intOf];omega⟩
        ·have hVz:¬ (Q:Int) >= 2:=by omega
         have HED3:Hid (D2=if Q >= 2 then shiftUp (ltOf (cmpE bt)) b (u+1) D2 else D2):=Lib.hid (by rw [if_neg hV]);have HF:Hid (partialIns (ltOf (cmpE bt)) a b (5 - (s3+1)) u D2=r):=Lib.hid (by rw [HED3.out];exact HE.out.symm);go_wp2;have q:=HX7.out;exact ⟨⟨u,s3+1,D2,rfl,rfl,by omega,by omega,by omega,(HZD2.out),(HS2.out),HF⟩,by simp [intOf];omega⟩
  ·have hs5z:¬ (s3:Int) < 5:=by omega
   have e:5 - s3=0:=by omega
   have HF:=HO3.out;rw [e] at HF;have HG:Hid (r=(dk,false)):=Lib.hid HF.symm;clear HF e;go_wp2;go_ret;rw [HG.out];exact ⟨rfl,HS6.out⟩
end
end
section
open Go.RowKit Go.Maps Go.Sort
def PdqAt (m:Nat):Prop:=∀ {bt:Bool} {w0 W:World} {jb pb byb made base g cap:Nat} {d:Array Edg},Srt bt w0 jb pb byb made base g cap d W->∀ (a b limit:Nat),a<=b->b<=d.size->d.size<=1000000->b - a<=m->limit<=64->Sort.Below (ltOf (cmpE bt)) a b d ->
 Calls Tryz.prog 292 #[.slice (some ⟨g,0,none⟩) d.size cap, .int .i64 (a:Int), .int .i64 (b:Int), .int .i64 (limit:Int),cmpFn jb] W (SrtPost bt w0 jb pb byb made base g cap (pdq (ltOf (cmpE bt)) d a b limit true true))
set_option maxRecDepth 100000 in
set_option maxHeartbeats 1000000 in
theorem pdq_twelve:PdqAt 12:=by
 intro bt w0 W jb pb byb made base g cap d h a b limit hab hb hsz hm hl _;have hins:=Lib.hid (insertionSort_any h a b hab hb hsz);rw [pdq_small hm];have hw:IntKind.i64.wrap ((b:Int) - (a:Int))=(b:Int) - (a:Int):=wrap_in (by omega) (by omega);have hle:(b:Int) - (a:Int)<=12:=by omega
 clear h;unfold cmpFn ptrTo at *;generalize d.size=N at *;go_enter Tryz.func292,Tryz.ntmps292
 go_wp2;refine wp_loop_rounds 1 ?_;rw [rounds_succ];go_wp2_with fail
 refine hins.out.mono ?_;rintro e w' ⟨rfl,hs⟩;have HS:=Lib.hid hs;clear hs;go_wp2;go_returns
 exact ⟨rfl,HS.out⟩
theorem bitLen_64 {n:Nat} (h:n<=1000000):Lib.bitLen n<=64:=Nat.le_trans (Lib.bitLen_le n 62 (by omega) (by omega)) (by decide)
set_option maxRecDepth 100000 in
set_option maxHeartbeats 1000000 in
theorem sortSaid_of {m:Nat} (hm:m<=1000000) (HP:PdqAt m):SortSaid m:=by
 intro w jb pb byb made b hj base g cap es hes ho hgj hgb;have hs:Srt b w jb pb byb made base g cap es.toArray w:=⟨by simpa using ho,hj,hgj,hgb,Turn.refl _ _⟩;have hlim:=bitLen_64 (n:=es.length) (by omega);have hp:=HP hs 0 es.length (Lib.bitLen es.length) (Nat.zero_le _) (by simp) (by simp;omega) (by omega) hlim (.inl rfl);obtain ⟨hperm,hsort⟩:=pdq_sorts (ltOf (cmpE b)) (swo_cmpE b) es.toArray 0 es.length (Lib.bitLen es.length) true true (Nat.zero_le _) (by simp) (.inl rfl);have hbits:Calls Tryz.prog 87 #[.int .u64 (es.length:Int)] w fun e w'=>e=.returned (.int .i64 (Lib.bitLen es.length:Nat))/\w'=w:=by
  have:=Any.bits_Len (SlLaysF0.n15.bits (P:=Tryz.prog) (ρ:=Tryz.sortEdges_ren) { Tryz.sortEdges with }) (es.length:Int) w (by omega) (by omega);rwa [Int.toNat_natCast] at this
 have HB:=Lib.hid hbits;generalize pdq (ltOf (cmpE b)) es.toArray 0 es.length (Lib.bitLen es.length) true true=D at *;have HQ:Hid (∀ e w',SrtPost b w jb pb byb made base g cap D e w'->SortedPost b w base g cap es e w'):=Lib.hid (fun e w' ⟨he,h2⟩=>by
  obtain ⟨hsz,-,hpm⟩:=hperm;have hsz':D.size=es.length:=by rw [hsz];simp
  refine ⟨D.toList,he,?_,?_,?_,h2.turn⟩
  ·have e1:(D.extract 0 es.length).toList=D.toList:=by rw [<- hsz'];simp
   have e2:(es.toArray.extract 0 es.length).toList=es:=by simp
   rw [e1,e2] at hpm;exact hpm
  ·rw [List.pairwise_iff_getElem];intro i j hi hj hij;have h3:=hsort i j (Nat.zero_le _) hij (by rw [<- hsz'];simpa using hj);unfold ltOf at h3;rw [decide_eq_false_iff_not,cmpE_ahead] at h3;rw [Array.length_toList] at hi hj;rw [getElem!_pos D i hi,getElem!_pos D j hj] at h3;rw [Array.getElem_toList,Array.getElem_toList];exact h3
  ·have:=h2.row;rw [hsz'] at this;exact this)
 have HC:=Lib.hid hp;have hw:IntKind.u64.wrap (es.length:Int)=(es.length:Int):=wraps_u64 _ (by omega) (by omega);clear hbits hp hperm hsort hs hj ho;simp only [List.size_toArray] at HC;unfold cmpFn ptrTo at *;generalize es.length=N at *;go_enter Tryz.func260,Tryz.ntmps260
 go_wp2_with fail
 refine HB.out.mono ?_;rintro e w' ⟨rfl,rfl⟩;go_wp2_with fail
 refine HC.out.mono ?_;rintro e w2 ⟨rfl,hs⟩;have HS:=Lib.hid hs;clear hs;go_wp2;go_returns
 exact HQ.out _ _ ⟨rfl,HS.out⟩
end
end Go.Proofs.YthkkgdpomhhjjaaGreatDoor
