/-
  Joined.
-/
import Derived.Test.YthkkgdpomhhjjaaGreatDoorQ10
import Derived.Deep.LoopGhost
namespace Go.Proofs.YthkkgdpomhhjjaaGreatDoor
section
open Go.RowKit Go.Maps Go.MapKept
section
variable {S:Nat->Prop} {w w':World} {pb db n cb kb sb jb byb made:Nat} {by':Bool} {name:Name} {o o':Owner} {d d':Dsk} {L L':Logic}
set_option maxHeartbeats 1000000 in
theorem poolFrames_any (h:PoolAt w pb db n o d L):Calls Tryz.prog 44 #[ptrTo pb] w fun e w'=>e=.returned (.int .i64 (n:Int))/\w=w':=by
 obtain ⟨fb,mb,l,hand,mf,hp,rfl,-⟩:=h;obtain ⟨⟨-,hc1,-⟩,-⟩:=hp.head.cells;have hm:=hp.most;clear hp;unfold ptrTo;generalize l.length=n at *;go_enter Tryz.func44,Tryz.ntmps44
 go_wp2;go_ret;exact ⟨rfl,rfl⟩
theorem StreamAt.ofMoved (hst:StreamAt w sb pb name 20) (hm:Moved S n pb db w o d w' o' d' L') (ho:o sb=none) (hs:¬ S sb):StreamAt w' sb pb name 20:=hst.moved hm ho hs
def srcLeft (w:World) (cb N:Nat):Nat:=N - (intOf ((w.cell? ⟨cb,1,none⟩).getD undef)).toNat
theorem srcLeft_at {i N:Nat} {x:Edg} (h:SourceAt w cb sb i N x):srcLeft w cb N=N - i:=by
 unfold srcLeft;rw [h.cells.1.2.1];simp [intOf]
def nmOf (many:Bool) (out:Name) (r:Nat):Name:=if many then tName r else out
def RunsHead (n pb db jb byb cb sb:Nat) (by':Bool) (w:World) (o:Owner) (d:Dsk) (L:Logic) (out:Name) (es:List Edg) (most:Nat) (many:Bool) (v:Value) (wr:World):Prop:=
 ∃ (rs:List Run) (i:Nat) (d':Dsk) (o':Owner) (x0:Edg),Moved (fun x=>x=cb\/x=jb) n pb db w o d wr o' d' (runsL rs L)/\JobAt wr jb pb byb (if many=true then rs.length else 0) by'/\SourceAt wr cb sb i es.length x0 /\
  wr.ownsRow w.heap.size 9 1 v rs.length ((rs.map (·.1)).map Value.string)/\(∀ x,v.ownBlock=some x->o' x=none)/\rs.map (·.1)=(List.range rs.length).map (nmOf many out)/\i=min es.length (rs.length*most) /\
  (∀ p∈rs,bestOf by' p.2=p.2)/\bestOf by' (allOf rs)=bestOf by' (es.take i)/\lens rs<=i/\(many=false->rs.length<=1)/\(0 < rs.length->0 < es.length)/\rs.length<=51
def RunsPost (n pb db jb byb cb:Nat) (by':Bool) (w:World) (o:Owner) (d:Dsk) (L:Logic) (out:Name) (es:List Edg) (e:Ending) (w':World):Prop:=
 ∃ v c d' o' L',e=.returned (.tuple #[v, .int .i64 ((c:Nat):Int)])/\Moved (fun x=>x=cb\/x=jb) n pb db w o d w' o' d' L'/\(∀ x,¬ ofSort out x->mget L' x=mget L x) /\
  ((c=0/\∃ rs r,L'=runsL rs L/\RunsOk by' es rs/\((∃ x,rs=[(out,x)])\/(2<=rs.length/\48 < es.length/\∀ p∈rs,∃ k,k < r/\p.1=tName k))/\r<=rs.length/\rs.length<=51/\JobAt w' jb pb byb r by'/\NameRow w' v (rs.map (·.1))/\∀ b,v.ownBlock=some b->o' b=none/\w.heap.size<=b)\/ErrN d d' (need L+8*es.length) c)
theorem range_names (many:Bool) (out:Name) (r:Nat) (h1:many=false->r<=1) :
 ((List.range r).map (nmOf many out)).Nodup/\(r<=51->∀ x∈(List.range r).map (nmOf many out),ofSort out x):=by
 constructor
 ·cases many with
  | true=>exact List.pairwise_map.2 (List.nodup_range.imp (fun {a b} h e=>h (tName_inj e)))
  | false=>
    have:=h1 rfl;match r,this with
    | 0,_=>exact List.Pairwise.nil
    | 1,_=>exact List.pairwise_singleton _ _
 ·intro hr x hx;obtain ⟨k,hk,rfl⟩:=List.mem_map.1 hx;rw [List.mem_range] at hk;cases many with
  | true=>exact .inr ⟨k,by omega,rfl⟩
  | false=>exact .inl rfl
theorem next_fresh (many:Bool) (out:Name) (r:Nat) (h1:many=false->r=0):nmOf many out r ∉ (List.range r).map (nmOf many out):=by
 intro hx;obtain ⟨k,hk,e⟩:=List.mem_map.1 hx;rw [List.mem_range] at hk;cases many with
 | true=>have:=tName_inj e;omega
 | false=>have:=h1 rfl;omega
set_option maxRecDepth 100000 in
set_option maxHeartbeats 16000000 in
theorem jobRuns_any (HW:WriteSaid) {m:Nat} (HS:SortSaid m) (h:PoolAt w pb db n o d L) (hn:8<=n) (hj:JobAt w jb pb byb 0 by') (hoj:o jb=none) (hob:o byb=none) (hne:byb≠jb)
 {es:List Edg} {fl:Bool} {inn out:Name} {x0:Edg} (hL:mget L inn=some (edgeFile es fl)) (hsrc:SourceAt w cb sb 0 es.length x0) (hst:StreamAt w sb pb inn 20) (hoc:o cb=none) (hos:o sb=none) (hcj:cb≠jb) (hcb:cb≠byb) (hsj:sb≠jb) (hsc:sb≠cb)
 (hout:okName out=true) (hno:mget L out=none) (hnt:∀ k,mget L (tName k)=none) (hto:∀ k,out≠tName k) (hm:es.length<=m) (hN:es.length<=2400) :
 Calls Tryz.prog 177 #[ptrTo jb,ptrTo cb, .string out] w (RunsPost n pb db jb byb cb by' w o d L out es):=by
 have hn2:n<=4096:=by
  obtain ⟨fb,mb,l,hand,mf,hp,rfl,-⟩:=h;exact hp.most
 have hframes:=Lib.hid (poolFrames_any h);have hnext:Hid (∀ W o' d' rs i x0,Moved (fun x=>x=cb\/x=jb) n pb db w o d W o' d' (runsL rs L)->(∀ x∈rs.map (·.1),ofSort out x)->SourceAt W cb sb i es.length x0->∀ x,es[i]? = some x->Calls Tryz.prog 221 #[ptrTo cb] W (NextPost n pb db W o' d' (runsL rs L) cb sb i es.length x)):=Lib.hid (fun W o' d' rs i x0 hmv hrs hs x hx=>by
  have hi:=lt_of_get hx;rw [List.getElem?_eq_getElem hi] at hx;obtain rfl:=Option.some.inj hx;refine sourceNext_in HW hmv.pool (hst.ofMoved hmv hos (fun e=>e.elim hsc hsj)) (hmv.free hst.lt hos) hs (hmv.free hsrc.lt hoc) (fl:=fl) ?_ hi;rw [runsL_other,hL];intro hx;rcases hrs _ hx with e | ⟨k,_,e⟩
  ·rw [e,hno] at hL;cases hL
  ·rw [e,hnt] at hL;cases hL)
 have hwrite:Hid (∀ W o' d' made rs nm,Moved (fun x=>x=cb\/x=jb) n pb db w o d W o' d' (runsL rs L)->JobAt W jb pb byb made by'->okName nm=true->mget (runsL rs L) nm=none->∀ (v:Value) (c:List Edg),ownsEdges W w.heap.size v c->(∀ x,v.ownBlock=some x->o' x=none/\w.heap.size<=x)->c.length<=es.length ->
  Calls Tryz.prog 222 #[ptrTo jb, .string nm,v] W (MadePost (fun x=>v.ownBlock=some x) n pb db W o' d' (runsL rs L) nm (bestOf by' c) (need (runsL rs L)+4*c.length))):=Lib.hid (fun W o' d' made rs nm hmv hjW hok hno' v c hv hvo hc=>
  jobWrite_any HW HS hmv.pool hjW (hmv.free hj.lt.1 hoj) (hmv.free hj.lt.2 hob) hok hno' hv (fun x hx=>⟨(hvo x hx).1,by have:=(hvo x hx).2;have:=hj.lt.1;omega,by have:=(hvo x hx).2;have:=hj.lt.2;omega⟩) (by omega) (by omega))
 have H:=Lib.hid h;have HJ:=Lib.hid hj;have HSRC:=Lib.hid hsrc;have HOJ:=Lib.hid hoj;have HOB:=Lib.hid hob;have HNE:=Lib.hid hne;have HOC:=Lib.hid hoc;have HCJ:=Lib.hid hcj;have HCB:=Lib.hid hcb;have HNO:=Lib.hid hno;have HNT:=Lib.hid hnt;have HTO:=Lib.hid hto;have HOUT:=Lib.hid hout;have hjl:=hj.lt.1;have hbl:=hj.lt.2;have hcl:=hsrc.lt;obtain ⟨hj0,-⟩:=hj.cells;obtain ⟨⟨-,hs1,hs2⟩,-⟩:=hsrc.cells;clear h hj hoj hob hL hsrc hst hoc hos hsj hsc hout hno hnt hto hm hne hcj hcb hs1;unfold ptrTo at *;generalize hNN:es.length=N at *;have HNN:=Lib.hid hNN;clear hNN;have hw1:IntKind.i64.wrap ((n:Int) - 4)=(n:Int) - 4:=wrap_in (by omega) (by omega);have hw2:IntKind.i64.wrap (((n:Int) - 4)*12)=((n:Int) - 4)*12:=wrap_in (by omega) (by omega);obtain ⟨M,hM⟩:∃ M:Nat,(M:Int)=((n:Int) - 4)*12:=⟨(n - 4)*12,by omega⟩;have hM48:48<=M/\M<=49104:=by omega
 rw [<- hM] at hw2;have HM:=Lib.hid hM;clear hM;by_cases hNM:N<=M
 ·have hle: ((N:Int)<=((n:Int) - 4)*12):=by have:=HM.out;omega
  have hled:decide ((N:Int)<=((n:Int) - 4)*12)=true:=by exact decide_eq_true hle
  have HNM:=Lib.hid hNM;clear hNM;go_enter Tryz.func177,Tryz.ntmps177
  go_wp2_with fail
  refine hframes.out.mono ?_;rintro e w' ⟨rfl,rfl⟩;go_wp2;try rw [<- HM.out]
  go_loopw [9] (fun v wr=>RunsHead n pb db jb byb cb sb by' w o d L out es N false v wr) (fun _ wr=>srcLeft wr cb N)
  case atStart=>exact ⟨[],0,d,o,x0,Moved.refl _ H.out,HJ.out,by rw [HNN.out];exact HSRC.out,World.ownsRow_nil w _ _ 1,(fun x hx=>by cases hx),rfl,by simp,(fun p hp=>by cases hp),by simp [allOf],Nat.zero_le _,(fun _=>Nat.zero_le _),(fun hh=>absurd hh (Nat.lt_irrefl 0)),Nat.zero_le _⟩
  case round=>
   generalize u9=v at *;generalize wr=wr1 at *;obtain ⟨rs,i,d1,o1,x1,hm1,hj1,hs1,hv1,hf1,hnm1,hi1,hb1,hall1,hlen1,hone1,hpos1,hr51⟩:=hrel;have HR51:=Lib.hid hr51;rw [HNN.out] at hs1 hi1 hpos1;have HM1:=Lib.hid hm1;have HJ1:Hid (JobAt wr1 jb pb byb 0 by'):=Lib.hid hj1;have HS1:=Lib.hid hs1;have HV1:=Lib.hid hv1;have HVF1:=Lib.hid hf1;have HNM1:=Lib.hid hnm1;have HI1:=Lib.hid hi1;have HB1:=Lib.hid hb1;have HALL1:=Lib.hid hall1;have HLEN1:=Lib.hid hlen1;have HONE1:Hid (rs.length<=1):=Lib.hid (hone1 rfl);have HPOS1:=Lib.hid hpos1;have hiN0:i<=N:=by omega
   have HNS:Hid (∀ x∈rs.map (·.1),ofSort out x):=Lib.hid (by rw [hnm1];exact (range_names false out rs.length hone1).2 hr51);have HOTH:Hid (∀ x,¬ ofSort out x->mget (runsL rs L) x=mget L x):=Lib.hid (fun x hx=>runsL_other _ _ _ (fun hmem=>hx (HNS.out x hmem)));have HND:Hid (need (runsL rs L)<=need L+8*N):=Lib.hid (by have:=runsL_need rs L;omega);have hsz1:w.heap.size<=wr1.heap.size:=hm1.size;clear hm1 hj1 hs1 hv1 hf1 hnm1 hi1 hb1 hall1 hlen1 hone1 hpos1 hr51;go_wp2;go_loopw [10] (fun l wr2=>∃ (k:Nat) (d':Dsk) (o':Owner) (x:Edg),k<=N/\i+k<=N/\Moved (fun x=>x=cb\/x=jb) n pb db w o d wr2 o' d' (runsL rs L)/\JobAt wr2 jb pb byb 0 by'/\SourceAt wr2 cb sb (i+k) N x/\wr2.ownsRow w.heap.size 9 1 v rs.length ((rs.map (·.1)).map Value.string)/\(∀ x,v.ownBlock=some x->o' x=none)/\ownsEdges wr2 w.heap.size l ((es.drop i).take k)/\(∀ x,l.ownBlock=some x->o' x=none)) (fun _ wr2=>srcLeft wr2 cb N)
   case atStart=>exact ⟨0,d1,o1,x1,Nat.zero_le _,hiN0,HM1.out,HJ1.out,HS1.out,HV1.out,HVF1.out,World.ownsRow_nil _ _ _ 4,fun x hx=>by cases hx⟩
   case round=>
    generalize u10=l at *;generalize wr=wr2 at *;obtain ⟨k,d2,o2,x2,hk2,hik2,hm2,hj2,hs2q,hv2,hvf2,hl2,hlf2⟩:=hrel;have HM2:=Lib.hid hm2;have HJ2:=Lib.hid hj2;have HS2:=Lib.hid hs2q;have HV2:=Lib.hid hv2;have HVF2:=Lib.hid hvf2;have HL2:=Lib.hid hl2;have HLF2:=Lib.hid hlf2;have hkl:((es.drop i).take k).length=k:=by rw [List.length_take,List.length_drop,HNN.out];omega
    have hsz2:w.heap.size<=wr2.heap.size:=hm2.size;have HML2:Hid (srcLeft wr2 cb N=N - (i+k)):=Lib.hid (srcLeft_at hs2q);clear hm2 hj2 hs2q hv2 hvf2 hl2 hlf2;by_cases hlt:k < N
    ·obtain ⟨la,lc,rfl⟩:∃ a cap,l=.slice a k cap:=by
      rcases ownsEdges_shape HL2.out with ⟨h1,h2⟩ | ⟨g,cap,h1,_⟩
      ·rw [h1] at hkl;subst h2;exact ⟨none,0,by rw [<- hkl];rfl⟩
      ·rw [hkl] at h1;exact ⟨_,_,h1⟩
     have HKL:=Lib.hid hkl;clear hkl;by_cases hin:i+k < N
     ·have hxi:i+k < es.length:=by rw [HNN.out];exact hin
      obtain ⟨y,hy⟩:∃ y,es[i+k]? = some y:=⟨_,List.getElem?_eq_getElem hxi⟩;have HTK:Hid ((es.drop i).take (k+1)=(es.drop i).take k++[y]):=Lib.hid (by
       have hkd:k < (es.drop i).length:=by rw [List.length_drop];omega
       rw [List.take_succ_eq_append_getElem hkd];congr 2;rw [List.getElem_drop];rw [List.getElem?_eq_getElem hxi] at hy;exact Option.some.inj hy)
      have hcallx:=Lib.hid (hnext.out wr2 o2 d2 rs (i+k) x2 HM2.out HNS.out HS2.out y hy);clear hxi hy;go_wp2_with fail
      refine hcallx.out.mono ?_;rintro e w3 ⟨c3,d3,o3,rfl,hm3,he3,hs3⟩;have HM3:=Lib.hid (HM2.out.trans hm3 (fun x _ e=>.inl e));have HJ3:Hid (JobAt w3 jb pb byb 0 by'):=Lib.hid (HJ2.out.kept (hm3.block HJ2.out.lt.1 (HM2.out.free hjl HOJ.out) (fun e=>HCJ.out e.symm)) (hm3.block HJ2.out.lt.2 (HM2.out.free hbl HOB.out) (fun e=>HCB.out e.symm)));have HV3:Hid (w3.ownsRow w.heap.size 9 1 v rs.length ((rs.map (·.1)).map Value.string)):=Lib.hid (hm3.ownsRow HV2.out (fun b hb=>⟨HVF2.out b hb,fun e=>by have:=ownsRow_block HV2.out b hb;omega⟩));have HVF3:Hid (∀ x,v.ownBlock=some x->o3 x=none):=Lib.hid (fun x hx=>hm3.free (ownBlock_old HV2.out x hx).1 (HVF2.out x hx));have HL3:Hid (ownsEdges w3 w.heap.size (.slice la k lc) ((es.drop i).take k)):=Lib.hid (hm3.ownsRow HL2.out (fun b hb=>⟨HLF2.out b hb,fun e=>by have:=ownsRow_block HL2.out b hb;omega⟩));have HLF3:Hid (∀ x,(Value.slice la k lc).ownBlock=some x->o3 x=none):=Lib.hid (fun x hx=>hm3.free (ownBlock_old HL2.out x hx).1 (HLF2.out x hx));have HS3:=Lib.hid hs3;have hsz3:w.heap.size<=w3.heap.size:=HM3.out.size;by_cases hc3:c3=0
      ·subst hc3;have HS3':=Lib.hid (HS3.out rfl);obtain ⟨-,⟨k0,k1,k2,k3⟩,-⟩:=HS3'.out.cells;clear HS3;clear hm3 he3 hs3 hcallx;have hkl3:((es.drop i).take k).length<=100000:=by rw [HKL.out];omega
       go_wp2_with (at_builtin;refine wpList_append_edge rfl _ _ rfl w.heap.size _ _ rfl HL3.out y 1 rfl hkl3 hsz3 ?_)
       intro l4 w4 hl4 ha4;obtain ⟨hm4,hlf4,hh4,hz4⟩:=ha4.moved HM3.out (fun x hx=>⟨HLF3.out x hx,ownsRow_block HL3.out x hx⟩);have HM4:=Lib.hid hm4;have HNL:Hid (∀ x,x < w.heap.size->w4.heap[x]? = w3.heap[x]?):=Lib.hid (fun x hx=>hh4 x (by omega) (fun e=>by have:=ownsRow_block HL3.out x e;omega));have HJ4:Hid (JobAt w4 jb pb byb 0 by'):=Lib.hid (HJ3.out.kept (HNL.out jb hjl) (HNL.out byb hbl));have HS4:Hid (SourceAt w4 cb sb (i+(k+1)) N y):=Lib.hid (HS3'.out.kept (HNL.out cb hcl));have HV4:Hid (w4.ownsRow w.heap.size 9 1 v rs.length ((rs.map (·.1)).map Value.string)):=Lib.hid (ownsRow_heap HV3.out (fun x hx=>hh4 x (ownBlock_old HV3.out x hx).1 (fun e=>ownsRow_apart HV3.out HL3.out (by decide) x hx e)));rw [<- HTK.out] at hl4;have HL4:=Lib.hid hl4;have HLF4:=Lib.hid hlf4;clear hm4 hlf4 hh4 ha4 hl4 k0 k1 k2 k3;go_wp2;go_roundw
       case rel=>exact ⟨k+1,d3,o3,y,by omega,by omega,HM4.out,HJ4.out,HS4.out,HV4.out,HVF3.out,HL4.out,fun x hx=>(HLF4.out x hx).1⟩
       case measure=>rw [HML2.out,srcLeft_at HS4.out];omega
      ·have hc3':¬ (c3:Int)=0:=by omega
       have HE3:=Lib.hid (((he3.resolve_left hc3).num HND.out).later HM2.out.on.quota);have hbq:(c3 == 0)=false:=by simpa using hc3
       clear hm3 he3 hs3 hcallx hc3;go_wp2;go_ret2
       exact ⟨_,c3,d3,o3,_,rfl,HM3.out,HOTH.out, .inr (by rw [HNN.out];exact HE3.out)⟩
     ·have hcl5:(es.drop i).take N=(es.drop i).take k:=by
       rw [List.take_eq_take_iff,List.length_drop,HNN.out];omega
      rw [<- hcl5] at HL2 HKL;have hend:=Lib.hid (sourceNext_end (sb:=sb) HS2.out (by omega));unfold ptrTo at hend;go_wp2_with fail
      refine hend.out.mono ?_;rintro e w5 ⟨rfl,q5,rfl⟩;have HM5:=Lib.hid (HM2.out.drewN q5);have HJ5:Hid (JobAt (wr2.drewN q5) jb pb byb 0 by'):=Lib.hid (HJ2.out.below (below_drewN (Below.refl _ _) _));have HS5:Hid (SourceAt (wr2.drewN q5) cb sb (i+k) N x2):=Lib.hid (HS2.out.below (below_drewN (Below.refl _ _) _));have HV5:Hid ((wr2.drewN q5).ownsRow w.heap.size 9 1 v rs.length ((rs.map (·.1)).map Value.string)):=HV2;have HL5:Hid (ownsEdges (wr2.drewN q5) w.heap.size (.slice la k lc) ((es.drop i).take N)):=HL2;have HM1l:Hid (srcLeft wr1 cb N=N - i):=Lib.hid (srcLeft_at HS1.out);have hsz5:w.heap.size<=(wr2.drewN q5).heap.size:=hsz2;have hKmin:k=min N (N - i):=by omega
      clear hcl5 hend HM2 HJ2 HS2 HV2 HL2 HML2 hsz2;generalize wr2.drewN q5=W5 at *;obtain ⟨⟨-,-,hs2'⟩,-⟩:=HS5.out.cells;by_cases hK0:k=0/\0 < N
      ·obtain ⟨hk0,hn0⟩:=hK0;have hM0:=hM48;have hiN:i=N:=by omega
       have HRS2:Hid ((∃ x,rs=[(out,x)])\/(2<=rs.length/\48 < es.length/\∀ p∈rs,∃ k,k < 0/\p.1=tName k)):=Lib.hid (by
        have h1:=HI1.out;have h2:=HONE1.out;have h3:rs.length=1:=by
         rcases Nat.eq_zero_or_pos rs.length with h | h
         ·rw [h] at h1;omega
         ·omega
        match rs,h3,HNM1.out with
        | [p],_,e=>
          have:p.1=out:=(List.cons.inj e).1;exact .inl ⟨p.2,by rw [<- this]⟩)
       have hne0:0 < rs.length:=by
        rcases HRS2.out with ⟨x,e⟩ | ⟨e,_⟩
        ·rw [e];exact Nat.zero_lt_one
        ·omega
       have hr51:rs.length<=51:=by exact HR51.out
       have HIN:=Lib.hid hiN;have hn0':(N:Int) > 0:=by omega
       subst hk0;clear hiN hKmin;go_wp2;go_ret2
       refine ⟨_,0,d2,o2,_,rfl,HM5.out,HOTH.out, .inl ⟨rfl,rs,0,rfl,⟨HB1.out,?_,?_,?_⟩,HRS2.out,by omega,hr51,HJ5.out,NameRow.ofOwn (by rw [List.length_map];exact HV5.out) ?_,fun b hb=>⟨HVF2.out b hb,ownsRow_block HV5.out b hb⟩⟩⟩
       ·rw [HALL1.out,HIN.out,List.take_of_length_le (by rw [HNN.out];exact Nat.le_refl _)]
       ·rw [HNN.out,<- HIN.out];exact HLEN1.out
       ·rw [HNM1.out];exact (range_names false out rs.length (fun _=>HONE1.out)).1
       ·intro hnil;have:=congrArg List.length hnil;rw [List.length_map] at this;have h0:([]:List Name).length=0:=rfl;omega
      ·have hKN:0 < k\/N=0:=by omega
       have hiK:i+k<=N:=by omega
       have hR0:rs.length < 51/\rs.length=0:=by
        have h1:=HI1.out;have h2:=HONE1.out;have h4:=HPOS1.out;have h3:rs.length=0:=by
         rcases Nat.eq_zero_or_pos rs.length with h | h
         ·exact h
         ·have h5:rs.length=1:=by omega
          have h6:=h4 h;rw [h5] at h1;omega
        exact ⟨by omega,h3⟩
       have HR0:=Lib.hid hR0;have HFRESH:Hid (mget (runsL rs L) (nmOf false out rs.length)=none):=Lib.hid (by
        rw [runsL_other]
        ·exact HNO.out
        ·rw [HNM1.out];exact next_fresh false out rs.length (fun _=>HR0.out.2))
       have hdec:Hid (bestOf by' (allOf (rs++[(nmOf false out rs.length,bestOf by' ((es.drop i).take N))]))=bestOf by' (es.take (i+k))):=Lib.hid (by
        rw [allOf_append];have e1:es.take (i+k)=es.take i++(es.drop i).take N:=by
         rw [List.take_add];congr 1;rw [List.take_eq_take_iff,List.length_drop,HNN.out];omega
        rw [e1];have e2:allOf [(nmOf false out rs.length,bestOf by' ((es.drop i).take N))]=bestOf by' ((es.drop i).take N):=by simp [allOf]
        rw [e2];exact bestOf_lr HALL1.out (bestOf_same _ _))
       have hlen':Hid (lens (rs++[(nmOf false out rs.length,bestOf by' ((es.drop i).take N))])<=i+k):=Lib.hid (by
        rw [lens_append];have h1:=HLEN1.out;have h2:=bestOf_length by' ((es.drop i).take N)
        rw [HKL.out] at h2;have h3:lens [(nmOf false out rs.length,bestOf by' ((es.drop i).take N))]=(bestOf by' ((es.drop i).take N)).length:=by simp [lens]
        omega)
       have hbnd:Hid (need (runsL rs L)+4*k<=need L+8*N):=Lib.hid (by
        have h1:=runsL_need rs L;have h2:=HLEN1.out;omega)
       have HNM2:Hid (((rs++[(nmOf false out rs.length,bestOf by' ((es.drop i).take N))]).map (·.1))=(List.range (rs.length+1)).map (nmOf false out)):=Lib.hid (by
        rw [List.map_append,HNM1.out,List.range_succ,List.map_append];rfl)
       have HI2:Hid (i+k=min N ((rs.length+1)*N)):=Lib.hid (by
        have h1:=HI1.out;rw [Nat.add_mul,Nat.one_mul];generalize rs.length*N=P at *;omega)
       have hr51:rs.length < 51:=hR0.1;clear hR0;have HB2:Hid (∀ p∈rs++[(nmOf false out rs.length,bestOf by' ((es.drop i).take N))],bestOf by' p.2=p.2):=Lib.hid (fun p hp=>by
        rcases List.mem_append.1 hp with hp | hp
        ·exact HB1.out p hp
        ·rw [List.mem_singleton.1 hp];exact bestOf_same _ _)
       have hNMok:okName (nmOf false out rs.length)=true/\ofSort out (nmOf false out rs.length):=⟨HOUT.out, .inl rfl⟩;have HNMO:=Lib.hid hNMok;clear hKmin hNMok;have hgt:¬ (N:Int) > (N:Int):=by omega
       have HM6:=Lib.hid HM5.out;have HJ6:=Lib.hid HJ5.out;have HS6:=Lib.hid HS5.out;have HV6:=Lib.hid HV5.out;have HL6:=Lib.hid HL5.out;have hsz6:=hsz5;generalize W5=W6 at *;have hNMe:nmOf false out rs.length=out:=rfl;rw [hNMe] at HFRESH hdec hlen' HNM2 HNMO HB2;clear hNMe;generalize hcc:(es.drop i).take N=C at *;clear hcc;have hvl:(rs.map (·.1)).length<=100000:=by rw [List.length_map];omega
       have HV6':Hid (W6.ownsRow w.heap.size 9 1 v (rs.map (·.1)).length ((rs.map (·.1)).map Value.string)):=Lib.hid (by rw [List.length_map];exact HV6.out);go_wp2_with (at_builtin;refine wpList_append_str rfl _ _ rfl w.heap.size _ _ rfl HV6'.out out 1 rfl hvl hsz6 ?_)
       intro v7 W7 hv7 ha7;obtain ⟨hm7,hvf7,hh7,hz7⟩:=ha7.moved HM6.out (fun x hx=>⟨HVF2.out x hx,ownsRow_block HV6.out x hx⟩);have hvb:∀ x,v.ownBlock=some x->w.heap.size<=x:=fun x hx=>ownsRow_block HV6.out x hx;have HM7:=Lib.hid hm7;have HV7:Hid (W7.ownsRow w.heap.size 9 1 v7 (rs.map (·.1)++[out]).length ((rs.map (·.1)++[out]).map Value.string)):=Lib.hid (by simpa using hv7);have HVF7:=Lib.hid hvf7;have HJ7:Hid (JobAt W7 jb pb byb 0 by'):=Lib.hid (HJ6.out.kept (hh7 jb (by omega) (fun e=>by have:=hvb _ e;omega)) (hh7 byb (by omega) (fun e=>by have:=hvb _ e;omega)));have HS7:Hid (SourceAt W7 cb sb (i+k) N x2):=Lib.hid (HS6.out.kept (hh7 cb (by omega) (fun e=>by have:=hvb _ e;omega)));have HL7:Hid (ownsEdges W7 w.heap.size (.slice la k lc) C):=Lib.hid (ownsRow_heap HL6.out (fun x hx=>hh7 x (ownBlock_old HL6.out x hx).1 (fun e=>ownsRow_apart HL6.out HV6.out (by decide) x hx e)));have HAP:Hid (∀ x,(Value.slice la k lc).ownBlock=some x->v7.ownBlock≠some x):=Lib.hid (fun x hx=>ownsRow_apart HL7.out HV7.out (by decide) x hx);have hsz7:w.heap.size<=W7.heap.size:=hm7.size;clear hm7 hv7 hvf7 hh7 ha7 hvb hz7;have hcallw:=Lib.hid (hwrite.out W7 o2 d2 0 rs out HM7.out HJ7.out HNMO.out.1 HFRESH.out (.slice la k lc) C HL7.out (fun x hx=>⟨HLF2.out x hx,ownsRow_block HL7.out x hx⟩) (by rw [HKL.out];omega));go_wp2_with fail
       refine hcallw.out.mono ?_;rintro e W8 ⟨c8,d8,o8,L8,rfl,hm8,hc8,hot8⟩;have HM8:=Lib.hid (HM7.out.trans hm8 (fun x hx e=>by have:=ownsRow_block HL7.out x e;omega));have HJ8:Hid (JobAt W8 jb pb byb 0 by'):=Lib.hid (HJ7.out.kept (hm8.block HJ7.out.lt.1 (HM7.out.free hjl HOJ.out) (fun e=>by have:=ownsRow_block HL7.out _ e;omega)) (hm8.block HJ7.out.lt.2 (HM7.out.free hbl HOB.out) (fun e=>by have:=ownsRow_block HL7.out _ e;omega)));have HS8:Hid (SourceAt W8 cb sb (i+k) N x2):=Lib.hid (HS7.out.kept (hm8.block HS7.out.lt (HM7.out.free hcl HOC.out) (fun e=>by have:=ownsRow_block HL7.out _ e;omega)));have HV8:Hid (W8.ownsRow w.heap.size 9 1 v7 (rs.map (·.1)++[out]).length ((rs.map (·.1)++[out]).map Value.string)):=Lib.hid (hm8.ownsRow HV7.out (fun b hb=>⟨(HVF7.out b hb).1,fun e=>HAP.out b e hb⟩));have HVF8:Hid (∀ x,v7.ownBlock=some x->o8 x=none):=Lib.hid (fun x hx=>hm8.free (ownBlock_old HV7.out x hx).1 (HVF7.out x hx).1);by_cases hc:c8=0
       ·subst hc;have hL8:L8=runsL (rs++[(out,bestOf by' C)]) L:=by
         rcases hc8 with ⟨_,e⟩ | e
         ·rw [runsL_snoc];exact e
         ·exact absurd rfl e.ne
        rw [hL8] at HM8;clear hL8 hm8 hc8 hot8 hcallw;obtain ⟨⟨-,-,hs2''⟩,-⟩:=HS8.out.cells;by_cases hN0:N=0
        ·exact absurd hN0 (by omega)
        ·have hN0':¬ (N:Int)=0:=by omega
         have hk1:0 < k:=by omega
         go_wp2;go_roundw
         case rel=>exact ⟨rs++[(out,bestOf by' C)],i+k,d8,o8,x2,HM8.out,by rw [List.length_append];exact HJ8.out,by rw [HNN.out];exact HS8.out,by rw [List.length_append,List.map_append];rw [List.length_append,List.length_map] at HV8;exact HV8.out,HVF8.out,by rw [HNM2.out,List.length_append];rfl,by rw [HNN.out,List.length_append];exact HI2.out,HB2.out,hdec.out,hlen'.out,(fun _=>by have:=HR0.out.2;rw [List.length_append,this];exact Nat.le_refl _),(fun _=>by rw [HNN.out];omega),by rw [List.length_append];exact hr51⟩
         case measure=>rw [HM1l.out,srcLeft_at HS8.out];omega
       ·have hc':¬ (c8:Int)=0:=by omega
        have HOT8:Hid (∀ x,¬ ofSort out x->mget L8 x=mget L x):=Lib.hid (fun x hx=>by
         rw [hot8 x (fun e=>hx (e ▸ HNMO.out.2)),HOTH.out x hx])
        have HE8:Hid (ErrN d d8 (need L+8*N) c8):=Lib.hid (by
         rcases hc8 with ⟨e,_⟩ | e
         ·exact absurd e hc
         ·rw [HKL.out] at e;exact (e.mono hbnd.out).later HM7.out.on.quota)
        clear hc hm8 hc8 hot8 hcallw;go_wp2;go_ret2
        exact ⟨_,c8,d8,o8,_,rfl,HM8.out,HOT8.out, .inr (by rw [HNN.out];exact HE8.out)⟩
    ·obtain ⟨la,lc,rfl⟩:∃ a cap,l=.slice a k cap:=by
      rcases ownsEdges_shape HL2.out with ⟨h1,h2⟩ | ⟨g,cap,h1,_⟩
      ·rw [h1] at hkl;subst h2;exact ⟨none,0,by rw [<- hkl];rfl⟩
      ·rw [hkl] at h1;exact ⟨_,_,h1⟩
     have HKL:=Lib.hid hkl;have hcl5:k=N:=by omega
     have hcl6:(es.drop i).take N=(es.drop i).take k:=by rw [hcl5]
     rw [<- hcl6] at HL2 HKL;have HM5:=Lib.hid HM2.out;have HJ5:=Lib.hid HJ2.out;have HS5:=Lib.hid HS2.out;have HV5:=Lib.hid HV2.out;have HL5:=Lib.hid HL2.out;have HM1l:Hid (srcLeft wr1 cb N=N - i):=Lib.hid (srcLeft_at HS1.out);have hsz5:w.heap.size<=wr2.heap.size:=hsz2;have hKmin:k=min N (N - i):=by omega
     have hlt':¬ ((k:Int) < (N:Int)):=by omega
     clear hcl6 hkl HM2 HJ2 HS2 HV2 HL2 HML2 hsz2 hlt hcl5;generalize wr2=W5 at *;rcases Nat.eq_zero_or_pos N with hNz | hNp
     ·have hk0i:(k:Int)=0:=by omega
      have hN0i:(N:Int)=0:=by omega
      obtain ⟨⟨-,-,hs2'⟩,-⟩:=HS5.out.cells;by_cases hK0:k=0/\0 < N
      ·exfalso
       have:=hM48;omega
      ·have hKN:0 < k\/N=0:=by omega
       have hiK:i+k<=N:=by omega
       have hR0:rs.length < 51/\rs.length=0:=by
        have h1:=HI1.out;have h2:=HONE1.out;have h4:=HPOS1.out;have h3:rs.length=0:=by
         rcases Nat.eq_zero_or_pos rs.length with h | h
         ·exact h
         ·have h5:rs.length=1:=by omega
          have h6:=h4 h;rw [h5] at h1;omega
        exact ⟨by omega,h3⟩
       have HR0:=Lib.hid hR0;have HFRESH:Hid (mget (runsL rs L) (nmOf false out rs.length)=none):=Lib.hid (by
        rw [runsL_other]
        ·exact HNO.out
        ·rw [HNM1.out];exact next_fresh false out rs.length (fun _=>HR0.out.2))
       have hdec:Hid (bestOf by' (allOf (rs++[(nmOf false out rs.length,bestOf by' ((es.drop i).take N))]))=bestOf by' (es.take (i+k))):=Lib.hid (by
        rw [allOf_append];have e1:es.take (i+k)=es.take i++(es.drop i).take N:=by
         rw [List.take_add];congr 1;rw [List.take_eq_take_iff,List.length_drop,HNN.out];omega
        rw [e1];have e2:allOf [(nmOf false out rs.length,bestOf by' ((es.drop i).take N))]=bestOf by' ((es.drop i).take N):=by simp [allOf]
        rw [e2];exact bestOf_lr HALL1.out (bestOf_same _ _))
       have hlen':Hid (lens (rs++[(nmOf false out rs.length,bestOf by' ((es.drop i).take N))])<=i+k):=Lib.hid (by
        rw [lens_append];have h1:=HLEN1.out;have h2:=bestOf_length by' ((es.drop i).take N)
        rw [HKL.out] at h2;have h3:lens [(nmOf false out rs.length,bestOf by' ((es.drop i).take N))]=(bestOf by' ((es.drop i).take N)).length:=by simp [lens]
        omega)
       have hbnd:Hid (need (runsL rs L)+4*k<=need L+8*N):=Lib.hid (by
        have h1:=runsL_need rs L;have h2:=HLEN1.out;omega)
       have HNM2:Hid (((rs++[(nmOf false out rs.length,bestOf by' ((es.drop i).take N))]).map (·.1))=(List.range (rs.length+1)).map (nmOf false out)):=Lib.hid (by
        rw [List.map_append,HNM1.out,List.range_succ,List.map_append];rfl)
       have HI2:Hid (i+k=min N ((rs.length+1)*N)):=Lib.hid (by
        have h1:=HI1.out;rw [Nat.add_mul,Nat.one_mul];generalize rs.length*N=P at *;omega)
       have hr51:rs.length < 51:=hR0.1;clear hR0;have HB2:Hid (∀ p∈rs++[(nmOf false out rs.length,bestOf by' ((es.drop i).take N))],bestOf by' p.2=p.2):=Lib.hid (fun p hp=>by
        rcases List.mem_append.1 hp with hp | hp
        ·exact HB1.out p hp
        ·rw [List.mem_singleton.1 hp];exact bestOf_same _ _)
       have hNMok:okName (nmOf false out rs.length)=true/\ofSort out (nmOf false out rs.length):=⟨HOUT.out, .inl rfl⟩;have HNMO:=Lib.hid hNMok;clear hKmin hNMok;have hgt:¬ (N:Int) > (N:Int):=by omega
       have HM6:=Lib.hid HM5.out;have HJ6:=Lib.hid HJ5.out;have HS6:=Lib.hid HS5.out;have HV6:=Lib.hid HV5.out;have HL6:=Lib.hid HL5.out;have hsz6:=hsz5;generalize W5=W6 at *;have hNMe:nmOf false out rs.length=out:=rfl;rw [hNMe] at HFRESH hdec hlen' HNM2 HNMO HB2;clear hNMe;generalize hcc:(es.drop i).take N=C at *;clear hcc;have hvl:(rs.map (·.1)).length<=100000:=by rw [List.length_map];omega
       have HV6':Hid (W6.ownsRow w.heap.size 9 1 v (rs.map (·.1)).length ((rs.map (·.1)).map Value.string)):=Lib.hid (by rw [List.length_map];exact HV6.out);go_wp2_with (at_builtin;refine wpList_append_str rfl _ _ rfl w.heap.size _ _ rfl HV6'.out out 1 rfl hvl hsz6 ?_)
       intro v7 W7 hv7 ha7;obtain ⟨hm7,hvf7,hh7,hz7⟩:=ha7.moved HM6.out (fun x hx=>⟨HVF2.out x hx,ownsRow_block HV6.out x hx⟩);have hvb:∀ x,v.ownBlock=some x->w.heap.size<=x:=fun x hx=>ownsRow_block HV6.out x hx;have HM7:=Lib.hid hm7;have HV7:Hid (W7.ownsRow w.heap.size 9 1 v7 (rs.map (·.1)++[out]).length ((rs.map (·.1)++[out]).map Value.string)):=Lib.hid (by simpa using hv7);have HVF7:=Lib.hid hvf7;have HJ7:Hid (JobAt W7 jb pb byb 0 by'):=Lib.hid (HJ6.out.kept (hh7 jb (by omega) (fun e=>by have:=hvb _ e;omega)) (hh7 byb (by omega) (fun e=>by have:=hvb _ e;omega)));have HS7:Hid (SourceAt W7 cb sb (i+k) N x2):=Lib.hid (HS6.out.kept (hh7 cb (by omega) (fun e=>by have:=hvb _ e;omega)));have HL7:Hid (ownsEdges W7 w.heap.size (.slice la k lc) C):=Lib.hid (ownsRow_heap HL6.out (fun x hx=>hh7 x (ownBlock_old HL6.out x hx).1 (fun e=>ownsRow_apart HL6.out HV6.out (by decide) x hx e)));have HAP:Hid (∀ x,(Value.slice la k lc).ownBlock=some x->v7.ownBlock≠some x):=Lib.hid (fun x hx=>ownsRow_apart HL7.out HV7.out (by decide) x hx);have hsz7:w.heap.size<=W7.heap.size:=hm7.size;clear hm7 hv7 hvf7 hh7 ha7 hvb hz7;have hcallw:=Lib.hid (hwrite.out W7 o2 d2 0 rs out HM7.out HJ7.out HNMO.out.1 HFRESH.out (.slice la k lc) C HL7.out (fun x hx=>⟨HLF2.out x hx,ownsRow_block HL7.out x hx⟩) (by rw [HKL.out];omega));go_wp2_with fail
       refine hcallw.out.mono ?_;rintro e W8 ⟨c8,d8,o8,L8,rfl,hm8,hc8,hot8⟩;have HM8:=Lib.hid (HM7.out.trans hm8 (fun x hx e=>by have:=ownsRow_block HL7.out x e;omega));have HJ8:Hid (JobAt W8 jb pb byb 0 by'):=Lib.hid (HJ7.out.kept (hm8.block HJ7.out.lt.1 (HM7.out.free hjl HOJ.out) (fun e=>by have:=ownsRow_block HL7.out _ e;omega)) (hm8.block HJ7.out.lt.2 (HM7.out.free hbl HOB.out) (fun e=>by have:=ownsRow_block HL7.out _ e;omega)));have HS8:Hid (SourceAt W8 cb sb (i+k) N x2):=Lib.hid (HS7.out.kept (hm8.block HS7.out.lt (HM7.out.free hcl HOC.out) (fun e=>by have:=ownsRow_block HL7.out _ e;omega)));have HV8:Hid (W8.ownsRow w.heap.size 9 1 v7 (rs.map (·.1)++[out]).length ((rs.map (·.1)++[out]).map Value.string)):=Lib.hid (hm8.ownsRow HV7.out (fun b hb=>⟨(HVF7.out b hb).1,fun e=>HAP.out b e hb⟩));have HVF8:Hid (∀ x,v7.ownBlock=some x->o8 x=none):=Lib.hid (fun x hx=>hm8.free (ownBlock_old HV7.out x hx).1 (HVF7.out x hx).1);by_cases hc:c8=0
       ·subst hc;have hL8:L8=runsL (rs++[(out,bestOf by' C)]) L:=by
         rcases hc8 with ⟨_,e⟩ | e
         ·rw [runsL_snoc];exact e
         ·exact absurd rfl e.ne
        rw [hL8] at HM8;clear hL8 hm8 hc8 hot8 hcallw;obtain ⟨⟨-,-,hs2''⟩,-⟩:=HS8.out.cells;by_cases hN0:N=0
        ·have hn0:=hN0;have HREND:Hid (RunsOk by' es (rs++[(out,bestOf by' C)])):=Lib.hid ⟨HB2.out,by rw [hdec.out,List.take_of_length_le (by rw [HNN.out];omega)],by rw [HNN.out];have:=hlen'.out;omega,by rw [HNM2.out];exact (range_names false out _ (fun _=>by have:=HR0.out.2;omega)).1⟩;have HONER:Hid (∃ x,rs++[(out,bestOf by' C)]=[(out,x)]):=Lib.hid (by
          have h0:=List.eq_nil_of_length_eq_zero (HR0.out.2);exact ⟨bestOf by' C,by rw [h0];rfl⟩)
         have hN0i:(N:Int)=0:=by omega
         clear hn0 hN0;go_wp2;go_ret2
         refine ⟨_,0,d8,o8,_,rfl,HM8.out,fun x hx=>?_, .inl ⟨rfl,_,0,rfl,HREND.out, .inl HONER.out,Nat.zero_le _,?_,HJ8.out,NameRow.ofOwn (by rw [List.map_append];exact HV8.out) (by simp),fun b hb=>⟨HVF8.out b hb,ownsRow_block HV8.out b hb⟩⟩⟩
         ·refine runsL_other _ _ _ (fun hmem=>hx ?_);rw [HNM2.out] at hmem;exact (range_names false out _ (fun _=>by have:=HR0.out.2;omega)).2 (by have:=HR0.out.2;omega) _ hmem
         ·rw [List.length_append];show rs.length+1<=51;omega
        ·exact absurd hNz hN0
       ·have hc':¬ (c8:Int)=0:=by omega
        have HOT8:Hid (∀ x,¬ ofSort out x->mget L8 x=mget L x):=Lib.hid (fun x hx=>by
         rw [hot8 x (fun e=>hx (e ▸ HNMO.out.2)),HOTH.out x hx])
        have HE8:Hid (ErrN d d8 (need L+8*N) c8):=Lib.hid (by
         rcases hc8 with ⟨e,_⟩ | e
         ·exact absurd e hc
         ·rw [HKL.out] at e;exact (e.mono hbnd.out).later HM7.out.on.quota)
        clear hc hm8 hc8 hot8 hcallw;go_wp2;go_ret2
        exact ⟨_,c8,d8,o8,_,rfl,HM8.out,HOT8.out, .inr (by rw [HNN.out];exact HE8.out)⟩
     ·have hkp:0 < k:=by omega
      obtain ⟨⟨-,-,hs2'⟩,-⟩:=HS5.out.cells;by_cases hK0:k=0/\0 < N
      ·exfalso
       omega
      ·have hKN:0 < k\/N=0:=by omega
       have hiK:i+k<=N:=by omega
       have hR0:rs.length < 51/\rs.length=0:=by
        have h1:=HI1.out;have h2:=HONE1.out;have h4:=HPOS1.out;have h3:rs.length=0:=by
         rcases Nat.eq_zero_or_pos rs.length with h | h
         ·exact h
         ·have h5:rs.length=1:=by omega
          have h6:=h4 h;rw [h5] at h1;omega
        exact ⟨by omega,h3⟩
       have HR0:=Lib.hid hR0;have HFRESH:Hid (mget (runsL rs L) (nmOf false out rs.length)=none):=Lib.hid (by
        rw [runsL_other]
        ·exact HNO.out
        ·rw [HNM1.out];exact next_fresh false out rs.length (fun _=>HR0.out.2))
       have hdec:Hid (bestOf by' (allOf (rs++[(nmOf false out rs.length,bestOf by' ((es.drop i).take N))]))=bestOf by' (es.take (i+k))):=Lib.hid (by
        rw [allOf_append];have e1:es.take (i+k)=es.take i++(es.drop i).take N:=by
         rw [List.take_add];congr 1;rw [List.take_eq_take_iff,List.length_drop,HNN.out];omega
        rw [e1];have e2:allOf [(nmOf false out rs.length,bestOf by' ((es.drop i).take N))]=bestOf by' ((es.drop i).take N):=by simp [allOf]
        rw [e2];exact bestOf_lr HALL1.out (bestOf_same _ _))
       have hlen':Hid (lens (rs++[(nmOf false out rs.length,bestOf by' ((es.drop i).take N))])<=i+k):=Lib.hid (by
        rw [lens_append];have h1:=HLEN1.out;have h2:=bestOf_length by' ((es.drop i).take N)
        rw [HKL.out] at h2;have h3:lens [(nmOf false out rs.length,bestOf by' ((es.drop i).take N))]=(bestOf by' ((es.drop i).take N)).length:=by simp [lens]
        omega)
       have hbnd:Hid (need (runsL rs L)+4*k<=need L+8*N):=Lib.hid (by
        have h1:=runsL_need rs L;have h2:=HLEN1.out;omega)
       have HNM2:Hid (((rs++[(nmOf false out rs.length,bestOf by' ((es.drop i).take N))]).map (·.1))=(List.range (rs.length+1)).map (nmOf false out)):=Lib.hid (by
        rw [List.map_append,HNM1.out,List.range_succ,List.map_append];rfl)
       have HI2:Hid (i+k=min N ((rs.length+1)*N)):=Lib.hid (by
        have h1:=HI1.out;rw [Nat.add_mul,Nat.one_mul];generalize rs.length*N=P at *;omega)
       have hr51:rs.length < 51:=hR0.1;clear hR0;have HB2:Hid (∀ p∈rs++[(nmOf false out rs.length,bestOf by' ((es.drop i).take N))],bestOf by' p.2=p.2):=Lib.hid (fun p hp=>by
        rcases List.mem_append.1 hp with hp | hp
        ·exact HB1.out p hp
        ·rw [List.mem_singleton.1 hp];exact bestOf_same _ _)
       have hNMok:okName (nmOf false out rs.length)=true/\ofSort out (nmOf false out rs.length):=⟨HOUT.out, .inl rfl⟩;have HNMO:=Lib.hid hNMok;clear hKmin hNMok;have hgt:¬ (N:Int) > (N:Int):=by omega
       have HM6:=Lib.hid HM5.out;have HJ6:=Lib.hid HJ5.out;have HS6:=Lib.hid HS5.out;have HV6:=Lib.hid HV5.out;have HL6:=Lib.hid HL5.out;have hsz6:=hsz5;generalize W5=W6 at *;have hNMe:nmOf false out rs.length=out:=rfl;rw [hNMe] at HFRESH hdec hlen' HNM2 HNMO HB2;clear hNMe;generalize hcc:(es.drop i).take N=C at *;clear hcc;have hvl:(rs.map (·.1)).length<=100000:=by rw [List.length_map];omega
       have HV6':Hid (W6.ownsRow w.heap.size 9 1 v (rs.map (·.1)).length ((rs.map (·.1)).map Value.string)):=Lib.hid (by rw [List.length_map];exact HV6.out);go_wp2_with (at_builtin;refine wpList_append_str rfl _ _ rfl w.heap.size _ _ rfl HV6'.out out 1 rfl hvl hsz6 ?_)
       intro v7 W7 hv7 ha7;obtain ⟨hm7,hvf7,hh7,hz7⟩:=ha7.moved HM6.out (fun x hx=>⟨HVF2.out x hx,ownsRow_block HV6.out x hx⟩);have hvb:∀ x,v.ownBlock=some x->w.heap.size<=x:=fun x hx=>ownsRow_block HV6.out x hx;have HM7:=Lib.hid hm7;have HV7:Hid (W7.ownsRow w.heap.size 9 1 v7 (rs.map (·.1)++[out]).length ((rs.map (·.1)++[out]).map Value.string)):=Lib.hid (by simpa using hv7);have HVF7:=Lib.hid hvf7;have HJ7:Hid (JobAt W7 jb pb byb 0 by'):=Lib.hid (HJ6.out.kept (hh7 jb (by omega) (fun e=>by have:=hvb _ e;omega)) (hh7 byb (by omega) (fun e=>by have:=hvb _ e;omega)));have HS7:Hid (SourceAt W7 cb sb (i+k) N x2):=Lib.hid (HS6.out.kept (hh7 cb (by omega) (fun e=>by have:=hvb _ e;omega)));have HL7:Hid (ownsEdges W7 w.heap.size (.slice la k lc) C):=Lib.hid (ownsRow_heap HL6.out (fun x hx=>hh7 x (ownBlock_old HL6.out x hx).1 (fun e=>ownsRow_apart HL6.out HV6.out (by decide) x hx e)));have HAP:Hid (∀ x,(Value.slice la k lc).ownBlock=some x->v7.ownBlock≠some x):=Lib.hid (fun x hx=>ownsRow_apart HL7.out HV7.out (by decide) x hx);have hsz7:w.heap.size<=W7.heap.size:=hm7.size;clear hm7 hv7 hvf7 hh7 ha7 hvb hz7;have hcallw:=Lib.hid (hwrite.out W7 o2 d2 0 rs out HM7.out HJ7.out HNMO.out.1 HFRESH.out (.slice la k lc) C HL7.out (fun x hx=>⟨HLF2.out x hx,ownsRow_block HL7.out x hx⟩) (by rw [HKL.out];omega));go_wp2_with fail
       refine hcallw.out.mono ?_;rintro e W8 ⟨c8,d8,o8,L8,rfl,hm8,hc8,hot8⟩;have HM8:=Lib.hid (HM7.out.trans hm8 (fun x hx e=>by have:=ownsRow_block HL7.out x e;omega));have HJ8:Hid (JobAt W8 jb pb byb 0 by'):=Lib.hid (HJ7.out.kept (hm8.block HJ7.out.lt.1 (HM7.out.free hjl HOJ.out) (fun e=>by have:=ownsRow_block HL7.out _ e;omega)) (hm8.block HJ7.out.lt.2 (HM7.out.free hbl HOB.out) (fun e=>by have:=ownsRow_block HL7.out _ e;omega)));have HS8:Hid (SourceAt W8 cb sb (i+k) N x2):=Lib.hid (HS7.out.kept (hm8.block HS7.out.lt (HM7.out.free hcl HOC.out) (fun e=>by have:=ownsRow_block HL7.out _ e;omega)));have HV8:Hid (W8.ownsRow w.heap.size 9 1 v7 (rs.map (·.1)++[out]).length ((rs.map (·.1)++[out]).map Value.string)):=Lib.hid (hm8.ownsRow HV7.out (fun b hb=>⟨(HVF7.out b hb).1,fun e=>HAP.out b e hb⟩));have HVF8:Hid (∀ x,v7.ownBlock=some x->o8 x=none):=Lib.hid (fun x hx=>hm8.free (ownBlock_old HV7.out x hx).1 (HVF7.out x hx).1);by_cases hc:c8=0
       ·subst hc;have hL8:L8=runsL (rs++[(out,bestOf by' C)]) L:=by
         rcases hc8 with ⟨_,e⟩ | e
         ·rw [runsL_snoc];exact e
         ·exact absurd rfl e.ne
        rw [hL8] at HM8;clear hL8 hm8 hc8 hot8 hcallw;obtain ⟨⟨-,-,hs2''⟩,-⟩:=HS8.out.cells;by_cases hN0:N=0
        ·exact absurd hN0 (by omega)
        ·have hN0':¬ (N:Int)=0:=by omega
         have hk1:0 < k:=by omega
         go_wp2;go_roundw
         case rel=>exact ⟨rs++[(out,bestOf by' C)],i+k,d8,o8,x2,HM8.out,by rw [List.length_append];exact HJ8.out,by rw [HNN.out];exact HS8.out,by rw [List.length_append,List.map_append];rw [List.length_append,List.length_map] at HV8;exact HV8.out,HVF8.out,by rw [HNM2.out,List.length_append];rfl,by rw [HNN.out,List.length_append];exact HI2.out,HB2.out,hdec.out,hlen'.out,(fun _=>by have:=HR0.out.2;rw [List.length_append,this];exact Nat.le_refl _),(fun _=>by rw [HNN.out];omega),by rw [List.length_append];exact hr51⟩
         case measure=>rw [HM1l.out,srcLeft_at HS8.out];omega
       ·have hc':¬ (c8:Int)=0:=by omega
        have HOT8:Hid (∀ x,¬ ofSort out x->mget L8 x=mget L x):=Lib.hid (fun x hx=>by
         rw [hot8 x (fun e=>hx (e ▸ HNMO.out.2)),HOTH.out x hx])
        have HE8:Hid (ErrN d d8 (need L+8*N) c8):=Lib.hid (by
         rcases hc8 with ⟨e,_⟩ | e
         ·exact absurd e hc
         ·rw [HKL.out] at e;exact (e.mono hbnd.out).later HM7.out.on.quota)
        clear hc hm8 hc8 hot8 hcallw;go_wp2;go_ret2
        exact ⟨_,c8,d8,o8,_,rfl,HM8.out,HOT8.out, .inr (by rw [HNN.out];exact HE8.out)⟩
 ·have hle:¬ ((N:Int)<=((n:Int) - 4)*12):=by have:=HM.out;omega
  have hled:decide ((N:Int)<=((n:Int) - 4)*12)=false:=by exact decide_eq_false hle
  have HNM:=Lib.hid hNM;clear hNM;go_enter Tryz.func177,Tryz.ntmps177
  go_wp2_with fail
  refine hframes.out.mono ?_;rintro e w' ⟨rfl,rfl⟩;go_wp2;try rw [<- HM.out]
  go_loopw [9] (fun v wr=>RunsHead n pb db jb byb cb sb by' w o d L out es M true v wr) (fun _ wr=>srcLeft wr cb N)
  case atStart=>exact ⟨[],0,d,o,x0,Moved.refl _ H.out,HJ.out,by rw [HNN.out];exact HSRC.out,World.ownsRow_nil w _ _ 1,(fun x hx=>by cases hx),rfl,by simp,(fun p hp=>by cases hp),by simp [allOf],Nat.zero_le _,(fun _=>Nat.zero_le _),(fun hh=>absurd hh (Nat.lt_irrefl 0)),Nat.zero_le _⟩
  case round=>
   generalize u9=v at *;generalize wr=wr1 at *;obtain ⟨rs,i,d1,o1,x1,hm1,hj1,hs1,hv1,hf1,hnm1,hi1,hb1,hall1,hlen1,hone1,hpos1,hr51⟩:=hrel;have HR51:=Lib.hid hr51;rw [HNN.out] at hs1 hi1 hpos1;have HM1:=Lib.hid hm1;have HJ1:Hid (JobAt wr1 jb pb byb rs.length by'):=Lib.hid hj1;have HS1:=Lib.hid hs1;have HV1:=Lib.hid hv1;have HVF1:=Lib.hid hf1;have HNM1:=Lib.hid hnm1;have HI1:=Lib.hid hi1;have HB1:=Lib.hid hb1;have HALL1:=Lib.hid hall1;have HLEN1:=Lib.hid hlen1;have HONE1:=Lib.hid hone1;have HPOS1:=Lib.hid hpos1;have hiN0:i<=N:=by omega
   have HNS:Hid (∀ x∈rs.map (·.1),ofSort out x):=Lib.hid (by rw [hnm1];exact (range_names true out rs.length hone1).2 hr51);have HOTH:Hid (∀ x,¬ ofSort out x->mget (runsL rs L) x=mget L x):=Lib.hid (fun x hx=>runsL_other _ _ _ (fun hmem=>hx (HNS.out x hmem)));have HND:Hid (need (runsL rs L)<=need L+8*N):=Lib.hid (by have:=runsL_need rs L;omega);have hsz1:w.heap.size<=wr1.heap.size:=hm1.size;clear hm1 hj1 hs1 hv1 hf1 hnm1 hi1 hb1 hall1 hlen1 hone1 hpos1 hr51;go_wp2;go_loopw [10] (fun l wr2=>∃ (k:Nat) (d':Dsk) (o':Owner) (x:Edg),k<=M/\i+k<=N/\Moved (fun x=>x=cb\/x=jb) n pb db w o d wr2 o' d' (runsL rs L)/\JobAt wr2 jb pb byb rs.length by'/\SourceAt wr2 cb sb (i+k) N x/\wr2.ownsRow w.heap.size 9 1 v rs.length ((rs.map (·.1)).map Value.string)/\(∀ x,v.ownBlock=some x->o' x=none)/\ownsEdges wr2 w.heap.size l ((es.drop i).take k)/\(∀ x,l.ownBlock=some x->o' x=none)) (fun _ wr2=>srcLeft wr2 cb N)
   case atStart=>exact ⟨0,d1,o1,x1,Nat.zero_le _,hiN0,HM1.out,HJ1.out,HS1.out,HV1.out,HVF1.out,World.ownsRow_nil _ _ _ 4,fun x hx=>by cases hx⟩
   case round=>
    generalize u10=l at *;generalize wr=wr2 at *;obtain ⟨k,d2,o2,x2,hk2,hik2,hm2,hj2,hs2q,hv2,hvf2,hl2,hlf2⟩:=hrel;have HM2:=Lib.hid hm2;have HJ2:=Lib.hid hj2;have HS2:=Lib.hid hs2q;have HV2:=Lib.hid hv2;have HVF2:=Lib.hid hvf2;have HL2:=Lib.hid hl2;have HLF2:=Lib.hid hlf2;have hkl:((es.drop i).take k).length=k:=by rw [List.length_take,List.length_drop,HNN.out];omega
    have hsz2:w.heap.size<=wr2.heap.size:=hm2.size;have HML2:Hid (srcLeft wr2 cb N=N - (i+k)):=Lib.hid (srcLeft_at hs2q);clear hm2 hj2 hs2q hv2 hvf2 hl2 hlf2;by_cases hlt:k < M
    ·obtain ⟨la,lc,rfl⟩:∃ a cap,l=.slice a k cap:=by
      rcases ownsEdges_shape HL2.out with ⟨h1,h2⟩ | ⟨g,cap,h1,_⟩
      ·rw [h1] at hkl;subst h2;exact ⟨none,0,by rw [<- hkl];rfl⟩
      ·rw [hkl] at h1;exact ⟨_,_,h1⟩
     have HKL:=Lib.hid hkl;clear hkl;by_cases hin:i+k < N
     ·have hxi:i+k < es.length:=by rw [HNN.out];exact hin
      obtain ⟨y,hy⟩:∃ y,es[i+k]? = some y:=⟨_,List.getElem?_eq_getElem hxi⟩;have HTK:Hid ((es.drop i).take (k+1)=(es.drop i).take k++[y]):=Lib.hid (by
       have hkd:k < (es.drop i).length:=by rw [List.length_drop];omega
       rw [List.take_succ_eq_append_getElem hkd];congr 2;rw [List.getElem_drop];rw [List.getElem?_eq_getElem hxi] at hy;exact Option.some.inj hy)
      have hcallx:=Lib.hid (hnext.out wr2 o2 d2 rs (i+k) x2 HM2.out HNS.out HS2.out y hy);clear hxi hy;go_wp2_with fail
      refine hcallx.out.mono ?_;rintro e w3 ⟨c3,d3,o3,rfl,hm3,he3,hs3⟩;have HM3:=Lib.hid (HM2.out.trans hm3 (fun x _ e=>.inl e));have HJ3:Hid (JobAt w3 jb pb byb rs.length by'):=Lib.hid (HJ2.out.kept (hm3.block HJ2.out.lt.1 (HM2.out.free hjl HOJ.out) (fun e=>HCJ.out e.symm)) (hm3.block HJ2.out.lt.2 (HM2.out.free hbl HOB.out) (fun e=>HCB.out e.symm)));have HV3:Hid (w3.ownsRow w.heap.size 9 1 v rs.length ((rs.map (·.1)).map Value.string)):=Lib.hid (hm3.ownsRow HV2.out (fun b hb=>⟨HVF2.out b hb,fun e=>by have:=ownsRow_block HV2.out b hb;omega⟩));have HVF3:Hid (∀ x,v.ownBlock=some x->o3 x=none):=Lib.hid (fun x hx=>hm3.free (ownBlock_old HV2.out x hx).1 (HVF2.out x hx));have HL3:Hid (ownsEdges w3 w.heap.size (.slice la k lc) ((es.drop i).take k)):=Lib.hid (hm3.ownsRow HL2.out (fun b hb=>⟨HLF2.out b hb,fun e=>by have:=ownsRow_block HL2.out b hb;omega⟩));have HLF3:Hid (∀ x,(Value.slice la k lc).ownBlock=some x->o3 x=none):=Lib.hid (fun x hx=>hm3.free (ownBlock_old HL2.out x hx).1 (HLF2.out x hx));have HS3:=Lib.hid hs3;have hsz3:w.heap.size<=w3.heap.size:=HM3.out.size;by_cases hc3:c3=0
      ·subst hc3;have HS3':=Lib.hid (HS3.out rfl);obtain ⟨-,⟨k0,k1,k2,k3⟩,-⟩:=HS3'.out.cells;clear HS3;clear hm3 he3 hs3 hcallx;have hkl3:((es.drop i).take k).length<=100000:=by rw [HKL.out];omega
       go_wp2_with (at_builtin;refine wpList_append_edge rfl _ _ rfl w.heap.size _ _ rfl HL3.out y 1 rfl hkl3 hsz3 ?_)
       intro l4 w4 hl4 ha4;obtain ⟨hm4,hlf4,hh4,hz4⟩:=ha4.moved HM3.out (fun x hx=>⟨HLF3.out x hx,ownsRow_block HL3.out x hx⟩);have HM4:=Lib.hid hm4;have HNL:Hid (∀ x,x < w.heap.size->w4.heap[x]? = w3.heap[x]?):=Lib.hid (fun x hx=>hh4 x (by omega) (fun e=>by have:=ownsRow_block HL3.out x e;omega));have HJ4:Hid (JobAt w4 jb pb byb rs.length by'):=Lib.hid (HJ3.out.kept (HNL.out jb hjl) (HNL.out byb hbl));have HS4:Hid (SourceAt w4 cb sb (i+(k+1)) N y):=Lib.hid (HS3'.out.kept (HNL.out cb hcl));have HV4:Hid (w4.ownsRow w.heap.size 9 1 v rs.length ((rs.map (·.1)).map Value.string)):=Lib.hid (ownsRow_heap HV3.out (fun x hx=>hh4 x (ownBlock_old HV3.out x hx).1 (fun e=>ownsRow_apart HV3.out HL3.out (by decide) x hx e)));rw [<- HTK.out] at hl4;have HL4:=Lib.hid hl4;have HLF4:=Lib.hid hlf4;clear hm4 hlf4 hh4 ha4 hl4 k0 k1 k2 k3;go_wp2;go_roundw
       case rel=>exact ⟨k+1,d3,o3,y,by omega,by omega,HM4.out,HJ4.out,HS4.out,HV4.out,HVF3.out,HL4.out,fun x hx=>(HLF4.out x hx).1⟩
       case measure=>rw [HML2.out,srcLeft_at HS4.out];omega
      ·have hc3':¬ (c3:Int)=0:=by omega
       have HE3:=Lib.hid (((he3.resolve_left hc3).num HND.out).later HM2.out.on.quota);have hbq:(c3 == 0)=false:=by simpa using hc3
       clear hm3 he3 hs3 hcallx hc3;go_wp2;go_ret2
       exact ⟨_,c3,d3,o3,_,rfl,HM3.out,HOTH.out, .inr (by rw [HNN.out];exact HE3.out)⟩
     ·have hcl5:(es.drop i).take M=(es.drop i).take k:=by
       rw [List.take_eq_take_iff,List.length_drop,HNN.out];omega
      rw [<- hcl5] at HL2 HKL;have hend:=Lib.hid (sourceNext_end (sb:=sb) HS2.out (by omega));unfold ptrTo at hend;go_wp2_with fail
      refine hend.out.mono ?_;rintro e w5 ⟨rfl,q5,rfl⟩;have HM5:=Lib.hid (HM2.out.drewN q5);have HJ5:Hid (JobAt (wr2.drewN q5) jb pb byb rs.length by'):=Lib.hid (HJ2.out.below (below_drewN (Below.refl _ _) _));have HS5:Hid (SourceAt (wr2.drewN q5) cb sb (i+k) N x2):=Lib.hid (HS2.out.below (below_drewN (Below.refl _ _) _));have HV5:Hid ((wr2.drewN q5).ownsRow w.heap.size 9 1 v rs.length ((rs.map (·.1)).map Value.string)):=HV2;have HL5:Hid (ownsEdges (wr2.drewN q5) w.heap.size (.slice la k lc) ((es.drop i).take M)):=HL2;have HM1l:Hid (srcLeft wr1 cb N=N - i):=Lib.hid (srcLeft_at HS1.out);have hsz5:w.heap.size<=(wr2.drewN q5).heap.size:=hsz2;have hKmin:k=min M (N - i):=by omega
      clear hcl5 hend HM2 HJ2 HS2 HV2 HL2 HML2 hsz2;generalize wr2.drewN q5=W5 at *;obtain ⟨⟨-,-,hs2'⟩,-⟩:=HS5.out.cells;by_cases hK0:k=0/\0 < N
      ·obtain ⟨hk0,hn0⟩:=hK0;have hM0:=hM48;have hiN:i=N:=by omega
       have HRS2:Hid ((∃ x,rs=[(out,x)])\/(2<=rs.length/\48 < es.length/\∀ p∈rs,∃ k,k < rs.length/\p.1=tName k)):=Lib.hid (by
        have h1:=HI1.out;have h3:=HNM.out;have h2:2<=rs.length:=by
         rcases Nat.lt_or_ge rs.length 2 with h | h
         ·have h2:rs.length=0\/rs.length=1:=by omega
          rcases h2 with h2 | h2<;>rw [h2] at h1<;>omega
         ·exact h
        refine .inr ⟨h2,by rw [HNN.out];omega,fun p hp=>?_⟩;have h4:p.1∈rs.map (·.1):=List.mem_map.2 ⟨p,hp,rfl⟩;rw [HNM1.out] at h4;obtain ⟨q,hq,e⟩:=List.mem_map.1 h4;exact ⟨q,List.mem_range.1 hq,e.symm⟩)
       have hne0:0 < rs.length:=by
        rcases HRS2.out with ⟨x,e⟩ | ⟨e,_⟩
        ·rw [e];exact Nat.zero_lt_one
        ·omega
       have hr51:rs.length<=51:=by exact HR51.out
       have HIN:=Lib.hid hiN;have hn0':(N:Int) > 0:=by omega
       subst hk0;clear hiN hKmin;go_wp2;go_ret2
       refine ⟨_,0,d2,o2,_,rfl,HM5.out,HOTH.out, .inl ⟨rfl,rs,rs.length,rfl,⟨HB1.out,?_,?_,?_⟩,HRS2.out,by omega,hr51,HJ5.out,NameRow.ofOwn (by rw [List.length_map];exact HV5.out) ?_,fun b hb=>⟨HVF2.out b hb,ownsRow_block HV5.out b hb⟩⟩⟩
       ·rw [HALL1.out,HIN.out,List.take_of_length_le (by rw [HNN.out];exact Nat.le_refl _)]
       ·rw [HNN.out,<- HIN.out];exact HLEN1.out
       ·rw [HNM1.out];exact (range_names true out rs.length (fun h=>by cases h)).1
       ·intro hnil;have:=congrArg List.length hnil;rw [List.length_map] at this;have h0:([]:List Name).length=0:=rfl;omega
      ·have hKN:0 < k\/N=0:=by omega
       have hiK:i+k<=N:=by omega
       have hR0:rs.length < 51/\True:=by
        have h1:=HI1.out;have h2:rs.length*48<=rs.length*M:=Nat.mul_le_mul_left _ hM48.1;have h3:=HNM.out;exact ⟨by omega,trivial⟩
       have HR0:=Lib.hid hR0;have HFRESH:Hid (mget (runsL rs L) (nmOf true out rs.length)=none):=Lib.hid (by
        rw [runsL_other]
        ·exact HNT.out _
        ·rw [HNM1.out];exact next_fresh true out rs.length (fun h=>by cases h))
       have hdec:Hid (bestOf by' (allOf (rs++[(nmOf true out rs.length,bestOf by' ((es.drop i).take M))]))=bestOf by' (es.take (i+k))):=Lib.hid (by
        rw [allOf_append];have e1:es.take (i+k)=es.take i++(es.drop i).take M:=by
         rw [List.take_add];congr 1;rw [List.take_eq_take_iff,List.length_drop,HNN.out];omega
        rw [e1];have e2:allOf [(nmOf true out rs.length,bestOf by' ((es.drop i).take M))]=bestOf by' ((es.drop i).take M):=by simp [allOf]
        rw [e2];exact bestOf_lr HALL1.out (bestOf_same _ _))
       have hlen':Hid (lens (rs++[(nmOf true out rs.length,bestOf by' ((es.drop i).take M))])<=i+k):=Lib.hid (by
        rw [lens_append];have h1:=HLEN1.out;have h2:=bestOf_length by' ((es.drop i).take M)
        rw [HKL.out] at h2;have h3:lens [(nmOf true out rs.length,bestOf by' ((es.drop i).take M))]=(bestOf by' ((es.drop i).take M)).length:=by simp [lens]
        omega)
       have hbnd:Hid (need (runsL rs L)+4*k<=need L+8*N):=Lib.hid (by
        have h1:=runsL_need rs L;have h2:=HLEN1.out;omega)
       have HNM2:Hid (((rs++[(nmOf true out rs.length,bestOf by' ((es.drop i).take M))]).map (·.1))=(List.range (rs.length+1)).map (nmOf true out)):=Lib.hid (by
        rw [List.map_append,HNM1.out,List.range_succ,List.map_append];rfl)
       have HI2:Hid (i+k=min N ((rs.length+1)*M)):=Lib.hid (by
        have h1:=HI1.out;rw [Nat.add_mul,Nat.one_mul];generalize rs.length*M=P at *;omega)
       have hr51:rs.length < 51:=hR0.1;clear hR0;have HB2:Hid (∀ p∈rs++[(nmOf true out rs.length,bestOf by' ((es.drop i).take M))],bestOf by' p.2=p.2):=Lib.hid (fun p hp=>by
        rcases List.mem_append.1 hp with hp | hp
        ·exact HB1.out p hp
        ·rw [List.mem_singleton.1 hp];exact bestOf_same _ _)
       have hNMok:okName (nmOf true out rs.length)=true/\ofSort out (nmOf true out rs.length):=⟨tName_ok (by omega), .inr ⟨_,by omega,rfl⟩⟩;have HNMO:=Lib.hid hNMok;clear hKmin hNMok;have hcallf:=Lib.hid (fresh_any HJ5.out (by omega) HNE.out);unfold ptrTo at hcallf;have hgt:(N:Int) > (M:Int):=by have:=HNM.out;omega
       go_wp2_with fail
       refine hcallf.out.mono ?_;rintro e W6 ⟨rfl,hj6,ht6⟩;have HM6:=Lib.hid (HM5.out.turned (HM5.out.free hjl HOJ.out) (.inl (.inr rfl)) ht6);have HJ6:=Lib.hid hj6;have HS6:Hid (SourceAt W6 cb sb (i+k) N x2):=Lib.hid (HS5.out.kept (ht6.block cb HS5.out.lt HCJ.out));have HV6:Hid (W6.ownsRow w.heap.size 9 1 v rs.length ((rs.map (·.1)).map Value.string)):=Lib.hid (ht6.ownsRow HV5.out (fun b hb e=>by have:=ownsRow_block HV5.out b hb;omega));have HL6:Hid (ownsEdges W6 w.heap.size (.slice la k lc) ((es.drop i).take M)):=Lib.hid (ht6.ownsRow HL5.out (fun b hb e=>by have:=ownsRow_block HL5.out b hb;omega));have hsz6:w.heap.size<=W6.heap.size:=HM6.out.size;clear hj6 ht6 hcallf;have hNMe:nmOf true out rs.length=tName rs.length:=rfl;rw [hNMe] at HFRESH hdec hlen' HNM2 HNMO HB2;clear hNMe;generalize hNMg:tName rs.length=NM at *;clear hNMg;generalize hcc:(es.drop i).take M=C at *;clear hcc;have hvl:(rs.map (·.1)).length<=100000:=by rw [List.length_map];omega
       have HV6':Hid (W6.ownsRow w.heap.size 9 1 v (rs.map (·.1)).length ((rs.map (·.1)).map Value.string)):=Lib.hid (by rw [List.length_map];exact HV6.out);go_wp2_with (at_builtin;refine wpList_append_str rfl _ _ rfl w.heap.size _ _ rfl HV6'.out NM 1 rfl hvl hsz6 ?_)
       intro v7 W7 hv7 ha7;obtain ⟨hm7,hvf7,hh7,hz7⟩:=ha7.moved HM6.out (fun x hx=>⟨HVF2.out x hx,ownsRow_block HV6.out x hx⟩);have hvb:∀ x,v.ownBlock=some x->w.heap.size<=x:=fun x hx=>ownsRow_block HV6.out x hx;have HM7:=Lib.hid hm7;have HV7:Hid (W7.ownsRow w.heap.size 9 1 v7 (rs.map (·.1)++[NM]).length ((rs.map (·.1)++[NM]).map Value.string)):=Lib.hid (by simpa using hv7);have HVF7:=Lib.hid hvf7;have HJ7:Hid (JobAt W7 jb pb byb (rs.length+1) by'):=Lib.hid (HJ6.out.kept (hh7 jb (by omega) (fun e=>by have:=hvb _ e;omega)) (hh7 byb (by omega) (fun e=>by have:=hvb _ e;omega)));have HS7:Hid (SourceAt W7 cb sb (i+k) N x2):=Lib.hid (HS6.out.kept (hh7 cb (by omega) (fun e=>by have:=hvb _ e;omega)));have HL7:Hid (ownsEdges W7 w.heap.size (.slice la k lc) C):=Lib.hid (ownsRow_heap HL6.out (fun x hx=>hh7 x (ownBlock_old HL6.out x hx).1 (fun e=>ownsRow_apart HL6.out HV6.out (by decide) x hx e)));have HAP:Hid (∀ x,(Value.slice la k lc).ownBlock=some x->v7.ownBlock≠some x):=Lib.hid (fun x hx=>ownsRow_apart HL7.out HV7.out (by decide) x hx);have hsz7:w.heap.size<=W7.heap.size:=hm7.size;clear hm7 hv7 hvf7 hh7 ha7 hvb hz7;have hcallw:=Lib.hid (hwrite.out W7 o2 d2 (rs.length+1) rs NM HM7.out HJ7.out HNMO.out.1 HFRESH.out (.slice la k lc) C HL7.out (fun x hx=>⟨HLF2.out x hx,ownsRow_block HL7.out x hx⟩) (by rw [HKL.out];omega));go_wp2_with fail
       refine hcallw.out.mono ?_;rintro e W8 ⟨c8,d8,o8,L8,rfl,hm8,hc8,hot8⟩;have HM8:=Lib.hid (HM7.out.trans hm8 (fun x hx e=>by have:=ownsRow_block HL7.out x e;omega));have HJ8:Hid (JobAt W8 jb pb byb (rs.length+1) by'):=Lib.hid (HJ7.out.kept (hm8.block HJ7.out.lt.1 (HM7.out.free hjl HOJ.out) (fun e=>by have:=ownsRow_block HL7.out _ e;omega)) (hm8.block HJ7.out.lt.2 (HM7.out.free hbl HOB.out) (fun e=>by have:=ownsRow_block HL7.out _ e;omega)));have HS8:Hid (SourceAt W8 cb sb (i+k) N x2):=Lib.hid (HS7.out.kept (hm8.block HS7.out.lt (HM7.out.free hcl HOC.out) (fun e=>by have:=ownsRow_block HL7.out _ e;omega)));have HV8:Hid (W8.ownsRow w.heap.size 9 1 v7 (rs.map (·.1)++[NM]).length ((rs.map (·.1)++[NM]).map Value.string)):=Lib.hid (hm8.ownsRow HV7.out (fun b hb=>⟨(HVF7.out b hb).1,fun e=>HAP.out b e hb⟩));have HVF8:Hid (∀ x,v7.ownBlock=some x->o8 x=none):=Lib.hid (fun x hx=>hm8.free (ownBlock_old HV7.out x hx).1 (HVF7.out x hx).1);by_cases hc:c8=0
       ·subst hc;have hL8:L8=runsL (rs++[(NM,bestOf by' C)]) L:=by
         rcases hc8 with ⟨_,e⟩ | e
         ·rw [runsL_snoc];exact e
         ·exact absurd rfl e.ne
        rw [hL8] at HM8;clear hL8 hm8 hc8 hot8 hcallw;obtain ⟨⟨-,-,hs2''⟩,-⟩:=HS8.out.cells;by_cases hN0:N=0
        ·exact absurd hN0 (by omega)
        ·have hN0':¬ (N:Int)=0:=by omega
         have hk1:0 < k:=by omega
         go_wp2;go_roundw
         case rel=>exact ⟨rs++[(NM,bestOf by' C)],i+k,d8,o8,x2,HM8.out,by rw [List.length_append];exact HJ8.out,by rw [HNN.out];exact HS8.out,by rw [List.length_append,List.map_append];rw [List.length_append,List.length_map] at HV8;exact HV8.out,HVF8.out,by rw [HNM2.out,List.length_append];rfl,by rw [HNN.out,List.length_append];exact HI2.out,HB2.out,hdec.out,hlen'.out,(fun h=>by cases h),(fun _=>by rw [HNN.out];omega),by rw [List.length_append];exact hr51⟩
         case measure=>rw [HM1l.out,srcLeft_at HS8.out];omega
       ·have hc':¬ (c8:Int)=0:=by omega
        have HOT8:Hid (∀ x,¬ ofSort out x->mget L8 x=mget L x):=Lib.hid (fun x hx=>by
         rw [hot8 x (fun e=>hx (e ▸ HNMO.out.2)),HOTH.out x hx])
        have HE8:Hid (ErrN d d8 (need L+8*N) c8):=Lib.hid (by
         rcases hc8 with ⟨e,_⟩ | e
         ·exact absurd e hc
         ·rw [HKL.out] at e;exact (e.mono hbnd.out).later HM7.out.on.quota)
        clear hc hm8 hc8 hot8 hcallw;go_wp2;go_ret2
        exact ⟨_,c8,d8,o8,_,rfl,HM8.out,HOT8.out, .inr (by rw [HNN.out];exact HE8.out)⟩
    ·obtain ⟨la,lc,rfl⟩:∃ a cap,l=.slice a k cap:=by
      rcases ownsEdges_shape HL2.out with ⟨h1,h2⟩ | ⟨g,cap,h1,_⟩
      ·rw [h1] at hkl;subst h2;exact ⟨none,0,by rw [<- hkl];rfl⟩
      ·rw [hkl] at h1;exact ⟨_,_,h1⟩
     have HKL:=Lib.hid hkl;have hcl5:k=M:=by omega
     have hcl6:(es.drop i).take M=(es.drop i).take k:=by rw [hcl5]
     rw [<- hcl6] at HL2 HKL;have HM5:=Lib.hid HM2.out;have HJ5:=Lib.hid HJ2.out;have HS5:=Lib.hid HS2.out;have HV5:=Lib.hid HV2.out;have HL5:=Lib.hid HL2.out;have HM1l:Hid (srcLeft wr1 cb N=N - i):=Lib.hid (srcLeft_at HS1.out);have hsz5:w.heap.size<=wr2.heap.size:=hsz2;have hKmin:k=min M (N - i):=by omega
     have hlt':¬ ((k:Int) < (M:Int)):=by omega
     clear hcl6 hkl HM2 HJ2 HS2 HV2 HL2 HML2 hsz2 hlt hcl5;generalize wr2=W5 at *;obtain ⟨⟨-,-,hs2'⟩,-⟩:=HS5.out.cells;by_cases hK0:k=0/\0 < N
     ·exfalso
      have:=hM48;omega
     ·have hKN:0 < k\/N=0:=by omega
      have hiK:i+k<=N:=by omega
      have hR0:rs.length < 51/\True:=by
       have h1:=HI1.out;have h2:rs.length*48<=rs.length*M:=Nat.mul_le_mul_left _ hM48.1;have h3:=HNM.out;exact ⟨by omega,trivial⟩
      have HR0:=Lib.hid hR0;have HFRESH:Hid (mget (runsL rs L) (nmOf true out rs.length)=none):=Lib.hid (by
       rw [runsL_other]
       ·exact HNT.out _
       ·rw [HNM1.out];exact next_fresh true out rs.length (fun h=>by cases h))
      have hdec:Hid (bestOf by' (allOf (rs++[(nmOf true out rs.length,bestOf by' ((es.drop i).take M))]))=bestOf by' (es.take (i+k))):=Lib.hid (by
       rw [allOf_append];have e1:es.take (i+k)=es.take i++(es.drop i).take M:=by
        rw [List.take_add];congr 1;rw [List.take_eq_take_iff,List.length_drop,HNN.out];omega
       rw [e1];have e2:allOf [(nmOf true out rs.length,bestOf by' ((es.drop i).take M))]=bestOf by' ((es.drop i).take M):=by simp [allOf]
       rw [e2];exact bestOf_lr HALL1.out (bestOf_same _ _))
      have hlen':Hid (lens (rs++[(nmOf true out rs.length,bestOf by' ((es.drop i).take M))])<=i+k):=Lib.hid (by
       rw [lens_append];have h1:=HLEN1.out;have h2:=bestOf_length by' ((es.drop i).take M)
       rw [HKL.out] at h2;have h3:lens [(nmOf true out rs.length,bestOf by' ((es.drop i).take M))]=(bestOf by' ((es.drop i).take M)).length:=by simp [lens]
       omega)
      have hbnd:Hid (need (runsL rs L)+4*k<=need L+8*N):=Lib.hid (by
       have h1:=runsL_need rs L;have h2:=HLEN1.out;omega)
      have HNM2:Hid (((rs++[(nmOf true out rs.length,bestOf by' ((es.drop i).take M))]).map (·.1))=(List.range (rs.length+1)).map (nmOf true out)):=Lib.hid (by
       rw [List.map_append,HNM1.out,List.range_succ,List.map_append];rfl)
      have HI2:Hid (i+k=min N ((rs.length+1)*M)):=Lib.hid (by
       have h1:=HI1.out;rw [Nat.add_mul,Nat.one_mul];generalize rs.length*M=P at *;omega)
      have hr51:rs.length < 51:=hR0.1;clear hR0;have HB2:Hid (∀ p∈rs++[(nmOf true out rs.length,bestOf by' ((es.drop i).take M))],bestOf by' p.2=p.2):=Lib.hid (fun p hp=>by
       rcases List.mem_append.1 hp with hp | hp
       ·exact HB1.out p hp
       ·rw [List.mem_singleton.1 hp];exact bestOf_same _ _)
      have hNMok:okName (nmOf true out rs.length)=true/\ofSort out (nmOf true out rs.length):=⟨tName_ok (by omega), .inr ⟨_,by omega,rfl⟩⟩;have HNMO:=Lib.hid hNMok;clear hKmin hNMok;have hcallf:=Lib.hid (fresh_any HJ5.out (by omega) HNE.out);unfold ptrTo at hcallf;have hgt:(N:Int) > (M:Int):=by have:=HNM.out;omega
      go_wp2_with fail
      refine hcallf.out.mono ?_;rintro e W6 ⟨rfl,hj6,ht6⟩;have HM6:=Lib.hid (HM5.out.turned (HM5.out.free hjl HOJ.out) (.inl (.inr rfl)) ht6);have HJ6:=Lib.hid hj6;have HS6:Hid (SourceAt W6 cb sb (i+k) N x2):=Lib.hid (HS5.out.kept (ht6.block cb HS5.out.lt HCJ.out));have HV6:Hid (W6.ownsRow w.heap.size 9 1 v rs.length ((rs.map (·.1)).map Value.string)):=Lib.hid (ht6.ownsRow HV5.out (fun b hb e=>by have:=ownsRow_block HV5.out b hb;omega));have HL6:Hid (ownsEdges W6 w.heap.size (.slice la k lc) ((es.drop i).take M)):=Lib.hid (ht6.ownsRow HL5.out (fun b hb e=>by have:=ownsRow_block HL5.out b hb;omega));have hsz6:w.heap.size<=W6.heap.size:=HM6.out.size;clear hj6 ht6 hcallf;have hNMe:nmOf true out rs.length=tName rs.length:=rfl;rw [hNMe] at HFRESH hdec hlen' HNM2 HNMO HB2;clear hNMe;generalize hNMg:tName rs.length=NM at *;clear hNMg;generalize hcc:(es.drop i).take M=C at *;clear hcc;have hvl:(rs.map (·.1)).length<=100000:=by rw [List.length_map];omega
      have HV6':Hid (W6.ownsRow w.heap.size 9 1 v (rs.map (·.1)).length ((rs.map (·.1)).map Value.string)):=Lib.hid (by rw [List.length_map];exact HV6.out);go_wp2_with (at_builtin;refine wpList_append_str rfl _ _ rfl w.heap.size _ _ rfl HV6'.out NM 1 rfl hvl hsz6 ?_)
      intro v7 W7 hv7 ha7;obtain ⟨hm7,hvf7,hh7,hz7⟩:=ha7.moved HM6.out (fun x hx=>⟨HVF2.out x hx,ownsRow_block HV6.out x hx⟩);have hvb:∀ x,v.ownBlock=some x->w.heap.size<=x:=fun x hx=>ownsRow_block HV6.out x hx;have HM7:=Lib.hid hm7;have HV7:Hid (W7.ownsRow w.heap.size 9 1 v7 (rs.map (·.1)++[NM]).length ((rs.map (·.1)++[NM]).map Value.string)):=Lib.hid (by simpa using hv7);have HVF7:=Lib.hid hvf7;have HJ7:Hid (JobAt W7 jb pb byb (rs.length+1) by'):=Lib.hid (HJ6.out.kept (hh7 jb (by omega) (fun e=>by have:=hvb _ e;omega)) (hh7 byb (by omega) (fun e=>by have:=hvb _ e;omega)));have HS7:Hid (SourceAt W7 cb sb (i+k) N x2):=Lib.hid (HS6.out.kept (hh7 cb (by omega) (fun e=>by have:=hvb _ e;omega)));have HL7:Hid (ownsEdges W7 w.heap.size (.slice la k lc) C):=Lib.hid (ownsRow_heap HL6.out (fun x hx=>hh7 x (ownBlock_old HL6.out x hx).1 (fun e=>ownsRow_apart HL6.out HV6.out (by decide) x hx e)));have HAP:Hid (∀ x,(Value.slice la k lc).ownBlock=some x->v7.ownBlock≠some x):=Lib.hid (fun x hx=>ownsRow_apart HL7.out HV7.out (by decide) x hx);have hsz7:w.heap.size<=W7.heap.size:=hm7.size;clear hm7 hv7 hvf7 hh7 ha7 hvb hz7;have hcallw:=Lib.hid (hwrite.out W7 o2 d2 (rs.length+1) rs NM HM7.out HJ7.out HNMO.out.1 HFRESH.out (.slice la k lc) C HL7.out (fun x hx=>⟨HLF2.out x hx,ownsRow_block HL7.out x hx⟩) (by rw [HKL.out];omega));go_wp2_with fail
      refine hcallw.out.mono ?_;rintro e W8 ⟨c8,d8,o8,L8,rfl,hm8,hc8,hot8⟩;have HM8:=Lib.hid (HM7.out.trans hm8 (fun x hx e=>by have:=ownsRow_block HL7.out x e;omega));have HJ8:Hid (JobAt W8 jb pb byb (rs.length+1) by'):=Lib.hid (HJ7.out.kept (hm8.block HJ7.out.lt.1 (HM7.out.free hjl HOJ.out) (fun e=>by have:=ownsRow_block HL7.out _ e;omega)) (hm8.block HJ7.out.lt.2 (HM7.out.free hbl HOB.out) (fun e=>by have:=ownsRow_block HL7.out _ e;omega)));have HS8:Hid (SourceAt W8 cb sb (i+k) N x2):=Lib.hid (HS7.out.kept (hm8.block HS7.out.lt (HM7.out.free hcl HOC.out) (fun e=>by have:=ownsRow_block HL7.out _ e;omega)));have HV8:Hid (W8.ownsRow w.heap.size 9 1 v7 (rs.map (·.1)++[NM]).length ((rs.map (·.1)++[NM]).map Value.string)):=Lib.hid (hm8.ownsRow HV7.out (fun b hb=>⟨(HVF7.out b hb).1,fun e=>HAP.out b e hb⟩));have HVF8:Hid (∀ x,v7.ownBlock=some x->o8 x=none):=Lib.hid (fun x hx=>hm8.free (ownBlock_old HV7.out x hx).1 (HVF7.out x hx).1);by_cases hc:c8=0
      ·subst hc;have hL8:L8=runsL (rs++[(NM,bestOf by' C)]) L:=by
        rcases hc8 with ⟨_,e⟩ | e
        ·rw [runsL_snoc];exact e
        ·exact absurd rfl e.ne
       rw [hL8] at HM8;clear hL8 hm8 hc8 hot8 hcallw;obtain ⟨⟨-,-,hs2''⟩,-⟩:=HS8.out.cells;by_cases hN0:N=0
       ·exact absurd hN0 (by have:=HNM.out;omega)
       ·have hN0':¬ (N:Int)=0:=by omega
        have hk1:0 < k:=by omega
        go_wp2;go_roundw
        case rel=>exact ⟨rs++[(NM,bestOf by' C)],i+k,d8,o8,x2,HM8.out,by rw [List.length_append];exact HJ8.out,by rw [HNN.out];exact HS8.out,by rw [List.length_append,List.map_append];rw [List.length_append,List.length_map] at HV8;exact HV8.out,HVF8.out,by rw [HNM2.out,List.length_append];rfl,by rw [HNN.out,List.length_append];exact HI2.out,HB2.out,hdec.out,hlen'.out,(fun h=>by cases h),(fun _=>by rw [HNN.out];omega),by rw [List.length_append];exact hr51⟩
        case measure=>rw [HM1l.out,srcLeft_at HS8.out];omega
      ·have hc':¬ (c8:Int)=0:=by omega
       have HOT8:Hid (∀ x,¬ ofSort out x->mget L8 x=mget L x):=Lib.hid (fun x hx=>by
        rw [hot8 x (fun e=>hx (e ▸ HNMO.out.2)),HOTH.out x hx])
       have HE8:Hid (ErrN d d8 (need L+8*N) c8):=Lib.hid (by
        rcases hc8 with ⟨e,_⟩ | e
        ·exact absurd e hc
        ·rw [HKL.out] at e;exact (e.mono hbnd.out).later HM7.out.on.quota)
       clear hc hm8 hc8 hot8 hcallw;go_wp2;go_ret2
       exact ⟨_,c8,d8,o8,_,rfl,HM8.out,HOT8.out, .inr (by rw [HNN.out];exact HE8.out)⟩
end
end
section
open Go.RowKit Go.Maps Go.MapKept
section
variable {w w':World} {pb db n cb kb sb jb byb made:Nat} {by':Bool} {name:Name} {o o':Owner} {d d':Dsk} {L L':Logic}
def SortsPost (S:Nat->Prop) (n pb db:Nat) (w:World) (o:Owner) (d:Dsk) (L:Logic) (out:Name) (best:List Edg) (N:Nat) (e:Ending) (w':World):Prop:=
 ∃ c d' o' L',e=.returned (.int .i64 ((c:Nat):Int))/\Moved S n pb db w o d w' o' d' L'/\(∀ x,¬ ofSort out x->mget L' x=mget L x)/\((c=0/\∀ x,mget L' x=mget (mput L out (edgeFile best true)) x)\/ErrN d d' (need L+8*N) c)
def JobSortSaid (m:Nat):Prop:=∀ {w:World} {pb db n cb sb jb byb:Nat} {by':Bool} {o:Owner} {d:Dsk} {L:Logic},PoolAt w pb db n o d L->8<=n->JobAt w jb pb byb 0 by'->o jb=none->o byb=none->byb≠jb ->
 ∀ {es:List Edg} {fl:Bool} {inn out:Name} {x0:Edg},mget L inn=some (edgeFile es fl)->SourceAt w cb sb 0 es.length x0->StreamAt w sb pb inn 20->o cb=none->o sb=none->cb≠jb->cb≠byb->sb≠jb->sb≠cb ->
 okName out=true->mget L out=none->(∀ k,mget L (tName k)=none)->(∀ k,out≠tName k)->es.length<=m ->
 Calls Tryz.prog 117 #[ptrTo jb,ptrTo cb, .string out] w (SortsPost (fun x=>x=cb\/x=jb) n pb db w o d L out (bestOf by' es) es.length)
theorem flush_pool (HW:WriteSaid) (h:PoolAt w pb db n o d L) {ps:List Pg} {fl:Bool} (hL:mget L name=some (.inl (ps,fl))) :
 Calls Tryz.prog 79 #[ptrTo pb, .string name] w (LaidPost (fun _=>False) n pb db w o d L (mput L name (.inl (ps,true)))):=
 (flush_any HW h hL).mono fun _ _ ⟨c,d',o',he,hp,ht,hg,hon,hc⟩=>⟨c,d',o',he,moved_of hp ht hg hon,hc⟩
end
end
section
open Go.RowKit Go.Maps Go.MapKept Go.Sort
def encP:Option Nat->Value
 | none=>.pointer none
 | some b=>ptrTo b
def PtrRow (w:World) (g:Nat) (cbs:List Nat):Prop:=Holds encP w g 0 (cbs.map some).toArray
theorem info_psource:(Tryz.prog.info? 206).map (fun i=>(i.zero,i.size,i.bytes))=some (some (.pointer none),1,8):=by kernel_rfl
section
variable {w w':World} {g cap:Nat} {cbs:List Nat}
theorem heap_putRow_other {α:Type} [Inhabited α] (enc:α->Value) (w:World) (blk off:Nat) (d:Array α) {x:Nat} (hx:x≠blk):(putRow enc w blk off d).heap[x]? = w.heap[x]? := by
 have h:blk≠x:=fun e=>hx e.symm;simp [putRow,mapBlock,Array.getElem?_modify,h]
theorem turn_putRow {α:Type} [Inhabited α] (enc:α->Value) (w:World) (q blk off:Nat) (d:Array α):Turn (·=blk) w (putRow enc (Sort.ahead w q) blk off d):=
 ⟨rfl,rfl,rfl,by simp,fun x _ hn=>heap_putRow_other enc (Sort.ahead w q) blk off d hn⟩
theorem PtrRow.cell (h:PtrRow w g cbs) {k:Nat} (hk:k < cbs.length):w.cell? ⟨g,k,none⟩=some (ptrTo cbs[k]):=by
 have:=(h k (by simpa using hk)).1;rw [Nat.zero_add] at this;rw [this,getElem!_pos _ k (by simpa using hk)];simp [encP]
theorem PtrRow.kept (h:PtrRow w g cbs) (hb:w'.heap[g]? = w.heap[g]?):PtrRow w' g cbs:=by
 intro j hj;obtain ⟨h1,h2⟩:=h j hj;constructor
 ·rw [<- h1];unfold World.cell?;rw [hb]
 ·rw [<- h2];unfold World.frozen?;rw [hb]
theorem PtrRow.ofOwn {base:Nat} (hr:w.ownsRow base 206 1 (.slice (some ⟨g,0,none⟩) cbs.length cap) cbs.length (cbs.map ptrTo)):PtrRow w g cbs/\cbs.length<=cap/\cap<=maxLen/\base<=g:=by
 obtain ⟨hl,⟨h1,h2⟩ | ⟨g',cap',cur,he,hg,hh,hc,hm,hs,ht⟩⟩:=hr
 ·cases h1
 ·cases he;refine ⟨fun j hj=>?_,hc,hm,hg⟩;have hj':j < cbs.length:=by simpa using hj
  rw [Nat.zero_add];refine ⟨?_,cells_frozen hh _⟩;rw [cells_cell hh,getElem!_pos _ j hj];have h3:(cur.toList.take (cbs.length*1))[j]? = (cbs.map ptrTo)[j]? := by rw [ht]
  rw [List.getElem?_take_of_lt (by omega)] at h3;rw [<- Array.getElem?_toList,h3,List.getElem?_map,List.getElem?_eq_getElem hj'];simp [encP]
set_option maxHeartbeats 1000000 in
theorem delSrc_any (h:PtrRow w g cbs) (hc:cbs.length<=cap) (hm:cap<=maxLen) {k:Nat} (hk:k < cbs.length) :
 Calls Tryz.prog 226 #[.slice (some ⟨g,0,none⟩) cbs.length cap, .int .i64 (k:Int), .int .i64 ((k+1:Nat):Int)] w fun e w'=>
  e=.returned (.slice (some ⟨g,0,none⟩) (cbs.length - 1) cap)/\PtrRow w' g (cbs.eraseIdx k)/\Turn (·=g) w w':=by
 obtain ⟨i0,hi0,hz0,hz1,hz2⟩:=info_parts info_psource;have hsz:((cbs.map some).toArray).size=cbs.length:=by simp
 have:=AnyE.slices_Delete (P:=Tryz.prog) (ρ:=Tryz.delSrc_ren) { Tryz.delSrc with } encP (by intro x;cases x<;>rfl) none (fun w=>Tryz.zeroValue206 w) i0 hi0 hz1 g 0 cap k (k+1) (cbs.map some).toArray w h (by rw [hsz];exact hc) (by unfold maxLen at hm;omega) (by omega) (by rw [hsz];omega);rw [hsz] at this;refine Calls.mono this ?_;rintro e w' ⟨he,q,rfl⟩;refine ⟨by rw [he,show k+1 - k=1 by omega],?_,turn_putRow _ _ _ _ _ _⟩;have hd:((cbs.map some).toArray.toList.take k++(cbs.map some).toArray.toList.drop (k+1)++List.replicate (k+1 - k) none)=(cbs.eraseIdx k).map some++[none]:=by
  rw [show k+1 - k=1 by omega,List.eraseIdx_eq_take_drop_succ];simp
 rw [hd];have hh:=holds_putRow encP (Sort.ahead w q) g 0 (cbs.map some).toArray ((cbs.eraseIdx k).map some++[none]).toArray (holds_ahead encP w q g 0 _ h) (by simp [List.length_eraseIdx,hk];omega);intro j hj;have hj':j < (cbs.eraseIdx k).length:=by simpa using hj
 obtain ⟨h1,h2⟩:=hh j (by simp;omega);refine ⟨?_,h2⟩;rw [h1,getElem!_pos _ j (by simp;omega),getElem!_pos _ j hj];rw [List.getElem_toArray,List.getElem_toArray,List.getElem_append_left (by simpa using hj')]
theorem wpList_append_src {ops:Array Oper} {rest:List Oper} {op:Oper} {a:Act} {Q:Exit->Act->World->Prop} (hgd:op.guard=none) (s x:Operand) (ho:op.op=.call { callee:=.builtin .append,args:=#[s,x],argTypes:=#[301,301] }) (base:Nat) (v:Value) (l:List Nat) (hs:a.eval s=v) (hown:w.ownsRow base 206 1 v l.length (l.map ptrTo))
 (y:Nat) (c:Nat) (hx:a.eval x=.slice (some ⟨w.heap.size,0,none⟩) 1 c) (hl:l.length<=100000) (hbase:base<=w.heap.size)
 (k:∀ v' w',w'.ownsRow base 206 1 v' (l++[y]).length ((l++[y]).map ptrTo)->Appd v (w.alloc (.cells #[ptrTo y] 206)) w' v'->wpList Tryz.prog ops Q rest (a.put op.dst v') w') :
 wpList Tryz.prog ops Q (op::rest) a (w.alloc (.cells #[ptrTo y] 206)):=by
 refine wpList_append_at hgd s x 301 ho base 206 _ 1 8 Tryz.underlying301 info_psource rfl (by decide) v l.length (l.map ptrTo) hs (World.ownsRow.alloc hown _) ⟨w.heap.size,0,none⟩ 1 c [ptrTo y] hx rfl (fun j u hj=>?_) (by simp [ptrTo,Value.oneCell']) (by unfold maxLen;omega) (by omega) (by simp;omega) (fun v' w' h1 h2=>k v' w' ?_ h2)
 ·rw [Addr_add,Nat.zero_add];match j,hj with
  | 0,hj=>cases hj;simp
  | j+1,hj=>cases hj
 ·rw [List.map_append,List.length_append];exact h1
end
end
section
open Go.RowKit Go.Maps Go.MapKept
structure Src where
 cb:Nat
 sb:Nat
 name:Name
 es:List Edg
 pos:Nat
def Src.cur (s:Src):Edg:=(s.es[s.pos - 1]?).getD edg0
def Src.left (s:Src):List Edg:=s.es.drop (s.pos - 1)
def Src.step (s:Src):Src:={ s with pos:=s.pos+1 }
structure Src.Ok (s:Src):Prop where
 lo:1<=s.pos
 hi:s.pos<=s.es.length
theorem Src.left_eq {s:Src} (h:s.Ok):s.left=s.cur::s.es.drop s.pos:=by
 have h1:=h.lo;have h2:=h.hi;unfold Src.left Src.cur;rw [List.drop_eq_getElem_cons (by omega),show s.pos - 1+1=s.pos by omega,List.getElem?_eq_getElem (by omega)];rfl
theorem Src.step_left {s:Src}:s.step.left=s.es.drop s.pos:=by
 unfold Src.left Src.step;dsimp only;rw [Nat.add_sub_cancel]
def leftAll (l:List Src):List Edg:=(l.map Src.left).flatten
theorem leftAll_nil:leftAll []=[]:=rfl
theorem leftAll_append (a b:List Src):leftAll (a++b)=leftAll a++leftAll b:=by unfold leftAll;rw [List.map_append,List.flatten_append]
structure Taken (b:Bool) (all taken:List Edg) (l:List Src):Prop where
 perm:(taken++leftAll l).Perm all
 rise:taken.Pairwise (Ahead b)
 ahead:∀ x∈taken,∀ y∈leftAll l,Ahead b x y
 each:∀ s∈l,s.left.Pairwise (Ahead b)
 ok:∀ s∈l,s.Ok
theorem mem_leftAll {l:List Src} {x:Edg}:x∈leftAll l ↔ ∃ s∈l,x∈s.left:=by
 unfold leftAll;rw [List.mem_flatten];constructor
 ·rintro ⟨_,h1,h2⟩;obtain ⟨s,hs,rfl⟩:=List.mem_map.1 h1;exact ⟨s,hs,h2⟩
 ·rintro ⟨s,hs,h2⟩;exact ⟨_,List.mem_map.2 ⟨s,hs,rfl⟩,h2⟩
theorem Taken.least {b:Bool} {all taken:List Edg} {l:List Src} (h:Taken b all taken l) {k:Nat} (hk:k < l.length) (hmin:∀ s∈l,Ahead b l[k].cur s.cur):∀ y∈leftAll l,Ahead b l[k].cur y:=by
 intro y hy;obtain ⟨s,hs,hys⟩:=mem_leftAll.1 hy;have h1:=h.each s hs;rw [Src.left_eq (h.ok s hs)] at h1 hys;rcases List.mem_cons.1 hys with rfl | hys
 ·exact hmin s hs
 ·exact (hmin s hs).trans ((List.pairwise_cons.1 h1).1 y hys)
theorem set_split {α:Type} (l:List α) (k:Nat) (hk:k < l.length) (x:α):l.set k x=l.take k++x::l.drop (k+1):=by
 rw [List.set_eq_take_append_cons_drop,if_pos hk]
theorem Taken.go {b:Bool} {all taken:List Edg} {l l':List Src} (h:Taken b all taken l) {k:Nat} (hk:k < l.length) (hmin:∀ s∈l,Ahead b l[k].cur s.cur)
 (hl:leftAll l'=leftAll (l.take k)++(l[k].es.drop l[k].pos++leftAll (l.drop (k+1)))) (heach:∀ s∈l',s.left.Pairwise (Ahead b)) (hok:∀ s∈l',s.Ok):Taken b all (taken++[l[k].cur]) l':=by
 have hkm:l[k]∈l:=List.getElem_mem hk;have hle:=h.least hk hmin;have hsp:leftAll l=leftAll (l.take k)++(l[k].cur::(l[k].es.drop l[k].pos)++leftAll (l.drop (k+1))):=by
  conv=>lhs;rw [split_at hk]
  rw [leftAll_append];congr 1;show leftAll (l[k]::_)=_;unfold leftAll;rw [List.map_cons,List.flatten_cons,Src.left_eq (h.ok _ hkm)]
 have hp:(l[k].cur::leftAll l').Perm (leftAll l):=by
  rw [hl,hsp];exact List.perm_middle.symm
 refine ⟨?_,?_,?_,heach,hok⟩
 ·rw [List.append_assoc];refine List.Perm.trans (List.Perm.append_left taken ?_) h.perm;exact hp
 ·rw [List.pairwise_append];refine ⟨h.rise,List.pairwise_singleton _ _,fun x hx y hy=>?_⟩;rw [List.mem_singleton] at hy;subst hy;exact h.ahead x hx _ (hp.mem_iff.1 List.mem_cons_self)
 ·intro x hx y hy;have hy':y∈leftAll l:=hp.mem_iff.1 (List.mem_cons_of_mem _ hy);rcases List.mem_append.1 hx with hx | hx
  ·exact h.ahead x hx y hy'
  ·rw [List.mem_singleton] at hx;subst hx;exact hle y hy'
theorem Taken.step {b:Bool} {all taken:List Edg} {l:List Src} (h:Taken b all taken l) {k:Nat} (hk:k < l.length) (hmin:∀ s∈l,Ahead b l[k].cur s.cur) (hmore:l[k].pos < l[k].es.length) :
 Taken b all (taken++[l[k].cur]) (l.set k l[k].step):=by
 have hkm:l[k]∈l:=List.getElem_mem hk;have hsub:∀ s∈l.set k l[k].step,s∈l\/s=l[k].step:=fun s hs=>List.mem_or_eq_of_mem_set hs;refine h.go hk hmin ?_ ?_ ?_
 ·rw [set_split l k hk,leftAll_append];congr 1
 ·intro s hs;rcases hsub s hs with hs | rfl
  ·exact h.each s hs
  ·rw [Src.step_left];have:=h.each _ hkm;rw [Src.left_eq (h.ok _ hkm)] at this;exact (List.pairwise_cons.1 this).2
 ·intro s hs;rcases hsub s hs with hs | rfl
  ·exact h.ok s hs
  ·exact ⟨Nat.le_add_left _ _,hmore⟩
theorem Taken.gone {b:Bool} {all taken:List Edg} {l:List Src} (h:Taken b all taken l) {k:Nat} (hk:k < l.length) (hmin:∀ s∈l,Ahead b l[k].cur s.cur) (hend:l[k].es.length<=l[k].pos) :
 Taken b all (taken++[l[k].cur]) (l.eraseIdx k):=by
 refine h.go hk hmin ?_ (fun s hs=>h.each s (List.mem_of_mem_eraseIdx hs)) (fun s hs=>h.ok s (List.mem_of_mem_eraseIdx hs));rw [List.eraseIdx_eq_take_drop_succ,leftAll_append,List.drop_eq_nil_of_le hend,List.nil_append]
theorem Taken.done {b:Bool} {all taken:List Edg} (h:Taken b all taken []):putL taken=bestOf b all:=by
 have hp:=h.perm;rw [leftAll_nil,List.append_nil] at hp;exact ((best_putL h.rise).congr (fun x=>hp.mem_iff)).eq
theorem rise_ahead {b:Bool} {l:List Edg} (h:bestOf b l=l):l.Pairwise (Ahead b):=by
 have:=(best_bestOf b l).rise;rw [h] at this;exact this.imp (fun h=>.inl h)
end
section
open Go.RowKit Go.Maps Go.MapKept
section
variable {S:Nat->Prop} {w w':World} {pb db n base cb sb kb ksb g:Nat} {name out:Name} {o o':Owner} {d d':Dsk} {L L':Logic} {s:Src} {l:List Src}
theorem source_not_stream {i N sz sb':Nat} {x:Edg} (h:SourceAt w cb sb' i N x) (hs:StreamAt w sb pb name sz):sb≠cb:=by
 rintro rfl;obtain ⟨t,h1⟩:=h;obtain ⟨t',h2⟩:=hs;rw [h1] at h2;have:=Option.some.inj h2;injection this with a b;have:=congrArg Array.size a;simp at this
theorem sink_not_source {i N sb':Nat} {x:Edg} {res:List Edg} (h:SourceAt w cb sb' i N x) (hs:SinkOf w kb ksb res):kb≠cb:=by
 rintro rfl;obtain ⟨y,a,t',h2⟩:∃ y a,SinkAt w kb ksb y a:=by
  rcases hs with ⟨_,y,h⟩ | ⟨y,_,h⟩
  ·exact ⟨y,_,h⟩
  ·exact ⟨y,_,h⟩
 obtain ⟨t,h1⟩:=h;rw [h1] at h2;have:=Option.some.inj h2;injection this with a b;have:=congrArg Array.size a;simp at this
theorem sink_not_stream {sz:Nat} {res:List Edg} (h:StreamAt w sb pb name sz) (hs:SinkOf w kb ksb res):kb≠sb:=by
 rintro rfl;obtain ⟨y,a,t',h2⟩:∃ y a,SinkAt w kb ksb y a:=by
  rcases hs with ⟨_,y,h⟩ | ⟨y,_,h⟩
  ·exact ⟨y,_,h⟩
  ·exact ⟨y,_,h⟩
 obtain ⟨t,h1⟩:=h;rw [h1] at h2;have:=Option.some.inj h2;injection this with a b;have:=congrArg Array.size a;simp at this
structure SrcIn (w:World) (pb:Nat) (o:Owner) (L:Logic) (base:Nat) (out:Name) (s:Src):Prop where
 src:SourceAt w s.cb s.sb s.pos s.es.length s.cur
 str:StreamAt w s.sb pb s.name 20
 oc:o s.cb=none
 os:o s.sb=none
 bc:base<=s.cb
 bs:base<=s.sb
 file:∃ fl,mget L s.name=some (edgeFile s.es fl)
 nout:s.name≠out
theorem SrcIn.moved (h:SrcIn w pb o L base out s) (hm:Moved S n pb db w o d w' o' d' L') (h1:¬ S s.cb) (h2:¬ S s.sb) (hL:∀ x,x≠out->mget L' x=mget L x):SrcIn w' pb o' L' base out s where
 src:=h.src.kept (hm.block h.src.lt h.oc h1)
 str:=h.str.kept (hm.block h.str.lt h.os h2)
 oc:=hm.free h.src.lt h.oc
 os:=hm.free h.str.lt h.os
 bc:=h.bc
 bs:=h.bs
 file:=by rw [hL _ h.nout];exact h.file
 nout:=h.nout
theorem SrcIn.kept (h:SrcIn w pb o L base out s) (h1:w'.heap[s.cb]? = w.heap[s.cb]?) (h2:w'.heap[s.sb]? = w.heap[s.sb]?):SrcIn w' pb o L base out s where
 src:=h.src.kept h1
 str:=h.str.kept h2
 oc:=h.oc
 os:=h.os
 bc:=h.bc
 bs:=h.bs
 file:=h.file
 nout:=h.nout
structure SrcsIn (w:World) (pb:Nat) (o:Owner) (L:Logic) (base:Nat) (out:Name) (v:Value) (l:List Src):Prop where
 each:∀ s∈l,SrcIn w pb o L base out s
 apart:(l.map Src.cb).Nodup
 row:∀ x,v.ownBlock=some x->o x=none/\base<=x/\∀ s∈l,x≠s.cb/\x≠s.sb
theorem SrcsIn.nil:SrcsIn w pb o L base out (.slice none 0 0) []:=⟨(fun _ h=>nomatch h),List.Pairwise.nil,fun x hx=>by cases hx⟩
theorem SrcsIn.moved {v:Value} (h:SrcsIn w pb o L base out v l) (hm:Moved S n pb db w o d w' o' d' L') (hv:∀ x,v.ownBlock=some x->x < w.heap.size) (h1:∀ s∈l,¬ S s.cb/\¬ S s.sb) (hL:∀ x,x≠out->mget L' x=mget L x):SrcsIn w' pb o' L' base out v l where
 each:=fun s hs=>(h.each s hs).moved hm (h1 s hs).1 (h1 s hs).2 hL
 apart:=h.apart
 row:=fun x hx=>⟨hm.free (hv x hx) (h.row x hx).1,(h.row x hx).2⟩
theorem SrcsIn.below {v:Value} (h:SrcsIn w pb o L base out v l) (hb:Below w.heap.size w w'):SrcsIn w' pb o L base out v l where
 each:=fun s hs=>(h.each s hs).kept (hb.block _ (h.each s hs).src.lt) (hb.block _ (h.each s hs).str.lt)
 apart:=h.apart
 row:=h.row
theorem SrcsIn.idx {v:Value} (h:SrcsIn w pb o L base out v l) {i j:Nat} (hi:i < l.length) (hj:j < l.length) (hne:i≠j):l[i].cb≠l[j].cb:=by
 intro e;have h1:=h.apart;rw [List.nodup_iff_pairwise_ne,List.pairwise_iff_getElem] at h1;rcases Nat.lt_or_gt_of_ne hne with hlt | hlt
 ·exact h1 i j (by simpa using hi) (by simpa using hj) hlt (by simpa using e)
 ·exact h1 j i (by simpa using hj) (by simpa using hi) hlt (by simpa using e.symm)
theorem mem_set_apart {v:Value} (h:SrcsIn w pb o L base out v l) {k:Nat} (hk:k < l.length) {t:Src}:∀ s∈l.set k t,s=t\/(s∈l/\s.cb≠l[k].cb):=by
 intro s hs;obtain ⟨j,hj,rfl⟩:=List.getElem_of_mem hs;rw [List.length_set] at hj;rw [List.getElem_set];by_cases e:k=j
 ·left;rw [if_pos e]
 ·right;rw [if_neg e];exact ⟨List.getElem_mem _,h.idx hj hk (fun e'=>e e'.symm)⟩
theorem SrcsIn.step {v:Value} (h:SrcsIn w pb o L base out v l) {k:Nat} (hk:k < l.length) (hm:Moved (·=l[k].cb) n pb db w o d w' o' d' L) (hv:∀ x,v.ownBlock=some x->x < w.heap.size)
 (hs:SourceAt w' l[k].cb l[k].sb (l[k].pos+1) l[k].es.length l[k].step.cur):SrcsIn w' pb o' L base out v (l.set k l[k].step):=by
 have hkm:l[k]∈l:=List.getElem_mem hk;have hkI:=h.each _ hkm;have hcb:(l.set k l[k].step).map Src.cb=l.map Src.cb:=by
  apply List.ext_getElem
  ·simp
  ·intro i h1 h2;rw [List.getElem_map,List.getElem_map,List.getElem_set];split
   ·rename_i e;subst e;rfl
   ·rfl
 refine ⟨fun s hs'=>?_,by rw [hcb];exact h.apart,fun x hx=>⟨hm.free (hv x hx) (h.row x hx).1,(h.row x hx).2.1,fun s hs'=>?_⟩⟩
 ·rcases mem_set_apart h hk s hs' with rfl | ⟨h1,h2⟩
  ·exact ⟨hs,hkI.str.kept (hm.block hkI.str.lt hkI.os (source_not_stream hkI.src hkI.str)),hm.free hkI.src.lt hkI.oc,hm.free hkI.str.lt hkI.os,hkI.bc,hkI.bs,hkI.file,hkI.nout⟩
  ·exact (h.each s h1).moved hm h2 (source_not_stream hkI.src (h.each s h1).str) (fun _ _=>rfl)
 ·rcases mem_set_apart h hk s hs' with rfl | ⟨h1,h2⟩
  ·exact (h.row x hx).2.2 l[k] hkm
  ·exact (h.row x hx).2.2 _ h1
theorem SrcsIn.gone {v v':Value} (h:SrcsIn w pb o L base out v l) (k:Nat) (ht:Turn (fun x=>v.ownBlock=some x) w w') (hv:v'.ownBlock=v.ownBlock):SrcsIn w' pb o L base out v' (l.eraseIdx k):=by
 refine ⟨fun s hs=>?_,?_,fun x hx=>?_⟩
 ·have hs:=List.mem_of_mem_eraseIdx hs;have hI:=h.each s hs;exact hI.kept (ht.block _ hI.src.lt (fun e=>((h.row _ e).2.2 s hs).1 rfl)) (ht.block _ hI.str.lt (fun e=>((h.row _ e).2.2 s hs).2 rfl))
 ·exact List.Nodup.sublist ((List.eraseIdx_sublist _ _).map Src.cb) h.apart
 ·rw [hv] at hx;exact ⟨(h.row x hx).1,(h.row x hx).2.1,fun s hs=>(h.row x hx).2.2 s (List.mem_of_mem_eraseIdx hs)⟩
theorem SrcsIn.append {v v':Value} {ob:Obj} (h:SrcsIn w pb o L base out v l) (ha:Appd v (w.alloc ob) w' v') (hI:SrcIn w pb o L base out s) (hcb:∀ t∈l,t.cb≠s.cb) (hv:∀ x,v.ownBlock=some x->x < w.heap.size/\x≠s.cb/\x≠s.sb)
 (hfr:∀ x,w.heap.size<=x->o x=none) (hbase:base<=w.heap.size):SrcsIn w' pb o L base out v' (l++[s]):=by
 obtain ⟨hg,hb⟩:=ha;have hs:(w.alloc ob).heap.size=w.heap.size+1:=by simp
 have hk:∀ x,x < w.heap.size->v.ownBlock≠some x->w'.heap[x]? = w.heap[x]? := fun x hx hne=>
  (hg.block x (by omega) (fun e=>hne e.symm)).trans ((MapKept.heap_alloc w ob).2 x hx)
 have hall:∀ t∈l++[s],SrcIn w pb o L base out t/\∀ x,v.ownBlock=some x->x≠t.cb/\x≠t.sb:=fun t ht=>by
  rcases List.mem_append.1 ht with ht | ht
  ·exact ⟨h.each t ht,fun x hx=>(h.row x hx).2.2 t ht⟩
  ·rw [List.mem_singleton.1 ht];exact ⟨hI,fun x hx=>(hv x hx).2⟩
 refine ⟨fun t ht=>?_,?_,fun x hx=>?_⟩
 ·obtain ⟨h1,h2⟩:=hall t ht;exact h1.kept (hk _ h1.src.lt (fun e=>(h2 _ e).1 rfl)) (hk _ h1.str.lt (fun e=>(h2 _ e).2 rfl))
 ·rw [List.map_append,List.nodup_append];refine ⟨h.apart,by simp,fun a ha b hb e=>?_⟩;obtain ⟨t,ht,rfl⟩:=List.mem_map.1 ha;have:b=s.cb:=by simpa using hb
  exact hcb t ht (e.trans this)
 ·rcases hb with e | e
  ·rw [e] at hx;refine ⟨(h.row x hx).1,(h.row x hx).2.1,fun t ht=>(hall t ht).2 x hx⟩
  ·rw [e] at hx;cases hx;refine ⟨hfr _ (by omega),by omega,fun t ht=>?_⟩;have h1:=(hall t ht).1.src.lt;have h2:=(hall t ht).1.str.lt;constructor<;>omega
def SRow (w:World) (v:Value) (cbs:List Nat):Prop:=(v=.slice none 0 0/\cbs=[])\/∃ g cap,v=.slice (some ⟨g,0,none⟩) cbs.length cap/\cbs.length<=cap/\cap<=maxLen/\PtrRow w g cbs/\g < w.heap.size
theorem SRow.ofOwn {v:Value} {cbs:List Nat} (hr:w.ownsRow base 206 1 v cbs.length (cbs.map ptrTo)):SRow w v cbs:=by
 have hr':=hr;obtain ⟨hl,⟨h1,h2⟩ | ⟨g,cap,cur,rfl,hg,hh,hc,hm,hs,ht⟩⟩:=hr'
 ·exact .inl ⟨h1,List.eq_nil_of_length_eq_zero h2⟩
 ·obtain ⟨h1,h2,h3,h4⟩:=PtrRow.ofOwn hr;exact .inr ⟨g,cap,rfl,h2,h3,h1,(Array.getElem?_eq_some_iff.1 hh).1⟩
theorem SRow.ofNil {base:Nat}:w.ownsRow base 206 1 (.slice none 0 0) 0 ([]:List Value):=⟨rfl, .inl ⟨rfl,rfl⟩⟩
end
end
section
open Go.RowKit Go.Maps Go.MapKept
section
variable {S:Nat->Prop} {w w' w1 w2 w3 w4:World} {pb db n base cb sb kb ksb jb byb made g:Nat} {by':Bool} {name out nm:Name} {o o' o1 o2 o3:Owner} {d d' d1 d2 d3:Dsk} {L L':Logic} {l:List Src} {v v':Value}
theorem SrcsIn.opened (hl:SrcsIn w1 pb o1 L base out v l) (hv:∀ x,v.ownBlock=some x->x < w1.heap.size) (hm2:Moved (fun _=>False) n pb db w1 o1 d1 w2 o2 d2 L) (hm3:Moved (·=cb) n pb db w2 o2 d2 w3 o3 d3 L) (hbase:base<=w1.heap.size) (hcb:w1.heap.size<=cb) (hsb:w1.heap.size<=sb)
 {N:Nat} {x0:Edg} (hs2:SourceAt w2 cb sb 0 N x0) (hst:StreamAt w2 sb pb nm 20) (hoc:o2 cb=none) (hos:o2 sb=none) {es:List Edg} {x:Edg} {fl:Bool} (hs3:SourceAt w3 cb sb 1 es.length x) (hx:es[0]? = some x) (hf:mget L nm=some (edgeFile es fl)) (hno:nm≠out) {ob:Obj} (ha:Appd v (w3.alloc ob) w4 v') :
 SrcsIn w4 pb o3 L base out v' (l++[⟨cb,sb,nm,es,1⟩]):=by
 have hne:=source_not_stream hs2 hst;have hz2:w1.heap.size<=w2.heap.size:=hm2.size;have hz3:w2.heap.size<=w3.heap.size:=hm3.size;have h2:=hl.moved hm2 hv (fun _ _=>⟨fun h=>h,fun h=>h⟩) (fun _ _=>rfl);have h3:=h2.moved hm3 (fun y hy=>Nat.lt_of_lt_of_le (hv y hy) hz2) (fun s hs=>⟨fun e=>by have:=(hl.each s hs).src.lt;omega,fun e=>by have:=(hl.each s hs).str.lt;omega⟩) (fun _ _=>rfl);refine h3.append ha ⟨?_,hst.moved hm3 hos hne,hm3.free hs2.lt hoc,hm3.free hst.lt hos,Nat.le_trans hbase hcb,Nat.le_trans hbase hsb,⟨fl,hf⟩,hno⟩ (fun t ht e=>?_) (fun y hy=>⟨Nat.lt_of_lt_of_le (hv y hy) (by omega),?_,?_⟩) (fun y hy=>hm3.pool.fresh hy) (by omega)
 ·have:(Src.mk cb sb nm es 1).cur=x:=by
   unfold Src.cur;show (es[0]?).getD edg0=x;rw [hx];rfl
  rw [this];exact hs3
 ·have:=(hl.each t ht).src.lt;have e':t.cb=cb:=e;omega
 ·intro e;have e':y=cb:=e;have:=hv y hy;omega
 ·intro e;have e':y=sb:=e;have:=hv y hy;omega
theorem leftAll_one (s:Src):leftAll [s]=s.left:=by unfold leftAll;simp
theorem allOf_snoc {rs:List Run} {k:Nat} {p:Run} (h:rs[k]? = some p):allOf (rs.take (k+1))=allOf (rs.take k)++p.2:=by
 have hk:=lt_of_get h;rw [List.getElem?_eq_getElem hk] at h;rw [List.take_succ_eq_append_getElem hk,allOf_append,Option.some.inj h];simp [allOf]
def OpenHead (n pb db:Nat) (by':Bool) (w:World) (o:Owner) (d:Dsk) (L:Logic) (out:Name) (rs:List Run) (k:Nat) (v:Value) (wr:World):Prop:=
 ∃ (d':Dsk) (o':Owner) (l:List Src),Moved (fun _=>False) n pb db w o d wr o' d' L/\SrcsIn wr pb o' L w.heap.size out v l/\wr.ownsRow w.heap.size 206 1 v (l.map Src.cb).length ((l.map Src.cb).map ptrTo)/\leftAll l=allOf (rs.take k) /\
  (∀ s∈l,s.left.Pairwise (Ahead by'))/\(∀ s∈l,s.Ok)/\(l.map Src.cb).length<=k
def MergeHead (n pb db kb ksb:Nat) (by':Bool) (w:World) (o:Owner) (d:Dsk) (L:Logic) (out:Name) (all:List Edg) (left:Nat) (v:Value) (wr:World):Prop:=
 ∃ (d':Dsk) (o':Owner) (l:List Src) (taken:List Edg),Moved (fun _=>False) n pb db w o d wr o' d' (mput L out (edgeFile (putL taken) false))/\SrcsIn wr pb o' (mput L out (edgeFile (putL taken) false)) w.heap.size out v l/\SRow wr v (l.map Src.cb)/\Taken by' all taken l /\
  SinkOf wr kb ksb (putL taken)/\StreamAt wr ksb pb out 20/\o' kb=none/\o' ksb=none/\(∀ x,v.ownBlock=some x->x≠kb/\x≠ksb)/\left=(leftAll l).length
def MergePost (n pb db:Nat) (w:World) (o:Owner) (d:Dsk) (L:Logic) (out:Name) (ns:List Name) (best:List Edg) (N:Nat) (e:Ending) (w':World):Prop:=
 ∃ c d' o' L',e=.returned (.int .i64 ((c:Nat):Int))/\Moved (fun _=>False) n pb db w o d w' o' d' L'/\(∀ x,x≠out->x ∉ ns->mget L' x=mget L x)/\((c=0/\L'=ns.foldl mdel (mput L out (edgeFile best false)))\/ErrN d d' (need L+4*N) c)
theorem SrcsIn.cells (h:SrcsIn w pb o L base out v l) (hr:PtrRow w g (l.map Src.cb)) {k:Nat} {s:Src} (hk:l[k]? = some s) :
 w.cell? ⟨g,k,none⟩=some (ptrTo s.cb)/\w.cell? ⟨s.cb,3,none⟩=some (.int .u32 (s.cur.t.toNat:Int))/\w.cell? ⟨s.cb,4,none⟩=some (.int .u32 (s.cur.h.toNat:Int))/\w.cell? ⟨s.cb,5,none⟩=some (.int .u64 (s.cur.x.toNat:Int))/\w.cell? ⟨s.cb,6,none⟩=some (.int .u32 (s.cur.m.toNat:Int)):=by
 have hl:=lt_of_get hk;rw [List.getElem?_eq_getElem hl] at hk;obtain rfl:=Option.some.inj hk;have h1:=hr.cell (k:=k) (by simpa using hl);rw [List.getElem_map] at h1;obtain ⟨-,⟨h3,h4,h5,h6⟩,-⟩:=(h.each _ (List.getElem_mem hl)).src.cells;exact ⟨h1,h3,h4,h5,h6⟩
theorem need_out {es:List Edg} (hno:mget L out=none):need (mput L out (edgeFile es false))<=need L+4*es.length:=by
 rw [need_mput_fresh _ hno];have:=edgeFile_need es false;omega
theorem Taken.len {b:Bool} {all taken:List Edg} (h:Taken b all taken l):taken.length+(leftAll l).length=all.length:=by
 rw [<- List.length_append];exact h.perm.length_eq
end
end
end Go.Proofs.YthkkgdpomhhjjaaGreatDoor
