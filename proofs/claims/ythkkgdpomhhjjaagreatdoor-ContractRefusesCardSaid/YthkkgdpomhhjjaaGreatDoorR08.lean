/-
  Joined.
-/
import Derived.Test.YthkkgdpomhhjjaaGreatDoorR07
import Derived.Laws.Externs
import Derived.BigQuiet
import Derived.Below
namespace Go.Proofs.YthkkgdpomhhjjaaGreatDoor
section
open Go.RowKit
theorem add64_run (x y:Nat) (w:World):(callFunc 241 #[.int .u64 (x:Int), .int .u64 (y:Int), .int .u64 0]).run Tryz.prog w=.ok (.value (.tuple #[.int .u64 (((x+y) % 18446744073709551616:Nat):Int), .int .u64 (((x+y) / 18446744073709551616:Nat):Int)])) w:=by
 rw [run_callFunc_extern Tryz.func241 (by kernel_rfl) (by kernel_rfl) (by kernel_rfl) (e:=add64Entry) (by kernel_rfl),run_add64 x y 0 (by omega) (by omega) (by omega) (by omega)];simp only [Result.andThen];congr 5<;>omega
def addV (x y:Nat):Value:=if x+y < 9223372036854775808 then .tuple #[.int .u64 ((x+y:Nat):Int), .bool true] else .tuple #[.int .u64 0, .bool false]
set_option maxHeartbeats 1000000 in
theorem wAdd_any (x y:Nat) (hx:x < 18446744073709551616) (hy:y < 18446744073709551616) (w:World):Calls Tryz.prog 201 #[.int .u64 (x:Int), .int .u64 (y:Int)] w fun e w'=>e=.returned (addV x y)/\w'=w:=by
 have hr:=add64_run x y;by_cases h:x+y < 9223372036854775808
 ·rw [Nat.mod_eq_of_lt (by omega),Nat.div_eq_of_lt (by omega)] at hr;have HV:Hid (addV x y=.tuple #[.int .u64 ((x+y:Nat):Int), .bool true]):=Lib.hid (if_pos h);obtain ⟨s,hs⟩:∃ s,s=x+y:=⟨_,rfl⟩;rw [<- hs] at h hr HV;have h1:¬ (s:Int) >= 9223372036854775808:=by omega
  have h2:decide ((s:Int) >= 9223372036854775808)=false:=decide_eq_false h1;clear hs hx hy;go_enter Tryz.func201,Tryz.ntmps201
  go_wp2_with (simp only [hr])
  go_returns
  exact ⟨by rw [HV.out];rfl,rfl⟩
 ·have HV:Hid (addV x y=.tuple #[.int .u64 0, .bool false]):=Lib.hid (if_neg h);by_cases h3:x+y < 18446744073709551616
  ·rw [Nat.mod_eq_of_lt h3,Nat.div_eq_of_lt h3] at hr;obtain ⟨s,hs⟩:∃ s,s=x+y:=⟨_,rfl⟩;rw [<- hs] at h hr;have h1:(s:Int) >= 9223372036854775808:=by omega
   have h2:decide ((s:Int) >= 9223372036854775808)=true:=decide_eq_true h1;clear hs hx hy h3;go_enter Tryz.func201,Tryz.ntmps201
   go_wp2_with (simp only [hr])
   go_returns
   exact ⟨by rw [HV.out];rfl,rfl⟩
  ·rw [show (x+y) / 18446744073709551616=1 by omega] at hr;generalize (x+y) % 18446744073709551616=s at *;clear h3 h hx hy;go_enter Tryz.func201,Tryz.ntmps201
   go_wp2_with (simp only [hr])
   go_returns
   exact ⟨by rw [HV.out];rfl,rfl⟩
def clamp (lo x hi:Int):Int:=min (max lo x) hi
theorem clamp_lo (lo x hi:Int) (h:lo<=hi):lo<=clamp lo x hi:=by unfold clamp;omega
theorem clamp_hi (lo x hi:Int):clamp lo x hi<=hi:=by unfold clamp;omega
set_option maxHeartbeats 400000 in
theorem prioCut_any (lo x hi:Int) (w:World) :
 Calls Tryz.prog 147 #[.int .i64 lo, .int .i64 x, .int .i64 hi] w fun e w'=>e=.returned (.int .i64 (clamp lo x hi))/\w'=w:=by
 unfold clamp;go_enter Tryz.func147,Tryz.ntmps147
 go_wp2;all_goals
  go_ret;exact ⟨ret_int (by omega),rfl⟩
def keyP (i o s l g:Int):Int:=max 0 (1048576+2*clamp 0 s 1073741824+g+l - clamp 0 i 1073741824 - clamp 0 o 1073741824)
set_option maxHeartbeats 400000 in
theorem prioSum_any (b:Nat) (x0 x1 x2 x3 x4 x5:Int) (w:World)
 (h0:w.cell? ⟨b,0,none⟩=some (.int .i64 x0)) (h1:w.cell? ⟨b,1,none⟩=some (.int .i64 x1)) (h2:w.cell? ⟨b,2,none⟩=some (.int .i64 x2))
 (h3:w.cell? ⟨b,3,none⟩=some (.int .i64 x3)) (h4:w.cell? ⟨b,4,none⟩=some (.int .i64 x4)) (h5:w.cell? ⟨b,5,none⟩=some (.int .i64 x5))
 (b0:0<=x0/\x0<=4294967296) (b1:0<=x1/\x1<=4294967296) (b2:0<=x2/\x2<=4294967296) (b3:0<=x3/\x3<=4294967296) (b4:-4294967296<=x4/\x4<=4294967296) (b5:-4294967296<=x5/\x5<=4294967296) :
  Calls Tryz.prog 146 #[.slice (some ⟨b,0,none⟩) 6 6] w fun e w'=>e=.returned (.int .i64 (x0+x1+x2+x3+x4+x5))/\w'=w:=by
 obtain ⟨b0,b0'⟩:=b0;obtain ⟨b1,b1'⟩:=b1;obtain ⟨b2,b2'⟩:=b2;obtain ⟨b3,b3'⟩:=b3;obtain ⟨b4,b4'⟩:=b4;obtain ⟨b5,b5'⟩:=b5;go_enter Tryz.func146,Tryz.ntmps146
 go_wp2;refine wp_loop_rounds 7 ?_;iterate 7 (rw [rounds_succ];go_wp2)
 go_ret;exact ⟨rfl,rfl⟩
theorem clamp_bd (x:Int):0<=clamp 0 x 1073741824/\clamp 0 x 1073741824<=1073741824:=⟨clamp_lo _ _ _ (by decide),clamp_hi _ _ _⟩
set_option maxHeartbeats 400000 in
theorem prioKey_any (i o s r l g:Int) (w:World) (hl:0<=l) (hl':l<=4294967295) (hg:0<=g) (hg':g<=4294967295) :
 Calls Tryz.prog 99 #[.int .i64 i, .int .i64 o, .int .i64 s, .agg #[.int .u32 r, .int .u32 l, .int .u32 g]] w
  fun e w'=>e=.returned (.int .u64 (keyP i o s l g))/\Below w.heap.size w w':=by
 obtain ⟨i0,i1⟩:=clamp_bd i;obtain ⟨o0,o1⟩:=clamp_bd o;obtain ⟨s0,s1⟩:=clamp_bd s;go_enter Tryz.func99,Tryz.ntmps99
 go_wp2;refine wp_region_quiet_tail (fun w'=>∃ n,w'=(w.alloc (.cells #[.int .u32 r, .int .u32 l, .int .u32 g] 55)).drewN n) 15 (by kernel_rfl) (by kernel_rfl) ⟨1,rfl⟩ ?_;simp only [List.take_succ_cons,List.take_zero,List.drop_succ_cons,List.drop_zero];repeat go_big_quiet_step ((go_at_call 147;exact Calls.quiet_of_same (prioCut_any _ _ _ _)))
 refine wpQuiet_nil ?_;rintro _ ⟨nq,rfl⟩;go_wp2_with fail
 refine (prioSum_any _ 1048576 (2*clamp 0 s 1073741824) g l (-clamp 0 i 1073741824) (-clamp 0 o 1073741824) _ (by go_simp) (by go_simp) (by go_simp) (by go_simp) (by go_simp) (by go_simp) ⟨by omega,by omega⟩ ⟨by omega,by omega⟩ ⟨by omega,by omega⟩ ⟨by omega,by omega⟩ ⟨by omega,by omega⟩ ⟨by omega,by omega⟩).mono ?_;rintro e w' ⟨rfl,rfl⟩;go_wp2;all_goals
  go_ret;refine ⟨?_,?_⟩
  ·exact ret_int (by unfold keyP;omega)
  ·exact (below_drewN ((Below.refl _ _).alloc (Nat.le_refl _) _) _).alloc (by simp [World.drewN]) _
end
section
open Go.RowKit Go.Maps Go.MapKept
section
variable {S:Nat->Prop} {w w':World} {pb db n cb kb sb jb byb made:Nat} {by':Bool} {name:Name} {o o':Owner} {d d':Dsk} {L L':Logic}
set_option maxHeartbeats 1000000 in
theorem poolFrames_any (h:PoolAt w pb db n o d L):Calls Tryz.prog 44 #[ptrTo pb] w fun e w'=>e=.returned (.int .i64 (n:Int))/\w=w':=by
 obtain ⟨fb,mb,l,hand,mf,hp,rfl,-⟩:=h;obtain ⟨⟨-,hc1,-⟩,-⟩:=hp.head.cells;have hm:=hp.most;clear hp;unfold ptrTo;generalize l.length=n at *;go_enter Tryz.func44,Tryz.ntmps44
 go_wp2;go_ret;exact ⟨rfl,rfl⟩
theorem StreamAt.ofMoved (hst:StreamAt w sb pb name 20) (hm:Moved S n pb db w o d w' o' d' L') (ho:o sb=none) (hs:¬ S sb):StreamAt w' sb pb name 20:=hst.moved hm ho hs
def srcLeft (w:World) (cb N:Nat):Nat:=N - (intOf ((w.cell? ⟨cb,1,none⟩).getD undef)).toNat
theorem srcLeft_at {i N:Nat} {x:Edg} (h:SourceAt w cb sb i N x):srcLeft w cb N=N - i:=by
 unfold srcLeft;rw [h.cells.1.2.1];simp [intOf]
def nmOf (many:Bool) (out:Name) (r:Nat):Name:=if many then tName r else out
def RunsHead (n pb db jb byb cb sb:Nat) (by':Bool) (w:World) (o:Owner) (d:Dsk) (L:Logic) (out:Name) (es:List Edg) (most:Nat) (many:Bool) (v:Value) (wr:World):Prop:=
 ∃ (rs:List Run) (i:Nat) (d':Dsk) (o':Owner) (x0:Edg),Moved (fun x=>x=cb\/x=jb) n pb db w o d wr o' d' (runsL rs L)/\JobAt wr jb pb byb (if many=true then rs.length else 0) by'/\SourceAt wr cb sb i es.length x0 /\
  wr.ownsRow w.heap.size 9 1 v rs.length ((rs.map (·.1)).map Value.string)/\(∀ x,v.ownBlock=some x->o' x=none)/\rs.map (·.1)=(List.range rs.length).map (nmOf many out)/\i=min es.length (rs.length*most) /\
  (∀ p∈rs,bestOf by' p.2=p.2)/\bestOf by' (allOf rs)=bestOf by' (es.take i)/\lens rs<=i/\(many=false->rs.length<=1)/\(0 < rs.length->0 < es.length)/\rs.length<=51
def RunsPost (n pb db jb byb cb:Nat) (by':Bool) (w:World) (o:Owner) (d:Dsk) (L:Logic) (out:Name) (es:List Edg) (e:Ending) (w':World):Prop:=
 ∃ v c d' o' L',e=.returned (.tuple #[v, .int .i64 ((c:Nat):Int)])/\Moved (fun x=>x=cb\/x=jb) n pb db w o d w' o' d' L'/\(∀ x,¬ ofSort out x->mget L' x=mget L x) /\
  ((c=0/\∃ rs r,L'=runsL rs L/\RunsOk by' es rs/\((∃ x,rs=[(out,x)])\/(2<=rs.length/\48 < es.length/\∀ p∈rs,∃ k,k < r/\p.1=tName k))/\r<=rs.length/\rs.length<=51/\JobAt w' jb pb byb r by'/\NameRow w' v (rs.map (·.1))/\∀ b,v.ownBlock=some b->o' b=none/\w.heap.size<=b)\/ErrN d d' (need L+8*es.length) c)
theorem range_names (many:Bool) (out:Name) (r:Nat) (h1:many=false->r<=1) :
 ((List.range r).map (nmOf many out)).Nodup/\(r<=51->∀ x∈(List.range r).map (nmOf many out),ofSort out x):=by
 constructor
 ·cases many with
  | true=>exact List.pairwise_map.2 (List.nodup_range.imp (fun {a b} h e=>h (tName_inj e)))
  | false=>
    have:=h1 rfl;match r,this with
    | 0,_=>exact List.Pairwise.nil
    | 1,_=>exact List.pairwise_singleton _ _
 ·intro hr x hx;obtain ⟨k,hk,rfl⟩:=List.mem_map.1 hx;rw [List.mem_range] at hk;cases many with
  | true=>exact .inr ⟨k,by omega,rfl⟩
  | false=>exact .inl rfl
theorem next_fresh (many:Bool) (out:Name) (r:Nat) (h1:many=false->r=0):nmOf many out r ∉ (List.range r).map (nmOf many out):=by
 intro hx;obtain ⟨k,hk,e⟩:=List.mem_map.1 hx;rw [List.mem_range] at hk;cases many with
 | true=>have:=tName_inj e;omega
 | false=>have:=h1 rfl;omega
set_option maxRecDepth 100000 in
set_option maxHeartbeats 16000000 in
theorem jobRuns_any (HW:WriteSaid) {m:Nat} (HS:SortSaid m) (h:PoolAt w pb db n o d L) (hn:8<=n) (hj:JobAt w jb pb byb 0 by') (hoj:o jb=none) (hob:o byb=none) (hne:byb≠jb)
 {es:List Edg} {fl:Bool} {inn out:Name} {x0:Edg} (hL:mget L inn=some (edgeFile es fl)) (hsrc:SourceAt w cb sb 0 es.length x0) (hst:StreamAt w sb pb inn 20) (hoc:o cb=none) (hos:o sb=none) (hcj:cb≠jb) (hcb:cb≠byb) (hsj:sb≠jb) (hsc:sb≠cb)
 (hout:okName out=true) (hno:mget L out=none) (hnt:∀ k,mget L (tName k)=none) (hto:∀ k,out≠tName k) (hm:es.length<=m) (hN:es.length<=2400) :
 Calls Tryz.prog 177 #[ptrTo jb,ptrTo cb, .string out] w (RunsPost n pb db jb byb cb by' w o d L out es):=by
 have hn2:n<=4096:=by
  obtain ⟨fb,mb,l,hand,mf,hp,rfl,-⟩:=h;exact hp.most
 have hframes:=Lib.hid (poolFrames_any h);have hnext:Hid (∀ W o' d' rs i x0,Moved (fun x=>x=cb\/x=jb) n pb db w o d W o' d' (runsL rs L)->(∀ x∈rs.map (·.1),ofSort out x)->SourceAt W cb sb i es.length x0->∀ x,es[i]? = some x->Calls Tryz.prog 221 #[ptrTo cb] W (NextPost n pb db W o' d' (runsL rs L) cb sb i es.length x)):=Lib.hid (fun W o' d' rs i x0 hmv hrs hs x hx=>by
  have hi:=lt_of_get hx;rw [List.getElem?_eq_getElem hi] at hx;obtain rfl:=Option.some.inj hx;refine sourceNext_in HW hmv.pool (hst.ofMoved hmv hos (fun e=>e.elim hsc hsj)) (hmv.free hst.lt hos) hs (hmv.free hsrc.lt hoc) (fl:=fl) ?_ hi;rw [runsL_other,hL];intro hx;rcases hrs _ hx with e | ⟨k,_,e⟩
  ·rw [e,hno] at hL;cases hL
  ·rw [e,hnt] at hL;cases hL)
 have hwrite:Hid (∀ W o' d' made rs nm,Moved (fun x=>x=cb\/x=jb) n pb db w o d W o' d' (runsL rs L)->JobAt W jb pb byb made by'->okName nm=true->mget (runsL rs L) nm=none->∀ (v:Value) (c:List Edg),ownsEdges W w.heap.size v c->(∀ x,v.ownBlock=some x->o' x=none/\w.heap.size<=x)->c.length<=es.length ->
  Calls Tryz.prog 222 #[ptrTo jb, .string nm,v] W (MadePost (fun x=>v.ownBlock=some x) n pb db W o' d' (runsL rs L) nm (bestOf by' c) (need (runsL rs L)+4*c.length))):=Lib.hid (fun W o' d' made rs nm hmv hjW hok hno' v c hv hvo hc=>
  jobWrite_any HW HS hmv.pool hjW (hmv.free hj.lt.1 hoj) (hmv.free hj.lt.2 hob) hok hno' hv (fun x hx=>⟨(hvo x hx).1,by have:=(hvo x hx).2;have:=hj.lt.1;omega,by have:=(hvo x hx).2;have:=hj.lt.2;omega⟩) (by omega) (by omega))
 have H:=Lib.hid h;have HJ:=Lib.hid hj;have HSRC:=Lib.hid hsrc;have HOJ:=Lib.hid hoj;have HOB:=Lib.hid hob;have HNE:=Lib.hid hne;have HOC:=Lib.hid hoc;have HCJ:=Lib.hid hcj;have HCB:=Lib.hid hcb;have HNO:=Lib.hid hno;have HNT:=Lib.hid hnt;have HTO:=Lib.hid hto;have HOUT:=Lib.hid hout;have hjl:=hj.lt.1;have hbl:=hj.lt.2;have hcl:=hsrc.lt;obtain ⟨hj0,-⟩:=hj.cells;obtain ⟨⟨-,hs1,hs2⟩,-⟩:=hsrc.cells;clear h hj hoj hob hL hsrc hst hoc hos hsj hsc hout hno hnt hto hm hne hcj hcb hs1;unfold ptrTo at *;generalize hNN:es.length=N at *;have HNN:=Lib.hid hNN;clear hNN;have hw1:IntKind.i64.wrap ((n:Int) - 4)=(n:Int) - 4:=wrap_in (by omega) (by omega);have hw2:IntKind.i64.wrap (((n:Int) - 4)*12)=((n:Int) - 4)*12:=wrap_in (by omega) (by omega);obtain ⟨M,hM⟩:∃ M:Nat,(M:Int)=((n:Int) - 4)*12:=⟨(n - 4)*12,by omega⟩;have hM48:48<=M/\M<=49104:=by omega
 rw [<- hM] at hw2;have HM:=Lib.hid hM;clear hM;by_cases hNM:N<=M
 ·have hle: ((N:Int)<=((n:Int) - 4)*12):=by have:=HM.out;omega
  have hled:decide ((N:Int)<=((n:Int) - 4)*12)=true:=by exact decide_eq_true hle
  have HNM:=Lib.hid hNM;clear hNM;go_enter Tryz.func177,Tryz.ntmps177
  go_wp2_with fail
  refine hframes.out.mono ?_;rintro e w' ⟨rfl,rfl⟩;go_wp2;try rw [<- HM.out]
  go_loopw [9] (fun v wr=>RunsHead n pb db jb byb cb sb by' w o d L out es N false v wr) (fun _ wr=>srcLeft wr cb N)
  case atStart=>exact ⟨[],0,d,o,x0,Moved.refl _ H.out,HJ.out,by rw [HNN.out];exact HSRC.out,World.ownsRow_nil w _ _ 1,(fun x hx=>by cases hx),rfl,by simp,(fun p hp=>by cases hp),by simp [allOf],Nat.zero_le _,(fun _=>Nat.zero_le _),(fun hh=>absurd hh (Nat.lt_irrefl 0)),Nat.zero_le _⟩
  case round=>
   generalize u9=v at *;generalize wr=wr1 at *;obtain ⟨rs,i,d1,o1,x1,hm1,hj1,hs1,hv1,hf1,hnm1,hi1,hb1,hall1,hlen1,hone1,hpos1,hr51⟩:=hrel;have HR51:=Lib.hid hr51;rw [HNN.out] at hs1 hi1 hpos1;have HM1:=Lib.hid hm1;have HJ1:Hid (JobAt wr1 jb pb byb 0 by'):=Lib.hid hj1;have HS1:=Lib.hid hs1;have HV1:=Lib.hid hv1;have HVF1:=Lib.hid hf1;have HNM1:=Lib.hid hnm1;have HI1:=Lib.hid hi1;have HB1:=Lib.hid hb1;have HALL1:=Lib.hid hall1;have HLEN1:=Lib.hid hlen1;have HONE1:Hid (rs.length<=1):=Lib.hid (hone1 rfl);have HPOS1:=Lib.hid hpos1;have hiN0:i<=N:=by omega
   have HNS:Hid (∀ x∈rs.map (·.1),ofSort out x):=Lib.hid (by rw [hnm1];exact (range_names false out rs.length hone1).2 hr51);have HOTH:Hid (∀ x,¬ ofSort out x->mget (runsL rs L) x=mget L x):=Lib.hid (fun x hx=>runsL_other _ _ _ (fun hmem=>hx (HNS.out x hmem)));have HND:Hid (need (runsL rs L)<=need L+8*N):=Lib.hid (by have:=runsL_need rs L;omega);have hsz1:w.heap.size<=wr1.heap.size:=hm1.size;clear hm1 hj1 hs1 hv1 hf1 hnm1 hi1 hb1 hall1 hlen1 hone1 hpos1 hr51;go_wp2;go_loopw [10] (fun l wr2=>∃ (k:Nat) (d':Dsk) (o':Owner) (x:Edg),k<=N/\i+k<=N/\Moved (fun x=>x=cb\/x=jb) n pb db w o d wr2 o' d' (runsL rs L)/\JobAt wr2 jb pb byb 0 by'/\SourceAt wr2 cb sb (i+k) N x/\wr2.ownsRow w.heap.size 9 1 v rs.length ((rs.map (·.1)).map Value.string)/\(∀ x,v.ownBlock=some x->o' x=none)/\ownsEdges wr2 w.heap.size l ((es.drop i).take k)/\(∀ x,l.ownBlock=some x->o' x=none)) (fun _ wr2=>srcLeft wr2 cb N)
   case atStart=>exact ⟨0,d1,o1,x1,Nat.zero_le _,hiN0,HM1.out,HJ1.out,HS1.out,HV1.out,HVF1.out,World.ownsRow_nil _ _ _ 4,fun x hx=>by cases hx⟩
   case round=>
    generalize u10=l at *;generalize wr=wr2 at *;obtain ⟨k,d2,o2,x2,hk2,hik2,hm2,hj2,hs2q,hv2,hvf2,hl2,hlf2⟩:=hrel;have HM2:=Lib.hid hm2;have HJ2:=Lib.hid hj2;have HS2:=Lib.hid hs2q;have HV2:=Lib.hid hv2;have HVF2:=Lib.hid hvf2;have HL2:=Lib.hid hl2;have HLF2:=Lib.hid hlf2;have hkl:((es.drop i).take k).length=k:=by rw [List.length_take,List.length_drop,HNN.out];omega
    have hsz2:w.heap.size<=wr2.heap.size:=hm2.size;have HML2:Hid (srcLeft wr2 cb N=N - (i+k)):=Lib.hid (srcLeft_at hs2q);clear hm2 hj2 hs2q hv2 hvf2 hl2 hlf2;by_cases hlt:k < N
    ·obtain ⟨la,lc,rfl⟩:∃ a cap,l=.slice a k cap:=by
      rcases ownsEdges_shape HL2.out with ⟨h1,h2⟩ | ⟨g,cap,h1,_⟩
      ·rw [h1] at hkl;subst h2;exact ⟨none,0,by rw [<- hkl];rfl⟩
      ·rw [hkl] at h1;exact ⟨_,_,h1⟩
     have HKL:=Lib.hid hkl;clear hkl;by_cases hin:i+k < N
     ·have hxi:i+k < es.length:=by rw [HNN.out];exact hin
      obtain ⟨y,hy⟩:∃ y,es[i+k]? = some y:=⟨_,List.getElem?_eq_getElem hxi⟩;have HTK:Hid ((es.drop i).take (k+1)=(es.drop i).take k++[y]):=Lib.hid (by
       have hkd:k < (es.drop i).length:=by rw [List.length_drop];omega
       rw [List.take_succ_eq_append_getElem hkd];congr 2;rw [List.getElem_drop];rw [List.getElem?_eq_getElem hxi] at hy;exact Option.some.inj hy)
      have hcallx:=Lib.hid (hnext.out wr2 o2 d2 rs (i+k) x2 HM2.out HNS.out HS2.out y hy);clear hxi hy;go_wp2_with fail
      refine hcallx.out.mono ?_;rintro e w3 ⟨c3,d3,o3,rfl,hm3,he3,hs3⟩;have HM3:=Lib.hid (HM2.out.trans hm3 (fun x _ e=>.inl e));have HJ3:Hid (JobAt w3 jb pb byb 0 by'):=Lib.hid (HJ2.out.kept (hm3.block HJ2.out.lt.1 (HM2.out.free hjl HOJ.out) (fun e=>HCJ.out e.symm)) (hm3.block HJ2.out.lt.2 (HM2.out.free hbl HOB.out) (fun e=>HCB.out e.symm)));have HV3:Hid (w3.ownsRow w.heap.size 9 1 v rs.length ((rs.map (·.1)).map Value.string)):=Lib.hid (hm3.ownsRow HV2.out (fun b hb=>⟨HVF2.out b hb,fun e=>by have:=ownsRow_block HV2.out b hb;omega⟩));have HVF3:Hid (∀ x,v.ownBlock=some x->o3 x=none):=Lib.hid (fun x hx=>hm3.free (ownBlock_old HV2.out x hx).1 (HVF2.out x hx));have HL3:Hid (ownsEdges w3 w.heap.size (.slice la k lc) ((es.drop i).take k)):=Lib.hid (hm3.ownsRow HL2.out (fun b hb=>⟨HLF2.out b hb,fun e=>by have:=ownsRow_block HL2.out b hb;omega⟩));have HLF3:Hid (∀ x,(Value.slice la k lc).ownBlock=some x->o3 x=none):=Lib.hid (fun x hx=>hm3.free (ownBlock_old HL2.out x hx).1 (HLF2.out x hx));have HS3:=Lib.hid hs3;have hsz3:w.heap.size<=w3.heap.size:=HM3.out.size;by_cases hc3:c3=0
      ·subst hc3;have HS3':=Lib.hid (HS3.out rfl);obtain ⟨-,⟨k0,k1,k2,k3⟩,-⟩:=HS3'.out.cells;clear HS3;clear hm3 he3 hs3 hcallx;have hkl3:((es.drop i).take k).length<=100000:=by rw [HKL.out];omega
       go_wp2_with (at_builtin;refine wpList_append_edge rfl _ _ rfl w.heap.size _ _ rfl HL3.out y 1 rfl hkl3 hsz3 ?_)
       intro l4 w4 hl4 ha4;obtain ⟨hm4,hlf4,hh4,hz4⟩:=ha4.moved HM3.out (fun x hx=>⟨HLF3.out x hx,ownsRow_block HL3.out x hx⟩);have HM4:=Lib.hid hm4;have HNL:Hid (∀ x,x < w.heap.size->w4.heap[x]? = w3.heap[x]?):=Lib.hid (fun x hx=>hh4 x (by omega) (fun e=>by have:=ownsRow_block HL3.out x e;omega));have HJ4:Hid (JobAt w4 jb pb byb 0 by'):=Lib.hid (HJ3.out.kept (HNL.out jb hjl) (HNL.out byb hbl));have HS4:Hid (SourceAt w4 cb sb (i+(k+1)) N y):=Lib.hid (HS3'.out.kept (HNL.out cb hcl));have HV4:Hid (w4.ownsRow w.heap.size 9 1 v rs.length ((rs.map (·.1)).map Value.string)):=Lib.hid (ownsRow_heap HV3.out (fun x hx=>hh4 x (ownBlock_old HV3.out x hx).1 (fun e=>ownsRow_apart HV3.out HL3.out (by decide) x hx e)));rw [<- HTK.out] at hl4;have HL4:=Lib.hid hl4;have HLF4:=Lib.hid hlf4;clear hm4 hlf4 hh4 ha4 hl4 k0 k1 k2 k3;go_wp2;go_roundw
       case rel=>exact ⟨k+1,d3,o3,y,by omega,by omega,HM4.out,HJ4.out,HS4.out,HV4.out,HVF3.out,HL4.out,fun x hx=>(HLF4.out x hx).1⟩
       case measure=>rw [HML2.out,srcLeft_at HS4.out];omega
      ·have hc3':¬ (c3:Int)=0:=by omega
       have HE3:=Lib.hid (((he3.resolve_left hc3).num HND.out).later HM2.out.on.quota);have hbq:(c3 == 0)=false:=by simpa using hc3
       clear hm3 he3 hs3 hcallx hc3;go_wp2;go_ret2
       exact ⟨_,c3,d3,o3,_,rfl,HM3.out,HOTH.out, .inr (by rw [HNN.out];exact HE3.out)⟩
     ·have hcl5:(es.drop i).take N=(es.drop i).take k:=by
       rw [List.take_eq_take_iff,List.length_drop,HNN.out];omega
      rw [<- hcl5] at HL2 HKL;have hend:=Lib.hid (sourceNext_end (sb:=sb) HS2.out (by omega));unfold ptrTo at hend;go_wp2_with fail
      refine hend.out.mono ?_;rintro e w5 ⟨rfl,q5,rfl⟩;have HM5:=Lib.hid (HM2.out.drewN q5);have HJ5:Hid (JobAt (wr2.drewN q5) jb pb byb 0 by'):=Lib.hid (HJ2.out.below (below_drewN (Below.refl _ _) _));have HS5:Hid (SourceAt (wr2.drewN q5) cb sb (i+k) N x2):=Lib.hid (HS2.out.below (below_drewN (Below.refl _ _) _));have HV5:Hid ((wr2.drewN q5).ownsRow w.heap.size 9 1 v rs.length ((rs.map (·.1)).map Value.string)):=HV2;have HL5:Hid (ownsEdges (wr2.drewN q5) w.heap.size (.slice la k lc) ((es.drop i).take N)):=HL2;have HM1l:Hid (srcLeft wr1 cb N=N - i):=Lib.hid (srcLeft_at HS1.out);have hsz5:w.heap.size<=(wr2.drewN q5).heap.size:=hsz2;have hKmin:k=min N (N - i):=by omega
      clear hcl5 hend HM2 HJ2 HS2 HV2 HL2 HML2 hsz2;generalize wr2.drewN q5=W5 at *;obtain ⟨⟨-,-,hs2'⟩,-⟩:=HS5.out.cells;by_cases hK0:k=0/\0 < N
      ·obtain ⟨hk0,hn0⟩:=hK0;have hM0:=hM48;have hiN:i=N:=by omega
       have HRS2:Hid ((∃ x,rs=[(out,x)])\/(2<=rs.length/\48 < es.length/\∀ p∈rs,∃ k,k < 0/\p.1=tName k)):=Lib.hid (by
        have h1:=HI1.out;have h2:=HONE1.out;have h3:rs.length=1:=by
         rcases Nat.eq_zero_or_pos rs.length with h | h
         ·rw [h] at h1;omega
         ·omega
        match rs,h3,HNM1.out with
        | [p],_,e=>
          have:p.1=out:=(List.cons.inj e).1;exact .inl ⟨p.2,by rw [<- this]⟩)
       have hne0:0 < rs.length:=by
        rcases HRS2.out with ⟨x,e⟩ | ⟨e,_⟩
        ·rw [e];exact Nat.zero_lt_one
        ·omega
       have hr51:rs.length<=51:=by exact HR51.out
       have HIN:=Lib.hid hiN;have hn0':(N:Int) > 0:=by omega
       subst hk0;clear hiN hKmin;go_wp2;go_ret2
       refine ⟨_,0,d2,o2,_,rfl,HM5.out,HOTH.out, .inl ⟨rfl,rs,0,rfl,⟨HB1.out,?_,?_,?_⟩,HRS2.out,by omega,hr51,HJ5.out,NameRow.ofOwn (by rw [List.length_map];exact HV5.out) ?_,fun b hb=>⟨HVF2.out b hb,ownsRow_block HV5.out b hb⟩⟩⟩
       ·rw [HALL1.out,HIN.out,List.take_of_length_le (by rw [HNN.out];exact Nat.le_refl _)]
       ·rw [HNN.out,<- HIN.out];exact HLEN1.out
       ·rw [HNM1.out];exact (range_names false out rs.length (fun _=>HONE1.out)).1
       ·intro hnil;have:=congrArg List.length hnil;rw [List.length_map] at this;have h0:([]:List Name).length=0:=rfl;omega
      ·have hKN:0 < k\/N=0:=by omega
       have hiK:i+k<=N:=by omega
       have hR0:rs.length < 51/\rs.length=0:=by
        have h1:=HI1.out;have h2:=HONE1.out;have h4:=HPOS1.out;have h3:rs.length=0:=by
         rcases Nat.eq_zero_or_pos rs.length with h | h
         ·exact h
         ·have h5:rs.length=1:=by omega
          have h6:=h4 h;rw [h5] at h1;omega
        exact ⟨by omega,h3⟩
       have HR0:=Lib.hid hR0;have HFRESH:Hid (mget (runsL rs L) (nmOf false out rs.length)=none):=Lib.hid (by
        rw [runsL_other]
        ·exact HNO.out
        ·rw [HNM1.out];exact next_fresh false out rs.length (fun _=>HR0.out.2))
       have hdec:Hid (bestOf by' (allOf (rs++[(nmOf false out rs.length,bestOf by' ((es.drop i).take N))]))=bestOf by' (es.take (i+k))):=Lib.hid (by
        rw [allOf_append];have e1:es.take (i+k)=es.take i++(es.drop i).take N:=by
         rw [List.take_add];congr 1;rw [List.take_eq_take_iff,List.length_drop,HNN.out];omega
        rw [e1];have e2:allOf [(nmOf false out rs.length,bestOf by' ((es.drop i).take N))]=bestOf by' ((es.drop i).take N):=by simp [allOf]
        rw [e2];exact bestOf_lr HALL1.out (bestOf_same _ _))
       have hlen':Hid (lens (rs++[(nmOf false out rs.length,bestOf by' ((es.drop i).take N))])<=i+k):=Lib.hid (by
        rw [lens_append];have h1:=HLEN1.out;have h2:=bestOf_length by' ((es.drop i).take N)
        rw [HKL.out] at h2;have h3:lens [(nmOf false out rs.length,bestOf by' ((es.drop i).take N))]=(bestOf by' ((es.drop i).take N)).length:=by simp [lens]
        omega)
       have hbnd:Hid (need (runsL rs L)+4*k<=need L+8*N):=Lib.hid (by
        have h1:=runsL_need rs L;have h2:=HLEN1.out;omega)
       have HNM2:Hid (((rs++[(nmOf false out rs.length,bestOf by' ((es.drop i).take N))]).map (·.1))=(List.range (rs.length+1)).map (nmOf false out)):=Lib.hid (by
        rw [List.map_append,HNM1.out,List.range_succ,List.map_append];rfl)
       have HI2:Hid (i+k=min N ((rs.length+1)*N)):=Lib.hid (by
        have h1:=HI1.out;rw [Nat.add_mul,Nat.one_mul];generalize rs.length*N=P at *;omega)
       have hr51:rs.length < 51:=hR0.1;clear hR0;have HB2:Hid (∀ p∈rs++[(nmOf false out rs.length,bestOf by' ((es.drop i).take N))],bestOf by' p.2=p.2):=Lib.hid (fun p hp=>by
        rcases List.mem_append.1 hp with hp | hp
        ·exact HB1.out p hp
        ·rw [List.mem_singleton.1 hp];exact bestOf_same _ _)
       have hNMok:okName (nmOf false out rs.length)=true/\ofSort out (nmOf false out rs.length):=⟨HOUT.out, .inl rfl⟩;have HNMO:=Lib.hid hNMok;clear hKmin hNMok;have hgt:¬ (N:Int) > (N:Int):=by omega
       have HM6:=Lib.hid HM5.out;have HJ6:=Lib.hid HJ5.out;have HS6:=Lib.hid HS5.out;have HV6:=Lib.hid HV5.out;have HL6:=Lib.hid HL5.out;have hsz6:=hsz5;generalize W5=W6 at *;have hNMe:nmOf false out rs.length=out:=rfl;rw [hNMe] at HFRESH hdec hlen' HNM2 HNMO HB2;clear hNMe;generalize hcc:(es.drop i).take N=C at *;clear hcc;have hvl:(rs.map (·.1)).length<=100000:=by rw [List.length_map];omega
       have HV6':Hid (W6.ownsRow w.heap.size 9 1 v (rs.map (·.1)).length ((rs.map (·.1)).map Value.string)):=Lib.hid (by rw [List.length_map];exact HV6.out);go_wp2_with (at_builtin;refine wpList_append_str rfl _ _ rfl w.heap.size _ _ rfl HV6'.out out 1 rfl hvl hsz6 ?_)
       intro v7 W7 hv7 ha7;obtain ⟨hm7,hvf7,hh7,hz7⟩:=ha7.moved HM6.out (fun x hx=>⟨HVF2.out x hx,ownsRow_block HV6.out x hx⟩);have hvb:∀ x,v.ownBlock=some x->w.heap.size<=x:=fun x hx=>ownsRow_block HV6.out x hx;have HM7:=Lib.hid hm7;have HV7:Hid (W7.ownsRow w.heap.size 9 1 v7 (rs.map (·.1)++[out]).length ((rs.map (·.1)++[out]).map Value.string)):=Lib.hid (by simpa using hv7);have HVF7:=Lib.hid hvf7;have HJ7:Hid (JobAt W7 jb pb byb 0 by'):=Lib.hid (HJ6.out.kept (hh7 jb (by omega) (fun e=>by have:=hvb _ e;omega)) (hh7 byb (by omega) (fun e=>by have:=hvb _ e;omega)));have HS7:Hid (SourceAt W7 cb sb (i+k) N x2):=Lib.hid (HS6.out.kept (hh7 cb (by omega) (fun e=>by have:=hvb _ e;omega)));have HL7:Hid (ownsEdges W7 w.heap.size (.slice la k lc) C):=Lib.hid (ownsRow_heap HL6.out (fun x hx=>hh7 x (ownBlock_old HL6.out x hx).1 (fun e=>ownsRow_apart HL6.out HV6.out (by decide) x hx e)));have HAP:Hid (∀ x,(Value.slice la k lc).ownBlock=some x->v7.ownBlock≠some x):=Lib.hid (fun x hx=>ownsRow_apart HL7.out HV7.out (by decide) x hx);have hsz7:w.heap.size<=W7.heap.size:=hm7.size;clear hm7 hv7 hvf7 hh7 ha7 hvb hz7;have hcallw:=Lib.hid (hwrite.out W7 o2 d2 0 rs out HM7.out HJ7.out HNMO.out.1 HFRESH.out (.slice la k lc) C HL7.out (fun x hx=>⟨HLF2.out x hx,ownsRow_block HL7.out x hx⟩) (by rw [HKL.out];omega));go_wp2_with fail
       refine hcallw.out.mono ?_;rintro e W8 ⟨c8,d8,o8,L8,rfl,hm8,hc8,hot8⟩;have HM8:=Lib.hid (HM7.out.trans hm8 (fun x hx e=>by have:=ownsRow_block HL7.out x e;omega));have HJ8:Hid (JobAt W8 jb pb byb 0 by'):=Lib.hid (HJ7.out.kept (hm8.block HJ7.out.lt.1 (HM7.out.free hjl HOJ.out) (fun e=>by have:=ownsRow_block HL7.out _ e;omega)) (hm8.block HJ7.out.lt.2 (HM7.out.free hbl HOB.out) (fun e=>by have:=ownsRow_block HL7.out _ e;omega)));have HS8:Hid (SourceAt W8 cb sb (i+k) N x2):=Lib.hid (HS7.out.kept (hm8.block HS7.out.lt (HM7.out.free hcl HOC.out) (fun e=>by have:=ownsRow_block HL7.out _ e;omega)));have HV8:Hid (W8.ownsRow w.heap.size 9 1 v7 (rs.map (·.1)++[out]).length ((rs.map (·.1)++[out]).map Value.string)):=Lib.hid (hm8.ownsRow HV7.out (fun b hb=>⟨(HVF7.out b hb).1,fun e=>HAP.out b e hb⟩));have HVF8:Hid (∀ x,v7.ownBlock=some x->o8 x=none):=Lib.hid (fun x hx=>hm8.free (ownBlock_old HV7.out x hx).1 (HVF7.out x hx).1);by_cases hc:c8=0
       ·subst hc;have hL8:L8=runsL (rs++[(out,bestOf by' C)]) L:=by
         rcases hc8 with ⟨_,e⟩ | e
         ·rw [runsL_snoc];exact e
         ·exact absurd rfl e.ne
        rw [hL8] at HM8;clear hL8 hm8 hc8 hot8 hcallw;obtain ⟨⟨-,-,hs2''⟩,-⟩:=HS8.out.cells;by_cases hN0:N=0
        ·exact absurd hN0 (by omega)
        ·have hN0':¬ (N:Int)=0:=by omega
         have hk1:0 < k:=by omega
         go_wp2;go_roundw
         case rel=>exact ⟨rs++[(out,bestOf by' C)],i+k,d8,o8,x2,HM8.out,by rw [List.length_append];exact HJ8.out,by rw [HNN.out];exact HS8.out,by rw [List.length_append,List.map_append];rw [List.length_append,List.length_map] at HV8;exact HV8.out,HVF8.out,by rw [HNM2.out,List.length_append];rfl,by rw [HNN.out,List.length_append];exact HI2.out,HB2.out,hdec.out,hlen'.out,(fun _=>by have:=HR0.out.2;rw [List.length_append,this];exact Nat.le_refl _),(fun _=>by rw [HNN.out];omega),by rw [List.length_append];exact hr51⟩
         case measure=>rw [HM1l.out,srcLeft_at HS8.out];omega
       ·have hc':¬ (c8:Int)=0:=by omega
        have HOT8:Hid (∀ x,¬ ofSort out x->mget L8 x=mget L x):=Lib.hid (fun x hx=>by
         rw [hot8 x (fun e=>hx (e ▸ HNMO.out.2)),HOTH.out x hx])
        have HE8:Hid (ErrN d d8 (need L+8*N) c8):=Lib.hid (by
         rcases hc8 with ⟨e,_⟩ | e
         ·exact absurd e hc
         ·rw [HKL.out] at e;exact (e.mono hbnd.out).later HM7.out.on.quota)
        clear hc hm8 hc8 hot8 hcallw;go_wp2;go_ret2
        exact ⟨_,c8,d8,o8,_,rfl,HM8.out,HOT8.out, .inr (by rw [HNN.out];exact HE8.out)⟩
    ·obtain ⟨la,lc,rfl⟩:∃ a cap,l=.slice a k cap:=by
      rcases ownsEdges_shape HL2.out with ⟨h1,h2⟩ | ⟨g,cap,h1,_⟩
      ·rw [h1] at hkl;subst h2;exact ⟨none,0,by rw [<- hkl];rfl⟩
      ·rw [hkl] at h1;exact ⟨_,_,h1⟩
     have HKL:=Lib.hid hkl;have hcl5:k=N:=by omega
     have hcl6:(es.drop i).take N=(es.drop i).take k:=by rw [hcl5]
     rw [<- hcl6] at HL2 HKL;have HM5:=Lib.hid HM2.out;have HJ5:=Lib.hid HJ2.out;have HS5:=Lib.hid HS2.out;have HV5:=Lib.hid HV2.out;have HL5:=Lib.hid HL2.out;have HM1l:Hid (srcLeft wr1 cb N=N - i):=Lib.hid (srcLeft_at HS1.out);have hsz5:w.heap.size<=wr2.heap.size:=hsz2;have hKmin:k=min N (N - i):=by omega
     have hlt':¬ ((k:Int) < (N:Int)):=by omega
     clear hcl6 hkl HM2 HJ2 HS2 HV2 HL2 HML2 hsz2 hlt hcl5;generalize wr2=W5 at *;rcases Nat.eq_zero_or_pos N with hNz | hNp
     ·have hk0i:(k:Int)=0:=by omega
      have hN0i:(N:Int)=0:=by omega
      obtain ⟨⟨-,-,hs2'⟩,-⟩:=HS5.out.cells;by_cases hK0:k=0/\0 < N
      ·exfalso
       have:=hM48;omega
      ·have hKN:0 < k\/N=0:=by omega
       have hiK:i+k<=N:=by omega
       have hR0:rs.length < 51/\rs.length=0:=by
        have h1:=HI1.out;have h2:=HONE1.out;have h4:=HPOS1.out;have h3:rs.length=0:=by
         rcases Nat.eq_zero_or_pos rs.length with h | h
         ·exact h
         ·have h5:rs.length=1:=by omega
          have h6:=h4 h;rw [h5] at h1;omega
        exact ⟨by omega,h3⟩
       have HR0:=Lib.hid hR0;have HFRESH:Hid (mget (runsL rs L) (nmOf false out rs.length)=none):=Lib.hid (by
        rw [runsL_other]
        ·exact HNO.out
        ·rw [HNM1.out];exact next_fresh false out rs.length (fun _=>HR0.out.2))
       have hdec:Hid (bestOf by' (allOf (rs++[(nmOf false out rs.length,bestOf by' ((es.drop i).take N))]))=bestOf by' (es.take (i+k))):=Lib.hid (by
        rw [allOf_append];have e1:es.take (i+k)=es.take i++(es.drop i).take N:=by
         rw [List.take_add];congr 1;rw [List.take_eq_take_iff,List.length_drop,HNN.out];omega
        rw [e1];have e2:allOf [(nmOf false out rs.length,bestOf by' ((es.drop i).take N))]=bestOf by' ((es.drop i).take N):=by simp [allOf]
        rw [e2];exact bestOf_lr HALL1.out (bestOf_same _ _))
       have hlen':Hid (lens (rs++[(nmOf false out rs.length,bestOf by' ((es.drop i).take N))])<=i+k):=Lib.hid (by
        rw [lens_append];have h1:=HLEN1.out;have h2:=bestOf_length by' ((es.drop i).take N)
        rw [HKL.out] at h2;have h3:lens [(nmOf false out rs.length,bestOf by' ((es.drop i).take N))]=(bestOf by' ((es.drop i).take N)).length:=by simp [lens]
        omega)
       have hbnd:Hid (need (runsL rs L)+4*k<=need L+8*N):=Lib.hid (by
        have h1:=runsL_need rs L;have h2:=HLEN1.out;omega)
       have HNM2:Hid (((rs++[(nmOf false out rs.length,bestOf by' ((es.drop i).take N))]).map (·.1))=(List.range (rs.length+1)).map (nmOf false out)):=Lib.hid (by
        rw [List.map_append,HNM1.out,List.range_succ,List.map_append];rfl)
       have HI2:Hid (i+k=min N ((rs.length+1)*N)):=Lib.hid (by
        have h1:=HI1.out;rw [Nat.add_mul,Nat.one_mul];generalize rs.length*N=P at *;omega)
       have hr51:rs.length < 51:=hR0.1;clear hR0;have HB2:Hid (∀ p∈rs++[(nmOf false out rs.length,bestOf by' ((es.drop i).take N))],bestOf by' p.2=p.2):=Lib.hid (fun p hp=>by
        rcases List.mem_append.1 hp with hp | hp
        ·exact HB1.out p hp
        ·rw [List.mem_singleton.1 hp];exact bestOf_same _ _)
       have hNMok:okName (nmOf false out rs.length)=true/\ofSort out (nmOf false out rs.length):=⟨HOUT.out, .inl rfl⟩;have HNMO:=Lib.hid hNMok;clear hKmin hNMok;have hgt:¬ (N:Int) > (N:Int):=by omega
       have HM6:=Lib.hid HM5.out;have HJ6:=Lib.hid HJ5.out;have HS6:=Lib.hid HS5.out;have HV6:=Lib.hid HV5.out;have HL6:=Lib.hid HL5.out;have hsz6:=hsz5;generalize W5=W6 at *;have hNMe:nmOf false out rs.length=out:=rfl;rw [hNMe] at HFRESH hdec hlen' HNM2 HNMO HB2;clear hNMe;generalize hcc:(es.drop i).take N=C at *;clear hcc;have hvl:(rs.map (·.1)).length<=100000:=by rw [List.length_map];omega
       have HV6':Hid (W6.ownsRow w.heap.size 9 1 v (rs.map (·.1)).length ((rs.map (·.1)).map Value.string)):=Lib.hid (by rw [List.length_map];exact HV6.out);go_wp2_with (at_builtin;refine wpList_append_str rfl _ _ rfl w.heap.size _ _ rfl HV6'.out out 1 rfl hvl hsz6 ?_)
       intro v7 W7 hv7 ha7;obtain ⟨hm7,hvf7,hh7,hz7⟩:=ha7.moved HM6.out (fun x hx=>⟨HVF2.out x hx,ownsRow_block HV6.out x hx⟩);have hvb:∀ x,v.ownBlock=some x->w.heap.size<=x:=fun x hx=>ownsRow_block HV6.out x hx;have HM7:=Lib.hid hm7;have HV7:Hid (W7.ownsRow w.heap.size 9 1 v7 (rs.map (·.1)++[out]).length ((rs.map (·.1)++[out]).map Value.string)):=Lib.hid (by simpa using hv7);have HVF7:=Lib.hid hvf7;have HJ7:Hid (JobAt W7 jb pb byb 0 by'):=Lib.hid (HJ6.out.kept (hh7 jb (by omega) (fun e=>by have:=hvb _ e;omega)) (hh7 byb (by omega) (fun e=>by have:=hvb _ e;omega)));have HS7:Hid (SourceAt W7 cb sb (i+k) N x2):=Lib.hid (HS6.out.kept (hh7 cb (by omega) (fun e=>by have:=hvb _ e;omega)));have HL7:Hid (ownsEdges W7 w.heap.size (.slice la k lc) C):=Lib.hid (ownsRow_heap HL6.out (fun x hx=>hh7 x (ownBlock_old HL6.out x hx).1 (fun e=>ownsRow_apart HL6.out HV6.out (by decide) x hx e)));have HAP:Hid (∀ x,(Value.slice la k lc).ownBlock=some x->v7.ownBlock≠some x):=Lib.hid (fun x hx=>ownsRow_apart HL7.out HV7.out (by decide) x hx);have hsz7:w.heap.size<=W7.heap.size:=hm7.size;clear hm7 hv7 hvf7 hh7 ha7 hvb hz7;have hcallw:=Lib.hid (hwrite.out W7 o2 d2 0 rs out HM7.out HJ7.out HNMO.out.1 HFRESH.out (.slice la k lc) C HL7.out (fun x hx=>⟨HLF2.out x hx,ownsRow_block HL7.out x hx⟩) (by rw [HKL.out];omega));go_wp2_with fail
       refine hcallw.out.mono ?_;rintro e W8 ⟨c8,d8,o8,L8,rfl,hm8,hc8,hot8⟩;have HM8:=Lib.hid (HM7.out.trans hm8 (fun x hx e=>by have:=ownsRow_block HL7.out x e;omega));have HJ8:Hid (JobAt W8 jb pb byb 0 by'):=Lib.hid (HJ7.out.kept (hm8.block HJ7.out.lt.1 (HM7.out.free hjl HOJ.out) (fun e=>by have:=ownsRow_block HL7.out _ e;omega)) (hm8.block HJ7.out.lt.2 (HM7.out.free hbl HOB.out) (fun e=>by have:=ownsRow_block HL7.out _ e;omega)));have HS8:Hid (SourceAt W8 cb sb (i+k) N x2):=Lib.hid (HS7.out.kept (hm8.block HS7.out.lt (HM7.out.free hcl HOC.out) (fun e=>by have:=ownsRow_block HL7.out _ e;omega)));have HV8:Hid (W8.ownsRow w.heap.size 9 1 v7 (rs.map (·.1)++[out]).length ((rs.map (·.1)++[out]).map Value.string)):=Lib.hid (hm8.ownsRow HV7.out (fun b hb=>⟨(HVF7.out b hb).1,fun e=>HAP.out b e hb⟩));have HVF8:Hid (∀ x,v7.ownBlock=some x->o8 x=none):=Lib.hid (fun x hx=>hm8.free (ownBlock_old HV7.out x hx).1 (HVF7.out x hx).1);by_cases hc:c8=0
       ·subst hc;have hL8:L8=runsL (rs++[(out,bestOf by' C)]) L:=by
         rcases hc8 with ⟨_,e⟩ | e
         ·rw [runsL_snoc];exact e
         ·exact absurd rfl e.ne
        rw [hL8] at HM8;clear hL8 hm8 hc8 hot8 hcallw;obtain ⟨⟨-,-,hs2''⟩,-⟩:=HS8.out.cells;by_cases hN0:N=0
        ·have hn0:=hN0;have HREND:Hid (RunsOk by' es (rs++[(out,bestOf by' C)])):=Lib.hid ⟨HB2.out,by rw [hdec.out,List.take_of_length_le (by rw [HNN.out];omega)],by rw [HNN.out];have:=hlen'.out;omega,by rw [HNM2.out];exact (range_names false out _ (fun _=>by have:=HR0.out.2;omega)).1⟩;have HONER:Hid (∃ x,rs++[(out,bestOf by' C)]=[(out,x)]):=Lib.hid (by
          have h0:=List.eq_nil_of_length_eq_zero (HR0.out.2);exact ⟨bestOf by' C,by rw [h0];rfl⟩)
         have hN0i:(N:Int)=0:=by omega
         clear hn0 hN0;go_wp2;go_ret2
         refine ⟨_,0,d8,o8,_,rfl,HM8.out,fun x hx=>?_, .inl ⟨rfl,_,0,rfl,HREND.out, .inl HONER.out,Nat.zero_le _,?_,HJ8.out,NameRow.ofOwn (by rw [List.map_append];exact HV8.out) (by simp),fun b hb=>⟨HVF8.out b hb,ownsRow_block HV8.out b hb⟩⟩⟩
         ·refine runsL_other _ _ _ (fun hmem=>hx ?_);rw [HNM2.out] at hmem;exact (range_names false out _ (fun _=>by have:=HR0.out.2;omega)).2 (by have:=HR0.out.2;omega) _ hmem
         ·rw [List.length_append];show rs.length+1<=51;omega
        ·exact absurd hNz hN0
       ·have hc':¬ (c8:Int)=0:=by omega
        have HOT8:Hid (∀ x,¬ ofSort out x->mget L8 x=mget L x):=Lib.hid (fun x hx=>by
         rw [hot8 x (fun e=>hx (e ▸ HNMO.out.2)),HOTH.out x hx])
        have HE8:Hid (ErrN d d8 (need L+8*N) c8):=Lib.hid (by
         rcases hc8 with ⟨e,_⟩ | e
         ·exact absurd e hc
         ·rw [HKL.out] at e;exact (e.mono hbnd.out).later HM7.out.on.quota)
        clear hc hm8 hc8 hot8 hcallw;go_wp2;go_ret2
        exact ⟨_,c8,d8,o8,_,rfl,HM8.out,HOT8.out, .inr (by rw [HNN.out];exact HE8.out)⟩
     ·have hkp:0 < k:=by omega
      obtain ⟨⟨-,-,hs2'⟩,-⟩:=HS5.out.cells;by_cases hK0:k=0/\0 < N
      ·exfalso
       omega
      ·have hKN:0 < k\/N=0:=by omega
       have hiK:i+k<=N:=by omega
       have hR0:rs.length < 51/\rs.length=0:=by
        have h1:=HI1.out;have h2:=HONE1.out;have h4:=HPOS1.out;have h3:rs.length=0:=by
         rcases Nat.eq_zero_or_pos rs.length with h | h
         ·exact h
         ·have h5:rs.length=1:=by omega
          have h6:=h4 h;rw [h5] at h1;omega
        exact ⟨by omega,h3⟩
       have HR0:=Lib.hid hR0;have HFRESH:Hid (mget (runsL rs L) (nmOf false out rs.length)=none):=Lib.hid (by
        rw [runsL_other]
        ·exact HNO.out
        ·rw [HNM1.out];exact next_fresh false out rs.length (fun _=>HR0.out.2))
       have hdec:Hid (bestOf by' (allOf (rs++[(nmOf false out rs.length,bestOf by' ((es.drop i).take N))]))=bestOf by' (es.take (i+k))):=Lib.hid (by
        rw [allOf_append];have e1:es.take (i+k)=es.take i++(es.drop i).take N:=by
         rw [List.take_add];congr 1;rw [List.take_eq_take_iff,List.length_drop,HNN.out];omega
        rw [e1];have e2:allOf [(nmOf false out rs.length,bestOf by' ((es.drop i).take N))]=bestOf by' ((es.drop i).take N):=by simp [allOf]
        rw [e2];exact bestOf_lr HALL1.out (bestOf_same _ _))
       have hlen':Hid (lens (rs++[(nmOf false out rs.length,bestOf by' ((es.drop i).take N))])<=i+k):=Lib.hid (by
        rw [lens_append];have h1:=HLEN1.out;have h2:=bestOf_length by' ((es.drop i).take N)
        rw [HKL.out] at h2;have h3:lens [(nmOf false out rs.length,bestOf by' ((es.drop i).take N))]=(bestOf by' ((es.drop i).take N)).length:=by simp [lens]
        omega)
       have hbnd:Hid (need (runsL rs L)+4*k<=need L+8*N):=Lib.hid (by
        have h1:=runsL_need rs L;have h2:=HLEN1.out;omega)
       have HNM2:Hid (((rs++[(nmOf false out rs.length,bestOf by' ((es.drop i).take N))]).map (·.1))=(List.range (rs.length+1)).map (nmOf false out)):=Lib.hid (by
        rw [List.map_append,HNM1.out,List.range_succ,List.map_append];rfl)
       have HI2:Hid (i+k=min N ((rs.length+1)*N)):=Lib.hid (by
        have h1:=HI1.out;rw [Nat.add_mul,Nat.one_mul];generalize rs.length*N=P at *;omega)
       have hr51:rs.length < 51:=hR0.1;clear hR0;have HB2:Hid (∀ p∈rs++[(nmOf false out rs.length,bestOf by' ((es.drop i).take N))],bestOf by' p.2=p.2):=Lib.hid (fun p hp=>by
        rcases List.mem_append.1 hp with hp | hp
        ·exact HB1.out p hp
        ·rw [List.mem_singleton.1 hp];exact bestOf_same _ _)
       have hNMok:okName (nmOf false out rs.length)=true/\ofSort out (nmOf false out rs.length):=⟨HOUT.out, .inl rfl⟩;have HNMO:=Lib.hid hNMok;clear hKmin hNMok;have hgt:¬ (N:Int) > (N:Int):=by omega
       have HM6:=Lib.hid HM5.out;have HJ6:=Lib.hid HJ5.out;have HS6:=Lib.hid HS5.out;have HV6:=Lib.hid HV5.out;have HL6:=Lib.hid HL5.out;have hsz6:=hsz5;generalize W5=W6 at *;have hNMe:nmOf false out rs.length=out:=rfl;rw [hNMe] at HFRESH hdec hlen' HNM2 HNMO HB2;clear hNMe;generalize hcc:(es.drop i).take N=C at *;clear hcc;have hvl:(rs.map (·.1)).length<=100000:=by rw [List.length_map];omega
       have HV6':Hid (W6.ownsRow w.heap.size 9 1 v (rs.map (·.1)).length ((rs.map (·.1)).map Value.string)):=Lib.hid (by rw [List.length_map];exact HV6.out);go_wp2_with (at_builtin;refine wpList_append_str rfl _ _ rfl w.heap.size _ _ rfl HV6'.out out 1 rfl hvl hsz6 ?_)
       intro v7 W7 hv7 ha7;obtain ⟨hm7,hvf7,hh7,hz7⟩:=ha7.moved HM6.out (fun x hx=>⟨HVF2.out x hx,ownsRow_block HV6.out x hx⟩);have hvb:∀ x,v.ownBlock=some x->w.heap.size<=x:=fun x hx=>ownsRow_block HV6.out x hx;have HM7:=Lib.hid hm7;have HV7:Hid (W7.ownsRow w.heap.size 9 1 v7 (rs.map (·.1)++[out]).length ((rs.map (·.1)++[out]).map Value.string)):=Lib.hid (by simpa using hv7);have HVF7:=Lib.hid hvf7;have HJ7:Hid (JobAt W7 jb pb byb 0 by'):=Lib.hid (HJ6.out.kept (hh7 jb (by omega) (fun e=>by have:=hvb _ e;omega)) (hh7 byb (by omega) (fun e=>by have:=hvb _ e;omega)));have HS7:Hid (SourceAt W7 cb sb (i+k) N x2):=Lib.hid (HS6.out.kept (hh7 cb (by omega) (fun e=>by have:=hvb _ e;omega)));have HL7:Hid (ownsEdges W7 w.heap.size (.slice la k lc) C):=Lib.hid (ownsRow_heap HL6.out (fun x hx=>hh7 x (ownBlock_old HL6.out x hx).1 (fun e=>ownsRow_apart HL6.out HV6.out (by decide) x hx e)));have HAP:Hid (∀ x,(Value.slice la k lc).ownBlock=some x->v7.ownBlock≠some x):=Lib.hid (fun x hx=>ownsRow_apart HL7.out HV7.out (by decide) x hx);have hsz7:w.heap.size<=W7.heap.size:=hm7.size;clear hm7 hv7 hvf7 hh7 ha7 hvb hz7;have hcallw:=Lib.hid (hwrite.out W7 o2 d2 0 rs out HM7.out HJ7.out HNMO.out.1 HFRESH.out (.slice la k lc) C HL7.out (fun x hx=>⟨HLF2.out x hx,ownsRow_block HL7.out x hx⟩) (by rw [HKL.out];omega));go_wp2_with fail
       refine hcallw.out.mono ?_;rintro e W8 ⟨c8,d8,o8,L8,rfl,hm8,hc8,hot8⟩;have HM8:=Lib.hid (HM7.out.trans hm8 (fun x hx e=>by have:=ownsRow_block HL7.out x e;omega));have HJ8:Hid (JobAt W8 jb pb byb 0 by'):=Lib.hid (HJ7.out.kept (hm8.block HJ7.out.lt.1 (HM7.out.free hjl HOJ.out) (fun e=>by have:=ownsRow_block HL7.out _ e;omega)) (hm8.block HJ7.out.lt.2 (HM7.out.free hbl HOB.out) (fun e=>by have:=ownsRow_block HL7.out _ e;omega)));have HS8:Hid (SourceAt W8 cb sb (i+k) N x2):=Lib.hid (HS7.out.kept (hm8.block HS7.out.lt (HM7.out.free hcl HOC.out) (fun e=>by have:=ownsRow_block HL7.out _ e;omega)));have HV8:Hid (W8.ownsRow w.heap.size 9 1 v7 (rs.map (·.1)++[out]).length ((rs.map (·.1)++[out]).map Value.string)):=Lib.hid (hm8.ownsRow HV7.out (fun b hb=>⟨(HVF7.out b hb).1,fun e=>HAP.out b e hb⟩));have HVF8:Hid (∀ x,v7.ownBlock=some x->o8 x=none):=Lib.hid (fun x hx=>hm8.free (ownBlock_old HV7.out x hx).1 (HVF7.out x hx).1);by_cases hc:c8=0
       ·subst hc;have hL8:L8=runsL (rs++[(out,bestOf by' C)]) L:=by
         rcases hc8 with ⟨_,e⟩ | e
         ·rw [runsL_snoc];exact e
         ·exact absurd rfl e.ne
        rw [hL8] at HM8;clear hL8 hm8 hc8 hot8 hcallw;obtain ⟨⟨-,-,hs2''⟩,-⟩:=HS8.out.cells;by_cases hN0:N=0
        ·exact absurd hN0 (by omega)
        ·have hN0':¬ (N:Int)=0:=by omega
         have hk1:0 < k:=by omega
         go_wp2;go_roundw
         case rel=>exact ⟨rs++[(out,bestOf by' C)],i+k,d8,o8,x2,HM8.out,by rw [List.length_append];exact HJ8.out,by rw [HNN.out];exact HS8.out,by rw [List.length_append,List.map_append];rw [List.length_append,List.length_map] at HV8;exact HV8.out,HVF8.out,by rw [HNM2.out,List.length_append];rfl,by rw [HNN.out,List.length_append];exact HI2.out,HB2.out,hdec.out,hlen'.out,(fun _=>by have:=HR0.out.2;rw [List.length_append,this];exact Nat.le_refl _),(fun _=>by rw [HNN.out];omega),by rw [List.length_append];exact hr51⟩
         case measure=>rw [HM1l.out,srcLeft_at HS8.out];omega
       ·have hc':¬ (c8:Int)=0:=by omega
        have HOT8:Hid (∀ x,¬ ofSort out x->mget L8 x=mget L x):=Lib.hid (fun x hx=>by
         rw [hot8 x (fun e=>hx (e ▸ HNMO.out.2)),HOTH.out x hx])
        have HE8:Hid (ErrN d d8 (need L+8*N) c8):=Lib.hid (by
         rcases hc8 with ⟨e,_⟩ | e
         ·exact absurd e hc
         ·rw [HKL.out] at e;exact (e.mono hbnd.out).later HM7.out.on.quota)
        clear hc hm8 hc8 hot8 hcallw;go_wp2;go_ret2
        exact ⟨_,c8,d8,o8,_,rfl,HM8.out,HOT8.out, .inr (by rw [HNN.out];exact HE8.out)⟩
 ·have hle:¬ ((N:Int)<=((n:Int) - 4)*12):=by have:=HM.out;omega
  have hled:decide ((N:Int)<=((n:Int) - 4)*12)=false:=by exact decide_eq_false hle
  have HNM:=Lib.hid hNM;clear hNM;go_enter Tryz.func177,Tryz.ntmps177
  go_wp2_with fail
  refine hframes.out.mono ?_;rintro e w' ⟨rfl,rfl⟩;go_wp2;try rw [<- HM.out]
  go_loopw [9] (fun v wr=>RunsHead n pb db jb byb cb sb by' w o d L out es M true v wr) (fun _ wr=>srcLeft wr cb N)
  case atStart=>exact ⟨[],0,d,o,x0,Moved.refl _ H.out,HJ.out,by rw [HNN.out];exact HSRC.out,World.ownsRow_nil w _ _ 1,(fun x hx=>by cases hx),rfl,by simp,(fun p hp=>by cases hp),by simp [allOf],Nat.zero_le _,(fun _=>Nat.zero_le _),(fun hh=>absurd hh (Nat.lt_irrefl 0)),Nat.zero_le _⟩
  case round=>
   generalize u9=v at *;generalize wr=wr1 at *;obtain ⟨rs,i,d1,o1,x1,hm1,hj1,hs1,hv1,hf1,hnm1,hi1,hb1,hall1,hlen1,hone1,hpos1,hr51⟩:=hrel;have HR51:=Lib.hid hr51;rw [HNN.out] at hs1 hi1 hpos1;have HM1:=Lib.hid hm1;have HJ1:Hid (JobAt wr1 jb pb byb rs.length by'):=Lib.hid hj1;have HS1:=Lib.hid hs1;have HV1:=Lib.hid hv1;have HVF1:=Lib.hid hf1;have HNM1:=Lib.hid hnm1;have HI1:=Lib.hid hi1;have HB1:=Lib.hid hb1;have HALL1:=Lib.hid hall1;have HLEN1:=Lib.hid hlen1;have HONE1:=Lib.hid hone1;have HPOS1:=Lib.hid hpos1;have hiN0:i<=N:=by omega
   have HNS:Hid (∀ x∈rs.map (·.1),ofSort out x):=Lib.hid (by rw [hnm1];exact (range_names true out rs.length hone1).2 hr51);have HOTH:Hid (∀ x,¬ ofSort out x->mget (runsL rs L) x=mget L x):=Lib.hid (fun x hx=>runsL_other _ _ _ (fun hmem=>hx (HNS.out x hmem)));have HND:Hid (need (runsL rs L)<=need L+8*N):=Lib.hid (by have:=runsL_need rs L;omega);have hsz1:w.heap.size<=wr1.heap.size:=hm1.size;clear hm1 hj1 hs1 hv1 hf1 hnm1 hi1 hb1 hall1 hlen1 hone1 hpos1 hr51;go_wp2;go_loopw [10] (fun l wr2=>∃ (k:Nat) (d':Dsk) (o':Owner) (x:Edg),k<=M/\i+k<=N/\Moved (fun x=>x=cb\/x=jb) n pb db w o d wr2 o' d' (runsL rs L)/\JobAt wr2 jb pb byb rs.length by'/\SourceAt wr2 cb sb (i+k) N x/\wr2.ownsRow w.heap.size 9 1 v rs.length ((rs.map (·.1)).map Value.string)/\(∀ x,v.ownBlock=some x->o' x=none)/\ownsEdges wr2 w.heap.size l ((es.drop i).take k)/\(∀ x,l.ownBlock=some x->o' x=none)) (fun _ wr2=>srcLeft wr2 cb N)
   case atStart=>exact ⟨0,d1,o1,x1,Nat.zero_le _,hiN0,HM1.out,HJ1.out,HS1.out,HV1.out,HVF1.out,World.ownsRow_nil _ _ _ 4,fun x hx=>by cases hx⟩
   case round=>
    generalize u10=l at *;generalize wr=wr2 at *;obtain ⟨k,d2,o2,x2,hk2,hik2,hm2,hj2,hs2q,hv2,hvf2,hl2,hlf2⟩:=hrel;have HM2:=Lib.hid hm2;have HJ2:=Lib.hid hj2;have HS2:=Lib.hid hs2q;have HV2:=Lib.hid hv2;have HVF2:=Lib.hid hvf2;have HL2:=Lib.hid hl2;have HLF2:=Lib.hid hlf2;have hkl:((es.drop i).take k).length=k:=by rw [List.length_take,List.length_drop,HNN.out];omega
    have hsz2:w.heap.size<=wr2.heap.size:=hm2.size;have HML2:Hid (srcLeft wr2 cb N=N - (i+k)):=Lib.hid (srcLeft_at hs2q);clear hm2 hj2 hs2q hv2 hvf2 hl2 hlf2;by_cases hlt:k < M
    ·obtain ⟨la,lc,rfl⟩:∃ a cap,l=.slice a k cap:=by
      rcases ownsEdges_shape HL2.out with ⟨h1,h2⟩ | ⟨g,cap,h1,_⟩
      ·rw [h1] at hkl;subst h2;exact ⟨none,0,by rw [<- hkl];rfl⟩
      ·rw [hkl] at h1;exact ⟨_,_,h1⟩
     have HKL:=Lib.hid hkl;clear hkl;by_cases hin:i+k < N
     ·have hxi:i+k < es.length:=by rw [HNN.out];exact hin
      obtain ⟨y,hy⟩:∃ y,es[i+k]? = some y:=⟨_,List.getElem?_eq_getElem hxi⟩;have HTK:Hid ((es.drop i).take (k+1)=(es.drop i).take k++[y]):=Lib.hid (by
       have hkd:k < (es.drop i).length:=by rw [List.length_drop];omega
       rw [List.take_succ_eq_append_getElem hkd];congr 2;rw [List.getElem_drop];rw [List.getElem?_eq_getElem hxi] at hy;exact Option.some.inj hy)
      have hcallx:=Lib.hid (hnext.out wr2 o2 d2 rs (i+k) x2 HM2.out HNS.out HS2.out y hy);clear hxi hy;go_wp2_with fail
      refine hcallx.out.mono ?_;rintro e w3 ⟨c3,d3,o3,rfl,hm3,he3,hs3⟩;have HM3:=Lib.hid (HM2.out.trans hm3 (fun x _ e=>.inl e));have HJ3:Hid (JobAt w3 jb pb byb rs.length by'):=Lib.hid (HJ2.out.kept (hm3.block HJ2.out.lt.1 (HM2.out.free hjl HOJ.out) (fun e=>HCJ.out e.symm)) (hm3.block HJ2.out.lt.2 (HM2.out.free hbl HOB.out) (fun e=>HCB.out e.symm)));have HV3:Hid (w3.ownsRow w.heap.size 9 1 v rs.length ((rs.map (·.1)).map Value.string)):=Lib.hid (hm3.ownsRow HV2.out (fun b hb=>⟨HVF2.out b hb,fun e=>by have:=ownsRow_block HV2.out b hb;omega⟩));have HVF3:Hid (∀ x,v.ownBlock=some x->o3 x=none):=Lib.hid (fun x hx=>hm3.free (ownBlock_old HV2.out x hx).1 (HVF2.out x hx));have HL3:Hid (ownsEdges w3 w.heap.size (.slice la k lc) ((es.drop i).take k)):=Lib.hid (hm3.ownsRow HL2.out (fun b hb=>⟨HLF2.out b hb,fun e=>by have:=ownsRow_block HL2.out b hb;omega⟩));have HLF3:Hid (∀ x,(Value.slice la k lc).ownBlock=some x->o3 x=none):=Lib.hid (fun x hx=>hm3.free (ownBlock_old HL2.out x hx).1 (HLF2.out x hx));have HS3:=Lib.hid hs3;have hsz3:w.heap.size<=w3.heap.size:=HM3.out.size;by_cases hc3:c3=0
      ·subst hc3;have HS3':=Lib.hid (HS3.out rfl);obtain ⟨-,⟨k0,k1,k2,k3⟩,-⟩:=HS3'.out.cells;clear HS3;clear hm3 he3 hs3 hcallx;have hkl3:((es.drop i).take k).length<=100000:=by rw [HKL.out];omega
       go_wp2_with (at_builtin;refine wpList_append_edge rfl _ _ rfl w.heap.size _ _ rfl HL3.out y 1 rfl hkl3 hsz3 ?_)
       intro l4 w4 hl4 ha4;obtain ⟨hm4,hlf4,hh4,hz4⟩:=ha4.moved HM3.out (fun x hx=>⟨HLF3.out x hx,ownsRow_block HL3.out x hx⟩);have HM4:=Lib.hid hm4;have HNL:Hid (∀ x,x < w.heap.size->w4.heap[x]? = w3.heap[x]?):=Lib.hid (fun x hx=>hh4 x (by omega) (fun e=>by have:=ownsRow_block HL3.out x e;omega));have HJ4:Hid (JobAt w4 jb pb byb rs.length by'):=Lib.hid (HJ3.out.kept (HNL.out jb hjl) (HNL.out byb hbl));have HS4:Hid (SourceAt w4 cb sb (i+(k+1)) N y):=Lib.hid (HS3'.out.kept (HNL.out cb hcl));have HV4:Hid (w4.ownsRow w.heap.size 9 1 v rs.length ((rs.map (·.1)).map Value.string)):=Lib.hid (ownsRow_heap HV3.out (fun x hx=>hh4 x (ownBlock_old HV3.out x hx).1 (fun e=>ownsRow_apart HV3.out HL3.out (by decide) x hx e)));rw [<- HTK.out] at hl4;have HL4:=Lib.hid hl4;have HLF4:=Lib.hid hlf4;clear hm4 hlf4 hh4 ha4 hl4 k0 k1 k2 k3;go_wp2;go_roundw
       case rel=>exact ⟨k+1,d3,o3,y,by omega,by omega,HM4.out,HJ4.out,HS4.out,HV4.out,HVF3.out,HL4.out,fun x hx=>(HLF4.out x hx).1⟩
       case measure=>rw [HML2.out,srcLeft_at HS4.out];omega
      ·have hc3':¬ (c3:Int)=0:=by omega
       have HE3:=Lib.hid (((he3.resolve_left hc3).num HND.out).later HM2.out.on.quota);have hbq:(c3 == 0)=false:=by simpa using hc3
       clear hm3 he3 hs3 hcallx hc3;go_wp2;go_ret2
       exact ⟨_,c3,d3,o3,_,rfl,HM3.out,HOTH.out, .inr (by rw [HNN.out];exact HE3.out)⟩
     ·have hcl5:(es.drop i).take M=(es.drop i).take k:=by
       rw [List.take_eq_take_iff,List.length_drop,HNN.out];omega
      rw [<- hcl5] at HL2 HKL;have hend:=Lib.hid (sourceNext_end (sb:=sb) HS2.out (by omega));unfold ptrTo at hend;go_wp2_with fail
      refine hend.out.mono ?_;rintro e w5 ⟨rfl,q5,rfl⟩;have HM5:=Lib.hid (HM2.out.drewN q5);have HJ5:Hid (JobAt (wr2.drewN q5) jb pb byb rs.length by'):=Lib.hid (HJ2.out.below (below_drewN (Below.refl _ _) _));have HS5:Hid (SourceAt (wr2.drewN q5) cb sb (i+k) N x2):=Lib.hid (HS2.out.below (below_drewN (Below.refl _ _) _));have HV5:Hid ((wr2.drewN q5).ownsRow w.heap.size 9 1 v rs.length ((rs.map (·.1)).map Value.string)):=HV2;have HL5:Hid (ownsEdges (wr2.drewN q5) w.heap.size (.slice la k lc) ((es.drop i).take M)):=HL2;have HM1l:Hid (srcLeft wr1 cb N=N - i):=Lib.hid (srcLeft_at HS1.out);have hsz5:w.heap.size<=(wr2.drewN q5).heap.size:=hsz2;have hKmin:k=min M (N - i):=by omega
      clear hcl5 hend HM2 HJ2 HS2 HV2 HL2 HML2 hsz2;generalize wr2.drewN q5=W5 at *;obtain ⟨⟨-,-,hs2'⟩,-⟩:=HS5.out.cells;by_cases hK0:k=0/\0 < N
      ·obtain ⟨hk0,hn0⟩:=hK0;have hM0:=hM48;have hiN:i=N:=by omega
       have HRS2:Hid ((∃ x,rs=[(out,x)])\/(2<=rs.length/\48 < es.length/\∀ p∈rs,∃ k,k < rs.length/\p.1=tName k)):=Lib.hid (by
        have h1:=HI1.out;have h3:=HNM.out;have h2:2<=rs.length:=by
         rcases Nat.lt_or_ge rs.length 2 with h | h
         ·have h2:rs.length=0\/rs.length=1:=by omega
          rcases h2 with h2 | h2<;>rw [h2] at h1<;>omega
         ·exact h
        refine .inr ⟨h2,by rw [HNN.out];omega,fun p hp=>?_⟩;have h4:p.1∈rs.map (·.1):=List.mem_map.2 ⟨p,hp,rfl⟩;rw [HNM1.out] at h4;obtain ⟨q,hq,e⟩:=List.mem_map.1 h4;exact ⟨q,List.mem_range.1 hq,e.symm⟩)
       have hne0:0 < rs.length:=by
        rcases HRS2.out with ⟨x,e⟩ | ⟨e,_⟩
        ·rw [e];exact Nat.zero_lt_one
        ·omega
       have hr51:rs.length<=51:=by exact HR51.out
       have HIN:=Lib.hid hiN;have hn0':(N:Int) > 0:=by omega
       subst hk0;clear hiN hKmin;go_wp2;go_ret2
       refine ⟨_,0,d2,o2,_,rfl,HM5.out,HOTH.out, .inl ⟨rfl,rs,rs.length,rfl,⟨HB1.out,?_,?_,?_⟩,HRS2.out,by omega,hr51,HJ5.out,NameRow.ofOwn (by rw [List.length_map];exact HV5.out) ?_,fun b hb=>⟨HVF2.out b hb,ownsRow_block HV5.out b hb⟩⟩⟩
       ·rw [HALL1.out,HIN.out,List.take_of_length_le (by rw [HNN.out];exact Nat.le_refl _)]
       ·rw [HNN.out,<- HIN.out];exact HLEN1.out
       ·rw [HNM1.out];exact (range_names true out rs.length (fun h=>by cases h)).1
       ·intro hnil;have:=congrArg List.length hnil;rw [List.length_map] at this;have h0:([]:List Name).length=0:=rfl;omega
      ·have hKN:0 < k\/N=0:=by omega
       have hiK:i+k<=N:=by omega
       have hR0:rs.length < 51/\True:=by
        have h1:=HI1.out;have h2:rs.length*48<=rs.length*M:=Nat.mul_le_mul_left _ hM48.1;have h3:=HNM.out;exact ⟨by omega,trivial⟩
       have HR0:=Lib.hid hR0;have HFRESH:Hid (mget (runsL rs L) (nmOf true out rs.length)=none):=Lib.hid (by
        rw [runsL_other]
        ·exact HNT.out _
        ·rw [HNM1.out];exact next_fresh true out rs.length (fun h=>by cases h))
       have hdec:Hid (bestOf by' (allOf (rs++[(nmOf true out rs.length,bestOf by' ((es.drop i).take M))]))=bestOf by' (es.take (i+k))):=Lib.hid (by
        rw [allOf_append];have e1:es.take (i+k)=es.take i++(es.drop i).take M:=by
         rw [List.take_add];congr 1;rw [List.take_eq_take_iff,List.length_drop,HNN.out];omega
        rw [e1];have e2:allOf [(nmOf true out rs.length,bestOf by' ((es.drop i).take M))]=bestOf by' ((es.drop i).take M):=by simp [allOf]
        rw [e2];exact bestOf_lr HALL1.out (bestOf_same _ _))
       have hlen':Hid (lens (rs++[(nmOf true out rs.length,bestOf by' ((es.drop i).take M))])<=i+k):=Lib.hid (by
        rw [lens_append];have h1:=HLEN1.out;have h2:=bestOf_length by' ((es.drop i).take M)
        rw [HKL.out] at h2;have h3:lens [(nmOf true out rs.length,bestOf by' ((es.drop i).take M))]=(bestOf by' ((es.drop i).take M)).length:=by simp [lens]
        omega)
       have hbnd:Hid (need (runsL rs L)+4*k<=need L+8*N):=Lib.hid (by
        have h1:=runsL_need rs L;have h2:=HLEN1.out;omega)
       have HNM2:Hid (((rs++[(nmOf true out rs.length,bestOf by' ((es.drop i).take M))]).map (·.1))=(List.range (rs.length+1)).map (nmOf true out)):=Lib.hid (by
        rw [List.map_append,HNM1.out,List.range_succ,List.map_append];rfl)
       have HI2:Hid (i+k=min N ((rs.length+1)*M)):=Lib.hid (by
        have h1:=HI1.out;rw [Nat.add_mul,Nat.one_mul];generalize rs.length*M=P at *;omega)
       have hr51:rs.length < 51:=hR0.1;clear hR0;have HB2:Hid (∀ p∈rs++[(nmOf true out rs.length,bestOf by' ((es.drop i).take M))],bestOf by' p.2=p.2):=Lib.hid (fun p hp=>by
        rcases List.mem_append.1 hp with hp | hp
        ·exact HB1.out p hp
        ·rw [List.mem_singleton.1 hp];exact bestOf_same _ _)
       have hNMok:okName (nmOf true out rs.length)=true/\ofSort out (nmOf true out rs.length):=⟨tName_ok (by omega), .inr ⟨_,by omega,rfl⟩⟩;have HNMO:=Lib.hid hNMok;clear hKmin hNMok;have hcallf:=Lib.hid (fresh_any HJ5.out (by omega) HNE.out);unfold ptrTo at hcallf;have hgt:(N:Int) > (M:Int):=by have:=HNM.out;omega
       go_wp2_with fail
       refine hcallf.out.mono ?_;rintro e W6 ⟨rfl,hj6,ht6⟩;have HM6:=Lib.hid (HM5.out.turned (HM5.out.free hjl HOJ.out) (.inl (.inr rfl)) ht6);have HJ6:=Lib.hid hj6;have HS6:Hid (SourceAt W6 cb sb (i+k) N x2):=Lib.hid (HS5.out.kept (ht6.block cb HS5.out.lt HCJ.out));have HV6:Hid (W6.ownsRow w.heap.size 9 1 v rs.length ((rs.map (·.1)).map Value.string)):=Lib.hid (ht6.ownsRow HV5.out (fun b hb e=>by have:=ownsRow_block HV5.out b hb;omega));have HL6:Hid (ownsEdges W6 w.heap.size (.slice la k lc) ((es.drop i).take M)):=Lib.hid (ht6.ownsRow HL5.out (fun b hb e=>by have:=ownsRow_block HL5.out b hb;omega));have hsz6:w.heap.size<=W6.heap.size:=HM6.out.size;clear hj6 ht6 hcallf;have hNMe:nmOf true out rs.length=tName rs.length:=rfl;rw [hNMe] at HFRESH hdec hlen' HNM2 HNMO HB2;clear hNMe;generalize hNMg:tName rs.length=NM at *;clear hNMg;generalize hcc:(es.drop i).take M=C at *;clear hcc;have hvl:(rs.map (·.1)).length<=100000:=by rw [List.length_map];omega
       have HV6':Hid (W6.ownsRow w.heap.size 9 1 v (rs.map (·.1)).length ((rs.map (·.1)).map Value.string)):=Lib.hid (by rw [List.length_map];exact HV6.out);go_wp2_with (at_builtin;refine wpList_append_str rfl _ _ rfl w.heap.size _ _ rfl HV6'.out NM 1 rfl hvl hsz6 ?_)
       intro v7 W7 hv7 ha7;obtain ⟨hm7,hvf7,hh7,hz7⟩:=ha7.moved HM6.out (fun x hx=>⟨HVF2.out x hx,ownsRow_block HV6.out x hx⟩);have hvb:∀ x,v.ownBlock=some x->w.heap.size<=x:=fun x hx=>ownsRow_block HV6.out x hx;have HM7:=Lib.hid hm7;have HV7:Hid (W7.ownsRow w.heap.size 9 1 v7 (rs.map (·.1)++[NM]).length ((rs.map (·.1)++[NM]).map Value.string)):=Lib.hid (by simpa using hv7);have HVF7:=Lib.hid hvf7;have HJ7:Hid (JobAt W7 jb pb byb (rs.length+1) by'):=Lib.hid (HJ6.out.kept (hh7 jb (by omega) (fun e=>by have:=hvb _ e;omega)) (hh7 byb (by omega) (fun e=>by have:=hvb _ e;omega)));have HS7:Hid (SourceAt W7 cb sb (i+k) N x2):=Lib.hid (HS6.out.kept (hh7 cb (by omega) (fun e=>by have:=hvb _ e;omega)));have HL7:Hid (ownsEdges W7 w.heap.size (.slice la k lc) C):=Lib.hid (ownsRow_heap HL6.out (fun x hx=>hh7 x (ownBlock_old HL6.out x hx).1 (fun e=>ownsRow_apart HL6.out HV6.out (by decide) x hx e)));have HAP:Hid (∀ x,(Value.slice la k lc).ownBlock=some x->v7.ownBlock≠some x):=Lib.hid (fun x hx=>ownsRow_apart HL7.out HV7.out (by decide) x hx);have hsz7:w.heap.size<=W7.heap.size:=hm7.size;clear hm7 hv7 hvf7 hh7 ha7 hvb hz7;have hcallw:=Lib.hid (hwrite.out W7 o2 d2 (rs.length+1) rs NM HM7.out HJ7.out HNMO.out.1 HFRESH.out (.slice la k lc) C HL7.out (fun x hx=>⟨HLF2.out x hx,ownsRow_block HL7.out x hx⟩) (by rw [HKL.out];omega));go_wp2_with fail
       refine hcallw.out.mono ?_;rintro e W8 ⟨c8,d8,o8,L8,rfl,hm8,hc8,hot8⟩;have HM8:=Lib.hid (HM7.out.trans hm8 (fun x hx e=>by have:=ownsRow_block HL7.out x e;omega));have HJ8:Hid (JobAt W8 jb pb byb (rs.length+1) by'):=Lib.hid (HJ7.out.kept (hm8.block HJ7.out.lt.1 (HM7.out.free hjl HOJ.out) (fun e=>by have:=ownsRow_block HL7.out _ e;omega)) (hm8.block HJ7.out.lt.2 (HM7.out.free hbl HOB.out) (fun e=>by have:=ownsRow_block HL7.out _ e;omega)));have HS8:Hid (SourceAt W8 cb sb (i+k) N x2):=Lib.hid (HS7.out.kept (hm8.block HS7.out.lt (HM7.out.free hcl HOC.out) (fun e=>by have:=ownsRow_block HL7.out _ e;omega)));have HV8:Hid (W8.ownsRow w.heap.size 9 1 v7 (rs.map (·.1)++[NM]).length ((rs.map (·.1)++[NM]).map Value.string)):=Lib.hid (hm8.ownsRow HV7.out (fun b hb=>⟨(HVF7.out b hb).1,fun e=>HAP.out b e hb⟩));have HVF8:Hid (∀ x,v7.ownBlock=some x->o8 x=none):=Lib.hid (fun x hx=>hm8.free (ownBlock_old HV7.out x hx).1 (HVF7.out x hx).1);by_cases hc:c8=0
       ·subst hc;have hL8:L8=runsL (rs++[(NM,bestOf by' C)]) L:=by
         rcases hc8 with ⟨_,e⟩ | e
         ·rw [runsL_snoc];exact e
         ·exact absurd rfl e.ne
        rw [hL8] at HM8;clear hL8 hm8 hc8 hot8 hcallw;obtain ⟨⟨-,-,hs2''⟩,-⟩:=HS8.out.cells;by_cases hN0:N=0
        ·exact absurd hN0 (by omega)
        ·have hN0':¬ (N:Int)=0:=by omega
         have hk1:0 < k:=by omega
         go_wp2;go_roundw
         case rel=>exact ⟨rs++[(NM,bestOf by' C)],i+k,d8,o8,x2,HM8.out,by rw [List.length_append];exact HJ8.out,by rw [HNN.out];exact HS8.out,by rw [List.length_append,List.map_append];rw [List.length_append,List.length_map] at HV8;exact HV8.out,HVF8.out,by rw [HNM2.out,List.length_append];rfl,by rw [HNN.out,List.length_append];exact HI2.out,HB2.out,hdec.out,hlen'.out,(fun h=>by cases h),(fun _=>by rw [HNN.out];omega),by rw [List.length_append];exact hr51⟩
         case measure=>rw [HM1l.out,srcLeft_at HS8.out];omega
       ·have hc':¬ (c8:Int)=0:=by omega
        have HOT8:Hid (∀ x,¬ ofSort out x->mget L8 x=mget L x):=Lib.hid (fun x hx=>by
         rw [hot8 x (fun e=>hx (e ▸ HNMO.out.2)),HOTH.out x hx])
        have HE8:Hid (ErrN d d8 (need L+8*N) c8):=Lib.hid (by
         rcases hc8 with ⟨e,_⟩ | e
         ·exact absurd e hc
         ·rw [HKL.out] at e;exact (e.mono hbnd.out).later HM7.out.on.quota)
        clear hc hm8 hc8 hot8 hcallw;go_wp2;go_ret2
        exact ⟨_,c8,d8,o8,_,rfl,HM8.out,HOT8.out, .inr (by rw [HNN.out];exact HE8.out)⟩
    ·obtain ⟨la,lc,rfl⟩:∃ a cap,l=.slice a k cap:=by
      rcases ownsEdges_shape HL2.out with ⟨h1,h2⟩ | ⟨g,cap,h1,_⟩
      ·rw [h1] at hkl;subst h2;exact ⟨none,0,by rw [<- hkl];rfl⟩
      ·rw [hkl] at h1;exact ⟨_,_,h1⟩
     have HKL:=Lib.hid hkl;have hcl5:k=M:=by omega
     have hcl6:(es.drop i).take M=(es.drop i).take k:=by rw [hcl5]
     rw [<- hcl6] at HL2 HKL;have HM5:=Lib.hid HM2.out;have HJ5:=Lib.hid HJ2.out;have HS5:=Lib.hid HS2.out;have HV5:=Lib.hid HV2.out;have HL5:=Lib.hid HL2.out;have HM1l:Hid (srcLeft wr1 cb N=N - i):=Lib.hid (srcLeft_at HS1.out);have hsz5:w.heap.size<=wr2.heap.size:=hsz2;have hKmin:k=min M (N - i):=by omega
     have hlt':¬ ((k:Int) < (M:Int)):=by omega
     clear hcl6 hkl HM2 HJ2 HS2 HV2 HL2 HML2 hsz2 hlt hcl5;generalize wr2=W5 at *;obtain ⟨⟨-,-,hs2'⟩,-⟩:=HS5.out.cells;by_cases hK0:k=0/\0 < N
     ·exfalso
      have:=hM48;omega
     ·have hKN:0 < k\/N=0:=by omega
      have hiK:i+k<=N:=by omega
      have hR0:rs.length < 51/\True:=by
       have h1:=HI1.out;have h2:rs.length*48<=rs.length*M:=Nat.mul_le_mul_left _ hM48.1;have h3:=HNM.out;exact ⟨by omega,trivial⟩
      have HR0:=Lib.hid hR0;have HFRESH:Hid (mget (runsL rs L) (nmOf true out rs.length)=none):=Lib.hid (by
       rw [runsL_other]
       ·exact HNT.out _
       ·rw [HNM1.out];exact next_fresh true out rs.length (fun h=>by cases h))
      have hdec:Hid (bestOf by' (allOf (rs++[(nmOf true out rs.length,bestOf by' ((es.drop i).take M))]))=bestOf by' (es.take (i+k))):=Lib.hid (by
       rw [allOf_append];have e1:es.take (i+k)=es.take i++(es.drop i).take M:=by
        rw [List.take_add];congr 1;rw [List.take_eq_take_iff,List.length_drop,HNN.out];omega
       rw [e1];have e2:allOf [(nmOf true out rs.length,bestOf by' ((es.drop i).take M))]=bestOf by' ((es.drop i).take M):=by simp [allOf]
       rw [e2];exact bestOf_lr HALL1.out (bestOf_same _ _))
      have hlen':Hid (lens (rs++[(nmOf true out rs.length,bestOf by' ((es.drop i).take M))])<=i+k):=Lib.hid (by
       rw [lens_append];have h1:=HLEN1.out;have h2:=bestOf_length by' ((es.drop i).take M)
       rw [HKL.out] at h2;have h3:lens [(nmOf true out rs.length,bestOf by' ((es.drop i).take M))]=(bestOf by' ((es.drop i).take M)).length:=by simp [lens]
       omega)
      have hbnd:Hid (need (runsL rs L)+4*k<=need L+8*N):=Lib.hid (by
       have h1:=runsL_need rs L;have h2:=HLEN1.out;omega)
      have HNM2:Hid (((rs++[(nmOf true out rs.length,bestOf by' ((es.drop i).take M))]).map (·.1))=(List.range (rs.length+1)).map (nmOf true out)):=Lib.hid (by
       rw [List.map_append,HNM1.out,List.range_succ,List.map_append];rfl)
      have HI2:Hid (i+k=min N ((rs.length+1)*M)):=Lib.hid (by
       have h1:=HI1.out;rw [Nat.add_mul,Nat.one_mul];generalize rs.length*M=P at *;omega)
      have hr51:rs.length < 51:=hR0.1;clear hR0;have HB2:Hid (∀ p∈rs++[(nmOf true out rs.length,bestOf by' ((es.drop i).take M))],bestOf by' p.2=p.2):=Lib.hid (fun p hp=>by
       rcases List.mem_append.1 hp with hp | hp
       ·exact HB1.out p hp
       ·rw [List.mem_singleton.1 hp];exact bestOf_same _ _)
      have hNMok:okName (nmOf true out rs.length)=true/\ofSort out (nmOf true out rs.length):=⟨tName_ok (by omega), .inr ⟨_,by omega,rfl⟩⟩;have HNMO:=Lib.hid hNMok;clear hKmin hNMok;have hcallf:=Lib.hid (fresh_any HJ5.out (by omega) HNE.out);unfold ptrTo at hcallf;have hgt:(N:Int) > (M:Int):=by have:=HNM.out;omega
      go_wp2_with fail
      refine hcallf.out.mono ?_;rintro e W6 ⟨rfl,hj6,ht6⟩;have HM6:=Lib.hid (HM5.out.turned (HM5.out.free hjl HOJ.out) (.inl (.inr rfl)) ht6);have HJ6:=Lib.hid hj6;have HS6:Hid (SourceAt W6 cb sb (i+k) N x2):=Lib.hid (HS5.out.kept (ht6.block cb HS5.out.lt HCJ.out));have HV6:Hid (W6.ownsRow w.heap.size 9 1 v rs.length ((rs.map (·.1)).map Value.string)):=Lib.hid (ht6.ownsRow HV5.out (fun b hb e=>by have:=ownsRow_block HV5.out b hb;omega));have HL6:Hid (ownsEdges W6 w.heap.size (.slice la k lc) ((es.drop i).take M)):=Lib.hid (ht6.ownsRow HL5.out (fun b hb e=>by have:=ownsRow_block HL5.out b hb;omega));have hsz6:w.heap.size<=W6.heap.size:=HM6.out.size;clear hj6 ht6 hcallf;have hNMe:nmOf true out rs.length=tName rs.length:=rfl;rw [hNMe] at HFRESH hdec hlen' HNM2 HNMO HB2;clear hNMe;generalize hNMg:tName rs.length=NM at *;clear hNMg;generalize hcc:(es.drop i).take M=C at *;clear hcc;have hvl:(rs.map (·.1)).length<=100000:=by rw [List.length_map];omega
      have HV6':Hid (W6.ownsRow w.heap.size 9 1 v (rs.map (·.1)).length ((rs.map (·.1)).map Value.string)):=Lib.hid (by rw [List.length_map];exact HV6.out);go_wp2_with (at_builtin;refine wpList_append_str rfl _ _ rfl w.heap.size _ _ rfl HV6'.out NM 1 rfl hvl hsz6 ?_)
      intro v7 W7 hv7 ha7;obtain ⟨hm7,hvf7,hh7,hz7⟩:=ha7.moved HM6.out (fun x hx=>⟨HVF2.out x hx,ownsRow_block HV6.out x hx⟩);have hvb:∀ x,v.ownBlock=some x->w.heap.size<=x:=fun x hx=>ownsRow_block HV6.out x hx;have HM7:=Lib.hid hm7;have HV7:Hid (W7.ownsRow w.heap.size 9 1 v7 (rs.map (·.1)++[NM]).length ((rs.map (·.1)++[NM]).map Value.string)):=Lib.hid (by simpa using hv7);have HVF7:=Lib.hid hvf7;have HJ7:Hid (JobAt W7 jb pb byb (rs.length+1) by'):=Lib.hid (HJ6.out.kept (hh7 jb (by omega) (fun e=>by have:=hvb _ e;omega)) (hh7 byb (by omega) (fun e=>by have:=hvb _ e;omega)));have HS7:Hid (SourceAt W7 cb sb (i+k) N x2):=Lib.hid (HS6.out.kept (hh7 cb (by omega) (fun e=>by have:=hvb _ e;omega)));have HL7:Hid (ownsEdges W7 w.heap.size (.slice la k lc) C):=Lib.hid (ownsRow_heap HL6.out (fun x hx=>hh7 x (ownBlock_old HL6.out x hx).1 (fun e=>ownsRow_apart HL6.out HV6.out (by decide) x hx e)));have HAP:Hid (∀ x,(Value.slice la k lc).ownBlock=some x->v7.ownBlock≠some x):=Lib.hid (fun x hx=>ownsRow_apart HL7.out HV7.out (by decide) x hx);have hsz7:w.heap.size<=W7.heap.size:=hm7.size;clear hm7 hv7 hvf7 hh7 ha7 hvb hz7;have hcallw:=Lib.hid (hwrite.out W7 o2 d2 (rs.length+1) rs NM HM7.out HJ7.out HNMO.out.1 HFRESH.out (.slice la k lc) C HL7.out (fun x hx=>⟨HLF2.out x hx,ownsRow_block HL7.out x hx⟩) (by rw [HKL.out];omega));go_wp2_with fail
      refine hcallw.out.mono ?_;rintro e W8 ⟨c8,d8,o8,L8,rfl,hm8,hc8,hot8⟩;have HM8:=Lib.hid (HM7.out.trans hm8 (fun x hx e=>by have:=ownsRow_block HL7.out x e;omega));have HJ8:Hid (JobAt W8 jb pb byb (rs.length+1) by'):=Lib.hid (HJ7.out.kept (hm8.block HJ7.out.lt.1 (HM7.out.free hjl HOJ.out) (fun e=>by have:=ownsRow_block HL7.out _ e;omega)) (hm8.block HJ7.out.lt.2 (HM7.out.free hbl HOB.out) (fun e=>by have:=ownsRow_block HL7.out _ e;omega)));have HS8:Hid (SourceAt W8 cb sb (i+k) N x2):=Lib.hid (HS7.out.kept (hm8.block HS7.out.lt (HM7.out.free hcl HOC.out) (fun e=>by have:=ownsRow_block HL7.out _ e;omega)));have HV8:Hid (W8.ownsRow w.heap.size 9 1 v7 (rs.map (·.1)++[NM]).length ((rs.map (·.1)++[NM]).map Value.string)):=Lib.hid (hm8.ownsRow HV7.out (fun b hb=>⟨(HVF7.out b hb).1,fun e=>HAP.out b e hb⟩));have HVF8:Hid (∀ x,v7.ownBlock=some x->o8 x=none):=Lib.hid (fun x hx=>hm8.free (ownBlock_old HV7.out x hx).1 (HVF7.out x hx).1);by_cases hc:c8=0
      ·subst hc;have hL8:L8=runsL (rs++[(NM,bestOf by' C)]) L:=by
        rcases hc8 with ⟨_,e⟩ | e
        ·rw [runsL_snoc];exact e
        ·exact absurd rfl e.ne
       rw [hL8] at HM8;clear hL8 hm8 hc8 hot8 hcallw;obtain ⟨⟨-,-,hs2''⟩,-⟩:=HS8.out.cells;by_cases hN0:N=0
       ·exact absurd hN0 (by have:=HNM.out;omega)
       ·have hN0':¬ (N:Int)=0:=by omega
        have hk1:0 < k:=by omega
        go_wp2;go_roundw
        case rel=>exact ⟨rs++[(NM,bestOf by' C)],i+k,d8,o8,x2,HM8.out,by rw [List.length_append];exact HJ8.out,by rw [HNN.out];exact HS8.out,by rw [List.length_append,List.map_append];rw [List.length_append,List.length_map] at HV8;exact HV8.out,HVF8.out,by rw [HNM2.out,List.length_append];rfl,by rw [HNN.out,List.length_append];exact HI2.out,HB2.out,hdec.out,hlen'.out,(fun h=>by cases h),(fun _=>by rw [HNN.out];omega),by rw [List.length_append];exact hr51⟩
        case measure=>rw [HM1l.out,srcLeft_at HS8.out];omega
      ·have hc':¬ (c8:Int)=0:=by omega
       have HOT8:Hid (∀ x,¬ ofSort out x->mget L8 x=mget L x):=Lib.hid (fun x hx=>by
        rw [hot8 x (fun e=>hx (e ▸ HNMO.out.2)),HOTH.out x hx])
       have HE8:Hid (ErrN d d8 (need L+8*N) c8):=Lib.hid (by
        rcases hc8 with ⟨e,_⟩ | e
        ·exact absurd e hc
        ·rw [HKL.out] at e;exact (e.mono hbnd.out).later HM7.out.on.quota)
       clear hc hm8 hc8 hot8 hcallw;go_wp2;go_ret2
       exact ⟨_,c8,d8,o8,_,rfl,HM8.out,HOT8.out, .inr (by rw [HNN.out];exact HE8.out)⟩
end
end
section
open Go.RowKit Go.Maps Go.MapKept
section
variable {w w':World} {pb db n cb kb sb jb byb made:Nat} {by':Bool} {name:Name} {o o':Owner} {d d':Dsk} {L L':Logic}
def SortsPost (S:Nat->Prop) (n pb db:Nat) (w:World) (o:Owner) (d:Dsk) (L:Logic) (out:Name) (best:List Edg) (N:Nat) (e:Ending) (w':World):Prop:=
 ∃ c d' o' L',e=.returned (.int .i64 ((c:Nat):Int))/\Moved S n pb db w o d w' o' d' L'/\(∀ x,¬ ofSort out x->mget L' x=mget L x)/\((c=0/\∀ x,mget L' x=mget (mput L out (edgeFile best true)) x)\/ErrN d d' (need L+8*N) c)
def JobSortSaid (m:Nat):Prop:=∀ {w:World} {pb db n cb sb jb byb:Nat} {by':Bool} {o:Owner} {d:Dsk} {L:Logic},PoolAt w pb db n o d L->8<=n->JobAt w jb pb byb 0 by'->o jb=none->o byb=none->byb≠jb ->
 ∀ {es:List Edg} {fl:Bool} {inn out:Name} {x0:Edg},mget L inn=some (edgeFile es fl)->SourceAt w cb sb 0 es.length x0->StreamAt w sb pb inn 20->o cb=none->o sb=none->cb≠jb->cb≠byb->sb≠jb->sb≠cb ->
 okName out=true->mget L out=none->(∀ k,mget L (tName k)=none)->(∀ k,out≠tName k)->es.length<=m ->
 Calls Tryz.prog 117 #[ptrTo jb,ptrTo cb, .string out] w (SortsPost (fun x=>x=cb\/x=jb) n pb db w o d L out (bestOf by' es) es.length)
theorem flush_pool (HW:WriteSaid) (h:PoolAt w pb db n o d L) {ps:List Pg} {fl:Bool} (hL:mget L name=some (.inl (ps,fl))) :
 Calls Tryz.prog 79 #[ptrTo pb, .string name] w (LaidPost (fun _=>False) n pb db w o d L (mput L name (.inl (ps,true)))):=
 (flush_any HW h hL).mono fun _ _ ⟨c,d',o',he,hp,ht,hg,hon,hc⟩=>⟨c,d',o',he,moved_of hp ht hg hon,hc⟩
set_option maxRecDepth 100000 in
set_option maxHeartbeats 4000000 in
theorem jobSort_small (HW:WriteSaid) {m:Nat} (HS:SortSaid m) (hm48:m<=48):JobSortSaid m:=by
 intro w pb db n cb sb jb byb by' o d L h hn hj hoj hob hne es fl inn out x0 hL hsrc hst hoc hos hcj hcb hsj hsc hout hno hnt hto hm
 have hruns:=Lib.hid (jobRuns_any HW HS h hn hj hoj hob hne hL hsrc hst hoc hos hcj hcb hsj hsc hout hno hnt hto hm (by omega));have hframes:Hid (∀ W o' d' L',PoolAt W pb db n o' d' L'->Calls Tryz.prog 44 #[ptrTo pb] W fun e w'=>e=.returned (.int .i64 (n:Int))/\W=w'):=Lib.hid (fun W o' d' L' hW=>poolFrames_any hW);have hflush:Hid (∀ W o' d' L' x,PoolAt W pb db n o' d' L'->mget L' out=some (edgeFile x false)->Calls Tryz.prog 79 #[ptrTo pb, .string out] W (LaidPost (fun _=>False) n pb db W o' d' L' (mput L' out (edgeFile x true)))):=Lib.hid (fun W o' d' L' x hW hL'=>flush_pool HW hW hL');have hn2:n<=4096:=by
  obtain ⟨fb,mb,l,hand,mf,hp,rfl,-⟩:=h;exact hp.most
 have HNO:=Lib.hid hno;have HTO:=Lib.hid hto;have HN48:es.length<=48:=by omega
 clear h hn hj hoj hob hne hL hsrc hst hoc hos hcj hcb hsj hsc hout hno hnt hto hm;unfold ptrTo at *;have hw1:IntKind.i64.wrap ((n:Int) - 4)=(n:Int) - 4:=wrap_in (by omega) (by omega);go_enter Tryz.func117,Tryz.ntmps117
 go_wp2_with fail
 refine hruns.out.mono ?_;rintro e w1 ⟨v1,c1,d1,o1,L1,rfl,hm1,hot1,hc1⟩;have HM1:=Lib.hid hm1;have HOT1:=Lib.hid hot1;rcases hc1 with ⟨rfl,rs,r,hL1,hok,hnm,hrr,hr51,hj1,hv1,hvf1⟩ | he1
 ·have hone:∃ x,rs=[(out,x)]:=by
   rcases hnm with h | ⟨h,_⟩
   ·exact h
   ·omega
  obtain ⟨x,rfl⟩:=hone;have hx:x=bestOf by' es:=by
   have h1:=hok.each (out,x) (by simp);have h2:=hok.all;simp only [allOf,List.map_cons,List.map_nil,List.flatten_cons,List.flatten_nil,List.append_nil] at h2;rw [<- h2];exact h1.symm
  have hL1':L1=mput L out (edgeFile x false):=hL1;obtain ⟨g,off,cap,rfl⟩:=hv1.shape;have HX:=Lib.hid hx;have HL1:=Lib.hid hL1';have hfl:=Lib.hid (hflush.out w1 o1 d1 L1 x hm1.pool (by rw [hL1',mget_mput,if_pos rfl]));obtain ⟨hj0,-⟩:=hj1.cells;have hpool1:=Lib.hid (hframes.out w1 o1 d1 L1 hm1.pool);have hNE:Hid (need L1<=need L+8*es.length):=Lib.hid (by
   have h1:=runsL_need [(out,x)] L;have h2:=hok.len;rw [hL1];omega)
  clear hx hL1 hL1' hok hnm hrr hr51 hj1 hv1 hvf1 hm1 hot1;unfold ptrTo at hj0;simp only [List.map_cons,List.map_nil,List.length_cons,List.length_nil] at *;go_wp2_with fail
  refine hpool1.out.mono ?_;rintro e w2 ⟨rfl,rfl⟩;go_wp2;go_loopw [7] (fun v wr=>v=.slice (some ⟨g,off,none⟩) (0+1) cap/\wr=w1) (fun _ _=>0)
  case atStart=>exact ⟨rfl,rfl⟩
  case round=>
   obtain ⟨rfl,rfl⟩:=hrel;go_wp2_with fail
   refine hfl.out.mono ?_;rintro e w3 ⟨c3,d3,o3,rfl,hm3,he3⟩;have HM3:=Lib.hid (HM1.out.trans hm3 (fun _ _ h=>h.elim));have HE3:=Lib.hid he3;clear hm3 he3;go_wp2;go_ret;refine ⟨c3,d3,o3,_,rfl,HM3.out,fun y hy=>?_,?_⟩
   ·have h1:=HOT1.out y hy;split
    ·rw [mget_mput,if_neg (fun e=>hy (.inl e)),h1]
    ·exact h1
   ·rcases HE3.out with h | h
    ·subst h;refine .inl ⟨rfl,fun y=>?_⟩;rw [if_pos rfl,HL1.out,mput_mput,HX.out]
    ·exact .inr ((h.num hNE.out).later HM1.out.on.quota)
 ·have hc1':¬ (c1:Int)=0:=by have:=he1.ne;omega
  have HE1:=Lib.hid he1;clear he1 hm1 hot1;go_wp2;go_ret;exact ⟨c1,d1,o1,L1,rfl,HM1.out,HOT1.out, .inr HE1.out⟩
end
end
section
open Go.RowKit Go.Maps Go.MapKept
def dotT:ByteArray:=⟨#[116,46]⟩
def ownName (x:Name):Bool:=Lib.hasPrefix x.data.toList dotT.data.toList
theorem ownName_t (k:Nat):ownName (tName k)=true:=by
 unfold ownName tName dotT Lib.hasPrefix;simp
section
variable {w w':World} {pb db n cb kb sb jb byb made:Nat} {by':Bool} {name:Name} {o o':Owner} {d d':Dsk} {L L':Logic}
theorem hasPre_any (s:ByteArray) (w:World):Calls Tryz.prog 114 #[.string s, .string ⟨#[116,46]⟩] w fun e w'=>e=.returned (.bool (ownName s))/\w=w':=
 (Any.strings_HasPrefix (P:=Tryz.prog) (ρ:=Tryz.hasPre_ren) { Tryz.hasPre with } s ⟨#[116,46]⟩ w).mono fun _ _ ⟨h1,h2⟩=>⟨h1,h2.symm⟩
theorem source_ne_stream {i N:Nat} {x:Edg} {sz:Nat} (h:SourceAt w cb sb i N x) (hs:StreamAt w sb pb name sz):sb≠cb:=by
 rintro rfl;obtain ⟨t,h1⟩:=h;obtain ⟨t',h2⟩:=hs;rw [h1] at h2;have:=Option.some.inj h2;injection this with a b;have:=congrArg Array.size a;simp at this
theorem jobAt_new (w:World) (pb:Nat) (x:Int) (b:Bool) (hx:x=(byNum b:Int)):JobAt ((w.alloc (.cells #[.int .i64 x] 3)).alloc (.cells #[.pointer (some ⟨pb,0,none⟩), .func (.func 115) #[] #[.pointer (some ⟨w.heap.size,0,none⟩)], .int .i64 0] 205)) (w.heap.size+1) pb w.heap.size 0 b:=by
 subst hx;refine ⟨⟨205,?_⟩,⟨3,?_⟩⟩
 ·have:=heap_alloc_new (w.alloc (.cells #[.int .i64 (byNum b:Int)] 3)) (.cells #[.pointer (some ⟨pb,0,none⟩), .func (.func 115) #[] #[.pointer (some ⟨w.heap.size,0,none⟩)], .int .i64 0] 205);rw [show (w.alloc (.cells #[.int .i64 (byNum b:Int)] 3)).heap.size=w.heap.size+1 by simp] at this;exact this
 ·rw [(MapKept.heap_alloc _ _).2 _ (by simp)];exact heap_alloc_new w _
set_option maxRecDepth 100000 in
set_option maxHeartbeats 8000000 in
theorem sort_done (HW:WriteSaid) {m:Nat} (HJS:JobSortSaid m) (h:PoolAt w pb db n o d L) (hn:8<=n) {es:List Edg} {fl:Bool} {inn out:Name} (hL:mget L inn=some (edgeFile es fl)) (hio:inn≠out) (hi:ownName inn=false) (ho:ownName out=false)
 (hout:okName out=true) (hno:mget L out=none) (hnt:∀ k,mget L (tName k)=none) (hm:es.length<=m) :
 Calls Tryz.prog 77 #[ptrTo pb, .string inn, .string out, .int .i64 (byNum by':Int)] w (SortsPost (fun _=>False) n pb db w o d L out (bestOf by' es) es.length):=by
 have hto:∀ k,out≠tName k:=fun k e=>by rw [e,ownName_t] at ho;cases ho
 have hp1:=Lib.hid (hasPre_any inn);have hp2:=Lib.hid (hasPre_any out);simp only [hi] at hp1;simp only [ho] at hp2;have hframes:=Lib.hid (fun W (hW:Below w.heap.size w W)=>poolFrames_any (h.below hW));have hopen:Hid (∀ W,Below w.heap.size w W->∀ jb byb,JobAt W jb pb byb 0 by'->Calls Tryz.prog 116 #[ptrTo jb, .string inn] W (OpenSrcPost n pb db W o d L inn es.length)):=Lib.hid (fun W hW jb byb hj=>jobOpen_any HW (h.below hW) hj hL);have hcr:Hid (∀ W o' d',PoolAt W pb db n o' d' L->Calls Tryz.prog 71 #[ptrTo pb, .string out] W (CreatePost n pb db W o' d' L out)):=Lib.hid (fun W o' d' hW=>create_pool hW out (okName_1000 hout));have hcode:Hid (∀ d':Dsk,createCode d' L out=if d'.tick.dead=true then 6 else 0):=Lib.hid (fun d'=>by
  unfold createCode;rw [hout,hno];rfl)
 have hdrop:Hid (∀ W o' d',PoolAt W pb db n o' d' (mput L out (.inl (([]:List Pg),true)))->Calls Tryz.prog 62 #[ptrTo pb, .string out] W (DropPost W pb db n o' d' (mput L out (.inl (([]:List Pg),true))) out)):=Lib.hid (fun W o' d' hW=>drop_any hW (ps:=[]) (fl:=true) (by rw [mget_mput,if_pos rfl]));have hdel:Hid (mdel (mput L out (.inl (([]:List Pg),true))) out=L):=Lib.hid (by rw [mdel_mput,mdel_fresh hno]);have hsort:Hid (∀ W o' d' cb sb jb byb,PoolAt W pb db n o' d' L->JobAt W jb pb byb 0 by'->o' jb=none->o' byb=none->byb≠jb->SourceAt W cb sb 0 es.length edg0->StreamAt W sb pb inn 20->o' cb=none->o' sb=none->cb≠jb->cb≠byb->sb≠jb->sb≠cb ->
  Calls Tryz.prog 117 #[ptrTo jb,ptrTo cb, .string out] W (SortsPost (fun x=>x=cb\/x=jb) n pb db W o' d' L out (bestOf by' es) es.length)):=Lib.hid (fun W o' d' cb sb jb byb a1 a2 a3 a4 a5 a6 a7 a8 a9 b1 b2 b3 b4=>HJS a1 hn a2 a3 a4 a5 hL a6 a7 a8 a9 b1 b2 b3 b4 hout hno hnt hto hm)
 have hne:(inn.toList == out.toList)=false:=bytes_ne hio;have hn2:n<=4096:=by
  obtain ⟨fb,mb,l,hand,mf,hp,rfl,-⟩:=h;exact hp.most
 have H:=Lib.hid h;have hn8:¬ (n:Int) < 8:=by omega
 clear h hn hL hio hi ho hout hno hnt hm hto;have hby:((byNum by':Int)=0\/(byNum by':Int)=1):=by cases by'<;>simp [byNum]
 have HBW:Hid (∀ v,Below w.heap.size w (w.alloc (.cells #[v] 3))):=Lib.hid (fun v=>(Below.refl _ _).alloc (Nat.le_refl _) _);have HBC:Hid (∀ v,(w.alloc (.cells #[v] 3)).heap[w.heap.size]? = some (.cells #[v] 3)):=Lib.hid (fun v=>heap_alloc_new w _);obtain ⟨bn,hbn⟩:∃ bn:Int,bn=(byNum by':Int):=⟨_,rfl⟩;rw [<- hbn] at hby ⊢;have HBN:=Lib.hid hbn;clear hbn;unfold ptrTo at *;generalize es.length=N at *;rcases hby with rfl | rfl;all_goals
  go_enter Tryz.func77,Tryz.ntmps77
  go_wp2_with fail
  refine (hp1.out _).mono ?_;rintro e w' ⟨rfl,rfl⟩;go_wp2_with fail
  refine (hp2.out _).mono ?_;rintro e w' ⟨rfl,rfl⟩;go_wp2_with fail
  refine (hframes.out _ (HBW.out _)).mono ?_;rintro e w' ⟨rfl,rfl⟩;go_wp2_with fail
 all_goals
  first
   | (have HJ1:Hid (JobAt ((w.alloc (.cells #[.int .i64 0] 3)).alloc (.cells #[.pointer (some ⟨pb,0,none⟩), .func (.func 115) #[] #[.pointer (some ⟨w.heap.size,0,none⟩)], .int .i64 0] 205)) (w.heap.size+1) pb w.heap.size 0 by'):=Lib.hid (jobAt_new w pb 0 by' HBN.out)
      have HW1:Hid (Below w.heap.size w ((w.alloc (.cells #[.int .i64 0] 3)).alloc (.cells #[.pointer (some ⟨pb,0,none⟩), .func (.func 115) #[] #[.pointer (some ⟨w.heap.size,0,none⟩)], .int .i64 0] 205))):=Lib.hid ((HBW.out _).alloc (by simp) _);have hsz:w.heap.size+2=((w.alloc (.cells #[.int .i64 0] 3)).alloc (.cells #[.pointer (some ⟨pb,0,none⟩), .func (.func 115) #[] #[.pointer (some ⟨w.heap.size,0,none⟩)], .int .i64 0] 205)).heap.size:=by simp
      have HSZ:=Lib.hid hsz;clear hsz;generalize (w.alloc (.cells #[.int .i64 0] 3)).alloc (.cells #[.pointer (some ⟨pb,0,none⟩), .func (.func 115) #[] #[.pointer (some ⟨w.heap.size,0,none⟩)], .int .i64 0] 205)=W1 at *)
   | (have HJ1:Hid (JobAt ((w.alloc (.cells #[.int .i64 1] 3)).alloc (.cells #[.pointer (some ⟨pb,0,none⟩), .func (.func 115) #[] #[.pointer (some ⟨w.heap.size,0,none⟩)], .int .i64 0] 205)) (w.heap.size+1) pb w.heap.size 0 by'):=Lib.hid (jobAt_new w pb 1 by' HBN.out)
      have HW1:Hid (Below w.heap.size w ((w.alloc (.cells #[.int .i64 1] 3)).alloc (.cells #[.pointer (some ⟨pb,0,none⟩), .func (.func 115) #[] #[.pointer (some ⟨w.heap.size,0,none⟩)], .int .i64 0] 205))):=Lib.hid ((HBW.out _).alloc (by simp) _);have hsz:w.heap.size+2=((w.alloc (.cells #[.int .i64 1] 3)).alloc (.cells #[.pointer (some ⟨pb,0,none⟩), .func (.func 115) #[] #[.pointer (some ⟨w.heap.size,0,none⟩)], .int .i64 0] 205)).heap.size:=by simp
      have HSZ:=Lib.hid hsz;clear hsz;generalize (w.alloc (.cells #[.int .i64 1] 3)).alloc (.cells #[.pointer (some ⟨pb,0,none⟩), .func (.func 115) #[] #[.pointer (some ⟨w.heap.size,0,none⟩)], .int .i64 0] 205)=W1 at *)
  have hco:=Lib.hid (hopen.out W1 HW1.out (w.heap.size+1) w.heap.size HJ1.out);refine hco.out.mono ?_;rintro e w2 ⟨v2,c2,d2,o2,rfl,hm2,he2,hok2⟩;have HC2:=Lib.hid hm2;have HE2:=Lib.hid he2;have HM2:Hid (Moved (fun _=>False) n pb db w o d w2 o2 d2 L):=Lib.hid ((Moved.ofBelow H.out HW1.out).trans hm2 (fun _ _ h=>h));clear hm2 he2 hco;by_cases hc2:c2=0
  ·subst hc2;obtain ⟨cb,sb,rfl,hs2,hst2,hoc2,hos2,hcb2,hsb2⟩:=hok2 rfl;have HS2:=Lib.hid hs2;have HST2:=Lib.hid hst2;have HOC2:=Lib.hid hoc2;have HOS2:=Lib.hid hos2;have hcbl:=hs2.lt;have hsbl:=hst2.lt;have HNE2:Hid (sb≠cb):=Lib.hid (source_ne_stream hs2 hst2);have hcbg:w.heap.size+2<=cb:=by rw [HSZ.out];exact hcb2
   have hsbg:w.heap.size+2<=sb:=by rw [HSZ.out];exact hsb2
   clear hok2 hs2 hst2 hoc2 hos2 hcb2 hsb2;unfold ptrTo;have hcc:=Lib.hid (hcr.out w2 o2 d2 HM2.out.pool);unfold CreatePost at hcc;rw [hcode.out d2] at hcc;cases hd2:d2.tick.dead with
   | true=>
     rw [hd2,if_pos rfl] at hcc;have HD2:=Lib.hid hd2;clear hd2;go_wp2_with fail
     refine hcc.out.mono ?_;rintro e w3 ⟨d3,o3,rfl,hm3,-,hdd⟩;rw [if_neg (by decide)] at hm3;have HM3:=Lib.hid (HM2.out.trans hm3 (fun _ _ h=>h));have HDD:=Lib.hid (hdd (by first | exact HD2.out | trivial));clear hm3 hdd hcc;go_wp2;go_ret;exact ⟨6,d3,o3,L,rfl,HM3.out,fun _ _=>rfl, .inr (.inr ⟨rfl,HDD.out⟩)⟩
   | false=>
     rw [hd2,if_neg (by simp)] at hcc;clear hd2;go_wp2_with fail
     refine hcc.out.mono ?_;rintro e w3 ⟨d3,o3,rfl,hm3,-,-⟩;simp only [if_true] at hm3;have HC3:=Lib.hid (HC2.out.trans hm3 (fun _ _ h=>h));have HM3:=Lib.hid (HM2.out.trans hm3 (fun _ _ h=>h));have HS3:Hid (SourceAt w3 cb sb 0 N edg0):=Lib.hid (HS2.out.kept (hm3.block hcbl HOC2.out (fun h=>h)));have HST3:Hid (StreamAt w3 sb pb inn 20):=Lib.hid (HST2.out.moved hm3 HOS2.out (fun h=>h));have HOC3:Hid (o3 cb=none):=Lib.hid (hm3.free hcbl HOC2.out);have HOS3:Hid (o3 sb=none):=Lib.hid (hm3.free hsbl HOS2.out);have hcbl3:cb < w3.heap.size:=Nat.lt_of_lt_of_le hcbl hm3.size;have hsbl3:sb < w3.heap.size:=Nat.lt_of_lt_of_le hsbl hm3.size;have hdd:=Lib.hid (hdrop.out w3 o3 d3 hm3.pool);clear hm3 hcc;go_wp2_with fail
     refine hdd.out.mono ?_;rintro e w4 ⟨c4,d4,o4,L4,rfl,hp4,ht4,hg4,hon4,hdr4⟩;have hm4:Moved (fun _=>False) n pb db w3 o3 d3 w4 o4 d4 L4:=moved_of hp4 ht4 hg4 hon4;have HM4:=Lib.hid (HM3.out.trans hm4 (fun _ _ h=>h));have HC4:=Lib.hid (HC3.out.trans hm4 (fun _ _ h=>h));have HS4:Hid (SourceAt w4 cb sb 0 N edg0):=Lib.hid (HS3.out.kept (hm4.block hcbl3 HOC3.out (fun h=>h)));have HST4:Hid (StreamAt w4 sb pb inn 20):=Lib.hid (HST3.out.moved hm4 HOS3.out (fun h=>h));have HOC4:Hid (o4 cb=none):=Lib.hid (hm4.free hcbl3 HOC3.out);have HOS4:Hid (o4 sb=none):=Lib.hid (hm4.free hsbl3 HOS3.out);clear hp4 ht4 hg4 hon4 hm4 hdd;rcases hdr4 with ⟨rfl,he⟩ | ⟨rfl,hdead,dp,he⟩
     ·have he':=he.trans hdel.out;rw [he'] at HM4 HC4;have HJ4:Hid (JobAt w4 (w.heap.size+1) pb w.heap.size 0 by'):=Lib.hid (HJ1.out.moved HC4.out (H.out.fresh (by omega)) (H.out.fresh (Nat.le_refl _)) (fun h=>h) (fun h=>h));have hso:=Lib.hid (hsort.out w4 o4 d4 cb sb (w.heap.size+1) w.heap.size HM4.out.pool HJ4.out (HC4.out.free HJ1.out.lt.1 (H.out.fresh (by omega))) (HC4.out.free HJ1.out.lt.2 (H.out.fresh (Nat.le_refl _))) (by omega) HS4.out HST4.out HOC4.out HOS4.out (by omega) (by omega) (by omega) HNE2.out);clear he he';go_wp2_with fail
      refine hso.out.mono ?_;rintro e w5 ⟨c5,d5,o5,L5,rfl,hm5,hot5,hc5⟩;have HM5:=Lib.hid (HM4.out.trans hm5 (fun x hx e=>by omega));have HOT5:=Lib.hid hot5;have HC5:Hid ((c5=0/\∀ x,mget L5 x=mget (mput L out (edgeFile (bestOf by' es) true)) x)\/ErrN d d5 (need L+8*N) c5):=Lib.hid (hc5.imp id (fun h=>h.later HM4.out.on.quota));clear hm5 hot5 hc5 hso;go_wp2;go_ret;exact ⟨c5,d5,o5,L5,rfl,HM5.out,HOT5.out,HC5.out⟩
     ·have HE:=Lib.hid he;have HD:=Lib.hid hdead;clear he hdead;go_wp2;go_ret;refine ⟨6,d4,o4,L4,rfl,HM4.out,fun x hx=>?_, .inr (.inr ⟨rfl,HD.out⟩)⟩;rw [HE.out,mget_mput,if_neg (fun e=>hx (.inl e)),mget_mput,if_neg (fun e=>hx (.inl e))]
  ·have hc2':¬ (c2:Int)=0:=by omega
   have HE3:Hid (ErrN d d2 (need L+8*N) c2):=Lib.hid ((HE2.out.resolve_left hc2).num (Nat.le_add_right _ _));clear hc2 hok2;go_wp2;go_ret;exact ⟨c2,d2,o2,L,rfl,HM2.out,fun _ _=>rfl, .inr HE3.out⟩
end
end
section
open Go Go.RowKit
section
variable {P:Program} {C:World->Prop} {Pd:Nat->Value->World->Prop} {l:List Oper} {a0:Act}
structure RelInv (C:World->Prop) (Pd:Nat->Value->World->Prop) (l:List Oper) (a0:Act) (listed:Array Bool) (a:Act) (w:World):Prop where
 size:listed.size=l.length
 cls:C w
 tsz:a.tmps.size=a0.tmps.size
 dfr:a.defers=a0.defers
 out:∀ k,(∀ o∈l,o.dst≠some k)->a.tmps[k]? = a0.tmps[k]?
 slot:∀ (i:Nat) (o:Oper) (k:Nat),l[i]? = some o->o.dst=some k->listed.getD i true=true->∃ v,a.tmps[k]? = some v/\Pd i v w
def RelDeps (Pd:Nat->Value->World->Prop) (l:List Oper) (a0:Act) (o:Oper) (a:Act) (w:World):Prop:=
 (∀ k,(∀ o∈l,o.dst≠some k)->a.tmps[k]? = a0.tmps[k]?)/\a.tmps.size=a0.tmps.size /\
 ∀ e∈o.after,Region.binds .any e=true->∀ (oj:Oper) (k:Nat),l[e.on]? = some oj->oj.dst=some k->∃ v,a.tmps[k]? = some v/\Pd e.on v w
def RelStep (P:Program) (Pd:Nat->Value->World->Prop) (i:Nat) (o:Oper) (a:Act) (w:World):Prop:=
 ∀ (Q:Exit->Act->World->Prop) (K:Act->World->Prop),(∀ v w',Below w.heap.size w w'->Pd i v w'->K (a.put o.dst v) w')->o.wp P a w K Q
theorem wpAny_rel {Q:Exit->Act->World->Prop} (hg:∀ o∈l,o.guard=none)
 (hd:∀ (i j:Nat) (oi oj:Oper) (k:Nat),l[i]? = some oi->l[j]? = some oj->oi.dst=some k->oj.dst=some k->i=j) (hb:∀ o∈l,∀ k,o.dst=some k->k < a0.tmps.size)
 (hmono:∀ w w',C w->Below w.heap.size w w'->C w') (hP:∀ i v w w',Below w.heap.size w w'->Pd i v w->Pd i v w')
 (hstep:∀ (i:Nat) (o:Oper),l[i]? = some o->∀ a w,C w->RelDeps Pd l a0 o a w->RelStep P Pd i o a w)
 (hend:∀ listed a w,RelInv C Pd l a0 listed a w->Region.ready .any l.toArray listed=[]->Q .normal a w) (f:Nat) :
 ∀ (listed:Array Bool) (a:Act) (w:World),RelInv C Pd l a0 listed a w->listed.toList.count false<=f->wpAny P .any l.toArray Q f listed a w:=by
 induction f with
 | zero=>
   intro listed a w inv hf;have hall:∀ i,listed.getD i true=true:=fun i=>by
    rw [Array.getD_eq_getD_getElem?];cases h:listed[i]? with
    | none=>rfl
    | some b=>
      cases b with
      | true=>rfl
      | false=>
        exfalso
        have h1:false∈listed.toList:=List.mem_of_getElem? (by rw [Array.getElem?_toList];exact h);have:=List.count_pos_iff.2 h1;omega
   have hr:Region.ready .any l.toArray listed=[]:=by
    unfold Region.ready;rw [List.filter_eq_nil_iff];intro i _;rw [hall i];simp
   exact ⟨hr,hend _ _ _ inv hr⟩
 | succ f ih=>
   intro listed a w inv hf;refine ⟨hend _ _ _ inv,fun i hi=>?_⟩;obtain ⟨hun,o,ho,hall⟩:=mem_ready.1 hi;have ho':l[i]? = some o:=by simpa using ho
   have hol:o∈l:=List.mem_of_getElem? ho';have hil:i < l.length:=(List.getElem?_eq_some_iff.1 ho').1;have hdeps:RelDeps Pd l a0 o a w:=⟨inv.out,inv.tsz,fun e he hbn oj k hoj hk=>inv.slot _ oj k hoj hk (by
    have h1:=hall e he hbn;rw [Array.getD_eq_getD_getElem?] at h1 ⊢;cases h2:listed[e.on]? with
    | none=>rw [h2] at h1;cases h1
    | some b=>rw [h2] at h1;exact h1)⟩
   have hw:Region.wanted o (yielded l.toArray a.tmps)=true:=by
    unfold Region.wanted;rw [hg o hol]
   unfold wpOp;rw [ho];simp only [hw,if_true];refine .inl (hstep i o ho' a w inv.cls hdeps _ _ (fun v w' hbw hv=>ih _ _ _ ⟨?_,hmono _ _ inv.cls hbw,?_,?_,fun k hk=>?_,fun j oj k hoj hk hlj=>?_⟩ ?_))
   ·rw [Array.size_setIfInBounds];exact inv.size
   ·unfold Act.put;cases o.dst with
    | none=>exact inv.tsz
    | some d=>simp [inv.tsz]
   ·unfold Act.put;cases o.dst with
    | none=>exact inv.dfr
    | some d=>exact inv.dfr
   ·unfold Act.put;cases hdst:o.dst with
    | none=>exact inv.out k hk
    | some d=>
      have hne:d≠k:=fun e=>hk o hol (by rw [hdst,e]);simp only [Array.getElem?_setIfInBounds_ne hne];exact inv.out k hk
   ·by_cases hij:i=j
    ·subst hij;rw [ho'] at hoj;obtain rfl:=Option.some.inj hoj;refine ⟨v,?_,hv⟩;unfold Act.put;rw [hk];have hkb:=hb o hol k hk;rw [<- inv.tsz] at hkb;simp [hkb]
    ·have hlj':listed.getD j true=true:=by
      rw [Array.getD_eq_getD_getElem?,Array.getElem?_setIfInBounds_ne hij] at hlj;rw [Array.getD_eq_getD_getElem?];exact hlj
     obtain ⟨u,hu1,hu2⟩:=inv.slot j oj k hoj hk hlj';refine ⟨u,?_,hP _ _ _ _ hbw hu2⟩;unfold Act.put;cases hdst:o.dst with
     | none=>exact hu1
     | some d=>
       have hne:d≠k:=fun e=>hij (hd i j o oj k ho' hoj (by rw [hdst,e]) hk);simp only [Array.getElem?_setIfInBounds_ne hne];exact hu1
   ·have hf1:listed[i]? = some false:=by
     rw [Array.getD_eq_getD_getElem?] at hun;cases h:listed[i]? with
     | none=>rw [h] at hun;cases hun
     | some b=>rw [h] at hun;simp at hun;rw [hun]
    have hlt:i < listed.toList.length:=by rw [Array.length_toList,inv.size];exact hil
    rw [Array.toList_setIfInBounds];have h1:listed.toList[i]? = some false:=by rw [Array.getElem?_toList];exact hf1
    have h2:listed.toList.count false=(listed.toList.set i true).count false+1:=by
     rw [List.count_set hlt];rw [List.getElem?_eq_getElem hlt] at h1;have h3:=Option.some.inj h1;rw [h3];have h4:0 < listed.toList.count false:=List.count_pos_iff.2 (List.mem_of_getElem? (by rw [List.getElem?_eq_getElem hlt,h3]));rw [if_pos (by decide),if_neg (by decide)];omega
    omega
theorem wp_region_rel {id:Nat} {Q:Exit->Act->World->Prop} {w:World} (C:World->Prop) (Pd:Nat->Value->World->Prop) (hm:P.follows .mixedOrders=true) (hg:∀ o∈l,o.guard=none)
 (hd:∀ (i j:Nat) (oi oj:Oper) (k:Nat),l[i]? = some oi->l[j]? = some oj->oi.dst=some k->oj.dst=some k->i=j) (hb:∀ o∈l,∀ k,o.dst=some k->k < a0.tmps.size)
 (hC:C w.drew) (hmono:∀ w w',C w->Below w.heap.size w w'->C w') (hP:∀ i v w w',Below w.heap.size w w'->Pd i v w->Pd i v w')
 (hstep:∀ (i:Nat) (o:Oper),l[i]? = some o->∀ a w,C w->RelDeps Pd l a0 o a w->RelStep P Pd i o a w)
 (hend:∀ listed a w,RelInv C Pd l a0 listed a w->Region.ready .any l.toArray listed=[]->Q .normal a w):(Code.region id l.toArray true).wp P Q a0 w:=by
 refine wp_region_any hm ?_;refine wpAny_rel hg hd hb hmono hP hstep hend _ _ _ _ ⟨by simp,hC,rfl,rfl,fun _ _=>rfl,fun i o k ho _ hl=>?_⟩ ?_
 ·have hil:i < l.length:=(List.getElem?_eq_some_iff.1 ho).1;rw [Array.getD_eq_getD_getElem?] at hl;simp [hil] at hl
 ·refine Nat.le_trans List.count_le_length ?_;simp
def relB (l:List Oper) (n:Nat):Bool:=
 l.all (fun o=>o.guard.isNone) && l.all (fun o=>match o.dst with | some k=>decide (k < n) | none=>true) &&
  (List.range l.length).all fun i=>(List.range l.length).all fun j=>decide (i=j) || (match (l[i]?).bind (·.dst),(l[j]?).bind (·.dst) with | some a,some b=>decide (a≠b) | _,_=>true)
theorem wp_region_relB {id:Nat} {Q:Exit->Act->World->Prop} {w:World} (C:World->Prop) (Pd:Nat->Value->World->Prop) (hm:P.follows .mixedOrders=true) (hB:relB l a0.tmps.size=true)
 (hC:C w.drew) (hmono:∀ w w',C w->Below w.heap.size w w'->C w') (hP:∀ i v w w',Below w.heap.size w w'->Pd i v w->Pd i v w')
 (hstep:∀ (i:Nat) (o:Oper),l[i]? = some o->∀ a w,C w->RelDeps Pd l a0 o a w->RelStep P Pd i o a w)
 (hend:∀ listed a w,RelInv C Pd l a0 listed a w->Region.ready .any l.toArray listed=[]->Q .normal a w):(Code.region id l.toArray true).wp P Q a0 w:=by
 simp only [relB,Bool.and_eq_true,List.all_eq_true] at hB;obtain ⟨⟨h1,h2⟩,h3⟩:=hB;refine wp_region_rel C Pd hm (fun o ho=>by simpa using h1 o ho) (fun i j oi oj k hi hj hki hkj=>?_) (fun o ho k hk=>?_) hC hmono hP hstep hend
 ·have h4:=h3 i (List.mem_range.2 (List.getElem?_eq_some_iff.1 hi).1) j (List.mem_range.2 (List.getElem?_eq_some_iff.1 hj).1);rw [hi,hj] at h4;simp only [Option.bind_some,hki,hkj,Bool.or_eq_true,decide_eq_true_eq] at h4;rcases h4 with h4 | h4
  ·exact h4
  ·exact absurd rfl h4
 ·have h4:=h2 o ho;rw [hk] at h4;simpa using h4
theorem step_val {i:Nat} {o:Oper} {a:Act} {w w':World} {v:Value} (h:(execOp a.eval o).run P w=.ok (.value v) w') (hb:Below w.heap.size w w') (hp:Pd i v w'):RelStep P Pd i o a w:=by
 intro Q K hK;unfold Oper.wp;rw [h];exact hK v w' hb hp
theorem step_call {i:Nat} {o:Oper} {a:Act} {w:World} {f:FuncId} {args:Array Value} (h:(execOp a.eval o).run P w=.ok (.enter f args) w) (hc:Calls P f args w fun e w'=>∃ v,e=.returned v/\Below w.heap.size w w'/\Pd i v w'):RelStep P Pd i o a w:=by
 intro Q K hK;unfold Oper.wp;rw [h];refine Calls.mono hc ?_;rintro e w' ⟨v,rfl,hb,hp⟩;exact hK v w' hb hp
theorem RelDeps.get {o:Oper} {a:Act} {w:World} (h:RelDeps Pd l a0 o a w) (j:Nat) {oj:Oper} {k:Nat} (hj:(o.after.toList.any fun e=>decide (e.on=j) && Region.binds .any e)=true) (ho:l[j]? = some oj) (hk:oj.dst=some k):∃ v,a.tmps[k]? = some v/\Pd j v w:=by
 rw [List.any_eq_true] at hj;obtain ⟨e,he,h1⟩:=hj;rw [Bool.and_eq_true,decide_eq_true_eq] at h1;obtain ⟨rfl,h2⟩:=h1;obtain ⟨v,h3,h4⟩:=h.2.2 e (by simpa using he) h2 oj k ho hk;exact ⟨v,h3,h4⟩
theorem RelDeps.old {o:Oper} {a:Act} {w:World} (h:RelDeps Pd l a0 o a w) (k:Nat) {v:Value} (hk:(l.all fun o=>decide (o.dst≠some k))=true) (h0:a0.tmps[k]? = some v):a.tmps[k]? = some v:=by
 refine (h.1 k fun o ho=>?_).trans h0;rw [List.all_eq_true] at hk;simpa using hk o ho
theorem rel_all {C:World->Prop} {listed:Array Bool} {a:Act} {w:World} (h:RelInv C Pd l a0 listed a w) (hr:Region.ready .any l.toArray listed=[]) (hB:((List.range l.length).all fun i=>match l[i]? with | some o=>o.after.toList.all (fun e=>decide (e.on < i)) | none=>true)=true) :
 ∀ (i:Nat) (o:Oper) (k:Nat),l[i]? = some o->o.dst=some k->∃ v,a.tmps[k]? = some v/\Pd i v w:=by
 have hall:∀ i,i < l.length->listed.getD i true=true:=by
  intro i;induction i using Nat.strongRecOn with
  | _ i ih=>
    intro hi;by_cases hd:listed.getD i true=true
    ·exact hd
    ·exfalso
     have hd':listed.getD i true=false:=by simpa using hd
     have hm:i∈Region.ready .any l.toArray listed:=by
      refine mem_ready.2 ⟨hd',l[i],by simp [hi],fun e he _=>?_⟩;rw [List.all_eq_true] at hB;have h1:=hB i (List.mem_range.2 hi);rw [List.getElem?_eq_getElem hi] at h1;simp only [List.all_eq_true,decide_eq_true_eq] at h1;have h2:=h1 e (by simpa using he);have h3:=ih e.on h2 (by omega);have hs:e.on < listed.size:=by rw [h.size];omega
      rw [Array.getD_eq_getD_getElem?,Array.getElem?_eq_getElem hs] at h3 ⊢;exact h3
     rw [hr] at hm;cases hm
 exact fun i o k ho hk=>h.slot i o k ho hk (hall i (List.getElem?_eq_some_iff.1 ho).1)
theorem rel_act_ext {a b:Act} (hs:a.tmps.size=b.tmps.size) (hd:a.defers=b.defers) (he:∀ k,k < b.tmps.size->a.tmps[k]? = b.tmps[k]?):a=b:=by
 obtain ⟨ta,da⟩:=a;obtain ⟨tb,db⟩:=b;obtain rfl:da=db:=hd;congr 1;apply Array.ext hs;intro k h1 h2;have:=he k h2;rw [Array.getElem?_eq_getElem h1,Array.getElem?_eq_getElem h2] at this;exact Option.some.inj this
def relPut (a:Act):List Oper->List Value->Act
 | o::l,v::vs=>relPut (a.put o.dst v) l vs
 | _,_=>a
theorem actPut_size (a:Act) (d:Option Tmp) (v:Value):(a.put d v).tmps.size=a.tmps.size:=by
 unfold Act.put;cases d<;>simp
theorem actPut_defers (a:Act) (d:Option Tmp) (v:Value):(a.put d v).defers=a.defers:=by
 unfold Act.put;cases d<;>rfl
theorem actPut_other (a:Act) (d:Option Tmp) (v:Value) (k:Nat) (h:d≠some k):(a.put d v).tmps[k]? = a.tmps[k]? := by
 unfold Act.put;cases d with
 | none=>rfl
 | some d=>exact Array.getElem?_setIfInBounds_ne (fun e=>h (by rw [e]))
theorem relPut_keep (l:List Oper):∀ (a:Act) (vs:List Value),(relPut a l vs).tmps.size=a.tmps.size/\(relPut a l vs).defers=a.defers/\∀ k,(∀ o:Oper,o∈l->o.dst≠some k)->(relPut a l vs).tmps[k]? = a.tmps[k]? := by
 induction l with
 | nil=>intro a vs;cases vs<;>exact ⟨rfl,rfl,fun _ _=>rfl⟩
 | cons o l ih=>
   intro a vs;cases vs with
   | nil=>exact ⟨rfl,rfl,fun _ _=>rfl⟩
   | cons v vs=>
     obtain ⟨h1,h2,h3⟩:=ih (a.put o.dst v) vs;exact ⟨h1.trans (actPut_size _ _ _),h2.trans (actPut_defers _ _ _),fun k hk=>(h3 k (fun o' ho'=>hk o' (by simp [ho']))).trans (actPut_other _ _ _ _ (hk o (by simp)))⟩
theorem relPut_at (l:List Oper):∀ (a:Act) (vs:List Value) (i:Nat) (o:Oper) (k:Nat) (v:Value),l[i]? = some o->o.dst=some k->vs[i]? = some v->k < a.tmps.size->(∀ (j:Nat) (oj:Oper),l[j]? = some oj->oj.dst=some k->j=i)->(relPut a l vs).tmps[k]? = some v:=by
 induction l with
 | nil=>intro a vs i o k v ho;cases ho
 | cons o' l ih=>
   intro a vs i o k v ho hk hv hb hu;cases vs with
   | nil=>cases hv
   | cons v' vs=>
     cases i with
     | zero=>
       cases ho;cases hv;refine ((relPut_keep l (a.put _ v) vs).2.2 k (fun x hx e=>?_)).trans ?_
       ·obtain ⟨j,hj⟩:=List.mem_iff_getElem?.1 hx;have:=hu (j+1) x (by simpa using hj) e;omega
       ·unfold Act.put;rw [hk];simp [hb]
     | succ i=>
       refine ih (a.put o'.dst v') vs i o k v (by simpa using ho) hk (by simpa using hv) (by rw [actPut_size];exact hb) (fun j oj hj he=>?_);have:=hu (j+1) oj (by simpa using hj) he;omega
theorem rel_end {C:World->Prop} {listed:Array Bool} {a:Act} {w:World} (h:RelInv C Pd l a0 listed a w) (hr:Region.ready .any l.toArray listed=[]) (hB:relB l a0.tmps.size=true) (hA:((List.range l.length).all fun i=>match l[i]? with | some o=>o.after.toList.all (fun e=>decide (e.on < i)) && o.dst.isSome | none=>true)=true) :
 ∃ vs:List Value,vs.length=l.length/\(∀ i v,vs[i]? = some v->Pd i v w)/\a=relPut a0 l vs:=by
 rw [List.all_eq_true] at hA;have hA':∀ (i:Nat) (o:Oper),l[i]? = some o->(o.after.toList.all (fun e=>decide (e.on < i)))=true/\∃ k,o.dst=some k:=fun i o ho=>by
  have h1:=hA i (List.mem_range.2 (List.getElem?_eq_some_iff.1 ho).1);rw [ho] at h1;simp only [Bool.and_eq_true] at h1;exact ⟨h1.1,Option.isSome_iff_exists.1 h1.2⟩
 have hal:=rel_all h hr (by
  rw [List.all_eq_true];intro i hi;rw [List.mem_range] at hi;rw [List.getElem?_eq_getElem hi];exact (hA' i _ (List.getElem?_eq_getElem hi)).1)
 simp only [relB,Bool.and_eq_true,List.all_eq_true] at hB;obtain ⟨⟨_,h2⟩,h3⟩:=hB;have huniq:∀ (i j:Nat) (oi oj:Oper) (k:Nat),l[i]? = some oi->l[j]? = some oj->oi.dst=some k->oj.dst=some k->i=j:=fun i j oi oj k hi hj hki hkj=>by
  have h4:=h3 i (List.mem_range.2 (List.getElem?_eq_some_iff.1 hi).1) j (List.mem_range.2 (List.getElem?_eq_some_iff.1 hj).1);rw [hi,hj] at h4;simp only [Option.bind_some,hki,hkj,Bool.or_eq_true,decide_eq_true_eq] at h4;rcases h4 with h4 | h4
  ·exact h4
  ·exact absurd rfl h4
 refine ⟨l.map fun o=>(o.dst.bind (a.tmps[·]?)).getD undef,List.length_map _,fun i v hv=>?_,?_⟩
 ·rw [List.getElem?_map] at hv;obtain ⟨o,ho,rfl⟩:=Option.map_eq_some_iff.1 hv;obtain ⟨_,k,hk⟩:=hA' i o ho;obtain ⟨v,e1,e2⟩:=hal i o k ho hk;rw [hk];simp only [Option.bind_some,e1,Option.getD_some];exact e2
 ·obtain ⟨k1,k2,k3⟩:=relPut_keep l a0 (l.map fun o=>(o.dst.bind (a.tmps[·]?)).getD undef);refine rel_act_ext (by rw [k1,h.tsz]) (by rw [k2,h.dfr]) (fun k hk=>?_);rw [k1] at hk;by_cases he:∃ o∈l,o.dst=some k
  ·obtain ⟨o,ho,hok⟩:=he;obtain ⟨i,hi⟩:=List.mem_iff_getElem?.1 ho;obtain ⟨v,e1,_⟩:=hal i o k hi hok;rw [e1];refine (relPut_at l a0 _ i o k v hi hok ?_ hk (fun j oj hj hjk=>huniq j i oj o k hj hi hjk hok)).symm;rw [List.getElem?_map,hi];simp [hok,e1]
  ·have hno:∀ o∈l,o.dst≠some k:=fun o ho e=>he ⟨o,ho,e⟩;rw [k3 k hno,h.out k hno]
end
end
end Go.Proofs.YthkkgdpomhhjjaaGreatDoor
