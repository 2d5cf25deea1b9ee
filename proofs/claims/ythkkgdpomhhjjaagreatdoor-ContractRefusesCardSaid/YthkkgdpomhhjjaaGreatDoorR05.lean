/-
  Joined.
-/
import Derived.Test.YthkkgdpomhhjjaaGreatDoorR04
namespace Go.Proofs.YthkkgdpomhhjjaaGreatDoor
section
open Go.RowKit Go.Maps Go.MapKept
open Go.ChangeMaps (setBlock heap_setBlock_same heap_setBlock_other)
theorem pagesTo_bound (name:Name) {B:Nat} (fs:List Frm) (h:∀ f∈fs,f.full=true->f.dirty=true->f.name=name->f.k < B):∀ n0,n0<=B->pagesTo name n0 fs<=B:=by
 induction fs with
 | nil=>intro n0 hn;exact hn
 | cons f fs ih=>
   intro n0 hn;have hf:=h f (by simp);unfold pagesTo at ih ⊢;rw [List.foldl_cons];refine ih (fun g hg=>h g (by simp [hg])) _ ?_;unfold pagesStep;split
   ·rename_i hc
    have:=hf hc.1 hc.2.1 hc.2.2;omega
   ·exact hn
theorem pagesTo_base (name:Name) (fs:List Frm):∀ n0,n0<=pagesTo name n0 fs:=by
 induction fs with
 | nil=>intro n0;exact Nat.le_refl _
 | cons f fs ih=>
   intro n0;unfold pagesTo at ih ⊢;rw [List.foldl_cons];refine Nat.le_trans ?_ (ih _);unfold pagesStep;split<;>omega
theorem pagesTo_frame (name:Name) (fs:List Frm) {f:Frm} (hf:f∈fs) (h1:f.full=true) (h2:f.dirty=true) (h3:f.name=name):∀ n0,f.k+1<=pagesTo name n0 fs:=by
 induction fs with
 | nil=>cases hf
 | cons g fs ih=>
   intro n0;unfold pagesTo at ih ⊢;rw [List.foldl_cons];rcases List.mem_cons.1 hf with rfl | hf
   ·refine Nat.le_trans ?_ (pagesTo_base name fs _);unfold pagesStep;rw [if_pos ⟨h1,h2,h3⟩];omega
   ·exact ih hf _
theorem Sound.pagesTo {d:Dsk} {fs:List Frm} {L:Logic} (h:Sound d fs L) {n:Name} {ps:List Pg} {fl:Bool} (hL:mget L n=some (.inl (ps,fl))) {f:DFile} {dp:List Pg} (q:OnDisk d fs n ps fl f dp):pagesTo n dp.length fs=ps.length:=by
 refine Nat.le_antisymm (pagesTo_bound n fs (fun g hg h1 _ h3=>?_) _ q.le) ?_
 ·obtain ⟨ps',fl',hL',hk⟩:=h.frames g hg h1;rw [h3,hL] at hL';cases hL';exact lt_of_get hk
 ·rcases Nat.eq_or_lt_of_le q.le with e | hlt
  ·rw [<- e];exact pagesTo_base _ _ _
  ·rcases q.each (ps.length - 1) (by omega) with h1 | ⟨j,g,g1,g2,g3,g4,g5⟩
   ·omega
   ·have:=pagesTo_frame n fs (List.mem_of_getElem? g1) g2 g3 g4 dp.length;omega
def pagesAns (d:Dsk) (ps:List Pg):Nat × Nat:=if d.dead=true then (0,6) else (ps.length,0)
theorem pages_sound {w:World} {pb db fb mb:Nat} {o:Owner} {l:List Plc} {hand mf:Nat} {d:Dsk} {L:Logic} (h:PoolIn w pb db fb mb o l hand mf d) (hg:Sound d (l.map (·.2)) L) {name:Name} {ps:List Pg} {fl:Bool} (hL:mget L name=some (.inl (ps,fl))) :
 Calls Tryz.prog 92 #[ptrTo pb, .string name] w fun e w'=>e=.returned (.tuple #[.int .i64 ((pagesAns d ps).1:Int), .int .i64 ((pagesAns d ps).2:Int)])/\Below w.heap.size w w':=by
 obtain ⟨f,dp,q,hlive,hdead⟩:=hg.onDisk hL;refine (pages_any h (fun p hp=>(hg.fitPlc p hp).2) name (okName_1000 (hg.ok name (by rw [hL];rfl)))).mono ?_;rintro e w' ⟨rfl,hb⟩;refine ⟨?_,hb⟩;unfold pagesAns;cases hd:d.dead with
 | true=>
   rw [(hdead hd).2];rfl
 | false=>
   rw [(hlive hd).2,(hlive hd).1,if_pos rfl,show 256*dp.length / 256=dp.length by omega,hg.pagesTo hL q];rfl
theorem Sound.read {d:Dsk} {fs:List Frm} {L:Logic} (h:Sound d fs L) {n:Name} {ps:List Pg} {fl:Bool} (hL:mget L n=some (.inl (ps,fl))) {f:DFile} {dp:List Pg} (q:OnDisk d fs n ps fl f dp) (hd:d.dead=false) {k:Nat} {b:Pg} (hk:ps[k]? = some b)
 (hno:¬ DirtyAt fs n k):k < dp.length/\d.read n (256*k) 256=(mkPage (tagOf n) k b,0):=by
 have hkl:=lt_of_get hk;rcases q.each k hkl with ⟨h1,h2⟩ | h1
 ·refine ⟨h1,?_⟩;have hok:okName n=true:=h.ok n (by rw [hL];rfl);unfold Dsk.read;rw [hd,if_neg (by simp),hok,if_neg (by simp),q.get];dsimp only;rw [q.now,pagesFrom_get q.sdp h1,Nat.zero_add];have e:dp[k]=b:=by
   rw [hk,List.getElem?_eq_getElem h1] at h2;exact Option.some.inj h2
  rw [e]
 ·exact absurd h1 hno
theorem Sound.mark {d:Dsk} {fs:List Frm} {L:Logic} (h:Sound d fs L) {i:Nat} {x:Frm} (hi:fs[i]? = some x) (hx:x.full=true) (u:Bool):Sound d (fs.set i { x with used:=u }) L:=
 h.used List.length_set fun j f f' hj hj'=>by
  rw [get_set (lt_of_get hi)] at hj';by_cases e:j=i
  ·rw [if_pos e] at hj';rw [e,hi] at hj;cases hj;cases hj';exact ⟨rfl,fun hf=>by rw [hx] at hf;cases hf⟩
  ·rw [if_neg e,hj] at hj';cases hj';exact ⟨rfl,fun _=>rfl⟩
def BringPost (w:World) (pb db fb mb n:Nat) (o:Owner) (d:Dsk) (L:Logic) (name:Name) (k:Nat) (e:Ending) (w':World):Prop:=
 ∃ o' l' hand' mf' d' c i,e=.returned (.tuple #[.int .i64 ((i:Nat):Int), .int .i64 ((c:Nat):Int)])/\PoolIn w' pb db fb mb o' l' hand' mf' d'/\l'.length=n/\Sound d' (l'.map (·.2)) L/\Onward d d'/\(c=0\/Err d d' L c) /\
  (c=0->∃ v f,l'[i]? = some (v,f)/\f.full=true/\f.name=name/\f.k=k)/\Turn (o.In ofPool) w w'/\OGrow w.heap.size o o'
set_option maxRecDepth 100000 in
set_option maxHeartbeats 4000000 in
theorem bring_any (HW:WriteSaid) {w:World} {pb db fb mb:Nat} {o:Owner} {l:List Plc} {hand mf:Nat} {d:Dsk} {L:Logic} (h:PoolIn w pb db fb mb o l hand mf d) (hg:Sound d (l.map (·.2)) L) {name:Name} {ps:List Pg} {fl:Bool} (hL:mget L name=some (.inl (ps,fl))) {k:Nat} {b:Pg} (hk:ps[k]? = some b) :
 Calls Tryz.prog 137 #[ptrTo pb, .string name, .int .i64 (k:Int)] w (BringPost w pb db fb mb l.length o d L name k):=by
 obtain ⟨f,dp,q,hlive,hdead⟩:=hg.onDisk hL;have hs:=okName_1000 (hg.ok name (by rw [hL];rfl));have hkl:=lt_of_get hk;have hmost:=q.most;have hbl:b.length<=240:=q.short b (List.mem_of_getElem? hk);have hcall:=Lib.hid (pages_sound h hg hL);have H:=Lib.hid h;have HG:=Lib.hid hg;have HL:=Lib.hid hL;have HK:=Lib.hid hk;have HQ:=Lib.hid q;have HLIVE:=Lib.hid hlive;have HDEAD:=Lib.hid hdead;have hn:=h.most;have hpbl:=h.head.lt;obtain ⟨m,hm1,hm2⟩:=h.wher;have HM1:=Lib.hid hm1;have HM2:=Lib.hid hm2;have hgk:=Lib.hid (good_pkey (s:=name) (n:=k) (by unfold maxLen;omega) (by omega));clear h hg hL hk q hlive hdead hm1 hm2;unfold ptrTo at *;unfold pagesAns at hcall;cases hd:d.dead with
 | true=>
   rw [hd,if_pos rfl] at hcall;have HD:=Lib.hid hd;clear hd;go_enter Tryz.func137,Tryz.ntmps137
   go_wp2_with fail
   refine hcall.out.mono ?_;rintro e w1 ⟨rfl,hb⟩;have HB:=Lib.hid hb;clear hb;go_wp2;go_ret2
   exact ⟨o,l,hand,mf,d,6,0,rfl,H.out.below HB.out,rfl,HG.out,Onward.refl d, .inr (.inr ⟨rfl,HD.out⟩),fun h=>absurd h (by decide),Turn.ofBelow HB.out,OGrow.refl _ _⟩
 | false=>
   rw [hd,if_neg (by simp)] at hcall;have HD:=Lib.hid hd;clear hd;have hkn:¬ ((k:Int) >= (ps.length:Int)):=by omega
   have hk0:¬ ((k:Int) < 0):=by omega
   generalize hP:ps.length=P at *;have HP:=Lib.hid hP;clear hP;cases hmg:mget m (name,k) with
   | some i=>
     have HMG:=Lib.hid hmg;clear hmg;obtain ⟨fr,hi,hf1,hf2,hf3⟩:=(HM2.out name k i).1 HMG.out;have hil:i < l.length:=by have:=lt_of_get hi;rwa [List.length_map] at this
     go_enter Tryz.func137,Tryz.ntmps137
     go_wp2_with fail
     refine hcall.out.mono ?_;rintro e w1 ⟨rfl,hb⟩;have HB:=Lib.hid hb;have H1:=Lib.hid (H.out.below hb);have HM3:Hid (WhereMap w1 mb m):=Lib.hid (HM1.out.kept (hb.block mb HM1.out.lt));clear hb;obtain ⟨⟨-,hc1,hc2,-⟩,-⟩:=H1.out.head.cells;have hz:∀ W:World,(zeroValue 3).run Tryz.prog W=.ok (.int .i64 0) W:=fun W=>by kernel_rfl
     obtain ⟨a,c,f0,hi'⟩:=H1.out.shaped.get rfl hil;obtain rfl:f0=fr:=by
      have:=map_get hi';rw [hi] at this;exact (Option.some.inj this).symm
     obtain ⟨-,-,-,-,-,-,h6⟩:=H1.out.row.seven hi';have hz6:=H1.out.row.free (i*7+6);have HI':=Lib.hid hi';clear hi hi';go_wp2_with (at_lookup;refine wpList_look _ rfl _ _ _ _ rfl 3 keyed_pkey nameNum_inj Tryz.underlying148 (hz _) mb m rfl HM3.out (name,k) rfl hgk.out ?_;unfold mhas;rw [HMG.out];simp only [Option.map_some,Option.getD_some,Option.isSome_some])
     go_ret2
     have hmark:=H1.out.mark (j:=6) (u:=.bool true) (x:={ f0 with used:=true }) HI'.out (by decide) rfl rfl rfl rfl rfl;refine ⟨o,_,hand,mf,d,0,i,rfl,hmark,List.length_set,?_,Onward.refl d, .inl rfl,fun _=>⟨.slice a f0.bytes.length c,{ f0 with used:=true },by rw [get_set hil,if_pos rfl],hf1,hf2,hf3⟩,(Turn.ofBelow HB.out).setCell _ _ (.inl H.out.in_fb),OGrow.refl _ _⟩;rw [map_set];exact HG.out.mark (map_get HI'.out) hf1 true
   | none=>
     have HMG:=Lib.hid hmg;clear hmg;have hnot:∀ (j:Nat) (fj:Frm),(l.map (·.2))[j]? = some fj->fj.full=true->fj.name=name->fj.k=k->False:=fun j fj h1 h2 h3 h4=>by
      have:=(HM2.out name k j).2 ⟨fj,h1,h2,h3,h4⟩;rw [HMG.out] at this;cases this
     have HNOT:=Lib.hid hnot;obtain ⟨hkd,hrd⟩:=HG.out.read HL.out HQ.out HD.out HK.out (fun ⟨j,fr,h1,h2,_,h4,h5⟩=>hnot j fr h1 h2 h4 h5);obtain ⟨hsz,hpo⟩:=HLIVE.out HD.out;have HRD:=Lib.hid hrd;have HSZ:=Lib.hid hsz;have HPO:=Lib.hid hpo;have hdpl:Hid (dp.length<=65536):=Lib.hid (by have:=HQ.out.le;have:=HP.out;omega);clear hnot hrd hsz hpo;go_enter Tryz.func137,Tryz.ntmps137
     go_wp2_with fail
     refine hcall.out.mono ?_;rintro e w1 ⟨rfl,hb⟩;have HB:=Lib.hid hb;have H1:=Lib.hid (H.out.below hb);have HM3:Hid (WhereMap w1 mb m):=Lib.hid (HM1.out.kept (hb.block mb HM1.out.lt));clear hb;obtain ⟨⟨hc0,-,hc2,-⟩,-⟩:=H1.out.head.cells;unfold ptrTo at hc0;have hz:∀ W:World,(zeroValue 3).run Tryz.prog W=.ok (.int .i64 0) W:=fun W=>by kernel_rfl
     go_wp2_with (at_lookup;refine wpList_look _ rfl _ _ _ _ rfl 3 keyed_pkey nameNum_inj Tryz.underlying148 (hz _) mb m rfl HM3.out (name,k) rfl hgk.out ?_;unfold mhas;rw [HMG.out];simp only [Option.map_none,Option.getD_none,Option.isSome_none])
     refine (pfOpen_any H1.out.disk name hs).mono ?_;rintro e w2 ⟨v2,rfl,hb2,hy,-⟩;obtain ⟨pf,rfl,hp,hpl⟩:=hy HPO.out;rw [HPO.out];have HPF:=Lib.hid hp;have H2:=Lib.hid (H1.out.below hb2);have HB2:=Lib.hid (HB.out.trans (hb2.mono HB.out.size));clear hb2 hy hp hz;unfold ptrTo;go_wp2_with fail
     refine (pfRead_ok H2.out.disk HPF.out hs k (256*dp.length) b HSZ.out (by omega) (by have:=hdpl.out;omega) HRD.out hbl).mono ?_;rintro e w3 ⟨v3,rfl,ho3,hb3⟩;obtain ⟨a3,c3,rfl⟩:=ownsRow_slice ho3;have H3:=Lib.hid (H2.out.below hb3);have HB3:=Lib.hid (HB2.out.trans (hb3.mono HB2.out.size));have HO3:=Lib.hid ho3;have hs3:w.heap.size<=w2.heap.size:=HB2.out.size;have HFREE:Hid (∀ b',(Value.slice a3 b.length c3).ownBlock=some b'->o b'=none):=Lib.hid (fun b' hb'=>fresh_none H.out.owned (by have:=ownsRow_block ho3 b' hb';omega));have HV3:Hid (∀ b',(Value.slice a3 b.length c3).ownBlock=some b'->b' < w3.heap.size):=Lib.hid (fun b' hb'=>(ownBlock_old ho3 b' hb').1);clear ho3 hb3;go_wp2_with fail
     refine (take_any HW H3.out HG.out).mono ?_;rintro e w4 ⟨o4,l4,hand4,d4,c4,i4,rfl,hp4,hg4,hon4,he4,hc40,hfew4,ht4,hgr4⟩;have HP4:=Lib.hid hp4;have HG4:=Lib.hid hg4;have HON4:=Lib.hid hon4;have HE4:=Lib.hid he4;have HC40:=Lib.hid hc40;have HFEW4:=Lib.hid hfew4;have HT4:=Lib.hid ((Turn.ofBelow HB3.out).trans ht4 (fun _ _ h=>h):Turn (o.In ofPool) w w4);have HGR4:Hid (OGrow w.heap.size o o4):=Lib.hid (fun x hx=>hgr4 x (Nat.lt_of_lt_of_le hx HB3.out.size));have HO4:Hid (w4.ownsRow w2.heap.size 5 1 (.slice a3 b.length c3) b.length (b.map bv)):=Lib.hid (ht4.ownsRow HO3.out (fun b' hb'=>Owner.not_in_none (HFREE.out b' hb')));have HFREE4:Hid (∀ b',(Value.slice a3 b.length c3).ownBlock=some b'->o4 b'=none):=Lib.hid (fun b' hb'=>by rw [hgr4 b' (HV3.out b' hb')];exact HFREE.out b' hb');clear hp4 hg4 hon4 he4 hc40 hfew4 ht4 hgr4;by_cases hc4:c4=0
     ·subst hc4;obtain ⟨p4,hi4,hp4f⟩:=HC40.out rfl;have HI4:=Lib.hid hi4;have hil4:=lt_of_get hi4;have HPF4:=Lib.hid hp4f;have hnew4:∀ (j:Nat) (fj:Frm),(l4.map (·.2))[j]? = some fj->fj.full=true->fj.name=name->fj.k=k->False:=fun j fj h1 h2 h3 h4=>by
       obtain ⟨y,g1,g2,g3,g4⟩:=HFEW4.out.2 j fj h1 h2;exact HNOT.out j y g1 g2 (g3.trans h3) (g4.trans h4)
      have HNEW4:=Lib.hid hnew4;have hcall4:=Lib.hid (fill_any HP4.out hi4 hp4f ⟨true,name,k,b,false,true⟩ HO4.out HFREE4.out hnew4 hs (by show k < _;omega) false);unfold ptrTo at hcall4;dsimp only at hcall4;clear hi4 hp4f hnew4;go_wp2_with fail
      refine hcall4.out.mono ?_;rintro e w5 ⟨rfl,⟨mf5,hp5⟩,ht5⟩;have HP5:=Lib.hid hp5;have HT5:=Lib.hid ht5;clear hp5 ht5;go_wp2;go_ret2
      refine ⟨_,_,hand4,mf5,d4,0,i4,rfl,HP5.out,by rw [List.length_set];simpa using HFEW4.out.1,?_,HON4.out, .inl rfl,fun _=>⟨.slice a3 b.length c3,⟨true,name,k,b,false,true⟩,by rw [get_set hil4,if_pos rfl],rfl,rfl,rfl⟩,?_,?_⟩
      ·rw [map_set];have hcl:p4.2.dirty=false:=by
        rw [HG4.out.blank p4.2 (List.mem_of_getElem? (map_get HI4.out)) HPF4.out];rfl
       exact HG4.out.reset (map_get HI4.out) hcl rfl (.inr ⟨rfl,⟨ps,fl,HL.out,HK.out⟩,fun i' fi' _ h1 h2 h3 h4=>HNEW4.out i' fi' h1 h2 h3 h4⟩)
      ·refine HT4.out.trans HT5.out (fun x hx e=>?_);have h1:o4.In ofPool x:=by
        rcases e with rfl | rfl | rfl
        ·exact HP4.out.in_fb
        ·exact ⟨_,HP4.out.omb,show 8 < 10 by decide⟩
        ·exact ⟨_,HP4.out.opb,show 6 < 10 by decide⟩
       obtain ⟨t,g1,g2⟩:=h1;exact ⟨t,by rw [<- HGR4.out x hx];exact g1,g2⟩
      ·exact HGR4.out.trans (Owner.put_grow (n:=w2.heap.size) (fun b' hb'=>ownsRow_block HO4.out b' hb')) hs3
     ·have hc4':¬ (c4:Int)=0:=by omega
      have HC4:=Lib.hid hc4;clear hc4;go_wp2;go_ret2
      exact ⟨o4,l4,hand4,mf,d4,c4,0,rfl,HP4.out,by simpa using HFEW4.out.1,HG4.out,HON4.out,HE4.out,fun h=>absurd h HC4.out,HT4.out,HGR4.out⟩
def ReadPagePost (w:World) (pb db n:Nat) (o:Owner) (d:Dsk) (L:Logic) (b:Pg) (e:Ending) (w':World):Prop:=
 ∃ v c d' o',e=.returned (.tuple #[v, .int .i64 ((c:Nat):Int)])/\PoolAt w' pb db n o' d' L/\Turn (o.In ofPool) w w'/\OGrow w.heap.size o o'/\Onward d d'/\(c=0\/Err d d' L c) /\
  (c=0->w'.ownsRow w.heap.size 5 1 v b.length (b.map bv)/\∀ x,v.ownBlock=some x->o' x=none)/\(c≠0->v=.slice none 0 0)
set_option maxRecDepth 100000 in
set_option maxHeartbeats 2000000 in
theorem poolRead_any (HW:WriteSaid) {w:World} {pb db n:Nat} {o:Owner} {d:Dsk} {L:Logic} (h:PoolAt w pb db n o d L) {name:Name} {ps:List Pg} {fl:Bool} (hL:mget L name=some (.inl (ps,fl))) {k:Nat} {b:Pg} (hk:ps[k]? = some b) :
 Calls Tryz.prog 93 #[ptrTo pb, .string name, .int .i64 (k:Int)] w (ReadPagePost w pb db n o d L b):=by
 obtain ⟨fb,mb,l,hand,mf,hp,rfl,hg⟩:=h;have hbl:b.length<=240:=by
  obtain ⟨f,dp,q⟩:=hg.paged _ _ _ hL;exact q.short b (List.mem_of_getElem? hk)
 have hcall:=Lib.hid (bring_any HW hp hg hL hk);have HL:=Lib.hid hL;have HK:=Lib.hid hk;clear hp hg hL hk;unfold ptrTo at *;go_enter Tryz.func93,Tryz.ntmps93
 go_wp2_with fail
 refine hcall.out.mono ?_;rintro e w1 ⟨o1,l1,hand1,mf1,d1,c1,i1,rfl,hp1,hlen1,hg1,hon1,he1,hc01,ht1,hgr1⟩;have HP1:=Lib.hid hp1;have HG1:=Lib.hid hg1;have HLEN1:=Lib.hid hlen1;have HON1:=Lib.hid hon1;have HE1:=Lib.hid he1;have HC01:=Lib.hid hc01;have HT1:=Lib.hid ht1;have HGR1:=Lib.hid hgr1;clear hlen1 hp1 hg1 hon1 he1 hc01 ht1 hgr1;by_cases hc:c1=0
 ·subst hc;obtain ⟨v1,f1,hi1,hf1,hf2,hf3⟩:=HC01.out rfl;have hil1:=lt_of_get hi1;have hbf:f1.bytes=b:=by
   obtain ⟨ps',fl',hL',hk'⟩:=HG1.out.frames f1 (List.mem_of_getElem? (map_get hi1)) hf1;rw [hf2,HL.out] at hL';cases hL';rw [hf3,HK.out] at hk';exact (Option.some.inj hk').symm
  have HBF:=Lib.hid hbf;have hrow:=(HP1.out.each _ (List.mem_of_getElem? hi1)).1;dsimp only at hrow;obtain ⟨a1,cc1,rfl⟩:=ownsRow_slice hrow;rw [hbf] at hrow hi1;have HROW:=Lib.hid hrow;obtain ⟨-,-,-,h3,-⟩:=HP1.out.row.seven hi1;obtain ⟨⟨-,hc1,-⟩,-⟩:=HP1.out.head.cells;clear hi1 hf1 hf2 hf3 hbf hrow;go_wp2_with fail
  refine (clone_any _ b _ (Rd_own HROW.out) (by omega)).mono ?_;rintro e w2 ⟨v2,rfl,ho2,hb2⟩;go_wp2;go_ret2
  refine ⟨v2,0,d1,o1,rfl,⟨fb,mb,l1,hand1,mf1,HP1.out.below hb2,HLEN1.out,HG1.out⟩,HT1.out.thenBelow hb2,HGR1.out,HON1.out, .inl rfl,fun _=>⟨ownsRow_base ho2 HT1.out.size,fun x hx=>fresh_none HP1.out.owned (ownsRow_block ho2 x hx)⟩,fun h=>absurd rfl h⟩
 ·have hc':¬ (c1:Int)=0:=by omega
  have HC:=Lib.hid hc;clear hc;go_wp2;go_ret2
  exact ⟨_,c1,d1,o1,rfl,⟨fb,mb,l1,hand1,mf1,HP1.out,HLEN1.out,HG1.out⟩,HT1.out,HGR1.out,HON1.out,HE1.out,fun h=>absurd h HC.out,fun _=>rfl⟩
theorem PoolIn.lay {w:World} {pb db fb mb:Nat} {o:Owner} {l:List Plc} {hand mf:Nat} {d:Dsk} (h:PoolIn w pb db fb mb o l hand mf d) {i:Nat} {u:Value} {f:Frm} (hi:l[i]? = some (u,f)) {v:Value} {b:Pg} {base:Nat}
 (hv:w.ownsRow base 5 1 v b.length (b.map bv)) (hvo:∀ x,v.ownBlock=some x->o x=none) :
 PoolIn (((w.setCell ⟨fb,i*7+3,none⟩ v).setCell ⟨fb,i*7+5,none⟩ (.bool true)).setCell ⟨fb,i*7+6,none⟩ (.bool true)) pb db fb mb (o.put v (9,0)) (l.set i (v,{ f with bytes:=b,dirty:=true,used:=true })) hand mf d:=by
 have hil:=lt_of_get hi;have r1:=h.row.set' (q:=(v,{ f with bytes:=b })) hi (j:=3) (by decide) (v:=v) rfl;have g1:(l.set i (v,{ f with bytes:=b }))[i]? = some (v,{ f with bytes:=b }):=by rw [get_set hil,if_pos rfl]
 have r2:=r1.set' (q:=(v,{ f with bytes:=b,dirty:=true })) g1 (j:=5) (by decide) (v:=.bool true) rfl;have g2:((l.set i (v,{ f with bytes:=b })).set i (v,{ f with bytes:=b,dirty:=true }))[i]? = some (v,{ f with bytes:=b,dirty:=true }):=by rw [get_set (by rw [List.length_set];exact hil),if_pos rfl]
 have r3:=r2.set' (q:=(v,{ f with bytes:=b,dirty:=true,used:=true })) g2 (j:=6) (by decide) (v:=.bool true) rfl;rw [List.set_set,List.set_set] at r3;have ht:Turn (·=fb) w (((w.setCell ⟨fb,i*7+3,none⟩ v).setCell ⟨fb,i*7+5,none⟩ (.bool true)).setCell ⟨fb,i*7+6,none⟩ (.bool true)):=(((Turn.refl (·=fb) w).setCell ⟨fb,i*7+3,none⟩ v (.inl rfl)).setCell ⟨fb,i*7+5,none⟩ (.bool true) (.inl rfl)).setCell ⟨fb,i*7+6,none⟩ (.bool true) (.inl rfl);have hvl:∀ x,v.ownBlock=some x->x < w.heap.size:=fun x hx=>(ownBlock_old hv x hx).1;refine h.setFrame r3 (ht.mono fun _ _ e=>.inl e) (Owner.put_keep hvo) (fun x t hx=>Nat.lt_of_lt_of_le (Owner.put_owned h.owned hvl x t hx) ht.size) ?_ ?_
 ·obtain ⟨m,m1,m2⟩:=h.wher;exact ⟨m,m1.turn ht (Owner.ne h.omb h.ofb (by decide)),m2.same (map_get hi) rfl rfl rfl⟩
 ·exact ⟨ownsRow_base (ht.ownsRow hv (fun x hx e=>by have:=hvo x hx;rw [e,h.ofb] at this;cases this)) (Nat.zero_le _),fun x hx=>Owner.put_at hx⟩
def WritePagePost (w:World) (pb db n:Nat) (o:Owner) (d:Dsk) (L L':Logic) (e:Ending) (w':World):Prop:=
 ∃ c d' o',e=.returned (.int .i64 ((c:Nat):Int))/\PoolAt w' pb db n o' d' (if c=0 then L' else L)/\Turn (o.In ofPool) w w'/\OGrow w.heap.size o o'/\Onward d d'/\(c=0\/Err d d' L c)
theorem PoolIn.in_mb {w:World} {pb db fb mb:Nat} {o:Owner} {l:List Plc} {hand mf:Nat} {d:Dsk} (h:PoolIn w pb db fb mb o l hand mf d):o.In ofPool mb:=⟨_,h.omb,show 8 < 10 by decide⟩
theorem PoolIn.in_pb {w:World} {pb db fb mb:Nat} {o:Owner} {l:List Plc} {hand mf:Nat} {d:Dsk} (h:PoolIn w pb db fb mb o l hand mf d):o.In ofPool pb:=⟨_,h.opb,show 6 < 10 by decide⟩
theorem in_grow {n:Nat} {o o':Owner} (hg:OGrow n o o') {C:Nat->Prop} {x:Nat} (hx:x < n) (h:o'.In C x):o.In C x:=by
 obtain ⟨t,h1,h2⟩:=h;exact ⟨t,by rw [<- hg x hx];exact h1,h2⟩
set_option maxRecDepth 100000 in
set_option maxHeartbeats 4000000 in
theorem poolWrite_any (HW:WriteSaid) {w:World} {pb db n:Nat} {o:Owner} {d:Dsk} {L:Logic} (h:PoolAt w pb db n o d L) {name:Name} {ps:List Pg} {fl:Bool} (hL:mget L name=some (.inl (ps,fl))) {k:Nat} (hk:k<=ps.length) (hk':k < 65536) {v:Value} {b:Pg} (hv:Rd w v b) (hb:b.length<=240) (hvo:∀ x,v.ownBlock=some x->o x=none) :
 Calls Tryz.prog 155 #[ptrTo pb, .string name, .int .i64 (k:Int),v] w (WritePagePost w pb db n o d L (mput L name (.inl (setPage ps k b,false)))):=by
 obtain ⟨fb,mb,l,hand,mf,hp,rfl,hg⟩:=h;have hs:=okName_1000 (hg.ok name (by rw [hL];rfl));have hcall:=Lib.hid (pages_sound hp hg hL);have H:=Lib.hid hp;have HG:=Lib.hid hg;have HL:=Lib.hid hL;have HV:=Lib.hid hv;have HVO:=Lib.hid hvo;have HK:=Lib.hid hk;have HBL:=Lib.hid hb;obtain ⟨va,vc,rfl,-⟩:=hv;have hn:=hp.most;have hpbl:=hp.head.lt;obtain ⟨m,hm1,hm2⟩:=hp.wher;have HM1:=Lib.hid hm1;have HM2:=Lib.hid hm2;have hgk:=Lib.hid (good_pkey (s:=name) (n:=k) (by unfold maxLen;omega) (by omega));have hb240:¬ ((b.length:Int) > 240):=by omega
 have hkn:¬ ((k:Int) > (ps.length:Int)):=by omega
 have hk0:¬ ((k:Int) < 0):=by omega
 clear hp hg hL hm1 hm2 hvo hk hb;unfold ptrTo at *;unfold pagesAns at hcall;generalize hP:ps.length=P at *;have HP:=Lib.hid hP;clear hP;generalize hB:b.length=B at *;have HB:=Lib.hid hB;clear hB;cases hd:d.dead with
 | true=>
   rw [hd,if_pos rfl] at hcall;have HD:=Lib.hid hd;clear hd;go_enter Tryz.func155,Tryz.ntmps155
   go_wp2_with fail
   refine hcall.out.mono ?_;rintro e w1 ⟨rfl,hb⟩;have HB1:=Lib.hid hb;clear hb;go_wp2;go_ret;exact ⟨6,d,o,rfl,⟨fb,mb,l,hand,mf,H.out.below HB1.out,rfl,HG.out⟩,Turn.ofBelow HB1.out,OGrow.refl _ _,Onward.refl d, .inr (.inr ⟨rfl,HD.out⟩)⟩
 | false=>
   rw [hd,if_neg (by simp)] at hcall;clear hd;have hz:∀ W:World,(zeroValue 3).run Tryz.prog W=.ok (.int .i64 0) W:=fun W=>by kernel_rfl
   cases hmg:mget m (name,k) with
   | some i=>
     have HMG:=Lib.hid hmg;clear hmg;obtain ⟨fr,hi,hf1,hf2,hf3⟩:=(HM2.out name k i).1 HMG.out;have hil:i < l.length:=by have:=lt_of_get hi;rwa [List.length_map] at this
     go_enter Tryz.func155,Tryz.ntmps155
     go_wp2_with fail
     refine hcall.out.mono ?_;rintro e w1 ⟨rfl,hb⟩;have HB1:=Lib.hid hb;have H1:=Lib.hid (H.out.below hb);have HM3:Hid (WhereMap w1 mb m):=Lib.hid (HM1.out.kept (hb.block mb HM1.out.lt));clear hb;obtain ⟨⟨-,hc1,hc2,-⟩,-⟩:=H1.out.head.cells;obtain ⟨a,c,f0,hi'⟩:=H1.out.shaped.get rfl hil;obtain rfl:f0=fr:=by
      have:=map_get hi';rw [hi] at this;exact (Option.some.inj this).symm
     have HI':=Lib.hid hi';have HV1:=Lib.hid (HV.out.below HB1.out);clear hi hi';go_wp2_with (first | (at_lookup;refine wpList_look _ rfl _ _ _ _ rfl 3 keyed_pkey nameNum_inj Tryz.underlying148 (hz _) mb m rfl HM3.out (name,k) rfl hgk.out ?_;unfold mhas;rw [HMG.out];simp only [Option.map_some,Option.getD_some,Option.isSome_some]) | fail)
     have hcl:=Lib.hid (clone_any _ b w1 HV1.out (by have:=HB.out;have:=HBL.out;omega));refine hcl.out.mono ?_;rintro e w2 ⟨v2,rfl,ho2,hb2⟩;obtain ⟨a2,c2,rfl⟩:=ownsRow_slice ho2;have H2:=Lib.hid (H1.out.below hb2);have HB2:=Lib.hid (HB1.out.trans (hb2.mono HB1.out.size));have HO2:=Lib.hid ho2;have hs1:w.heap.size<=w1.heap.size:=HB1.out.size;have HF2:Hid (∀ x,(Value.slice a2 b.length c2).ownBlock=some x->o x=none):=Lib.hid (fun x hx=>fresh_none H.out.owned (Nat.le_trans hs1 (ownsRow_block ho2 x hx)));clear ho2 hb2 hc1 hc2;obtain ⟨-,-,-,h3,-,h5,h6⟩:=H2.out.row.seven HI'.out;have z3:=H2.out.row.free (i*7+3);have z5:=H2.out.row.free (i*7+5);have z6:=H2.out.row.free (i*7+6);go_wp2;go_ret;have hlay:=H2.out.lay HI'.out HO2.out HF2.out;have hsnd:=HG.out.write (map_get HI'.out) HL.out (u:=true) (by rw [HP.out];exact HK.out) hk' (b:=b) (by rw [HB.out];exact HBL.out) (.inl ⟨hf1,hf2,hf3⟩);refine ⟨0,d,_,rfl,⟨fb,mb,_,hand,mf,hlay,List.length_set,?_⟩,?_,?_,Onward.refl d, .inl rfl⟩
     ·rw [if_pos rfl,map_set];subst hf2 hf3;rw [hf1];exact hsnd
     ·exact (((Turn.ofBelow HB2.out).setCell ⟨fb,i*7+3,none⟩ _ (.inl H.out.in_fb)).setCell ⟨fb,i*7+5,none⟩ (.bool true) (.inl H.out.in_fb)).setCell ⟨fb,i*7+6,none⟩ (.bool true) (.inl H.out.in_fb)
     ·exact Owner.put_grow (fun x hx=>Nat.le_trans hs1 (ownsRow_block HO2.out x hx))
   | none=>
     have HMG:=Lib.hid hmg;clear hmg;have hnot:∀ (j:Nat) (fj:Frm),(l.map (·.2))[j]? = some fj->fj.full=true->fj.name=name->fj.k=k->False:=fun j fj h1 h2 h3 h4=>by
      have:=(HM2.out name k j).2 ⟨fj,h1,h2,h3,h4⟩;rw [HMG.out] at this;cases this
     have HNOT:=Lib.hid hnot;clear hnot;go_enter Tryz.func155,Tryz.ntmps155
     go_wp2_with fail
     refine hcall.out.mono ?_;rintro e w1 ⟨rfl,hb⟩;have HB1:=Lib.hid hb;have H1:=Lib.hid (H.out.below hb);have HM3:Hid (WhereMap w1 mb m):=Lib.hid (HM1.out.kept (hb.block mb HM1.out.lt));have HV1:=Lib.hid (HV.out.below hb);clear hb;obtain ⟨⟨-,-,hc2,-⟩,-⟩:=H1.out.head.cells;go_wp2_with (first | (at_lookup;refine wpList_look _ rfl _ _ _ _ rfl 3 keyed_pkey nameNum_inj Tryz.underlying148 (hz _) mb m rfl HM3.out (name,k) rfl hgk.out ?_;unfold mhas;rw [HMG.out];simp only [Option.map_none,Option.getD_none,Option.isSome_none]) | fail)
     refine (take_any HW H1.out HG.out).mono ?_;rintro e w4 ⟨o4,l4,hand4,d4,c4,i4,rfl,hp4,hg4,hon4,he4,hc40,hfew4,ht4,hgr4⟩;have HP4:=Lib.hid hp4;have HG4:=Lib.hid hg4;have HON4:=Lib.hid hon4;have HE4:=Lib.hid he4;have HC40:=Lib.hid hc40;have HFEW4:=Lib.hid hfew4;have hs1:w.heap.size<=w1.heap.size:=HB1.out.size;have HT4:=Lib.hid ((Turn.ofBelow HB1.out).trans ht4 (fun _ _ h=>h):Turn (o.In ofPool) w w4);have HGR4:Hid (OGrow w.heap.size o o4):=Lib.hid (fun x hx=>hgr4 x (Nat.lt_of_lt_of_le hx HB1.out.size));have HV4:Hid (Rd w4 (.slice va B vc) b):=Lib.hid (ht4.rd HV1.out (fun x hx=>Owner.not_in_none (HVO.out x hx)));have hs4:w.heap.size<=w4.heap.size:=HT4.out.size;clear hp4 hg4 hon4 he4 hc40 hfew4 ht4 hgr4 hc2;by_cases hc4:c4=0
     ·subst hc4;obtain ⟨p4,hi4,hp4f⟩:=HC40.out rfl;have HI4:=Lib.hid hi4;have hil4:=lt_of_get hi4;have HPF4:=Lib.hid hp4f;have hnew4:∀ (j:Nat) (fj:Frm),(l4.map (·.2))[j]? = some fj->fj.full=true->fj.name=name->fj.k=k->False:=fun j fj h1 h2 h3 h4=>by
       obtain ⟨y,g1,g2,g3,g4⟩:=HFEW4.out.2 j fj h1 h2;exact HNOT.out j y g1 g2 (g3.trans h3) (g4.trans h4)
      have HNEW4:=Lib.hid hnew4;have hcall4:=Lib.hid (fill_any HP4.out hi4 hp4f ⟨true,name,k,[],false,false⟩ (a:=none) (c:=0) (base:=0) (ownsRow_nil _ _ _) (fun x hx=>by cases hx) hnew4 hs (by show k < _;omega) false);unfold ptrTo at hcall4;dsimp only at hcall4;clear hi4 hp4f hnew4;go_wp2_with fail
      refine hcall4.out.mono ?_;rintro e w5 ⟨rfl,⟨mf5,hp5⟩,ht5⟩;have hput0:o4.put (.slice none ([]:Pg).length 0) (9,0)=o4:=rfl;rw [hput0] at hp5;have HP5:=Lib.hid hp5;have HT5:=Lib.hid (HT4.out.trans ht5 (fun x hx e=>by
       have h1:o4.In ofPool x:=by
        rcases e with rfl | rfl | rfl
        ·exact HP4.out.in_fb
        ·exact HP4.out.in_mb
        ·exact HP4.out.in_pb
       exact in_grow HGR4.out hx h1))
      have HV5:Hid (Rd w5 (.slice va B vc) b):=Lib.hid (ht5.rd HV4.out (fun x hx e=>by
       have hxo:=HVO.out x hx;rcases e with rfl | rfl | rfl
       ·rw [H.out.ofb] at hxo;cases hxo
       ·rw [H.out.omb] at hxo;cases hxo
       ·rw [H.out.opb] at hxo;cases hxo))
      clear hp5 ht5;have hi5:(l4.set i4 (Value.slice none ([]:Pg).length 0,(⟨true,name,k,[],false,false⟩:Frm)))[i4]? = some (Value.slice none ([]:Pg).length 0,⟨true,name,k,[],false,false⟩):=by rw [get_set hil4,if_pos rfl]
      have HI5:=Lib.hid hi5;clear hi5;obtain ⟨⟨-,hc1,-⟩,-⟩:=HP5.out.head.cells;go_wp2_with fail
      have hcl:=Lib.hid (clone_any _ b w5 HV5.out (by have:=HB.out;have:=HBL.out;omega));refine hcl.out.mono ?_;rintro e w6 ⟨v6,rfl,ho6,hb6⟩;obtain ⟨a6,c6,rfl⟩:=ownsRow_slice ho6;have H6:=Lib.hid (HP5.out.below hb6);have HT6:=Lib.hid (HT5.out.thenBelow hb6);have HO6:=Lib.hid ho6;have hs5:w.heap.size<=w5.heap.size:=HT5.out.size;have HF6:Hid (∀ x,(Value.slice a6 b.length c6).ownBlock=some x->o4 x=none):=Lib.hid (fun x hx=>fresh_none HP5.out.owned (ownsRow_block ho6 x hx));clear ho6 hb6 hc1;obtain ⟨-,-,-,h3,-,h5,h6⟩:=H6.out.row.seven HI5.out;have z3:=H6.out.row.free (i4*7+3);have z5:=H6.out.row.free (i4*7+5);have z6:=H6.out.row.free (i4*7+6);go_wp2;go_ret;have hlay:=H6.out.lay HI5.out HO6.out HF6.out;have hcl4:p4.2.dirty=false:=by
       rw [HG4.out.blank p4.2 (List.mem_of_getElem? (map_get HI4.out)) HPF4.out];rfl
      have hsnd:=HG4.out.write (map_get HI4.out) HL.out (u:=true) (by rw [HP.out];exact HK.out) hk' (b:=b) (by rw [HB.out];exact HBL.out) (.inr ⟨hcl4,fun i' fi' _ h1 h2 h3 h4=>HNEW4.out i' fi' h1 h2 h3 h4⟩);refine ⟨0,d4,_,rfl,⟨fb,mb,_,hand4,mf5,hlay,by rw [List.length_set,List.length_set];simpa using HFEW4.out.1,?_⟩,?_,?_,HON4.out, .inl rfl⟩
      ·rw [if_pos rfl,List.set_set,map_set];exact hsnd
      ·exact ((HT6.out.setCell ⟨fb,i4*7+3,none⟩ _ (.inl H.out.in_fb)).setCell ⟨fb,i4*7+5,none⟩ (.bool true) (.inl H.out.in_fb)).setCell ⟨fb,i4*7+6,none⟩ (.bool true) (.inl H.out.in_fb)
      ·exact HGR4.out.trans (Owner.put_grow (n:=w5.heap.size) (fun x hx=>ownsRow_block HO6.out x hx)) hs5
     ·have hc4':¬ (c4:Int)=0:=by omega
      have HC4:=Lib.hid hc4;clear hc4;go_wp2;go_ret;refine ⟨c4,d4,o4,rfl,⟨fb,mb,l4,hand4,mf,HP4.out,by simpa using HFEW4.out.1,?_⟩,HT4.out,HGR4.out,HON4.out,HE4.out⟩;rw [if_neg HC4.out];exact HG4.out
theorem Err.later {d d1 d2:Dsk} {L:Logic} {c:Nat} (hq:d1.quota=d.quota) (h:Err d1 d2 L c):Err d d2 L c:=by
 rcases h with ⟨h1,h2⟩ | h
 ·exact .inl ⟨h1,by rw [<- hq];exact h2⟩
 ·exact .inr h
theorem Sound.synced {d:Dsk} {fs:List Frm} {L:Logic} (h:Sound d fs L) {name:Name} {ps:List Pg} {fl:Bool} (hL:mget L name=some (.inl (ps,fl))) (hno:∀ k,¬ DirtyAt fs name k) :
 Sound (d.sync name).1 fs (if (d.sync name).2=0 then mput L name (.inl (ps,true)) else L)/\Onward d (d.sync name).1/\((d.sync name).2=0\/Err d (d.sync name).1 L (d.sync name).2):=by
 obtain ⟨f,dp,q⟩:=h.paged _ _ _ hL;have hok:okName name=true:=h.ok name (by rw [hL];rfl);unfold Dsk.sync;cases hd:d.tick.dead with
 | true=>exact ⟨h.tick,Onward.tick d, .inr (.inr ⟨rfl,hd⟩)⟩
 | false=>
   rw [if_neg (by simp),hok,if_neg (by simp),q.get];dsimp only;exact ⟨h.sync hL hno q.get rfl rfl,(Onward.tick d).of rfl rfl rfl, .inl rfl⟩
set_option maxRecDepth 100000 in
set_option maxHeartbeats 4000000 in
theorem flush_any (HW:WriteSaid) {w:World} {pb db n:Nat} {o:Owner} {d:Dsk} {L:Logic} (h:PoolAt w pb db n o d L) {name:Name} {ps:List Pg} {fl:Bool} (hL:mget L name=some (.inl (ps,fl))) :
 Calls Tryz.prog 79 #[ptrTo pb, .string name] w (WritePagePost w pb db n o d L (mput L name (.inl (ps,true)))):=by
 obtain ⟨fb,mb,l,hand,mf,hp,rfl,hg⟩:=h;obtain ⟨df,dp,q,hlive,hdead⟩:=hg.onDisk hL;have hok:=okName_1000 (hg.ok name (by rw [hL];rfl));have hfit:=hg.fitPlc;have hn:=hp.most;have H:=Lib.hid hp;have HG:=Lib.hid hg;have HQ:=Lib.hid q;have HFIT:=Lib.hid hfit;have HL:=Lib.hid hL;have hcall:=Lib.hid (onDisk_any hp name hok);have HLEN:Hid (l.length<=4096):=Lib.hid hn;have hhi:Hid (∀ p,DirtyAt (l.map (·.2)) name p->p < 16777216):=Lib.hid (fun p ⟨j,fr,h1,_,_,_,h5⟩=>by
  have:=(hg.fit fr (List.mem_of_getElem? h1)).2;omega)
 clear hp hg q hfit hL;unfold ptrTo at *;cases hd:d.dead with
 | true=>
   obtain ⟨-,hpo⟩:=hdead hd;have HPO:=Lib.hid hpo;have HD:=Lib.hid hd;clear hd hpo hlive hdead;go_enter Tryz.func79,Tryz.ntmps79
   go_wp2_with fail
   refine hcall.out.mono ?_;rintro e w1 ⟨v1,n1,rfl,hb1,-⟩;rw [HPO.out];have HB:=Lib.hid hb1;clear hb1;go_wp2;go_ret;exact ⟨6,d,o,rfl,⟨fb,mb,l,hand,mf,H.out.below HB.out,rfl,HG.out⟩,Turn.ofBelow HB.out,OGrow.refl _ _,Onward.refl d, .inr (.inr ⟨rfl,HD.out⟩)⟩
 | false=>
   obtain ⟨hsz,hpo⟩:=hlive hd;have HPO:=Lib.hid hpo;clear hd hpo hlive hdead hsz;go_enter Tryz.func79,Tryz.ntmps79
   go_wp2_with fail
   refine hcall.out.mono ?_;rintro e w1 ⟨v1,n1,rfl,hb1,hy⟩;obtain ⟨-,pf,rfl,hp,hpl⟩:=hy HPO.out;rw [HPO.out];have HB:=Lib.hid hb1;have HPF:=Lib.hid hp;clear hb1 hp hy;unfold ptrTo;have hcall2:=Lib.hid (dirty_any (H.out.below HB.out) (fun p hp=>(HFIT.out p hp).2) name 0 16777216);unfold ptrTo at hcall2;go_wp2_with fail
   refine hcall2.out.mono ?_;rintro e w2 ⟨v2,ls,rfl,ho2,htold,hb2⟩;have HB2:=Lib.hid (HB.out.trans (hb2.mono HB.out.size));have HO2:=Lib.hid ho2;have HT:=Lib.hid htold;have hlsl:Hid (ls.length<=100000):=Lib.hid (by
    have h1:=htold.length_le;rw [List.length_map] at h1;have:=HLEN.out;omega)
   have HPF2:=Lib.hid (HPF.out.below hb2);have hls:Hid (∀ x∈ls,x < l.length):=Lib.hid (fun x hx=>by
    obtain ⟨fr,h1,_⟩:=(HT.out.mem x).1 hx;have:=lt_of_get h1;rwa [List.length_map] at this)
   have hpo:=Lib.hid (fresh_none H.out.owned hpl);have hcall3:=Lib.hid (put_any HW (H.out.below HB2.out) HFIT.out hok HPF2.out hpo.out HO2.out (fun b hb=>fresh_none H.out.owned (by have:=ownsRow_block HO2.out b hb;have:=HB.out.size;omega)) hls.out hlsl.out);obtain ⟨d',fs',ec,hr,hg',hon,hlen',hmark,he⟩:=Sound.puts HL.out ls d (l.map (·.2)) df dp HG.out HQ.out (HT.out.puts HG.out hhi.out);rw [hr] at hcall3;have HG':=Lib.hid hg';have HON:=Lib.hid hon;have HMARK:=Lib.hid hmark;have HE:=Lib.hid he;have HLEN':=Lib.hid hlen';unfold ptrTo at hcall3;clear hr hg' hon hlen' hmark he ho2 htold hb2;go_wp2_with fail
   refine hcall3.out.mono ?_;rintro e w4 ⟨o',l',rfl,hp4,hl4,hlen4,hfit4,ht4,hg4⟩;dsimp only at hl4 hp4;have HP4:=Lib.hid hp4;have HL4:=Lib.hid hl4;have HLEN4:=Lib.hid hlen4;have HT4:=Lib.hid ((Turn.ofBelow HB2.out).trans ht4 (fun _ _ h=>h):Turn (o.In ofPool) w w4);have HG4:Hid (OGrow w.heap.size o o'):=Lib.hid (fun x hx=>hg4 x (Nat.lt_of_lt_of_le hx HB2.out.size));have HPF4:Hid (PfAt w4 pf db name):=Lib.hid (HPF2.out.kept ht4 (Owner.not_in_none hpo.out));clear hp4 hl4 hlen4 hfit4 ht4 hg4;by_cases hc:ec=0
   ·subst hc;have hno:∀ k,¬ DirtyAt fs' name k:=fun k ⟨j,fj,g1,g2,g3,g4,g5⟩=>by
     have hjl:j < (l.map (·.2)).length:=by rw [<- HLEN'.out];exact lt_of_get g1
     obtain ⟨dd,s1,s2,s3,s4⟩:=HMARK.out j _ (List.getElem?_eq_getElem hjl);rw [g1] at s1;have e1:=Option.some.inj s1;subst e1;dsimp only at g2 g3 g4 g5;have hm:j∈ls:=(HT.out.mem j).2 ⟨_,List.getElem?_eq_getElem hjl,isDirty_iff.2 ⟨g2,s2 g3,g4,Nat.zero_le _,hhi.out _ ⟨j,_,List.getElem?_eq_getElem hjl,g2,s2 g3,g4,rfl⟩⟩⟩;have:=s4 rfl hm;rw [this] at g3;cases g3
    obtain ⟨hs1,hs2,hs3⟩:=HG'.out.synced HL.out hno;have HS1:=Lib.hid hs1;have HS2:=Lib.hid hs2;have HS3:=Lib.hid hs3;have hcall4:=Lib.hid (pfSync_any HP4.out.disk HPF4.out hok);unfold ptrTo at hcall4;clear hno hs1 hs2 hs3;generalize (d'.sync name).1=d5 at *;generalize (d'.sync name).2=c5 at *;go_wp2_with fail
    refine hcall4.out.mono ?_;rintro e w5 ⟨rfl,o5,hd5,ht5,hgr5⟩;have HP5:=Lib.hid (HP4.out.reDisk hd5 ht5 hgr5);have HT5:=Lib.hid (HT4.out.owned HG4.out ht5.pool);have HG5:=Lib.hid (HG4.out.trans hgr5 HT4.out.size);clear hd5 ht5 hgr5;go_wp2;go_ret;refine ⟨c5,d5,o5,rfl,⟨fb,mb,l',hand,mf,HP5.out,HLEN4.out,by rw [HL4.out];exact HS1.out⟩,HT5.out,HG5.out,HON.out.trans HS2.out,HS3.out.imp id (Err.later HON.out.quota)⟩
   ·have hc':¬ (ec:Int)=0:=by omega
    have HC:=Lib.hid hc;clear hc;go_wp2;go_ret;refine ⟨ec,d',o',rfl,⟨fb,mb,l',hand,mf,HP4.out,HLEN4.out,by rw [HL4.out,if_neg HC.out];exact HG'.out⟩,HT4.out,HG4.out,HON.out,HE.out⟩
def dropOne (name:Name) (f:Frm):Frm:=if f.full=true/\f.name=name then Frm.none else f
def dropTo (name:Name) (k:Nat) (fs:List Frm):List Frm:=(fs.take k).map (dropOne name)++fs.drop k
theorem dropTo_zero (name:Name) (fs:List Frm):dropTo name 0 fs=fs:=by simp [dropTo]
theorem dropTo_all (name:Name) (fs:List Frm):dropTo name fs.length fs=fs.map (dropOne name):=by simp [dropTo]
theorem dropTo_length (name:Name) (k:Nat) (fs:List Frm):(dropTo name k fs).length=fs.length:=by
 simp [dropTo];omega
theorem dropTo_get (name:Name) {k:Nat} {fs:List Frm} (h:k<=fs.length) (j:Nat):(dropTo name k fs)[j]? = if j < k then (fs[j]?).map (dropOne name) else fs[j]? := by
 unfold dropTo;have hl:((fs.take k).map (dropOne name)).length=k:=by simp;omega
 by_cases hj:j < k
 ·rw [if_pos hj,List.getElem?_append_left (by omega),List.getElem?_map,List.getElem?_take_of_lt hj]
 ·rw [if_neg hj,List.getElem?_append_right (by omega),hl,List.getElem?_drop];congr 1;omega
theorem dropTo_succ (name:Name) {k:Nat} {fs:List Frm} {f:Frm} (h:fs[k]? = some f):dropTo name (k+1) fs=(dropTo name k fs).set k (dropOne name f):=by
 have hk:=lt_of_get h;apply List.ext_getElem?;intro j;rw [get_set (by rw [dropTo_length];exact hk),dropTo_get _ (by omega),dropTo_get _ (by omega)];by_cases e:j=k
 ·subst e;rw [if_pos (by omega),if_pos rfl,h];rfl
 ·rw [if_neg e];by_cases hj:j < k
  ·rw [if_pos (by omega),if_pos hj]
  ·rw [if_neg (by omega),if_neg hj]
theorem dropOne_full {name:Name} {f:Frm} (h:(dropOne name f).full=true):dropOne name f=f/\f.full=true/\f.name≠name:=by
 unfold dropOne at h ⊢;split at h
 ·cases h
 ·rename_i hn
  rw [if_neg hn];exact ⟨rfl,h,fun e=>hn ⟨h,e⟩⟩
theorem dropAll_get {name:Name} {fs:List Frm} {j:Nat} {x:Frm} (h:(fs.map (dropOne name))[j]? = some x):∃ y,fs[j]? = some y/\x=dropOne name y:=by
 rw [List.getElem?_map] at h;cases e:fs[j]? with
 | none=>rw [e] at h;cases h
 | some y=>rw [e] at h;exact ⟨y,rfl,(Option.some.inj h).symm⟩
theorem dropAll_dirty {name n:Name} {fs:List Frm} {k:Nat} (hn:n≠name):DirtyAt (fs.map (dropOne name)) n k ↔ DirtyAt fs n k:=by
 constructor
 ·rintro ⟨j,x,h,h1,h2,h3,h4⟩;obtain ⟨y,hy,rfl⟩:=dropAll_get h;obtain ⟨e,g1,g2⟩:=dropOne_full h1;rw [e] at h2 h3 h4;exact ⟨j,y,hy,g1,h2,h3,h4⟩
 ·rintro ⟨j,y,h,h1,h2,h3,h4⟩;refine ⟨j,y,?_,h1,h2,h3,h4⟩;rw [List.getElem?_map,h];show some (dropOne name y)=some y;unfold dropOne;rw [if_neg];rintro ⟨_,e⟩;exact hn (h3.symm.trans e)
theorem Sound.emptied {d:Dsk} {fs:List Frm} {L:Logic} (h:Sound d fs L) {name:Name} {ps:List Pg} {fl:Bool} (hL:mget L name=some (.inl (ps,fl))) {f:DFile} {dp:List Pg} (q:OnDisk d fs name ps fl f dp) :
 Sound d (fs.map (dropOne name)) (mput L name (.inl (dp,false))) where
 keys:=mput_keys h.keys
 dkeys:=h.dkeys
 names:=fun n=>by
  rw [isSome_mput,h.names];by_cases e:n=name
  ·subst e;simp [hL]
  ·simp [e]
 ok:=fun n hn=>by
  rw [isSome_mput] at hn;by_cases e:n=name
  ·subst e;exact h.ok n (by rw [hL];rfl)
  ·exact h.ok n (by simpa [e] using hn)
 paged:=fun n ps' fl' hg=>by
  rw [mget_mput] at hg;by_cases e:n=name
  ·rw [if_pos e] at hg;cases hg;subst e;exact ⟨f,_,q.get,q.now,Nat.le_refl _,Nat.le_trans q.le q.most,q.sdp,q.sdp,fun k hk=>.inl ⟨hk,rfl⟩,fun e=>(by cases e),q.near⟩
  ·rw [if_neg e] at hg;obtain ⟨f',dp',q'⟩:=h.paged n ps' fl' hg;refine ⟨f',dp',q'.get,q'.now,q'.le,q'.most,q'.short,q'.sdp,fun k hk=>(q'.each k hk).imp id (dropAll_dirty e).2,fun e'=>?_,q'.near⟩;obtain ⟨r1,r2,r3,r4⟩:=q'.lasts e';exact ⟨r1,r2,r3,fun k hd=>r4 k ((dropAll_dirty e).1 hd)⟩
 raws:=fun n f' ls hg=>by
  rw [mget_mput] at hg;by_cases e:n=name
  ·rw [if_pos e] at hg;cases hg
  ·rw [if_neg e] at hg;exact h.raws n f' ls hg
 frames:=fun fr hfr hf=>by
  obtain ⟨y,hy,rfl⟩:=List.mem_map.1 hfr;obtain ⟨e,g1,g2⟩:=dropOne_full hf;rw [e];obtain ⟨ps',fl',r1,r2⟩:=h.frames y hy g1;exact ⟨ps',fl',by rw [mget_mput,if_neg g2];exact r1,r2⟩
 blank:=fun fr hfr hf=>by
  obtain ⟨y,hy,rfl⟩:=List.mem_map.1 hfr;unfold dropOne at hf ⊢;split
  ·rfl
  ·rename_i hn
   rw [if_neg hn] at hf;exact h.blank y hy hf
 once:=fun i j fi fj hi hj h1 h2 h3 h4=>by
  obtain ⟨y,hy,rfl⟩:=dropAll_get hi;obtain ⟨z,hz,rfl⟩:=dropAll_get hj;obtain ⟨e1,g1,_⟩:=dropOne_full h1;obtain ⟨e2,g2,_⟩:=dropOne_full h2;rw [e1,e2] at h3 h4;exact h.once i j y z hy hz g1 g2 h3 h4
 looseIn:=fun n s hs=>by
  rw [isSome_mput,h.looseIn n s hs];simp
theorem mdel_mput {κ υ:Type} [DecidableEq κ] (m:List (κ × υ)) (k:κ) (v:υ):mdel (mput m k v) k=mdel m k:=by
 unfold mput mdel;simp
def Dropped (d':Dsk) (L L':Logic) (name:Name) (c:Nat):Prop:=c=0/\L'=mdel L name\/c=6/\d'.dead=true/\∃ dp,L'=mput L name (.inl (dp,false))
theorem Sound.removed {d:Dsk} {fs:List Frm} {L:Logic} (h:Sound d fs L) {name:Name} {ps:List Pg} {fl:Bool} (hL:mget L name=some (.inl (ps,fl))) :
 ∃ L',Sound (d.remove name).1 (fs.map (dropOne name)) L'/\Onward d (d.remove name).1/\Dropped (d.remove name).1 L L' name (d.remove name).2:=by
 obtain ⟨f,dp,q⟩:=h.paged _ _ _ hL;have hok:okName name=true:=h.ok name (by rw [hL];rfl);have he:=h.emptied hL q;unfold Dsk.remove;cases hd:d.tick.dead with
 | true=>exact ⟨_,he.tick,Onward.tick d, .inr ⟨rfl,hd,dp,rfl⟩⟩
 | false=>
   rw [if_neg (by simp),hok,if_neg (by simp),q.get];dsimp only;refine ⟨mdel L name,?_,(Onward.tick d).of rfl rfl rfl, .inl ⟨rfl,rfl⟩⟩;rw [<- mdel_mput L name (.inl (dp,false))];refine he.drop (fun fr hfr hf e=>?_) rfl rfl;obtain ⟨y,hy,rfl⟩:=List.mem_map.1 hfr;obtain ⟨e1,g1,g2⟩:=dropOne_full hf;rw [e1] at e;exact g2 e
theorem set_same {α:Type} {l:List α} {j:Nat} {x:α} (h:l[j]? = some x):l.set j x=l:=by
 apply List.ext_getElem?;intro i;rw [get_set (lt_of_get h)];by_cases e:i=j
 ·subst e;rw [if_pos rfl,h]
 ·rw [if_neg e]
def DropPost (w:World) (pb db n:Nat) (o:Owner) (d:Dsk) (L:Logic) (name:Name) (e:Ending) (w':World):Prop:=
 ∃ c d' o' L',e=.returned (.int .i64 ((c:Nat):Int))/\PoolAt w' pb db n o' d' L'/\Turn (o.In ofPool) w w'/\OGrow w.heap.size o o'/\Onward d d'/\Dropped d' L L' name c
set_option maxRecDepth 100000 in
set_option maxHeartbeats 4000000 in
theorem drop_any {w:World} {pb db nf:Nat} {o:Owner} {d:Dsk} {L:Logic} (h:PoolAt w pb db nf o d L) {name:Name} {ps:List Pg} {fl:Bool} (hL:mget L name=some (.inl (ps,fl))) :
 Calls Tryz.prog 62 #[ptrTo pb, .string name] w (DropPost w pb db nf o d L name):=by
 obtain ⟨fb,mb,l,hand,mf,hp,hnf,hg⟩:=h;have HNF:=Lib.hid hnf;clear hnf;have hok:=okName_1000 (hg.ok name (by rw [hL];rfl));have hfit:=hg.fitPlc;have hn:=hp.most;have H:=Lib.hid hp;have HFIT:=Lib.hid hfit;have HRow:=Lib.hid hp.row;have HS:=Lib.hid hp.shaped;have HNS:Hid (∀ fr∈l.map (·.2),fr.full=true->fr.name.size<=1000):=Lib.hid (fun fr hfr hf=>by
  obtain ⟨ps',fl',r1,_⟩:=hg.frames fr hfr hf;exact okName_1000 (hg.ok _ (by rw [r1];rfl)))
 obtain ⟨L',hs1,hs2,hs3⟩:=hg.removed hL;have HS1:=Lib.hid hs1;have HS2:=Lib.hid hs2;have HS3:=Lib.hid hs3;obtain ⟨⟨-,hc1,-⟩,-⟩:=hp.head.cells;have hrem:Hid (∀ W o',DiskAt W db o' d->Calls Tryz.prog 96 #[ptrTo db, .string name] W fun e w'=>e=.returned (.int .i64 ((d.remove name).2:Int))/\DiskPost W db o' (d.remove name).1 w'):=Lib.hid (fun W o' hW=>remove_any hW name hok);clear hp hg hfit hL hs1 hs2 hs3;unfold ptrTo at *;generalize (d.remove name).1=d5 at *;generalize (d.remove name).2=c5 at *;generalize hN:l.length=n at *;have HN:=Lib.hid hN;clear hN;go_enter Tryz.func62,Tryz.ntmps62
 go_wp2;go_loopw [16] (fun i wr=>∃ k:Nat,k<=n/\i=.int .i64 (k:Int)/\Below w.heap.size w wr) (fun i _=>n - (intOf i).toNat)
 case atStart=>exact ⟨0,Nat.zero_le _,rfl,Below.refl _ _⟩
 case round=>
  obtain ⟨k,hk,rfl,hb⟩:=hrel;by_cases hlt:k < n
  ·obtain ⟨a,c,f,hi⟩:=HS.out.get HN.out hlt;obtain ⟨h0,h1,h2,h3,h4,h5,h6⟩:=(HRow.out.below hb).seven hi;have hc1':wr.cell? ⟨pb,1,none⟩=some (.slice (some ⟨fb,0,none⟩) n n):=by rw [hb.cell (p:=⟨pb,1,none⟩) (World.block_lt_of_cell? _ _ hc1)];exact hc1
   have HB:=Lib.hid hb;clear hi hb;obtain ⟨full,nm,fk,bs,dirty,used⟩:=f;dsimp only at *;by_cases hnm:nm=name
   case' pos=>have hbq:(nm.toList == name.toList)=true:=by rw [hnm];exact beq_self_eq_true _
   case' neg=>have hbq:(nm.toList == name.toList)=false:=bytes_ne hnm
   all_goals
    clear hnm;cases full
   all_goals
    go_wp2;go_roundw
    case rel=>exact ⟨k+1,by omega,by go_num,HB.out.alloc HB.out.size _⟩
    case measure=>simp [intOf];omega
  ·obtain rfl:k=n:=by omega
   have H1:=Lib.hid (H.out.below hb);have HB:=Lib.hid hb;have hc1':wr.cell? ⟨pb,1,none⟩=some (.slice (some ⟨fb,0,none⟩) k k):=by rw [hb.cell (p:=⟨pb,1,none⟩) (World.block_lt_of_cell? _ _ hc1)];exact hc1
   clear hb hc1;go_wp2;generalize wr=W1 at *;go_loopw [40] (fun i wr=>∃ (j:Nat) (l2:List Plc),j<=k/\i=.int .i64 (j:Int)/\PoolIn wr pb db fb mb o l2 hand mf d/\l2.map (·.2)=dropTo name j (l.map (·.2))/\Turn (o.In ofPool) W1 wr) (fun i _=>k - (intOf i).toNat)
   case atStart=>exact ⟨0,l,Nat.zero_le _,rfl,H1.out,(dropTo_zero _ _).symm,Turn.refl _ _⟩
   case round=>
    obtain ⟨j,l2,hj,rfl,hp2,hl2,ht2⟩:=hrel;have hlen2:l2.length=k:=by
     have:=congrArg List.length hl2;rw [List.length_map,dropTo_length,List.length_map,HN.out] at this;exact this
    by_cases hlt:j < k
    ·obtain ⟨a,c,f,hi⟩:=hp2.shaped.get hlen2 hlt;have hfo:(l.map (·.2))[j]? = some f:=by
      have:=map_get hi;rw [hl2,dropTo_get _ (by rw [List.length_map,HN.out];omega),if_neg (Nat.lt_irrefl _)] at this;exact this
     have hsu:=dropTo_succ name hfo;obtain ⟨h0,h1,h2,h3,h4,h5,h6⟩:=hp2.row.seven hi;have hfk:=(HFIT.out _ (List.mem_of_getElem? (show l[j]? = some ((l[j]'(by rw [HN.out];exact hlt)).1,f) from by
      have hjl:j < l.length:=by rw [HN.out];exact hlt
      rw [List.getElem?_eq_getElem hjl];rw [List.getElem?_map,List.getElem?_eq_getElem hjl] at hfo;have:=Option.some.inj hfo;rw [<- this]))).2
     dsimp only at hfk;have hns:=HNS.out f (List.mem_of_getElem? hfo);have HP2:=Lib.hid hp2;have HL2:=Lib.hid hl2;have HT2:=Lib.hid ht2;have HI:=Lib.hid hi;have HSU:=Lib.hid hsu;have HLEN2:=Lib.hid hlen2;have HNSF:=Lib.hid hns;clear hp2 hl2 ht2 hi hsu hlen2 hfo hns;by_cases hm:f.full=true/\f.name=name
     ·obtain ⟨hm1,hm2⟩:=hm;have hbq:(f.name.toList == name.toList)=true:=by rw [hm2];exact beq_self_eq_true _
      have HM1:=Lib.hid hm1;have HM2:=Lib.hid hm2;have hcall:Hid (∀ W,Below wr.heap.size wr W->Calls Tryz.prog 95 #[ptrTo pb, .int .i64 (j:Int)] W fun e w'=>e=.returned (.tuple #[])/\PoolIn w' pb db fb mb o (l2.set j (.slice none 0 0,Frm.none)) hand mf d/\Turn (o.In ofPool) wr w'):=Lib.hid (fun W hW=>
       (empty_any (HP2.out.below hW) HI.out HM1.out (HNSF.out HM1.out) (by show f.k < _;omega)).mono (fun e w' ⟨q1,q2,q3⟩=>⟨q1,q2,(Turn.ofBelow hW).trans q3 (fun x _ e=>by
         rcases e with rfl | rfl
         ·exact HP2.out.in_fb
         ·exact HP2.out.in_mb)⟩))
      unfold ptrTo at hcall;rw [hm1] at h0;clear hm1 hm2;go_wp2_with fail
      refine (hcall.out _ ((Below.refl _ _).alloc (Nat.le_refl _) _)).mono ?_;rintro e w3 ⟨rfl,hp3,ht3⟩;have HP3:=Lib.hid hp3;have HT3:=Lib.hid ht3;clear hp3 ht3;go_wp2;go_roundw
      case rel=>
       refine ⟨j+1,_,by omega,by go_num,HP3.out,?_,HT2.out.trans HT3.out (fun _ _ h=>h)⟩;rw [map_set,HL2.out,HSU.out];unfold dropOne;rw [if_pos ⟨HM1.out,HM2.out⟩]
      case measure=>simp [intOf];omega
     ·have hsame:(l2.map (·.2))=dropTo name (j+1) (l.map (·.2)):=by
       rw [HSU.out];unfold dropOne;rw [if_neg hm,<- HL2.out];exact (set_same (map_get HI.out)).symm
      have HSAME:=Lib.hid hsame;clear hsame;cases hff:f.full with
      | false=>
        rw [hff] at h0;clear hm hff;go_wp2;go_roundw
        case rel=>exact ⟨j+1,l2,by omega,by go_num,HP2.out.below ((Below.refl _ _).alloc (Nat.le_refl _) _),HSAME.out,HT2.out.thenBelow ((Below.refl _ _).alloc (Nat.le_refl _) _)⟩
        case measure=>simp [intOf];omega
      | true=>
        have hbq:(f.name.toList == name.toList)=false:=bytes_ne (fun e=>hm ⟨hff,e⟩);rw [hff] at h0;clear hm hff;go_wp2;go_roundw
        case rel=>exact ⟨j+1,l2,by omega,by go_num,HP2.out.below ((Below.refl _ _).alloc (Nat.le_refl _) _),HSAME.out,HT2.out.thenBelow ((Below.refl _ _).alloc (Nat.le_refl _) _)⟩
        case measure=>simp [intOf];omega
    ·obtain rfl:j=k:=by omega
     have HP2:=Lib.hid hp2;have HL2:=Lib.hid hl2;have HT2:=Lib.hid ht2;have HLEN2:=Lib.hid hlen2;clear hp2 hl2 ht2 hlen2;obtain ⟨⟨hc0,-⟩,-⟩:=HP2.out.head.cells;unfold ptrTo at hc0;go_wp2_with fail
     refine (hrem.out _ o HP2.out.disk).mono ?_;rintro e w5 ⟨rfl,o5,hd5,ht5,hgr5⟩;have hg2:OGrow wr.heap.size o o5:=hgr5;go_wp2;go_ret;have hall:l2.map (·.2)=(l.map (·.2)).map (dropOne name):=by
      rw [HL2.out,<- dropTo_all,List.length_map,HN.out]
     have hT:Turn (o.In ofPool) w wr:=(Turn.ofBelow HB.out).trans HT2.out (fun _ _ h=>h);refine ⟨c5,d5,o5,L',rfl,⟨fb,mb,l2,hand,mf,HP2.out.reDisk hd5 ht5 hgr5,by rw [HLEN2.out];exact HNF.out,by rw [hall];exact HS1.out⟩,hT.trans ht5.pool (fun _ _ h=>h),fun x hx=>hgr5 x (Nat.lt_of_lt_of_le hx hT.size),HS2.out,HS3.out⟩
def blankPlc:Plc:=(.slice none 0 0,Frm.none)
def blankRow:Array Value:=#[.bool false, .string ByteArray.empty, .int .i64 0, .slice none 0 0, .int .i64 0, .bool false, .bool false]
theorem made_row (n:Nat):madeCells blankRow (n*7)=(rowOf (List.replicate n blankPlc)).toArray:=by
 apply Array.ext_getElem?;intro i;by_cases hi:i < n*7
 ·have h1:(List.replicate n blankPlc)[i / 7]? = some blankPlc:=by
   rw [List.getElem?_replicate,if_pos (by omega)]
  have hj:i % 7 < 7:=Nat.mod_lt _ (by decide);have h2:=rowOf_get h1 hj;rw [show 7*(i / 7)+i % 7=i by omega] at h2;have h3:(rowOf (List.replicate n blankPlc)).toArray[i]? = (frmCells blankPlc.1 blankPlc.2)[i % 7]? := by rw [<- h2];exact List.getElem?_toArray ..
  rw [h3];unfold madeCells;rw [Array.getElem?_map,Array.getElem?_range,if_pos hi];show some (blankRow[i % 7]!)=(frmCells blankPlc.1 blankPlc.2)[i % 7]?;generalize i % 7=j at hj;match j,hj with
  | 0,_=>rfl
  | 1,_=>rfl
  | 2,_=>rfl
  | 3,_=>rfl
  | 4,_=>rfl
  | 5,_=>rfl
  | 6,_=>rfl
 ·rw [Array.getElem?_eq_none (by rw [size_madeCells];omega),Array.getElem?_eq_none (by rw [List.size_toArray,rowOf_length,List.length_replicate];omega)]
theorem info_frame3:(Tryz.prog.info? 172).map (fun i=>(i.zero,i.size,i.bytes))=some (some (.agg blankRow),7,72):=by kernel_rfl
def NewPoolPost (w:World) (db n:Nat) (o:Owner) (d:Dsk) (L:Logic) (e:Ending) (w':World):Prop:=
 ∃ pb o',e=.returned (.tuple #[ptrTo pb, .int .i64 0])/\PoolAt w' pb db n o' d L/\Below w.heap.size w w'/\OGrow w.heap.size o o'/\w.heap.size<=pb
set_option maxRecDepth 100000 in
set_option maxHeartbeats 2000000 in
theorem newPool_any {w:World} {db:Nat} {o:Owner} {d:Dsk} {L:Logic} (h:DiskAt w db o d) (n:Nat) (h1:1<=n) (h2:n<=4096) (hg:Sound d (List.replicate n Frm.none) L) :
 Calls Tryz.prog 70 #[ptrTo db, .int .i64 (n:Int)] w (NewPoolPost w db n o d L):=by
 obtain ⟨i0,hi0,hz0,hz1,hz2⟩:=info_parts info_frame3;have hmk:∀ W:World,(Instr.makeSlice 147 (.int .i64 (n:Int)) (.int .i64 (n:Int))).run Tryz.prog W=.ok (.slice (some ⟨W.heap.size,0,none⟩) n n) (W.alloc (.cells (rowOf (List.replicate n blankPlc)).toArray 172)):=fun W=>by
  have hr:=run_make (P:=Tryz.prog) W 147 172 i0 (.agg blankRow) Tryz.underlying147 hi0 hz0 .i64 .i64 n n (by omega) (by omega) (by rw [hz2];omega) (by omega);simp only [Int.toNat_natCast] at hr;rw [hz1,show (Value.agg blankRow).cells=blankRow from rfl,made_row] at hr;exact hr
 have hmm:∀ (t:TypeId) (W:World),(Instr.makeMap t none).run Tryz.prog W=.ok (.map (some W.heap.size)) (W.alloc (.map #[] 0)):=fun _ _=>rfl;have H:=Lib.hid h;have HG:=Lib.hid hg;clear h hg;unfold ptrTo;go_enter Tryz.func70,Tryz.ntmps70
 go_wp2;go_returns
 have hB:Below w.heap.size w (((w.alloc (.cells (rowOf (List.replicate n blankPlc)).toArray 172)).alloc (.map #[] 0)).alloc (.cells #[ptrTo db, .slice (some ⟨w.heap.size,0,none⟩) n n, .map (some (w.heap.size+1)), .int .i64 0, .int .i64 0, .int .i64 0] 150)):=(((Below.refl _ _).alloc (Nat.le_refl _) _).alloc (by simp) _).alloc (by simp;omega) _;have howned:∀ x t,o x=some t->x < w.heap.size:=by
  obtain ⟨_,_,_,hd⟩:=H.out;exact hd.owned
 have s1:(w.alloc (.cells (rowOf (List.replicate n blankPlc)).toArray 172)).heap.size=w.heap.size+1:=by simp
 have s2:((w.alloc (.cells (rowOf (List.replicate n blankPlc)).toArray 172)).alloc (.map #[] 0)).heap.size=w.heap.size+1+1:=by simp
 have hh:∀ (W:World) (ob:Obj) (b:Nat),b < W.heap.size->(W.alloc ob).heap[b]? = W.heap[b]? := fun W ob b hb=>(MapKept.heap_alloc W ob).2 b hb;let o':Owner:=((o.set w.heap.size (7,0)).set (w.heap.size+1) (8,0)).set (w.heap.size+1+1) (6,0)
 have hgrow:OGrow w.heap.size o o':=(((OGrow.refl _ _).set (Nat.le_refl _) _).set (by omega) _).set (by omega) _;have hkeep:∀ x t,o x=some t->o' x=some t:=fun x t hx=>by rw [hgrow x (howned x t hx)];exact hx
 have hlt:∀ x t,o' x=some t->x < w.heap.size+3:=fun x t hx=>by
  by_cases e:x < w.heap.size+3
  ·exact e
  ·have:o' x=o x:=by
    show (((o.set w.heap.size (7,0)).set (w.heap.size+1) (8,0)).set (w.heap.size+1+1) (6,0)) x=o x;rw [Owner.set_other _ _ (by omega),Owner.set_other _ _ (by omega),Owner.set_other _ _ (by omega)]
   rw [this] at hx;have:=howned x t hx;omega
 refine ⟨w.heap.size+1+1,o',rfl,⟨w.heap.size,w.heap.size+1,List.replicate n blankPlc,0,0,?_,List.length_replicate,?_⟩,hB,hgrow,by omega⟩
 ·refine { disk:=?_,opb:=Owner.set_same _ _ _,ofb:=?_,omb:=?_,head:=⟨150,?_⟩,row:=⟨172,?_⟩,wher:=⟨[],?_,?_⟩,each:=?_,hand:=?_,most:=?_,full:=Nat.zero_le _ }
  ·exact H.out.kept (S:=fun _=>False) (Turn.ofBelow hB) (fun _ _ _ _ h=>h) hkeep (fun x t hx=>by have:=hlt x t hx;simp;omega)
  ·show (((o.set w.heap.size (7,0)).set (w.heap.size+1) (8,0)).set (w.heap.size+1+1) (6,0)) w.heap.size=_;rw [Owner.set_other _ _ (by omega),Owner.set_other _ _ (by omega),Owner.set_same]
  ·show (((o.set w.heap.size (7,0)).set (w.heap.size+1) (8,0)).set (w.heap.size+1+1) (6,0)) (w.heap.size+1)=_;rw [Owner.set_other _ _ (by omega),Owner.set_same]
  ·have:=heap_alloc_new ((w.alloc (.cells (rowOf (List.replicate n blankPlc)).toArray 172)).alloc (.map #[] 0)) (.cells #[ptrTo db, .slice (some ⟨w.heap.size,0,none⟩) n n, .map (some (w.heap.size+1)), .int .i64 0, .int .i64 0, .int .i64 0] 150);rw [s2] at this;rw [List.length_replicate];exact this
  ·exact (hh _ _ _ (by simp;omega)).trans ((hh _ _ _ (by simp)).trans (heap_alloc_new w _))
  ·have m1:=MapAt.made (w.alloc (.cells (rowOf (List.replicate n blankPlc)).toArray 172)) Tryz.prog 170 nameNum (fun i:Nat=>.int .i64 (i:Int));rw [s1] at m1;exact m1.kept (hh _ _ _ (by simp))
  ·intro nm k i;constructor
   ·intro h;cases h
   ·rintro ⟨fr,h1,h2,_⟩;rw [List.getElem?_map,List.getElem?_replicate] at h1;split at h1
    ·cases h1;cases h2
    ·cases h1
  ·intro p hp;rw [List.eq_of_mem_replicate hp];exact ⟨ownsRow_nil _ _ _,fun b hb=>by simp [blankPlc,Value.ownBlock] at hb⟩
  ·rw [List.length_replicate];omega
  ·rw [List.length_replicate];omega
 ·rw [List.map_replicate];exact HG.out
end
section
open Go.RowKit Go.Maps Go.MapKept
structure Moved (S:Nat->Prop) (n pb db:Nat) (w:World) (o:Owner) (d:Dsk) (w':World) (o':Owner) (d':Dsk) (L':Logic):Prop where
 pool:PoolAt w' pb db n o' d' L'
 turn:Turn (fun x=>o.In ofPool x\/S x) w w'
 grow:OGrow w.heap.size o o'
 on:Onward d d'
section
variable {S S':Nat->Prop} {n pb db:Nat} {w w' w'':World} {o o' o'':Owner} {d d' d'':Dsk} {L L' L'':Logic}
theorem PoolAt.owned (h:PoolAt w pb db n o d L):∀ x t,o x=some t->x < w.heap.size:=by
 obtain ⟨_,_,_,_,_,h,_,_⟩:=h;exact h.owned
theorem Moved.refl (S:Nat->Prop) (h:PoolAt w pb db n o d L):Moved S n pb db w o d w o d L:=⟨h,Turn.refl _ _,OGrow.refl _ _,Onward.refl _⟩
theorem Moved.size (h:Moved S n pb db w o d w' o' d' L'):w.heap.size<=w'.heap.size:=h.turn.size
theorem Moved.trans (h:Moved S n pb db w o d w' o' d' L') (k:Moved S' n pb db w' o' d' w'' o'' d'' L'') (hs:∀ x,x < w.heap.size->S' x->S x):Moved S n pb db w o d w'' o'' d'' L'':=
 ⟨k.pool,h.turn.trans k.turn (fun x hx e=>e.imp (fun ⟨t,h1,h2⟩=>⟨t,by rw [<- h.grow x hx];exact h1,h2⟩) (hs x hx)),h.grow.trans k.grow h.size,h.on.trans k.on⟩
theorem Moved.mono (h:Moved S n pb db w o d w' o' d' L') (hs:∀ x,x < w.heap.size->S x->S' x):Moved S' n pb db w o d w' o' d' L':=
 ⟨h.pool,h.turn.mono fun x hx e=>e.imp id (hs x hx),h.grow,h.on⟩
theorem Moved.below (h:Moved S n pb db w o d w' o' d' L') (hb:Below w'.heap.size w' w''):Moved S n pb db w o d w'' o' d' L':=
 ⟨h.pool.below hb,h.turn.thenBelow hb,h.grow,h.on⟩
theorem Moved.ofBelow (h:PoolAt w pb db n o d L) (hb:Below w.heap.size w w'):Moved S n pb db w o d w' o d L:=(Moved.refl S h).below hb
theorem Moved.alloc (h:Moved S n pb db w o d w' o' d' L') (ob:Obj):Moved S n pb db w o d (w'.alloc ob) o' d' L':=h.below ((Below.refl _ _).alloc (Nat.le_refl _) ob)
theorem Moved.drew (h:Moved S n pb db w o d w' o' d' L'):Moved S n pb db w o d w'.drew o' d' L':=h.below (Below.refl _ _).drew
theorem Moved.drewN (h:Moved S n pb db w o d w' o' d' L') (k:Nat):Moved S n pb db w o d (w'.drewN k) o' d' L':=h.below (below_drewN (Below.refl _ _) k)
theorem Moved.free (h:Moved S n pb db w o d w' o' d' L') {x:Nat} (hx:x < w.heap.size) (ho:o x=none):o' x=none:=by rw [h.grow x hx];exact ho
theorem Moved.block (h:Moved S n pb db w o d w' o' d' L') {x:Nat} (hx:x < w.heap.size) (ho:o x=none) (hs:¬ S x):w'.heap[x]? = w.heap[x]? :=
 h.turn.block x hx (fun e=>e.elim (Owner.not_in_none ho) hs)
theorem Moved.not {x:Nat} (ho:o x=none) (hs:¬ S x):¬ (o.In ofPool x\/S x):=fun e=>e.elim (Owner.not_in_none ho) hs
theorem Moved.heap (h:Moved S n pb db w o d w' o' d' L') {x:Nat} {ob:Obj} (hb:w.heap[x]? = some ob) (ho:o x=none) (hs:¬ S x):w'.heap[x]? = some ob:=by
 rw [h.block (Array.getElem?_eq_some_iff.1 hb).1 ho hs];exact hb
theorem Moved.cell (h:Moved S n pb db w o d w' o' d' L') {a:Addr} {v:Value} (hc:w.cell? a=some v) (ho:o a.block=none) (hs:¬ S a.block):w'.cell? a=some v:=
 h.turn.cell hc (Moved.not ho hs)
theorem Moved.ownsRow (h:Moved S n pb db w o d w' o' d' L') {base:Nat} {e:TypeId} {size:Nat} {v:Value} {k:Nat} {xs:List Value} (hr:w.ownsRow base e size v k xs) (hs:∀ b,v.ownBlock=some b->o b=none/\¬ S b):w'.ownsRow base e size v k xs:=
 h.turn.ownsRow hr fun b hb=>Moved.not (hs b hb).1 (hs b hb).2
theorem Moved.rd (h:Moved S n pb db w o d w' o' d' L') {v:Value} {bs:List UInt8} (hr:Rd w v bs) (hs:∀ b,v.ownBlock=some b->o b=none/\¬ S b):Rd w' v bs:=
 h.turn.rd hr fun b hb=>Moved.not (hs b hb).1 (hs b hb).2
theorem PoolAt.turned (h:PoolAt w pb db n o d L) {b:Nat} (ho:o b=none) (ht:Turn (·=b) w w'):PoolAt w' pb db n o d L:=
 h.kept ht (fun x hx e=>by rw [e] at hx;exact Owner.not_in_none ho hx) (fun _ _ h=>h) (fun x t hx=>Nat.lt_of_lt_of_le (h.owned x t hx) ht.size)
theorem Moved.setCell (h:Moved S n pb db w o d w' o' d' L') (a:Addr) (v:Value) (ho:o' a.block=none) (hs:S a.block\/w.heap.size<=a.block):Moved S n pb db w o d (w'.setCell a v) o' d' L':=
 ⟨h.pool.turned ho ((Turn.refl (·=a.block) w').setCell a v (.inl rfl)),h.turn.setCell a v (hs.imp Or.inr id),h.grow,h.on⟩
theorem Moved.turned (h:Moved S n pb db w o d w' o' d' L') {b:Nat} (ho:o' b=none) (hs:S b\/w.heap.size<=b) (ht:Turn (·=b) w' w''):Moved S n pb db w o d w'' o' d' L':=
 ⟨h.pool.turned ho ht,h.turn.trans ht (fun x hx e=>by subst e;rcases hs with h | h;exact .inr h;omega),h.grow,h.on⟩
theorem Moved.grown (h:Moved S n pb db w o d w' o' d' L') {row:Option Nat} (hg:w'.grownBy w'' row) (hr:∀ k,row=some k->o' k=none/\(S k\/w.heap.size<=k)):Moved S n pb db w o d w'' o' d' L':=by
 have ht:Turn (fun x=>row=some x) w' w'':=⟨hg.os,hg.tape,hg.output,hg.size,fun x hx hn=>hg.block x hx (fun e=>hn e.symm)⟩;refine ⟨h.pool.kept ht (fun x hx e=>Owner.not_in_none (hr x e).1 hx) (fun _ _ h=>h) (fun x t hx=>Nat.lt_of_lt_of_le (h.pool.owned x t hx) ht.size),h.turn.trans ht (fun x hx e=>?_),h.grow,h.on⟩;rcases (hr x e).2 with h | h
 ·exact .inr h
 ·omega
theorem PoolAt.fresh (h:PoolAt w pb db n o d L) {x:Nat} (hx:w.heap.size<=x):o x=none:=fresh_none h.owned hx
theorem PoolAt.congr (h:PoolAt w pb db n o d L) (hk:(L'.map (·.1)).Nodup) (he:∀ x,mget L' x=mget L x):PoolAt w pb db n o d L':=by
 obtain ⟨fb,mb,l,hand,mf,h,hl,g⟩:=h;exact ⟨fb,mb,l,hand,mf,h,hl,{ keys:=hk,dkeys:=g.dkeys,names:=fun x=>by rw [he];exact g.names x,ok:=fun x=>by rw [he];exact g.ok x,paged:=fun x ps fl=>by rw [he];exact g.paged x ps fl,raws:=fun x f ls=>by rw [he];exact g.raws x f ls,frames:=fun fr hfr hf=>by obtain ⟨ps,fl,h1,h2⟩:=g.frames fr hfr hf;exact ⟨ps,fl,by rw [he];exact h1,h2⟩,blank:=g.blank,once:=g.once,looseIn:=fun x s=>by rw [he];exact g.looseIn x s }⟩
theorem PoolAt.keys (h:PoolAt w pb db n o d L):(L.map (·.1)).Nodup:=by
 obtain ⟨_,_,_,_,_,_,_,g⟩:=h;exact g.keys
theorem PoolAt.ok (h:PoolAt w pb db n o d L) {x:Name} {f:LFile} (hx:mget L x=some f):okName x=true:=by
 obtain ⟨_,_,_,_,_,_,_,g⟩:=h;exact g.ok x (by rw [hx];rfl)
theorem Moved.congr (h:Moved S n pb db w o d w' o' d' L') (hk:(L''.map (·.1)).Nodup) (he:∀ x,mget L'' x=mget L' x):Moved S n pb db w o d w' o' d' L'':=⟨h.pool.congr hk he,h.turn,h.grow,h.on⟩
theorem need_congr (hk:(L.map (·.1)).Nodup) (hk':(L'.map (·.1)).Nodup) (he:∀ x,mget L' x=mget L x):need L'=need L:=by
 unfold need;rw [sum_keys hk',sum_keys hk];have hp:(L'.map (·.1)).Perm (L.map (·.1)):=perm_of_same hk' hk fun x=>by rw [mem_keys,mem_keys,he]
 have e:∀ x,((mget L' x).map LFile.need).getD 0=((mget L x).map LFile.need).getD 0:=fun x=>by rw [he]
 simp only [e];exact (hp.map _).sum_nat
end
end
section
open Go.RowKit Go.Maps Go.MapKept
def StreamAt (w:World) (sb pb:Nat) (name:Name) (sz:Nat):Prop:=∃ t,w.heap[sb]? = some (.cells #[ptrTo pb, .string name, .int .i64 (sz:Int)] t)
section
variable {S:Nat->Prop} {w w':World} {sb pb db n sz:Nat} {name:Name} {o o':Owner} {d d':Dsk} {L L':Logic}
theorem StreamAt.cells (h:StreamAt w sb pb name sz):w.cell? ⟨sb,0,none⟩=some (ptrTo pb)/\w.cell? ⟨sb,1,none⟩=some (.string name)/\w.cell? ⟨sb,2,none⟩=some (.int .i64 (sz:Int)):=by
 obtain ⟨t,h⟩:=h;refine ⟨?_,?_,?_⟩<;>rw [cells_cell h]<;>rfl
theorem StreamAt.lt (h:StreamAt w sb pb name sz):sb < w.heap.size:=by
 obtain ⟨t,h⟩:=h;exact (Array.getElem?_eq_some_iff.1 h).1
theorem StreamAt.kept (h:StreamAt w sb pb name sz) (hb:w'.heap[sb]? = w.heap[sb]?):StreamAt w' sb pb name sz:=by
 obtain ⟨t,h⟩:=h;exact ⟨t,hb.trans h⟩
theorem StreamAt.below (h:StreamAt w sb pb name sz) (hb:Below w.heap.size w w'):StreamAt w' sb pb name sz:=h.kept (hb.block _ h.lt)
theorem StreamAt.moved (h:StreamAt w sb pb name sz) (hm:Moved S n pb db w o d w' o' d' L') (ho:o sb=none) (hs:¬ S sb):StreamAt w' sb pb name sz:=h.kept (hm.block h.lt ho hs)
theorem PoolAt.paged (h:PoolAt w pb db n o d L) {ps:List Pg} {fl:Bool} (hL:mget L name=some (.inl (ps,fl))):ps.length<=65536/\Short ps:=by
 obtain ⟨_,_,_,_,_,_,_,g⟩:=h;obtain ⟨f,dp,q⟩:=g.paged _ _ _ hL;exact ⟨q.most,q.short⟩
theorem poolPages_sound (h:PoolAt w pb db n o d L) {ps:List Pg} {fl:Bool} (hL:mget L name=some (.inl (ps,fl))) :
 Calls Tryz.prog 92 #[ptrTo pb, .string name] w fun e w'=>e=.returned (.tuple #[.int .i64 ((pagesAns d ps).1:Int), .int .i64 ((pagesAns d ps).2:Int)])/\Below w.heap.size w w':=by
 obtain ⟨_,_,_,_,_,hp,_,g⟩:=h;exact pages_sound hp g hL
theorem poolPages_any (h:PoolAt w pb db n o d L) (name:Name) (hs:name.size<=1000) :
 Calls Tryz.prog 92 #[ptrTo pb, .string name] w fun e w'=>(∃ k:Nat,e=.returned (.tuple #[.int .i64 (k:Int), .int .i64 (pfOpen d name:Int)]))/\Below w.heap.size w w':=by
 obtain ⟨_,_,_,_,_,hp,_,g⟩:=h;exact (pages_any hp (fun p hp=>(g.fitPlc p hp).2) name hs).mono fun e w' ⟨h1,h2⟩=>⟨⟨_,h1⟩,h2⟩
theorem pfOpen_paged (h:PoolAt w pb db n o d L) {ps:List Pg} {fl:Bool} (hL:mget L name=some (.inl (ps,fl))):pfOpen d name=if d.dead=true then 6 else 0:=by
 obtain ⟨_,_,_,_,_,_,_,g⟩:=h;obtain ⟨f,dp,q,hlive,hdead⟩:=g.onDisk hL;cases hd:d.dead with
 | true=>rw [(hdead hd).2];rfl
 | false=>rw [(hlive hd).2];rfl
def StreamOpenPost (w:World) (pb:Nat) (name:Name) (sz:Nat) (c:Nat) (e:Ending) (w':World):Prop:=
 ∃ v,e=.returned (.tuple #[v, .int .i64 (c:Int)])/\Below w.heap.size w w'/\(c=0->∃ sb,v=ptrTo sb/\StreamAt w' sb pb name sz/\w.heap.size<=sb)/\(c≠0->v=.pointer none)
set_option maxRecDepth 100000 in
set_option maxHeartbeats 2000000 in
theorem streamOpen_any (h:PoolAt w pb db n o d L) (name:Name) (hs:name.size<=1000) (h1:1<=sz) (h2:sz<=240) :
 Calls Tryz.prog 67 #[ptrTo pb, .string name, .int .i64 (sz:Int)] w (StreamOpenPost w pb name sz (pfOpen d name)):=by
 have hcall:=Lib.hid (poolPages_any h name hs);have g1:¬ ((sz:Int) < 1):=by omega
 have g2:¬ ((sz:Int) > 240):=by omega
 clear h;unfold ptrTo at *;generalize hC:pfOpen d name=c at *;clear hC;by_cases hc:c=0
 ·subst hc;go_enter Tryz.func67,Tryz.ntmps67
  go_wp2_with fail
  refine hcall.out.mono ?_;rintro e w1 ⟨⟨k,rfl⟩,hb⟩;have HB:=Lib.hid hb;clear hb;go_wp2;go_ret2
  refine ⟨_,rfl,HB.out.alloc HB.out.size _,fun _=>⟨w1.heap.size,rfl,⟨_,heap_alloc_new w1 _⟩,HB.out.size⟩,fun h=>absurd rfl h⟩
 ·have hc':¬ (c:Int)=0:=by omega
  have HC:=Lib.hid hc;clear hc;go_enter Tryz.func67,Tryz.ntmps67
  go_wp2_with fail
  refine hcall.out.mono ?_;rintro e w1 ⟨⟨k,rfl⟩,hb⟩;have HB:=Lib.hid hb;clear hb;go_wp2;go_ret2
  exact ⟨_,rfl,HB.out,fun h=>absurd h HC.out,fun _=>rfl⟩
set_option maxHeartbeats 1000000 in
theorem streamPer_any (h:StreamAt w sb pb name sz) (h1:1<=sz) (h2:sz<=240):Calls Tryz.prog 94 #[ptrTo sb] w fun e w'=>e=.returned (.int .i64 (per sz:Int))/\w=w':=by
 obtain ⟨-,-,hc2⟩:=h.cells;have e1:(240:Int).tdiv (sz:Int)=(per sz:Int):=by
  unfold per;rw [Int.tdiv_eq_ediv_of_nonneg (by omega)];rfl
 clear h;have hz:¬ (sz:Int)=0:=by omega
 unfold ptrTo;have hp240:per sz<=240:=Nat.div_le_self _ _;generalize hp:per sz=p at *;clear hp;have e2:wrap64 (p:Int)=(p:Int):=by unfold wrap64;omega
 go_enter Tryz.func94,Tryz.ntmps94
 go_wp2;go_ret;exact ⟨rfl,rfl⟩
def Stays (n pb db:Nat) (w:World) (o:Owner) (d:Dsk) (L:Logic) (R:Nat->Ending->World->Owner->Prop) (e:Ending) (w':World):Prop:=
 ∃ c d' o',R c e w' o'/\Moved (fun _=>False) n pb db w o d w' o' d' L/\(c=0\/Err d d' L c)
def numIs (k:Nat) (c:Nat) (e:Ending) (_:World) (_:Owner):Prop:=∃ x:Nat,e=.returned (.tuple #[.int .i64 (x:Int), .int .i64 (c:Int)])/\(c=0->x=k)
theorem moved_of (hp:PoolAt w' pb db n o' d' L') (ht:Turn (o.In ofPool) w w') (hg:OGrow w.heap.size o o') (hon:Onward d d'):Moved S n pb db w o d w' o' d' L':=
 ⟨hp,ht.mono (fun _ _ h=>.inl h),hg,hon⟩
theorem last_facts {rs:List Rec} (hs:Sized sz rs) (h1:1<=sz) (h2:sz<=240) (hN:0 < rs.length) :
 ∃ (q m:Nat) (b:Pg),(pagesOf (per sz) rs).length=q+1/\(pagesOf (per sz) rs)[q]? = some b/\b.length=sz*m/\1<=m/\m<=per sz/\q*per sz+m=rs.length/\b=(rs.drop (per sz*q)).flatten:=by
 have hp:=per_pos h1 h2;obtain ⟨g1,g2,g3⟩:=last_page hp hN;refine ⟨pagesFor (per sz) rs.length - 1,rs.length - per sz*(pagesFor (per sz) rs.length - 1),_,?_,by rw [pagesOf_get hp,if_pos g1],?_,by omega,by omega,by rw [Nat.mul_comm];omega,?_⟩
 ·rw [pagesOf_length];omega
 ·rw [page_length hs,Nat.min_eq_right (by omega)]
 ·rw [List.take_of_length_le (by rw [List.length_drop];omega)]
set_option maxRecDepth 100000 in
set_option maxHeartbeats 4000000 in
theorem streamLen_any (HW:WriteSaid) (h:PoolAt w pb db n o d L) (hst:StreamAt w sb pb name sz) (ho:o sb=none) (h1:1<=sz) (h2:sz<=240) {rs:List Rec} {fl:Bool} (hL:mget L name=some (.inl (pagesOf (per sz) rs,fl))) (hs:Sized sz rs) :
 Calls Tryz.prog 59 #[ptrTo sb] w (Stays n pb db w o d L (numIs rs.length)):=by
 obtain ⟨hmost,hshort⟩:=h.paged hL;have hcall:Hid (∀ W,Below w.heap.size w W->Calls Tryz.prog 92 #[ptrTo pb, .string name] W fun e w'=>e=.returned (.tuple #[.int .i64 ((pagesAns d (pagesOf (per sz) rs)).1:Int), .int .i64 ((pagesAns d (pagesOf (per sz) rs)).2:Int)])/\Below W.heap.size W w'):=Lib.hid (fun W hW=>poolPages_sound (h.below hW) hL);have hread:Hid (∀ W,Below w.heap.size w W->∀ (k:Nat) (b:Pg),(pagesOf (per sz) rs)[k]? = some b->Calls Tryz.prog 93 #[ptrTo pb, .string name, .int .i64 (k:Int)] W (ReadPagePost W pb db n o d L b)):=Lib.hid (fun W hW k b hk=>poolRead_any HW (h.below hW) hL hk);have H:=Lib.hid h;have HST:=Lib.hid hst;have HO:=Lib.hid ho;have hfacts:=Lib.hid (fun hN=>last_facts (rs:=rs) hs h1 h2 hN);have hper:=Lib.hid (fun W (hW:StreamAt W sb pb name sz)=>streamPer_any hW h1 h2);have hpp:=per_mul sz;have hsl:=hst.lt;clear h hst ho hL hs hshort;unfold ptrTo at *;unfold pagesAns at hcall;cases hd:d.dead with
 | true=>
   rw [hd,if_pos rfl] at hcall;have HD:=Lib.hid hd;clear hd;dsimp only at hcall;go_enter Tryz.func59,Tryz.ntmps59
   go_wp2;refine wq w ?_;iterate 3 (refine qo (fun K hK=>?_);go_simp;refine hK _ ?_;clear hK K)
   refine qo (fun K hK=>?_) (fun w' hw'=>by have hc:=(HST.out.below hw').cells.1;unfold ptrTo at hc;go_simp<;>rfl);go_simp;refine hK _ ?_;clear hK K;iterate 3 (refine qo (fun K hK=>?_);go_simp;refine hK _ ?_;clear hK K)
   refine qo (fun K hK=>?_) (fun w' hw'=>by have hc:=(HST.out.below hw').cells.2.1;go_simp<;>rfl);go_simp;refine hK _ ?_;clear hK K;refine qc (fun w' hw'=>(hcall.out w' hw').mono (fun e w'' h=>⟨h.1,hw'.trans (h.2.mono hw'.size)⟩)) (fun K hK=>?_);go_simp;refine hK _ ?_;clear hK K;iterate 5 (refine qo (fun K hK=>?_);go_simp;refine hK _ ?_;clear hK K)
   refine wpQuiet_nil ?_;intro w1 hw1;have HB:=Lib.hid hw1;clear hw1;go_wp2;go_ret2
   exact ⟨6,d,o,⟨0,rfl,fun h=>absurd h (by decide)⟩,Moved.ofBelow H.out HB.out, .inr (.inr ⟨rfl,HD.out⟩)⟩
 | false=>
   rw [hd,if_neg (by simp)] at hcall;clear hd;dsimp only at hcall;rcases Nat.eq_zero_or_pos rs.length with hz | hN
   ·have hP:(pagesOf (per sz) rs).length=0:=by
     rw [pagesOf_length,hz];unfold pagesFor;have:=per_pos h1 h2;rw [Nat.div_eq_of_lt (by omega)]
    rw [hP] at hcall;have HZ:=Lib.hid hz;clear hz hP hmost;go_enter Tryz.func59,Tryz.ntmps59
    go_wp2;refine wq w ?_;iterate 3 (refine qo (fun K hK=>?_);go_simp;refine hK _ ?_;clear hK K)
    refine qo (fun K hK=>?_) (fun w' hw'=>by have hc:=(HST.out.below hw').cells.1;unfold ptrTo at hc;go_simp<;>rfl);go_simp;refine hK _ ?_;clear hK K;iterate 3 (refine qo (fun K hK=>?_);go_simp;refine hK _ ?_;clear hK K)
    refine qo (fun K hK=>?_) (fun w' hw'=>by have hc:=(HST.out.below hw').cells.2.1;go_simp<;>rfl);go_simp;refine hK _ ?_;clear hK K;refine qc (fun w' hw'=>(hcall.out w' hw').mono (fun e w'' h=>⟨h.1,hw'.trans (h.2.mono hw'.size)⟩)) (fun K hK=>?_);go_simp;refine hK _ ?_;clear hK K;iterate 5 (refine qo (fun K hK=>?_);go_simp;refine hK _ ?_;clear hK K)
    refine wpQuiet_nil ?_;intro w1 hw1;have HB:=Lib.hid hw1;clear hw1;go_wp2;go_ret2
    exact ⟨0,d,o,⟨0,rfl,fun _=>HZ.out.symm⟩,Moved.ofBelow H.out HB.out, .inl rfl⟩
   ·obtain ⟨q,m,b,f1,f2,f3,f4,f5,f6,-⟩:=hfacts.out hN;have hread':Hid (∀ W,Below w.heap.size w W->Calls Tryz.prog 93 #[.pointer (some ⟨pb,0,none⟩), .string name, .int .i64 (q:Int)] W (ReadPagePost W pb db n o d L b)):=Lib.hid (fun W hW=>hread.out W hW q b f2);have hq:q<=65536:=by omega
    have hm:sz*m<=240:=Nat.le_trans (Nat.mul_le_mul_left sz f5) hpp;have hB1:1<=sz*m:=Nat.mul_pos (by omega) (by omega);have e1:(sz*m) / sz=m:=Nat.mul_div_cancel_left m (by omega);have e2:(sz*m) % sz=0:=Nat.mul_mod_right sz m;have hN':rs.length<=16777216:=by
     have:per sz<=240:=Nat.div_le_self _ _;have:=Nat.mul_le_mul hq this;omega
    generalize hPP:(pagesOf (per sz) rs).length=P at *;rw [<- f3] at hm hB1 e1 e2;generalize hBB:b.length=B at *;generalize hNN:rs.length=N at *;generalize hpe:per sz=p at *;have hT:q*p<=N:=by omega
    generalize hTT:q*p=T at *;have hwq:IntKind.i64.wrap ((P:Int) - 1)=(q:Int):=by rw [wrap_in (by omega) (by omega)];omega
    have hwm:IntKind.i64.wrap ((q:Int)*(p:Int))=(T:Int):=by rw [<- Int.natCast_mul,hTT];exact wrap_in (by omega) (by omega)
    have hwd:(B:Int).tdiv (sz:Int)=(m:Int):=by rw [Int.tdiv_eq_ediv_of_nonneg (by omega),<- Int.natCast_ediv,e1]
    have hwr:(B:Int).tmod (sz:Int)=0:=by rw [Int.tmod_eq_emod_of_nonneg (by omega),<- Int.natCast_emod,e2];rfl
    have hwr2:(B:Int) % (sz:Int)=0:=by rw [<- Int.natCast_emod,e2];rfl
    have hwa:IntKind.i64.wrap ((T:Int)+(m:Int))=(N:Int):=by rw [wrap_in (by omega) (by omega)];omega
    have hB0:¬ (B:Int)=0:=by omega
    have hz0:¬ (sz:Int)=0:=by omega
    have hP0:¬ (P:Int)=0:=by omega
    have HBB:=Lib.hid hBB;have hwmm':Hid (IntKind.i64.wrap (m:Int)=(m:Int)):=Lib.hid (wrap_in (by omega) (by omega));have hwq':=Lib.hid hwq;have hwm':=Lib.hid hwm;have hwd':=Lib.hid hwd;have hwr':=Lib.hid hwr;have hwr2':=Lib.hid hwr2;have hwa':=Lib.hid hwa;clear hPP hNN hpe hTT hBB f1 f2 f3 f6 e1 e2 hwq hwm hwd hwr hwr2 hwa;go_enter Tryz.func59,Tryz.ntmps59
    go_wp2;refine wq w ?_;iterate 3 (refine qo (fun K hK=>?_);go_simp;refine hK _ ?_;clear hK K)
    refine qo (fun K hK=>?_) (fun w' hw'=>by have hc:=(HST.out.below hw').cells.1;unfold ptrTo at hc;go_simp<;>rfl);go_simp;refine hK _ ?_;clear hK K;iterate 3 (refine qo (fun K hK=>?_);go_simp;refine hK _ ?_;clear hK K)
    refine qo (fun K hK=>?_) (fun w' hw'=>by have hc:=(HST.out.below hw').cells.2.1;go_simp<;>rfl);go_simp;refine hK _ ?_;clear hK K;refine qc (fun w' hw'=>(hcall.out w' hw').mono (fun e w'' h=>⟨h.1,hw'.trans (h.2.mono hw'.size)⟩)) (fun K hK=>?_);go_simp;refine hK _ ?_;clear hK K;iterate 5 (refine qo (fun K hK=>?_);go_simp;refine hK _ ?_;clear hK K)
    refine wpQuiet_nil ?_;intro w1 hw1;have HB1:=Lib.hid hw1;have HST1:=Lib.hid (HST.out.below hw1);clear hw1;go_wp2;refine wp_region_mid (Below w1.heap.size w1) 10 rfl (by kernel_rfl) (by kernel_rfl) ((Below.refl _ _).drew) ?_;simp only [List.take_succ_cons,List.take_zero];iterate 3 (refine qo (fun K hK=>?_);go_simp;refine hK _ ?_;clear hK K)
    refine qo (fun K hK=>?_) (fun w' hw'=>by have hc:=(HST1.out.below hw').cells.1;unfold ptrTo at hc;go_simp<;>rfl);go_simp;refine hK _ ?_;clear hK K;iterate 3 (refine qo (fun K hK=>?_);go_simp;refine hK _ ?_;clear hK K)
    refine qo (fun K hK=>?_) (fun w' hw'=>by have hc:=(HST1.out.below hw').cells.2.1;go_simp<;>rfl);go_simp;refine hK _ ?_;clear hK K;refine qo (fun K hK=>?_);go_simp;refine hK _ ?_;clear hK K;refine qo (fun K hK=>?_) (fun w' hw'=>by have hx:=hwq'.out;go_simp<;>rfl);go_simp;refine hK _ ?_;clear hK K;refine wpQuiet_nil ?_;intro w2 hw2;refine ⟨_,_,rfl,(by go_simp<;>exact ⟨rfl,rfl⟩),?_⟩;have HB2:Hid (Below w.heap.size w w2):=Lib.hid (HB1.out.trans (hw2.mono HB1.out.size));refine (hread'.out w2 HB2.out).mono ?_;rintro e w3 ⟨v3,c3,d3,o3,rfl,hp3,ht3,hg3,hon3,he3,hok3,hbad3⟩;have HM3:Hid (Moved (fun _=>False) n pb db w o d w3 o3 d3 L):=Lib.hid ((Moved.ofBelow H.out HB2.out).trans (moved_of (S:=fun _=>False) hp3 ht3 hg3 hon3) (fun _ _ h=>h));have HE3:=Lib.hid he3;have hst3:=Lib.hid (HST.out.moved HM3.out HO.out (fun h=>h));clear hw2 hp3 ht3 hg3 hon3 he3;by_cases hc3:c3=0
    ·subst hc3;obtain ⟨ho3,-⟩:=hok3 rfl;rw [HBB.out] at ho3;obtain ⟨a3,k3,rfl⟩:=ownsRow_slice ho3;clear hok3 hbad3 ho3;refine ⟨_,rfl,?_⟩;go_simp;iterate 5 (refine qo (fun K hK=>?_);go_simp;refine hK _ ?_;clear hK K)
     refine wpQuiet_nil ?_;have hx:=hwr'.out;have hx2:=hwr2'.out;have hc:=hst3.out.cells.2.2;go_wp2;clear hx hx2;refine wq w3 ?_;refine qo (fun K hK=>?_);go_simp;refine hK _ ?_;clear hK K;refine qo (fun K hK=>?_) (fun w' hw'=>by have hx:=hwq'.out;go_simp<;>rfl);go_simp;refine hK _ ?_;clear hK K;refine qo (fun K hK=>?_);go_simp;refine hK _ ?_;clear hK K;refine qc (fun w' hw'=>(hper.out w' (hst3.out.below hw')).mono (fun e w'' h=>⟨h.1,h.2 ▸ hw'⟩)) (fun K hK=>?_);go_simp;refine hK _ ?_;clear hK K;refine qo (fun K hK=>?_) (fun w' hw'=>by have hx:=hwm'.out;go_simp<;>rfl);go_simp;refine hK _ ?_;clear hK K;iterate 5 (refine qo (fun K hK=>?_);go_simp;refine hK _ ?_;clear hK K)
     refine qo (fun K hK=>?_) (fun w' hw'=>by have hc:=(hst3.out.below hw').cells.2.2;go_simp<;>rfl);go_simp;refine hK _ ?_;clear hK K;refine qo (fun K hK=>?_) (fun w' hw'=>by have hx:=hwd'.out;have hx2:=hwmm'.out;go_simp<;>rfl);go_simp;refine hK _ ?_;clear hK K;refine qo (fun K hK=>?_) (fun w' hw'=>by have hx:=hwa'.out;go_simp<;>rfl);go_simp;refine hK _ ?_;clear hK K;iterate 2 (refine qo (fun K hK=>?_);go_simp;refine hK _ ?_;clear hK K)
     refine wpQuiet_nil ?_;intro w4 hw4;go_wp2;go_ret2
     exact ⟨0,d3,o3,⟨N,rfl,fun _=>rfl⟩,HM3.out.below hw4, .inl rfl⟩
    ·obtain rfl:=hbad3 hc3;have hc3':¬ (c3:Int)=0:=by omega
     have HC3:=Lib.hid hc3;clear hc3 hok3 hbad3;refine ⟨_,rfl,?_⟩;go_simp;iterate 5 (refine qo (fun K hK=>?_);go_simp;refine hK _ ?_;clear hK K)
     refine wpQuiet_nil ?_;go_wp2;go_ret2
     exact ⟨c3,d3,o3,⟨0,rfl,fun h=>absurd h HC3.out⟩,HM3.out,HE3.out⟩
end
end
section
open Go.RowKit Go.Maps Go.MapKept
section
variable {S:Nat->Prop} {w w':World} {sb pb db n sz:Nat} {name:Name} {o o':Owner} {d d':Dsk} {L L':Logic}
theorem rec_facts {rs:List Rec} (hs:Sized sz rs) (h1:1<=sz) (h2:sz<=240) {i:Nat} (hi:i < rs.length) :
 ∃ b:Pg,(pagesOf (per sz) rs)[i / per sz]? = some b/\b.length % sz=0/\sz*(i % per sz)+sz<=b.length/\(b.drop (sz*(i % per sz))).take sz=rs[i]/\b.length<=240:=by
 have hp:=per_pos h1 h2;obtain ⟨g1,g2,g3⟩:=page_rec hs hp hi;refine ⟨_,by rw [pagesOf_get hp,if_pos g1],?_,g3,g2,?_⟩
 ·rw [page_length hs];exact Nat.mul_mod_right _ _
 ·rw [page_length hs];exact Nat.le_trans (Nat.mul_le_mul_left sz (Nat.min_le_left _ _)) (per_mul sz)
def PageIn (n pb db:Nat) (w:World) (o:Owner) (d:Dsk) (L:Logic) (b:Pg) (k a:Nat) (e:Ending) (w':World):Prop:=
 ∃ v c d' o',e=.returned (.tuple #[v, .int .i64 ((if c=0 then k else 0:Nat):Int), .int .i64 ((if c=0 then a else 0:Nat):Int), .int .i64 ((c:Nat):Int)])/\Moved (fun _=>False) n pb db w o d w' o' d' L/\(c=0\/Err d d' L c) /\
  (c=0->w'.ownsRow w.heap.size 5 1 v b.length (b.map bv)/\∀ x,v.ownBlock=some x->o' x=none)
set_option maxRecDepth 100000 in
set_option maxHeartbeats 4000000 in
theorem streamPage_in (HW:WriteSaid) (h:PoolAt w pb db n o d L) (hst:StreamAt w sb pb name sz) (ho:o sb=none) (h1:1<=sz) (h2:sz<=240) {rs:List Rec} {fl:Bool} (hL:mget L name=some (.inl (pagesOf (per sz) rs,fl))) (hs:Sized sz rs) {i:Nat} (hi:i < rs.length)
 {b:Pg} (hb:(pagesOf (per sz) rs)[i / per sz]? = some b) :
 Calls Tryz.prog 90 #[ptrTo sb, .int .i64 (i:Int)] w (PageIn n pb db w o d L b (i / per sz) (sz*(i % per sz))):=by
 obtain ⟨hmost,hshort⟩:=h.paged hL;have hcall:Hid (∀ W,Below w.heap.size w W->Calls Tryz.prog 92 #[ptrTo pb, .string name] W fun e w'=>e=.returned (.tuple #[.int .i64 ((pagesAns d (pagesOf (per sz) rs)).1:Int), .int .i64 ((pagesAns d (pagesOf (per sz) rs)).2:Int)])/\Below W.heap.size W w'):=Lib.hid (fun W hW=>poolPages_sound (h.below hW) hL);have hread:Hid (∀ W,Below w.heap.size w W->Calls Tryz.prog 93 #[ptrTo pb, .string name, .int .i64 ((i / per sz:Nat):Int)] W (ReadPagePost W pb db n o d L b)):=Lib.hid (fun W hW=>poolRead_any HW (h.below hW) hL hb);have H:=Lib.hid h;have HST:=Lib.hid hst;have HO:=Lib.hid ho;obtain ⟨b',hb',f1,f2,-,f4⟩:=rec_facts hs h1 h2 hi;obtain rfl:b'=b:=by rw [hb] at hb';exact (Option.some.inj hb').symm
 have hper:=Lib.hid (fun W (hW:StreamAt W sb pb name sz)=>streamPer_any hW h1 h2);have hpp:=per_mul sz;have hp1:=per_pos h1 h2;have hp240:per sz<=240:=Nat.div_le_self _ _;have hsl:=hst.lt;have hkP:=lt_of_get hb;have hN':rs.length<=16777216:=by
  have h3:rs.length<=per sz*(pagesOf (per sz) rs).length:=by
   rw [pagesOf_length];exact Nat.le_of_not_lt (fun h=>Nat.lt_irrefl _ ((pagesFor_lt hp1).2 h))
  have h4:per sz<=240:=Nat.div_le_self _ _;have:=Nat.mul_le_mul h4 hmost;omega
 have hk1:i / per sz<=i:=Nat.div_le_self _ _;have hr1:i % per sz < per sz:=Nat.mod_lt _ (by omega);have hr2:sz*(i % per sz)<=240:=Nat.le_trans (Nat.mul_le_mul_left sz (Nat.le_of_lt hr1)) hpp;have hwk:(i:Int).tdiv (per sz:Int)=((i / per sz:Nat):Int):=by rw [Int.tdiv_eq_ediv_of_nonneg (by omega),Int.natCast_ediv]
 have hwm:(i:Int).tmod (per sz:Int)=((i % per sz:Nat):Int):=by rw [Int.tmod_eq_emod_of_nonneg (by omega),Int.natCast_emod]
 have hwa:IntKind.i64.wrap (((i % per sz:Nat):Int)*(sz:Int))=((sz*(i % per sz):Nat):Int):=by rw [<- Int.natCast_mul,Nat.mul_comm];exact wrap_in (by omega) (by omega)
 have hwr:(b'.length:Int).tmod (sz:Int)=0:=by rw [Int.tmod_eq_emod_of_nonneg (by omega),<- Int.natCast_emod,f1];rfl
 have hwr2:(b'.length:Int) % (sz:Int)=0:=by rw [<- Int.natCast_emod,f1];rfl
 clear h hst ho hL hs hshort hb hb' f1;unfold ptrTo at *;unfold pagesAns at hcall;generalize hBB:b'.length=B at *;have HBB:=Lib.hid hBB;clear hBB;generalize (pagesOf (per sz) rs).length=P at *;generalize i / per sz=k at *;generalize i % per sz=r at *;generalize per sz=p at *;obtain ⟨a,ha⟩:∃ a,a=sz*r:=⟨_,rfl⟩;rw [<- ha] at hr2 f2 hwa ⊢;have hwk':=Lib.hid hwk;have hwm':=Lib.hid hwm;have hwa':=Lib.hid hwa;have hwr':=Lib.hid hwr;have hwr2':=Lib.hid hwr2;have hi64:i < 16777216:=by omega
 clear hwk hwm hwa hwr hwr2 ha hi hN';have hi0:¬ ((i:Int) < 0):=by omega
 have hkP':¬ ((k:Int) >= (P:Int)):=by omega
 have haB:¬ ((a:Int) >= (B:Int)):=by omega
 have hz0:¬ (sz:Int)=0:=by omega
 have hpn:¬ p=0:=by omega
 have hwkk:Hid (IntKind.i64.wrap (k:Int)=(k:Int)):=Lib.hid (wrap_in (by omega) (by omega));have hwrr:Hid (IntKind.i64.wrap (r:Int)=(r:Int)):=Lib.hid (wrap_in (by omega) (by omega));cases hd:d.dead with
 | true=>
   rw [hd,if_pos rfl] at hcall;have HD:=Lib.hid hd;clear hd;dsimp only at hcall;go_enter Tryz.func90,Tryz.ntmps90
   go_wp2;refine wq w ?_;iterate 3 (refine qo (fun K hK=>?_);go_simp;refine hK _ ?_;clear hK K)
   refine qo (fun K hK=>?_) (fun w' hw'=>by have hc:=(HST.out.below hw').cells.1;unfold ptrTo at hc;go_simp<;>rfl);go_simp;refine hK _ ?_;clear hK K;iterate 3 (refine qo (fun K hK=>?_);go_simp;refine hK _ ?_;clear hK K)
   refine qo (fun K hK=>?_) (fun w' hw'=>by have hc:=(HST.out.below hw').cells.2.1;go_simp<;>rfl);go_simp;refine hK _ ?_;clear hK K;refine qc (fun w' hw'=>(hcall.out w' hw').mono (fun e w'' h=>⟨h.1,hw'.trans (h.2.mono hw'.size)⟩)) (fun K hK=>?_);go_simp;refine hK _ ?_;clear hK K;iterate 5 (refine qo (fun K hK=>?_);go_simp;refine hK _ ?_;clear hK K)
   refine wpQuiet_nil ?_;intro w1 hw1;have HB:=Lib.hid hw1;clear hw1;go_wp2;go_returns
   exact ⟨_,6,d,o,rfl,Moved.ofBelow H.out HB.out, .inr (.inr ⟨rfl,HD.out⟩),fun h=>absurd h (by decide)⟩
 | false=>
   rw [hd,if_neg (by simp)] at hcall;clear hd;dsimp only at hcall;go_enter Tryz.func90,Tryz.ntmps90
   go_wp2;refine wq w ?_;iterate 3 (refine qo (fun K hK=>?_);go_simp;refine hK _ ?_;clear hK K)
   refine qo (fun K hK=>?_) (fun w' hw'=>by have hc:=(HST.out.below hw').cells.1;unfold ptrTo at hc;go_simp<;>rfl);go_simp;refine hK _ ?_;clear hK K;iterate 3 (refine qo (fun K hK=>?_);go_simp;refine hK _ ?_;clear hK K)
   refine qo (fun K hK=>?_) (fun w' hw'=>by have hc:=(HST.out.below hw').cells.2.1;go_simp<;>rfl);go_simp;refine hK _ ?_;clear hK K;refine qc (fun w' hw'=>(hcall.out w' hw').mono (fun e w'' h=>⟨h.1,hw'.trans (h.2.mono hw'.size)⟩)) (fun K hK=>?_);go_simp;refine hK _ ?_;clear hK K;iterate 5 (refine qo (fun K hK=>?_);go_simp;refine hK _ ?_;clear hK K)
   refine wpQuiet_nil ?_;intro w1 hw1;have HB1:=Lib.hid hw1;have HST1:=Lib.hid (HST.out.below hw1);clear hw1;go_wp2;refine wq w1 ?_;iterate 2 (refine qo (fun K hK=>?_);go_simp;refine hK _ ?_;clear hK K)
   refine qc (fun w' hw'=>(hper.out w' (HST1.out.below hw')).mono (fun e w'' h=>⟨h.1,h.2 ▸ hw'⟩)) (fun K hK=>?_);go_simp;refine hK _ ?_;clear hK K;refine qo (fun K hK=>?_) (fun w' hw'=>by have hx:=hwk'.out;have hx2:=hpn;have hx3:=hwkk.out;go_simp<;>rfl);go_simp;refine hK _ ?_;clear hK K;iterate 2 (refine qo (fun K hK=>?_);go_simp;refine hK _ ?_;clear hK K)
   refine qc (fun w' hw'=>(hper.out w' (HST1.out.below hw')).mono (fun e w'' h=>⟨h.1,h.2 ▸ hw'⟩)) (fun K hK=>?_);go_simp;refine hK _ ?_;clear hK K;refine qo (fun K hK=>?_) (fun w' hw'=>by have hx:=hwm'.out;have hx2:=hpn;have hx3:=hwrr.out;go_simp<;>rfl);go_simp;refine hK _ ?_;clear hK K;iterate 3 (refine qo (fun K hK=>?_);go_simp;refine hK _ ?_;clear hK K)
   refine qo (fun K hK=>?_) (fun w' hw'=>by have hc:=(HST1.out.below hw').cells.2.2;go_simp<;>rfl);go_simp;refine hK _ ?_;clear hK K;refine qo (fun K hK=>?_) (fun w' hw'=>by have hx:=hwa'.out;go_simp<;>rfl);go_simp;refine hK _ ?_;clear hK K;iterate 2 (refine qo (fun K hK=>?_);go_simp;refine hK _ ?_;clear hK K)
   refine wpQuiet_nil ?_;intro w2 hw2;have HB2:Hid (Below w.heap.size w w2):=Lib.hid (HB1.out.trans (hw2.mono HB1.out.size));have HST2:=Lib.hid (HST1.out.below hw2);clear hw2;go_wp2;refine wp_region_mid (Below w2.heap.size w2) 9 rfl (by kernel_rfl) (by kernel_rfl) ((Below.refl _ _).drew) ?_;simp only [List.take_succ_cons,List.take_zero];iterate 3 (refine qo (fun K hK=>?_);go_simp;refine hK _ ?_;clear hK K)
   refine qo (fun K hK=>?_) (fun w' hw'=>by have hc:=(HST2.out.below hw').cells.1;unfold ptrTo at hc;go_simp<;>rfl);go_simp;refine hK _ ?_;clear hK K;iterate 3 (refine qo (fun K hK=>?_);go_simp;refine hK _ ?_;clear hK K)
   refine qo (fun K hK=>?_) (fun w' hw'=>by have hc:=(HST2.out.below hw').cells.2.1;go_simp<;>rfl);go_simp;refine hK _ ?_;clear hK K;refine qo (fun K hK=>?_);go_simp;refine hK _ ?_;clear hK K;refine wpQuiet_nil ?_;intro w3 hw3;refine ⟨_,_,rfl,(by go_simp<;>exact ⟨rfl,rfl⟩),?_⟩;have HB3:Hid (Below w.heap.size w w3):=Lib.hid (HB2.out.trans (hw3.mono HB2.out.size));refine (hread.out w3 HB3.out).mono ?_;rintro e w4 ⟨v4,c4,d4,o4,rfl,hp4,ht4,hg4,hon4,he4,hok4,hbad4⟩;have HM4:Hid (Moved (fun _=>False) n pb db w o d w4 o4 d4 L):=Lib.hid ((Moved.ofBelow H.out HB3.out).trans (moved_of (S:=fun _=>False) hp4 ht4 hg4 hon4) (fun _ _ h=>h));have HE4:=Lib.hid he4;have hst4:=Lib.hid (HST.out.moved HM4.out HO.out (fun h=>h));clear hw3 hp4 ht4 hg4 hon4 he4;by_cases hc4:c4=0
   ·subst hc4;obtain ⟨ho4,hf4⟩:=hok4 rfl;have HF4:=Lib.hid hf4;rw [HBB.out] at ho4;obtain ⟨a4,k4,rfl⟩:=ownsRow_slice ho4;have HO4:=Lib.hid ho4;clear hok4 hbad4 ho4 hf4;refine ⟨_,rfl,?_⟩;go_simp;iterate 5 (refine qo (fun K hK=>?_);go_simp;refine hK _ ?_;clear hK K)
    refine wpQuiet_nil ?_;have hx:=hwr'.out;have hx2:=hwr2'.out;have hc:=hst4.out.cells.2.2;go_wp2;go_returns
    exact ⟨_,0,d4,o4,rfl,HM4.out, .inl rfl,fun _=>⟨by rw [HBB.out];exact ownsRow_base HO4.out HB3.out.size,HF4.out⟩⟩
   ·obtain rfl:=hbad4 hc4;have hc4':¬ (c4:Int)=0:=by omega
    have HC4:=Lib.hid hc4;clear hc4 hok4 hbad4;refine ⟨_,rfl,?_⟩;go_simp;iterate 5 (refine qo (fun K hK=>?_);go_simp;refine hK _ ?_;clear hK K)
    refine wpQuiet_nil ?_;go_wp2;go_returns
    exact ⟨_,c4,d4,o4,by rw [if_neg HC4.out,if_neg HC4.out];rfl,HM4.out,HE4.out,fun h=>absurd h HC4.out⟩
def RecPost (n pb db:Nat) (w:World) (o:Owner) (d:Dsk) (L:Logic) (r:Rec) (e:Ending) (w':World):Prop:=
 ∃ v c d' o',e=.returned (.tuple #[v, .int .i64 ((c:Nat):Int)])/\Moved (fun _=>False) n pb db w o d w' o' d' L/\(c=0\/Err d d' L c) /\
  (c=0->w'.ownsRow w.heap.size 5 1 v r.length (r.map bv)/\∀ x,v.ownBlock=some x->o' x=none)/\(c≠0->v=.slice none 0 0)
theorem ownsRow_empty (w:World) (e:TypeId) (base:Nat) (hb:base<=w.heap.size):(w.alloc (.cells #[] e)).ownsRow base e 1 (.slice (some ⟨w.heap.size,0,none⟩) 0 0) 0 []:=
 ⟨rfl, .inr ⟨w.heap.size,0,#[],rfl,hb,heap_alloc_new w _,Nat.le_refl _,by unfold maxLen;omega,rfl,rfl⟩⟩
set_option maxRecDepth 100000 in
set_option maxHeartbeats 4000000 in
theorem streamGet_in (HW:WriteSaid) (h:PoolAt w pb db n o d L) (hst:StreamAt w sb pb name sz) (ho:o sb=none) (h1:1<=sz) (h2:sz<=240) {rs:List Rec} {fl:Bool} (hL:mget L name=some (.inl (pagesOf (per sz) rs,fl))) (hs:Sized sz rs) {i:Nat} (hi:i < rs.length) :
 Calls Tryz.prog 57 #[ptrTo sb, .int .i64 (i:Int)] w (RecPost n pb db w o d L rs[i]):=by
 obtain ⟨b,hb,f1,f2,f3,f4⟩:=rec_facts hs h1 h2 hi;have hcall:=Lib.hid (streamPage_in HW h hst ho h1 h2 hL hs hi hb);have hrl:rs[i].length=sz:=hs _ (List.getElem_mem hi);have HST:=Lib.hid hst;have HO:=Lib.hid ho;generalize rs[i]=r at *;clear h hst ho hL hs hi hb f1;unfold ptrTo at *;generalize sz*(i % per sz)=a at *;generalize i / per sz=k at *;have HRL:=Lib.hid hrl;have HF3:=Lib.hid f3;have hwx:IntKind.i64.wrap ((a:Int)+(sz:Int))=((a+sz:Nat):Int):=by rw [wrap_in (by omega) (by omega)];omega
 clear hrl f3 hwx;go_enter Tryz.func57,Tryz.ntmps57
 go_wp2_with fail
 refine hcall.out.mono ?_;rintro e w1 ⟨v1,c1,d1,o1,rfl,hm1,he1,hok1⟩;have HM1:=Lib.hid hm1;have HE1:=Lib.hid he1;have hst1:=Lib.hid (HST.out.moved hm1 HO.out (fun h=>h));clear hm1 he1;by_cases hc1:c1=0
 ·subst hc1;obtain ⟨ho1,hf1⟩:=hok1 rfl;rw [if_pos rfl,if_pos rfl];obtain ⟨a1,k1,rfl⟩:=ownsRow_slice ho1;have HO1:=Lib.hid ho1;have HR1:=Lib.hid (Rd_own ho1);obtain ⟨va,vc,hve,hvl,hvm,hvc⟩:=Rd_own ho1;cases hve;unfold maxLen at hvm;obtain hvc | ⟨vb,voff,rfl,-⟩:=hvc
  ·omega
  have hc:=hst1.out.cells.2.2;have hsb1:=hst1.out.lt;have hwx:IntKind.i64.wrap ((a:Int)+(sz:Int))=(a:Int)+(sz:Int):=wrap_in (by omega) (by omega);have HSUB:Hid (Rd w1 (.slice (some ⟨vb,voff+a,none⟩) (a+sz - a) (k1 - a)) r):=Lib.hid (by
   rw [Nat.add_sub_cancel_left];have:=HR1.out.sub (i:=a) (k:=sz) (by omega);rw [HF3.out] at this;simpa [Addr_add] using this)
  have HF1:=Lib.hid hf1;have HBS:Hid (w.heap.size<=w1.heap.size):=Lib.hid HM1.out.size;generalize hBB:b.length=B at *;have HBB:=Lib.hid hBB;have haB:(a:Int)+(sz:Int)<=(B:Int):=by omega
  have hak:(a:Int)+(sz:Int)<=(k1:Int):=by omega
  have hka:¬ k1=a:=by omega
  have hka2:a < k1:=by omega
  clear hok1 ho1 hf1 hBB;go_wp2_with (at_builtin;refine wpList_append_rd rfl _ _ 39 rfl w1.heap.size 5 Tryz.underlying39 info_u8 _ 0 [] rfl (ownsRow_empty w1 5 w1.heap.size (Nat.le_refl _)) (.slice (some ⟨vb,voff+a,none⟩) (a+sz - a) (k1 - a)) r rfl (HSUB.out.below ((Below.refl _ _).alloc (Nat.le_refl _) _)) ?c1 ?c2 ?_)
  case c1=>rw [HRL.out];omega
  case c2=>simp
  intro v' w2 ho2 hg2 hw2;have HO2:=Lib.hid ho2;have HM2:Hid (Moved (fun _=>False) n pb db w o d w2 o1 d1 L):=Lib.hid ((HM1.out.alloc _).grown hg2 (fun k hk=>by
   cases hk;exact ⟨HM1.out.pool.fresh (Nat.le_refl _), .inr HBS.out⟩))
  have HW2:Hid (∀ x,v'.ownBlock=some x->o1 x=none):=Lib.hid (fun x hx=>by
   rcases hw2 with e | e
   ·rw [e] at hx;cases hx;exact HM1.out.pool.fresh (Nat.le_refl _)
   ·rw [e] at hx;cases hx;exact HM1.out.pool.fresh (by simp))
  clear ho2 hg2 hw2;go_wp2;go_ret2
  refine ⟨v',0,d1,o1,rfl,HM2.out, .inl rfl,fun _=>⟨?_,HW2.out⟩,fun h=>absurd rfl h⟩;have:=ownsRow_base HO2.out HBS.out;simpa using this
 ·have hc1':¬ (c1:Int)=0:=by omega
  have HC1:=Lib.hid hc1;clear hc1 hok1;go_wp2;go_ret2
  exact ⟨_,c1,d1,o1,rfl,HM1.out,HE1.out,fun h=>absurd h HC1.out,fun _=>rfl⟩
end
end
end Go.Proofs.YthkkgdpomhhjjaaGreatDoor
