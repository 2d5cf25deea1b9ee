/-
  Joined.
-/
import Derived.Test.YthkkgdpomhhjjaaGreatDoorQ07
import Derived.Shelf.SlSortCmp.NoneTotal
import Derived.Ground.SlsfProg
import Derived.Shelf.SlGeneric
import Derived.Test.YthkkgdpomhhjjaaGreatDoorProg
import Derived.Sort.WalkA
import Derived.Shelf.SlicesQ.Load
import Derived.Shelf.SlicesQ.Reverse
import Derived.Shelf.RegionOpenPlain
import Derived.Sort.WalkB3
namespace Go.Proofs.YthkkgdpomhhjjaaGreatDoor
section
open Go.RowKit Go.Maps Go.MapKept
section
variable {S:Nat->Prop} {w w':World} {pb db n cb kb sb jb byb made:Nat} {by':Bool} {name:Name} {o o':Owner} {d d':Dsk} {L L':Logic}
theorem JobAt.moved (h:JobAt w jb pb byb made by') (hm:Moved S n pb db w o d w' o' d' L') (h1:o jb=none) (h2:o byb=none) (h3:¬ S jb) (h4:¬ S byb):JobAt w' jb pb byb made by':=
 h.kept (hm.block h.lt.1 h1 h3) (hm.block h.lt.2 h2 h4)
theorem Sound.weaken {fs:List Frm} (h:Sound d fs L) {ps:List Pg} {fl:Bool} (hL:mget L name=some (.inl (ps,fl))):Sound d fs (mput L name (.inl (ps,false))) where
 keys:=mput_keys h.keys
 dkeys:=h.dkeys
 names:=fun x=>by
  rw [isSome_mput,h.names];by_cases e:x=name
  ·subst e;simp [hL]
  ·simp [e]
 ok:=fun x hx=>by
  rw [isSome_mput] at hx;by_cases e:x=name
  ·subst e;exact h.ok x (by rw [hL];rfl)
  ·exact h.ok x (by simpa [e] using hx)
 paged:=fun x ps' fl' hg=>by
  rw [mget_mput] at hg;by_cases e:x=name
  ·rw [if_pos e] at hg;cases hg;subst e;obtain ⟨f,dp,q⟩:=h.paged _ _ _ hL;exact ⟨f,dp,q.get,q.now,q.le,q.most,q.short,q.sdp,q.each,fun e=>(by cases e),q.near⟩
  ·rw [if_neg e] at hg;exact h.paged x ps' fl' hg
 raws:=fun x f' ls hg=>by
  rw [mget_mput] at hg;by_cases e:x=name
  ·rw [if_pos e] at hg;cases hg
  ·rw [if_neg e] at hg;exact h.raws x f' ls hg
 frames:=fun fr hfr hf=>by
  obtain ⟨ps',fl',h1,h2⟩:=h.frames fr hfr hf;rw [mget_mput];by_cases e:fr.name=name
  ·rw [if_pos e];rw [e,hL] at h1;cases h1;exact ⟨ps,false,rfl,h2⟩
  ·rw [if_neg e];exact ⟨ps',fl',h1,h2⟩
 blank:=h.blank
 once:=h.once
 looseIn:=fun x s hs=>by
  rw [isSome_mput,h.looseIn x s hs];simp
theorem PoolAt.weaken (h:PoolAt w pb db n o d L) {ps:List Pg} {fl:Bool} (hL:mget L name=some (.inl (ps,fl))):PoolAt w pb db n o d (mput L name (.inl (ps,false))):=by
 obtain ⟨fb,mb,l,hand,mf,h,hl,g⟩:=h;exact ⟨fb,mb,l,hand,mf,h,hl,g.weaken hL⟩
theorem edgeFile_nil (fl:Bool):edgeFile [] fl=.inl ([],fl):=rfl
def createCode (d:Dsk) (L:Logic) (name:Name):Nat:=if d.tick.dead=true then 6 else if okName name=false then 1 else if (mget L name).isSome=true then 4 else 0
def CreatePost (n pb db:Nat) (w:World) (o:Owner) (d:Dsk) (L:Logic) (name:Name) (e:Ending) (w':World):Prop:=
 ∃ d' o',e=.returned (.int .i64 (createCode d L name:Int))/\Moved (fun _=>False) n pb db w o d w' o' d' (if createCode d L name=0 then mput L name (.inl ([],true)) else L)/\(createCode d L name=0->d'.dead=false)/\(d.tick.dead=true->d'.dead=true)
theorem create_pool (h:PoolAt w pb db n o d L) (name:Name) (hs:name.size<=1000):Calls Tryz.prog 71 #[ptrTo pb, .string name] w (CreatePost n pb db w o d L name):=by
 obtain ⟨fb,mb,l,hand,mf,hp,hl,g⟩:=h;refine (poolCreate_any hp name hs).mono ?_;rintro e w' ⟨rfl,o',hd,ht,hg⟩;have hp':=hp.reDisk hd ht hg;have hcode:(d.create name).2=createCode d L name:=by
  unfold Dsk.create createCode;rw [<- g.names];split
  ·rfl
  ·split
   ·rfl
   ·split<;>rfl
 refine ⟨(d.create name).1,o',by rw [hcode],⟨⟨fb,mb,l,hand,mf,hp',hl,?_⟩,(Turn.pool ht).mono (fun _ _ h=>.inl h),hg,?_⟩,?_,?_⟩
 ·unfold createCode Dsk.create;rw [<- g.names];split
  ·exact g.tick
  ·rename_i hdd
   split
   ·exact g.tick
   ·rename_i hok
    split
    ·exact g.tick
    ·rename_i hno
     rw [if_pos rfl];refine g.create (by simpa using hok) ?_ rfl (Dsk.tick_loose d);have:=g.names name;rw [Bool.not_eq_true] at hno;rw [hno] at this;exact Option.not_isSome_iff_eq_none.1 (by rw [<- this];simp)
 ·unfold Dsk.create;split
  ·exact Onward.tick d
  ·split
   ·exact Onward.tick d
   ·split
    ·exact Onward.tick d
    ·exact (Onward.tick d).of rfl rfl rfl
 ·intro h0;rw [<- hcode] at h0;unfold Dsk.create at h0 ⊢;by_cases hdd:d.tick.dead=true
  ·rw [if_pos hdd] at h0;cases h0
  ·rw [if_neg hdd] at h0 ⊢;have hdf:d.tick.dead=false:=by simpa using hdd
   split
   ·exact hdf
   ·split<;>exact hdf
 ·intro hdd;unfold Dsk.create;rw [if_pos hdd];exact hdd
def tName (k:Nat):Name:=⟨([116,46]++Lib.decDigits k).toArray⟩
set_option maxRecDepth 100000 in
set_option maxHeartbeats 2000000 in
theorem fresh_any (hj:JobAt w jb pb byb made by') (hm:made < 100) (hne:byb≠jb) :
 Calls Tryz.prog 178 #[ptrTo jb] w fun e w'=>e=.returned (.string (tName made))/\JobAt w' jb pb byb (made+1) by'/\Turn (·=jb) w w':=by
 obtain ⟨-,-,hc2,-,hz⟩:=hj.cells;have HJ:=Lib.hid hj;have hit:=Lib.hid (fun W=>Any.strconv_Itoa_small (P:=Tryz.prog) (ρ:=Tryz.itoa_ren) { Tryz.itoa with } made hm W);have hjl:=hj.lt;have hw1:IntKind.i64.wrap ((made:Int)+1)=(made:Int)+1:=wrap_in (by omega) (by omega);have hw2:IntKind.i64.wrap ((made:Int)+1 - 1)=(made:Int):=by rw [wrap_in (by omega) (by omega)];omega
 clear hj;have hdl:(Lib.decDigits made).length<=2:=by
  by_cases h:made < 10
  ·rw [Lib.decDigits_one h];simp
  ·rw [Lib.decDigits_two h hm];simp
 have HT:Hid ((⟨#[116,46]⟩:ByteArray)++⟨(Lib.decDigits made).toArray⟩=tName made):=Lib.hid (by
  unfold tName;apply ByteArray.ext;simp)
 generalize Lib.decDigits made=dg at *;unfold ptrTo;go_enter Tryz.func178,Tryz.ntmps178
 go_wp2_with fail
 refine (hit.out _).mono ?_;rintro e w' ⟨rfl,rfl⟩;go_wp2;go_ret;refine ⟨by rw [<- HT.out];rfl,?_,(Turn.refl _ w).setCell _ _ (.inl rfl)⟩;obtain ⟨⟨t,h1⟩,⟨t',h2⟩⟩:=HJ.out;refine ⟨⟨t,?_⟩,⟨t',?_⟩⟩
 ·have:=cells_set h1 2 (.int .i64 ((made:Int)+1));rw [this];rfl
 ·rw [Below.heap_setCell _ _ _ _ hne];exact h2
theorem mget_dels {κ υ:Type} [DecidableEq κ] (ns:List κ):∀ (L:List (κ × υ)) (x:κ),mget (ns.foldl mdel L) x=if x∈ns then none else mget L x:=by
 induction ns with
 | nil=>intro L x;simp
 | cons k ns ih=>
   intro L x;rw [List.foldl_cons,ih,mget_mdel];by_cases e:x=k
   ·subst e;simp
   ·simp [e]
def DropAllPost (n pb db:Nat) (w:World) (o:Owner) (d:Dsk) (L:Logic) (ns:List Name) (e:Ending) (w':World):Prop:=
 ∃ c d' o' L',e=.returned (.int .i64 ((c:Nat):Int))/\Moved (fun _=>False) n pb db w o d w' o' d' L'/\((c=0/\L'=ns.foldl mdel L)\/(c=6/\d'.dead=true/\∀ x,x ∉ ns->mget L' x=mget L x))
set_option maxRecDepth 100000 in
set_option maxHeartbeats 4000000 in
theorem jobDrop_any (h:PoolAt w pb db n o d L) (hj:JobAt w jb pb byb made by') (hoj:o jb=none) {v:Value} {ns:List Name} (hv:NameRow w v ns) (hvo:∀ b,v.ownBlock=some b->o b=none) (hL:∀ x∈ns,∃ ps fl,mget L x=some (.inl (ps,fl))) (hnd:ns.Nodup) (hlen:ns.length<=100000) :
 Calls Tryz.prog 227 #[ptrTo jb,v] w (DropAllPost n pb db w o d L ns):=by
 have H:=Lib.hid h;have HJ:=Lib.hid hj;have HOJ:=Lib.hid hoj;have HV:=Lib.hid hv;have HVO:=Lib.hid hvo;have HL:=Lib.hid hL;have HND:=Lib.hid hnd;have hjl:=hj.lt.1;obtain ⟨g,off,cap,rfl⟩:=hv.shape;obtain ⟨hl1,hl2,hl3,-⟩:=hv.cells;unfold maxLen at hl3;clear h hj hoj hv hvo hL hnd hl1;generalize hN:ns.length=N at *;have HN:=Lib.hid hN;clear hN;unfold ptrTo;go_enter Tryz.func227,Tryz.ntmps227
 go_wp2;go_loopw [10] (fun i wr=>∃ (k:Nat) (d':Dsk) (o':Owner),k<=N/\i=.int .i64 (k:Int)/\Moved (fun _=>False) n pb db w o d wr o' d' ((ns.take k).foldl mdel L)) (fun i _=>N - (intOf i).toNat)
 case atStart=>exact ⟨0,d,o,Nat.zero_le _,rfl,by simpa using Moved.refl _ H.out⟩
 case round=>
  obtain ⟨k,d1,o1,hk,rfl,hm⟩:=hrel;by_cases hlt:k < N
  ·have hkn:k < ns.length:=by rw [HN.out];exact hlt
   have hcell:wr.cell? ⟨g,off+k,none⟩=some (.string ns[k]):=by
    have hv':=HV.out.kept (fun b hb=>hm.block (HV.out.lt b hb) (HVO.out b hb) (fun h=>h));rw [<- HN.out] at hv';exact hv'.cells.2.2.2 k hkn
   have hjc:wr.cell? ⟨jb,0,none⟩=some (ptrTo pb):=hm.cell (HJ.out.cells.1) HOJ.out (fun h=>h);unfold ptrTo at hjc;obtain ⟨ps,fl,hLk⟩:=HL.out ns[k] (List.getElem_mem hkn);have hnot:ns[k] ∉ ns.take k:=fun hmem=>by
    obtain ⟨j,hj,he⟩:=List.getElem_of_mem hmem;rw [List.getElem_take] at he;rw [List.length_take] at hj;have:=(List.getElem_inj HND.out).1 he;omega
   have hLk':mget ((ns.take k).foldl mdel L) ns[k]=some (.inl (ps,fl)):=by rw [mget_dels,if_neg hnot,hLk]
   have hcall:=Lib.hid (drop_any hm.pool hLk');have HM:=Lib.hid hm;have HSN:Hid (∀ L',L'=mdel ((ns.take k).foldl mdel L) ns[k]->L'=(ns.take (k+1)).foldl mdel L):=Lib.hid (fun L' e=>by rw [e,List.take_succ_eq_append_getElem hkn,List.foldl_append];rfl);have HERR:Hid (∀ (L':Logic) (dp:List Pg),L'=mput ((ns.take k).foldl mdel L) ns[k] (.inl (dp,false))->∀ x,x ∉ ns->mget L' x=mget L x):=Lib.hid (fun L' dp e x hx=>by
    have hxk:x≠ns[k]:=fun e'=>hx (by rw [e'];exact List.getElem_mem hkn);rw [e,mget_mput,if_neg hxk,mget_dels,if_neg (fun h=>hx (List.mem_of_mem_take h))])
   clear hm hLk hLk' hnot;generalize ns[k]=nm at *;unfold ptrTo at hcall;go_wp2_with fail
   refine hcall.out.mono ?_;rintro e w2 ⟨c2,d2,o2,L2,rfl,hp2,ht2,hg2,hon2,hdr2⟩;have HM2:Hid (Moved (fun _=>False) n pb db w o d w2 o2 d2 L2):=Lib.hid (HM.out.trans (moved_of (S:=fun _=>False) hp2 ht2 hg2 hon2) (fun _ _ h=>h));clear hp2 ht2 hg2 hon2 hcell hjc;rcases hdr2 with ⟨rfl,he⟩ | ⟨rfl,hdd,dp,he⟩
   ·have HE:=Lib.hid (HSN.out L2 he);clear he;go_wp2;go_roundw
    case rel=>exact ⟨k+1,d2,o2,by omega,by go_num,by rw [<- HE.out];exact HM2.out⟩
    case measure=>simp [intOf];omega
   ·have HE:=Lib.hid (HERR.out L2 dp he);have HDD:=Lib.hid hdd;clear he hdd;go_wp2;go_ret;exact ⟨6,d2,o2,L2,rfl,HM2.out, .inr ⟨rfl,HDD.out,HE.out⟩⟩
  ·obtain rfl:k=N:=by omega
   have HM:=Lib.hid hm;clear hm;go_wp2;go_ret;refine ⟨0,d1,o1,_,rfl,HM.out, .inl ⟨rfl,?_⟩⟩;rw [List.take_of_length_le (by rw [HN.out];exact Nat.le_refl _)]
def edg0:Edg:=⟨0,0,0,0⟩
def OpenSrcPost (n pb db:Nat) (w:World) (o:Owner) (d:Dsk) (L:Logic) (name:Name) (N:Nat) (e:Ending) (w':World):Prop:=
 ∃ v c d' o',e=.returned (.tuple #[v, .int .i64 ((c:Nat):Int)])/\Moved (fun _=>False) n pb db w o d w' o' d' L/\(c=0\/Err d d' L c) /\
  (c=0->∃ cb sb,v=ptrTo cb/\SourceAt w' cb sb 0 N edg0/\StreamAt w' sb pb name 20/\o' cb=none/\o' sb=none/\w.heap.size<=cb/\w.heap.size<=sb)
set_option maxRecDepth 100000 in
set_option maxHeartbeats 4000000 in
theorem jobOpen_any (HW:WriteSaid) (h:PoolAt w pb db n o d L) (hj:JobAt w jb pb byb made by') {es:List Edg} {fl:Bool} (hL:mget L name=some (edgeFile es fl)) :
 Calls Tryz.prog 116 #[ptrTo jb, .string name] w (OpenSrcPost n pb db w o d L name es.length):=by
 have hs:=okName_1000 (h.ok hL);have hopen:=Lib.hid (streamOpen_any (sz:=20) h name hs (by decide) (by decide));have hlen:Hid (∀ W o' d' sb,PoolAt W pb db n o' d' L->StreamAt W sb pb name 20->o' sb=none->Calls Tryz.prog 59 #[ptrTo sb] W (Stays n pb db W o' d' L (numIs es.length))):=Lib.hid (fun W o' d' sb hW hst ho'=>by
  have:=streamLen_any HW hW hst ho' (by decide) (by decide) hL (sized_edges es);rw [List.length_map] at this;exact this)
 have hpf:=pfOpen_paged h hL;have H:=Lib.hid h;have hc0:=hj.cells.1;clear h hj hL;unfold ptrTo at *;generalize es.length=N at *;cases hd:d.dead with
 | true=>
   rw [hd,if_pos rfl] at hpf;rw [hpf] at hopen;have HD:=Lib.hid hd;clear hd hpf;go_enter Tryz.func116,Tryz.ntmps116
   go_wp2_with fail
   refine hopen.out.mono ?_;rintro e w1 ⟨v1,rfl,hb1,-,hbad⟩;obtain rfl:=hbad (by decide);have HB:=Lib.hid hb1;clear hb1 hbad;go_wp2;go_ret2
   exact ⟨_,6,d,o,rfl,Moved.ofBelow H.out HB.out, .inr (.inr ⟨rfl,HD.out⟩),fun h=>absurd h (by decide)⟩
 | false=>
   rw [hd,if_neg (by simp)] at hpf;rw [hpf] at hopen;clear hd hpf;go_enter Tryz.func116,Tryz.ntmps116
   go_wp2_with fail
   refine hopen.out.mono ?_;rintro e w1 ⟨v1,rfl,hb1,hok,-⟩;obtain ⟨sb,rfl,hst1,hsb⟩:=hok rfl;have HB:=Lib.hid hb1;have HST1:=Lib.hid hst1;have hfree:o sb=none:=H.out.fresh hsb;have HF:=Lib.hid hfree;have hcall:=Lib.hid (hlen.out w1 o d sb (H.out.below hb1) hst1 hfree);clear hb1 hst1 hok hfree;unfold ptrTo at *;go_wp2_with fail
   refine hcall.out.mono ?_;rintro e w2 ⟨c2,d2,o2,⟨x,rfl,hx⟩,hm2,he2⟩;have HX:=Lib.hid hx;have HM2:=Lib.hid ((Moved.ofBelow H.out HB.out).trans hm2 (fun _ _ h=>h));have HST2:=Lib.hid (HST1.out.moved hm2 HF.out (fun h=>h));have HE2:=Lib.hid he2;have hsb1:=HST1.out.lt;have hs2:w.heap.size<=w2.heap.size:=HM2.out.size;have HF2:Hid (o2 sb=none):=Lib.hid (hm2.free hsb1 HF.out);clear hx hm2 he2;go_wp2;go_ret2
   refine ⟨_,c2,d2,o2,rfl,HM2.out.alloc _,HE2.out,fun h0=>⟨w2.heap.size,sb,rfl,⟨265,?_⟩,HST2.out.below ((Below.refl _ _).alloc (Nat.le_refl _) _),HM2.out.pool.fresh (Nat.le_refl _),HF2.out,hs2,hsb⟩⟩;rw [heap_alloc_new,HX.out h0];rfl
def CreateSinkPost (n pb db:Nat) (w:World) (o:Owner) (d:Dsk) (L:Logic) (name:Name) (e:Ending) (w':World):Prop:=
 ∃ v c d' o',e=.returned (.tuple #[v, .int .i64 ((c:Nat):Int)])/\Moved (fun _=>False) n pb db w o d w' o' d' (if c=0 then mput L name (edgeFile [] false) else L)/\(c=0\/c=6/\d'.dead=true) /\
  (c=0->∃ kb sb,v=ptrTo kb/\SinkOf w' kb sb []/\StreamAt w' sb pb name 20/\o' kb=none/\o' sb=none/\kb≠sb/\w.heap.size<=kb/\w.heap.size<=sb)
set_option maxRecDepth 100000 in
set_option maxHeartbeats 4000000 in
theorem jobCreate_any (h:PoolAt w pb db n o d L) (hj:JobAt w jb pb byb made by') (hoj:o jb=none) (hok:okName name=true) (hno:mget L name=none) :
 Calls Tryz.prog 223 #[ptrTo jb, .string name] w (CreateSinkPost n pb db w o d L name):=by
 have hs:=okName_1000 hok;have hcr:=Lib.hid (create_pool h name hs);have hcode:createCode d L name=if d.tick.dead=true then 6 else 0:=by
  unfold createCode;rw [hok,hno];rfl
 have hopen:Hid (∀ W o' d' L',PoolAt W pb db n o' d' L'->Calls Tryz.prog 67 #[ptrTo pb, .string name, .int .i64 20] W (StreamOpenPost W pb name 20 (pfOpen d' name))):=Lib.hid (fun W o' d' L' hW=>streamOpen_any (sz:=20) hW name hs (by decide) (by decide));have hjl:=hj.lt.1;have HJ:=Lib.hid hj;have HOJ:=Lib.hid hoj;have hc0:=hj.cells.1;have HKEYS:=Lib.hid h.keys;clear h hj hoj hok hno;unfold ptrTo at *;cases hd:d.tick.dead with
 | true=>
   rw [hd,if_pos rfl] at hcode;unfold CreatePost at hcr;rw [hcode] at hcr;have HD:=Lib.hid hd;clear hd hcode;go_enter Tryz.func223,Tryz.ntmps223
   go_wp2_with fail
   refine hcr.out.mono ?_;rintro e w1 ⟨d1,o1,rfl,hm1,-,hdd⟩;rw [if_neg (by decide)] at hm1;have HM:=Lib.hid hm1;have HDD:=Lib.hid (hdd HD.out);clear hm1 hdd;go_wp2;go_ret2
   exact ⟨_,6,d1,o1,rfl,HM.out, .inr ⟨rfl,HDD.out⟩,fun h=>absurd h (by decide)⟩
 | false=>
   rw [hd,if_neg (by simp)] at hcode;unfold CreatePost at hcr;rw [hcode] at hcr;clear hd hcode;go_enter Tryz.func223,Tryz.ntmps223
   go_wp2_with fail
   refine hcr.out.mono ?_;rintro e w1 ⟨d1,o1,rfl,hm1,hdd,-⟩;simp only [if_true] at hm1;have hget:mget (mput L name (.inl (([]:List Pg),true))) name=some (.inl (([]:List Pg),true)):=by rw [mget_mput,if_pos rfl]
   have hpf:pfOpen d1 name=0:=by
    rw [pfOpen_paged hm1.pool hget,hdd trivial];rfl
   have hj1:w1.cell? ⟨jb,0,none⟩=some (.pointer (some ⟨pb,0,none⟩)):=hm1.cell hc0 HOJ.out (fun h=>h);have hcall:=Lib.hid (hopen.out w1 o1 d1 _ hm1.pool);rw [hpf] at hcall;have hm1':Moved (fun _=>False) n pb db w o d w1 o1 d1 (mput L name (edgeFile [] false)):=
    ⟨(hm1.pool.weaken hget).congr (mput_keys HKEYS.out) (fun x=>by
      rw [edgeFile_nil,mget_mput,mget_mput,mget_mput];by_cases e:x=name
      ·rw [if_pos e,if_pos e]
      ·rw [if_neg e,if_neg e,if_neg e]),hm1.turn,hm1.grow,hm1.on⟩
   have HM:=Lib.hid hm1';have HF:=Lib.hid (fun x (hx:w1.heap.size<=x)=>hm1.pool.fresh hx);have hs1:w.heap.size<=w1.heap.size:=hm1.size;clear hm1 hm1' hdd hpf hget;go_wp2_with fail
   refine hcall.out.mono ?_;rintro e w2 ⟨v2,rfl,hb2,hok2,-⟩;obtain ⟨sb,rfl,hst2,hsb⟩:=hok2 rfl;have HB2:=Lib.hid hb2;have HST2:=Lib.hid hst2;have hsb2:=hst2.lt;have hs2:w1.heap.size<=w2.heap.size:=hb2.size;clear hb2 hst2 hok2;unfold ptrTo;go_wp2;go_ret2
   refine ⟨_,0,d1,o1,rfl,by rw [if_pos rfl];exact (HM.out.below HB2.out).alloc _, .inl rfl,fun _=>⟨w2.heap.size,sb,rfl, .inl ⟨rfl,edg0,⟨341,?_⟩⟩,HST2.out.below ((Below.refl _ _).alloc (Nat.le_refl _) _),HF.out _ hs2,HF.out _ hsb,by omega,by omega,by omega⟩⟩;rw [heap_alloc_new];rfl
end
end
end Go.Proofs.YthkkgdpomhhjjaaGreatDoor
namespace Go.Proofs
open Go.Shelf
def Tryz.sortEdges_ren:Go.Shelf.Ren:=⟨fun | 6=>260 | 15=>87 | 14=>292 | 28=>135 | 29=>136 | 20=>305 | 21=>306 | 22=>307 | 23=>308 | 24=>309 | 25=>310 | 26=>311 | 27=>312 | 46=>315 | 47=>192 | 48=>193 | 49=>316 | 50=>317 | 57=>319 | n=>n,fun | 22=>22 | 24=>64 | 25=>305 | 3=>3 | 39=>159 | 0=>0 | 53=>26 | 55=>62 | 4=>4 | 46=>221 | 45=>220 | 50=>225 | 5=>5 | 9=>9 | 66=>280 | 70=>284 | 76=>313 | 77=>98 | n=>n,fun | n=>n⟩
theorem Tryz.sortEdges:Go.Proofs.SlLaysF0.n6 Tryz.prog Tryz.sortEdges_ren:={
 mixed:=by kernel_rfl
 f6:=⟨Tryz.f260.name,by decide,Tryz.func260.trans (congrArg some (by kernel_rfl))⟩
 f14:=⟨Tryz.f292.name,by decide,Tryz.func292.trans (congrArg some (by kernel_rfl))⟩
 f15:=Tryz.func87.trans (congrArg some (by kernel_rfl))
 f20:=⟨Tryz.f305.name,by decide,Tryz.func305.trans (congrArg some (by kernel_rfl))⟩
 f21:=⟨Tryz.f306.name,by decide,Tryz.func306.trans (congrArg some (by kernel_rfl))⟩
 f22:=⟨Tryz.f307.name,by decide,Tryz.func307.trans (congrArg some (by kernel_rfl))⟩
 f23:=⟨Tryz.f308.name,by decide,Tryz.func308.trans (congrArg some (by kernel_rfl))⟩
 f24:=⟨Tryz.f309.name,by decide,Tryz.func309.trans (congrArg some (by kernel_rfl))⟩
 f25:=⟨Tryz.f310.name,by decide,Tryz.func310.trans (congrArg some (by kernel_rfl))⟩
 f26:=⟨Tryz.f311.name,by decide,Tryz.func311.trans (congrArg some (by kernel_rfl))⟩
 f27:=⟨Tryz.f312.name,by decide,Tryz.func312.trans (congrArg some (by kernel_rfl))⟩
 f28:=Tryz.func135.trans (congrArg some (by kernel_rfl))
 f29:=Tryz.func136.trans (congrArg some (by kernel_rfl))
 f46:=⟨Tryz.f315.name,by decide,Tryz.func315.trans (congrArg some (by kernel_rfl))⟩
 f47:=Tryz.func192.trans (congrArg some (by kernel_rfl))
 f48:=Tryz.func193.trans (congrArg some (by kernel_rfl))
 f49:=⟨Tryz.f316.name,by decide,Tryz.func316.trans (congrArg some (by kernel_rfl))⟩
 f50:=⟨Tryz.f317.name,by decide,Tryz.func317.trans (congrArg some (by kernel_rfl))⟩
 f57:=⟨Tryz.f319.name,by decide,Tryz.func319.trans (congrArg some (by kernel_rfl))⟩
 t0:=Tryz.underlying0
 a0:=Tryz.isAgg0
 z0:=Tryz.sizeOf0
 v0:=Tryz.zeroValue0
 t3:=Tryz.underlying3
 a3:=Tryz.isAgg3
 z3:=Tryz.sizeOf3
 v3:=Tryz.zeroValue3
 t4:=Tryz.underlying4
 a4:=Tryz.isAgg4
 z4:=Tryz.sizeOf4
 v4:=Tryz.zeroValue4
 t5:=Tryz.underlying5
 a5:=Tryz.isAgg5
 z5:=Tryz.sizeOf5
 v5:=Tryz.zeroValue5
 t9:=Tryz.underlying9
 a9:=Tryz.isAgg9
 z9:=Tryz.sizeOf9
 v9:=Tryz.zeroValue9
 t22:=Tryz.underlying22
 a22:=Tryz.isAgg22
 z22:=Tryz.sizeOf22
 v22:=Tryz.zeroValue22
 t25:=Tryz.underlying305
 a25:=Tryz.isAgg305
 z25:=Tryz.sizeOf305
 v25:=Tryz.zeroValue305
 t39:=Tryz.underlying159
 a39:=Tryz.isAgg159
 z39:=Tryz.sizeOf159
 v39:=Tryz.zeroValue159
 t45:=Tryz.underlying220
 a45:=Tryz.isAgg220
 z45:=Tryz.sizeOf220
 v45:=Tryz.zeroValue220
 t46:=Tryz.underlying221
 a46:=Tryz.isAgg221
 z46:=Tryz.sizeOf221
 v46:=Tryz.zeroValue221
 t50:=Tryz.underlying225
 a50:=Tryz.isAgg225
 z50:=Tryz.sizeOf225
 v50:=Tryz.zeroValue225
 t53:=Tryz.underlying26
 a53:=Tryz.isAgg26
 z53:=Tryz.sizeOf26
 v53:=Tryz.zeroValue26
 t55:=Tryz.underlying62
 a55:=Tryz.isAgg62
 z55:=Tryz.sizeOf62
 v55:=Tryz.zeroValue62
 t66:=Tryz.underlying280
 a66:=Tryz.isAgg280
 z66:=Tryz.sizeOf280
 v66:=Tryz.zeroValue280
 t70:=Tryz.underlying284
 a70:=Tryz.isAgg284
 z70:=Tryz.sizeOf284
 v70:=Tryz.zeroValue284
 t76:=Tryz.underlying313
 a76:=Tryz.isAgg313
 z76:=Tryz.sizeOf313
 v76:=Tryz.zeroValue313
 t77:=Tryz.underlying98
 a77:=Tryz.isAgg98
 z77:=Tryz.sizeOf98
 v77:=Tryz.zeroValue98 }
end Go.Proofs
namespace Go.Proofs.YthkkgdpomhhjjaaGreatDoor
section
open Go.RowKit Go.Maps Go.MapKept
def edgRow:List Edg->List Value
 | []=>[]
 | e::l=>e.cells++edgRow l
theorem edgRow_length (l:List Edg):(edgRow l).length=l.length*4:=by
 induction l with
 | nil=>rfl
 | cons e l ih=>rw [edgRow,List.length_append,ih,List.length_cons];simp;omega
theorem edgRow_append (a b:List Edg):edgRow (a++b)=edgRow a++edgRow b:=by
 induction a with
 | nil=>rfl
 | cons e a ih=>rw [List.cons_append,edgRow,edgRow,ih,List.append_assoc]
theorem edgRow_get {l:List Edg} {i:Nat} {e:Edg} (h:l[i]? = some e) {j:Nat} (hj:j < 4):(edgRow l)[i*4+j]? = e.cells[j]? := by
 induction l generalizing i with
 | nil=>cases h
 | cons q l ih=>
   rw [edgRow];cases i with
   | zero=>
     cases h;rw [List.getElem?_append_left (by simp [Edg.cells];omega)];simp
   | succ i=>
     rw [List.getElem?_append_right (by simp [Edg.cells];omega),<- ih (i:=i) (by simpa using h)];congr 1;simp [Edg.cells];omega
abbrev ownsEdges (w:World) (base:Nat) (v:Value) (l:List Edg):Prop:=w.ownsRow base 64 4 v l.length (edgRow l)
theorem ownsEdges_cells {w:World} {base g cap:Nat} {l:List Edg} (h:ownsEdges w base (.slice (some ⟨g,0,none⟩) l.length cap) l) {i:Nat} {e:Edg} (hi:l[i]? = some e) :
 w.cell? ⟨g,i*4,none⟩=some (.int .u32 (e.t.toNat:Int))/\w.cell? ⟨g,i*4+1,none⟩=some (.int .u32 (e.h.toNat:Int))/\w.cell? ⟨g,i*4+2,none⟩=some (.int .u64 (e.x.toNat:Int))/\w.cell? ⟨g,i*4+3,none⟩=some (.int .u32 (e.m.toNat:Int)):=by
 have hc:∀ (j:Nat) (u:Value),(edgRow l)[j]? = some u->w.cell? ⟨g,j,none⟩=some u:=fun j u hj=>by
  have:=World.ownsRow.cells h (g:=g) rfl j u hj;rwa [Addr_add,Nat.zero_add] at this
 refine ⟨hc _ _ ?_,hc _ _ ?_,hc _ _ ?_,hc _ _ ?_⟩
 ·have:=edgRow_get hi (j:=0) (by decide);rw [Nat.add_zero] at this;rw [this];rfl
 ·rw [edgRow_get hi (by decide)];rfl
 ·rw [edgRow_get hi (by decide)];rfl
 ·rw [edgRow_get hi (by decide)];rfl
theorem ownsEdges_shape {w:World} {base:Nat} {v:Value} {l:List Edg} (h:ownsEdges w base v l):(l=[]/\v=.slice none 0 0)\/∃ g cap,v=.slice (some ⟨g,0,none⟩) l.length cap/\base<=g/\l.length<=cap/\cap<=maxLen:=by
 obtain ⟨_,⟨h1,h2⟩ | ⟨g,cap,cur,h1,h2,h3,h4,h5,_⟩⟩:=h
 ·exact .inl ⟨List.eq_nil_of_length_eq_zero h2,h1⟩
 ·exact .inr ⟨g,cap,h1,h2,h4,h5⟩
theorem info_edge:(Tryz.prog.info? 64).map (fun i=>(i.zero,i.size,i.bytes))=some (some (.agg #[.int .u32 0, .int .u32 0, .int .u64 0, .int .u32 0]),4,24):=by kernel_rfl
def cmpFn (jb:Nat):Value:=.func (.func 224) #[ptrTo jb] #[]
def SortedPost (b:Bool) (w:World) (base g cap:Nat) (es:List Edg) (e:Ending) (w':World):Prop:=
 ∃ ts,e=.returned (.tuple #[])/\ts.Perm es/\ts.Pairwise (Ahead b)/\ownsEdges w' base (.slice (some ⟨g,0,none⟩) es.length cap) ts/\Turn (·=g) w w'
def SortSaid (m:Nat):Prop:=∀ {w:World} {jb pb byb made:Nat} {b:Bool},JobAt w jb pb byb made b->∀ {base g cap:Nat} (es:List Edg),es.length<=m->ownsEdges w base (.slice (some ⟨g,0,none⟩) es.length cap) es->g≠jb->g≠byb ->
 Calls Tryz.prog 260 #[.slice (some ⟨g,0,none⟩) es.length cap,cmpFn jb] w (SortedPost b w base g cap es)
theorem sortNone_any (p:Option Addr) (cap:Nat) (fv:Value) (w:World):Calls Tryz.prog 260 #[.slice p 0 cap,fv] w fun e w'=>e=.returned (.tuple #[])/\w=w':=
 (AnyF.slices_SortFunc_none (P:=Tryz.prog) (ρ:=Tryz.sortEdges_ren) { Tryz.sortEdges with } p cap fv w).mono fun _ _ ⟨h1,h2⟩=>⟨h1,h2.symm⟩
end
section
open Go.RowKit Go.Maps Go.Sort
instance:Inhabited Edg:=⟨edg0⟩
structure Srt (bt:Bool) (w0:World) (jb pb byb made base g cap:Nat) (d:Array Edg) (W:World):Prop where
 row:ownsEdges W base (.slice (some ⟨g,0,none⟩) d.size cap) d.toList
 job:JobAt W jb pb byb made bt
 nj:g≠jb
 nb:g≠byb
 turn:Turn (·=g) w0 W
section
variable {bt:Bool} {w0 W W':World} {jb pb byb made base g cap:Nat} {d:Array Edg}
theorem Srt.below (h:Srt bt w0 jb pb byb made base g cap d W) (hb:Below W.heap.size W W'):Srt bt w0 jb pb byb made base g cap d W':=
 ⟨ownsRow_below h.row hb,h.job.below hb,h.nj,h.nb,h.turn.thenBelow hb⟩
theorem Srt.drew (h:Srt bt w0 jb pb byb made base g cap d W):Srt bt w0 jb pb byb made base g cap d W.drew:=h.below (Below.refl _ _).drew
theorem Srt.cells (h:Srt bt w0 jb pb byb made base g cap d W) {i:Nat} (hi:i < d.size) :
 W.cell? ⟨g,i*4,none⟩=some (.int .u32 (d[i]!.t.toNat:Int))/\W.cell? ⟨g,i*4+1,none⟩=some (.int .u32 (d[i]!.h.toNat:Int))/\W.cell? ⟨g,i*4+2,none⟩=some (.int .u64 (d[i]!.x.toNat:Int))/\W.cell? ⟨g,i*4+3,none⟩=some (.int .u32 (d[i]!.m.toNat:Int)):=by
 have hg:d.toList[i]? = some d[i]! := by rw [Array.getElem?_toList,Array.getElem?_eq_getElem hi,getElem!_pos d i hi]
 have:=ownsEdges_cells (l:=d.toList) (by have:=h.row;simpa using this) hg;exact this
theorem Srt.cmp (h:Srt bt w0 jb pb byb made base g cap d W) (x y:Edg) :
 Calls Tryz.prog 224 #[ptrTo jb, .agg #[.int .u32 (x.t.toNat:Int), .int .u32 (x.h.toNat:Int), .int .u64 (x.x.toNat:Int), .int .u32 (x.m.toNat:Int)], .agg #[.int .u32 (y.t.toNat:Int), .int .u32 (y.h.toNat:Int), .int .u64 (y.x.toNat:Int), .int .u32 (y.m.toNat:Int)]] W
  fun e w'=>e=.returned (.int .i64 (cmpE bt x y))/\Below W.heap.size W w':=
 (compare_any h.job x y).mono fun _ _ ⟨h1,h2⟩=>⟨h1,h2.below⟩
theorem edgRow_set (l:List Edg) (i:Nat) (x:Edg) (hi:i < l.length):((((edgRow l).set (i*4) (.int .u32 (x.t.toNat:Int))).set (i*4+1) (.int .u32 (x.h.toNat:Int))).set (i*4+2) (.int .u64 (x.x.toNat:Int))).set (i*4+3) (.int .u32 (x.m.toNat:Int))=edgRow (l.set i x):=by
 induction l generalizing i with
 | nil=>simp at hi
 | cons e l ih=>
   cases i with
   | zero=>simp [edgRow,Edg.cells]
   | succ i=>
     have:=ih i (by simpa using hi);have e0:(i+1)*4=i*4+4:=by omega
     simp only [List.set_cons_succ,edgRow];rw [<- this];simp only [Edg.cells,List.cons_append,List.nil_append,e0,List.set_cons_succ]
theorem ownsEdges_put {l:List Edg} (h:ownsEdges W base (.slice (some ⟨g,0,none⟩) l.length cap) l) (i:Nat) (x:Edg) (hi:i < l.length) :
 ownsEdges (W.setCells g (i*4) x.cells) base (.slice (some ⟨g,0,none⟩) l.length cap) (l.set i x):=by
 have h1:=World.ownsRow.stored h (i*4) (.int .u32 (x.t.toNat:Int));have h2:=World.ownsRow.stored h1.1 (i*4+1) (.int .u32 (x.h.toNat:Int));have h3:=World.ownsRow.stored h2.1 (i*4+2) (.int .u64 (x.x.toNat:Int));have h4:=World.ownsRow.stored h3.1 (i*4+3) (.int .u32 (x.m.toNat:Int));unfold ownsEdges;rw [List.length_set,<- edgRow_set l i x hi];exact h4.1
theorem Srt.put (h:Srt bt w0 jb pb byb made base g cap d W) {i:Nat} (hi:i < d.size) (x:Edg):Srt bt w0 jb pb byb made base g cap (d.setIfInBounds i x) (W.setCells g (i*4) x.cells):=by
 refine ⟨?_,?_,h.nj,h.nb,h.turn.setCells g (i*4) x.cells (.inl rfl)⟩
 ·have:=ownsEdges_put (l:=d.toList) (by have:=h.row;simpa using this) i x (by simpa using hi);simpa using this
 ·have ht:Turn (·=g) W (W.setCells g (i*4) x.cells):=(Turn.refl _ _).setCells g (i*4) x.cells (.inl rfl);exact h.job.kept (ht.block _ h.job.lt.1 (fun e=>h.nj e.symm)) (ht.block _ h.job.lt.2 (fun e=>h.nb e.symm))
theorem Srt.swapped (h:Srt bt w0 jb pb byb made base g cap d W) {i j:Nat} (hi:i < d.size) (hj:j < d.size):Srt bt w0 jb pb byb made base g cap (swp d i j) ((W.setCells g (i*4) d[j]!.cells).setCells g (j*4) d[i]!.cells):=
 (h.put hi d[j]!).put (by simpa using hj) d[i]!
structure Exch (bt:Bool) (w0:World) (jb pb byb made base g cap:Nat) (d:Array Edg) (W:World) (i j p q:Nat) (x y:Edg):Prop where
 hp:i*4=p
 hq:j*4=q
 p0:W.cell? ⟨g,p,none⟩=some (.int .u32 (x.t.toNat:Int))
 p1:W.cell? ⟨g,p+1,none⟩=some (.int .u32 (x.h.toNat:Int))
 p2:W.cell? ⟨g,p+2,none⟩=some (.int .u64 (x.x.toNat:Int))
 p3:W.cell? ⟨g,p+3,none⟩=some (.int .u32 (x.m.toNat:Int))
 q0:W.cell? ⟨g,q,none⟩=some (.int .u32 (y.t.toNat:Int))
 q1:W.cell? ⟨g,q+1,none⟩=some (.int .u32 (y.h.toNat:Int))
 q2:W.cell? ⟨g,q+2,none⟩=some (.int .u64 (y.x.toNat:Int))
 q3:W.cell? ⟨g,q+3,none⟩=some (.int .u32 (y.m.toNat:Int))
 fr:∀ k,W.frozen? ⟨g,k,none⟩=false
 apart:i≠j->p≠q/\p≠q+1/\p≠q+2/\p≠q+3/\p+1≠q/\p+2≠q/\p+3≠q
 done:Srt bt w0 jb pb byb made base g cap (swp d i j) (((((((((W.setCell ⟨g,p,none⟩ (.int .u32 (y.t.toNat:Int))).setCell ⟨g,p+1,none⟩ (.int .u32 (y.h.toNat:Int))).setCell ⟨g,p+2,none⟩ (.int .u64 (y.x.toNat:Int))).setCell ⟨g,p+3,none⟩ (.int .u32 (y.m.toNat:Int))).setCell ⟨g,q,none⟩ (.int .u32 (x.t.toNat:Int))).setCell ⟨g,q+1,none⟩ (.int .u32 (x.h.toNat:Int))).setCell ⟨g,q+2,none⟩ (.int .u64 (x.x.toNat:Int))).setCell ⟨g,q+3,none⟩ (.int .u32 (x.m.toNat:Int)))).drew
theorem Srt.exch (h:Srt bt w0 jb pb byb made base g cap d W) {i j:Nat} (hi:i < d.size) (hj:j < d.size) {x y:Edg} (hx:d[i]! = x) (hy:d[j]! = y):∃ p q,Exch bt w0 jb pb byb made base g cap d W i j p q x y:=by
 obtain ⟨a0,a1,a2,a3⟩:=h.cells hi;obtain ⟨b0,b1,b2,b3⟩:=h.cells hj;have hs:=(h.swapped hi hj).drew;rw [hx] at a0 a1 a2 a3 hs;rw [hy] at b0 b1 b2 b3 hs;exact ⟨i*4,j*4,rfl,rfl,a0,a1,a2,a3,b0,b1,b2,b3,fun k=>World.ownsRow.frozenAt h.row k,fun hne=>by omega,hs⟩
end
end
section
open Go.RowKit Go.Maps Go.Sort
section
variable {bt:Bool} {w0 W W':World} {jb pb byb made base g cap:Nat} {d:Array Edg}
def SrtPost (bt:Bool) (w0:World) (jb pb byb made base g cap:Nat) (d:Array Edg) (e:Ending) (w':World):Prop:=e=.returned (.tuple #[])/\Srt bt w0 jb pb byb made base g cap d w'
set_option maxRecDepth 100000 in
set_option maxHeartbeats 8000000 in
theorem insertionSort_any (h:Srt bt w0 jb pb byb made base g cap d W) (a b:Nat) (hab:a<=b) (hb:b<=d.size) (hsz:d.size<=1000000) :
 Calls Tryz.prog 305 #[.slice (some ⟨g,0,none⟩) d.size cap, .int .i64 (a:Int), .int .i64 (b:Int),cmpFn jb] W (SrtPost bt w0 jb pb byb made base g cap (insertionSort (ltOf (cmpE bt)) d a b)):=by
 have H:=Lib.hid h;clear h;obtain ⟨N,hN⟩:∃ N,N=d.size:=⟨_,rfl⟩;rw [<- hN] at hb hsz ⊢;have HN:=Lib.hid hN;clear hN;unfold cmpFn ptrTo;go_enter Tryz.func305,Tryz.ntmps305
 go_wp2;go_loopw [8] (fun vi wr=>∃ (i:Nat) (dk:Array Edg),vi=.int .i64 (i:Int)/\a < i/\i<=b+1/\dk.size=N/\Srt bt w0 jb pb byb made base g cap dk wr/\Hid (insOuter (ltOf (cmpE bt)) a b i dk=insOuter (ltOf (cmpE bt)) a b (a+1) d)) (fun vi _=>b+1 - (intOf vi).toNat)
 case atStart=>exact ⟨a+1,d,by go_num,by omega,by omega,HN.out.symm,H.out,rfl⟩
 case round=>
  obtain ⟨i,dk,rfl,hai,hib,hsk,hs,HO⟩:=hrel;have HS:=Lib.hid hs;have HSK:=Lib.hid hsk;clear hs hsk;by_cases hlt:i < b
  ·have hltz:(i:Int) < (b:Int):=by omega
   go_wp2;go_loopw [9] (fun vj wr2=>∃ (j:Nat) (dj:Array Edg),vj=.int .i64 (j:Int)/\a<=j/\j<=i/\dj.size=N/\Srt bt w0 jb pb byb made base g cap dj wr2/\Hid (insInner (ltOf (cmpE bt)) a j dj=insInner (ltOf (cmpE bt)) a i dk)) (fun vj _=>(intOf vj).toNat)
   case atStart=>exact ⟨i,dk,rfl,by omega,Nat.le_refl _,HSK.out,HS.out,rfl⟩
   case round=>
    obtain ⟨j,dj,rfl,haj,hji,hsj,hs2,HI⟩:=hrel;have HS2:=Lib.hid hs2;have HSJ:=Lib.hid hsj;clear hs2 hsj;have OUT:Hid ((j<=a\/ltOf (cmpE bt) dj[j]! dj[j - 1]! = false)->insOuter (ltOf (cmpE bt)) a b (i+1) dj=insOuter (ltOf (cmpE bt)) a b (a+1) d):=Lib.hid (fun hq=>by
     rw [<- HO.out,insOuter_go _ _ _ _ _ hlt,<- HI.out,insInner_stop _ _ _ _ hq])
    generalize wr=Wr at *;by_cases hja:a < j
    ·obtain ⟨jp,rfl⟩:∃ jp,j=jp+1:=⟨j - 1,by omega⟩;have hjaz:(a:Int) < (jp:Int)+1:=by omega
     have hwp:IntKind.i64.wrap (jp:Int)=(jp:Int):=wrap_in (by omega) (by omega);have jz:(jp:Int)+1 < (N:Int):=by omega
     have jz1:(jp:Int) < (N:Int):=by omega
     have p0:(0:Int)<=(jp:Int)+1:=by omega
     have e0:((jp:Int)+1).toNat=jp+1:=by omega
     have HJ:Hid (jp+1 < dj.size/\jp < dj.size):=Lib.hid ⟨by rw [HSJ.out];omega,by rw [HSJ.out];omega⟩;obtain ⟨xj,hxj⟩:∃ x,dj[jp+1]! = x:=⟨_,rfl⟩;obtain ⟨xp,hxp⟩:∃ x,dj[jp]! = x:=⟨_,rfl⟩;have F1:Hid (∀ w',Below Wr.heap.size Wr w'->w'.cell? ⟨g,(jp+1)*4,none⟩=some (.int .u32 (xj.t.toNat:Int))/\w'.cell? ⟨g,(jp+1)*4+1,none⟩=some (.int .u32 (xj.h.toNat:Int))/\w'.cell? ⟨g,(jp+1)*4+2,none⟩=some (.int .u64 (xj.x.toNat:Int))/\w'.cell? ⟨g,(jp+1)*4+3,none⟩=some (.int .u32 (xj.m.toNat:Int))):=Lib.hid (fun w' hw'=>by rw [<- hxj];exact (HS2.out.below hw').cells HJ.out.1);have F2:Hid (∀ w',Below Wr.heap.size Wr w'->w'.cell? ⟨g,jp*4,none⟩=some (.int .u32 (xp.t.toNat:Int))/\w'.cell? ⟨g,jp*4+1,none⟩=some (.int .u32 (xp.h.toNat:Int))/\w'.cell? ⟨g,jp*4+2,none⟩=some (.int .u64 (xp.x.toNat:Int))/\w'.cell? ⟨g,jp*4+3,none⟩=some (.int .u32 (xp.m.toNat:Int))):=Lib.hid (fun w' hw'=>by rw [<- hxp];exact (HS2.out.below hw').cells HJ.out.2);have FC:Hid (∀ w',Below Wr.heap.size Wr w'->Calls Tryz.prog 224 #[.pointer (some ⟨jb,0,none⟩), .agg #[.int .u32 (xj.t.toNat:Int), .int .u32 (xj.h.toNat:Int), .int .u64 (xj.x.toNat:Int), .int .u32 (xj.m.toNat:Int)], .agg #[.int .u32 (xp.t.toNat:Int), .int .u32 (xp.h.toNat:Int), .int .u64 (xp.x.toNat:Int), .int .u32 (xp.m.toNat:Int)]] w' fun e w''=>e=.returned (.int .i64 (cmpE bt xj xp))/\Below Wr.heap.size Wr w''):=Lib.hid (fun w' hw'=>((HS2.out.below hw').cmp xj xp).mono fun _ _ ⟨h1,h2⟩=>⟨h1,hw'.trans (h2.mono hw'.size)⟩);by_cases hlv:cmpE bt xj xp < 0
     ·go_wp2_with fail
      refine wq Wr ?_;iterate 4 (refine qo (fun K hK=>?_);go_simp;refine hK _ ?_;clear hK K)
      iterate 4 (refine qo (fun K hK=>?_);go_simp;refine hK _ ?_;clear hK K)
      refine qo (fun K hK=>?_) (fun w' hw'=>by obtain ⟨c0,c1,c2,c3⟩:=F1.out w' hw';go_simp<;>rfl);go_simp;refine hK _ ?_;clear hK K;iterate 4 (refine qo (fun K hK=>?_);go_simp;refine hK _ ?_;clear hK K)
      refine qo (fun K hK=>?_) (fun w' hw'=>by obtain ⟨c0,c1,c2,c3⟩:=F2.out w' hw';go_simp<;>rfl);go_simp;refine hK _ ?_;clear hK K;refine qc (fun w' hw'=>FC.out w' hw') (fun K hK=>?_);go_simp;refine hK _ ?_;clear hK K;iterate 2 (refine qo (fun K hK=>?_);go_simp;refine hK _ ?_;clear hK K)
      refine wpQuiet_nil ?_;intro w3 hw3;have HS3:=Lib.hid (HS2.out.below hw3);clear hw3;go_wp2_with fail
      obtain ⟨pp,qq,hex⟩:=HS3.out.exch HJ.out.1 HJ.out.2 hxj hxp;have HEX:=Lib.hid hex;obtain ⟨hpp,hqq,x0,x1,x2,x3,y0,y1,y2,y3,hfr,hap,-⟩:=hex;obtain ⟨n0,n1,n2,n3,n4,n5,n6⟩:=hap (by omega);clear F1 F2 FC hap;go_big_region
      all_goals
       clear x0 x1 x2 x3 y0 y1 y2 y3 n0 n1 n2 n3 n4 n5 n6 hfr;have hdone:=Lib.hid HEX.out.done;go_wp2;have hst:insInner (ltOf (cmpE bt)) a jp (swp dj (jp+1) jp)=insInner (ltOf (cmpE bt)) a i dk:=by
        have:=insInner_go (lt:=ltOf (cmpE bt)) a (jp+1) dj hja (by rw [Nat.add_sub_cancel,hxj,hxp];exact decide_eq_true hlv);rw [Nat.add_sub_cancel] at this;rw [<- HI.out,this]
       exact ⟨⟨jp,swp dj (jp+1) jp,rfl,by omega,by omega,by rw [size_swp];exact HSJ.out,hdone.out,hst⟩,by simp [intOf]⟩
     ·go_wp2_with fail
      refine wq Wr ?_;iterate 4 (refine qo (fun K hK=>?_);go_simp;refine hK _ ?_;clear hK K)
      iterate 4 (refine qo (fun K hK=>?_);go_simp;refine hK _ ?_;clear hK K)
      refine qo (fun K hK=>?_) (fun w' hw'=>by obtain ⟨c0,c1,c2,c3⟩:=F1.out w' hw';go_simp<;>rfl);go_simp;refine hK _ ?_;clear hK K;iterate 4 (refine qo (fun K hK=>?_);go_simp;refine hK _ ?_;clear hK K)
      refine qo (fun K hK=>?_) (fun w' hw'=>by obtain ⟨c0,c1,c2,c3⟩:=F2.out w' hw';go_simp<;>rfl);go_simp;refine hK _ ?_;clear hK K;refine qc (fun w' hw'=>FC.out w' hw') (fun K hK=>?_);go_simp;refine hK _ ?_;clear hK K;iterate 2 (refine qo (fun K hK=>?_);go_simp;refine hK _ ?_;clear hK K)
      refine wpQuiet_nil ?_;intro w3 hw3;have HS3:=Lib.hid (HS2.out.below hw3);clear hw3;go_wp2;have HO3:=Lib.hid (OUT.out (.inr (by rw [Nat.add_sub_cancel,hxj,hxp];exact decide_eq_false (by omega))));exact ⟨⟨i+1,dj,by go_num,by omega,by omega,HSJ.out,HS3.out,HO3⟩,by simp [intOf];omega⟩
    ·have hjaz:¬ (a:Int) < (j:Int):=by omega
     go_wp2_with fail
     go_quiet (fail)
     go_wp2;have HBd:RowKit.Below Wr.heap.size Wr (Wr.drewN nq):=⟨rfl,rfl,rfl,Nat.le_refl _,fun _ _=>rfl⟩;exact ⟨⟨i+1,dj,by go_num,by omega,by omega,HSJ.out,HS2.out.below HBd,Lib.hid (OUT.out (.inl (by omega)))⟩,by simp [intOf];omega⟩
  ·have hltz:¬ (i:Int) < (b:Int):=by omega
   go_wp2;go_end0
   exact ⟨rfl,by unfold insertionSort;rw [<- HO.out,insOuter_stop _ _ _ _ _ hlt];exact HS.out⟩
end
end
section
open Go.RowKit Go.Maps Go.Sort
section
variable {bt:Bool} {w0 W W':World} {jb pb byb made base g cap:Nat} {d:Array Edg}
def Reads (bt:Bool) (W:World) (jb g p q:Nat) (x y:Edg):Prop:=∀ w',RowKit.Below W.heap.size W w' ->
 (w'.cell? ⟨g,p,none⟩=some (.int .u32 (x.t.toNat:Int))/\w'.cell? ⟨g,p+1,none⟩=some (.int .u32 (x.h.toNat:Int))/\w'.cell? ⟨g,p+2,none⟩=some (.int .u64 (x.x.toNat:Int))/\w'.cell? ⟨g,p+3,none⟩=some (.int .u32 (x.m.toNat:Int))) /\
 (w'.cell? ⟨g,q,none⟩=some (.int .u32 (y.t.toNat:Int))/\w'.cell? ⟨g,q+1,none⟩=some (.int .u32 (y.h.toNat:Int))/\w'.cell? ⟨g,q+2,none⟩=some (.int .u64 (y.x.toNat:Int))/\w'.cell? ⟨g,q+3,none⟩=some (.int .u32 (y.m.toNat:Int))) /\
 Calls Tryz.prog 224 #[.pointer (some ⟨jb,0,none⟩), .agg #[.int .u32 (x.t.toNat:Int), .int .u32 (x.h.toNat:Int), .int .u64 (x.x.toNat:Int), .int .u32 (x.m.toNat:Int)], .agg #[.int .u32 (y.t.toNat:Int), .int .u32 (y.h.toNat:Int), .int .u64 (y.x.toNat:Int), .int .u32 (y.m.toNat:Int)]] w'
  fun e w''=>e=.returned (.int .i64 (cmpE bt x y))/\RowKit.Below W.heap.size W w''
theorem Srt.reads (h:Srt bt w0 jb pb byb made base g cap d W) {i j:Nat} (hi:i < d.size) (hj:j < d.size) {x y:Edg} (hx:d[i]! = x) (hy:d[j]! = y):Reads bt W jb g (i*4) (j*4) x y:=fun _ hw'=>
 ⟨hx ▸ (h.below hw').cells hi,hy ▸ (h.below hw').cells hj,((h.below hw').cmp x y).mono fun _ _ ⟨h1,h2⟩=>⟨h1,hw'.trans (h2.mono hw'.size)⟩⟩
end
end
section
open Go.RowKit Go.Maps Go.Sort
section
variable {bt:Bool} {w0 W W':World} {jb pb byb made base g cap:Nat} {d:Array Edg}
theorem siftDown_end {lt:Edg->Edg->Bool} {hi first root:Nat} {d:Array Edg} (h:hi<=2*root+1):siftDown lt hi first root d=d:=by
 unfold siftDown;rw [dif_pos h]
theorem siftDown_right {lt:Edg->Edg->Bool} {hi first root:Nat} {d:Array Edg} (h:2*root+2 < hi) (h1:lt d[first+(2*root+1)]! d[first+(2*root+1)+1]! = true) :
 siftDown lt hi first root d=if lt d[first+root]! d[first+(2*root+2)]! = true then siftDown lt hi first (2*root+2) (swp d (first+root) (first+(2*root+2))) else d:=by
 conv=>lhs;unfold siftDown
 rw [dif_neg (by omega),if_pos (by rw [h1];simp;omega)];cases lt d[first+root]! d[first+(2*root+2)]! <;> simp [h]
theorem siftDown_left {lt:Edg->Edg->Bool} {hi first root:Nat} {d:Array Edg} (h:2*root+1 < hi) (h1:¬ 2*root+2 < hi\/lt d[first+(2*root+1)]! d[first+(2*root+1)+1]! = false) :
 siftDown lt hi first root d=if lt d[first+root]! d[first+(2*root+1)]! = true then siftDown lt hi first (2*root+1) (swp d (first+root) (first+(2*root+1))) else d:=by
 conv=>lhs;unfold siftDown
 rw [dif_neg (by omega),if_neg (by
  intro e;simp only [Bool.and_eq_true,decide_eq_true_eq] at e;rcases h1 with h1 | h1
  ·omega
  ·rw [h1] at e;simp at e)]
 cases lt d[first+root]! d[first+(2*root+1)]! <;> simp
theorem siftDown_rightN {lt:Edg->Edg->Bool} {hi first r C1 P Q Q1:Nat} {d:Array Edg} (e2:C1=2*r+2) (e3:P=first+r) (e4:Q=first+(2*r+1)) (e5:Q1=first+(2*r+2)) (h:C1 < hi) (h1:lt d[Q]! d[Q1]! = true) :
 siftDown lt hi first r d=if lt d[P]! d[Q1]! = true then siftDown lt hi first C1 (swp d P Q1) else d:=by
 subst e2 e3 e4 e5;exact siftDown_right h h1
theorem siftDown_leftN {lt:Edg->Edg->Bool} {hi first r C P Q Q1:Nat} {d:Array Edg} (e1:C=2*r+1) (e3:P=first+r) (e4:Q=first+(2*r+1)) (e5:Q1=first+(2*r+2)) (h:C < hi) (h1:¬ 2*r+2 < hi\/lt d[Q]! d[Q1]! = false) :
 siftDown lt hi first r d=if lt d[P]! d[Q]! = true then siftDown lt hi first C (swp d P Q) else d:=by
 subst e1 e3 e4 e5;exact siftDown_left h h1
set_option maxRecDepth 100000 in
set_option maxHeartbeats 16000000 in
theorem siftDown_any (h:Srt bt w0 jb pb byb made base g cap d W) (lo hi first:Nat) (hlo:lo<=hi) (hb:first+hi<=d.size) (hsz:d.size<=1000000) :
 Calls Tryz.prog 315 #[.slice (some ⟨g,0,none⟩) d.size cap, .int .i64 (lo:Int), .int .i64 (hi:Int), .int .i64 (first:Int),cmpFn jb] W (SrtPost bt w0 jb pb byb made base g cap (siftDown (ltOf (cmpE bt)) hi first lo d)):=by
 have H:=Lib.hid h;clear h;obtain ⟨N,hN⟩:∃ N,N=d.size:=⟨_,rfl⟩;rw [<- hN] at hb hsz ⊢;have HN:=Lib.hid hN;clear hN;unfold cmpFn ptrTo;go_enter Tryz.func315,Tryz.ntmps315
 go_wp2;go_loopw [10] (fun vi wr=>∃ (r:Nat) (dk:Array Edg),vi=.int .i64 (r:Int)/\r<=hi/\dk.size=N/\Srt bt w0 jb pb byb made base g cap dk wr/\Hid (siftDown (ltOf (cmpE bt)) hi first r dk=siftDown (ltOf (cmpE bt)) hi first lo d)) (fun vi _=>hi - (intOf vi).toNat)
 case atStart=>exact ⟨lo,d,rfl,hlo,HN.out.symm,H.out,rfl⟩
 case round=>
  obtain ⟨r,dk,rfl,hr,hsk,hs,HO⟩:=hrel;generalize wr=Wr at *;have HS:=Lib.hid hs;have HSK:=Lib.hid hsk;clear hs;obtain ⟨R2,hR2⟩:∃ x,x=2*r:=⟨_,rfl⟩;obtain ⟨C,hC⟩:∃ x,x=R2+1:=⟨_,rfl⟩;obtain ⟨C1,hC1⟩:∃ x,x=C+1:=⟨_,rfl⟩;obtain ⟨P,hP⟩:∃ x,x=first+r:=⟨_,rfl⟩;obtain ⟨Q,hQ⟩:∃ x,x=first+C:=⟨_,rfl⟩;obtain ⟨Q1,hQ1⟩:∃ x,x=Q+1:=⟨_,rfl⟩;have wR2:IntKind.i64.wrap (2*(r:Int))=(R2:Int):=by rw [wrap_in]<;>omega
  have wC:IntKind.i64.wrap ((R2:Int)+1)=(C:Int):=by rw [wrap_in]<;>omega
  have wC1:IntKind.i64.wrap ((C:Int)+1)=(C1:Int):=by rw [wrap_in]<;>omega
  have wP:IntKind.i64.wrap ((first:Int)+(r:Int))=(P:Int):=by rw [wrap_in]<;>omega
  have wQ:IntKind.i64.wrap ((first:Int)+(C:Int))=(Q:Int):=by rw [wrap_in]<;>omega
  have wQ1:IntKind.i64.wrap ((Q:Int)+1)=(Q1:Int):=by rw [wrap_in]<;>omega
  have wQ1':IntKind.i64.wrap ((first:Int)+(C1:Int))=(Q1:Int):=by rw [wrap_in]<;>omega
  have HE:Hid (C=2*r+1/\C1=2*r+2/\P=first+r/\Q=first+(2*r+1)/\Q1=first+(2*r+2)):=Lib.hid (by omega);by_cases hch:C < hi
  ·have hchz:¬ (C:Int) >= (hi:Int):=by omega
   have bP:(P:Int) < (N:Int):=by omega
   have bQ:(Q:Int) < (N:Int):=by omega
   by_cases hc1:C1 < hi
   ·have hc1z:(C1:Int) < (hi:Int):=by omega
    have bQ1:(Q1:Int) < (N:Int):=by omega
    have HB:Hid (P < dk.size/\Q < dk.size/\Q1 < dk.size/\P≠Q/\P≠Q1/\C < hi/\C1 < hi/\r < C/\r < C1):=Lib.hid (by omega);clear hR2 hC hC1 hP hQ hQ1 hsk;obtain ⟨xq,hxq⟩:∃ x,dk[Q]! = x:=⟨_,rfl⟩;obtain ⟨xq1,hxq1⟩:∃ x,dk[Q1]! = x:=⟨_,rfl⟩;have F1:=Lib.hid (HS.out.reads (i:=Q) (j:=Q1) (by have:=HB.out;omega) (by have:=HB.out;omega) hxq hxq1);by_cases hl1:cmpE bt xq xq1 < 0
    ·go_wp2_with fail
     refine wq Wr ?_;iterate 11 (refine qo (fun K hK=>?_);go_simp;refine hK _ ?_;clear hK K)
     refine qo (fun K hK=>?_) (fun w' hw'=>by obtain ⟨⟨c0,c1,c2,c3⟩,-,-⟩:=F1.out w' hw';go_simp<;>rfl);go_simp;refine hK _ ?_;clear hK K;iterate 6 (refine qo (fun K hK=>?_);go_simp;refine hK _ ?_;clear hK K)
     refine qo (fun K hK=>?_) (fun w' hw'=>by obtain ⟨-,⟨c0,c1,c2,c3⟩,-⟩:=F1.out w' hw';go_simp<;>rfl);go_simp;refine hK _ ?_;clear hK K;refine qc (fun w' hw'=>(F1.out w' hw').2.2) (fun K hK=>?_);go_simp;refine hK _ ?_;clear hK K;iterate 2 (refine qo (fun K hK=>?_);go_simp;refine hK _ ?_;clear hK K)
     refine wpQuiet_nil ?_;intro w4 hw4;have HS4:=Lib.hid (HS.out.below hw4);clear hw4;go_wp2_with fail
     obtain ⟨xr,hxr⟩:∃ x,dk[P]! = x:=⟨_,rfl⟩;obtain ⟨xc,hxc⟩:∃ x,dk[Q1]! = x:=⟨_,rfl⟩;have F2:=Lib.hid (HS4.out.reads (i:=P) (j:=Q1) (by have:=HB.out;omega) (by have:=HB.out;omega) hxr hxc);by_cases hl2:cmpE bt xr xc < 0
     ·go_wp2_with fail
      refine wq w4 ?_;iterate 6 (refine qo (fun K hK=>?_);go_simp;refine hK _ ?_;clear hK K)
      refine qo (fun K hK=>?_) (fun w' hw'=>by obtain ⟨⟨c0,c1,c2,c3⟩,-,-⟩:=F2.out w' hw';go_simp<;>rfl);go_simp;refine hK _ ?_;clear hK K;iterate 5 (refine qo (fun K hK=>?_);go_simp;refine hK _ ?_;clear hK K)
      refine qo (fun K hK=>?_) (fun w' hw'=>by obtain ⟨-,⟨c0,c1,c2,c3⟩,-⟩:=F2.out w' hw';go_simp<;>rfl);go_simp;refine hK _ ?_;clear hK K;refine qc (fun w' hw'=>(F2.out w' hw').2.2) (fun K hK=>?_);go_simp;refine hK _ ?_;clear hK K;iterate 2 (refine qo (fun K hK=>?_);go_simp;refine hK _ ?_;clear hK K)
      refine wpQuiet_nil ?_;intro w5 hw5;have HS5:=Lib.hid (HS4.out.below hw5);clear hw5;go_wp2_with fail
      obtain ⟨pp,qq,hex⟩:=HS5.out.exch (i:=P) (j:=Q1) (by have:=HB.out;omega) (by have:=HB.out;omega) hxr hxc;have HEX:=Lib.hid hex;obtain ⟨hpp,hqq,x0,x1,x2,x3,y0,y1,y2,y3,hfr,hap,-⟩:=hex;obtain ⟨n0,n1,n2,n3,n4,n5,n6⟩:=hap (by have:=HB.out;omega);clear F2 hap F1;go_big_region
      all_goals
       clear x0 x1 x2 x3 y0 y1 y2 y3 n0 n1 n2 n3 n4 n5 n6 hfr;have hdone:=Lib.hid HEX.out.done;go_wp2;refine ⟨⟨C1,swp dk P Q1,rfl,?_,by rw [size_swp];exact HSK.out,hdone.out,?_⟩,?_⟩
       ·have:=HB.out;omega
       ·exact (by
         obtain ⟨e1,e2,e3,e4,e5⟩:=HE.out;show siftDown _ _ _ _ _=_;rw [<- HO.out,siftDown_rightN e2 e3 e4 e5 hc1 (by rw [hxq,hxq1];exact decide_eq_true hl1),hxr,hxc,if_pos (by exact decide_eq_true hl2)])
       ·have:=HB.out;simp [intOf];omega
     ·have hl2b:decide (cmpE bt xr xc < 0)=false:=decide_eq_false hl2;go_wp2_with fail
      refine wq w4 ?_;iterate 6 (refine qo (fun K hK=>?_);go_simp;refine hK _ ?_;clear hK K)
      refine qo (fun K hK=>?_) (fun w' hw'=>by obtain ⟨⟨c0,c1,c2,c3⟩,-,-⟩:=F2.out w' hw';go_simp<;>rfl);go_simp;refine hK _ ?_;clear hK K;iterate 5 (refine qo (fun K hK=>?_);go_simp;refine hK _ ?_;clear hK K)
      refine qo (fun K hK=>?_) (fun w' hw'=>by obtain ⟨-,⟨c0,c1,c2,c3⟩,-⟩:=F2.out w' hw';go_simp<;>rfl);go_simp;refine hK _ ?_;clear hK K;refine qc (fun w' hw'=>(F2.out w' hw').2.2) (fun K hK=>?_);go_simp;refine hK _ ?_;clear hK K;iterate 2 (refine qo (fun K hK=>?_);go_simp;refine hK _ ?_;clear hK K)
      refine wpQuiet_nil ?_;intro w5 hw5;have HS5:=Lib.hid (HS4.out.below hw5);clear hw5;go_wp2;go_returns
      refine ⟨rfl,?_⟩;rw [show siftDown (ltOf (cmpE bt)) hi first lo d=dk from by
       obtain ⟨e1,e2,e3,e4,e5⟩:=HE.out;rw [<- HO.out,siftDown_rightN e2 e3 e4 e5 hc1 (by rw [hxq,hxq1];exact decide_eq_true hl1),hxr,hxc,if_neg (by intro e;have:=of_decide_eq_true e;omega)]]
      exact HS5.out
    ·have hl1b:decide (cmpE bt xq xq1 < 0)=false:=decide_eq_false hl1;go_wp2_with fail
     refine wq Wr ?_;iterate 11 (refine qo (fun K hK=>?_);go_simp;refine hK _ ?_;clear hK K)
     refine qo (fun K hK=>?_) (fun w' hw'=>by obtain ⟨⟨c0,c1,c2,c3⟩,-,-⟩:=F1.out w' hw';go_simp<;>rfl);go_simp;refine hK _ ?_;clear hK K;iterate 6 (refine qo (fun K hK=>?_);go_simp;refine hK _ ?_;clear hK K)
     refine qo (fun K hK=>?_) (fun w' hw'=>by obtain ⟨-,⟨c0,c1,c2,c3⟩,-⟩:=F1.out w' hw';go_simp<;>rfl);go_simp;refine hK _ ?_;clear hK K;refine qc (fun w' hw'=>(F1.out w' hw').2.2) (fun K hK=>?_);go_simp;refine hK _ ?_;clear hK K;iterate 2 (refine qo (fun K hK=>?_);go_simp;refine hK _ ?_;clear hK K)
     refine wpQuiet_nil ?_;intro w4 hw4;have HS4:=Lib.hid (HS.out.below hw4);clear hw4;go_wp2_with fail
     obtain ⟨xr,hxr⟩:∃ x,dk[P]! = x:=⟨_,rfl⟩;obtain ⟨xc,hxc⟩:∃ x,dk[Q]! = x:=⟨_,rfl⟩;have F2:=Lib.hid (HS4.out.reads (i:=P) (j:=Q) (by have:=HB.out;omega) (by have:=HB.out;omega) hxr hxc);by_cases hl2:cmpE bt xr xc < 0
     ·go_wp2_with fail
      refine wq w4 ?_;iterate 6 (refine qo (fun K hK=>?_);go_simp;refine hK _ ?_;clear hK K)
      refine qo (fun K hK=>?_) (fun w' hw'=>by obtain ⟨⟨c0,c1,c2,c3⟩,-,-⟩:=F2.out w' hw';go_simp<;>rfl);go_simp;refine hK _ ?_;clear hK K;iterate 5 (refine qo (fun K hK=>?_);go_simp;refine hK _ ?_;clear hK K)
      refine qo (fun K hK=>?_) (fun w' hw'=>by obtain ⟨-,⟨c0,c1,c2,c3⟩,-⟩:=F2.out w' hw';go_simp<;>rfl);go_simp;refine hK _ ?_;clear hK K;refine qc (fun w' hw'=>(F2.out w' hw').2.2) (fun K hK=>?_);go_simp;refine hK _ ?_;clear hK K;iterate 2 (refine qo (fun K hK=>?_);go_simp;refine hK _ ?_;clear hK K)
      refine wpQuiet_nil ?_;intro w5 hw5;have HS5:=Lib.hid (HS4.out.below hw5);clear hw5;go_wp2_with fail
      obtain ⟨pp,qq,hex⟩:=HS5.out.exch (i:=P) (j:=Q) (by have:=HB.out;omega) (by have:=HB.out;omega) hxr hxc;have HEX:=Lib.hid hex;obtain ⟨hpp,hqq,x0,x1,x2,x3,y0,y1,y2,y3,hfr,hap,-⟩:=hex;obtain ⟨n0,n1,n2,n3,n4,n5,n6⟩:=hap (by have:=HB.out;omega);clear F2 hap F1;go_big_region
      all_goals
       clear x0 x1 x2 x3 y0 y1 y2 y3 n0 n1 n2 n3 n4 n5 n6 hfr;have hdone:=Lib.hid HEX.out.done;go_wp2;refine ⟨⟨C,swp dk P Q,rfl,?_,by rw [size_swp];exact HSK.out,hdone.out,?_⟩,?_⟩
       ·have:=HB.out;omega
       ·exact (by
         obtain ⟨e1,e2,e3,e4,e5⟩:=HE.out;show siftDown _ _ _ _ _=_;rw [<- HO.out,siftDown_leftN e1 e3 e4 e5 hch (.inr (by rw [hxq,hxq1];exact decide_eq_false (by omega))),hxr,hxc,if_pos (by exact decide_eq_true hl2)])
       ·have:=HB.out;simp [intOf];omega
     ·have hl2b:decide (cmpE bt xr xc < 0)=false:=decide_eq_false hl2;go_wp2_with fail
      refine wq w4 ?_;iterate 6 (refine qo (fun K hK=>?_);go_simp;refine hK _ ?_;clear hK K)
      refine qo (fun K hK=>?_) (fun w' hw'=>by obtain ⟨⟨c0,c1,c2,c3⟩,-,-⟩:=F2.out w' hw';go_simp<;>rfl);go_simp;refine hK _ ?_;clear hK K;iterate 5 (refine qo (fun K hK=>?_);go_simp;refine hK _ ?_;clear hK K)
      refine qo (fun K hK=>?_) (fun w' hw'=>by obtain ⟨-,⟨c0,c1,c2,c3⟩,-⟩:=F2.out w' hw';go_simp<;>rfl);go_simp;refine hK _ ?_;clear hK K;refine qc (fun w' hw'=>(F2.out w' hw').2.2) (fun K hK=>?_);go_simp;refine hK _ ?_;clear hK K;iterate 2 (refine qo (fun K hK=>?_);go_simp;refine hK _ ?_;clear hK K)
      refine wpQuiet_nil ?_;intro w5 hw5;have HS5:=Lib.hid (HS4.out.below hw5);clear hw5;go_wp2;go_returns
      refine ⟨rfl,?_⟩;rw [show siftDown (ltOf (cmpE bt)) hi first lo d=dk from by
       obtain ⟨e1,e2,e3,e4,e5⟩:=HE.out;rw [<- HO.out,siftDown_leftN e1 e3 e4 e5 hch (.inr (by rw [hxq,hxq1];exact decide_eq_false (by omega))),hxr,hxc,if_neg (by intro e;have:=of_decide_eq_true e;omega)]]
      exact HS5.out
   ·have hc1z:¬ (C1:Int) < (hi:Int):=by omega
    have HB:Hid (P < dk.size/\Q < dk.size/\P≠Q/\C < hi/\¬ C1 < hi/\r < C):=Lib.hid (by omega);clear hR2 hC hC1 hP hQ hQ1 hsk;go_wp2_with fail
    go_quiet (fail)
    have HBd:RowKit.Below Wr.heap.size Wr (Wr.drewN nq):=⟨rfl,rfl,rfl,Nat.le_refl _,fun _ _=>rfl⟩;have HS4:=Lib.hid (HS.out.below HBd);clear HBd;generalize Wr.drewN nq=w4 at *;go_wp2_with fail
    obtain ⟨xr,hxr⟩:∃ x,dk[P]! = x:=⟨_,rfl⟩;obtain ⟨xc,hxc⟩:∃ x,dk[Q]! = x:=⟨_,rfl⟩;have F2:=Lib.hid (HS4.out.reads (i:=P) (j:=Q) (by have:=HB.out;omega) (by have:=HB.out;omega) hxr hxc);by_cases hl2:cmpE bt xr xc < 0
    ·go_wp2_with fail
     refine wq w4 ?_;iterate 6 (refine qo (fun K hK=>?_);go_simp;refine hK _ ?_;clear hK K)
     refine qo (fun K hK=>?_) (fun w' hw'=>by obtain ⟨⟨c0,c1,c2,c3⟩,-,-⟩:=F2.out w' hw';go_simp<;>rfl);go_simp;refine hK _ ?_;clear hK K;iterate 5 (refine qo (fun K hK=>?_);go_simp;refine hK _ ?_;clear hK K)
     refine qo (fun K hK=>?_) (fun w' hw'=>by obtain ⟨-,⟨c0,c1,c2,c3⟩,-⟩:=F2.out w' hw';go_simp<;>rfl);go_simp;refine hK _ ?_;clear hK K;refine qc (fun w' hw'=>(F2.out w' hw').2.2) (fun K hK=>?_);go_simp;refine hK _ ?_;clear hK K;iterate 2 (refine qo (fun K hK=>?_);go_simp;refine hK _ ?_;clear hK K)
     refine wpQuiet_nil ?_;intro w5 hw5;have HS5:=Lib.hid (HS4.out.below hw5);clear hw5;go_wp2_with fail
     obtain ⟨pp,qq,hex⟩:=HS5.out.exch (i:=P) (j:=Q) (by have:=HB.out;omega) (by have:=HB.out;omega) hxr hxc;have HEX:=Lib.hid hex;obtain ⟨hpp,hqq,x0,x1,x2,x3,y0,y1,y2,y3,hfr,hap,-⟩:=hex;obtain ⟨n0,n1,n2,n3,n4,n5,n6⟩:=hap (by have:=HB.out;omega);clear F2 hap;go_big_region
     all_goals
      clear x0 x1 x2 x3 y0 y1 y2 y3 n0 n1 n2 n3 n4 n5 n6 hfr;have hdone:=Lib.hid HEX.out.done;go_wp2;refine ⟨⟨C,swp dk P Q,rfl,?_,by rw [size_swp];exact HSK.out,hdone.out,?_⟩,?_⟩
      ·have:=HB.out;omega
      ·exact (by
        obtain ⟨e1,e2,e3,e4,e5⟩:=HE.out;show siftDown _ _ _ _ _=_;rw [<- HO.out,siftDown_leftN e1 e3 e4 e5 hch (.inl (by have:=HB.out;omega)),hxr,hxc,if_pos (by exact decide_eq_true hl2)])
      ·have:=HB.out;simp [intOf];omega
    ·have hl2b:decide (cmpE bt xr xc < 0)=false:=decide_eq_false hl2;go_wp2_with fail
     refine wq w4 ?_;iterate 6 (refine qo (fun K hK=>?_);go_simp;refine hK _ ?_;clear hK K)
     refine qo (fun K hK=>?_) (fun w' hw'=>by obtain ⟨⟨c0,c1,c2,c3⟩,-,-⟩:=F2.out w' hw';go_simp<;>rfl);go_simp;refine hK _ ?_;clear hK K;iterate 5 (refine qo (fun K hK=>?_);go_simp;refine hK _ ?_;clear hK K)
     refine qo (fun K hK=>?_) (fun w' hw'=>by obtain ⟨-,⟨c0,c1,c2,c3⟩,-⟩:=F2.out w' hw';go_simp<;>rfl);go_simp;refine hK _ ?_;clear hK K;refine qc (fun w' hw'=>(F2.out w' hw').2.2) (fun K hK=>?_);go_simp;refine hK _ ?_;clear hK K;iterate 2 (refine qo (fun K hK=>?_);go_simp;refine hK _ ?_;clear hK K)
     refine wpQuiet_nil ?_;intro w5 hw5;have HS5:=Lib.hid (HS4.out.below hw5);clear hw5;go_wp2;go_returns
     refine ⟨rfl,?_⟩;rw [show siftDown (ltOf (cmpE bt)) hi first lo d=dk from by
      obtain ⟨e1,e2,e3,e4,e5⟩:=HE.out;rw [<- HO.out,siftDown_leftN e1 e3 e4 e5 hch (.inl (by have:=HB.out;omega)),hxr,hxc,if_neg (by intro e;have:=of_decide_eq_true e;omega)]]
     exact HS5.out
  ·have hchz:(C:Int) >= (hi:Int):=by omega
   go_wp2;go_returns
   refine ⟨rfl,?_⟩;rw [show siftDown (ltOf (cmpE bt)) hi first lo d=dk from by rw [<- HO.out,siftDown_end (by omega)]];exact HS.out
end
end
section
open Go.RowKit Go.Maps Go.Sort
section
variable {bt:Bool} {w0 W W':World} {jb pb byb made base g cap:Nat} {d:Array Edg}
theorem Srt.exchSelf (h:Srt bt w0 jb pb byb made base g cap d W) {i:Nat} (hi:i < d.size) {x:Edg} (hx:d[i]! = x):∃ p,i*4=p /\
 (W.cell? ⟨g,p,none⟩=some (.int .u32 (x.t.toNat:Int))/\W.cell? ⟨g,p+1,none⟩=some (.int .u32 (x.h.toNat:Int))/\W.cell? ⟨g,p+2,none⟩=some (.int .u64 (x.x.toNat:Int))/\W.cell? ⟨g,p+3,none⟩=some (.int .u32 (x.m.toNat:Int)))/\(∀ k,W.frozen? ⟨g,k,none⟩=false) /\
 Srt bt w0 jb pb byb made base g cap (swp d i i) (((((((((W.setCell ⟨g,p,none⟩ (.int .u32 (x.t.toNat:Int))).setCell ⟨g,p+1,none⟩ (.int .u32 (x.h.toNat:Int))).setCell ⟨g,p+2,none⟩ (.int .u64 (x.x.toNat:Int))).setCell ⟨g,p+3,none⟩ (.int .u32 (x.m.toNat:Int))).setCell ⟨g,p,none⟩ (.int .u32 (x.t.toNat:Int))).setCell ⟨g,p+1,none⟩ (.int .u32 (x.h.toNat:Int))).setCell ⟨g,p+2,none⟩ (.int .u64 (x.x.toNat:Int))).setCell ⟨g,p+3,none⟩ (.int .u32 (x.m.toNat:Int))).drew):=by
 obtain ⟨p,q,hex⟩:=h.exch hi hi hx hx;have e:p=q:=by rw [<- hex.hp,<- hex.hq]
 subst e;exact ⟨p,hex.hp,⟨hex.p0,hex.p1,hex.p2,hex.p3⟩,hex.fr,hex.done⟩
set_option maxRecDepth 100000 in
set_option maxHeartbeats 8000000 in
theorem heapSort_any (h:Srt bt w0 jb pb byb made base g cap d W) (a b:Nat) (hab:a < b) (hb:b<=d.size) (hsz:d.size<=1000000) :
 Calls Tryz.prog 306 #[.slice (some ⟨g,0,none⟩) d.size cap, .int .i64 (a:Int), .int .i64 (b:Int),cmpFn jb] W (SrtPost bt w0 jb pb byb made base g cap (heapSort (ltOf (cmpE bt)) d a b)):=by
 obtain ⟨n,hn⟩:∃ n,b=a+n:=⟨b - a,by omega⟩;have H:=Lib.hid h;clear h;obtain ⟨N,hN⟩:∃ N,N=d.size:=⟨_,rfl⟩;rw [<- hN] at hb hsz ⊢;have HN:=Lib.hid hN;clear hN;have HSD:Hid (∀ (W:World) (dk:Array Edg),dk.size=N->Srt bt w0 jb pb byb made base g cap dk W->∀ (lo hi:Nat),lo<=hi->hi<=n->Calls Tryz.prog 315 #[.slice (some ⟨g,0,none⟩) N cap, .int .i64 (lo:Int), .int .i64 (hi:Int), .int .i64 (a:Int),cmpFn jb] W (SrtPost bt w0 jb pb byb made base g cap (siftDown (ltOf (cmpE bt)) hi a lo dk))):=Lib.hid (fun W dk hs h lo hi h1 h2=>by
  rw [<- hs];exact siftDown_any h lo hi a h1 (by omega) (by omega))
 have HPL:Hid (heapSort (ltOf (cmpE bt)) d a b=heapPop (ltOf (cmpE bt)) a n (heapBuild (ltOf (cmpE bt)) n a ((n - 1) / 2+1) d)):=Lib.hid (by unfold heapSort;rw [show b - a=n by omega]);have w1:IntKind.i64.wrap ((b:Int) - (a:Int))=(n:Int):=by rw [wrap_in]<;>omega
 have w2:IntKind.i64.wrap ((n:Int) - 1)=(n:Int) - 1:=wrap_in (by omega) (by omega);have w3:IntKind.i64.wrap (((n:Int) - 1).tdiv 2)=(((n - 1) / 2:Nat):Int):=by
  rw [show ((n:Int) - 1)=((n - 1:Nat):Int) by omega,show (((n - 1:Nat):Int)).tdiv 2=(((n - 1) / 2:Nat):Int) from rfl];exact wrap_in (by omega) (by omega)
 obtain ⟨M,hM⟩:∃ M,M=(n - 1) / 2:=⟨_,rfl⟩;have hMn:M<=n:=by omega
 rw [<- hM] at w3;have HM:=Lib.hid hM;clear hM;have hnN:a+n<=N:=by omega
 have han:(a:Int) < (N:Int):=by omega
 clear hn hab hb;unfold cmpFn ptrTo at *;go_enter Tryz.func306,Tryz.ntmps306
 go_wp2;go_loopw [11] (fun vi wr=>∃ (z:Int) (k:Nat) (dk:Array Edg),vi=.int .i64 z/\z=(k:Int) - 1/\k<=M+1/\dk.size=N/\Srt bt w0 jb pb byb made base g cap dk wr/\Hid (heapBuild (ltOf (cmpE bt)) n a k dk=heapBuild (ltOf (cmpE bt)) n a (M+1) d)) (fun vi _=>(intOf vi+1).toNat)
 case atStart=>exact ⟨(M:Int),M+1,d,rfl,by omega,Nat.le_refl _,HN.out.symm,H.out,rfl⟩
 case round=>
  obtain ⟨z,k,dk,rfl,hz,hk,hsk,hs,HO⟩:=hrel;generalize wr=Wr at *;have HS:=Lib.hid hs;have HSK:=Lib.hid hsk;clear hs hsk;cases k with
  | succ kp=>
    obtain rfl:z=(kp:Int):=by omega
    have hz0:¬ (kp:Int) < 0:=by omega
    have w4:IntKind.i64.wrap ((kp:Int) - 1)=(kp:Int) - 1:=wrap_in (by omega) (by omega);have hc:=Lib.hid (HSD.out Wr dk HSK.out HS.out kp n (by omega) (Nat.le_refl _));clear hz;go_wp2_with fail
    refine hc.out.mono ?_;rintro e w5 ⟨rfl,hs5⟩;have HS5:=Lib.hid hs5;clear hs5 hc;go_wp2;refine ⟨⟨(kp:Int) - 1,kp,siftDown (ltOf (cmpE bt)) n a kp dk,rfl,rfl,by omega,by rw [size_siftDown _ n a n kp dk (by omega)];exact HSK.out,HS5.out,?_⟩,by simp [intOf]⟩;show heapBuild _ _ _ _ _=_;rw [<- HO.out];rfl
  | zero=>
    obtain rfl:z=-1:=by omega
    have HB:Hid (heapBuild (ltOf (cmpE bt)) n a (M+1) d=dk):=Lib.hid HO.out.symm;clear hz hk HO;go_wp2;go_loopw [12] (fun vi wr=>∃ (z:Int) (k:Nat) (dj:Array Edg),vi=.int .i64 z/\z=(k:Int) - 1/\k<=n/\dj.size=N/\Srt bt w0 jb pb byb made base g cap dj wr/\Hid (heapPop (ltOf (cmpE bt)) a k dj=heapPop (ltOf (cmpE bt)) a n dk)) (fun vi _=>(intOf vi+1).toNat)
    case atStart=>exact ⟨(n:Int) - 1,n,dk,rfl,rfl,Nat.le_refl _,HSK.out,HS.out,rfl⟩
    case round=>
     obtain ⟨z,k,dj,rfl,hz,hk,hsk,hs,HO⟩:=hrel;generalize wr=Wr2 at *;have HS2:=Lib.hid hs;have HSJ:=Lib.hid hsk;clear hs hsk;cases k with
     | zero=>
       obtain rfl:z=-1:=by omega
       clear hz hk;go_wp2;go_end0
       refine ⟨rfl,?_⟩;rw [HPL.out,<- HM.out,HB.out,<- HO.out];exact HS2.out
     | succ kp=>
       obtain rfl:z=(kp:Int):=by omega
       have hz0:¬ (kp:Int) < 0:=by omega
       have w4:IntKind.i64.wrap ((kp:Int) - 1)=(kp:Int) - 1:=wrap_in (by omega) (by omega);obtain ⟨x,hx⟩:∃ x,dj[a]! = x:=⟨_,rfl⟩;clear hz;cases kp with
       | zero=>
         obtain ⟨pp,hpp,⟨x0,x1,x2,x3⟩,hfr,hdone⟩:=HS2.out.exchSelf (i:=a) (by rw [HSJ.out];omega) hx;have HDONE:=Lib.hid hdone;have wQ:IntKind.i64.wrap ((a:Int)+0)=(a:Int):=by rw [wrap_in]<;>omega
         clear hdone;have hc:=Lib.hid (HSD.out _ (swp dj a a) (by rw [size_swp];exact HSJ.out) HDONE.out 0 0 (Nat.le_refl _) (Nat.zero_le _));simp only [Int.natCast_zero] at hc HDONE;go_wp2_with fail
         go_big_region
         all_goals
          clear x0 x1 x2 x3 hfr;go_wp2_with fail
          refine hc.out.mono ?_;rintro e w5 ⟨rfl,hs5⟩;have HS5:=Lib.hid hs5;clear hs5 hc;go_wp2;refine ⟨⟨-1,0,siftDown (ltOf (cmpE bt)) 0 a 0 (swp dj a a),rfl,rfl,Nat.zero_le _,by rw [size_siftDown _ 0 a 0 0 _ (by omega),size_swp];exact HSJ.out,HS5.out,?_⟩,by simp [intOf]⟩;show heapPop _ _ _ _=_;rw [<- HO.out];rfl
       | succ kq=>
         obtain ⟨Q,hQ⟩:∃ Q,Q=a+(kq+1):=⟨_,rfl⟩;have wQ:IntKind.i64.wrap ((a:Int)+((kq:Int)+1))=(Q:Int):=by rw [wrap_in]<;>omega
         have bQ:(Q:Int) < (N:Int):=by omega
         have HQ:Hid (Q < dj.size/\a < dj.size/\a≠Q):=Lib.hid (by have:=HSJ.out;omega);have HQE:=Lib.hid hQ;clear hQ;obtain ⟨y,hy⟩:∃ y,dj[Q]! = y:=⟨_,rfl⟩;obtain ⟨pp,qq,hex⟩:=HS2.out.exch (i:=a) (j:=Q) HQ.out.2.1 HQ.out.1 hx hy;have HEX:=Lib.hid hex;obtain ⟨hpp,hqq,x0,x1,x2,x3,y0,y1,y2,y3,hfr,hap,-⟩:=hex;obtain ⟨n0,n1,n2,n3,n4,n5,n6⟩:=hap HQ.out.2.2;have hc:=Lib.hid (HSD.out _ (swp dj a Q) (by rw [size_swp];exact HSJ.out) HEX.out.done 0 (kq+1) (Nat.zero_le _) (by omega));have hcz:((kq+1:Nat):Int)=(kq:Int)+1:=by omega
         simp only [Int.natCast_zero,hcz] at hc hz0 w4 ⊢;clear hap hcz;go_wp2_with fail
         go_big_region
         all_goals
          clear x0 x1 x2 x3 y0 y1 y2 y3 n0 n1 n2 n3 n4 n5 n6 hfr;go_wp2_with fail
          refine hc.out.mono ?_;rintro e w5 ⟨rfl,hs5⟩;have HS5:=Lib.hid hs5;clear hs5 hc;go_wp2;refine ⟨⟨(kq:Int),kq+1,siftDown (ltOf (cmpE bt)) (kq+1) a 0 (swp dj a Q),rfl,by omega,by omega,by rw [size_siftDown _ (kq+1) a (kq+1) 0 _ (by omega),size_swp];exact HSJ.out,HS5.out,?_⟩,by simp [intOf];omega⟩;show heapPop _ _ _ _=_;rw [<- HO.out,HQE.out];rfl
end
end
section
open Go.RowKit Go.Maps Go.Sort
section
variable {bt:Bool} {w0 W W':World} {jb pb byb made base g cap:Nat} {d:Array Edg}
theorem reverseLoop_go {i j:Nat} {d:Array Edg} (h:i < j):reverseLoop i j d=reverseLoop (i+1) (j - 1) (swp d i j):=by
 conv=>lhs;unfold reverseLoop
 rw [if_pos h]
theorem reverseLoop_stop {i j:Nat} {d:Array Edg} (h:¬ i < j):reverseLoop i j d=d:=by
 unfold reverseLoop;rw [if_neg h]
set_option maxRecDepth 100000 in
set_option maxHeartbeats 8000000 in
theorem reverseRange_any (h:Srt bt w0 jb pb byb made base g cap d W) (a b:Nat) (hab:a < b) (hb:b<=d.size) (hsz:d.size<=1000000) :
 Calls Tryz.prog 309 #[.slice (some ⟨g,0,none⟩) d.size cap, .int .i64 (a:Int), .int .i64 (b:Int),cmpFn jb] W (SrtPost bt w0 jb pb byb made base g cap (reverseRange d a b)):=by
 have H:=Lib.hid h;clear h;obtain ⟨N,hN⟩:∃ N,N=d.size:=⟨_,rfl⟩;rw [<- hN] at hb hsz ⊢;have HN:=Lib.hid hN;clear hN;obtain ⟨j0,hj0⟩:∃ j0,j0=b - 1:=⟨_,rfl⟩;have w1:IntKind.i64.wrap ((b:Int) - 1)=(j0:Int):=by rw [wrap_in]<;>omega
 have hj0N:j0 < N:=by omega
 have HJ0:=Lib.hid hj0;clear hj0;unfold cmpFn ptrTo;go_enter Tryz.func309,Tryz.ntmps309
 go_wp2;go_loopw [8,9] (fun vi vj wr=>∃ (i j:Nat) (dk:Array Edg),vi=.int .i64 (i:Int)/\vj=.int .i64 (j:Int)/\i<=N/\j < N/\dk.size=N/\Srt bt w0 jb pb byb made base g cap dk wr/\Hid (reverseLoop i j dk=reverseLoop a j0 d)) (fun _ vj _=>(intOf vj).toNat)
 case atStart=>exact ⟨a,j0,d,rfl,rfl,by omega,hj0N,HN.out.symm,H.out,rfl⟩
 case round=>
  obtain ⟨i,j,dk,rfl,rfl,hi,hj,hsk,hs,HO⟩:=hrel;generalize wr=Wr at *;have HS:=Lib.hid hs;have HSK:=Lib.hid hsk;clear hs hsk;by_cases hij:i < j
  ·obtain ⟨j',hj'⟩:∃ j',j=j'+1:=⟨j - 1,by omega⟩;have hijz:(i:Int) < (j:Int):=by omega
   have wi:IntKind.i64.wrap ((i:Int)+1)=(i:Int)+1:=wrap_in (by omega) (by omega);have wj:IntKind.i64.wrap ((j:Int) - 1)=(j':Int):=by rw [wrap_in]<;>omega
   have bi:(i:Int) < (N:Int):=by omega
   have bj:(j:Int) < (N:Int):=by omega
   have hjj:j' < j/\i+1<=N:=by omega
   obtain ⟨x,hx⟩:∃ x,dk[i]! = x:=⟨_,rfl⟩;obtain ⟨y,hy⟩:∃ y,dk[j]! = y:=⟨_,rfl⟩;obtain ⟨pp,qq,hex⟩:=HS.out.exch (i:=i) (j:=j) (by rw [HSK.out];omega) (by rw [HSK.out];omega) hx hy;have HEX:=Lib.hid hex;obtain ⟨hpp,hqq,x0,x1,x2,x3,y0,y1,y2,y3,hfr,hap,-⟩:=hex;obtain ⟨n0,n1,n2,n3,n4,n5,n6⟩:=hap (by omega);have HJ':=Lib.hid hj';clear hap hj';go_wp2_with fail
   go_big_region
   all_goals
    clear x0 x1 x2 x3 y0 y1 y2 y3 n0 n1 n2 n3 n4 n5 n6 hfr;go_wp2;refine ⟨⟨i+1,j',swp dk i j,by go_num,rfl,hjj.2,by omega,by rw [size_swp];exact HSK.out,HEX.out.done,?_⟩,by simp [intOf];omega⟩;show reverseLoop _ _ _=_;rw [<- HO.out,reverseLoop_go hij,show j - 1=j' by have:=HJ'.out;omega]
  ·have hijz:¬ (i:Int) < (j:Int):=by omega
   go_wp2;go_end0
   refine ⟨rfl,?_⟩;rw [show reverseRange d a b=dk from by unfold reverseRange;rw [<- HJ0.out,<- HO.out,reverseLoop_stop (by omega)]];exact HS.out
structure Cnt (bt:Bool) (w0:World) (jb pb byb made base g cap:Nat) (d:Array Edg) (c s:Nat) (W:World):Prop where
 srt:Srt bt w0 jb pb byb made base g cap d W
 box:∃ T,W.heap[c]? = some (.cells #[.int .i64 (s:Int)] T (0,0))
 new:w0.heap.size<=c
 ng:c≠g
 nj:c≠jb
 nb:c≠byb
variable {c s:Nat}
theorem Cnt.below (h:Cnt bt w0 jb pb byb made base g cap d c s W) (hb:RowKit.Below W.heap.size W W'):Cnt bt w0 jb pb byb made base g cap d c s W':=by
 obtain ⟨T,hT⟩:=h.box;exact ⟨h.srt.below hb,⟨T,by rw [hb.block c (Array.getElem?_eq_some_iff.1 hT).1];exact hT⟩,h.new,h.ng,h.nj,h.nb⟩
theorem Cnt.cell (h:Cnt bt w0 jb pb byb made base g cap d c s W):W.cell? ⟨c,0,none⟩=some (.int .i64 (s:Int))/\W.frozen? ⟨c,0,none⟩=false:=by
 obtain ⟨T,hT⟩:=h.box;exact ⟨by rw [cells_cell hT];rfl,cells_frozen hT _⟩
theorem Cnt.bump (h:Cnt bt w0 jb pb byb made base g cap d c s W) (t:Nat):Cnt bt w0 jb pb byb made base g cap d c t (W.setCell ⟨c,0,none⟩ (.int .i64 (t:Int))):=by
 obtain ⟨T,hT⟩:=h.box;have ht:Turn (·=c) W (W.setCell ⟨c,0,none⟩ (.int .i64 (t:Int))):=Turn.setCell (Turn.refl _ _) _ _ (.inl rfl);refine ⟨⟨ht.ownsRow h.srt.row (fun b hb e=>?_),h.srt.job.kept (ht.block _ h.srt.job.lt.1 (fun e=>h.nj e.symm)) (ht.block _ h.srt.job.lt.2 (fun e=>h.nb e.symm)),h.srt.nj,h.srt.nb,h.srt.turn.setCell _ _ (.inr h.new)⟩,⟨T,by rw [cells_set hT];rfl⟩,h.new,h.ng,h.nj,h.nb⟩;have:b=g:=by
  have:=hb;simp [Value.ownBlock] at this;exact this.symm
 exact h.ng (by rw [<- e,this])
def CntPost (bt:Bool) (w0:World) (jb pb byb made base g cap:Nat) (d:Array Edg) (c s:Nat) (v:Value) (e:Ending) (w':World):Prop:=e=.returned v/\Cnt bt w0 jb pb byb made base g cap d c s w'
set_option maxRecDepth 100000 in
set_option maxHeartbeats 4000000 in
theorem order2_any (h:Cnt bt w0 jb pb byb made base g cap d c s W) (a b:Nat) (ha:a < d.size) (hb:b < d.size) (hs:s<=1000) :
 Calls Tryz.prog 319 #[.slice (some ⟨g,0,none⟩) d.size cap, .int .i64 (a:Int), .int .i64 (b:Int),ptrTo c,cmpFn jb] W
  (CntPost bt w0 jb pb byb made base g cap d c (order2 (ltOf (cmpE bt)) d a b s).2.2 (.tuple #[.int .i64 ((order2 (ltOf (cmpE bt)) d a b s).1:Int), .int .i64 ((order2 (ltOf (cmpE bt)) d a b s).2.1:Int)])):=by
 have H:=Lib.hid h;have ba:(a:Int) < (d.size:Int):=by omega
 have bb:(b:Int) < (d.size:Int):=by omega
 have ws:IntKind.i64.wrap ((s:Int)+1)=((s+1:Nat):Int):=by rw [wrap_in]<;>omega
 obtain ⟨x,hx⟩:∃ x,d[b]! = x:=⟨_,rfl⟩;obtain ⟨y,hy⟩:∃ y,d[a]! = y:=⟨_,rfl⟩;have F:=Lib.hid (h.srt.reads (i:=b) (j:=a) hb ha hx hy);unfold order2;rw [hx,hy];clear h ha hb;unfold cmpFn ptrTo;by_cases hl:cmpE bt x y < 0
 ·rw [if_pos (show ltOf (cmpE bt) x y=true from decide_eq_true hl)];generalize d.size=N at *;go_enter Tryz.func319,Tryz.ntmps319
  go_wp2_with fail
  refine wq W ?_;iterate 4 (refine qo (fun K hK=>?_);go_simp;refine hK _ ?_;clear hK K)
  refine qo (fun K hK=>?_) (fun w' hw'=>by obtain ⟨⟨c0,c1,c2,c3⟩,-,-⟩:=F.out w' hw';go_simp<;>rfl);go_simp;refine hK _ ?_;clear hK K;iterate 3 (refine qo (fun K hK=>?_);go_simp;refine hK _ ?_;clear hK K)
  refine qo (fun K hK=>?_) (fun w' hw'=>by obtain ⟨-,⟨c0,c1,c2,c3⟩,-⟩:=F.out w' hw';go_simp<;>rfl);go_simp;refine hK _ ?_;clear hK K;refine qc (fun w' hw'=>(F.out w' hw').2.2) (fun K hK=>?_);go_simp;refine hK _ ?_;clear hK K;iterate 1 (refine qo (fun K hK=>?_);go_simp;refine hK _ ?_;clear hK K)
  refine wpQuiet_nil ?_;intro w3 hw3;have H3:=Lib.hid (H.out.below hw3);clear hw3;have hbump:=Lib.hid (H3.out.bump (s+1));obtain ⟨hc,hf⟩:=H3.out.cell;go_wp2;go_ret2
  exact ⟨rfl,hbump.out⟩
 ·rw [if_neg (show ¬ ltOf (cmpE bt) x y=true from fun e=>hl (of_decide_eq_true e))];generalize d.size=N at *;go_enter Tryz.func319,Tryz.ntmps319
  go_wp2_with fail
  refine wq W ?_;iterate 4 (refine qo (fun K hK=>?_);go_simp;refine hK _ ?_;clear hK K)
  refine qo (fun K hK=>?_) (fun w' hw'=>by obtain ⟨⟨c0,c1,c2,c3⟩,-,-⟩:=F.out w' hw';go_simp<;>rfl);go_simp;refine hK _ ?_;clear hK K;iterate 3 (refine qo (fun K hK=>?_);go_simp;refine hK _ ?_;clear hK K)
  refine qo (fun K hK=>?_) (fun w' hw'=>by obtain ⟨-,⟨c0,c1,c2,c3⟩,-⟩:=F.out w' hw';go_simp<;>rfl);go_simp;refine hK _ ?_;clear hK K;refine qc (fun w' hw'=>(F.out w' hw').2.2) (fun K hK=>?_);go_simp;refine hK _ ?_;clear hK K;iterate 1 (refine qo (fun K hK=>?_);go_simp;refine hK _ ?_;clear hK K)
  refine wpQuiet_nil ?_;intro w3 hw3;have H3:=Lib.hid (H.out.below hw3);clear hw3;go_wp2;go_ret2
  exact ⟨rfl,H3.out⟩
end
end
section
open Go.RowKit Go.Maps Go.Sort
section
variable {bt:Bool} {w0 W W':World} {jb pb byb made base g cap c s:Nat} {d:Array Edg}
theorem order2_in (lt:Edg->Edg->Bool) (d:Array Edg) {a b s N:Nat} (ha:a < N) (hb:b < N):(order2 lt d a b s).1 < N/\(order2 lt d a b s).2.1 < N/\(order2 lt d a b s).2.2<=s+1:=by
 unfold order2;split<;>exact ⟨by assumption,by assumption,by simp⟩
theorem median_in (lt:Edg->Edg->Bool) (d:Array Edg) {a b c s N:Nat} (ha:a < N) (hb:b < N) (hc:c < N):(median lt d a b c s).1 < N/\(median lt d a b c s).2<=s+3:=by
 unfold median;obtain ⟨h1,h2,h3⟩:=order2_in lt d (s:=s) ha hb;obtain ⟨k1,k2,k3⟩:=order2_in lt d (s:=(order2 lt d a b s).2.2) h2 hc;obtain ⟨q1,q2,q3⟩:=order2_in lt d (s:=(order2 lt d (order2 lt d a b s).2.1 c (order2 lt d a b s).2.2).2.2) h1 k1;exact ⟨q2,Nat.le_trans q3 (by omega)⟩
set_option maxRecDepth 100000 in
set_option maxHeartbeats 4000000 in
theorem median_any (h:Cnt bt w0 jb pb byb made base g cap d c s W) (a b k:Nat) (ha:a < d.size) (hb:b < d.size) (hk:k < d.size) (hs:s<=900) :
 Calls Tryz.prog 317 #[.slice (some ⟨g,0,none⟩) d.size cap, .int .i64 (a:Int), .int .i64 (b:Int), .int .i64 (k:Int),ptrTo c,cmpFn jb] W
  (CntPost bt w0 jb pb byb made base g cap d c (median (ltOf (cmpE bt)) d a b k s).2 (.int .i64 ((median (ltOf (cmpE bt)) d a b k s).1:Int))):=by
 have HO:Hid (∀ W a b s,Cnt bt w0 jb pb byb made base g cap d c s W->a < d.size->b < d.size->s<=1000->Calls Tryz.prog 319 #[.slice (some ⟨g,0,none⟩) d.size cap, .int .i64 (a:Int), .int .i64 (b:Int),ptrTo c,cmpFn jb] W
  (CntPost bt w0 jb pb byb made base g cap d c (order2 (ltOf (cmpE bt)) d a b s).2.2 (.tuple #[.int .i64 ((order2 (ltOf (cmpE bt)) d a b s).1:Int), .int .i64 ((order2 (ltOf (cmpE bt)) d a b s).2.1:Int)]))):=Lib.hid (fun W a b s h ha hb hs=>order2_any h a b ha hb hs)
 have H:=Lib.hid h;unfold median;obtain ⟨p1,p2,p3⟩:=order2_in (ltOf (cmpE bt)) d (s:=s) ha hb;have hc1:=Lib.hid (HO.out W a b s h ha hb (by omega));generalize order2 (ltOf (cmpE bt)) d a b s=r1 at *;obtain ⟨x1,y1,s1⟩:=r1;dsimp only at *;obtain ⟨q1,q2,q3⟩:=order2_in (ltOf (cmpE bt)) d (s:=s1) p2 hk;have hc2:Hid (∀ W,Cnt bt w0 jb pb byb made base g cap d c s1 W->_):=Lib.hid (fun W h=>HO.out W y1 k s1 h p2 hk (by omega));generalize order2 (ltOf (cmpE bt)) d y1 k s1=r2 at *;obtain ⟨x2,y2,s2⟩:=r2;dsimp only at *;have hc3:Hid (∀ W,Cnt bt w0 jb pb byb made base g cap d c s2 W->_):=Lib.hid (fun W h=>HO.out W x1 x2 s2 h p1 q1 (by omega));generalize order2 (ltOf (cmpE bt)) d x1 x2 s2=r3 at *;obtain ⟨x3,y3,s3⟩:=r3;dsimp only at *;clear h HO p1 p2 p3 q1 q2 q3 ha hb hk hs;unfold cmpFn ptrTo at *;generalize d.size=N at *;go_enter Tryz.func317,Tryz.ntmps317
 go_wp2_with fail
 refine hc1.out.mono ?_;rintro e w1 ⟨rfl,h1⟩;have hc2':=Lib.hid (hc2.out w1 h1);clear h1 hc1 hc2;go_wp2_with fail
 refine hc2'.out.mono ?_;rintro e w2 ⟨rfl,h2⟩;have hc3':=Lib.hid (hc3.out w2 h2);clear h2 hc2' hc3;go_wp2_with fail
 refine hc3'.out.mono ?_;rintro e w3 ⟨rfl,h3⟩;have H3:=Lib.hid h3;clear h3 hc3';go_wp2;go_ret;exact ⟨rfl,H3.out⟩
set_option maxHeartbeats 1000000 in
theorem medianAdjacent_any (h:Cnt bt w0 jb pb byb made base g cap d c s W) (a:Nat) (h0:1<=a) (ha:a+1 < d.size) (hsz:d.size<=1000000) (hs:s<=900) :
 Calls Tryz.prog 316 #[.slice (some ⟨g,0,none⟩) d.size cap, .int .i64 (a:Int),ptrTo c,cmpFn jb] W
  (CntPost bt w0 jb pb byb made base g cap d c (medianAdjacent (ltOf (cmpE bt)) d a s).2 (.int .i64 ((medianAdjacent (ltOf (cmpE bt)) d a s).1:Int))):=by
 have hm:=Lib.hid (median_any h (a - 1) a (a+1) (by omega) (by omega) ha hs);have w1:IntKind.i64.wrap ((a:Int) - 1)=((a - 1:Nat):Int):=by rw [wrap_in]<;>omega
 have w2:IntKind.i64.wrap ((a:Int)+1)=((a+1:Nat):Int):=by rw [wrap_in]<;>omega
 unfold medianAdjacent;clear h h0 ha;unfold cmpFn ptrTo at *;generalize median (ltOf (cmpE bt)) d (a - 1) a (a+1) s=r at *;generalize a - 1=A0 at *;generalize a+1=A1 at *;generalize d.size=N at *;go_enter Tryz.func316,Tryz.ntmps316
 go_wp2_with fail
 refine hm.out.mono ?_;rintro e w1 ⟨rfl,h1⟩;have H1:=Lib.hid h1;clear h1 hm;go_wp2;go_ret;exact ⟨rfl,H1.out⟩
end
end
section
open Go.RowKit Go.Maps Go.Sort
section
variable {bt:Bool} {w0 W W':World} {jb pb byb made base g cap c s:Nat} {d:Array Edg}
def hintN:Hint->Nat
 | .unknown=>0
 | .increasing=>1
 | .decreasing=>2
theorem Srt.count (h:Srt bt w0 jb pb byb made base g cap d W) (T:TypeId):Cnt bt w0 jb pb byb made base g cap d W.heap.size 0 (W.alloc (.cells #[.int .i64 0] T)):=by
 have hg:g < W.heap.size:=by
  obtain ⟨_,⟨h0,_⟩ | ⟨g',cap',cur,hv,_,hh,_⟩⟩:=h.row
  ·cases h0
  ·cases hv;exact (Array.getElem?_eq_some_iff.1 hh).1
 have:=h.job.lt;exact ⟨h.below ((Below.refl _ _).alloc (Nat.le_refl _) _),⟨T,heap_alloc_new W _⟩,h.turn.size,by omega,by omega,by omega⟩
def PivPost (bt:Bool) (w0:World) (jb pb byb made base g cap:Nat) (d:Array Edg) (r:Nat × Hint) (e:Ending) (w':World):Prop:=
 e=.returned (.tuple #[.int .i64 (r.1:Int), .int .i64 (hintN r.2:Int)])/\Srt bt w0 jb pb byb made base g cap d w'
theorem choose_mid {lt:Edg->Edg->Bool} {d:Array Edg} {a b I J K:Nat} {m:Nat × Nat} (h8:8<=b - a) (h50:¬ 50<=b - a) (hI:I=a+(b - a) / 4*1) (hJ:J=a+(b - a) / 4*2) (hK:K=a+(b - a) / 4*3) (hm:median lt d I J K 0=m) :
 choosePivot lt d a b=(m.1,if m.2=0 then .increasing else if m.2=12 then .decreasing else .unknown):=by
 subst hI hJ hK hm;unfold choosePivot;simp only [ge_iff_le,h8,h50,if_true,if_false]
theorem choose_far {lt:Edg->Edg->Bool} {d:Array Edg} {a b I J K:Nat} {ri rj rk m:Nat × Nat} (h50:50<=b - a) (hI:I=a+(b - a) / 4*1) (hJ:J=a+(b - a) / 4*2) (hK:K=a+(b - a) / 4*3)
 (h1:medianAdjacent lt d I 0=ri) (h2:medianAdjacent lt d J ri.2=rj) (h3:medianAdjacent lt d K rj.2=rk) (hm:median lt d ri.1 rj.1 rk.1 rk.2=m) :
 choosePivot lt d a b=(m.1,if m.2=0 then .increasing else if m.2=12 then .decreasing else .unknown):=by
 subst hI hJ hK h1 h2 h3 hm;have h8:8<=b - a:=by omega
 unfold choosePivot;simp only [ge_iff_le,h8,h50,if_true]
theorem adj_in (lt:Edg->Edg->Bool) (d:Array Edg) {a s N:Nat} (ha:a+1 < N):(medianAdjacent lt d a s).1 < N/\(medianAdjacent lt d a s).2<=s+3:=
 median_in lt d (by omega) (by omega) ha
set_option maxRecDepth 100000 in
set_option maxHeartbeats 8000000 in
theorem choosePivot_any (h:Srt bt w0 jb pb byb made base g cap d W) (a b:Nat) (hl:12 < b - a) (hb:b<=d.size) (hsz:d.size<=1000000) :
 Calls Tryz.prog 308 #[.slice (some ⟨g,0,none⟩) d.size cap, .int .i64 (a:Int), .int .i64 (b:Int),cmpFn jb] W (PivPost bt w0 jb pb byb made base g cap d (choosePivot (ltOf (cmpE bt)) d a b)):=by
 have HC0:=Lib.hid (h.count 3);obtain ⟨L,hL⟩:∃ L,L=b - a:=⟨_,rfl⟩;obtain ⟨Q,hQ⟩:∃ Q,Q=(b - a) / 4:=⟨_,rfl⟩;obtain ⟨Q2,hQ2⟩:∃ Q2,Q2=Q*2:=⟨_,rfl⟩;obtain ⟨Q3,hQ3⟩:∃ Q3,Q3=Q*3:=⟨_,rfl⟩;obtain ⟨I,hI⟩:∃ I,I=a+Q:=⟨_,rfl⟩;obtain ⟨J,hJ⟩:∃ J,J=a+Q2:=⟨_,rfl⟩;obtain ⟨K,hK⟩:∃ K,K=a+Q3:=⟨_,rfl⟩;have wL:IntKind.i64.wrap ((b:Int) - (a:Int))=(L:Int):=by rw [wrap_in]<;>omega
 have wQ:IntKind.i64.wrap ((L:Int) / 4)=(Q:Int):=by rw [wrap_in]<;>omega
 have wQ1:IntKind.i64.wrap (Q:Int)=(Q:Int):=wrap_in (by omega) (by omega);have wQ2:IntKind.i64.wrap ((Q:Int)*2)=(Q2:Int):=by rw [wrap_in]<;>omega
 have wQ3:IntKind.i64.wrap ((Q:Int)*3)=(Q3:Int):=by rw [wrap_in]<;>omega
 have wI:IntKind.i64.wrap ((a:Int)+(Q:Int))=(I:Int):=by rw [wrap_in]<;>omega
 have wJ:IntKind.i64.wrap ((a:Int)+(Q2:Int))=(J:Int):=by rw [wrap_in]<;>omega
 have wK:IntKind.i64.wrap ((a:Int)+(Q3:Int))=(K:Int):=by rw [wrap_in]<;>omega
 have l8:¬ (L:Int) < 8:=by omega
 have HIJ:Hid (I+1 < d.size/\J+1 < d.size/\K+1 < d.size/\1<=I/\1<=J/\1<=K):=Lib.hid (by omega);have hI':I=a+(b - a) / 4*1:=by omega
 have hJ':J=a+(b - a) / 4*2:=by omega
 have hK':K=a+(b - a) / 4*3:=by omega
 by_cases h50:50<=b - a
 ·have l50:¬ (L:Int) < 50:=by omega
  obtain ⟨ri,h1⟩:∃ r,medianAdjacent (ltOf (cmpE bt)) d I 0=r:=⟨_,rfl⟩;obtain ⟨rj,h2⟩:∃ r,medianAdjacent (ltOf (cmpE bt)) d J ri.2=r:=⟨_,rfl⟩;obtain ⟨rk,h3⟩:∃ r,medianAdjacent (ltOf (cmpE bt)) d K rj.2=r:=⟨_,rfl⟩;obtain ⟨m,hm⟩:∃ r,median (ltOf (cmpE bt)) d ri.1 rj.1 rk.1 rk.2=r:=⟨_,rfl⟩;have HT:=Lib.hid (choose_far h50 hI' hJ' hK' h1 h2 h3 hm);have bi:=adj_in (ltOf (cmpE bt)) d (s:=0) HIJ.out.1;rw [h1] at bi;have bj:=adj_in (ltOf (cmpE bt)) d (s:=ri.2) HIJ.out.2.1;rw [h2] at bj;have bk:=adj_in (ltOf (cmpE bt)) d (s:=rj.2) HIJ.out.2.2.1;rw [h3] at bk;have C1:Hid (∀ W',Cnt bt w0 jb pb byb made base g cap d W.heap.size 0 W'->Calls Tryz.prog 316 #[.slice (some ⟨g,0,none⟩) d.size cap, .int .i64 (I:Int),ptrTo W.heap.size,cmpFn jb] W' (CntPost bt w0 jb pb byb made base g cap d W.heap.size ri.2 (.int .i64 (ri.1:Int)))):=Lib.hid (fun W' h=>by
   have:=medianAdjacent_any h I HIJ.out.2.2.2.1 HIJ.out.1 hsz (by omega);rwa [h1] at this)
  have C2:Hid (∀ W',Cnt bt w0 jb pb byb made base g cap d W.heap.size ri.2 W'->Calls Tryz.prog 316 #[.slice (some ⟨g,0,none⟩) d.size cap, .int .i64 (J:Int),ptrTo W.heap.size,cmpFn jb] W' (CntPost bt w0 jb pb byb made base g cap d W.heap.size rj.2 (.int .i64 (rj.1:Int)))):=Lib.hid (fun W' h=>by
   have:=medianAdjacent_any h J HIJ.out.2.2.2.2.1 HIJ.out.2.1 hsz (by omega);rwa [h2] at this)
  have C3:Hid (∀ W',Cnt bt w0 jb pb byb made base g cap d W.heap.size rj.2 W'->Calls Tryz.prog 316 #[.slice (some ⟨g,0,none⟩) d.size cap, .int .i64 (K:Int),ptrTo W.heap.size,cmpFn jb] W' (CntPost bt w0 jb pb byb made base g cap d W.heap.size rk.2 (.int .i64 (rk.1:Int)))):=Lib.hid (fun W' h=>by
   have:=medianAdjacent_any h K HIJ.out.2.2.2.2.2 HIJ.out.2.2.1 hsz (by omega);rwa [h3] at this)
  have C4:Hid (∀ W',Cnt bt w0 jb pb byb made base g cap d W.heap.size rk.2 W'->Calls Tryz.prog 317 #[.slice (some ⟨g,0,none⟩) d.size cap, .int .i64 (ri.1:Int), .int .i64 (rj.1:Int), .int .i64 (rk.1:Int),ptrTo W.heap.size,cmpFn jb] W' (CntPost bt w0 jb pb byb made base g cap d W.heap.size m.2 (.int .i64 (m.1:Int)))):=Lib.hid (fun W' h=>by
   have:=median_any h ri.1 rj.1 rk.1 bi.1 bj.1 bk.1 (by omega);rwa [hm] at this)
  clear h hL hQ hQ2 hQ3 hI hJ hK hI' hJ' hK' h1 h2 h3 hm bi bj bk hl hb hsz;unfold cmpFn ptrTo at *;generalize d.size=N at *;generalize choosePivot (ltOf (cmpE bt)) d a b=r at HT ⊢;obtain ⟨mi,ms⟩:=m;obtain ⟨ri1,ri2⟩:=ri;obtain ⟨rj1,rj2⟩:=rj;obtain ⟨rk1,rk2⟩:=rk;dsimp only at *;go_enter Tryz.func308,Tryz.ntmps308
  go_wp2_with fail
  refine (C1.out _ HC0.out).mono ?_;rintro e w1 ⟨rfl,h1⟩;have hc:=Lib.hid (C2.out w1 h1);clear h1 C1 C2 HC0;go_wp2_with fail
  refine hc.out.mono ?_;rintro e w2 ⟨rfl,h2⟩;have hc2:=Lib.hid (C3.out w2 h2);clear h2 hc C3;go_wp2_with fail
  refine hc2.out.mono ?_;rintro e w3 ⟨rfl,h3⟩;have hc3:=Lib.hid (C4.out w3 h3);clear h3 hc2 C4;go_wp2_with fail
  refine hc3.out.mono ?_;rintro e w4 ⟨rfl,h4⟩;have H4:=Lib.hid h4;obtain ⟨hcell,-⟩:=h4.cell;clear h4 hc3;by_cases m0:ms=0
  ·subst m0;simp only [Int.natCast_zero] at hcell;go_wp2;go_ret2
   rw [HT.out];exact ⟨rfl,H4.out.srt⟩
  ·by_cases m12:ms=12
   ·subst m12;have hcell':w4.cell? ⟨W.heap.size,0,none⟩=some (.int .i64 12):=hcell;clear hcell;go_wp2;go_ret2
    rw [HT.out,if_neg (by decide),if_pos (by trivial)];exact ⟨rfl,H4.out.srt⟩
   ·have z0:¬ (ms:Int)=0:=by omega
    have z12:¬ (ms:Int)=12:=by omega
    have z0b:((ms:Int) == 0)=false:=beq_false_of_ne z0;have z12b:((ms:Int) == 12)=false:=beq_false_of_ne z12;go_wp2;go_ret2
    rw [HT.out,if_neg m0,if_neg m12];exact ⟨rfl,H4.out.srt⟩
 ·have l50:(L:Int) < 50:=by omega
  obtain ⟨m,hm⟩:∃ r,median (ltOf (cmpE bt)) d I J K 0=r:=⟨_,rfl⟩;have HT:=Lib.hid (choose_mid (by omega) h50 hI' hJ' hK' hm);have C4:Hid (∀ W',Cnt bt w0 jb pb byb made base g cap d W.heap.size 0 W'->Calls Tryz.prog 317 #[.slice (some ⟨g,0,none⟩) d.size cap, .int .i64 (I:Int), .int .i64 (J:Int), .int .i64 (K:Int),ptrTo W.heap.size,cmpFn jb] W' (CntPost bt w0 jb pb byb made base g cap d W.heap.size m.2 (.int .i64 (m.1:Int)))):=Lib.hid (fun W' h=>by
   have:=median_any h I J K (by have:=HIJ.out;omega) (by have:=HIJ.out;omega) (by have:=HIJ.out;omega) (by omega);rwa [hm] at this)
  clear h hL hQ hQ2 hQ3 hI hJ hK hI' hJ' hK' hm hl hb hsz;unfold cmpFn ptrTo at *;generalize d.size=N at *;generalize choosePivot (ltOf (cmpE bt)) d a b=r at HT ⊢;obtain ⟨mi,ms⟩:=m;dsimp only at *;go_enter Tryz.func308,Tryz.ntmps308
  go_wp2_with fail
  refine (C4.out _ HC0.out).mono ?_;rintro e w4 ⟨rfl,h4⟩;have H4:=Lib.hid h4;obtain ⟨hcell,-⟩:=h4.cell;clear h4 C4 HC0;by_cases m0:ms=0
  ·subst m0;simp only [Int.natCast_zero] at hcell;go_wp2;go_ret2
   rw [HT.out];exact ⟨rfl,H4.out.srt⟩
  ·by_cases m12:ms=12
   ·subst m12;have hcell':w4.cell? ⟨W.heap.size,0,none⟩=some (.int .i64 12):=hcell;clear hcell;go_wp2;go_ret2
    rw [HT.out,if_neg (by decide),if_pos (by trivial)];exact ⟨rfl,H4.out.srt⟩
   ·have z0:¬ (ms:Int)=0:=by omega
    have z12:¬ (ms:Int)=12:=by omega
    have z0b:((ms:Int) == 0)=false:=beq_false_of_ne z0;have z12b:((ms:Int) == 12)=false:=beq_false_of_ne z12;go_wp2;go_ret2
    rw [HT.out,if_neg m0,if_neg m12];exact ⟨rfl,H4.out.srt⟩
end
end
end Go.Proofs.YthkkgdpomhhjjaaGreatDoor
