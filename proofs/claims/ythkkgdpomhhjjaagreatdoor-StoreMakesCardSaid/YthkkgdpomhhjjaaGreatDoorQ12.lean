/-
  Joined.
-/
import Derived.Test.YthkkgdpomhhjjaaGreatDoorQ11
import Derived.Below
import Derived.Deep.RegionWith
import Derived.Laws.IdiomStrings
namespace Go.Proofs.YthkkgdpomhhjjaaGreatDoor
section
open Go.RowKit Go.Maps Go.MapKept
section
variable {w w':World} {pb db n jb byb made:Nat} {by':Bool} {o o':Owner} {d d':Dsk} {L L':Logic}
set_option maxRecDepth 100000 in
set_option maxHeartbeats 32000000 in
theorem jobMerge_any (HW:WriteSaid) (h:PoolAt w pb db n o d L) (hj:JobAt w jb pb byb made by') (hoj:o jb=none) (hob:o byb=none) {v:Value} {rs:List Run} (hv:NameRow w v (rs.map (·.1))) (hvo:∀ b,v.ownBlock=some b->o b=none)
 (hL:∀ p∈rs,mget L p.1=some (edgeFile p.2 false)) (hnd:(rs.map (·.1)).Nodup) (hlen:rs.length<=1000) (heach:∀ p∈rs,bestOf by' p.2=p.2) (hall:lens rs<=60000) {out:Name} (hok:okName out=true) (hno:mget L out=none) :
 Calls Tryz.prog 179 #[ptrTo jb,v, .string out] w (MergePost n pb db w o d L out (rs.map (·.1)) (bestOf by' (allOf rs)) (lens rs)):=by
 have hopen:Hid (∀ W o' d' nm es,Moved (fun _=>False) n pb db w o d W o' d' L->(nm,es)∈rs->Calls Tryz.prog 116 #[ptrTo jb, .string nm] W (OpenSrcPost n pb db W o' d' L nm es.length)):=Lib.hid (fun W o' d' nm es hm hp=>jobOpen_any HW hm.pool (hj.moved hm hoj hob (fun h=>h) (fun h=>h)) (hL _ hp));have hnext:Hid (∀ W o' d' L' cb sb nm (es:List Edg) x0 i fl x,PoolAt W pb db n o' d' L'->StreamAt W sb pb nm 20->o' sb=none->SourceAt W cb sb i es.length x0->o' cb=none->mget L' nm=some (edgeFile es fl)->es[i]? = some x->Calls Tryz.prog 221 #[ptrTo cb] W (NextPost n pb db W o' d' L' cb sb i es.length x)):=Lib.hid (fun W o' d' L' cb sb nm es x0 i fl x a b c e f g hx=>by
  have hi:=lt_of_get hx;rw [List.getElem?_eq_getElem hi] at hx;obtain rfl:=Option.some.inj hx;exact sourceNext_in HW a b c e f g hi)
 have hcreate:Hid (∀ W o' d',Moved (fun _=>False) n pb db w o d W o' d' L->Calls Tryz.prog 223 #[ptrTo jb, .string out] W (CreateSinkPost n pb db W o' d' L out)):=Lib.hid (fun W o' d' hm=>jobCreate_any hm.pool (hj.moved hm hoj hob (fun h=>h) (fun h=>h)) (hm.free hj.lt.1 hoj) hok hno);have hput:Hid (∀ W o' d' kb sb res,PoolAt W pb db n o' d' (mput L out (edgeFile res false))->StreamAt W sb pb out 20->o' sb=none->o' kb=none->kb≠sb->SinkOf W kb sb res->res.length < 65535->∀ x:Edg,
  Calls Tryz.prog 225 #[ptrTo kb, .agg #[.int .u32 (x.t.toNat:Int), .int .u32 (x.h.toNat:Int), .int .u64 (x.x.toNat:Int), .int .u32 (x.m.toNat:Int)]] W (SinkPost n pb db W o' d' (mput L out (edgeFile res false)) out kb sb res x)):=
  Lib.hid (fun W o' d' kb sb res hW hst ho hok' hne hk hl x=>sinkPut_any HW hW hst ho hok' hne (by rw [mget_mput,if_pos rfl]) hl hk x)
 have hnsout:∀ x∈rs.map (·.1),x≠out:=fun x hx e=>by
  obtain ⟨p,hp,rfl⟩:=List.mem_map.1 hx;have:=hL p hp;rw [e,hno] at this;cases this
 have hdrop:Hid (∀ W o' d' es,Moved (fun _=>False) n pb db w o d W o' d' (mput L out (edgeFile es false))->Calls Tryz.prog 227 #[ptrTo jb,v] W (DropAllPost n pb db W o' d' (mput L out (edgeFile es false)) (rs.map (·.1)))):=Lib.hid (fun W o' d' es hm=>by
  refine jobDrop_any hm.pool (hj.moved hm hoj hob (fun h=>h) (fun h=>h)) (hm.free hj.lt.1 hoj) (hv.kept (fun b hb=>hm.block (hv.lt b hb) (hvo b hb) (fun h=>h))) (fun b hb=>hm.free (hv.lt b hb) (hvo b hb)) (fun x hx=>?_) hnd (by rw [List.length_map];omega);rw [mget_mput,if_neg (hnsout x hx)];obtain ⟨p,hp,rfl⟩:=List.mem_map.1 hx;exact ⟨_,_,hL p hp⟩)
 have hcmp:Hid (∀ W,JobAt W jb pb byb made by'->∀ x y:Edg,Calls Tryz.prog 224 #[ptrTo jb, .agg #[.int .u32 (x.t.toNat:Int), .int .u32 (x.h.toNat:Int), .int .u64 (x.x.toNat:Int), .int .u32 (x.m.toNat:Int)], .agg #[.int .u32 (y.t.toNat:Int), .int .u32 (y.h.toNat:Int), .int .u64 (y.x.toNat:Int), .int .u32 (y.m.toNat:Int)]] W
  fun e w'=>e=.returned (.int .i64 (cmpE by' x y))/\Grew W w'):=Lib.hid (fun W hW x y=>compare_any hW x y)
 have hcell:Hid (∀ W o' d' L',Moved (fun _=>False) n pb db w o d W o' d' L'->∀ k p,rs[k]? = some p->∀ g off len cap,v=.slice (some ⟨g,off,none⟩) len cap->W.cell? ⟨g,off+k,none⟩=some (.string p.1)):=Lib.hid (fun W o' d' L' hm k p hp g off len cap e=>by
  subst e;have hkr:=lt_of_get hp;have h1:=(hv.kept (fun b hb=>hm.block (hv.lt b hb) (hvo b hb) (fun h=>h))).cells.2.2.2 k (by rw [List.length_map];exact hkr);rw [List.getElem_map] at h1;rw [List.getElem?_eq_getElem hkr] at hp;rw [h1,Option.some.inj hp])
 have H:=Lib.hid h;have HJ:=Lib.hid hj;have HL:=Lib.hid hL;have HEACH:=Lib.hid heach;have HNO:=Lib.hid hno;have HNS:=Lib.hid hnsout;have HALL:Hid ((allOf rs).length=lens rs):=Lib.hid (allOf_length rs);have HOJ:=Lib.hid hoj;have HOB:=Lib.hid hob;obtain ⟨g,off,cap,rfl⟩:=hv.shape;obtain ⟨-,hl2,hl3,-⟩:=hv.cells;unfold maxLen at hl3;clear h hj hoj hob hv hvo hL hnd heach hok hno hnsout;rw [List.length_map] at *;generalize hN:rs.length=N at *;have HN:=Lib.hid hN;clear hN;generalize hM:lens rs=M at *;clear hM;unfold ptrTo at *;go_enter Tryz.func179,Tryz.ntmps179
 go_wp2;go_loopw [22,7] (fun i v wr=>∃ k:Nat,k<=N/\i=.int .i64 (k:Int)/\OpenHead n pb db by' w o d L out rs k v wr) (fun i _ _=>N - (intOf i).toNat)
 case atStart=>exact ⟨0,Nat.zero_le _,rfl,d,o,[],Moved.refl _ H.out,SrcsIn.nil,SRow.ofNil,rfl,(fun s hs=>nomatch hs),(fun s hs=>nomatch hs),Nat.le_refl _⟩
 case round=>
  generalize u7=v at *;obtain ⟨k,hk,rfl,d1,o1,l,hm1,hl1,hr1,hall1,heach1,hok1,hlk⟩:=hrel;have HM1:=Lib.hid hm1;have HL1:=Lib.hid hl1;have HR1:=Lib.hid hr1;have HALL1:=Lib.hid hall1;have HEACH1:=Lib.hid heach1;have HOK1:=Lib.hid hok1;have hs1:w.heap.size<=wr.heap.size:=hm1.size;have HVL:Hid (∀ x,v.ownBlock=some x->x < wr.heap.size):=Lib.hid (fun x hx=>(ownBlock_old hr1 x hx).1);clear hm1 hl1 hr1 hall1 heach1 hok1;by_cases hlt:k < N
  ·obtain ⟨nm,es,hp⟩:∃ nm es,rs[k]? = some (nm,es):=by
    have hkr:k < rs.length:=by rw [HN.out];exact hlt
    exact ⟨rs[k].1,rs[k].2,List.getElem?_eq_getElem hkr⟩
   have hmem:(nm,es)∈rs:=List.mem_of_getElem? hp;have hc:=hcell.out wr o1 d1 L HM1.out k (nm,es) hp g off N cap rfl;have hcall:=Lib.hid (hopen.out wr o1 d1 nm es HM1.out hmem);have HF:Hid (mget L nm=some (edgeFile es false)):=Lib.hid (HL.out _ hmem);have HNM:Hid (nm≠out):=Lib.hid (HNS.out nm (List.mem_map.2 ⟨_,hmem,rfl⟩));have HBEST:Hid (es.Pairwise (Ahead by')):=Lib.hid (rise_ahead (HEACH.out _ hmem));have HSNOC:Hid (allOf (rs.take (k+1))=allOf (rs.take k)++es):=Lib.hid (allOf_snoc hp);clear hp hmem;dsimp only at hc;go_wp2_with fail
   refine hcall.out.mono ?_;rintro e w2 ⟨v2,c2,d2,o2,rfl,hm2,he2,hok2⟩;have HM2:=Lib.hid (HM1.out.trans hm2 (fun _ _ h=>h));have HMS:=Lib.hid hm2;have HE2:=Lib.hid he2;clear hm2 he2 hc hcall;by_cases hc2:c2=0
   ·subst hc2;obtain ⟨cb,sb,rfl,hs2,hst2,hoc2,hos2,hcb2,hsb2⟩:=hok2 rfl;have HS2:=Lib.hid hs2;have HST2:=Lib.hid hst2;have HOC2:=Lib.hid hoc2;have HOS2:=Lib.hid hos2;have hz2:wr.heap.size<=w2.heap.size:=HMS.out.size;clear hs2 hst2 hoc2 hos2 hok2;unfold ptrTo at *;by_cases hes:0 < es.length
    ·have hx:es[0]? = some es[0]:=List.getElem?_eq_getElem hes;have hcall:=Lib.hid (hnext.out w2 o2 d2 L cb sb nm es edg0 0 false es[0] HM2.out.pool HST2.out HOS2.out HS2.out HOC2.out HF.out hx);have HX:=Lib.hid hx;clear hx;generalize es[0]=x at *;go_wp2_with fail
     refine hcall.out.mono ?_;rintro e w3 ⟨c3,d3,o3,rfl,hm3,he3,hs3⟩;have HM3:=Lib.hid (HM2.out.trans hm3 (fun x hx e=>by omega));have HMT:=Lib.hid hm3;have HE3:=Lib.hid he3;have hz3:w2.heap.size<=w3.heap.size:=hm3.size;clear hm3 he3 hcall;by_cases hc3:c3=0
     ·subst hc3;have HS3:=Lib.hid (hs3 rfl);have HR3:Hid (w3.ownsRow w.heap.size 206 1 v (l.map Src.cb).length ((l.map Src.cb).map ptrTo)):=Lib.hid (by
       have hfree:∀ b,v.ownBlock=some b->o1 b=none:=fun b hb=>(HL1.out.row b hb).1;have h2:=HMS.out.ownsRow HR1.out (fun b hb=>⟨hfree b hb,fun h=>h⟩);exact HMT.out.ownsRow h2 (fun b hb=>⟨HMS.out.free (HVL.out b hb) (hfree b hb),fun e=>by have:=HVL.out b hb;omega⟩))
      clear hs3;go_wp2_with (at_builtin;refine wpList_append_src rfl _ _ rfl w.heap.size _ _ rfl HR3.out cb 1 rfl (by omega) (by omega) ?_)
      intro v4 w4 hr4 ha4;have HMV:=Lib.hid (ha4.moved HM3.out (fun x hx=>⟨HMT.out.free (Nat.lt_of_lt_of_le (HVL.out x hx) hz2) (HMS.out.free (HVL.out x hx) (HL1.out.row x hx).1),(HL1.out.row x hx).2.1⟩));have HL4:=Lib.hid (HL1.out.opened HVL.out HMS.out HMT.out hs1 hcb2 hsb2 HS2.out HST2.out HOC2.out HOS2.out HS3.out HX.out HF.out HNM.out ha4);have HR4:=Lib.hid hr4;clear hr4 ha4;go_wp2;go_roundw
      case rel=>exact ⟨k+1,by omega,by go_num,d3,o3,_,HMV.out.1,HL4.out,(by simpa using HR4.out),(by rw [leftAll_append,leftAll_one,HALL1.out,HSNOC.out];rfl),(fun s hs=>(List.mem_append.1 hs).elim (HEACH1.out s) (fun hs=>by rw [List.mem_singleton.1 hs];exact HBEST.out)),(fun s hs=>(List.mem_append.1 hs).elim (HOK1.out s) (fun hs=>by rw [List.mem_singleton.1 hs];exact ⟨Nat.le_refl _,hes⟩)),(by simp only [List.length_append,List.length_map,List.length_singleton] at *;omega)⟩
      case measure=>simp [intOf];omega
     ·have hc3':¬ (c3:Int)=0:=by omega
      have HE:Hid (ErrN d d3 (need L+4*M) c3):=Lib.hid (((HE3.out.resolve_left hc3).num (Nat.le_add_right _ _)).later HM2.out.on.quota);clear hc3 hs3;go_wp2;go_ret;exact ⟨c3,d3,o3,L,rfl,HM3.out,(fun _ _ _=>rfl), .inr HE.out⟩
    ·have hes0:es=[]:=List.eq_nil_of_length_eq_zero (by omega);subst hes0;have hcall:=Lib.hid (sourceNext_end HS2.out (Nat.le_refl _));unfold ptrTo at hcall;go_wp2_with fail
     refine hcall.out.mono ?_;rintro e w3 ⟨rfl,q,rfl⟩;have HB:Hid (Below w2.heap.size w2 (w2.drewN q)):=Lib.hid (below_drewN (Below.refl _ _) _);have HR3:Hid (w2.ownsRow w.heap.size 206 1 v (l.map Src.cb).length ((l.map Src.cb).map ptrTo)):=Lib.hid (HMS.out.ownsRow HR1.out (fun b hb=>⟨(HL1.out.row b hb).1,fun h=>h⟩));have HL3:=Lib.hid ((HL1.out.moved HMS.out HVL.out (fun _ _=>⟨fun h=>h,fun h=>h⟩) (fun _ _=>rfl)).below HB.out);have HR4:Hid ((w2.drewN q).ownsRow w.heap.size 206 1 v (l.map Src.cb).length ((l.map Src.cb).map ptrTo)):=Lib.hid (ownsRow_heap HR3.out (fun x hx=>HB.out.block x (Nat.lt_of_lt_of_le (HVL.out x hx) hz2)));have HM3:=Lib.hid (HM2.out.drewN q);generalize w2.drewN q=w3 at *;go_wp2;go_roundw
     case rel=>exact ⟨k+1,by omega,by go_num,d2,o2,l,HM3.out,HL3.out,HR4.out,(by rw [HALL1.out,HSNOC.out,List.append_nil]),HEACH1.out,HOK1.out,by omega⟩
     case measure=>simp [intOf];omega
   ·have hc2':¬ (c2:Int)=0:=by omega
    have HE:Hid (ErrN d d2 (need L+4*M) c2):=Lib.hid (((HE2.out.resolve_left hc2).num (Nat.le_add_right _ _)).later HM1.out.on.quota);clear hc2 hok2;go_wp2;go_ret;exact ⟨c2,d2,o2,L,rfl,HM2.out,(fun _ _ _=>rfl), .inr HE.out⟩
  ·obtain rfl:k=N:=by omega
   have HT0:Hid (Taken by' (allOf rs) [] l):=Lib.hid ⟨by rw [List.nil_append,HALL1.out,List.take_of_length_le (by rw [HN.out];exact Nat.le_refl _)],List.Pairwise.nil,(fun x hx=>nomatch hx),HEACH1.out,HOK1.out⟩;have hcall:=Lib.hid (hcreate.out wr o1 d1 HM1.out);unfold ptrTo at hcall;go_wp2_with fail
   refine hcall.out.mono ?_;rintro e w2 ⟨v2,c2,d2,o2,rfl,hm2,he2,hok2⟩;have HE2:=Lib.hid he2;by_cases hc2:c2=0
   ·subst hc2;obtain ⟨kb,ksb,rfl,hk2,hst2,hok2',hos2,hne2,hkb,hsb⟩:=hok2 rfl;simp only [if_true] at hm2;have HM2:=Lib.hid (HM1.out.trans hm2 (fun _ _ h=>h));have HL2:Hid (SrcsIn w2 pb o2 (mput L out (edgeFile [] false)) w.heap.size out v l):=Lib.hid (HL1.out.moved hm2 HVL.out (fun _ _=>⟨fun h=>h,fun h=>h⟩) (fun x hx=>by rw [mget_mput,if_neg hx]));have HR2:Hid (SRow w2 v (l.map Src.cb)):=Lib.hid (SRow.ofOwn (hm2.ownsRow HR1.out (fun b hb=>⟨(HL1.out.row b hb).1,fun h=>h⟩)));have HK2:=Lib.hid hk2;have HST2:=Lib.hid hst2;have HOK2:=Lib.hid hok2';have HOS2:=Lib.hid hos2;have HNE2:=Lib.hid hne2;have HVK:Hid (∀ x,v.ownBlock=some x->x≠kb/\x≠ksb):=Lib.hid (fun x hx=>by have:=HVL.out x hx;omega);have hkw:w.heap.size<=kb:=by omega
    clear hok2 hm2 hk2 hst2 hok2' hos2 hne2 he2 hcall;unfold ptrTo;have HN60:Hid ((allOf rs).length<=60000):=Lib.hid (by rw [HALL.out];exact hall);clear HL1 HR1 HALL1 HEACH1 HOK1 HVL HM1 hlk;go_wp2;go_loopg [7] (allOf rs).length (fun left v wr=>MergeHead n pb db kb ksb by' w o d L out (allOf rs) left v wr)
    case atStart=>exact ⟨d2,o2,l,[],HM2.out,HL2.out,HR2.out,HT0.out,HK2.out,HST2.out,HOK2.out,HOS2.out,HVK.out,by have:=HT0.out.len;simpa using this.symm⟩
    case round=>
     clear HM2 HL2 HR2 HT0 HK2 HST2 HOK2 HOS2 HVK;generalize u7=v at *;generalize wr=wo at *;obtain ⟨d3,o3,l3,taken,hm3,hl3,hr3,ht3,hk3,hst3,hok3,hos3,hvk3,hgk⟩:=hrel;have HM3:=Lib.hid hm3;have HJ3:Hid (JobAt wo jb pb byb made by'):=Lib.hid (HJ.out.moved hm3 HOJ.out HOB.out (fun h=>h) (fun h=>h));by_cases hz:l3=[]
     ·subst hz;have hv0:∃ a cap,v=.slice a 0 cap:=by
       rcases hr3 with ⟨rfl,_⟩ | ⟨g',cap',rfl,_⟩
       ·exact ⟨_,_,rfl⟩
       ·exact ⟨_,_,rfl⟩
      have HD:=Lib.hid ht3.done;have hcall:=Lib.hid (hdrop.out wo o3 d3 (putL taken) hm3);clear hm3 hl3 hr3 ht3 hk3 hst3 hok3 hos3 hvk3 hgk;obtain ⟨a,cap',rfl⟩:=hv0;go_wp2_with fail
      refine hcall.out.mono ?_;rintro e w4 ⟨c4,d4,o4,L4,rfl,hm4,hc4⟩;have HM4:=Lib.hid (HM3.out.trans hm4 (fun _ _ h=>h));have HC4:=Lib.hid hc4;clear hm4 hc4 hcall;go_wp2;go_ret;refine ⟨c4,d4,o4,L4,rfl,HM4.out,fun x hx hns=>?_,?_⟩
      ·rcases HC4.out with ⟨_,e⟩ | ⟨_,_,e⟩
       ·rw [e,mget_dels,if_neg hns,mget_mput,if_neg hx]
       ·rw [e x hns,mget_mput,if_neg hx]
      ·rcases HC4.out with ⟨h1,e⟩ | ⟨h1,h2,_⟩
       ·exact .inl ⟨h1,by rw [e,HD.out]⟩
       ·exact .inr (.inr ⟨h1,h2⟩)
     ·have hpos:0 < l3.length:=List.length_pos_iff.2 hz;obtain ⟨g3,cap3,rfl,hcap1,hcap2,hpr,hg3⟩:∃ g3 cap3,v=.slice (some ⟨g3,0,none⟩) l3.length cap3/\l3.length<=cap3/\cap3<=maxLen/\PtrRow wo g3 (l3.map Src.cb)/\g3 < wo.heap.size:=by
       rcases hr3 with ⟨rfl,h⟩ | ⟨g,cap,rfl,h1,h2,h3,h4⟩
       ·exact absurd (List.map_eq_nil_iff.1 h) hz
       ·rw [List.length_map] at *;exact ⟨g,cap,rfl,h1,h2,h3,h4⟩
      have HCELLS:Hid (∀ W,Grew wo W->∀ (k:Nat) (s:Src),l3[k]? = some s->W.cell? ⟨g3,k,none⟩=some (ptrTo s.cb)/\W.cell? ⟨s.cb,3,none⟩=some (.int .u32 (s.cur.t.toNat:Int))/\W.cell? ⟨s.cb,4,none⟩=some (.int .u32 (s.cur.h.toNat:Int))/\W.cell? ⟨s.cb,5,none⟩=some (.int .u64 (s.cur.x.toNat:Int))/\W.cell? ⟨s.cb,6,none⟩=some (.int .u32 (s.cur.m.toNat:Int))):=Lib.hid (fun W hW k s hk=>by
       obtain ⟨h1,h2,h3,h4,h5⟩:=hl3.cells hpr hk;exact ⟨hW.cell h1,hW.cell h2,hW.cell h3,hW.cell h4,hW.cell h5⟩)
      have HL3:=Lib.hid hl3;have HT3:=Lib.hid ht3;have HK3:=Lib.hid hk3;have HST3:=Lib.hid hst3;have HOK3:=Lib.hid hok3;have HOS3:=Lib.hid hos3;have HVK3:=Lib.hid hvk3;have HGK:=Lib.hid hgk;have HPR:=Lib.hid hpr;clear hm3 hl3 hr3 ht3 hk3 hst3 hok3 hos3 hvk3 hgk hpr hz;unfold maxLen at hcap2;have HGET:Hid (∀ k,k < l3.length->∃ s,l3[k]? = some s):=Lib.hid (fun k hk=>⟨l3[k],List.getElem?_eq_getElem hk⟩);have HLT:Hid (∀ k s,l3[k]? = some s->k < l3.length):=Lib.hid (fun k s hk=>lt_of_get hk);generalize hZ:l3.length=Z at *;have HZ:=Lib.hid hZ;clear hZ;have hpos':(0:Int) < (Z:Int):=by omega
      go_wp2;go_loopw [15,63] (fun kv iv W=>∃ k i:Nat,k < Z/\i<=Z/\kv=.int .i64 (k:Int)/\iv=.int .i64 (i:Int)/\Grew wo W/\∀ (s t:Src) (j:Nat),j < i->l3[k]? = some s->l3[j]? = some t->Ahead by' s.cur t.cur) (fun _ iv _=>Z - (intOf iv).toNat)
      case atStart=>exact ⟨0,0,hpos,Nat.zero_le _,rfl,rfl,Grew.refl _,fun _ _ j hj=>absurd hj (Nat.not_lt_zero _)⟩
      case round=>
       generalize wr=W at *;obtain ⟨k,i,hk,hi,rfl,rfl,hgr,hmin⟩:=hrel;have HG:=Lib.hid hgr;have HMIN:=Lib.hid hmin;clear hgr hmin;by_cases hlt:i < Z
       ·obtain ⟨x,hx⟩:=HGET.out i hlt;obtain ⟨y,hy⟩:=HGET.out k hk;have HCX:Hid (∀ W',Grew W W'->W'.cell? ⟨g3,i,none⟩=some (ptrTo x.cb)/\W'.cell? ⟨x.cb,3,none⟩=some (.int .u32 (x.cur.t.toNat:Int))/\W'.cell? ⟨x.cb,4,none⟩=some (.int .u32 (x.cur.h.toNat:Int))/\W'.cell? ⟨x.cb,5,none⟩=some (.int .u64 (x.cur.x.toNat:Int))/\W'.cell? ⟨x.cb,6,none⟩=some (.int .u32 (x.cur.m.toNat:Int))):=Lib.hid (fun W' hW=>HCELLS.out W' (HG.out.trans hW) i x hx);have HCY:Hid (∀ W',Grew W W'->W'.cell? ⟨g3,k,none⟩=some (ptrTo y.cb)/\W'.cell? ⟨y.cb,3,none⟩=some (.int .u32 (y.cur.t.toNat:Int))/\W'.cell? ⟨y.cb,4,none⟩=some (.int .u32 (y.cur.h.toNat:Int))/\W'.cell? ⟨y.cb,5,none⟩=some (.int .u64 (y.cur.x.toNat:Int))/\W'.cell? ⟨y.cb,6,none⟩=some (.int .u32 (y.cur.m.toNat:Int))):=Lib.hid (fun W' hW=>HCELLS.out W' (HG.out.trans hW) k y hy);have hcall:=Lib.hid (fun W' (hW:Grew W W')=>hcmp.out W' (HJ3.out.below (HG.out.trans hW).below) x.cur y.cur);have HLESS:Hid (cmpE by' x.cur y.cur < 0->∀ (s t:Src) (j:Nat),j < i+1->l3[i]? = some s->l3[j]? = some t->Ahead by' s.cur t.cur):=Lib.hid (fun hc s t j hj hs ht=>by
         rw [hx] at hs;obtain rfl:=Option.some.inj hs;rcases Nat.lt_or_ge j i with hji | hji
         ·have h1:=HMIN.out y t j hji hy ht;rw [cmpE_neg] at hc;exact Ahead.trans (by unfold Ahead;omega) h1
         ·obtain rfl:j=i:=by omega
          rw [hx] at ht;obtain rfl:=Option.some.inj ht;exact Ahead.refl _ _)
        have HMORE:Hid (¬ cmpE by' x.cur y.cur < 0->∀ (s t:Src) (j:Nat),j < i+1->l3[k]? = some s->l3[j]? = some t->Ahead by' s.cur t.cur):=Lib.hid (fun hc s t j hj hs ht=>by
         rcases Nat.lt_or_ge j i with hji | hji
         ·exact HMIN.out s t j hji hs ht
         ·obtain rfl:j=i:=by omega
          rw [hx] at ht;obtain rfl:=Option.some.inj ht;rw [hy] at hs;obtain rfl:=Option.some.inj hs;exact (cmpE_ahead _ _ _).1 hc)
        clear hx hy;unfold ptrTo at *;generalize cmpE by' x.cur y.cur=R at *
        generalize x.cur.t.toNat=xt at *;generalize x.cur.h.toNat=xh at *;generalize x.cur.x.toNat=xx at *;generalize x.cur.m.toNat=xm at *;generalize y.cur.t.toNat=yt at *;generalize y.cur.h.toNat=yh at *;generalize y.cur.x.toNat=yx at *;generalize y.cur.m.toNat=ym at *;generalize x.cb=xb at *;generalize y.cb=yb at *;by_cases hR:R < 0
        case' pos=>have hRd:decide (R < 0)=true:=decide_eq_true hR
        case' neg=>have hRd:decide (R < 0)=false:=decide_eq_false hR
        all_goals
         go_wp2;refine wp_region_quiet_in (Grew W) (by kernel_rfl) (by kernel_rfl) (Grew.refl W).drew ?_;iterate 4 (refine qo (fun K hK=>?_);go_simp;refine hK _ ?_;clear hK K)
         refine qo (fun K hK=>?_) (fun w' hw'=>by have hc:=(HCX.out w' hw').1;go_simp<;>rfl);go_simp;refine hK _ ?_;clear hK K;iterate 2 (refine qo (fun K hK=>?_);go_simp;refine hK _ ?_;clear hK K)
         refine qo (fun K hK=>?_) (fun w' hw'=>by obtain ⟨-,e0,e1,e2,e3⟩:=HCX.out w' hw';go_simp<;>rfl);go_simp;refine hK _ ?_;clear hK K;iterate 3 (refine qo (fun K hK=>?_);go_simp;refine hK _ ?_;clear hK K)
         refine qo (fun K hK=>?_) (fun w' hw'=>by have hc:=(HCY.out w' hw').1;go_simp<;>rfl);go_simp;refine hK _ ?_;clear hK K;iterate 2 (refine qo (fun K hK=>?_);go_simp;refine hK _ ?_;clear hK K)
         refine qo (fun K hK=>?_) (fun w' hw'=>by obtain ⟨-,e0,e1,e2,e3⟩:=HCY.out w' hw';go_simp<;>rfl);go_simp;refine hK _ ?_;clear hK K;refine qc (fun w' hw'=>(hcall.out w' hw').mono (fun e w'' h=>⟨h.1,hw'.trans h.2⟩)) (fun K hK=>?_);go_simp;refine hK _ ?_;clear hK K;refine qo (fun K hK=>?_);go_simp;refine hK _ ?_;clear hK K;refine wpQuiet_nil ?_;intro W1 hW1;have HG1:=Lib.hid (HG.out.trans hW1);clear hW1 hcall HCX HCY;go_wp2;go_roundw
         case measure=>simp [intOf];omega
        ·exact ⟨k,i+1,hk,by omega,rfl,by go_num,HG1.out,HMORE.out (by omega)⟩
        ·exact ⟨i,i+1,hlt,by omega,rfl,by go_num,HG1.out,HLESS.out (by omega)⟩
       ·obtain rfl:Z=i:=by omega
        obtain ⟨y,hy⟩:=HGET.out k hk;obtain ⟨e0,e3,e4,e5,e6⟩:=HCELLS.out W HG.out k y hy;have HPL:Hid ((putL taken).length<=taken.length):=Lib.hid (putL_length _);have HLEN:Hid (taken.length+(leftAll l3).length=(allOf rs).length):=Lib.hid HT3.out.len;have HY:=Lib.hid hy;have hm4:Moved (fun _=>False) n pb db w o d W o3 d3 (mput L out (edgeFile (putL taken) false)):=HM3.out.below HG.out.below;have HM4:=Lib.hid hm4;have hk4:SinkOf W kb ksb (putL taken):=HK3.out.below HG.out.below;have HK4:=Lib.hid hk4;have hst4:StreamAt W ksb pb out 20:=HST3.out.below HG.out.below;have HST4:=Lib.hid hst4;have hl4:=HL3.out.below HG.out.below;have HL4:=Lib.hid hl4;have hcall:=Lib.hid (hput.out W o3 d3 kb ksb (putL taken) hm4.pool hst4 HOS3.out HOK3.out HNE2.out hk4 (by have:=HPL.out;have:=HLEN.out;have:=HN60.out;omega) y.cur);have HPUT:Hid (put1 (putL taken) y.cur=putL (taken++[y.cur])):=Lib.hid (putL_snoc _ _).symm;have hky:k < l3.length:=by rw [HZ.out];exact hk
        have HYE:Hid (l3[k]=y):=Lib.hid (by rw [List.getElem?_eq_getElem hky] at hy;exact Option.some.inj hy);have hsrc4:=hl4.each y (List.mem_of_getElem? hy);have HSRC4:=Lib.hid hsrc4;have HLEAST:Hid (∀ s∈l3,Ahead by' l3[k].cur s.cur):=Lib.hid (fun s hs=>by
         obtain ⟨j,hj,rfl⟩:=List.getElem_of_mem hs;exact HMIN.out _ _ j (by rw [<- HZ.out];exact hj) (List.getElem?_eq_getElem hky) (List.getElem?_eq_getElem hj))
        have HNK:Hid (∀ s∈l3,kb≠s.cb/\kb≠s.sb/\ksb≠s.cb):=Lib.hid (fun s hs=>⟨sink_not_source (hl4.each s hs).src hk4,sink_not_stream (hl4.each s hs).str hk4,source_not_stream (hl4.each s hs).src hst4⟩);have hyo:=HT3.out.ok y (List.mem_of_getElem? hy);have HYO:=Lib.hid hyo;have HYM:=Lib.hid (List.mem_of_getElem? hy);have hg4:g3 < W.heap.size:=Nat.lt_of_lt_of_le hg3 HG.out.below.size;have HPR4:Hid (PtrRow W g3 (l3.map Src.cb)):=Lib.hid (HPR.out.kept (HG.out.below.block _ hg3));clear hm4 hk4 hst4 hl4 hy hsrc4 hyo HCELLS HMIN;unfold ptrTo at *;generalize hyc:y.cur=yc at *;have HYC:=Lib.hid hyc;clear hyc;generalize hyb:y.cb=yb at *;have HYB:=Lib.hid hyb;clear hyb;go_wp2_with fail
        refine hcall.out.mono ?_;rintro e w5 ⟨c5,d5,o5,rfl,hm5,he5,hk5⟩;have HE5:=Lib.hid he5;by_cases hc5:c5=0
        ·subst hc5;simp only [if_true,mput_mput] at hm5;rw [HPUT.out] at hm5 hk5;have HK5:=Lib.hid (hk5 rfl);have HM5:=Lib.hid (HM4.out.trans hm5 (fun x hx e=>by omega));have hl5:SrcsIn w5 pb o5 (mput L out (edgeFile (putL (taken++[yc])) false)) w.heap.size out (.slice (some ⟨g3,0,none⟩) Z cap3) l3:=HL4.out.moved hm5 (fun x hx=>by cases hx;exact hg4) (fun s hs=>⟨fun e=>(HNK.out s hs).1 e.symm,fun e=>(HNK.out s hs).2.1 e.symm⟩) (fun x hx=>by rw [mget_mput,if_neg hx,mget_mput,if_neg hx]);have HL5:=Lib.hid hl5;have hrow:=HL4.out.row g3 rfl;have hbk:w5.heap[g3]? = W.heap[g3]? := hm5.block hg4 hrow.1 (HVK3.out g3 rfl).1;have HPR5:Hid (PtrRow w5 g3 (l3.map Src.cb)):=Lib.hid (HPR4.out.kept hbk);have HST5:Hid (StreamAt w5 ksb pb out 20):=Lib.hid (HST4.out.moved hm5 HOS3.out (fun e=>HNE2.out e.symm));have HOK5:Hid (o5 kb=none):=Lib.hid (hm5.free HK4.out.lt HOK3.out);have HOS5:Hid (o5 ksb=none):=Lib.hid (hm5.free HST4.out.lt HOS3.out);have hg5:g3 < w5.heap.size:=Nat.lt_of_lt_of_le hg4 hm5.size;have e0:w5.cell? ⟨g3,k,none⟩=some (.pointer (some ⟨yb,0,none⟩)):=by
          have:=HPR5.out.cell (k:=k) (by rw [List.length_map];exact hky);rw [List.getElem_map,HYE.out,HYB.out] at this;exact this
         have hsrc5:=hl5.each y HYM.out;have HSRC5:=Lib.hid hsrc5;clear hm5 hk5 he5 hl5 hrow hbk e3 e4 e5 e6 hcall;have HTL:Hid ((taken++[yc]).length<=(allOf rs).length):=Lib.hid (by
          rw [List.length_append,List.length_singleton,<- HLEN.out];have h1:=Src.left_eq HYO.out;have h2:y.left.length<=(leftAll l3).length:=by
           exact (List.sublist_flatten_of_mem (List.mem_map.2 ⟨y,HYM.out,rfl⟩)).length_le
          rw [h1,List.length_cons] at h2;omega)
         have HNEED:Hid (need (mput L out (edgeFile (putL (taken++[yc])) false))<=need L+4*M):=Lib.hid (by
          have h1:=need_out (es:=putL (taken++[yc])) HNO.out;have h2:=putL_length (taken++[yc]);have h3:=HTL.out;rw [HALL.out] at h3;omega)
         obtain ⟨fl,hfile⟩:=hsrc5.file;by_cases hmore:y.pos < y.es.length
         ·obtain ⟨x,hx⟩:∃ x,y.es[y.pos]? = some x:=⟨_,List.getElem?_eq_getElem hmore⟩;have hcall:=Lib.hid (hnext.out w5 o5 d5 _ y.cb y.sb y.name y.es y.cur y.pos fl x HM5.out.pool hsrc5.str hsrc5.os hsrc5.src hsrc5.oc hfile hx);have HX:=Lib.hid hx;clear hsrc5 hfile hx;rw [HYB.out] at hcall;have HMORE:=Lib.hid hmore;clear hmore;go_wp2_with fail
          refine hcall.out.mono ?_;rintro e w6 ⟨c6,d6,o6,rfl,hm6,he6,hs6⟩;have HE6:=Lib.hid he6;have HM6:Hid (Moved (fun _=>False) n pb db w o d w6 o6 d6 (mput L out (edgeFile (putL (taken++[yc])) false))):=Lib.hid (HM5.out.trans hm6 (fun x hx e=>by
           have:=HSRC5.out.bc;rw [HYB.out] at this;omega))
          by_cases hc6:c6=0
          ·subst hc6;have hs6':=hs6 rfl;have hstep:y.step.cur=x:=by
            unfold Src.cur Src.step;show (y.es[y.pos+1 - 1]?).getD edg0=x;rw [Nat.add_sub_cancel,HX.out];rfl
           rw [<- hstep,<- HYB.out] at hs6';have hm6':Moved (·=l3[k].cb) n pb db w5 o5 d5 w6 o6 d6 (mput L out (edgeFile (putL (taken++[yc])) false)):=by rw [HYE.out,HYB.out];exact hm6
           have HL6:=Lib.hid (HL5.out.step hky hm6' (fun x hx=>by cases hx;exact hg5) (by rw [HYE.out];exact hs6'));have hrow:=HL5.out.row g3 rfl;have hbk:w6.heap[g3]? = w5.heap[g3]? := hm6.block hg5 hrow.1 (fun e=>(hrow.2.2 y HYM.out).1 (e.trans HYB.out.symm));have hcbs:(l3.set k l3[k].step).map Src.cb=l3.map Src.cb:=by
            rw [List.map_set];apply List.ext_getElem?;intro j;rw [List.getElem?_set];split
            ·rename_i e
             subst e;rw [List.getElem?_eq_getElem (by rw [List.length_map];exact hky),if_pos (by rw [List.length_map];exact hky),List.getElem_map];rfl
            ·rfl
           have HR6:Hid (SRow w6 (.slice (some ⟨g3,0,none⟩) Z cap3) ((l3.set k l3[k].step).map Src.cb)):=Lib.hid (by
            rw [hcbs];exact .inr ⟨g3,cap3,by rw [List.length_map,HZ.out],by rw [List.length_map,HZ.out];exact hcap1,by unfold maxLen;exact hcap2,HPR5.out.kept hbk,Nat.lt_of_lt_of_le hg5 hm6.size⟩)
           have HT6:Hid (Taken by' (allOf rs) (taken++[yc]) (l3.set k l3[k].step)):=Lib.hid (by
            have:=HT3.out.step hky HLEAST.out (by rw [HYE.out];exact HMORE.out);rw [show l3[k].cur=yc by rw [HYE.out,HYC.out]] at this;exact this)
           have HK6:Hid (SinkOf w6 kb ksb (putL (taken++[yc]))):=Lib.hid (HK5.out.kept (hm6.block HK5.out.lt HOK5.out (fun e=>(HNK.out y HYM.out).1 (e.trans HYB.out.symm))));have HST6:Hid (StreamAt w6 ksb pb out 20):=Lib.hid (HST5.out.moved hm6 HOS5.out (fun e=>(HNK.out y HYM.out).2.2 (e.trans HYB.out.symm)));have HOK6:Hid (o6 kb=none):=Lib.hid (hm6.free HK5.out.lt HOK5.out);have HOS6:Hid (o6 ksb=none):=Lib.hid (hm6.free HST5.out.lt HOS5.out);have HLT6:Hid ((leftAll (l3.set k l3[k].step)).length < gk):=Lib.hid (by
            have h1:=HT6.out.len;have h2:=HLEN.out;have h3:=HGK.out;rw [List.length_append,List.length_singleton] at h1;omega)
           clear hm6 he6 hs6 hs6' hstep hm6' hrow hbk hcbs hcall e0;generalize hln:l3.set k l3[k].step=ln at *;have HLN:=Lib.hid hln;clear hln;go_wp2;go_roundg (leftAll ln).length
           case measure=>exact HLT6.out
           case rel=>exact ⟨d6,o6,ln,taken++[yc],HM6.out,HL6.out,HR6.out,HT6.out,HK6.out,HST6.out,HOK6.out,HOS6.out,HVK3.out,rfl⟩
          ·have hc6':¬ (c6:Int)=0:=by omega
           have HE:Hid (ErrN d d6 (need L+4*M) c6):=Lib.hid (((HE6.out.resolve_left hc6).num HNEED.out).later HM5.out.on.quota);clear hc6 hs6 hm6 he6 hcall;go_wp2;go_ret;exact ⟨c6,d6,o6,_,rfl,HM6.out,(fun x hx _=>by rw [mget_mput,if_neg hx]), .inr HE.out⟩
         ·have hge:y.es.length<=y.pos:=Nat.le_of_not_lt hmore;have hcall:=Lib.hid (sourceNext_end hsrc5.src hge);have HGE:=Lib.hid hge;clear hsrc5 hfile hge hmore;rw [HYB.out] at hcall;unfold ptrTo at hcall;go_wp2_with fail
          refine hcall.out.mono ?_;rintro e w6 ⟨rfl,q,rfl⟩;have HB6:Hid (Below w5.heap.size w5 (w5.drewN q)):=Lib.hid (below_drewN (Below.refl _ _) _);generalize w5.drewN q=w6 at *;have HPR6:Hid (PtrRow w6 g3 (l3.map Src.cb)):=Lib.hid (HPR5.out.kept (HB6.out.block _ hg5));have hg6:g3 < w6.heap.size:=Nat.lt_of_lt_of_le hg5 HB6.out.size;have hcd:=delSrc_any (cap:=cap3) HPR6.out (by rw [List.length_map,HZ.out];exact hcap1) (by unfold maxLen;exact hcap2) (k:=k) (by rw [List.length_map];exact hky);rw [List.length_map,HZ.out,show ((k+1:Nat):Int)=(k:Int)+1 by omega] at hcd;have hcall:=Lib.hid hcd;clear hcd e0;go_wp2_with fail
          refine hcall.out.mono ?_;rintro e w7 ⟨rfl,hpr7,ht7⟩;have HM7:Hid (Moved (fun _=>False) n pb db w o d w7 o5 d5 (mput L out (edgeFile (putL (taken++[yc])) false))):=Lib.hid ((HM5.out.below HB6.out).turned (b:=g3) (HL5.out.row g3 rfl).1 (.inr (HL5.out.row g3 rfl).2.1) ht7);have ht7':Turn (fun x=>(Value.slice (some ⟨g3,0,none⟩) Z cap3).ownBlock=some x) w6 w7:=ht7.mono (fun x _ e=>by rw [e];rfl);have HL7:=Lib.hid ((HL5.out.below HB6.out).gone (v':=.slice (some ⟨g3,0,none⟩) (Z - 1) cap3) k ht7' rfl);have hcbs:(l3.map Src.cb).eraseIdx k=(l3.eraseIdx k).map Src.cb:=by
           rw [List.eraseIdx_eq_take_drop_succ,List.eraseIdx_eq_take_drop_succ,List.map_append,List.map_take,List.map_drop]
          have hlen':(l3.eraseIdx k).length=Z - 1:=by rw [List.length_eraseIdx,if_pos hky,HZ.out]
          have HR7:Hid (SRow w7 (.slice (some ⟨g3,0,none⟩) (Z - 1) cap3) ((l3.eraseIdx k).map Src.cb)):=Lib.hid (by
           rw [hcbs] at hpr7;exact .inr ⟨g3,cap3,by rw [List.length_map,hlen'],by rw [List.length_map,hlen'];omega,by unfold maxLen;exact hcap2,hpr7,Nat.lt_of_lt_of_le hg6 ht7.size⟩)
          have HT7:Hid (Taken by' (allOf rs) (taken++[yc]) (l3.eraseIdx k)):=Lib.hid (by
           have:=HT3.out.gone hky HLEAST.out (by rw [HYE.out];exact HGE.out);rw [show l3[k].cur=yc by rw [HYE.out,HYC.out]] at this;exact this)
          have HK7:Hid (SinkOf w7 kb ksb (putL (taken++[yc]))):=Lib.hid ((HK5.out.below HB6.out).kept (ht7.block kb (Nat.lt_of_lt_of_le HK5.out.lt HB6.out.size) (fun e=>(HVK3.out g3 rfl).1 e.symm)));have HST7:Hid (StreamAt w7 ksb pb out 20):=Lib.hid ((HST5.out.below HB6.out).kept (ht7.block ksb (Nat.lt_of_lt_of_le HST5.out.lt HB6.out.size) (fun e=>(HVK3.out g3 rfl).2 e.symm)));have HLT7:Hid ((leftAll (l3.eraseIdx k)).length < gk):=Lib.hid (by
           have h1:=HT7.out.len;have h2:=HLEN.out;have h3:=HGK.out;rw [List.length_append,List.length_singleton] at h1;omega)
          clear hpr7 ht7 ht7' hcbs hlen' hcall;generalize hln:l3.eraseIdx k=ln at *;have HLN:=Lib.hid hln;clear hln;go_wp2;go_roundg (leftAll ln).length
          case measure=>exact HLT7.out
          case rel=>exact ⟨d5,o5,ln,taken++[yc],HM7.out,HL7.out,HR7.out,HT7.out,HK7.out,HST7.out,HOK5.out,HOS5.out,HVK3.out,rfl⟩
        ·have hc5':¬ (c5:Int)=0:=by omega
         rw [if_neg hc5] at hm5;have HM5:=Lib.hid (HM4.out.trans hm5 (fun x hx e=>by omega));have HE:Hid (ErrN d d5 (need L+4*M) c5):=Lib.hid (((HE5.out.resolve_left hc5).num (by
          have h1:=need_out (es:=putL taken) HNO.out;have h2:=HPL.out;have h3:=HLEN.out;rw [HALL.out] at h3;omega)).later HM4.out.on.quota)
         clear hc5 hm5 hk5 he5 hcall;go_wp2;go_ret;exact ⟨c5,d5,o5,_,rfl,HM5.out,(fun x hx _=>by rw [mget_mput,if_neg hx]), .inr HE.out⟩
   ·have hc2':¬ (c2:Int)=0:=by omega
    have HC2:=Lib.hid hc2;rw [if_neg hc2] at hm2;have HM2:=Lib.hid (HM1.out.trans hm2 (fun _ _ h=>h));clear hc2 hm2 hok2 he2 hcall;go_wp2;go_ret;exact ⟨c2,d2,o2,L,rfl,HM2.out,(fun _ _ _=>rfl), .inr (.inr (HE2.out.resolve_left HC2.out))⟩
end
end
section
open Go.RowKit Go.Maps Go.MapKept
section
variable {b:Bool} {es:List Edg} {rs:List Run} {L L':Logic} {name out:Name} {q:Nat}
noncomputable def merged (b:Bool) (rs:List Run) (q:Nat) (name:Name):List Run:=rs.drop q++[(name,bestOf b (allOf (rs.take q)))]
theorem merged_names:(merged b rs q name).map (·.1)=(rs.map (·.1)).drop q++[name]:=by
 unfold merged;rw [List.map_append,List.map_drop];rfl
theorem merged_length:(merged b rs q name).length=rs.length - q+1:=by
 unfold merged;rw [List.length_append,List.length_drop,List.length_singleton]
theorem lens_split (rs:List Run) (q:Nat):lens rs=lens (rs.take q)+lens (rs.drop q):=by
 rw [<- lens_append,List.take_append_drop]
theorem RunsOk.merge (h:RunsOk b es rs) (hn:name ∉ rs.map (·.1)):RunsOk b es (merged b rs q name) where
 each:=fun p hp=>by
  rcases List.mem_append.1 hp with hp | hp
  ·exact h.each p (List.mem_of_mem_drop hp)
  ·rw [List.mem_singleton.1 hp];exact bestOf_same _ _
 all:=by
  unfold merged;rw [allOf_append];have e1:allOf [(name,bestOf b (allOf (rs.take q)))]=bestOf b (allOf (rs.take q)):=by simp [allOf]
  rw [e1,bestOf_right,bestOf_swap,<- allOf_append,List.take_append_drop,h.all]
 len:=by
  have h1:=h.len;have h2:=lens_split rs q;have h3:=bestOf_length b (allOf (rs.take q));rw [allOf_length] at h3;unfold merged;rw [lens_append];have e1:lens [(name,bestOf b (allOf (rs.take q)))]=(bestOf b (allOf (rs.take q))).length:=by simp [lens]
  omega
 nodup:=by
  rw [merged_names,List.nodup_append];refine ⟨List.Nodup.sublist (List.drop_sublist _ _) h.nodup,by simp,fun x hx y hy e=>?_⟩;rw [List.mem_singleton.1 hy] at e;exact hn (e ▸ List.mem_of_mem_drop hx)
theorem merged_get (h:RunsOk b es rs) (hn:name ∉ rs.map (·.1)) (hL:∀ p∈rs,mget L p.1=none) (he:∀ x,mget L' x=mget (runsL rs L) x) (x:Name) :
 mget (((rs.take q).map (·.1)).foldl mdel (mput L' name (edgeFile (bestOf b (allOf (rs.take q))) false))) x=mget (runsL (merged b rs q name) L) x:=by
 have hnod:=h.nodup;have hsplit:rs.map (·.1)=(rs.take q).map (·.1)++(rs.drop q).map (·.1):=by rw [<- List.map_append,List.take_append_drop]
 rw [hsplit] at hnod hn;rw [List.nodup_append] at hnod;rw [List.mem_append,not_or] at hn;obtain ⟨n1,n2,n3⟩:=hnod;unfold merged;rw [mget_dels,mget_mput,runsL_snoc,mget_mput];by_cases hx:x=name
 ·rw [if_pos hx,if_neg (fun e=>hn.1 (hx ▸ e)),if_pos hx]
 ·rw [if_neg hx,if_neg hx];by_cases ht:x∈(rs.take q).map (·.1)
  ·rw [if_pos ht,runsL_other _ _ _ (fun e=>n3 x ht x e rfl)];obtain ⟨p,hp,rfl⟩:=List.mem_map.1 ht;exact (hL p (List.mem_of_mem_take hp)).symm
  ·rw [if_neg ht,he];by_cases hd:x∈(rs.drop q).map (·.1)
   ·obtain ⟨p,hp,rfl⟩:=List.mem_map.1 hd;rw [runsL_get _ _ h.nodup p (List.mem_of_mem_drop hp),runsL_get _ _ n2 p hp]
   ·rw [runsL_other _ _ _ (by rw [hsplit,List.mem_append,not_or];exact ⟨ht,hd⟩),runsL_other _ _ _ hd]
theorem runs_need (h:RunsOk b es rs) (hk:(L.map (·.1)).Nodup) (hk':(L'.map (·.1)).Nodup) (he:∀ x,mget L' x=mget (runsL rs L) x):need L'<=need L+4*es.length:=by
 rw [need_congr (runsL_keys rs L hk) hk' he];have h1:=runsL_need rs L;have h2:=h.len;omega
end
end
section
open Go.RowKit Go.Maps Go.MapKept
section
variable {w w':World} {pb db n cb kb sb jb byb made:Nat} {by':Bool} {name:Name} {o o':Owner} {d d':Dsk} {L L':Logic}
def SortHead (n pb db jb byb cb:Nat) (by':Bool) (w:World) (o:Owner) (d:Dsk) (L:Logic) (out:Name) (es:List Edg) (left:Nat) (v:Value) (wr:World):Prop:=
 ∃ (d':Dsk) (o':Owner) (L':Logic) (rs:List Run) (made:Nat),Moved (fun x=>x=cb\/x=jb) n pb db w o d wr o' d' L'/\JobAt wr jb pb byb made by'/\NameRow wr v (rs.map (·.1))/\(∀ b,v.ownBlock=some b->o' b=none/\w.heap.size<=b)/\RunsOk by' es rs /\
  (∀ x,mget L' x=mget (runsL rs L) x)/\((∃ x,rs=[(out,x)])\/(2<=rs.length/\∀ p∈rs,∃ k,k < made/\p.1=tName k))/\made+rs.length<=102/\left=rs.length
theorem runs_none {out:Name} {rs:List Run} (hno:mget L out=none) (hnt:∀ k,mget L (tName k)=none) (h:(∃ x,rs=[(out,x)])\/(2<=rs.length/\∀ p∈rs,∃ k,k < made/\p.1=tName k)):∀ p∈rs,mget L p.1=none:=by
 intro p hp;rcases h with ⟨x,rfl⟩ | ⟨_,h⟩
 ·rw [List.mem_singleton.1 hp];exact hno
 ·obtain ⟨k,_,e⟩:=h p hp;rw [e];exact hnt k
theorem runs_sort {out:Name} {rs:List Run} (hmd:made<=128) (h:(∃ x,rs=[(out,x)])\/(2<=rs.length/\∀ p∈rs,∃ k,k < made/\p.1=tName k)):∀ x∈rs.map (·.1),ofSort out x:=by
 intro y hy;obtain ⟨p,hp,rfl⟩:=List.mem_map.1 hy;rcases h with ⟨x,rfl⟩ | ⟨_,h⟩
 ·rw [List.mem_singleton.1 hp];exact .inl rfl
 ·obtain ⟨k,hk,e⟩:=h p hp;exact .inr ⟨k,by omega,e⟩
theorem SortHead.next {out nm:Name} {es:List Edg} {rs:List Run} {q left g mk:Nat} {w4 w5:World} {o4:Owner} {d4:Dsk} {L4:Logic} {vd v5:Value} {nsd:List Name} {ob:Obj}
 (hm:Moved (fun x=>x=cb\/x=jb) n pb db w o d w4 o4 d4 L4) (hj:JobAt w4 jb pb byb mk by') (h1:jb < w.heap.size) (h2:byb < w.heap.size) (hvd:vd.ownBlock=some g) (hg:o4 g=none/\w.heap.size<=g) (ha:AppendedName (w4.alloc ob) vd nsd nm v5 w5)
 (hns:nsd++[nm]=(merged by' rs q nm).map (·.1)) (hok:RunsOk by' es (merged by' rs q nm)) (hget:∀ x,mget L4 x=mget (runsL (merged by' rs q nm) L) x) (hsh:(∃ x,merged by' rs q nm=[(out,x)])\/(2<=(merged by' rs q nm).length/\∀ p∈merged by' rs q nm,∃ k,k < mk/\p.1=tName k))
 (hmk:mk+(merged by' rs q nm).length<=102) (hl:left=(merged by' rs q nm).length):SortHead n pb db jb byb cb by' w o d L out es left v5 w5:=by
 obtain ⟨hr,ht,hb⟩:=ha;have hs:w4.heap.size < (w4.alloc ob).heap.size:=by simp
 have hw:w.heap.size<=w4.heap.size:=hm.size;have ht':Turn (·=g) (w4.alloc ob) w5:=ht.mono (fun x _ e=>by rw [hvd] at e;exact (Option.some.inj e).symm);rw [hns] at hr;have hjk:∀ x,x < w.heap.size->w5.heap[x]? = w4.heap[x]? := fun x hx=>(ht'.block x (by omega) (fun e=>by omega)).trans ((MapKept.heap_alloc w4 ob).2 x (by omega));refine ⟨d4,o4,L4,merged by' rs q nm,mk,(hm.alloc ob).turned (b:=g) hg.1 (.inr hg.2) ht',hj.kept (hjk jb h1) (hjk byb h2),hr,fun b hb'=>?_,hok,hget,hsh,hmk,hl⟩;rcases hb with e | e
 ·rw [e,hvd] at hb';cases hb';exact hg
 ·rw [e] at hb';cases hb';exact ⟨hm.pool.fresh (Nat.le_of_lt hs),by omega⟩
set_option maxRecDepth 100000 in
set_option maxHeartbeats 32000000 in
theorem jobSort_any (HW:WriteSaid) {m:Nat} (HS:SortSaid m) (hm24:m<=2400):JobSortSaid m:=by
 intro w pb db n cb sb jb byb by' o d L h hn hj hoj hob hne es fl inn out x0 hL hsrc hst hoc hos hcj hcb hsj hsc hout hno hnt hto hm
 have hruns:=Lib.hid (jobRuns_any HW HS h hn hj hoj hob hne hL hsrc hst hoc hos hcj hcb hsj hsc hout hno hnt hto hm (by omega));have hframes:Hid (∀ W o' d' L',PoolAt W pb db n o' d' L'->Calls Tryz.prog 44 #[ptrTo pb] W fun e w'=>e=.returned (.int .i64 (n:Int))/\W=w'):=Lib.hid (fun W o' d' L' hW=>poolFrames_any hW);have hflush:Hid (∀ W o' d' L' x,PoolAt W pb db n o' d' L'->mget L' out=some (edgeFile x false)->Calls Tryz.prog 79 #[ptrTo pb, .string out] W (LaidPost (fun _=>False) n pb db W o' d' L' (mput L' out (edgeFile x true)))):=Lib.hid (fun W o' d' L' x hW hL'=>flush_pool HW hW hL');have hfresh:Hid (∀ W made,JobAt W jb pb byb made by'->made < 100->Calls Tryz.prog 178 #[ptrTo jb] W fun e w'=>e=.returned (.string (tName made))/\JobAt w' jb pb byb (made+1) by'/\Turn (·=jb) W w'):=Lib.hid (fun W made hW hm=>fresh_any hW hm hne);have hmerge:Hid (∀ W o' d' L' made rs q v nm,Moved (fun x=>x=cb\/x=jb) n pb db w o d W o' d' L'->JobAt W jb pb byb made by'->RunsOk by' es rs->(∀ x,mget L' x=mget (runsL rs L) x)->NameRow W v ((rs.take q).map (·.1))->(∀ b,v.ownBlock=some b->o' b=none)->rs.length<=1000->okName nm=true->mget L nm=none->nm ∉ rs.map (·.1) ->
  Calls Tryz.prog 179 #[ptrTo jb,v, .string nm] W (MergePost n pb db W o' d' L' nm ((rs.take q).map (·.1)) (bestOf by' (allOf (rs.take q))) (lens (rs.take q)))):=Lib.hid (fun W o' d' L' made rs q v nm hmv hjW hok he hv hvo hl hnm hno' hni=>by
  have hl1:=lens_split rs q;have hl2:=hok.len;refine jobMerge_any HW hmv.pool hjW (hmv.free hj.lt.1 hoj) (hmv.free hj.lt.2 hob) hv hvo (fun p hp=>?_) ?_ ?_ (fun p hp=>hok.each p (List.mem_of_mem_take hp)) (by omega) hnm ?_
  ·rw [he];exact runsL_get _ _ hok.nodup p (List.mem_of_mem_take hp)
  ·rw [List.map_take];exact List.Nodup.sublist (List.take_sublist _ _) hok.nodup
  ·rw [List.length_take];omega
  ·rw [he,runsL_other _ _ _ hni,hno'])
 have hn2:n<=4096:=by
  obtain ⟨fb,mb,l,hand,mf,hp,rfl,-⟩:=h;exact hp.most
 have HNO:=Lib.hid hno;have HNT:=Lib.hid hnt;have HTO:=Lib.hid hto;have HOUT:=Lib.hid hout;have HKEYS:=Lib.hid h.keys;have HOJ:=Lib.hid hoj;have HCJ:=Lib.hid hcj;have HOB:=Lib.hid hob;have hjl1:=hj.lt.1;have hjl2:=hj.lt.2;clear h hj hoj hob hne hL hsrc hst hoc hos hcj hcb hsj hsc hout hno hnt hto hm;unfold ptrTo at *;obtain ⟨ways,hways⟩:∃ ways:Nat,(ways:Int)=(n:Int) - 4:=⟨n - 4,by omega⟩;have hw1:IntKind.i64.wrap ((n:Int) - 4)=(ways:Int):=by rw [wrap_in (by omega) (by omega),hways]
 have hways4:4<=ways/\ways<=4092:=by omega
 obtain ⟨hways4,hways5⟩:=hways4;have HWAYS:=Lib.hid hways;clear hways;go_enter Tryz.func117,Tryz.ntmps117
 go_wp2_with fail
 refine hruns.out.mono ?_;rintro e w1 ⟨v1,c1,d1,o1,L1,rfl,hm1,hot1,hc1⟩;have HM1:=Lib.hid hm1;have HOT1:=Lib.hid hot1;rcases hc1 with ⟨rfl,rs,r,hL1,hok,hnm,hrr,hr51,hj1,hv1,hvf1⟩ | he1
 ·have HEAD:Hid (SortHead n pb db jb byb cb by' w o d L out es rs.length v1 w1):=Lib.hid ⟨d1,o1,L1,rs,r,hm1,hj1,hv1,hvf1,hok,(fun x=>by rw [hL1]),hnm.imp id (fun h=>⟨h.1,h.2.2⟩),by omega,rfl⟩;obtain ⟨hj0,-⟩:=hj1.cells;have hpool1:=Lib.hid (hframes.out w1 o1 d1 L1 hm1.pool);clear hL1 hok hnm hrr hr51 hj1 hv1 hvf1 hm1 hot1;unfold ptrTo at hj0;generalize rs.length=r0 at *;clear rs;go_wp2_with fail
  refine hpool1.out.mono ?_;rintro e w2 ⟨rfl,rfl⟩;go_wp2;go_loopg [7] r0 (fun left v wr=>SortHead n pb db jb byb cb by' w o d L out es left v wr)
  case atStart=>exact HEAD.out
  case round=>
   clear hj0 HEAD HM1 HOT1 hpool1;generalize u7=v at *;generalize wr=wo at *;obtain ⟨d2,o2,L2,rs,mk,hm2,hj2,hv2,hvf2,hok2,hget2,hnm2,hmk,hleft⟩:=hrel;have HM2:=Lib.hid hm2;have HJ2:=Lib.hid hj2;have HV2:=Lib.hid hv2;have HVF2:=Lib.hid hvf2;have HRO2:=Lib.hid hok2;have HGET2:=Lib.hid hget2;have HNM2:=Lib.hid hnm2;have HLEFT:=Lib.hid hleft;have HNE:Hid (need L2<=need L+4*es.length):=Lib.hid (runs_need hok2 HKEYS.out hm2.pool.keys hget2);have HOT2:Hid (∀ x,¬ ofSort out x->mget L2 x=mget L x):=Lib.hid (fun x hx=>by rw [hget2,runsL_other _ _ _ (fun e=>hx (runs_sort (by omega) hnm2 x e))]);obtain ⟨hj0,-⟩:=hj2.cells;unfold ptrTo at hj0;obtain ⟨g,off,cap,rfl⟩:=hv2.shape;obtain ⟨-,hl2,hl3,-⟩:=hv2.cells;unfold maxLen at hl3;have hsz:w.heap.size<=wo.heap.size:=hm2.size;clear hm2 hj2 hv2 hvf2 hok2 hget2 hleft;rw [List.length_map] at *;rcases hnm2 with ⟨x,rfl⟩ | ⟨hr2,hnames⟩
   ·have hx:x=bestOf by' es:=by
     have h1:=HRO2.out.each (out,x) (by simp);have h2:=HRO2.out.all;simp only [allOf,List.map_cons,List.map_nil,List.flatten_cons,List.flatten_nil,List.append_nil] at h2;rw [<- h2];exact h1.symm
    have HX:=Lib.hid hx;have hfl:=Lib.hid (hflush.out wo o2 d2 L2 x HM2.out.pool (by rw [HGET2.out];exact runsL_get _ _ HRO2.out.nodup (out,x) (by simp)));clear hx;simp only [List.map_cons,List.map_nil,List.length_cons,List.length_nil] at *;go_wp2_with fail
    refine hfl.out.mono ?_;rintro e w3 ⟨c3,d3,o3,rfl,hm3,he3⟩;have HM3:=Lib.hid (HM2.out.trans hm3 (fun _ _ h=>h.elim));have HE3:=Lib.hid he3;clear hm3 he3;go_wp2;go_ret;refine ⟨c3,d3,o3,_,rfl,HM3.out,fun y hy=>?_,?_⟩
    ·have h1:=HOT2.out y hy;split
     ·rw [mget_mput,if_neg (fun e=>hy (.inl e)),h1]
     ·exact h1
    ·rcases HE3.out with h | h
     ·subst h;refine .inl ⟨rfl,fun y=>?_⟩;rw [if_pos rfl,mget_mput,mget_mput,HX.out];by_cases e:y=out
      ·rw [if_pos e,if_pos e]
      ·rw [if_neg e,if_neg e,HGET2.out,runsL_other];simpa using e
     ·have h2:=HNE.out;exact .inr ((h.num (by omega)).later HM2.out.on.quota)
   ·have HNAMES:=Lib.hid hnames;have hlen100:rs.length<=1000:=by omega
    have HNL:=Lib.hid (runs_none HNO.out HNT.out HNM2.out);have HRS:=Lib.hid (runs_sort (by omega) HNM2.out);clear hnames;generalize hN:rs.length=N at *;have HN:=Lib.hid hN;clear hN;by_cases hfew:ways < N
    ·have hfresh1:=Lib.hid (hfresh.out wo mk HJ2.out (by omega));have HNI:Hid (tName mk ∉ rs.map (·.1)):=Lib.hid (fun hx=>by
      obtain ⟨p,hp,e⟩:=List.mem_map.1 hx;obtain ⟨k,hk,e'⟩:=HNAMES.out p hp;have:=tName_inj (e'.symm.trans e);omega)
     have hmin:min (ways:Int) (N:Int)=(ways:Int):=Int.min_eq_left (by omega);have hok':=Lib.hid (tName_ok (k:=mk) (by omega));unfold ptrTo at hfresh1;go_wp2_with fail
     refine hfresh1.out.mono ?_;rintro e w3 ⟨rfl,hj3,ht3⟩;have HM3:Hid (Moved (fun x=>x=cb\/x=jb) n pb db w o d w3 o2 d2 L2):=Lib.hid (HM2.out.turned (b:=jb) (HM2.out.free hjl1 HOJ.out) (.inl (.inr rfl)) ht3);have HV3:Hid (NameRow w3 (.slice (some ⟨g,off,none⟩) N cap) (rs.map (·.1))):=Lib.hid (HV2.out.turn ht3 (fun b hb e=>by have:=(HVF2.out b hb).2;omega));have HJ3:=Lib.hid hj3;have hmg:=Lib.hid (hmerge.out w3 o2 d2 L2 (mk+1) rs ways (.slice (some ⟨g,off,none⟩) ways cap) (tName mk) HM3.out hj3 HRO2.out HGET2.out (by rw [List.map_take];exact HV3.out.take (by rw [List.length_map,HN.out];omega)) (fun b hb=>(HVF2.out b hb).1) (by rw [HN.out];exact hlen100) hok'.out (HNT.out mk) HNI.out);clear hj3 ht3 hfresh1;unfold ptrTo at hmg;generalize hnm:tName mk=nm at *;have HNMM:=Lib.hid hnm;clear hnm;go_wp2_with fail
     refine hmg.out.mono ?_;rintro e w4 ⟨c4,d4,o4,L4,rfl,hm4,hot4,hc4⟩;have HM4:=Lib.hid (HM3.out.trans hm4 (fun _ _ h=>h.elim));have HNSO:Hid (∀ x,¬ ofSort out x->x≠nm/\x ∉ (rs.take ways).map (·.1)):=Lib.hid (fun x hx=>⟨fun e=>hx (.inr ⟨mk,by omega,e.trans HNMM.out.symm⟩),fun e=>by
      obtain ⟨p,hp,e'⟩:=List.mem_map.1 e;exact hx (HRS.out x (List.mem_map.2 ⟨p,List.mem_of_mem_take hp,e'⟩))⟩)
     by_cases hc4':c4=0
     ·subst hc4';have HOK4:=Lib.hid (HRO2.out.merge (q:=ways) HNI.out);have HGET4:Hid (∀ x,mget L4 x=mget (runsL (merged by' rs ways nm) L) x):=Lib.hid (by
       rcases hc4 with ⟨_,e⟩ | e
       ·rw [e];exact merged_get HRO2.out HNI.out HNL.out HGET2.out
       ·exact absurd rfl e.ne)
      have HV4:Hid (NameRow w4 (.slice (some ⟨g,off,none⟩) N cap) (rs.map (·.1))):=Lib.hid (HV3.out.kept (fun b hb=>hm4.block (HV3.out.lt b hb) (HVF2.out b hb).1 (fun h=>h)));have HG4:Hid (o4 g=none/\w.heap.size<=g):=Lib.hid ⟨hm4.free (HV3.out.lt g rfl) (HVF2.out g rfl).1,(HVF2.out g rfl).2⟩;have HJ4:Hid (JobAt w4 jb pb byb (mk+1) by'):=Lib.hid (HJ3.out.kept (hm4.block HJ3.out.lt.1 (HM3.out.free hjl1 HOJ.out) (fun h=>h)) (hm4.block HJ3.out.lt.2 (HM3.out.free hjl2 HOB.out) (fun h=>h)));have HVD:Hid (∀ ob,NameRow (w4.alloc ob) (.slice (some ⟨g,off+ways,none⟩) (N - ways) (cap - ways)) ((rs.map (·.1)).drop ways)):=Lib.hid (fun ob=>(HV4.out.drop (by rw [List.length_map,HN.out];omega)).below ((Below.refl _ _).alloc (Nat.le_refl _) ob));have HDL:Hid (((rs.map (·.1)).drop ways).length<=100000):=Lib.hid (by rw [List.length_drop,List.length_map,HN.out];omega);clear hm4 hot4 hc4 hmg;go_wp2_with (at_builtin;refine wpList_append_name rfl _ _ 91 rfl Tryz.underlying91 rfl (HVD.out _) nm ⟨w4.heap.size,0,none⟩ 1 rfl (by simp) HDL.out ?_)
      intro v5 w5 ha5;have HNX:Hid (SortHead n pb db jb byb cb by' w o d L out es (N - ways+1) v5 w5):=Lib.hid (by
       have hml:(merged by' rs ways nm).length=N - ways+1:=by rw [merged_length,HN.out]
       refine SortHead.next (q:=ways) HM4.out HJ4.out hjl1 hjl2 rfl HG4.out ha5 merged_names.symm HOK4.out HGET4.out (.inr ⟨by rw [hml];omega,fun p hp=>?_⟩) (by rw [hml];omega) hml.symm;rcases List.mem_append.1 hp with hp | hp
       ·obtain ⟨k,hk,e⟩:=HNAMES.out p (List.mem_of_mem_drop hp);exact ⟨k,by omega,e⟩
       ·rw [List.mem_singleton.1 hp];exact ⟨mk,Nat.lt_succ_self _,HNMM.out.symm⟩)
      clear ha5;go_wp2;go_roundg (N - ways+1)
      case measure=>have:=HLEFT.out;omega
      case rel=>exact HNX.out
     ·have hc4n:¬ (c4:Int)=0:=by omega
      have HE4:Hid (ErrN d d4 (need L+8*es.length) c4):=Lib.hid (((hc4.resolve_left (fun h=>hc4' h.1)).mono (by
       have h1:=HNE.out;have h2:=lens_split rs ways;have h3:=HRO2.out.len;omega)).later HM3.out.on.quota)
      have HOT4:Hid (∀ x,¬ ofSort out x->mget L4 x=mget L x):=Lib.hid (fun x hx=>by rw [hot4 x (HNSO.out x hx).1 (HNSO.out x hx).2,HOT2.out x hx]);clear hc4' hm4 hot4 hc4 hmg;go_wp2;go_ret;exact ⟨c4,d4,o4,L4,rfl,HM4.out,HOT4.out, .inr HE4.out⟩
    ·have HNI:Hid (out ∉ rs.map (·.1)):=Lib.hid (fun hx=>by
      obtain ⟨p,hp,e⟩:=List.mem_map.1 hx;obtain ⟨k,hk,e'⟩:=HNAMES.out p hp;exact HTO.out k (e.symm.trans e'))
     have hmin:min (ways:Int) (N:Int)=(N:Int):=Int.min_eq_right (by omega);have hmg:=Lib.hid (hmerge.out wo o2 d2 L2 mk rs N (.slice (some ⟨g,off,none⟩) N cap) out HM2.out HJ2.out HRO2.out HGET2.out (by rw [List.map_take];exact HV2.out.take (by rw [List.length_map,HN.out];exact Nat.le_refl _)) (fun b hb=>(HVF2.out b hb).1) (by rw [HN.out];exact hlen100) HOUT.out HNO.out HNI.out);unfold ptrTo at hmg;have hfew':¬ (ways:Int) < (N:Int):=by omega
     go_wp2_with fail
     refine hmg.out.mono ?_;rintro e w4 ⟨c4,d4,o4,L4,rfl,hm4,hot4,hc4⟩;have HM4:=Lib.hid (HM2.out.trans hm4 (fun _ _ h=>h.elim));have HNSO:Hid (∀ x,¬ ofSort out x->x≠out/\x ∉ (rs.take N).map (·.1)):=Lib.hid (fun x hx=>⟨fun e=>hx (.inl e),fun e=>by
      obtain ⟨p,hp,e'⟩:=List.mem_map.1 e;exact hx (HRS.out x (List.mem_map.2 ⟨p,List.mem_of_mem_take hp,e'⟩))⟩)
     by_cases hc4':c4=0
     ·subst hc4';have HOK4:=Lib.hid (HRO2.out.merge (q:=N) HNI.out);have HGET4:Hid (∀ x,mget L4 x=mget (runsL (merged by' rs N out) L) x):=Lib.hid (by
       rcases hc4 with ⟨_,e⟩ | e
       ·rw [e];exact merged_get HRO2.out HNI.out HNL.out HGET2.out
       ·exact absurd rfl e.ne)
      have HV4:Hid (NameRow w4 (.slice (some ⟨g,off,none⟩) N cap) (rs.map (·.1))):=Lib.hid (HV2.out.kept (fun b hb=>hm4.block (HV2.out.lt b hb) (HVF2.out b hb).1 (fun h=>h)));have HG4:Hid (o4 g=none/\w.heap.size<=g):=Lib.hid ⟨hm4.free (HV2.out.lt g rfl) (HVF2.out g rfl).1,(HVF2.out g rfl).2⟩;have HJ4:Hid (JobAt w4 jb pb byb mk by'):=Lib.hid (HJ2.out.kept (hm4.block HJ2.out.lt.1 (HM2.out.free hjl1 HOJ.out) (fun h=>h)) (hm4.block HJ2.out.lt.2 (HM2.out.free hjl2 HOB.out) (fun h=>h)));have hmg1:merged by' rs N out=[(out,bestOf by' (allOf (rs.take N)))]:=by
       unfold merged;rw [List.drop_of_length_le (by rw [HN.out];exact Nat.le_refl _),List.nil_append]
      have HNX:Hid (∀ vd v5 w5 ob,vd.ownBlock=some g->AppendedName (w4.alloc ob) vd [] out v5 w5->SortHead n pb db jb byb cb by' w o d L out es 1 v5 w5):=Lib.hid (fun vd v5 w5 ob hvd ha5=>by
       refine SortHead.next (q:=N) HM4.out HJ4.out hjl1 hjl2 hvd HG4.out ha5 (by rw [hmg1];rfl) HOK4.out HGET4.out (.inl ⟨_,hmg1⟩) (by rw [hmg1];simp only [List.length_singleton];omega) (by rw [hmg1];rfl))
      have HVD:Hid (∀ ob,(cap=N->NameRow (w4.alloc ob) (.slice (some ⟨g,off,none⟩) 0 0) [])/\(N < cap->NameRow (w4.alloc ob) (.slice (some ⟨g,off+N,none⟩) 0 (cap - N)) [])):=Lib.hid (fun ob=>⟨fun e=>(HV4.out.dropAll e.symm).below ((Below.refl _ _).alloc (Nat.le_refl _) ob),fun e=>by
       have:=HV4.out.drop (n:=N) (by rw [List.length_map,HN.out];exact Nat.le_refl _);rw [Nat.sub_self,List.drop_of_length_le (by rw [List.length_map,HN.out];exact Nat.le_refl _)] at this;exact this.below ((Below.refl _ _).alloc (Nat.le_refl _) ob)⟩)
      clear hm4 hot4 hc4 hmg hmg1;by_cases hcN:cap=N
      ·have HCN:=Lib.hid hcN;subst hcN;have HV0:Hid (∀ ob,NameRow (w4.alloc ob) (.slice (some ⟨g,off,none⟩) 0 0) []):=Lib.hid (fun ob=>(HVD.out ob).1 rfl);go_wp2_with (at_builtin;refine wpList_append_name rfl _ _ 91 rfl Tryz.underlying91 rfl (HV0.out _) out ⟨w4.heap.size,0,none⟩ 1 rfl (by simp) (by simp) ?_)
       intro v5 w5 ha5;have HNY:=Lib.hid (HNX.out _ v5 w5 _ rfl ha5);clear ha5;go_wp2;go_roundg 1
       case measure=>have:=HLEFT.out;omega
       case rel=>exact HNY.out
      ·have hcN':N < cap:=by omega
       go_wp2_with (at_builtin;refine wpList_append_name rfl _ _ 91 rfl Tryz.underlying91 rfl ((HVD.out _).2 hcN') out ⟨w4.heap.size,0,none⟩ 1 rfl (by simp) (by simp) ?_)
       intro v5 w5 ha5;have HNY:=Lib.hid (HNX.out _ v5 w5 _ rfl ha5);clear ha5;go_wp2;go_roundg 1
       case measure=>have:=HLEFT.out;omega
       case rel=>exact HNY.out
     ·have hc4n:¬ (c4:Int)=0:=by omega
      have HE4:Hid (ErrN d d4 (need L+8*es.length) c4):=Lib.hid (((hc4.resolve_left (fun h=>hc4' h.1)).mono (by
       have h1:=HNE.out;have h2:=lens_split rs N;have h3:=HRO2.out.len;omega)).later HM2.out.on.quota)
      have HOT4:Hid (∀ x,¬ ofSort out x->mget L4 x=mget L x):=Lib.hid (fun x hx=>by rw [hot4 x (HNSO.out x hx).1 (HNSO.out x hx).2,HOT2.out x hx]);clear hc4' hm4 hot4 hc4 hmg;go_wp2;go_ret;exact ⟨c4,d4,o4,L4,rfl,HM4.out,HOT4.out, .inr HE4.out⟩
 ·have hc1':¬ (c1:Int)=0:=by have:=he1.ne;omega
  have HE1:=Lib.hid he1;clear he1 hm1 hot1;go_wp2;go_ret;exact ⟨c1,d1,o1,L1,rfl,HM1.out,HOT1.out, .inr HE1.out⟩
end
end
section
open Go.RowKit Go.Maps Go.MapKept
def dotT:ByteArray:=⟨#[116,46]⟩
def ownName (x:Name):Bool:=Lib.hasPrefix x.data.toList dotT.data.toList
theorem ownName_t (k:Nat):ownName (tName k)=true:=by
 unfold ownName tName dotT Lib.hasPrefix;simp
section
variable {w w':World} {pb db n cb kb sb jb byb made:Nat} {by':Bool} {name:Name} {o o':Owner} {d d':Dsk} {L L':Logic}
theorem hasPre_any (s:ByteArray) (w:World):Calls Tryz.prog 114 #[.string s, .string ⟨#[116,46]⟩] w fun e w'=>e=.returned (.bool (ownName s))/\w=w':=
 (Any.strings_HasPrefix (P:=Tryz.prog) (ρ:=Tryz.hasPre_ren) { Tryz.hasPre with } s ⟨#[116,46]⟩ w).mono fun _ _ ⟨h1,h2⟩=>⟨h1,h2.symm⟩
theorem source_ne_stream {i N:Nat} {x:Edg} {sz:Nat} (h:SourceAt w cb sb i N x) (hs:StreamAt w sb pb name sz):sb≠cb:=by
 rintro rfl;obtain ⟨t,h1⟩:=h;obtain ⟨t',h2⟩:=hs;rw [h1] at h2;have:=Option.some.inj h2;injection this with a b;have:=congrArg Array.size a;simp at this
theorem jobAt_new (w:World) (pb:Nat) (x:Int) (b:Bool) (hx:x=(byNum b:Int)):JobAt ((w.alloc (.cells #[.int .i64 x] 3)).alloc (.cells #[.pointer (some ⟨pb,0,none⟩), .func (.func 115) #[] #[.pointer (some ⟨w.heap.size,0,none⟩)], .int .i64 0] 205)) (w.heap.size+1) pb w.heap.size 0 b:=by
 subst hx;refine ⟨⟨205,?_⟩,⟨3,?_⟩⟩
 ·have:=heap_alloc_new (w.alloc (.cells #[.int .i64 (byNum b:Int)] 3)) (.cells #[.pointer (some ⟨pb,0,none⟩), .func (.func 115) #[] #[.pointer (some ⟨w.heap.size,0,none⟩)], .int .i64 0] 205);rw [show (w.alloc (.cells #[.int .i64 (byNum b:Int)] 3)).heap.size=w.heap.size+1 by simp] at this;exact this
 ·rw [(MapKept.heap_alloc _ _).2 _ (by simp)];exact heap_alloc_new w _
set_option maxRecDepth 100000 in
set_option maxHeartbeats 8000000 in
theorem sort_done (HW:WriteSaid) {m:Nat} (HJS:JobSortSaid m) (h:PoolAt w pb db n o d L) (hn:8<=n) {es:List Edg} {fl:Bool} {inn out:Name} (hL:mget L inn=some (edgeFile es fl)) (hio:inn≠out) (hi:ownName inn=false) (ho:ownName out=false)
 (hout:okName out=true) (hno:mget L out=none) (hnt:∀ k,mget L (tName k)=none) (hm:es.length<=m) :
 Calls Tryz.prog 77 #[ptrTo pb, .string inn, .string out, .int .i64 (byNum by':Int)] w (SortsPost (fun _=>False) n pb db w o d L out (bestOf by' es) es.length):=by
 have hto:∀ k,out≠tName k:=fun k e=>by rw [e,ownName_t] at ho;cases ho
 have hp1:=Lib.hid (hasPre_any inn);have hp2:=Lib.hid (hasPre_any out);simp only [hi] at hp1;simp only [ho] at hp2;have hframes:=Lib.hid (fun W (hW:Below w.heap.size w W)=>poolFrames_any (h.below hW));have hopen:Hid (∀ W,Below w.heap.size w W->∀ jb byb,JobAt W jb pb byb 0 by'->Calls Tryz.prog 116 #[ptrTo jb, .string inn] W (OpenSrcPost n pb db W o d L inn es.length)):=Lib.hid (fun W hW jb byb hj=>jobOpen_any HW (h.below hW) hj hL);have hcr:Hid (∀ W o' d',PoolAt W pb db n o' d' L->Calls Tryz.prog 71 #[ptrTo pb, .string out] W (CreatePost n pb db W o' d' L out)):=Lib.hid (fun W o' d' hW=>create_pool hW out (okName_1000 hout));have hcode:Hid (∀ d':Dsk,createCode d' L out=if d'.tick.dead=true then 6 else 0):=Lib.hid (fun d'=>by
  unfold createCode;rw [hout,hno];rfl)
 have hdrop:Hid (∀ W o' d',PoolAt W pb db n o' d' (mput L out (.inl (([]:List Pg),true)))->Calls Tryz.prog 62 #[ptrTo pb, .string out] W (DropPost W pb db n o' d' (mput L out (.inl (([]:List Pg),true))) out)):=Lib.hid (fun W o' d' hW=>drop_any hW (ps:=[]) (fl:=true) (by rw [mget_mput,if_pos rfl]));have hdel:Hid (mdel (mput L out (.inl (([]:List Pg),true))) out=L):=Lib.hid (by rw [mdel_mput,mdel_fresh hno]);have hsort:Hid (∀ W o' d' cb sb jb byb,PoolAt W pb db n o' d' L->JobAt W jb pb byb 0 by'->o' jb=none->o' byb=none->byb≠jb->SourceAt W cb sb 0 es.length edg0->StreamAt W sb pb inn 20->o' cb=none->o' sb=none->cb≠jb->cb≠byb->sb≠jb->sb≠cb ->
  Calls Tryz.prog 117 #[ptrTo jb,ptrTo cb, .string out] W (SortsPost (fun x=>x=cb\/x=jb) n pb db W o' d' L out (bestOf by' es) es.length)):=Lib.hid (fun W o' d' cb sb jb byb a1 a2 a3 a4 a5 a6 a7 a8 a9 b1 b2 b3 b4=>HJS a1 hn a2 a3 a4 a5 hL a6 a7 a8 a9 b1 b2 b3 b4 hout hno hnt hto hm)
 have hne:(inn.toList == out.toList)=false:=bytes_ne hio;have hn2:n<=4096:=by
  obtain ⟨fb,mb,l,hand,mf,hp,rfl,-⟩:=h;exact hp.most
 have H:=Lib.hid h;have hn8:¬ (n:Int) < 8:=by omega
 clear h hn hL hio hi ho hout hno hnt hm hto;have hby:((byNum by':Int)=0\/(byNum by':Int)=1):=by cases by'<;>simp [byNum]
 have HBW:Hid (∀ v,Below w.heap.size w (w.alloc (.cells #[v] 3))):=Lib.hid (fun v=>(Below.refl _ _).alloc (Nat.le_refl _) _);have HBC:Hid (∀ v,(w.alloc (.cells #[v] 3)).heap[w.heap.size]? = some (.cells #[v] 3)):=Lib.hid (fun v=>heap_alloc_new w _);obtain ⟨bn,hbn⟩:∃ bn:Int,bn=(byNum by':Int):=⟨_,rfl⟩;rw [<- hbn] at hby ⊢;have HBN:=Lib.hid hbn;clear hbn;unfold ptrTo at *;generalize es.length=N at *;rcases hby with rfl | rfl;all_goals
  go_enter Tryz.func77,Tryz.ntmps77
  go_wp2_with fail
  refine (hp1.out _).mono ?_;rintro e w' ⟨rfl,rfl⟩;go_wp2_with fail
  refine (hp2.out _).mono ?_;rintro e w' ⟨rfl,rfl⟩;go_wp2_with fail
  refine (hframes.out _ (HBW.out _)).mono ?_;rintro e w' ⟨rfl,rfl⟩;go_wp2_with fail
 all_goals
  first
   | (have HJ1:Hid (JobAt ((w.alloc (.cells #[.int .i64 0] 3)).alloc (.cells #[.pointer (some ⟨pb,0,none⟩), .func (.func 115) #[] #[.pointer (some ⟨w.heap.size,0,none⟩)], .int .i64 0] 205)) (w.heap.size+1) pb w.heap.size 0 by'):=Lib.hid (jobAt_new w pb 0 by' HBN.out)
      have HW1:Hid (Below w.heap.size w ((w.alloc (.cells #[.int .i64 0] 3)).alloc (.cells #[.pointer (some ⟨pb,0,none⟩), .func (.func 115) #[] #[.pointer (some ⟨w.heap.size,0,none⟩)], .int .i64 0] 205))):=Lib.hid ((HBW.out _).alloc (by simp) _);have hsz:w.heap.size+2=((w.alloc (.cells #[.int .i64 0] 3)).alloc (.cells #[.pointer (some ⟨pb,0,none⟩), .func (.func 115) #[] #[.pointer (some ⟨w.heap.size,0,none⟩)], .int .i64 0] 205)).heap.size:=by simp
      have HSZ:=Lib.hid hsz;clear hsz;generalize (w.alloc (.cells #[.int .i64 0] 3)).alloc (.cells #[.pointer (some ⟨pb,0,none⟩), .func (.func 115) #[] #[.pointer (some ⟨w.heap.size,0,none⟩)], .int .i64 0] 205)=W1 at *)
   | (have HJ1:Hid (JobAt ((w.alloc (.cells #[.int .i64 1] 3)).alloc (.cells #[.pointer (some ⟨pb,0,none⟩), .func (.func 115) #[] #[.pointer (some ⟨w.heap.size,0,none⟩)], .int .i64 0] 205)) (w.heap.size+1) pb w.heap.size 0 by'):=Lib.hid (jobAt_new w pb 1 by' HBN.out)
      have HW1:Hid (Below w.heap.size w ((w.alloc (.cells #[.int .i64 1] 3)).alloc (.cells #[.pointer (some ⟨pb,0,none⟩), .func (.func 115) #[] #[.pointer (some ⟨w.heap.size,0,none⟩)], .int .i64 0] 205))):=Lib.hid ((HBW.out _).alloc (by simp) _);have hsz:w.heap.size+2=((w.alloc (.cells #[.int .i64 1] 3)).alloc (.cells #[.pointer (some ⟨pb,0,none⟩), .func (.func 115) #[] #[.pointer (some ⟨w.heap.size,0,none⟩)], .int .i64 0] 205)).heap.size:=by simp
      have HSZ:=Lib.hid hsz;clear hsz;generalize (w.alloc (.cells #[.int .i64 1] 3)).alloc (.cells #[.pointer (some ⟨pb,0,none⟩), .func (.func 115) #[] #[.pointer (some ⟨w.heap.size,0,none⟩)], .int .i64 0] 205)=W1 at *)
  have hco:=Lib.hid (hopen.out W1 HW1.out (w.heap.size+1) w.heap.size HJ1.out);refine hco.out.mono ?_;rintro e w2 ⟨v2,c2,d2,o2,rfl,hm2,he2,hok2⟩;have HC2:=Lib.hid hm2;have HE2:=Lib.hid he2;have HM2:Hid (Moved (fun _=>False) n pb db w o d w2 o2 d2 L):=Lib.hid ((Moved.ofBelow H.out HW1.out).trans hm2 (fun _ _ h=>h));clear hm2 he2 hco;by_cases hc2:c2=0
  ·subst hc2;obtain ⟨cb,sb,rfl,hs2,hst2,hoc2,hos2,hcb2,hsb2⟩:=hok2 rfl;have HS2:=Lib.hid hs2;have HST2:=Lib.hid hst2;have HOC2:=Lib.hid hoc2;have HOS2:=Lib.hid hos2;have hcbl:=hs2.lt;have hsbl:=hst2.lt;have HNE2:Hid (sb≠cb):=Lib.hid (source_ne_stream hs2 hst2);have hcbg:w.heap.size+2<=cb:=by rw [HSZ.out];exact hcb2
   have hsbg:w.heap.size+2<=sb:=by rw [HSZ.out];exact hsb2
   clear hok2 hs2 hst2 hoc2 hos2 hcb2 hsb2;unfold ptrTo;have hcc:=Lib.hid (hcr.out w2 o2 d2 HM2.out.pool);unfold CreatePost at hcc;rw [hcode.out d2] at hcc;cases hd2:d2.tick.dead with
   | true=>
     rw [hd2,if_pos rfl] at hcc;have HD2:=Lib.hid hd2;clear hd2;go_wp2_with fail
     refine hcc.out.mono ?_;rintro e w3 ⟨d3,o3,rfl,hm3,-,hdd⟩;rw [if_neg (by decide)] at hm3;have HM3:=Lib.hid (HM2.out.trans hm3 (fun _ _ h=>h));have HDD:=Lib.hid (hdd (by first | exact HD2.out | trivial));clear hm3 hdd hcc;go_wp2;go_ret;exact ⟨6,d3,o3,L,rfl,HM3.out,fun _ _=>rfl, .inr (.inr ⟨rfl,HDD.out⟩)⟩
   | false=>
     rw [hd2,if_neg (by simp)] at hcc;clear hd2;go_wp2_with fail
     refine hcc.out.mono ?_;rintro e w3 ⟨d3,o3,rfl,hm3,-,-⟩;simp only [if_true] at hm3;have HC3:=Lib.hid (HC2.out.trans hm3 (fun _ _ h=>h));have HM3:=Lib.hid (HM2.out.trans hm3 (fun _ _ h=>h));have HS3:Hid (SourceAt w3 cb sb 0 N edg0):=Lib.hid (HS2.out.kept (hm3.block hcbl HOC2.out (fun h=>h)));have HST3:Hid (StreamAt w3 sb pb inn 20):=Lib.hid (HST2.out.moved hm3 HOS2.out (fun h=>h));have HOC3:Hid (o3 cb=none):=Lib.hid (hm3.free hcbl HOC2.out);have HOS3:Hid (o3 sb=none):=Lib.hid (hm3.free hsbl HOS2.out);have hcbl3:cb < w3.heap.size:=Nat.lt_of_lt_of_le hcbl hm3.size;have hsbl3:sb < w3.heap.size:=Nat.lt_of_lt_of_le hsbl hm3.size;have hdd:=Lib.hid (hdrop.out w3 o3 d3 hm3.pool);clear hm3 hcc;go_wp2_with fail
     refine hdd.out.mono ?_;rintro e w4 ⟨c4,d4,o4,L4,rfl,hp4,ht4,hg4,hon4,hdr4⟩;have hm4:Moved (fun _=>False) n pb db w3 o3 d3 w4 o4 d4 L4:=moved_of hp4 ht4 hg4 hon4;have HM4:=Lib.hid (HM3.out.trans hm4 (fun _ _ h=>h));have HC4:=Lib.hid (HC3.out.trans hm4 (fun _ _ h=>h));have HS4:Hid (SourceAt w4 cb sb 0 N edg0):=Lib.hid (HS3.out.kept (hm4.block hcbl3 HOC3.out (fun h=>h)));have HST4:Hid (StreamAt w4 sb pb inn 20):=Lib.hid (HST3.out.moved hm4 HOS3.out (fun h=>h));have HOC4:Hid (o4 cb=none):=Lib.hid (hm4.free hcbl3 HOC3.out);have HOS4:Hid (o4 sb=none):=Lib.hid (hm4.free hsbl3 HOS3.out);clear hp4 ht4 hg4 hon4 hm4 hdd;rcases hdr4 with ⟨rfl,he⟩ | ⟨rfl,hdead,dp,he⟩
     ·have he':=he.trans hdel.out;rw [he'] at HM4 HC4;have HJ4:Hid (JobAt w4 (w.heap.size+1) pb w.heap.size 0 by'):=Lib.hid (HJ1.out.moved HC4.out (H.out.fresh (by omega)) (H.out.fresh (Nat.le_refl _)) (fun h=>h) (fun h=>h));have hso:=Lib.hid (hsort.out w4 o4 d4 cb sb (w.heap.size+1) w.heap.size HM4.out.pool HJ4.out (HC4.out.free HJ1.out.lt.1 (H.out.fresh (by omega))) (HC4.out.free HJ1.out.lt.2 (H.out.fresh (Nat.le_refl _))) (by omega) HS4.out HST4.out HOC4.out HOS4.out (by omega) (by omega) (by omega) HNE2.out);clear he he';go_wp2_with fail
      refine hso.out.mono ?_;rintro e w5 ⟨c5,d5,o5,L5,rfl,hm5,hot5,hc5⟩;have HM5:=Lib.hid (HM4.out.trans hm5 (fun x hx e=>by omega));have HOT5:=Lib.hid hot5;have HC5:Hid ((c5=0/\∀ x,mget L5 x=mget (mput L out (edgeFile (bestOf by' es) true)) x)\/ErrN d d5 (need L+8*N) c5):=Lib.hid (hc5.imp id (fun h=>h.later HM4.out.on.quota));clear hm5 hot5 hc5 hso;go_wp2;go_ret;exact ⟨c5,d5,o5,L5,rfl,HM5.out,HOT5.out,HC5.out⟩
     ·have HE:=Lib.hid he;have HD:=Lib.hid hdead;clear he hdead;go_wp2;go_ret;refine ⟨6,d4,o4,L4,rfl,HM4.out,fun x hx=>?_, .inr (.inr ⟨rfl,HD.out⟩)⟩;rw [HE.out,mget_mput,if_neg (fun e=>hx (.inl e)),mget_mput,if_neg (fun e=>hx (.inl e))]
  ·have hc2':¬ (c2:Int)=0:=by omega
   have HE3:Hid (ErrN d d2 (need L+8*N) c2):=Lib.hid ((HE2.out.resolve_left hc2).num (Nat.le_add_right _ _));clear hc2 hok2;go_wp2;go_ret;exact ⟨c2,d2,o2,L,rfl,HM2.out,fun _ _=>rfl, .inr HE3.out⟩
end
end
section
open Go Go.RowKit
section
variable {P:Program} {C:World->Prop} {Pd:Nat->Value->World->Prop} {l:List Oper} {a0:Act}
structure RelInv (C:World->Prop) (Pd:Nat->Value->World->Prop) (l:List Oper) (a0:Act) (listed:Array Bool) (a:Act) (w:World):Prop where
 size:listed.size=l.length
 cls:C w
 tsz:a.tmps.size=a0.tmps.size
 dfr:a.defers=a0.defers
 out:∀ k,(∀ o∈l,o.dst≠some k)->a.tmps[k]? = a0.tmps[k]?
 slot:∀ (i:Nat) (o:Oper) (k:Nat),l[i]? = some o->o.dst=some k->listed.getD i true=true->∃ v,a.tmps[k]? = some v/\Pd i v w
def RelDeps (Pd:Nat->Value->World->Prop) (l:List Oper) (a0:Act) (o:Oper) (a:Act) (w:World):Prop:=
 (∀ k,(∀ o∈l,o.dst≠some k)->a.tmps[k]? = a0.tmps[k]?)/\a.tmps.size=a0.tmps.size /\
 ∀ e∈o.after,Region.binds .any e=true->∀ (oj:Oper) (k:Nat),l[e.on]? = some oj->oj.dst=some k->∃ v,a.tmps[k]? = some v/\Pd e.on v w
def RelStep (P:Program) (Pd:Nat->Value->World->Prop) (i:Nat) (o:Oper) (a:Act) (w:World):Prop:=
 ∀ (Q:Exit->Act->World->Prop) (K:Act->World->Prop),(∀ v w',Below w.heap.size w w'->Pd i v w'->K (a.put o.dst v) w')->o.wp P a w K Q
theorem wpAny_rel {Q:Exit->Act->World->Prop} (hg:∀ o∈l,o.guard=none)
 (hd:∀ (i j:Nat) (oi oj:Oper) (k:Nat),l[i]? = some oi->l[j]? = some oj->oi.dst=some k->oj.dst=some k->i=j) (hb:∀ o∈l,∀ k,o.dst=some k->k < a0.tmps.size)
 (hmono:∀ w w',C w->Below w.heap.size w w'->C w') (hP:∀ i v w w',Below w.heap.size w w'->Pd i v w->Pd i v w')
 (hstep:∀ (i:Nat) (o:Oper),l[i]? = some o->∀ a w,C w->RelDeps Pd l a0 o a w->RelStep P Pd i o a w)
 (hend:∀ listed a w,RelInv C Pd l a0 listed a w->Region.ready .any l.toArray listed=[]->Q .normal a w) (f:Nat) :
 ∀ (listed:Array Bool) (a:Act) (w:World),RelInv C Pd l a0 listed a w->listed.toList.count false<=f->wpAny P .any l.toArray Q f listed a w:=by
 induction f with
 | zero=>
   intro listed a w inv hf;have hall:∀ i,listed.getD i true=true:=fun i=>by
    rw [Array.getD_eq_getD_getElem?];cases h:listed[i]? with
    | none=>rfl
    | some b=>
      cases b with
      | true=>rfl
      | false=>
        exfalso
        have h1:false∈listed.toList:=List.mem_of_getElem? (by rw [Array.getElem?_toList];exact h);have:=List.count_pos_iff.2 h1;omega
   have hr:Region.ready .any l.toArray listed=[]:=by
    unfold Region.ready;rw [List.filter_eq_nil_iff];intro i _;rw [hall i];simp
   exact ⟨hr,hend _ _ _ inv hr⟩
 | succ f ih=>
   intro listed a w inv hf;refine ⟨hend _ _ _ inv,fun i hi=>?_⟩;obtain ⟨hun,o,ho,hall⟩:=mem_ready.1 hi;have ho':l[i]? = some o:=by simpa using ho
   have hol:o∈l:=List.mem_of_getElem? ho';have hil:i < l.length:=(List.getElem?_eq_some_iff.1 ho').1;have hdeps:RelDeps Pd l a0 o a w:=⟨inv.out,inv.tsz,fun e he hbn oj k hoj hk=>inv.slot _ oj k hoj hk (by
    have h1:=hall e he hbn;rw [Array.getD_eq_getD_getElem?] at h1 ⊢;cases h2:listed[e.on]? with
    | none=>rw [h2] at h1;cases h1
    | some b=>rw [h2] at h1;exact h1)⟩
   have hw:Region.wanted o (yielded l.toArray a.tmps)=true:=by
    unfold Region.wanted;rw [hg o hol]
   unfold wpOp;rw [ho];simp only [hw,if_true];refine .inl (hstep i o ho' a w inv.cls hdeps _ _ (fun v w' hbw hv=>ih _ _ _ ⟨?_,hmono _ _ inv.cls hbw,?_,?_,fun k hk=>?_,fun j oj k hoj hk hlj=>?_⟩ ?_))
   ·rw [Array.size_setIfInBounds];exact inv.size
   ·unfold Act.put;cases o.dst with
    | none=>exact inv.tsz
    | some d=>simp [inv.tsz]
   ·unfold Act.put;cases o.dst with
    | none=>exact inv.dfr
    | some d=>exact inv.dfr
   ·unfold Act.put;cases hdst:o.dst with
    | none=>exact inv.out k hk
    | some d=>
      have hne:d≠k:=fun e=>hk o hol (by rw [hdst,e]);simp only [Array.getElem?_setIfInBounds_ne hne];exact inv.out k hk
   ·by_cases hij:i=j
    ·subst hij;rw [ho'] at hoj;obtain rfl:=Option.some.inj hoj;refine ⟨v,?_,hv⟩;unfold Act.put;rw [hk];have hkb:=hb o hol k hk;rw [<- inv.tsz] at hkb;simp [hkb]
    ·have hlj':listed.getD j true=true:=by
      rw [Array.getD_eq_getD_getElem?,Array.getElem?_setIfInBounds_ne hij] at hlj;rw [Array.getD_eq_getD_getElem?];exact hlj
     obtain ⟨u,hu1,hu2⟩:=inv.slot j oj k hoj hk hlj';refine ⟨u,?_,hP _ _ _ _ hbw hu2⟩;unfold Act.put;cases hdst:o.dst with
     | none=>exact hu1
     | some d=>
       have hne:d≠k:=fun e=>hij (hd i j o oj k ho' hoj (by rw [hdst,e]) hk);simp only [Array.getElem?_setIfInBounds_ne hne];exact hu1
   ·have hf1:listed[i]? = some false:=by
     rw [Array.getD_eq_getD_getElem?] at hun;cases h:listed[i]? with
     | none=>rw [h] at hun;cases hun
     | some b=>rw [h] at hun;simp at hun;rw [hun]
    have hlt:i < listed.toList.length:=by rw [Array.length_toList,inv.size];exact hil
    rw [Array.toList_setIfInBounds];have h1:listed.toList[i]? = some false:=by rw [Array.getElem?_toList];exact hf1
    have h2:listed.toList.count false=(listed.toList.set i true).count false+1:=by
     rw [List.count_set hlt];rw [List.getElem?_eq_getElem hlt] at h1;have h3:=Option.some.inj h1;rw [h3];have h4:0 < listed.toList.count false:=List.count_pos_iff.2 (List.mem_of_getElem? (by rw [List.getElem?_eq_getElem hlt,h3]));rw [if_pos (by decide),if_neg (by decide)];omega
    omega
theorem wp_region_rel {id:Nat} {Q:Exit->Act->World->Prop} {w:World} (C:World->Prop) (Pd:Nat->Value->World->Prop) (hm:P.follows .mixedOrders=true) (hg:∀ o∈l,o.guard=none)
 (hd:∀ (i j:Nat) (oi oj:Oper) (k:Nat),l[i]? = some oi->l[j]? = some oj->oi.dst=some k->oj.dst=some k->i=j) (hb:∀ o∈l,∀ k,o.dst=some k->k < a0.tmps.size)
 (hC:C w.drew) (hmono:∀ w w',C w->Below w.heap.size w w'->C w') (hP:∀ i v w w',Below w.heap.size w w'->Pd i v w->Pd i v w')
 (hstep:∀ (i:Nat) (o:Oper),l[i]? = some o->∀ a w,C w->RelDeps Pd l a0 o a w->RelStep P Pd i o a w)
 (hend:∀ listed a w,RelInv C Pd l a0 listed a w->Region.ready .any l.toArray listed=[]->Q .normal a w):(Code.region id l.toArray true).wp P Q a0 w:=by
 refine wp_region_any hm ?_;refine wpAny_rel hg hd hb hmono hP hstep hend _ _ _ _ ⟨by simp,hC,rfl,rfl,fun _ _=>rfl,fun i o k ho _ hl=>?_⟩ ?_
 ·have hil:i < l.length:=(List.getElem?_eq_some_iff.1 ho).1;rw [Array.getD_eq_getD_getElem?] at hl;simp [hil] at hl
 ·refine Nat.le_trans List.count_le_length ?_;simp
def relB (l:List Oper) (n:Nat):Bool:=
 l.all (fun o=>o.guard.isNone) && l.all (fun o=>match o.dst with | some k=>decide (k < n) | none=>true) &&
  (List.range l.length).all fun i=>(List.range l.length).all fun j=>decide (i=j) || (match (l[i]?).bind (·.dst),(l[j]?).bind (·.dst) with | some a,some b=>decide (a≠b) | _,_=>true)
theorem wp_region_relB {id:Nat} {Q:Exit->Act->World->Prop} {w:World} (C:World->Prop) (Pd:Nat->Value->World->Prop) (hm:P.follows .mixedOrders=true) (hB:relB l a0.tmps.size=true)
 (hC:C w.drew) (hmono:∀ w w',C w->Below w.heap.size w w'->C w') (hP:∀ i v w w',Below w.heap.size w w'->Pd i v w->Pd i v w')
 (hstep:∀ (i:Nat) (o:Oper),l[i]? = some o->∀ a w,C w->RelDeps Pd l a0 o a w->RelStep P Pd i o a w)
 (hend:∀ listed a w,RelInv C Pd l a0 listed a w->Region.ready .any l.toArray listed=[]->Q .normal a w):(Code.region id l.toArray true).wp P Q a0 w:=by
 simp only [relB,Bool.and_eq_true,List.all_eq_true] at hB;obtain ⟨⟨h1,h2⟩,h3⟩:=hB;refine wp_region_rel C Pd hm (fun o ho=>by simpa using h1 o ho) (fun i j oi oj k hi hj hki hkj=>?_) (fun o ho k hk=>?_) hC hmono hP hstep hend
 ·have h4:=h3 i (List.mem_range.2 (List.getElem?_eq_some_iff.1 hi).1) j (List.mem_range.2 (List.getElem?_eq_some_iff.1 hj).1);rw [hi,hj] at h4;simp only [Option.bind_some,hki,hkj,Bool.or_eq_true,decide_eq_true_eq] at h4;rcases h4 with h4 | h4
  ·exact h4
  ·exact absurd rfl h4
 ·have h4:=h2 o ho;rw [hk] at h4;simpa using h4
theorem step_val {i:Nat} {o:Oper} {a:Act} {w w':World} {v:Value} (h:(execOp a.eval o).run P w=.ok (.value v) w') (hb:Below w.heap.size w w') (hp:Pd i v w'):RelStep P Pd i o a w:=by
 intro Q K hK;unfold Oper.wp;rw [h];exact hK v w' hb hp
theorem step_call {i:Nat} {o:Oper} {a:Act} {w:World} {f:FuncId} {args:Array Value} (h:(execOp a.eval o).run P w=.ok (.enter f args) w) (hc:Calls P f args w fun e w'=>∃ v,e=.returned v/\Below w.heap.size w w'/\Pd i v w'):RelStep P Pd i o a w:=by
 intro Q K hK;unfold Oper.wp;rw [h];refine Calls.mono hc ?_;rintro e w' ⟨v,rfl,hb,hp⟩;exact hK v w' hb hp
theorem tmps_getD {a:Act} {k:Nat} {v:Value} (h:a.tmps[k]? = some v):a.tmps.getD k undef=v:=by
 rw [Array.getD_eq_getD_getElem?,h];rfl
theorem RelDeps.get {o:Oper} {a:Act} {w:World} (h:RelDeps Pd l a0 o a w) (j:Nat) {oj:Oper} {k:Nat} (hj:(o.after.toList.any fun e=>decide (e.on=j) && Region.binds .any e)=true) (ho:l[j]? = some oj) (hk:oj.dst=some k):∃ v,a.tmps[k]? = some v/\Pd j v w:=by
 rw [List.any_eq_true] at hj;obtain ⟨e,he,h1⟩:=hj;rw [Bool.and_eq_true,decide_eq_true_eq] at h1;obtain ⟨rfl,h2⟩:=h1;obtain ⟨v,h3,h4⟩:=h.2.2 e (by simpa using he) h2 oj k ho hk;exact ⟨v,h3,h4⟩
theorem RelDeps.old {o:Oper} {a:Act} {w:World} (h:RelDeps Pd l a0 o a w) (k:Nat) {v:Value} (hk:(l.all fun o=>decide (o.dst≠some k))=true) (h0:a0.tmps[k]? = some v):a.tmps[k]? = some v:=by
 refine (h.1 k fun o ho=>?_).trans h0;rw [List.all_eq_true] at hk;simpa using hk o ho
theorem rel_all {C:World->Prop} {listed:Array Bool} {a:Act} {w:World} (h:RelInv C Pd l a0 listed a w) (hr:Region.ready .any l.toArray listed=[]) (hB:((List.range l.length).all fun i=>match l[i]? with | some o=>o.after.toList.all (fun e=>decide (e.on < i)) | none=>true)=true) :
 ∀ (i:Nat) (o:Oper) (k:Nat),l[i]? = some o->o.dst=some k->∃ v,a.tmps[k]? = some v/\Pd i v w:=by
 have hall:∀ i,i < l.length->listed.getD i true=true:=by
  intro i;induction i using Nat.strongRecOn with
  | _ i ih=>
    intro hi;by_cases hd:listed.getD i true=true
    ·exact hd
    ·exfalso
     have hd':listed.getD i true=false:=by simpa using hd
     have hm:i∈Region.ready .any l.toArray listed:=by
      refine mem_ready.2 ⟨hd',l[i],by simp [hi],fun e he _=>?_⟩;rw [List.all_eq_true] at hB;have h1:=hB i (List.mem_range.2 hi);rw [List.getElem?_eq_getElem hi] at h1;simp only [List.all_eq_true,decide_eq_true_eq] at h1;have h2:=h1 e (by simpa using he);have h3:=ih e.on h2 (by omega);have hs:e.on < listed.size:=by rw [h.size];omega
      rw [Array.getD_eq_getD_getElem?,Array.getElem?_eq_getElem hs] at h3 ⊢;exact h3
     rw [hr] at hm;cases hm
 exact fun i o k ho hk=>h.slot i o k ho hk (hall i (List.getElem?_eq_some_iff.1 ho).1)
theorem rel_act_ext {a b:Act} (hs:a.tmps.size=b.tmps.size) (hd:a.defers=b.defers) (he:∀ k,k < b.tmps.size->a.tmps[k]? = b.tmps[k]?):a=b:=by
 obtain ⟨ta,da⟩:=a;obtain ⟨tb,db⟩:=b;obtain rfl:da=db:=hd;congr 1;apply Array.ext hs;intro k h1 h2;have:=he k h2;rw [Array.getElem?_eq_getElem h1,Array.getElem?_eq_getElem h2] at this;exact Option.some.inj this
def relPut (a:Act):List Oper->List Value->Act
 | o::l,v::vs=>relPut (a.put o.dst v) l vs
 | _,_=>a
theorem actPut_size (a:Act) (d:Option Tmp) (v:Value):(a.put d v).tmps.size=a.tmps.size:=by
 unfold Act.put;cases d<;>simp
theorem actPut_defers (a:Act) (d:Option Tmp) (v:Value):(a.put d v).defers=a.defers:=by
 unfold Act.put;cases d<;>rfl
theorem actPut_other (a:Act) (d:Option Tmp) (v:Value) (k:Nat) (h:d≠some k):(a.put d v).tmps[k]? = a.tmps[k]? := by
 unfold Act.put;cases d with
 | none=>rfl
 | some d=>exact Array.getElem?_setIfInBounds_ne (fun e=>h (by rw [e]))
theorem relPut_keep (l:List Oper):∀ (a:Act) (vs:List Value),(relPut a l vs).tmps.size=a.tmps.size/\(relPut a l vs).defers=a.defers/\∀ k,(∀ o:Oper,o∈l->o.dst≠some k)->(relPut a l vs).tmps[k]? = a.tmps[k]? := by
 induction l with
 | nil=>intro a vs;cases vs<;>exact ⟨rfl,rfl,fun _ _=>rfl⟩
 | cons o l ih=>
   intro a vs;cases vs with
   | nil=>exact ⟨rfl,rfl,fun _ _=>rfl⟩
   | cons v vs=>
     obtain ⟨h1,h2,h3⟩:=ih (a.put o.dst v) vs;exact ⟨h1.trans (actPut_size _ _ _),h2.trans (actPut_defers _ _ _),fun k hk=>(h3 k (fun o' ho'=>hk o' (by simp [ho']))).trans (actPut_other _ _ _ _ (hk o (by simp)))⟩
theorem relPut_at (l:List Oper):∀ (a:Act) (vs:List Value) (i:Nat) (o:Oper) (k:Nat) (v:Value),l[i]? = some o->o.dst=some k->vs[i]? = some v->k < a.tmps.size->(∀ (j:Nat) (oj:Oper),l[j]? = some oj->oj.dst=some k->j=i)->(relPut a l vs).tmps[k]? = some v:=by
 induction l with
 | nil=>intro a vs i o k v ho;cases ho
 | cons o' l ih=>
   intro a vs i o k v ho hk hv hb hu;cases vs with
   | nil=>cases hv
   | cons v' vs=>
     cases i with
     | zero=>
       cases ho;cases hv;refine ((relPut_keep l (a.put _ v) vs).2.2 k (fun x hx e=>?_)).trans ?_
       ·obtain ⟨j,hj⟩:=List.mem_iff_getElem?.1 hx;have:=hu (j+1) x (by simpa using hj) e;omega
       ·unfold Act.put;rw [hk];simp [hb]
     | succ i=>
       refine ih (a.put o'.dst v') vs i o k v (by simpa using ho) hk (by simpa using hv) (by rw [actPut_size];exact hb) (fun j oj hj he=>?_);have:=hu (j+1) oj (by simpa using hj) he;omega
theorem rel_end {C:World->Prop} {listed:Array Bool} {a:Act} {w:World} (h:RelInv C Pd l a0 listed a w) (hr:Region.ready .any l.toArray listed=[]) (hB:relB l a0.tmps.size=true) (hA:((List.range l.length).all fun i=>match l[i]? with | some o=>o.after.toList.all (fun e=>decide (e.on < i)) && o.dst.isSome | none=>true)=true) :
 ∃ vs:List Value,vs.length=l.length/\(∀ i v,vs[i]? = some v->Pd i v w)/\a=relPut a0 l vs:=by
 rw [List.all_eq_true] at hA;have hA':∀ (i:Nat) (o:Oper),l[i]? = some o->(o.after.toList.all (fun e=>decide (e.on < i)))=true/\∃ k,o.dst=some k:=fun i o ho=>by
  have h1:=hA i (List.mem_range.2 (List.getElem?_eq_some_iff.1 ho).1);rw [ho] at h1;simp only [Bool.and_eq_true] at h1;exact ⟨h1.1,Option.isSome_iff_exists.1 h1.2⟩
 have hal:=rel_all h hr (by
  rw [List.all_eq_true];intro i hi;rw [List.mem_range] at hi;rw [List.getElem?_eq_getElem hi];exact (hA' i _ (List.getElem?_eq_getElem hi)).1)
 simp only [relB,Bool.and_eq_true,List.all_eq_true] at hB;obtain ⟨⟨_,h2⟩,h3⟩:=hB;have huniq:∀ (i j:Nat) (oi oj:Oper) (k:Nat),l[i]? = some oi->l[j]? = some oj->oi.dst=some k->oj.dst=some k->i=j:=fun i j oi oj k hi hj hki hkj=>by
  have h4:=h3 i (List.mem_range.2 (List.getElem?_eq_some_iff.1 hi).1) j (List.mem_range.2 (List.getElem?_eq_some_iff.1 hj).1);rw [hi,hj] at h4;simp only [Option.bind_some,hki,hkj,Bool.or_eq_true,decide_eq_true_eq] at h4;rcases h4 with h4 | h4
  ·exact h4
  ·exact absurd rfl h4
 refine ⟨l.map fun o=>(o.dst.bind (a.tmps[·]?)).getD undef,List.length_map _,fun i v hv=>?_,?_⟩
 ·rw [List.getElem?_map] at hv;obtain ⟨o,ho,rfl⟩:=Option.map_eq_some_iff.1 hv;obtain ⟨_,k,hk⟩:=hA' i o ho;obtain ⟨v,e1,e2⟩:=hal i o k ho hk;rw [hk];simp only [Option.bind_some,e1,Option.getD_some];exact e2
 ·obtain ⟨k1,k2,k3⟩:=relPut_keep l a0 (l.map fun o=>(o.dst.bind (a.tmps[·]?)).getD undef);refine rel_act_ext (by rw [k1,h.tsz]) (by rw [k2,h.dfr]) (fun k hk=>?_);rw [k1] at hk;by_cases he:∃ o∈l,o.dst=some k
  ·obtain ⟨o,ho,hok⟩:=he;obtain ⟨i,hi⟩:=List.mem_iff_getElem?.1 ho;obtain ⟨v,e1,_⟩:=hal i o k hi hok;rw [e1];refine (relPut_at l a0 _ i o k v hi hok ?_ hk (fun j oj hj hjk=>huniq j i oj o k hj hi hjk hok)).symm;rw [List.getElem?_map,hi];simp [hok,e1]
  ·have hno:∀ o∈l,o.dst≠some k:=fun o ho e=>he ⟨o,ho,e⟩;rw [k3 k hno,h.out k hno]
end
end
section
open Go.RowKit Go.Maps Go.MapKept
def sName (c:UInt8) (k:Nat):Name:=⟨([c,46]++Lib.decDigits k).toArray⟩
def PowAt (w:World):Prop:=Lib.TabIs Tryz.prog w "internal/strconv.uint64pow10" .u64 Lib.pow10Tab
theorem powName:Tryz.prog.globalNamed "internal/strconv.uint64pow10"=some 0:=by kernel_rfl
theorem PowAt.kept {w w':World} (h:PowAt w) (hb:w'.heap[(0:Nat)]? = w.heap[(0:Nat)]?):PowAt w':=by
 unfold PowAt Lib.TabIs World.var? at h ⊢;rw [powName] at h ⊢;simp only [Option.bind_some] at h ⊢;rw [hb];exact h
theorem PowAt.lt {w:World} (h:PowAt w):0 < w.heap.size:=by
 unfold PowAt Lib.TabIs World.var? at h;rw [powName] at h;simp only [Option.bind_some] at h;by_cases hl:0 < w.heap.size
 ·exact hl
 ·rw [Array.getElem?_eq_none (by omega)] at h;cases h
def GenAt (w:World) (o:Owner) (gen:Nat):Prop:=gen < 100\/(gen<=1048576/\PowAt w/\o 0=none)
theorem GenAt.le {w:World} {o:Owner} {gen:Nat} (h:GenAt w o gen):gen<=1048576:=h.elim (fun h=>by omega) (fun h=>h.1)
theorem GenAt.below {w w':World} {o:Owner} {gen:Nat} (h:GenAt w o gen) (hb:Below w.heap.size w w'):GenAt w' o gen:=
 h.imp id fun ⟨h1,h2,h3⟩=>⟨h1,h2.kept (hb.block _ h2.lt),h3⟩
theorem GenAt.moved {S:Nat->Prop} {n pb db gen:Nat} {w w':World} {o o':Owner} {d d':Dsk} {L':Logic} (h:GenAt w o gen) (hm:Moved S n pb db w o d w' o' d' L') (hs:∀ x,¬ S x):GenAt w' o' gen:=
 h.imp id fun ⟨h1,h2,h3⟩=>⟨h1,h2.kept (hm.block h2.lt h3 (hs _)),hm.free h2.lt h3⟩
theorem digits_lt:∀ (n k:Nat),k < 10 ^ (n+1)->(Lib.decDigits k).all okByte=true/\(Lib.decDigits k).length<=n+1:=by
 have hb:∀ j,j < 10->okByte (UInt8.ofNat (48+j))=true:=by decide
 intro n;induction n with
 | zero=>
   intro k hk;have h1:k < 10:=by simpa using hk
   rw [Lib.decDigits,dif_pos h1];exact ⟨by simp only [List.all_cons,List.all_nil,Bool.and_true];exact hb k h1,by simp⟩
 | succ n ih=>
   intro k hk;by_cases h1:k < 10
   ·rw [Lib.decDigits,dif_pos h1];exact ⟨by simp only [List.all_cons,List.all_nil,Bool.and_true];exact hb k h1,by simp⟩
   ·rw [Lib.decDigits,dif_neg h1];have hk':k / 10 < 10 ^ (n+1):=by
     rw [Nat.pow_succ] at hk;exact Nat.div_lt_of_lt_mul (by rw [Nat.mul_comm];exact hk)
    obtain ⟨h2,h3⟩:=ih _ hk';refine ⟨?_,by rw [List.length_append];simp;omega⟩;rw [List.all_append,h2,Bool.true_and];simp only [List.all_cons,List.all_nil,Bool.and_true];exact hb _ (by omega)
set_option maxRecDepth 100000 in
set_option maxHeartbeats 4000000 in
theorem storeName_small (c:UInt8) (k:Nat) (hk:k < 100) (w:World) :
 Calls Tryz.prog 18 #[.int .u8 (c.toNat:Int), .int .i64 (k:Int)] w fun e w'=>e=.returned (.string (sName c k))/\Below w.heap.size w w':=by
 have hit:=Lib.hid (fun W=>Any.strconv_Itoa_small (P:=Tryz.prog) (ρ:=Tryz.itoa_ren) { Tryz.itoa with } k hk W);have hk0:¬ (k:Int) < 0:=by omega
 have hdl:(Lib.decDigits k).length<=2:=by
  by_cases h:k < 10
  ·rw [Lib.decDigits_one h];simp
  ·rw [Lib.decDigits_two h hk];simp
 have HT:Hid ((⟨#[c,46]⟩:ByteArray)++⟨(Lib.decDigits k).toArray⟩=sName c k):=Lib.hid (by
  unfold sName;apply ByteArray.ext;simp)
 have hcv:Sem.run Tryz.prog (convert 39 9 (.slice (some ⟨w.heap.size,0,none⟩) 2 2)) (w.alloc (.cells #[.int .u8 (c.toNat:Int), .int .u8 46] 5)).drew=.ok (.string ⟨#[c,46]⟩) (w.alloc (.cells #[.int .u8 (c.toNat:Int), .int .u8 46] 5)).drew:=
  run_convert_bytes_back (P:=Tryz.prog) _ 39 9 5 ⟨w.heap.size,0,none⟩ 2 [c,46] Tryz.underlying39 Tryz.underlying5 Tryz.underlying9 (fun j hj=>by
   rw [Addr_add,Nat.zero_add];match j,hj with
   | 0,_=>simp
   | 1,_=>simp)
 generalize Lib.decDigits k=dg at *;go_enter Tryz.func18,Tryz.ntmps18
 go_wp2;go_region_with (go_at_call 51;refine (hit.out _).mono ?_;rintro e w' ⟨rfl,rfl⟩)
 all_goals
  go_wp2;go_ret;exact ⟨by rw [<- HT.out];rfl,((Below.refl _ _).alloc (Nat.le_refl _) _).drew⟩
def nameRel (c:UInt8) (k:Nat) (dg:List UInt8) (full:Name):Nat->Value->World->Prop
 | 0,v,_=>v=.int .u8 (c.toNat:Int)
 | 1,v,W=>∃ g,v=.slice (some ⟨g,0,none⟩) 2 2/\W.cell? ⟨g,0,none⟩=some (.int .u8 (c.toNat:Int))/\W.cell? ⟨g,1,none⟩=some (.int .u8 46)
 | 2,v,_=>v=.string ⟨#[c,46]⟩
 | 3,v,_=>v=.int .i64 (k:Int)
 | 4,v,_=>v=.string ⟨dg.toArray⟩
 | _,v,_=>v=.string full
theorem nameRel_on {c:UInt8} {k:Nat} {dg:List UInt8} {full:Name} (i:Nat) (v:Value) (w w':World) (hb:Below w.heap.size w w') (h:nameRel c k dg full i v w):nameRel c k dg full i v w':=by
 match i,h with
 | 0,h=>exact h
 | 1,⟨g,h1,h2,h3⟩=>exact ⟨g,h1,(hb.cell (World.block_lt_of_cell? w _ h2)).trans h2,(hb.cell (World.block_lt_of_cell? w _ h3)).trans h3⟩
 | 2,h=>exact h
 | 3,h=>exact h
 | 4,h=>exact h
 | _+5,h=>exact h
theorem below_grown (w:World) (k:Nat) (os:Array Obj):Below w.heap.size w (Go.Sort.grow (w.drewN k) os):=
 ⟨rfl,rfl,rfl,by show w.heap.size<=(w.heap++os).size;rw [Array.size_append];omega,fun j hj=>by show (w.heap++os)[j]? = w.heap[j]?;exact Array.getElem?_append_left hj⟩
set_option maxRecDepth 100000 in
set_option maxHeartbeats 4000000 in
theorem storeName_great (c:UInt8) (k:Nat) (hk:k<=1048576) (w:World) (hp:PowAt w) :
 Calls Tryz.prog 18 #[.int .u8 (c.toNat:Int), .int .i64 (k:Int)] w fun e w'=>e=.returned (.string (sName c k))/\Below w.heap.size w w':=by
 have hit:Hid (∀ W,Below w.heap.size w W->Calls Tryz.prog 51 #[.int .i64 (k:Int)] W fun e w'=>∃ v,e=.returned v/\Below W.heap.size W w'/\v=.string ⟨(Lib.decDigits k).toArray⟩):=Lib.hid (fun W hW=>by
  refine (Any.strconv_Itoa (P:=Tryz.prog) (ρ:=Tryz.itoa_ren) { Tryz.itoa with } (k:Int) (by omega) (by omega) W (hp.kept (hW.block _ hp.lt))).mono ?_;rintro e w' ⟨rfl,j,os,rfl⟩;rw [Lib.itoa_nonneg];exact ⟨_,rfl,below_grown _ _ _,rfl⟩)
 have hk0:¬ (k:Int) < 0:=by omega
 have HT:Hid ((⟨#[c,46]⟩:ByteArray)++⟨(Lib.decDigits k).toArray⟩=sName c k):=Lib.hid (by
  unfold sName;apply ByteArray.ext;simp)
 have hcv:Hid (∀ (W:World) (g:Nat),W.cell? ⟨g,0,none⟩=some (.int .u8 (c.toNat:Int))->W.cell? ⟨g,1,none⟩=some (.int .u8 46)->Sem.run Tryz.prog (convert 39 9 (.slice (some ⟨g,0,none⟩) 2 2)) W=.ok (.string ⟨#[c,46]⟩) W):=Lib.hid (fun W g h0 h1=>
  run_convert_bytes_back (P:=Tryz.prog) _ 39 9 5 ⟨g,0,none⟩ 2 [c,46] Tryz.underlying39 Tryz.underlying5 Tryz.underlying9 (fun j hj=>by
   rw [Addr_add,Nat.zero_add];match j,hj with
   | 0,_=>exact h0
   | 1,_=>exact h1))
 have hdl:(Lib.decDigits k).length<=7:=(digits_lt 6 k (by omega)).2;clear hp;generalize Lib.decDigits k=dg at *;generalize sName c k=full at *;go_enter Tryz.func18,Tryz.ntmps18
 go_wp2;refine wp_region_relB (Below w.heap.size w) (nameRel c k dg full) (by kernel_rfl) (by kernel_rfl) (Below.refl _ _).drew (fun w1 w2 h1 h2=>h1.trans (h2.mono h1.size)) nameRel_on ?_ ?_
 ·intro i o ho a W hC hdep;match i,ho with
  | 0,ho=>
    cases ho;have h0:=hdep.old 0 rfl rfl;refine step_val (v:=.int .u8 (c.toNat:Int)) (w':=W) ?_ (Below.refl _ _) rfl;go_simp
  | 1,ho=>
    cases ho;obtain ⟨v7,h7,rfl⟩:=hdep.get 0 rfl rfl rfl;refine step_val (v:=.slice (some ⟨W.heap.size,0,none⟩) 2 2) (w':=W.alloc (.cells #[.int .u8 (c.toNat:Int), .int .u8 46] 5)) ?_ ((Below.refl _ _).alloc (Nat.le_refl _) _) ⟨W.heap.size,rfl,by simp,by simp⟩;go_simp
  | 2,ho=>
    cases ho;obtain ⟨v8,h8,g,rfl,c0,c1⟩:=hdep.get 1 rfl rfl rfl;have hc:=hcv.out W g c0 c1;refine step_val (v:=.string ⟨#[c,46]⟩) (w':=W) ?_ (Below.refl _ _) rfl;go_simp
  | 3,ho=>
    cases ho;have h1:=hdep.old 1 rfl rfl;refine step_val (v:=.int .i64 (k:Int)) (w':=W) ?_ (Below.refl _ _) rfl;go_simp
  | 4,ho=>
    cases ho;obtain ⟨v10,h10,rfl⟩:=hdep.get 3 rfl rfl rfl;refine step_call (f:=51) (args:=#[.int .i64 (k:Int)]) ?_ (hit.out W hC);go_simp
  | 5,ho=>
    cases ho;obtain ⟨v9,h9,rfl⟩:=hdep.get 2 rfl rfl rfl;obtain ⟨v11,h11,rfl⟩:=hdep.get 4 rfl rfl rfl;refine step_val (v:=.string full) (w':=W) ?_ (Below.refl _ _) rfl;rw [<- HT.out];go_simp;omega
  | 6,ho=>
    cases ho;obtain ⟨v12,h12,rfl⟩:=hdep.get 5 rfl rfl rfl;refine step_val (v:=.string full) (w':=W) ?_ (Below.refl _ _) rfl;go_simp
  | _+7,ho=>cases ho
 ·intro listed a W inv hr;have HB:=Lib.hid inv.cls;obtain ⟨vs,hl,hp,rfl⟩:=rel_end inv hr (by kernel_rfl) (by kernel_rfl);match vs,hl with
  | [v0,v1,v2,v3,v4,v5,v6],_=>
    obtain rfl:=hp 6 v6 rfl;clear hp hl hr inv;simp only [relPut];go_simp;go_wp2;go_ret;exact ⟨rfl,HB.out⟩
theorem storeName_any (c:UInt8) (k:Nat) {w:World} {o:Owner} (h:GenAt w o k) :
 Calls Tryz.prog 18 #[.int .u8 (c.toNat:Int), .int .i64 (k:Int)] w fun e w'=>e=.returned (.string (sName c k))/\Below w.heap.size w w':=by
 rcases h with h | ⟨h1,h2,_⟩
 ·exact storeName_small c k h w
 ·exact storeName_great c k h1 w h2
set_option maxHeartbeats 1000000 in
theorem storeRight_yes (k:Nat) (hk:k<=1048576) (w:World):Calls Tryz.prog 66 #[.int .i64 (k:Int)] w fun e w'=>e=.returned (.bool true)/\w=w':=by
 have h1:(k:Int)<=1048576:=by omega
 have h2:(k:Int) >= 0:=by omega
 go_enter Tryz.func66,Tryz.ntmps66
 go_wp2;go_ret;exact ⟨rfl,rfl⟩
end
end Go.Proofs.YthkkgdpomhhjjaaGreatDoor
