/-
  Joined.
-/
import Derived.Test.YthkkgdpomhhjjaaGreatDoorR05
import Derived.Shelf.SlSortCmp.Insertion
import Derived.Sort.Grow
import Derived.Deep.AppendSrc
import Derived.Shelf.Strconv.Itoa3
import Derived.Shelf.Strings.Prefix
import Derived.Shelf.SlicesE.Delete
import Derived.Ground.NamesProg
import Derived.Ground.SlgnProg
import Derived.Shelf.SlGeneric
import Derived.Shelf.LaysM
import Derived.Test.YthkkgdpomhhjjaaGreatDoorProg
import Derived.Shelf.SlSortCmp.NoneTotal
import Derived.Ground.SlsfProg
import Derived.Sort.WalkA
import Derived.Shelf.SlicesQ.Load
import Derived.Shelf.SlicesQ.Reverse
import Derived.Shelf.RegionOpenPlain
namespace Go.Proofs.YthkkgdpomhhjjaaGreatDoor
section
open Go.RowKit Go.Maps Go.MapKept
section
variable {S:Nat->Prop} {w w':World} {sb pb db n sz:Nat} {name:Name} {o o':Owner} {d d':Dsk} {L L':Logic}
def BehindPost (w:World) (base:Nat) (v:Value) (b r:List UInt8) (e:Ending) (w':World):Prop:=
 ∃ v',e=.returned v'/\w'.ownsRow base 5 1 v' (b.length+r.length) ((b++r).map bv)/\w.grownBy w' v.ownBlock/\(v'.ownBlock=v.ownBlock\/v'.ownBlock=some w.heap.size)
set_option maxHeartbeats 1000000 in
theorem behind_any {base bx:Nat} {v rv:Value} {b r:List UInt8} (hc:w.cell? ⟨bx,0,none⟩=some rv) (hr:Rd w rv r) (hown:w.ownsRow base 5 1 v b.length (b.map bv)) (hb:base<=w.heap.size) (hl:b.length+r.length<=1073741824) :
 Calls Tryz.prog 106 #[v, .pointer (some ⟨bx,0,none⟩)] w (BehindPost w base v b r):=by
 have HO:=Lib.hid hown;have HR:=Lib.hid hr;obtain ⟨ra,rc,rfl,-⟩:=hr;obtain ⟨va,vc,rfl⟩:=ownsRow_slice hown;clear hown;generalize hrl:r.length=R at *;have HRL:=Lib.hid hrl;clear hrl;go_enter Tryz.func106,Tryz.ntmps106
 go_wp2_with (at_builtin;refine wpList_append_rd rfl _ _ 39 rfl base 5 Tryz.underlying39 info_u8 _ b.length _ rfl HO.out _ r rfl HR.out ?c1 ?c2 ?_)
 case c1=>have:=HRL.out;omega
 case c2=>exact hb
 intro v' w1 ho1 hg1 hw1;have HO1:=Lib.hid ho1;have HG1:=Lib.hid hg1;have HW1:=Lib.hid hw1;clear ho1 hg1 hw1;go_wp2;go_ret;refine ⟨v',rfl,?_,HG1.out,HW1.out⟩;rw [List.map_append];exact HO1.out
def LaidPost (S:Nat->Prop) (n pb db:Nat) (w:World) (o:Owner) (d:Dsk) (L L':Logic) (e:Ending) (w':World):Prop:=
 ∃ c d' o',e=.returned (.int .i64 ((c:Nat):Int))/\Moved S n pb db w o d w' o' d' (if c=0 then L' else L)/\(c=0\/Err d d' L c)
set_option maxRecDepth 100000 in
set_option maxHeartbeats 4000000 in
theorem turnAdd_any (HW:WriteSaid) (h:PoolAt w pb db n o d L) (hst:StreamAt w sb pb name sz) (ho:o sb=none) {ps:List Pg} {fl:Bool} (hL:mget L name=some (.inl (ps,fl))) {k:Nat} (hk:k<=ps.length) (hk':k < 65536)
 {base bx:Nat} {v rv:Value} {b r:List UInt8} (hc:w.cell? ⟨bx,0,none⟩=some rv) (hr:Rd w rv r) (hown:w.ownsRow base 5 1 v b.length (b.map bv)) (hvo:∀ x,v.ownBlock=some x->o x=none/\x≠sb) (hb:base<=w.heap.size) (hl:b.length+r.length<=240) :
 Calls Tryz.prog 107 #[ptrTo sb, .int .i64 (k:Int),v, .func (.func 106) #[] #[.pointer (some ⟨bx,0,none⟩)]] w (LaidPost (fun x=>v.ownBlock=some x) n pb db w o d L (mput L name (.inl (setPage ps k (b++r),false)))):=by
 have H:=Lib.hid h;have HVO:=Lib.hid hvo;have HHR:=Lib.hid hr;have HOWN:=Lib.hid hown;have hc':=Lib.hid hc;obtain ⟨hc0,hc1,-⟩:=hst.cells;unfold ptrTo at hc0;have hwr:Hid (∀ W o' ,PoolAt W pb db n o' d L->∀ v',W.ownsRow base 5 1 v' (b.length+r.length) ((b++r).map bv)->(∀ x,v'.ownBlock=some x->o' x=none)->Calls Tryz.prog 155 #[.pointer (some ⟨pb,0,none⟩), .string name, .int .i64 (k:Int),v'] W (WritePagePost W pb db n o' d L (mput L name (.inl (setPage ps k (b++r),false))))):=
  Lib.hid (fun W o' hW v' hv hvo=>poolWrite_any HW hW hL hk hk' (Rd_own (by rw [List.length_append];exact hv)) (by rw [List.length_append];exact hl) hvo)
 have HST:=Lib.hid hst;clear h hvo hr hown hc hst hL hk;have hbeh:Hid (∀ n',Calls Tryz.prog 106 #[v, .pointer (some ⟨bx,0,none⟩)] (w.drewN n') (BehindPost (w.drewN n') base v b r)):=Lib.hid (fun n'=>behind_any (w:=w.drewN n') hc'.out (HHR.out.drewN n') HOWN.out hb (by omega));clear hl;have hkeep:Hid (∀ w1 v1,(w.drewN 1).grownBy w1 v.ownBlock->(v1:Value).ownBlock=v.ownBlock\/v1.ownBlock=some (w.drewN 1).heap.size->(w1.cell? ⟨sb,0,none⟩=some (.pointer (some ⟨pb,0,none⟩))/\w1.cell? ⟨sb,1,none⟩=some (.string name))/\Moved (fun x=>v.ownBlock=some x) n pb db w o d w1 o d L/\∀ x,v1.ownBlock=some x->o x=none):=Lib.hid (fun w1 v1 hg hv1=>by
  have hm:Moved (fun x=>v.ownBlock=some x) n pb db w o d w1 o d L:=((Moved.refl _ H.out).drewN 1).grown hg (fun k hk=>⟨(HVO.out k hk).1, .inl hk⟩);have hs1:StreamAt w1 sb pb name sz:=HST.out.moved hm ho (fun e=>(HVO.out sb e).2 rfl);refine ⟨⟨hs1.cells.1,hs1.cells.2.1⟩,hm,fun x hx=>?_⟩;rcases hv1 with e | e
  ·rw [e] at hx;exact (HVO.out x hx).1
  ·rw [e] at hx;cases hx;exact H.out.fresh (Nat.le_refl _))
 have hkeep2:Hid (∀ w1 w2 d2 o2 L2,Moved (fun x=>v.ownBlock=some x) n pb db w o d w1 o d L->PoolAt w2 pb db n o2 d2 L2->Turn (o.In ofPool) w1 w2->OGrow w1.heap.size o o2->Onward d d2->(w2.cell? ⟨sb,0,none⟩=some (.pointer (some ⟨pb,0,none⟩))/\w2.cell? ⟨sb,1,none⟩=some (.string name))/\Moved (fun x=>v.ownBlock=some x) n pb db w o d w2 o2 d2 L2):=Lib.hid (fun w1 w2 d2 o2 L2 hm hp ht hg hon=>by
  have hm2:Moved (fun x=>v.ownBlock=some x) n pb db w o d w2 o2 d2 L2:=hm.trans (moved_of (S:=fun _=>False) hp ht hg hon) (fun _ _ h=>h.elim);have hs2:StreamAt w2 sb pb name sz:=HST.out.moved hm2 ho (fun e=>(HVO.out sb e).2 rfl);exact ⟨⟨hs2.cells.1,hs2.cells.2.1⟩,hm2⟩)
 unfold ptrTo;go_enter Tryz.func107,Tryz.ntmps107
 go_wp2;go_region_held3 (fun w'=>w'.cell? ⟨sb,0,none⟩=some (.pointer (some ⟨pb,0,none⟩))/\w'.cell? ⟨sb,1,none⟩=some (.string name)) (first | exact ⟨hc0,hc1⟩ | exact q1 | exact q2)
  (first
    | (go_at_call 106;refine (hbeh.out 1).mono ?_;rintro e w1 ⟨v1,rfl,ho1,hg1,hw1⟩;obtain ⟨q1,hm1,hf1⟩:=hkeep.out w1 v1 hg1 hw1)
    | (go_at_call 155;refine (hwr.out w1 o hm1.pool v1 ho1 hf1).mono ?_;rintro e w2 ⟨c2,d2,o2,rfl,hp2,ht2,hg2,hon2,he2⟩;obtain ⟨q2,hm2⟩:=hkeep2.out w1 w2 d2 o2 _ hm1 hp2 ht2 hg2 hon2))
 have HM2:=Lib.hid hm2;have HE2:=Lib.hid he2;clear hm2 he2 hp2 ht2 hg2 hon2 hm1 hg1 ho1 q1 q2;go_wp2;go_ret;exact ⟨c2,d2,o2,rfl,HM2.out,HE2.out⟩
theorem pagesOf_add {rs:List Rec} {r:Rec} (hs:Sized sz rs) (h1:1<=sz) (h2:sz<=240) :
 (rs=[]->pagesOf (per sz) (rs++[r])=setPage (pagesOf (per sz) rs) 0 ([]++r)/\(pagesOf (per sz) rs).length=0) /\
 ∀ q m b,(pagesOf (per sz) rs).length=q+1->(pagesOf (per sz) rs)[q]? = some b->b.length=sz*m->1<=m->m<=per sz->q*per sz+m=rs.length->b=(rs.drop (per sz*q)).flatten ->
  (sz*m+sz<=240->pagesOf (per sz) (rs++[r])=setPage (pagesOf (per sz) rs) q (b++r))/\(¬ sz*m+sz<=240->pagesOf (per sz) (rs++[r])=setPage (pagesOf (per sz) rs) (q+1) ([]++r)):=by
 have hp:=per_pos h1 h2;have hpm:=per_mul sz;have hpn:=per_next h1;refine ⟨fun e=>?_,fun q m b g1 g2 g3 g4 g5 g6 g7=>⟨fun hr=>?_,fun hr=>?_⟩⟩
 ·subst e;have:=pagesOf_new (rs:=[]) hp r (k:=0) (by simp);exact ⟨this.1,this.2⟩
 ·have hm:m < per sz:=by
   rcases Nat.lt_or_ge m (per sz) with h | h
   ·exact h
   ·have:m=per sz:=by omega
    subst this;rw [Nat.mul_succ] at hpn;omega
  rw [pagesOf_open hp r (k:=q) (by rw [Nat.mul_comm];omega) (by rw [Nat.mul_comm];omega),g7,List.take_of_length_le (by rw [List.length_drop,Nat.mul_comm];omega)]
 ·have hm:m=per sz:=by
   rcases Nat.lt_or_ge m (per sz) with h | h
   ·have:=Nat.mul_le_mul_left sz (show m+1<=per sz from h);rw [Nat.mul_succ] at this;omega
   ·omega
  have:=pagesOf_new (rs:=rs) hp r (k:=q+1) (by rw [Nat.mul_succ,Nat.mul_comm];omega);exact this.1
set_option maxRecDepth 100000 in
set_option maxHeartbeats 4000000 in
theorem streamAdd_any (HW:WriteSaid) (h:PoolAt w pb db n o d L) (hst:StreamAt w sb pb name sz) (ho:o sb=none) (h1:1<=sz) (h2:sz<=240) {rs:List Rec} {fl:Bool} (hL:mget L name=some (.inl (pagesOf (per sz) rs,fl))) (hs:Sized sz rs) (hN:rs.length < 65535)
 {rv:Value} {r:Rec} (hr:Rd w rv r) (hrl:r.length=sz) (hro:∀ x,rv.ownBlock=some x->o x=none) :
 Calls Tryz.prog 72 #[ptrTo sb,rv] w (LaidPost (fun _=>False) n pb db w o d L (mput L name (.inl (pagesOf (per sz) (rs++[r]),false)))):=by
 obtain ⟨hmost,hshort⟩:=h.paged hL;have hcall:Hid (∀ W,Below w.heap.size w W->Calls Tryz.prog 92 #[ptrTo pb, .string name] W fun e w'=>e=.returned (.tuple #[.int .i64 ((pagesAns d (pagesOf (per sz) rs)).1:Int), .int .i64 ((pagesAns d (pagesOf (per sz) rs)).2:Int)])/\Below W.heap.size W w'):=Lib.hid (fun W hW=>poolPages_sound (h.below hW) hL);have hread:Hid (∀ W,Below w.heap.size w W->∀ (k:Nat) (b:Pg),(pagesOf (per sz) rs)[k]? = some b->Calls Tryz.prog 93 #[ptrTo pb, .string name, .int .i64 (k:Int)] W (ReadPagePost W pb db n o d L b)):=Lib.hid (fun W hW k b hk=>poolRead_any HW (h.below hW) hL hk);have hturn:Hid (∀ W o' d',PoolAt W pb db n o' d' L->StreamAt W sb pb name sz->o' sb=none->∀ bx,W.cell? ⟨bx,0,none⟩=some rv->Rd W rv r->∀ (k base:Nat) (v:Value) (b:Pg),k<=(pagesOf (per sz) rs).length->k < 65536->W.ownsRow base 5 1 v b.length (b.map bv)->(∀ x,v.ownBlock=some x->o' x=none/\x≠sb)->base<=W.heap.size->b.length+r.length<=240 ->
  Calls Tryz.prog 107 #[ptrTo sb, .int .i64 (k:Int),v, .func (.func 106) #[] #[.pointer (some ⟨bx,0,none⟩)]] W (LaidPost (fun x=>v.ownBlock=some x) n pb db W o' d' L (mput L name (.inl (setPage (pagesOf (per sz) rs) k (b++r),false))))):=
  Lib.hid (fun W o' d' hW hst' ho' bx hc hr' k base v b h1 h2 h3 h4 h5 h6=>turnAdd_any HW hW hst' ho' hL h1 h2 hc hr' h3 h4 h5 h6)
 have HADD:=Lib.hid (pagesOf_add (r:=r) hs h1 h2);have H:=Lib.hid h;have HST:=Lib.hid hst;have HO:=Lib.hid ho;have HRO:=Lib.hid hro;have HRR:=Lib.hid hr;have hsl:=hst.lt;obtain ⟨-,-,hc2⟩:=hst.cells;obtain ⟨ra,rc,rfl,-⟩:=hr;have hfacts:=Lib.hid (fun hN=>last_facts (rs:=rs) hs h1 h2 hN);have hpp:=per_mul sz;rw [hrl] at *;have hPN:(pagesOf (per sz) rs).length<=rs.length:=by
  rcases Nat.eq_zero_or_pos rs.length with hz | hp
  ·have:=List.eq_nil_of_length_eq_zero hz;rw [((HADD.out.1 this).2),hz];exact Nat.le_refl _
  ·obtain ⟨q,m,b,f1,f2,f3,f4,f5,f6,f7⟩:=hfacts.out hp;have h3:=per_pos h1 h2;have h4:q<=q*per sz:=Nat.le_mul_of_pos_right q h3;omega
 clear h hst ho hro hL hs hshort;unfold ptrTo at *;have HBW:Hid (Below w.heap.size w (w.alloc (.cells #[.slice ra sz rc] 39))):=Lib.hid ((Below.refl _ _).alloc (Nat.le_refl _) _);have HBX:Hid ((w.alloc (.cells #[.slice ra sz rc] 39)).cell? ⟨w.heap.size,0,none⟩=some (.slice ra sz rc)):=Lib.hid (by simp);have hxl:w.heap.size < (w.alloc (.cells #[.slice ra sz rc] 39)).heap.size:=by simp
 unfold pagesAns at hcall;cases hd:d.dead with
 | true=>
   rw [hd,if_pos rfl] at hcall;have HD:=Lib.hid hd;clear hd;dsimp only at hcall;go_enter Tryz.func72,Tryz.ntmps72
   go_wp2;go_quiet (fail)
   go_wp2;have HB1:Hid (Below w.heap.size w ((w.alloc (.cells #[.slice ra sz rc] 39)).drewN nq)):=Lib.hid (below_drewN HBW.out _);generalize (w.alloc (.cells #[.slice ra sz rc] 39)).drewN nq=w1 at *;refine wq w1 ?_;iterate 3 (refine qo (fun K hK=>?_);go_simp;refine hK _ ?_;clear hK K)
   refine qo (fun K hK=>?_) (fun w' hw'=>by have hc:=((HST.out.below HB1.out).below hw').cells.1;unfold ptrTo at hc;go_simp<;>rfl);go_simp;refine hK _ ?_;clear hK K;iterate 3 (refine qo (fun K hK=>?_);go_simp;refine hK _ ?_;clear hK K)
   refine qo (fun K hK=>?_) (fun w' hw'=>by have hc:=((HST.out.below HB1.out).below hw').cells.2.1;go_simp<;>rfl);go_simp;refine hK _ ?_;clear hK K;refine qc (fun w' hw'=>(hcall.out w' (HB1.out.trans (hw'.mono HB1.out.size))).mono (fun e w'' h=>⟨h.1,hw'.trans (h.2.mono hw'.size)⟩)) (fun K hK=>?_);go_simp;refine hK _ ?_;clear hK K;iterate 5 (refine qo (fun K hK=>?_);go_simp;refine hK _ ?_;clear hK K)
   refine wpQuiet_nil ?_;intro w2 hw2;have HB2:Hid (Below w.heap.size w w2):=Lib.hid (HB1.out.trans (hw2.mono HB1.out.size));clear hw2;go_wp2;go_ret;exact ⟨6,d,o,rfl,Moved.ofBelow H.out HB2.out, .inr (.inr ⟨rfl,HD.out⟩)⟩
 | false=>
   rw [hd,if_neg (by simp)] at hcall;clear hd;dsimp only at hcall;rcases Nat.eq_zero_or_pos rs.length with hz | hNp
   ·have hnil:=List.eq_nil_of_length_eq_zero hz;obtain ⟨ha1,ha2⟩:=HADD.out.1 hnil;rw [ha2] at hcall;have HA1:=Lib.hid ha1;have HA2:=Lib.hid ha2;clear hz hnil ha1 ha2;go_enter Tryz.func72,Tryz.ntmps72
    go_wp2;go_quiet (fail)
    go_wp2;have HB1:Hid (Below w.heap.size w ((w.alloc (.cells #[.slice ra sz rc] 39)).drewN nq)):=Lib.hid (below_drewN HBW.out _);have HBX1:Hid (((w.alloc (.cells #[.slice ra sz rc] 39)).drewN nq).cell? ⟨w.heap.size,0,none⟩=some (.slice ra sz rc)):=Lib.hid HBX.out;have hxl1:w.heap.size < ((w.alloc (.cells #[.slice ra sz rc] 39)).drewN nq).heap.size:=hxl;generalize (w.alloc (.cells #[.slice ra sz rc] 39)).drewN nq=w1 at *;refine wq w1 ?_;iterate 3 (refine qo (fun K hK=>?_);go_simp;refine hK _ ?_;clear hK K)
    refine qo (fun K hK=>?_) (fun w' hw'=>by have hc:=((HST.out.below HB1.out).below hw').cells.1;unfold ptrTo at hc;go_simp<;>rfl);go_simp;refine hK _ ?_;clear hK K;iterate 3 (refine qo (fun K hK=>?_);go_simp;refine hK _ ?_;clear hK K)
    refine qo (fun K hK=>?_) (fun w' hw'=>by have hc:=((HST.out.below HB1.out).below hw').cells.2.1;go_simp<;>rfl);go_simp;refine hK _ ?_;clear hK K;refine qc (fun w' hw'=>(hcall.out w' (HB1.out.trans (hw'.mono HB1.out.size))).mono (fun e w'' h=>⟨h.1,hw'.trans (h.2.mono hw'.size)⟩)) (fun K hK=>?_);go_simp;refine hK _ ?_;clear hK K;iterate 5 (refine qo (fun K hK=>?_);go_simp;refine hK _ ?_;clear hK K)
    refine wpQuiet_nil ?_;intro w2 hw2;have HB2:Hid (Below w.heap.size w w2):=Lib.hid (HB1.out.trans (hw2.mono HB1.out.size));have HBX2:Hid (w2.cell? ⟨w.heap.size,0,none⟩=some (.slice ra sz rc)):=Lib.hid (by rw [hw2.cell (p:=⟨w.heap.size,0,none⟩) hxl1];exact HBX1.out);clear hw2;go_wp2_with fail
    refine (hturn.out w2 o d (H.out.below HB2.out) (HST.out.below HB2.out) HO.out w.heap.size HBX2.out (HRR.out.below HB2.out) 0 0 (.slice none 0 0) [] (Nat.zero_le _) (by decide) (ownsRow_nil _ _ _) (fun x hx=>by cases hx) (Nat.zero_le _) (by simp;omega)).mono ?_;rintro e w3 ⟨c3,d3,o3,rfl,hm3,he3⟩;rw [<- HA1.out] at hm3;have HM3:=Lib.hid ((Moved.ofBelow (S:=fun _=>False) H.out HB2.out).trans hm3 (fun x _ e=>by cases e));have HE3:=Lib.hid he3;clear hm3 he3;go_wp2;go_ret;exact ⟨c3,d3,o3,rfl,HM3.out,HE3.out⟩
   ·obtain ⟨q,m,b,f1,f2,f3,f4,f5,f6,f7⟩:=hfacts.out hNp;have hread':Hid (∀ W,Below w.heap.size w W->Calls Tryz.prog 93 #[.pointer (some ⟨pb,0,none⟩), .string name, .int .i64 (q:Int)] W (ReadPagePost W pb db n o d L b)):=Lib.hid (fun W hW=>hread.out W hW q b f2);have HPUT:=Lib.hid (HADD.out.2 q m b f1 f2 f3 f4 f5 f6 f7);have hq:q < 65535:=by omega
    have hm:sz*m<=240:=Nat.le_trans (Nat.mul_le_mul_left sz f5) hpp;have HF1:=Lib.hid f1;have hwq:IntKind.i64.wrap (((q+1:Nat):Int) - 1)=(q:Int):=by rw [wrap_in (by omega) (by omega)];omega
    have hwq':=Lib.hid hwq;rw [f1] at hcall;obtain ⟨P,hP⟩:∃ P,P=q+1:=⟨_,rfl⟩;rw [<- hP] at hcall hwq';have HP:=Lib.hid hP;have hPb:P<=65535:=by omega
    have hP0:(P:Int) > 0:=by omega
    have hBb:b.length<=240:=by omega
    have HBL:=Lib.hid f3;clear f1 f2 f3 f4 f6 f7 hwq hP hread;go_enter Tryz.func72,Tryz.ntmps72
    go_wp2;go_quiet (fail)
    go_wp2;have HB1:Hid (Below w.heap.size w ((w.alloc (.cells #[.slice ra sz rc] 39)).drewN nq)):=Lib.hid (below_drewN HBW.out _);have HBX1:Hid (((w.alloc (.cells #[.slice ra sz rc] 39)).drewN nq).cell? ⟨w.heap.size,0,none⟩=some (.slice ra sz rc)):=Lib.hid HBX.out;have hxl1:w.heap.size < ((w.alloc (.cells #[.slice ra sz rc] 39)).drewN nq).heap.size:=hxl;generalize (w.alloc (.cells #[.slice ra sz rc] 39)).drewN nq=w1 at *;refine wq w1 ?_;iterate 3 (refine qo (fun K hK=>?_);go_simp;refine hK _ ?_;clear hK K)
    refine qo (fun K hK=>?_) (fun w' hw'=>by have hc:=((HST.out.below HB1.out).below hw').cells.1;unfold ptrTo at hc;go_simp<;>rfl);go_simp;refine hK _ ?_;clear hK K;iterate 3 (refine qo (fun K hK=>?_);go_simp;refine hK _ ?_;clear hK K)
    refine qo (fun K hK=>?_) (fun w' hw'=>by have hc:=((HST.out.below HB1.out).below hw').cells.2.1;go_simp<;>rfl);go_simp;refine hK _ ?_;clear hK K;refine qc (fun w' hw'=>(hcall.out w' (HB1.out.trans (hw'.mono HB1.out.size))).mono (fun e w'' h=>⟨h.1,hw'.trans (h.2.mono hw'.size)⟩)) (fun K hK=>?_);go_simp;refine hK _ ?_;clear hK K;iterate 5 (refine qo (fun K hK=>?_);go_simp;refine hK _ ?_;clear hK K)
    refine wpQuiet_nil ?_;intro w2 hw2;have HB2:Hid (Below w.heap.size w w2):=Lib.hid (HB1.out.trans (hw2.mono HB1.out.size));have HBX2:Hid (w2.cell? ⟨w.heap.size,0,none⟩=some (.slice ra sz rc)):=Lib.hid (by rw [hw2.cell (p:=⟨w.heap.size,0,none⟩) hxl1];exact HBX1.out);have HST2:=Lib.hid (HST.out.below HB2.out);have hxl2:w.heap.size < w2.heap.size:=Nat.lt_of_lt_of_le hxl1 hw2.size;clear hw2 hxl hxl1;go_wp2;refine wp_region_mid (Below w2.heap.size w2) 10 rfl (by kernel_rfl) (by kernel_rfl) ((Below.refl _ _).drew) ?_;simp only [List.take_succ_cons,List.take_zero];iterate 3 (refine qo (fun K hK=>?_);go_simp;refine hK _ ?_;clear hK K)
    refine qo (fun K hK=>?_) (fun w' hw'=>by have hc:=(HST2.out.below hw').cells.1;unfold ptrTo at hc;go_simp<;>rfl);go_simp;refine hK _ ?_;clear hK K;iterate 3 (refine qo (fun K hK=>?_);go_simp;refine hK _ ?_;clear hK K)
    refine qo (fun K hK=>?_) (fun w' hw'=>by have hc:=(HST2.out.below hw').cells.2.1;go_simp<;>rfl);go_simp;refine hK _ ?_;clear hK K;refine qo (fun K hK=>?_);go_simp;refine hK _ ?_;clear hK K;refine qo (fun K hK=>?_) (fun w' hw'=>by have hx:=hwq'.out;go_simp<;>rfl);go_simp;refine hK _ ?_;clear hK K;refine wpQuiet_nil ?_;intro w3 hw3;refine ⟨_,_,rfl,(by go_simp<;>exact ⟨rfl,rfl⟩),?_⟩;have HB3:Hid (Below w.heap.size w w3):=Lib.hid (HB2.out.trans (hw3.mono HB2.out.size));have HBX3:Hid (w3.cell? ⟨w.heap.size,0,none⟩=some (.slice ra sz rc)):=Lib.hid (by rw [hw3.cell (p:=⟨w.heap.size,0,none⟩) hxl2];exact HBX2.out);refine (hread'.out w3 HB3.out).mono ?_;rintro e w4 ⟨v4,c4,d4,o4,rfl,hp4,ht4,hg4,hon4,he4,hok4,hbad4⟩;have hm34:Moved (fun _=>False) n pb db w3 o d w4 o4 d4 L:=moved_of (S:=fun _=>False) hp4 ht4 hg4 hon4;have HM4:Hid (Moved (fun _=>False) n pb db w o d w4 o4 d4 L):=Lib.hid ((Moved.ofBelow H.out HB3.out).trans hm34 (fun _ _ h=>h));have HE4:=Lib.hid he4;have HST4:=Lib.hid (HST.out.moved HM4.out HO.out (fun h=>h));have HO4:Hid (o4 sb=none):=Lib.hid (HM4.out.free hsl HO.out);have HBX4:Hid (w4.cell? ⟨w.heap.size,0,none⟩=some (.slice ra sz rc)):=Lib.hid (hm34.cell HBX3.out (H.out.fresh (Nat.le_refl _)) (fun h=>h));have HR4:Hid (Rd w4 (.slice ra sz rc) r):=Lib.hid (HM4.out.rd HRR.out (fun x hx=>⟨HRO.out x hx,fun h=>h⟩));have hs4:w.heap.size<=w3.heap.size:=HB3.out.size;clear hw3 hp4 ht4 hg4 hon4 he4 hm34;by_cases hc4:c4=0
    ·subst hc4;obtain ⟨ho4,hf4⟩:=hok4 rfl;obtain ⟨a4,k4,rfl⟩:=ownsRow_slice ho4;have HO4':=Lib.hid (ownsRow_base ho4 hs4);have HV4:Hid (∀ x,(Value.slice a4 b.length k4).ownBlock=some x->o4 x=none/\x≠sb):=Lib.hid (fun x hx=>⟨hf4 x hx,fun e=>by have:=ownsRow_block ho4 x hx;omega⟩);have HV4':Hid (∀ x,(Value.slice a4 b.length k4).ownBlock=some x->w.heap.size<=x):=Lib.hid (fun x hx=>by have:=ownsRow_block ho4 x hx;omega);have hs5:w.heap.size<=w4.heap.size:=HM4.out.size;clear hok4 hbad4 ho4 hf4;refine ⟨_,rfl,?_⟩;go_simp;iterate 5 (refine qo (fun K hK=>?_);go_simp;refine hK _ ?_;clear hK K)
     refine wpQuiet_nil ?_;have hc5:=HST4.out.cells.2.2;have hwqq:=hwq'.out;by_cases hroom:b.length+sz<=240
     ·have hroom':(b.length:Int)+(sz:Int)<=240:=by omega
      have hL':=HPUT.out.1 (by have:=HBL.out;omega);have HL':=Lib.hid hL';clear hL';go_wp2_with fail
      refine (hturn.out w4 o4 d4 HM4.out.pool HST4.out HO4.out w.heap.size HBX4.out HR4.out q w.heap.size _ b (by have:=HF1.out;omega) (by omega) HO4'.out HV4.out hs5 hroom).mono ?_;rintro e w5 ⟨c5,d5,o5,rfl,hm5,he5⟩;rw [<- HL'.out] at hm5;have HM5:=Lib.hid (HM4.out.trans hm5 (fun x hx e=>by have:=HV4'.out x e;omega));have HE5:=Lib.hid (he5.imp id (Err.later HM4.out.on.quota));clear hm5 he5;go_wp2;go_ret;exact ⟨c5,d5,o5,rfl,HM5.out,HE5.out⟩
     ·have hroom':¬ (b.length:Int)+(sz:Int)<=240:=by omega
      have hL':=HPUT.out.2 (by have:=HBL.out;omega);have HL':=Lib.hid hL';clear hL';go_wp2_with fail
      refine (hturn.out w4 o4 d4 HM4.out.pool HST4.out HO4.out w.heap.size HBX4.out HR4.out P 0 (.slice none 0 0) [] (by have:=HF1.out;have:=HP.out;omega) (by omega) (ownsRow_nil _ _ _) (fun x hx=>by cases hx) (Nat.zero_le _) (by simp;omega)).mono ?_;rintro e w5 ⟨c5,d5,o5,rfl,hm5,he5⟩;rw [HP.out,<- HL'.out] at hm5;have HM5:=Lib.hid (HM4.out.trans hm5 (fun x hx e=>by cases e));have HE5:=Lib.hid (he5.imp id (Err.later HM4.out.on.quota));clear hm5 he5;go_wp2;go_ret;exact ⟨c5,d5,o5,rfl,HM5.out,HE5.out⟩
    ·obtain rfl:=hbad4 hc4;have hc4':¬ (c4:Int)=0:=by omega
     have HC4:=Lib.hid hc4;clear hc4 hok4 hbad4;refine ⟨_,rfl,?_⟩;go_simp;iterate 5 (refine qo (fun K hK=>?_);go_simp;refine hK _ ?_;clear hK K)
     refine wpQuiet_nil ?_;go_wp2;go_ret;exact ⟨c4,d4,o4,rfl,by rw [if_neg HC4.out];exact HM4.out,HE4.out⟩
end
end
section
open Go.RowKit
abbrev Edg.cells (e:Edg):List Value:=[.int .u32 (e.t.toNat:Int), .int .u32 (e.h.toNat:Int), .int .u64 (e.x.toNat:Int), .int .u32 (e.m.toNat:Int)]
def Edg.bytes (e:Edg):Rec:=edgeBytes e.t.toNat e.h.toNat e.x.toNat e.m.toNat
theorem Edg.bytes_length (e:Edg):e.bytes.length=20:=by simp [Edg.bytes,edgeBytes,le_length]
theorem Edg.bytes_read (e:Edg):unle (e.bytes.take 4)=e.t.toNat/\unle ((e.bytes.drop 4).take 4)=e.h.toNat/\unle ((e.bytes.drop 8).take 8)=e.x.toNat/\unle ((e.bytes.drop 16).take 4)=e.m.toNat:=by
 have h1:=e.t.toNat_lt;have h2:=e.h.toNat_lt;have h3:=e.x.toNat_lt;have h4:=e.m.toNat_lt;have l4:∀ x,(le x 4).length=4:=fun x=>le_length x 4;have l8:∀ x,(le x 8).length=8:=fun x=>le_length x 8;have e1:e.bytes=le e.t.toNat 4++(le e.h.toNat 4++(le e.x.toNat 8++le e.m.toNat 4)):=by simp [Edg.bytes,edgeBytes]
 have e2:e.bytes.drop 4=le e.h.toNat 4++(le e.x.toNat 8++le e.m.toNat 4):=by rw [e1];exact drop_app _ _ _ (l4 _)
 have e3:e.bytes.drop 8=le e.x.toNat 8++le e.m.toNat 4:=by rw [show 8=4+4 from rfl,<- List.drop_drop,e2];exact drop_app _ _ _ (l4 _)
 have e4:e.bytes.drop 16=le e.m.toNat 4:=by rw [show 16=8+8 from rfl,<- List.drop_drop,e3];exact drop_app _ _ _ (l8 _)
 refine ⟨?_,?_,?_,?_⟩
 ·rw [e1,take_app _ _ _ (l4 _),unle_le];exact Nat.mod_eq_of_lt h1
 ·rw [e2,take_app _ _ _ (l4 _),unle_le];exact Nat.mod_eq_of_lt h2
 ·rw [e3,take_app _ _ _ (l8 _),unle_le];exact Nat.mod_eq_of_lt h3
 ·rw [e4,List.take_of_length_le (by rw [l4];omega),unle_le];exact Nat.mod_eq_of_lt h4
theorem readEdg_any (v:Value) (e:Edg) (w:World) (hv:Rd w v e.bytes) :
 Calls Tryz.prog 68 #[v] w (Gives (.tuple #[.agg #[.int .u32 (e.t.toNat:Int), .int .u32 (e.h.toNat:Int), .int .u64 (e.x.toNat:Int), .int .u32 (e.m.toNat:Int)], .int .i64 0]) w):=by
 have h:=readEdge_any v e.bytes w e.bytes_length hv;obtain ⟨h1,h2,h3,h4⟩:=e.bytes_read;rw [h1,h2,h3,h4] at h;exact h
theorem edgBytes_any (e:Edg) (w:World):Calls Tryz.prog 208 #[.agg #[.int .u32 (e.t.toNat:Int), .int .u32 (e.h.toNat:Int), .int .u64 (e.x.toNat:Int), .int .u32 (e.m.toNat:Int)]] w (NewBytes w e.bytes):=edge_any _ _ _ _ w
structure Vrt where
 r:UInt32
 l:UInt32
 g:UInt32
def Vrt.bytes (v:Vrt):Rec:=vertBytes v.r.toNat v.l.toNat v.g.toNat
theorem Vrt.bytes_length (v:Vrt):v.bytes.length=12:=by simp [Vrt.bytes,vertBytes,le_length]
theorem Vrt.bytes_read (v:Vrt):unle (v.bytes.take 4)=v.r.toNat/\unle ((v.bytes.drop 4).take 4)=v.l.toNat/\unle ((v.bytes.drop 8).take 4)=v.g.toNat:=by
 have h1:=v.r.toNat_lt;have h2:=v.l.toNat_lt;have h3:=v.g.toNat_lt;have l4:∀ x,(le x 4).length=4:=fun x=>le_length x 4;have e1:v.bytes=le v.r.toNat 4++(le v.l.toNat 4++le v.g.toNat 4):=by simp [Vrt.bytes,vertBytes]
 have e2:v.bytes.drop 4=le v.l.toNat 4++le v.g.toNat 4:=by rw [e1];exact drop_app _ _ _ (l4 _)
 have e3:v.bytes.drop 8=le v.g.toNat 4:=by rw [show 8=4+4 from rfl,<- List.drop_drop,e2];exact drop_app _ _ _ (l4 _)
 refine ⟨?_,?_,?_⟩
 ·rw [e1,take_app _ _ _ (l4 _),unle_le];exact Nat.mod_eq_of_lt h1
 ·rw [e2,take_app _ _ _ (l4 _),unle_le];exact Nat.mod_eq_of_lt h2
 ·rw [e3,List.take_of_length_le (by rw [l4];omega),unle_le];exact Nat.mod_eq_of_lt h3
theorem readVrt_any (v:Value) (x:Vrt) (w:World) (hv:Rd w v x.bytes) :
 Calls Tryz.prog 58 #[v] w (Gives (.tuple #[.agg #[.int .u32 (x.r.toNat:Int), .int .u32 (x.l.toNat:Int), .int .u32 (x.g.toNat:Int)], .int .i64 0]) w):=by
 have h:=readVert_any v x.bytes w x.bytes_length hv;obtain ⟨h1,h2,h3⟩:=x.bytes_read;rw [h1,h2,h3] at h;exact h
theorem vrtBytes_any (x:Vrt) (w:World):Calls Tryz.prog 78 #[.agg #[.int .u32 (x.r.toNat:Int), .int .u32 (x.l.toNat:Int), .int .u32 (x.g.toNat:Int)]] w (NewBytes w x.bytes):=vert_any _ _ _ w
def cmpE (b:Bool) (x y:Edg):Int:=if pk b x < pk b y then -1 else if pk b y < pk b x then 1 else if rk x < rk y then -1 else if rk y < rk x then 1 else 0
theorem cmpE_neg (b:Bool) (x y:Edg):cmpE b x y < 0 ↔ (pk b x < pk b y\/pk b x=pk b y/\rk x < rk y):=by
 unfold cmpE;split
 ·simp;omega
 ·split
  ·simp;omega
  ·split
   ·simp;omega
   ·split
    ·simp;omega
    ·simp;omega
theorem cmpE_ahead (b:Bool) (x y:Edg):¬ cmpE b y x < 0 ↔ Ahead b x y:=by
 rw [cmpE_neg];unfold Ahead;omega
theorem swo_cmpE (b:Bool):Go.Sort.SWO (ltOf (cmpE b)):=by
 have h:∀ x y,ltOf (cmpE b) x y=decide (pk b x < pk b y\/pk b x=pk b y/\rk x < rk y):=fun x y=>by
  unfold ltOf;rw [decide_eq_decide];exact cmpE_neg b x y
 refine ⟨fun x=>?_,fun x y z h1 h2=>?_,fun x y z h1 h2=>?_⟩
 ·rw [h];simp
 ·rw [h,decide_eq_true_eq] at *;omega
 ·rw [h,decide_eq_false_iff_not] at *;omega
def Grew (w w':World):Prop:=∃ q os,w'=Go.Sort.grow (w.drewN q) os
theorem Grew.refl (w:World):Grew w w:=⟨0,#[],by simp [World.drewN]⟩
theorem Grew.trans {a b c:World} (h:Grew a b) (k:Grew b c):Grew a c:=by
 obtain ⟨q,os,rfl⟩:=h;obtain ⟨q',os',rfl⟩:=k;exact ⟨q+q',os++os',by simp [Go.Sort.grow,World.drewN,Nat.add_assoc]⟩
theorem Grew.alloc {a b:World} (h:Grew a b) (ob:Obj):Grew a (b.alloc ob):=h.trans ⟨0,#[ob],by rw [Go.Sort.alloc_eq_grow];simp [World.drewN]⟩
theorem Grew.drewN {a b:World} (h:Grew a b) (n:Nat):Grew a (b.drewN n):=h.trans ⟨n,#[],by simp⟩
theorem Grew.drew {a b:World} (h:Grew a b):Grew a b.drew:=h.trans ⟨1,#[],(Go.Sort.grow_empty _).symm⟩
theorem Grew.below {a b:World} (h:Grew a b):Below a.heap.size a b:=by
 obtain ⟨q,os,rfl⟩:=h;exact ⟨rfl,rfl,rfl,by simp [World.drewN],fun k hk=>Go.Sort.heap_grow_old _ _ hk⟩
theorem Grew.cell {a b:World} (h:Grew a b) {p:Addr} {v:Value} (hc:a.cell? p=some v):b.cell? p=some v:=by
 rw [h.below.cell (World.block_lt_of_cell? _ _ hc)];exact hc
def cmpN (a b:Nat):Int:=if a < b then -1 else if b < a then 1 else 0
theorem cmpN_cases (a b:Nat):(a < b/\cmpN a b=-1)\/(b < a/\cmpN a b=1)\/(a=b/\cmpN a b=0):=by
 unfold cmpN;split
 ·exact .inl ⟨by assumption,rfl⟩
 ·split
  ·exact .inr (.inl ⟨by assumption,rfl⟩)
  ·exact .inr (.inr ⟨by omega,rfl⟩)
set_option maxHeartbeats 1000000 in
theorem cmp64_any (a b:Nat) (w:World):Calls Tryz.prog 205 #[.int .u64 (a:Int), .int .u64 (b:Int)] w fun e w'=>e=.returned (.int .i64 (cmpN a b))/\w=w':=by
 rcases cmpN_cases a b with ⟨h1,h2⟩ | ⟨h1,h2⟩ | ⟨h1,h2⟩
 ·have H:=Lib.hid h2;clear h2;have g1:(a:Int) < (b:Int):=by omega
  go_enter Tryz.func205,Tryz.ntmps205
  go_wp2;go_ret;exact ⟨by rw [H.out];rfl,rfl⟩
 ·have H:=Lib.hid h2;clear h2;have g1:¬ (a:Int) < (b:Int):=by omega
  have g2:(a:Int) > (b:Int):=by omega
  go_enter Tryz.func205,Tryz.ntmps205
  go_wp2;go_ret;exact ⟨by rw [H.out];rfl,rfl⟩
 ·subst h1;have H:=Lib.hid h2;clear h2;go_enter Tryz.func205,Tryz.ntmps205
  go_wp2;go_ret;exact ⟨by rw [H.out];rfl,rfl⟩
set_option maxHeartbeats 1000000 in
theorem cmp32_any (a b:Nat) (w:World):Calls Tryz.prog 206 #[.int .u32 (a:Int), .int .u32 (b:Int)] w fun e w'=>e=.returned (.int .i64 (cmpN a b))/\w=w':=by
 rcases cmpN_cases a b with ⟨h1,h2⟩ | ⟨h1,h2⟩ | ⟨h1,h2⟩
 ·have H:=Lib.hid h2;clear h2;have g1:(a:Int) < (b:Int):=by omega
  go_enter Tryz.func206,Tryz.ntmps206
  go_wp2;go_ret;exact ⟨by rw [H.out];rfl,rfl⟩
 ·have H:=Lib.hid h2;clear h2;have g1:¬ (a:Int) < (b:Int):=by omega
  have g2:(a:Int) > (b:Int):=by omega
  go_enter Tryz.func206,Tryz.ntmps206
  go_wp2;go_ret;exact ⟨by rw [H.out];rfl,rfl⟩
 ·subst h1;have H:=Lib.hid h2;clear h2;go_enter Tryz.func206,Tryz.ntmps206
  go_wp2;go_ret;exact ⟨by rw [H.out];rfl,rfl⟩
def first2 (x y:Int):Int:=if x=0 then y else x
set_option maxHeartbeats 1000000 in
theorem first_any (x y:Int) (b:Nat) (w:World) (hx:w.cell? ⟨b,0,none⟩=some (.int .i64 x)) (hy:w.cell? ⟨b,1,none⟩=some (.int .i64 y)) :
 Calls Tryz.prog 293 #[.slice (some ⟨b,0,none⟩) 2 2] w fun e w'=>e=.returned (.int .i64 (first2 x y))/\w=w':=by
 by_cases h1:x=0
 ·subst h1;by_cases h2:y=0
  ·subst h2;go_enter Tryz.func293,Tryz.ntmps293
   go_wp2;refine wp_loop_rounds 3 ?_;iterate 3 (rw [rounds_succ];go_wp2)
   go_ret;exact ⟨rfl,rfl⟩
  ·go_enter Tryz.func293,Tryz.ntmps293
   go_wp2;refine wp_loop_rounds 2 ?_;iterate 2 (rw [rounds_succ];go_wp2)
   go_ret;exact ⟨rfl,rfl⟩
 ·have H:=Lib.hid h1;go_enter Tryz.func293,Tryz.ntmps293
  go_wp2;refine wp_loop_rounds 1 ?_;iterate 1 (rw [rounds_succ];go_wp2)
  go_ret;exact ⟨by unfold first2;rw [if_neg H.out];rfl,rfl⟩
def betterB (x y:Edg):Bool:=decide (rk x < rk y)
theorem first2_rk (x y:Edg):decide (first2 (cmpN x.x.toNat y.x.toNat) (cmpN ((x.m.toNat+1) % 4294967296) ((y.m.toNat+1) % 4294967296)) < 0)=betterB x y:=by
 have h1:=x.m.toNat_lt;have h2:=y.m.toNat_lt;unfold betterB rk first2;rw [decide_eq_decide];rcases cmpN_cases x.x.toNat y.x.toNat with ⟨g1,g2⟩ | ⟨g1,g2⟩ | ⟨g1,g2⟩
 ·rw [g2,if_neg (by decide)];omega
 ·rw [g2,if_neg (by decide)];omega
 ·rw [g2,if_pos rfl];rcases cmpN_cases ((x.m.toNat+1) % 4294967296) ((y.m.toNat+1) % 4294967296) with ⟨k1,k2⟩ | ⟨k1,k2⟩ | ⟨k1,k2⟩<;>rw [k2]<;>omega
set_option maxRecDepth 100000 in
set_option maxHeartbeats 2000000 in
theorem better_any (x y:Edg) (w:World) :
 Calls Tryz.prog 262 #[.agg #[.int .u32 (x.t.toNat:Int), .int .u32 (x.h.toNat:Int), .int .u64 (x.x.toNat:Int), .int .u32 (x.m.toNat:Int)], .agg #[.int .u32 (y.t.toNat:Int), .int .u32 (y.h.toNat:Int), .int .u64 (y.x.toNat:Int), .int .u32 (y.m.toNat:Int)]] w
  fun e w'=>e=.returned (.bool (betterB x y))/\Grew w w':=by
 have hf:=Lib.hid (first2_rk x y);have hw1:IntKind.u32.wrap ((x.m.toNat:Int)+1)=(((x.m.toNat+1) % 4294967296:Nat):Int):=by rw [IntKind.wrap_u32];omega
 have hw2:IntKind.u32.wrap ((y.m.toNat:Int)+1)=(((y.m.toNat+1) % 4294967296:Nat):Int):=by rw [IntKind.wrap_u32];omega
 generalize x.t.toNat=xt at *;generalize x.h.toNat=xh at *;generalize x.x.toNat=xx at *;generalize x.m.toNat=xm at *;generalize y.t.toNat=yt at *;generalize y.h.toNat=yh at *;generalize y.x.toNat=yx at *;generalize y.m.toNat=ym at *;generalize (xm+1) % 4294967296=xm1 at *;generalize (ym+1) % 4294967296=ym1 at *;go_enter Tryz.func262,Tryz.ntmps262
 have HG:Hid (Grew w ((w.alloc (.cells #[.int .u32 (xt:Int), .int .u32 (xh:Int), .int .u64 (xx:Int), .int .u32 (xm:Int)] 64)).alloc (.cells #[.int .u32 (yt:Int), .int .u32 (yh:Int), .int .u64 (yx:Int), .int .u32 (ym:Int)] 64))):=Lib.hid (((Grew.refl w).alloc _).alloc _);go_wp2;have k1:((w.alloc (.cells #[.int .u32 (xt:Int), .int .u32 (xh:Int), .int .u64 (xx:Int), .int .u32 (xm:Int)] 64)).alloc (.cells #[.int .u32 (yt:Int), .int .u32 (yh:Int), .int .u64 (yx:Int), .int .u32 (ym:Int)] 64)).cell? ⟨w.heap.size,2,none⟩=some (.int .u64 (xx:Int)):=by simp
 have k2:((w.alloc (.cells #[.int .u32 (xt:Int), .int .u32 (xh:Int), .int .u64 (xx:Int), .int .u32 (xm:Int)] 64)).alloc (.cells #[.int .u32 (yt:Int), .int .u32 (yh:Int), .int .u64 (yx:Int), .int .u32 (ym:Int)] 64)).cell? ⟨w.heap.size,3,none⟩=some (.int .u32 (xm:Int)):=by simp
 have k3:((w.alloc (.cells #[.int .u32 (xt:Int), .int .u32 (xh:Int), .int .u64 (xx:Int), .int .u32 (xm:Int)] 64)).alloc (.cells #[.int .u32 (yt:Int), .int .u32 (yh:Int), .int .u64 (yx:Int), .int .u32 (ym:Int)] 64)).cell? ⟨w.heap.size+1,2,none⟩=some (.int .u64 (yx:Int)):=by simp
 have k4:((w.alloc (.cells #[.int .u32 (xt:Int), .int .u32 (xh:Int), .int .u64 (xx:Int), .int .u32 (xm:Int)] 64)).alloc (.cells #[.int .u32 (yt:Int), .int .u32 (yh:Int), .int .u64 (yx:Int), .int .u32 (ym:Int)] 64)).cell? ⟨w.heap.size+1,3,none⟩=some (.int .u32 (ym:Int)):=by simp
 have K1:=Lib.hid k1;have K2:=Lib.hid k2;have K3:=Lib.hid k3;have K4:=Lib.hid k4;clear k1 k2 k3 k4;generalize ((w.alloc (.cells #[.int .u32 (xt:Int), .int .u32 (xh:Int), .int .u64 (xx:Int), .int .u32 (xm:Int)] 64)).alloc (.cells #[.int .u32 (yt:Int), .int .u32 (yh:Int), .int .u64 (yx:Int), .int .u32 (ym:Int)] 64))=W at *;refine wp_region_quiet_tail (Grew W) 12 (by kernel_rfl) (by kernel_rfl) (Grew.refl W).drew ?_;simp only [List.take_succ_cons,List.take_zero,List.drop_succ_cons,List.drop_zero];refine qo (fun K hK=>?_);go_simp;refine hK _ ?_;clear hK K;refine qo (fun K hK=>?_) (fun w' hw'=>by have hc:=hw'.cell K1.out;go_simp<;>rfl);go_simp;refine hK _ ?_;clear hK K;refine qo (fun K hK=>?_);go_simp;refine hK _ ?_;clear hK K;refine qo (fun K hK=>?_) (fun w' hw'=>by have hc:=hw'.cell K3.out;go_simp<;>rfl);go_simp;refine hK _ ?_;clear hK K;refine qc (fun w' hw'=>(cmp64_any xx yx w').mono (fun e w'' h=>⟨h.1,h.2 ▸ hw'⟩)) (fun K hK=>?_);go_simp;refine hK _ ?_;clear hK K;refine qo (fun K hK=>?_);go_simp;refine hK _ ?_;clear hK K;refine qo (fun K hK=>?_) (fun w' hw'=>by have hc:=hw'.cell K2.out;go_simp<;>rfl);go_simp;refine hK _ ?_;clear hK K;refine qo (fun K hK=>?_) (fun w' hw'=>by have hx:=hw1;go_simp<;>rfl);go_simp;refine hK _ ?_;clear hK K;refine qo (fun K hK=>?_);go_simp;refine hK _ ?_;clear hK K;refine qo (fun K hK=>?_) (fun w' hw'=>by have hc:=hw'.cell K4.out;go_simp<;>rfl);go_simp;refine hK _ ?_;clear hK K;refine qo (fun K hK=>?_) (fun w' hw'=>by have hx:=hw2;go_simp<;>rfl);go_simp;refine hK _ ?_;clear hK K;refine qc (fun w' hw'=>(cmp32_any xm1 ym1 w').mono (fun e w'' h=>⟨h.1,h.2 ▸ hw'⟩)) (fun K hK=>?_);go_simp;refine hK _ ?_;clear hK K;refine wpQuiet_nil ?_;intro w3 hw3;have HW3:=Lib.hid hw3;clear hw3;go_wp2_with fail
 refine (first_any (cmpN xx yx) (cmpN xm1 ym1) _ _ (by simp) (by simp)).mono ?_;rintro e w4 ⟨rfl,rfl⟩;go_wp2;go_ret;exact ⟨by rw [<- hf.out];rfl,(HG.out.trans HW3.out).alloc _⟩
def end1 (b:Bool) (e:Edg):Nat:=if b then e.h.toNat else e.t.toNat
def end2 (b:Bool) (e:Edg):Nat:=if b then e.t.toNat else e.h.toNat
theorem pk_ends (b:Bool) (e:Edg):pk b e=end1 b e*4294967296+end2 b e/\end1 b e < 4294967296/\end2 b e < 4294967296:=by
 have h1:=e.t.toNat_lt;have h2:=e.h.toNat_lt;unfold pk end1 end2;cases b
 ·exact ⟨rfl,h1,h2⟩
 ·exact ⟨rfl,h2,h1⟩
def byNum (b:Bool):Nat:=if b then 1 else 0
def firstFn (byb:Nat):Value:=.func (.func 115) #[] #[.pointer (some ⟨byb,0,none⟩)]
structure JobAt (w:World) (jb pb byb made:Nat) (b:Bool):Prop where
 head:∃ t,w.heap[jb]? = some (.cells #[ptrTo pb,firstFn byb, .int .i64 (made:Int)] t)
 by':∃ t,w.heap[byb]? = some (.cells #[.int .i64 (byNum b:Int)] t)
theorem JobAt.cells {w:World} {jb pb byb made:Nat} {b:Bool} (h:JobAt w jb pb byb made b) :
 w.cell? ⟨jb,0,none⟩=some (ptrTo pb)/\w.cell? ⟨jb,1,none⟩=some (firstFn byb)/\w.cell? ⟨jb,2,none⟩=some (.int .i64 (made:Int))/\w.cell? ⟨byb,0,none⟩=some (.int .i64 (byNum b:Int))/\w.frozen? ⟨jb,2,none⟩=false:=by
 obtain ⟨⟨t,h1⟩,⟨t',h2⟩⟩:=h;refine ⟨?_,?_,?_,?_,cells_frozen h1 _⟩
 ·rw [cells_cell h1];rfl
 ·rw [cells_cell h1];rfl
 ·rw [cells_cell h1];rfl
 ·rw [cells_cell h2];rfl
theorem JobAt.kept {w w':World} {jb pb byb made:Nat} {b:Bool} (h:JobAt w jb pb byb made b) (h1:w'.heap[jb]? = w.heap[jb]?) (h2:w'.heap[byb]? = w.heap[byb]?):JobAt w' jb pb byb made b:=by
 obtain ⟨⟨t,g1⟩,⟨t',g2⟩⟩:=h;exact ⟨⟨t,h1.trans g1⟩,⟨t',h2.trans g2⟩⟩
theorem JobAt.lt {w:World} {jb pb byb made:Nat} {b:Bool} (h:JobAt w jb pb byb made b):jb < w.heap.size/\byb < w.heap.size:=by
 obtain ⟨⟨t,g1⟩,⟨t',g2⟩⟩:=h;exact ⟨(Array.getElem?_eq_some_iff.1 g1).1,(Array.getElem?_eq_some_iff.1 g2).1⟩
theorem JobAt.below {w w':World} {jb pb byb made:Nat} {b:Bool} (h:JobAt w jb pb byb made b) (hb:Below w.heap.size w w'):JobAt w' jb pb byb made b:=h.kept (hb.block _ h.lt.1) (hb.block _ h.lt.2)
set_option maxRecDepth 100000 in
set_option maxHeartbeats 1000000 in
theorem ends_any (b:Bool) (x:Edg) (byb:Nat) (w:World) (hc:w.cell? ⟨byb,0,none⟩=some (.int .i64 (byNum b:Int))) :
 Calls Tryz.prog 115 #[.agg #[.int .u32 (x.t.toNat:Int), .int .u32 (x.h.toNat:Int), .int .u64 (x.x.toNat:Int), .int .u32 (x.m.toNat:Int)], .pointer (some ⟨byb,0,none⟩)] w
  fun e w'=>e=.returned (.tuple #[.int .u32 (end1 b x:Int), .int .u32 (end2 b x:Int)])/\Grew w w':=by
 have hlt:=World.block_lt_of_cell? _ _ hc;dsimp only at hlt;unfold end1 end2;cases b with
 | false=>
   have hc':w.cell? ⟨byb,0,none⟩=some (.int .i64 0):=hc;clear hc;go_enter Tryz.func115,Tryz.ntmps115
   go_wp2;go_quiet (fail)
   go_wp2;go_ret2
   exact ⟨rfl,((Grew.refl w).alloc _).drewN _⟩
 | true=>
   have hc':w.cell? ⟨byb,0,none⟩=some (.int .i64 1):=hc;clear hc;go_enter Tryz.func115,Tryz.ntmps115
   go_wp2;go_quiet (fail)
   go_wp2;go_ret2
   exact ⟨rfl,((Grew.refl w).alloc _).drewN _⟩
set_option maxHeartbeats 1000000 in
theorem order_any (b:Bool) (w:World):Calls Tryz.prog 261 #[.bool b] w fun e w'=>e=.returned (.int .i64 (if b=true then -1 else 1))/\w=w':=by
 cases b
 ·go_enter Tryz.func261,Tryz.ntmps261
  go_wp2;go_ret;exact ⟨rfl,rfl⟩
 ·go_enter Tryz.func261,Tryz.ntmps261
  go_wp2;go_ret;exact ⟨rfl,rfl⟩
set_option maxRecDepth 100000 in
set_option maxHeartbeats 4000000 in
theorem compare_any {w:World} {jb pb byb made:Nat} {b:Bool} (h:JobAt w jb pb byb made b) (x y:Edg) :
 Calls Tryz.prog 224 #[ptrTo jb, .agg #[.int .u32 (x.t.toNat:Int), .int .u32 (x.h.toNat:Int), .int .u64 (x.x.toNat:Int), .int .u32 (x.m.toNat:Int)], .agg #[.int .u32 (y.t.toNat:Int), .int .u32 (y.h.toNat:Int), .int .u64 (y.x.toNat:Int), .int .u32 (y.m.toNat:Int)]] w
  fun e w'=>e=.returned (.int .i64 (cmpE b x y))/\Grew w w':=by
 have H:=Lib.hid h;have hx:=Lib.hid (fun W hW=>ends_any b x byb W hW);have hy:=Lib.hid (fun W hW=>ends_any b y byb W hW);have hbxy:=Lib.hid (fun W=>better_any x y W);have hbyx:=Lib.hid (fun W=>better_any y x W);obtain ⟨px,px1,px2⟩:=pk_ends b x;obtain ⟨py,py1,py2⟩:=pk_ends b y;have hcmp:Hid (cmpE b x y=if end1 b x < end1 b y then -1 else if end1 b y < end1 b x then 1 else if end2 b x < end2 b y then -1 else if end2 b y < end2 b x then 1 else if betterB x y=true then -1 else if betterB y x=true then 1 else 0):=Lib.hid (by
  unfold cmpE betterB;rw [px,py];simp only [decide_eq_true_eq];generalize end1 b x=a1 at *;generalize end2 b x=a2 at *;generalize end1 b y=b1 at *;generalize end2 b y=b2 at *;rcases Nat.lt_trichotomy a1 b1 with g | g | g
  ·rw [if_pos (show a1*4294967296+a2 < b1*4294967296+b2 by omega),if_pos g]
  ·subst g;rcases Nat.lt_trichotomy a2 b2 with g | g | g
   ·rw [if_pos (show a1*4294967296+a2 < a1*4294967296+b2 by omega),if_neg (Nat.lt_irrefl a1),if_neg (Nat.lt_irrefl a1),if_pos g]
   ·subst g;simp only [Nat.lt_irrefl,if_false]
   ·rw [if_neg (show ¬ a1*4294967296+a2 < a1*4294967296+b2 by omega),if_pos (show a1*4294967296+b2 < a1*4294967296+a2 by omega),if_neg (Nat.lt_irrefl a1),if_neg (Nat.lt_irrefl a1),if_neg (show ¬ a2 < b2 by omega),if_pos g]
  ·rw [if_neg (show ¬ a1*4294967296+a2 < b1*4294967296+b2 by omega),if_pos (show b1*4294967296+b2 < a1*4294967296+a2 by omega),if_neg (show ¬ a1 < b1 by omega),if_pos g])
 obtain ⟨hc0,hc1,hc2,hc3,-⟩:=h.cells;obtain ⟨hjl,hbl⟩:=h.lt;have HC1:=Lib.hid hc1;have HC3:=Lib.hid hc3;clear h px py hc0 hc1 hc2 hc3;unfold ptrTo;generalize cmpE b x y=R at *;generalize end1 b x=a1 at *;generalize end2 b x=a2 at *;generalize end1 b y=b1 at *;generalize end2 b y=b2 at *;generalize betterB x y=q1 at *;generalize betterB y x=q2 at *;generalize x.t.toNat=xt at *;generalize x.h.toNat=xh at *;generalize x.x.toNat=xx at *;generalize x.m.toNat=xm at *;generalize y.t.toNat=yt at *;generalize y.h.toNat=yh at *;generalize y.x.toNat=yx at *;generalize y.m.toNat=ym at *;go_enter Tryz.func224,Tryz.ntmps224
 have HG:Hid (Grew w ((w.alloc (.cells #[.int .u32 (xt:Int), .int .u32 (xh:Int), .int .u64 (xx:Int), .int .u32 (xm:Int)] 64)).alloc (.cells #[.int .u32 (yt:Int), .int .u32 (yh:Int), .int .u64 (yx:Int), .int .u32 (ym:Int)] 64))):=Lib.hid (((Grew.refl w).alloc _).alloc _);have KX:Hid (∀ j v,(#[Value.int .u32 (xt:Int), .int .u32 (xh:Int), .int .u64 (xx:Int), .int .u32 (xm:Int)]:Array Value)[j]? = some v->((w.alloc (.cells #[.int .u32 (xt:Int), .int .u32 (xh:Int), .int .u64 (xx:Int), .int .u32 (xm:Int)] 64)).alloc (.cells #[.int .u32 (yt:Int), .int .u32 (yh:Int), .int .u64 (yx:Int), .int .u32 (ym:Int)] 64)).cell? ⟨w.heap.size,j,none⟩=some v):=Lib.hid (fun j v hv=>by simpa using hv);have KY:Hid (∀ j v,(#[Value.int .u32 (yt:Int), .int .u32 (yh:Int), .int .u64 (yx:Int), .int .u32 (ym:Int)]:Array Value)[j]? = some v->((w.alloc (.cells #[.int .u32 (xt:Int), .int .u32 (xh:Int), .int .u64 (xx:Int), .int .u32 (xm:Int)] 64)).alloc (.cells #[.int .u32 (yt:Int), .int .u32 (yh:Int), .int .u64 (yx:Int), .int .u32 (ym:Int)] 64)).cell? ⟨w.heap.size+1,j,none⟩=some v):=Lib.hid (fun j v hv=>by simpa using hv);go_wp2;generalize ((w.alloc (.cells #[.int .u32 (xt:Int), .int .u32 (xh:Int), .int .u64 (xx:Int), .int .u32 (xm:Int)] 64)).alloc (.cells #[.int .u32 (yt:Int), .int .u32 (yh:Int), .int .u64 (yx:Int), .int .u32 (ym:Int)] 64))=W at *;have C1:Hid (W.cell? ⟨jb,1,none⟩=some (firstFn byb)):=Lib.hid (HG.out.cell HC1.out);have C3:Hid (W.cell? ⟨byb,0,none⟩=some (.int .i64 (byNum b:Int))):=Lib.hid (HG.out.cell HC3.out);refine wp_region_quiet_in (Grew W) (by kernel_rfl) (by kernel_rfl) (Grew.refl W).drew ?_;iterate 3 (refine qo (fun K hK=>?_);go_simp;refine hK _ ?_;clear hK K)
 refine qo (fun K hK=>?_) (fun w' hw'=>by have hc:=hw'.cell C1.out;unfold firstFn at hc;go_simp<;>rfl);go_simp;refine hK _ ?_;clear hK K;refine qo (fun K hK=>?_) (fun w' hw'=>by have e0:=hw'.cell (KX.out 0 _ rfl);have e1:=hw'.cell (KX.out 1 _ rfl);have e2:=hw'.cell (KX.out 2 _ rfl);have e3:=hw'.cell (KX.out 3 _ rfl);go_simp<;>rfl);go_simp;refine hK _ ?_;clear hK K;refine qc (fun w' hw'=>(hx.out w' (hw'.cell C3.out)).mono (fun e w'' h=>⟨h.1,hw'.trans h.2⟩)) (fun K hK=>?_);go_simp;refine hK _ ?_;clear hK K;iterate 5 (refine qo (fun K hK=>?_);go_simp;refine hK _ ?_;clear hK K)
 refine wpQuiet_nil ?_;intro W1 hW1;have HW1:=Lib.hid hW1;clear hW1;go_wp2;refine wp_region_quiet_in (Grew W1) (by kernel_rfl) (by kernel_rfl) (Grew.refl W1).drew ?_;iterate 3 (refine qo (fun K hK=>?_);go_simp;refine hK _ ?_;clear hK K)
 refine qo (fun K hK=>?_) (fun w' hw'=>by have hc:=hw'.cell (HW1.out.cell C1.out);unfold firstFn at hc;go_simp<;>rfl);go_simp;refine hK _ ?_;clear hK K;refine qo (fun K hK=>?_) (fun w' hw'=>by have e0:=hw'.cell (HW1.out.cell (KY.out 0 _ rfl));have e1:=hw'.cell (HW1.out.cell (KY.out 1 _ rfl));have e2:=hw'.cell (HW1.out.cell (KY.out 2 _ rfl));have e3:=hw'.cell (HW1.out.cell (KY.out 3 _ rfl));go_simp<;>rfl);go_simp;refine hK _ ?_;clear hK K;refine qc (fun w' hw'=>(hy.out w' (hw'.cell (HW1.out.cell C3.out))).mono (fun e w'' h=>⟨h.1,hw'.trans h.2⟩)) (fun K hK=>?_);go_simp;refine hK _ ?_;clear hK K;iterate 5 (refine qo (fun K hK=>?_);go_simp;refine hK _ ?_;clear hK K)
 refine wpQuiet_nil ?_;intro W2 hW2;have HW2:=Lib.hid (HW1.out.trans hW2);have HG2:=Lib.hid (HG.out.trans HW2.out);clear hW2;have e0:=HW2.out.cell (KX.out 0 _ rfl);have e1:=HW2.out.cell (KX.out 1 _ rfl);have e2:=HW2.out.cell (KX.out 2 _ rfl);have e3:=HW2.out.cell (KX.out 3 _ rfl);have f0:=HW2.out.cell (KY.out 0 _ rfl);have f1:=HW2.out.cell (KY.out 1 _ rfl);have f2:=HW2.out.cell (KY.out 2 _ rfl);have f3:=HW2.out.cell (KY.out 3 _ rfl);rcases Nat.lt_trichotomy a1 b1 with g | g | g
 ·have g':(a1:Int) < (b1:Int):=by omega
  have gn:¬ (a1:Int)=(b1:Int):=by omega
  have hr:Hid (R=-1):=Lib.hid (by rw [hcmp.out,if_pos g]);go_wp2_with fail
  refine (order_any _ _).mono ?_;rintro e w' ⟨rfl,rfl⟩;go_wp2;go_ret;exact ⟨by rw [hr.out];rfl,HG2.out⟩
 ·subst g;rcases Nat.lt_trichotomy a2 b2 with g | g | g
  ·have g':(a2:Int) < (b2:Int):=by omega
   have gn:¬ (a2:Int)=(b2:Int):=by omega
   have hr:Hid (R=-1):=Lib.hid (by rw [hcmp.out,if_neg (by omega),if_neg (by omega),if_pos g]);go_wp2_with fail
   refine (order_any _ _).mono ?_;rintro e w' ⟨rfl,rfl⟩;go_wp2;go_ret;exact ⟨by rw [hr.out];rfl,HG2.out⟩
  ·subst g;cases q1 with
   | true=>
     have hr:Hid (R=-1):=Lib.hid (by rw [hcmp.out,if_neg (by omega),if_neg (by omega),if_neg (by omega),if_neg (by omega),if_pos rfl]);go_wp2_with fail
     refine (hbxy.out _).mono ?_;rintro e w' ⟨rfl,hw⟩;go_wp2;go_ret;exact ⟨by rw [hr.out];rfl,HG2.out.trans hw⟩
   | false=>
     go_wp2_with fail
     refine (hbxy.out _).mono ?_;rintro e W3 ⟨rfl,hw⟩;have HW3:=Lib.hid hw;have e0:=hw.cell e0;have e1:=hw.cell e1;have e2:=hw.cell e2;have e3:=hw.cell e3;have f0:=hw.cell f0;have f1:=hw.cell f1;have f2:=hw.cell f2;have f3:=hw.cell f3;clear hw;cases q2 with
     | true=>
       have hr:Hid (R=1):=Lib.hid (by rw [hcmp.out,if_neg (by omega),if_neg (by omega),if_neg (by omega),if_neg (by omega),if_neg (by decide),if_pos rfl]);go_wp2_with fail
       refine (hbyx.out _).mono ?_;rintro e w' ⟨rfl,hw⟩;go_wp2;go_ret;exact ⟨by rw [hr.out];rfl,(HG2.out.trans HW3.out).trans hw⟩
     | false=>
       have hr:Hid (R=0):=Lib.hid (by rw [hcmp.out,if_neg (by omega),if_neg (by omega),if_neg (by omega),if_neg (by omega),if_neg (by decide),if_neg (by decide)]);go_wp2_with fail
       refine (hbyx.out _).mono ?_;rintro e w' ⟨rfl,hw⟩;go_wp2;go_ret;exact ⟨by rw [hr.out];rfl,(HG2.out.trans HW3.out).trans hw⟩
  ·have g':¬ (a2:Int) < (b2:Int):=by omega
   have gn:¬ (a2:Int)=(b2:Int):=by omega
   have hr:Hid (R=1):=Lib.hid (by rw [hcmp.out,if_neg (by omega),if_neg (by omega),if_neg (by omega),if_pos g]);go_wp2_with fail
   refine (order_any _ _).mono ?_;rintro e w' ⟨rfl,rfl⟩;go_wp2;go_ret;exact ⟨by rw [hr.out];rfl,HG2.out⟩
 ·have g':¬ (a1:Int) < (b1:Int):=by omega
  have gn:¬ (a1:Int)=(b1:Int):=by omega
  have hr:Hid (R=1):=Lib.hid (by rw [hcmp.out,if_neg (by omega),if_pos g]);go_wp2_with fail
  refine (order_any _ _).mono ?_;rintro e w' ⟨rfl,rfl⟩;go_wp2;go_ret;exact ⟨by rw [hr.out];rfl,HG2.out⟩
end
section
open Go.RowKit
theorem info_string:(Tryz.prog.info? 9).map (fun i=>(i.zero,i.size,i.bytes))=some (some (.string ByteArray.empty),1,16):=by kernel_rfl
def NameRow (w:World) (v:Value) (ns:List Name):Prop:=
 ∃ g off cap cur,v=.slice (some ⟨g,off,none⟩) ns.length cap/\w.heap[g]? = some (.cells cur 9 (0,0))/\off+cap<=cur.size/\cap<=maxLen/\ns.length<=cap/\∀ j (h:j < ns.length),cur[off+j]? = some (.string ns[j])
section
variable {S:Nat->Prop} {w w':World} {v:Value} {ns:List Name}
theorem NameRow.shape (h:NameRow w v ns):∃ g off cap,v=.slice (some ⟨g,off,none⟩) ns.length cap:=by
 obtain ⟨g,off,cap,cur,rfl,_⟩:=h;exact ⟨g,off,cap,rfl⟩
theorem NameRow.ofOwn {base:Nat} (hr:w.ownsRow base 9 1 v ns.length (ns.map Value.string)) (hn:ns≠[]):NameRow w v ns:=by
 obtain ⟨hl,⟨h1,h2⟩ | ⟨g,cap,cur,rfl,hg,hh,hc,hm,hs,ht⟩⟩:=hr
 ·exact absurd (List.eq_nil_of_length_eq_zero h2) hn
 ·refine ⟨g,0,cap,cur,rfl,hh,by omega,hm,hc,fun j hj=>?_⟩;have h3:(cur.toList.take (ns.length*1))[j]? = (ns.map Value.string)[j]? := by rw [ht]
  rw [List.getElem?_take_of_lt (by omega)] at h3;rw [Nat.zero_add,<- Array.getElem?_toList,h3,List.getElem?_map,List.getElem?_eq_getElem hj];rfl
end
end
section
open Go.RowKit Go.Maps Go.MapKept
def edgeFile (es:List Edg) (fl:Bool):LFile:=.inl (pagesOf (per 20) (es.map Edg.bytes),fl)
theorem sized_edges (es:List Edg):Sized 20 (es.map Edg.bytes):=fun r hr=>by
 obtain ⟨e,_,rfl⟩:=List.mem_map.1 hr;exact e.bytes_length
def SourceAt (w:World) (cb sb at' n:Nat) (e:Edg):Prop:=∃ t,w.heap[cb]? = some (.cells #[ptrTo sb, .int .i64 (at':Int), .int .i64 (n:Int), .int .u32 (e.t.toNat:Int), .int .u32 (e.h.toNat:Int), .int .u64 (e.x.toNat:Int), .int .u32 (e.m.toNat:Int)] t)
def SinkAt (w:World) (kb sb:Nat) (last:Edg) (any:Bool):Prop:=∃ t,w.heap[kb]? = some (.cells #[ptrTo sb, .int .u32 (last.t.toNat:Int), .int .u32 (last.h.toNat:Int), .int .u64 (last.x.toNat:Int), .int .u32 (last.m.toNat:Int), .bool any] t)
section
variable {S:Nat->Prop} {w w':World} {pb db n cb kb sb:Nat} {name:Name} {o o':Owner} {d d':Dsk} {L L':Logic}
theorem SourceAt.kept {i N:Nat} {e:Edg} (h:SourceAt w cb sb i N e) (hb:w'.heap[cb]? = w.heap[cb]?):SourceAt w' cb sb i N e:=by
 obtain ⟨t,h⟩:=h;exact ⟨t,hb.trans h⟩
theorem SourceAt.lt {i N:Nat} {e:Edg} (h:SourceAt w cb sb i N e):cb < w.heap.size:=by
 obtain ⟨t,h⟩:=h;exact (Array.getElem?_eq_some_iff.1 h).1
theorem SourceAt.below {i N:Nat} {e:Edg} (h:SourceAt w cb sb i N e) (hb:Below w.heap.size w w'):SourceAt w' cb sb i N e:=h.kept (hb.block _ h.lt)
theorem SourceAt.cells {i N:Nat} {e:Edg} (h:SourceAt w cb sb i N e) :
 (w.cell? ⟨cb,0,none⟩=some (ptrTo sb)/\w.cell? ⟨cb,1,none⟩=some (.int .i64 (i:Int))/\w.cell? ⟨cb,2,none⟩=some (.int .i64 (N:Int))) /\
 (w.cell? ⟨cb,3,none⟩=some (.int .u32 (e.t.toNat:Int))/\w.cell? ⟨cb,4,none⟩=some (.int .u32 (e.h.toNat:Int))/\w.cell? ⟨cb,5,none⟩=some (.int .u64 (e.x.toNat:Int))/\w.cell? ⟨cb,6,none⟩=some (.int .u32 (e.m.toNat:Int))) /\
 ∀ j,w.frozen? ⟨cb,j,none⟩=false:=by
 obtain ⟨t,h⟩:=h;refine ⟨⟨?_,?_,?_⟩,⟨?_,?_,?_,?_⟩,fun j=>cells_frozen h j⟩<;>rw [cells_cell h]<;>rfl
theorem SourceAt.setEdge {i N:Nat} {e e':Edg} (h:SourceAt w cb sb i N e) :
 SourceAt ((((w.setCell ⟨cb,3,none⟩ (.int .u32 (e'.t.toNat:Int))).setCell ⟨cb,4,none⟩ (.int .u32 (e'.h.toNat:Int))).setCell ⟨cb,5,none⟩ (.int .u64 (e'.x.toNat:Int))).setCell ⟨cb,6,none⟩ (.int .u32 (e'.m.toNat:Int))) cb sb i N e':=by
 obtain ⟨t,h⟩:=h;refine ⟨t,?_⟩;have h2:=cells_set h 3 (.int .u32 (e'.t.toNat:Int));have h3:=cells_set h2 4 (.int .u32 (e'.h.toNat:Int));have h4:=cells_set h3 5 (.int .u64 (e'.x.toNat:Int));exact cells_set h4 6 (.int .u32 (e'.m.toNat:Int))
theorem SourceAt.setAt {i N i':Nat} {e:Edg} (h:SourceAt w cb sb i N e):SourceAt (w.setCell ⟨cb,1,none⟩ (.int .i64 (i':Int))) cb sb i' N e:=by
 obtain ⟨t,h⟩:=h;exact ⟨t,cells_set h 1 (.int .i64 (i':Int))⟩
theorem SinkAt.kept {x:Edg} {a:Bool} (h:SinkAt w kb sb x a) (hb:w'.heap[kb]? = w.heap[kb]?):SinkAt w' kb sb x a:=by
 obtain ⟨t,h⟩:=h;exact ⟨t,hb.trans h⟩
theorem SinkAt.lt {x:Edg} {a:Bool} (h:SinkAt w kb sb x a):kb < w.heap.size:=by
 obtain ⟨t,h⟩:=h;exact (Array.getElem?_eq_some_iff.1 h).1
theorem SinkAt.below {x:Edg} {a:Bool} (h:SinkAt w kb sb x a) (hb:Below w.heap.size w w'):SinkAt w' kb sb x a:=h.kept (hb.block _ h.lt)
theorem SinkAt.cells {x:Edg} {a:Bool} (h:SinkAt w kb sb x a) :
 w.cell? ⟨kb,0,none⟩=some (ptrTo sb)/\w.cell? ⟨kb,1,none⟩=some (.int .u32 (x.t.toNat:Int))/\w.cell? ⟨kb,2,none⟩=some (.int .u32 (x.h.toNat:Int))/\w.cell? ⟨kb,3,none⟩=some (.int .u64 (x.x.toNat:Int))/\w.cell? ⟨kb,4,none⟩=some (.int .u32 (x.m.toNat:Int))/\w.cell? ⟨kb,5,none⟩=some (.bool a) /\
 ∀ j,w.frozen? ⟨kb,j,none⟩=false:=by
 obtain ⟨t,h⟩:=h;refine ⟨?_,?_,?_,?_,?_,?_,fun j=>cells_frozen h j⟩<;>rw [cells_cell h]<;>rfl
theorem SinkAt.set {x y:Edg} {a:Bool} (h:SinkAt w kb sb x a) :
 SinkAt (((((w.setCell ⟨kb,1,none⟩ (.int .u32 (y.t.toNat:Int))).setCell ⟨kb,2,none⟩ (.int .u32 (y.h.toNat:Int))).setCell ⟨kb,3,none⟩ (.int .u64 (y.x.toNat:Int))).setCell ⟨kb,4,none⟩ (.int .u32 (y.m.toNat:Int))).setCell ⟨kb,5,none⟩ (.bool true)) kb sb y true:=by
 obtain ⟨t,h⟩:=h;refine ⟨t,?_⟩;have h1:=cells_set h 1 (.int .u32 (y.t.toNat:Int));have h2:=cells_set h1 2 (.int .u32 (y.h.toNat:Int));have h3:=cells_set h2 3 (.int .u64 (y.x.toNat:Int));have h4:=cells_set h3 4 (.int .u32 (y.m.toNat:Int));exact cells_set h4 5 (.bool true)
def NextPost (n pb db:Nat) (w:World) (o:Owner) (d:Dsk) (L:Logic) (cb sb i N:Nat) (x:Edg) (e:Ending) (w':World):Prop:=
 ∃ c d' o',e=.returned (.tuple #[.bool (c == 0), .int .i64 ((c:Nat):Int)])/\Moved (·=cb) n pb db w o d w' o' d' L/\(c=0\/Err d d' L c)/\(c=0->SourceAt w' cb sb (i+1) N x)
set_option maxRecDepth 100000 in
set_option maxHeartbeats 4000000 in
theorem sourceNext_end {i N:Nat} {x0:Edg} (hsrc:SourceAt w cb sb i N x0) (hi:N<=i) :
 Calls Tryz.prog 221 #[ptrTo cb] w fun e w'=>e=.returned (.tuple #[.bool false, .int .i64 0])/\∃ q,w'=w.drewN q:=by
 obtain ⟨⟨hc0,hc1,hc2⟩,-,-⟩:=hsrc.cells;have hge:((i:Int) >= (N:Int)):=by omega
 clear hsrc hc0;unfold ptrTo;go_enter Tryz.func221,Tryz.ntmps221
 go_wp2;go_quiet (fail)
 go_wp2;go_ret2
 exact ⟨rfl,_,rfl⟩
set_option maxRecDepth 100000 in
set_option maxHeartbeats 4000000 in
theorem sourceNext_in (HW:WriteSaid) (h:PoolAt w pb db n o d L) (hst:StreamAt w sb pb name 20) (ho:o sb=none) {i:Nat} {x0:Edg} {es:List Edg} {fl:Bool} (hsrc:SourceAt w cb sb i es.length x0) (hoc:o cb=none) (hL:mget L name=some (edgeFile es fl)) (hi:i < es.length) :
 Calls Tryz.prog 221 #[ptrTo cb] w (NextPost n pb db w o d L cb sb i es.length es[i]):=by
 have hmost:=(h.paged hL).1;have hN:es.length<=16777216:=by
  rw [pagesOf_length,List.length_map] at hmost;have h3:es.length<=per 20*pagesFor (per 20) es.length:=Nat.le_of_not_lt (fun h=>Nat.lt_irrefl _ ((pagesFor_lt (by decide)).2 h));have h12:per 20=12:=by decide
  rw [h12] at h3 hmost;omega
 have hget:Hid (∀ W,Below w.heap.size w W->Calls Tryz.prog 57 #[ptrTo sb, .int .i64 (i:Int)] W (RecPost n pb db W o d L es[i].bytes)):=Lib.hid (fun W hW=>by
  have:=streamGet_in HW (h.below hW) (hst.below hW) ho (by decide) (by decide) hL (sized_edges es) (i:=i) (by rw [List.length_map];exact hi);rw [List.getElem_map] at this;exact this)
 have H:=Lib.hid h;have HS:=Lib.hid hsrc;have HOC:=Lib.hid hoc;have hcl:=hsrc.lt;generalize es[i]=x at *;generalize es.length=N at *;have hlt:¬ ((i:Int) >= (N:Int)):=by omega
 obtain ⟨⟨hc0,hc1,hc2⟩,-,-⟩:=hsrc.cells;have hw1:IntKind.i64.wrap ((i:Int)+1)=(i:Int)+1:=wrap_in (by omega) (by omega);clear h hst ho hsrc hoc hL hmost hi hN hc0;unfold ptrTo at *;go_enter Tryz.func221,Tryz.ntmps221
 go_wp2;go_quiet (fail)
 have HB1:Hid (Below w.heap.size w (w.drewN nq)):=Lib.hid (below_drewN (Below.refl _ _) _);have HS1:Hid (SourceAt (w.drewN nq) cb sb i N x0):=Lib.hid (HS.out.below HB1.out);generalize w.drewN nq=w1 at *;clear hc1 hc2;go_wp2;refine wp_region_mid (Below w1.heap.size w1) 8 rfl (by kernel_rfl) (by kernel_rfl) ((Below.refl _ _).drew) ?_;simp only [List.take_succ_cons,List.take_zero];iterate 3 (refine qo (fun K hK=>?_);go_simp;refine hK _ ?_;clear hK K)
 refine qo (fun K hK=>?_) (fun w' hw'=>by have hc:=(HS1.out.below hw').cells.1.1;unfold ptrTo at hc;go_simp<;>rfl);go_simp;refine hK _ ?_;clear hK K;iterate 3 (refine qo (fun K hK=>?_);go_simp;refine hK _ ?_;clear hK K)
 refine qo (fun K hK=>?_) (fun w' hw'=>by have hc:=(HS1.out.below hw').cells.1.2.1;go_simp<;>rfl);go_simp;refine hK _ ?_;clear hK K;refine wpQuiet_nil ?_;intro w2 hw2;refine ⟨_,_,rfl,(by go_simp<;>exact ⟨rfl,rfl⟩),?_⟩;have HB2:Hid (Below w.heap.size w w2):=Lib.hid (HB1.out.trans (hw2.mono HB1.out.size));refine (hget.out w2 HB2.out).mono ?_;rintro e w3 ⟨v3,c3,d3,o3,rfl,hm3,he3,hok3,hbad3⟩;have HM3:Hid (Moved (·=cb) n pb db w o d w3 o3 d3 L):=Lib.hid ((Moved.ofBelow H.out HB2.out).trans hm3 (fun _ _ h=>h.elim));have HS3:Hid (SourceAt w3 cb sb i N x0):=Lib.hid ((HS.out.below HB2.out).kept (hm3.block (Nat.lt_of_lt_of_le hcl HB2.out.size) HOC.out (fun h=>h)));have HE3:=Lib.hid he3;clear hw2 hm3 he3;by_cases hc3:c3=0
 ·subst hc3;obtain ⟨ho3,hf3⟩:=hok3 rfl;obtain ⟨a3,k3,rfl⟩:=ownsRow_slice ho3;have HR3:=Lib.hid (Rd_own ho3);have HO3:=Lib.hid ho3;have hne3:Hid (∀ b,(Value.slice a3 x.bytes.length k3).ownBlock=some b->b≠cb):=Lib.hid (fun b hb e=>by
   have:=ownsRow_block ho3 b hb;have:=HB2.out.size;omega)
  clear hok3 hbad3 ho3 hf3;refine ⟨_,rfl,?_⟩;go_simp;iterate 5 (refine qo (fun K hK=>?_);go_simp;refine hK _ ?_;clear hK K)
  refine wpQuiet_nil ?_;obtain ⟨⟨-,hc1,-⟩,-,hfz⟩:=HS3.out.cells;have hz1:=hfz 1;have HRS:Hid (Rd (w3.setCell ⟨cb,1,none⟩ (.int .i64 ((i:Int)+1))) (.slice a3 x.bytes.length k3) x.bytes):=Lib.hid (((Turn.refl (·=cb) w3).setCell ⟨cb,1,none⟩ _ (.inl rfl)).rd HR3.out (fun b hb e=>hne3.out b hb e));have HS4:Hid (SourceAt (w3.setCell ⟨cb,1,none⟩ (.int .i64 ((i:Int)+1))) cb sb (i+1) N x0):=Lib.hid (by
   have:=HS3.out.setAt (i':=i+1);rwa [show ((i+1:Nat):Int)=(i:Int)+1 by omega] at this)
  have HM4:Hid (Moved (·=cb) n pb db w o d (w3.setCell ⟨cb,1,none⟩ (.int .i64 ((i:Int)+1))) o3 d3 L):=Lib.hid (HM3.out.setCell _ _ (HM3.out.free hcl HOC.out) (.inl rfl));clear hfz;go_wp2_with fail
  generalize w3.setCell ⟨cb,1,none⟩ (.int .i64 ((i:Int)+1))=w4 at *;refine (readEdg_any _ x _ HRS.out).mono ?_;rintro e w5 ⟨rfl,hb5⟩;have HS5:=Lib.hid (HS4.out.below hb5);have HM5:=Lib.hid (HM4.out.below hb5);clear hb5 hc1 hz1;obtain ⟨-,⟨k3',k4',k5',k6'⟩,hfz⟩:=HS5.out.cells;have hz3:=hfz 3;have hz4:=hfz 4;have hz5:=hfz 5;have hz6:=hfz 6;clear hfz;go_wp2;go_ret2
  have ho3':=HM3.out.free hcl HOC.out;exact ⟨0,d3,o3,rfl,(((HM5.out.setCell ⟨cb,3,none⟩ _ ho3' (.inl rfl)).setCell ⟨cb,4,none⟩ _ ho3' (.inl rfl)).setCell ⟨cb,5,none⟩ _ ho3' (.inl rfl)).setCell ⟨cb,6,none⟩ _ ho3' (.inl rfl), .inl rfl,fun _=>HS5.out.setEdge⟩
 ·obtain rfl:=hbad3 hc3;have hc3':¬ (c3:Int)=0:=by omega
  have HC3:=Lib.hid hc3;clear hc3 hok3 hbad3;refine ⟨_,rfl,?_⟩;go_simp;iterate 5 (refine qo (fun K hK=>?_);go_simp;refine hK _ ?_;clear hK K)
  refine wpQuiet_nil ?_;go_wp2;go_ret2
  exact ⟨c3,d3,o3,by rw [beq_false_of_ne HC3.out];rfl,HM3.out,HE3.out,fun h=>absurd h HC3.out⟩
end
end
section
open Go.RowKit Go.Maps Go.MapKept
section
variable {S:Nat->Prop} {w w':World} {pb db n kb sb:Nat} {name:Name} {o o':Owner} {d d':Dsk} {L L':Logic}
def SinkOf (w:World) (kb sb:Nat) (out:List Edg):Prop:=(out=[]/\∃ x,SinkAt w kb sb x false)\/∃ x,out.getLast? = some x/\SinkAt w kb sb x true
theorem SinkOf.kept {out:List Edg} (h:SinkOf w kb sb out) (hb:w'.heap[kb]? = w.heap[kb]?):SinkOf w' kb sb out:=
 h.imp (fun ⟨h1,x,h2⟩=>⟨h1,x,h2.kept hb⟩) (fun ⟨x,h1,h2⟩=>⟨x,h1,h2.kept hb⟩)
theorem SinkOf.lt {out:List Edg} (h:SinkOf w kb sb out):kb < w.heap.size:=by
 rcases h with ⟨_,x,h⟩ | ⟨x,_,h⟩
 ·exact h.lt
 ·exact h.lt
theorem SinkOf.below {out:List Edg} (h:SinkOf w kb sb out) (hb:Below w.heap.size w w'):SinkOf w' kb sb out:=h.kept (hb.block _ h.lt)
theorem mput_get_same {κ υ:Type} [DecidableEq κ] {m:List (κ × υ)} {k:κ} {v:υ} (h:mget m k=some v) (k':κ):mget (mput m k v) k'=mget m k':=by
 rw [mget_mput];by_cases e:k'=k
 ·rw [if_pos e,e,h]
 ·rw [if_neg e]
theorem Moved.same (h:Moved S n pb db w o d w' o' d' L) {f:LFile} (hL:mget L name=some f):Moved S n pb db w o d w' o' d' (mput L name f):=
 h.congr (mput_keys h.pool.keys) (fun x=>mput_get_same hL x)
def SinkPost (n pb db:Nat) (w:World) (o:Owner) (d:Dsk) (L:Logic) (name:Name) (kb sb:Nat) (out:List Edg) (x:Edg) (e:Ending) (w':World):Prop:=
 ∃ c d' o',e=.returned (.int .i64 ((c:Nat):Int))/\Moved (·=kb) n pb db w o d w' o' d' (if c=0 then mput L name (edgeFile (put1 out x) false) else L)/\(c=0\/Err d d' L c)/\(c=0->SinkOf w' kb sb (put1 out x))
def skipsB (last:Edg) (any:Bool) (x:Edg):Bool:=decide (x.t=x.h) || (any && (decide (last.t=x.t) && decide (last.h=x.h)))
theorem u32_ne {a b:UInt32} (h:¬ a=b):¬ ((a.toNat:Int)=(b.toNat:Int))/\((a.toNat:Int) == (b.toNat:Int))=false/\¬ a.toNat=b.toNat/\decide (a.toNat=b.toNat)=false/\decide ((a.toNat:Int)=(b.toNat:Int))=false:=by
 have h1:¬ a.toNat=b.toNat:=fun e=>h (UInt32.toNat_inj.1 e);have h2:¬ ((a.toNat:Int)=(b.toNat:Int)):=by omega
 exact ⟨h2,by rw [beq_eq_false_iff_ne];exact h2,h1,decide_eq_false h1,decide_eq_false h2⟩
set_option maxRecDepth 100000 in
set_option maxHeartbeats 4000000 in
theorem put_skip {last x:Edg} {any:Bool} (hk:SinkAt w kb sb last any) (hs:skipsB last any x=true) :
 Calls Tryz.prog 225 #[ptrTo kb, .agg #[.int .u32 (x.t.toNat:Int), .int .u32 (x.h.toNat:Int), .int .u64 (x.x.toNat:Int), .int .u32 (x.m.toNat:Int)]] w fun e w'=>e=.returned (.int .i64 0)/\Below w.heap.size w w':=by
 obtain ⟨hc0,hc1,hc2,hc3,hc4,hc5,-⟩:=hk.cells;have hkl:=hk.lt;clear hk hc0 hc3 hc4;unfold skipsB at hs;unfold ptrTo;by_cases h1:x.t=x.h
 ·rw [h1];clear hs h1 hc1 hc2 hc5;go_enter Tryz.func225,Tryz.ntmps225
  go_wp2;go_quiet (fail)
  go_wp2;go_ret;exact ⟨rfl,below_drewN ((Below.refl _ _).alloc (Nat.le_refl _) _) _⟩
 ·cases any with
  | false=>simp [h1] at hs
  | true=>
    obtain ⟨g1,g2,g3,g4,g5⟩:=u32_ne h1;simp only [h1,decide_false,Bool.false_or,Bool.true_and,Bool.and_eq_true,decide_eq_true_eq] at hs;obtain ⟨h2,h3⟩:=hs;rw [h2] at hc1;rw [h3] at hc2;clear h1 h2 h3;go_enter Tryz.func225,Tryz.ntmps225
    go_wp2;go_quiet (fail)
    go_wp2;go_ret;exact ⟨rfl,below_drewN ((Below.refl _ _).alloc (Nat.le_refl _) _) _⟩
theorem skipsB_out {out:List Edg} {last:Edg} {any:Bool} {x:Edg} (h:(out=[]/\any=false)\/(out.getLast? = some last/\any=true)):(skipsB last any x=true->put1 out x=out)/\(skipsB last any x=false->put1 out x=out++[x]):=by
 unfold skipsB;constructor
 ·intro hs;refine put1_skip ?_;simp only [Bool.or_eq_true,Bool.and_eq_true,decide_eq_true_eq] at hs;rcases hs with hs | ⟨h1,h2,h3⟩
  ·exact .inl hs
  ·rcases h with ⟨_,h⟩ | ⟨h,_⟩
   ·rw [h] at h1;cases h1
   ·exact .inr ⟨last,h,h2,h3⟩
 ·intro hs;refine put1_lay (fun hk=>?_);simp only [Bool.or_eq_false_iff,Bool.and_eq_false_iff,decide_eq_false_iff_not] at hs;rcases hk with hk | ⟨y,hy,hs1,hs2⟩
  ·exact hs.1 hk
  ·rcases h with ⟨h,_⟩ | ⟨h,ha⟩
   ·rw [h] at hy;cases hy
   ·rw [h] at hy;cases hy;rcases hs.2 with g | g | g
    ·rw [ha] at g;cases g
    ·exact g hs1
    ·exact g hs2
set_option maxRecDepth 100000 in
set_option maxHeartbeats 8000000 in
theorem put_lay (HW:WriteSaid) (h:PoolAt w pb db n o d L) (hst:StreamAt w sb pb name 20) (ho:o sb=none) (hok:o kb=none) (hne:kb≠sb) {out:List Edg} (hL:mget L name=some (edgeFile out false)) (hN:out.length < 65535) {last x:Edg} {any:Bool} (hk:SinkAt w kb sb last any) (hs:skipsB last any x=false) :
 Calls Tryz.prog 225 #[ptrTo kb, .agg #[.int .u32 (x.t.toNat:Int), .int .u32 (x.h.toNat:Int), .int .u64 (x.x.toNat:Int), .int .u32 (x.m.toNat:Int)]] w fun e w'=>
  ∃ c d' o',e=.returned (.int .i64 ((c:Nat):Int))/\Moved (·=kb) n pb db w o d w' o' d' (if c=0 then mput L name (edgeFile (out++[x]) false) else L)/\(c=0\/Err d d' L c)/\SinkAt w' kb sb x true:=by
 have hadd:Hid (∀ W o' d',PoolAt W pb db n o' d' L->StreamAt W sb pb name 20->o' sb=none->∀ rv,Rd W rv x.bytes->(∀ b,rv.ownBlock=some b->o' b=none) ->
  Calls Tryz.prog 72 #[ptrTo sb,rv] W (LaidPost (fun _=>False) n pb db W o' d' L (mput L name (edgeFile (out++[x]) false)))):=Lib.hid (fun W o' d' hW hst' ho' rv hr hro=>by
  have:=streamAdd_any HW hW hst' ho' (by decide) (by decide) hL (sized_edges out) (by rw [List.length_map];exact hN) hr x.bytes_length hro;unfold edgeFile;rw [List.map_append];exact this)
 have hedge:=Lib.hid (fun W=>edgBytes_any x W);have H:=Lib.hid h;have HST:=Lib.hid hst;have HO:=Lib.hid ho;have HOK:=Lib.hid hok;have HK:=Lib.hid hk;have HNE:=Lib.hid hne;obtain ⟨-,hc1,hc2,-,-,hc5,-⟩:=hk.cells;have hkl:=hk.lt;have hsl:=hst.lt;have HSET:Hid (∀ W,SinkAt W kb sb last any->SinkAt (((((W.setCell ⟨kb,1,none⟩ (.int .u32 (x.t.toNat:Int))).setCell ⟨kb,2,none⟩ (.int .u32 (x.h.toNat:Int))).setCell ⟨kb,3,none⟩ (.int .u64 (x.x.toNat:Int))).setCell ⟨kb,4,none⟩ (.int .u32 (x.m.toNat:Int))).setCell ⟨kb,5,none⟩ (.bool true)) kb sb x true):=Lib.hid (fun W h=>h.set);clear h hst ho hok hk hne hL hN;unfold skipsB at hs;simp only [Bool.or_eq_false_iff,Bool.and_eq_false_iff,decide_eq_false_iff_not] at hs;obtain ⟨hs1,hs2⟩:=hs;obtain ⟨a1,a2,a3,a4,a5⟩:=u32_ne hs1;clear hs1;have hcase:any=false\/(any=true/\¬ last.t=x.t)\/(any=true/\last.t=x.t/\¬ last.h=x.h):=by
  cases any with
  | false=>exact .inl rfl
  | true=>
    rcases hs2 with g | g | g
    ·cases g
    ·exact .inr (.inl ⟨rfl,g⟩)
    ·by_cases e:last.t=x.t
     ·exact .inr (.inr ⟨rfl,e,g⟩)
     ·exact .inr (.inl ⟨rfl,e⟩)
 clear hs2;unfold ptrTo at *;rcases hcase with rfl | ⟨rfl,g⟩ | ⟨rfl,g,g'⟩;case' inr.inl=>
  obtain ⟨b1,b2,b3,b4,b5⟩:=u32_ne g;clear g
 case' inr.inr=>
  obtain ⟨b1,b2,b3,b4,b5⟩:=u32_ne g';rw [g] at hc1;clear g g'
 all_goals
  go_enter Tryz.func225,Tryz.ntmps225
  go_wp2;go_quiet (fail)
  have HB1:Hid (Below w.heap.size w ((w.alloc (.cells #[.int .u32 (x.t.toNat:Int), .int .u32 (x.h.toNat:Int), .int .u64 (x.x.toNat:Int), .int .u32 (x.m.toNat:Int)] 64)).drewN nq)):=Lib.hid (below_drewN ((Below.refl _ _).alloc (Nat.le_refl _) _) _);have e0:((w.alloc (.cells #[.int .u32 (x.t.toNat:Int), .int .u32 (x.h.toNat:Int), .int .u64 (x.x.toNat:Int), .int .u32 (x.m.toNat:Int)] 64)).drewN nq).cell? ⟨w.heap.size,0,none⟩=some (.int .u32 (x.t.toNat:Int)):=by simp
  have e1:((w.alloc (.cells #[.int .u32 (x.t.toNat:Int), .int .u32 (x.h.toNat:Int), .int .u64 (x.x.toNat:Int), .int .u32 (x.m.toNat:Int)] 64)).drewN nq).cell? ⟨w.heap.size,1,none⟩=some (.int .u32 (x.h.toNat:Int)):=by simp
  have e2:((w.alloc (.cells #[.int .u32 (x.t.toNat:Int), .int .u32 (x.h.toNat:Int), .int .u64 (x.x.toNat:Int), .int .u32 (x.m.toNat:Int)] 64)).drewN nq).cell? ⟨w.heap.size,2,none⟩=some (.int .u64 (x.x.toNat:Int)):=by simp
  have e3:((w.alloc (.cells #[.int .u32 (x.t.toNat:Int), .int .u32 (x.h.toNat:Int), .int .u64 (x.x.toNat:Int), .int .u32 (x.m.toNat:Int)] 64)).drewN nq).cell? ⟨w.heap.size,3,none⟩=some (.int .u32 (x.m.toNat:Int)):=by simp
  have hxl:w.heap.size < ((w.alloc (.cells #[.int .u32 (x.t.toNat:Int), .int .u32 (x.h.toNat:Int), .int .u64 (x.x.toNat:Int), .int .u32 (x.m.toNat:Int)] 64)).drewN nq).heap.size:=by simp [World.drewN]
  generalize (w.alloc (.cells #[.int .u32 (x.t.toNat:Int), .int .u32 (x.h.toNat:Int), .int .u64 (x.x.toNat:Int), .int .u32 (x.m.toNat:Int)] 64)).drewN nq=w1 at *;clear hc1 hc2 hc5;have HK1:=Lib.hid (HK.out.below HB1.out);obtain ⟨k0,k1,k2,k3,k4,k5,hfz⟩:=HK1.out.cells;have z1:=hfz 1;have z2:=hfz 2;have z3:=hfz 3;have z4:=hfz 4;have z5:=hfz 5;have hnb:¬ w.heap.size=kb:=by omega
  clear hfz;go_wp2;have hsink:=HSET.out w1 HK1.out;have hm2:Moved (·=kb) n pb db w o d (((((w1.setCell ⟨kb,1,none⟩ (.int .u32 (x.t.toNat:Int))).setCell ⟨kb,2,none⟩ (.int .u32 (x.h.toNat:Int))).setCell ⟨kb,3,none⟩ (.int .u64 (x.x.toNat:Int))).setCell ⟨kb,4,none⟩ (.int .u32 (x.m.toNat:Int))).setCell ⟨kb,5,none⟩ (.bool true)) o d L:=
   (((((Moved.ofBelow (S:=(·=kb)) H.out HB1.out).setCell ⟨kb,1,none⟩ _ HOK.out (.inl rfl)).setCell ⟨kb,2,none⟩ _ HOK.out (.inl rfl)).setCell ⟨kb,3,none⟩ _ HOK.out (.inl rfl)).setCell ⟨kb,4,none⟩ _ HOK.out (.inl rfl)).setCell ⟨kb,5,none⟩ _ HOK.out (.inl rfl)
  have hxl2:w.heap.size < (((((w1.setCell ⟨kb,1,none⟩ (.int .u32 (x.t.toNat:Int))).setCell ⟨kb,2,none⟩ (.int .u32 (x.h.toNat:Int))).setCell ⟨kb,3,none⟩ (.int .u64 (x.x.toNat:Int))).setCell ⟨kb,4,none⟩ (.int .u32 (x.m.toNat:Int))).setCell ⟨kb,5,none⟩ (.bool true)).heap.size:=by simpa using hxl
  have f:∀ (j:Nat) (v:Value),w1.cell? ⟨w.heap.size,j,none⟩=some v->(((((w1.setCell ⟨kb,1,none⟩ (.int .u32 (x.t.toNat:Int))).setCell ⟨kb,2,none⟩ (.int .u32 (x.h.toNat:Int))).setCell ⟨kb,3,none⟩ (.int .u64 (x.x.toNat:Int))).setCell ⟨kb,4,none⟩ (.int .u32 (x.m.toNat:Int))).setCell ⟨kb,5,none⟩ (.bool true)).cell? ⟨w.heap.size,j,none⟩=some v:=fun j v hv=>
   ((((((Turn.refl (·=kb) w1).setCell ⟨kb,1,none⟩ (.int .u32 (x.t.toNat:Int)) (.inl rfl)).setCell ⟨kb,2,none⟩ (.int .u32 (x.h.toNat:Int)) (.inl rfl)).setCell ⟨kb,3,none⟩ (.int .u64 (x.x.toNat:Int)) (.inl rfl)).setCell ⟨kb,4,none⟩ (.int .u32 (x.m.toNat:Int)) (.inl rfl)).setCell ⟨kb,5,none⟩ (.bool true) (.inl rfl)).cell hv hnb
  have f0:=f 0 _ e0;have f1:=f 1 _ e1;have f2:=f 2 _ e2;have f3:=f 3 _ e3;have HSINK:=Lib.hid hsink;have HM2:=Lib.hid hm2;have q0:=hsink.cells.1;unfold ptrTo at q0;clear f hsink hm2 e0 e1 e2 e3 k0 k1 k2 k3 k4 k5 z1 z2 z3 z4 z5 HK1;generalize (((((w1.setCell ⟨kb,1,none⟩ (.int .u32 (x.t.toNat:Int))).setCell ⟨kb,2,none⟩ (.int .u32 (x.h.toNat:Int))).setCell ⟨kb,3,none⟩ (.int .u64 (x.x.toNat:Int))).setCell ⟨kb,4,none⟩ (.int .u32 (x.m.toNat:Int))).setCell ⟨kb,5,none⟩ (.bool true))=w2 at *;have hw2l:w.heap.size<=w2.heap.size:=Nat.le_of_lt hxl2;have hk1:Hid (∀ w3 v3,w3.ownsRow w2.drew.heap.size 5 1 v3 x.bytes.length (x.bytes.map bv)->Below w2.drew.heap.size w2.drew w3->(w3.cell? ⟨kb,0,none⟩=some (.pointer (some ⟨sb,0,none⟩))/\w3.cell? ⟨w.heap.size,0,none⟩=some (.int .u32 (x.t.toNat:Int))/\w3.cell? ⟨w.heap.size,1,none⟩=some (.int .u32 (x.h.toNat:Int))/\w3.cell? ⟨w.heap.size,2,none⟩=some (.int .u64 (x.x.toNat:Int))/\w3.cell? ⟨w.heap.size,3,none⟩=some (.int .u32 (x.m.toNat:Int))) /\
   Moved (·=kb) n pb db w o d w3 o d L/\StreamAt w3 sb pb name 20/\Rd w3 v3 x.bytes/\(∀ b,v3.ownBlock=some b->o b=none)/\SinkAt w3 kb sb x true):=Lib.hid (fun w3 v3 ho3 hb3=>by
   have hm3:=HM2.out.drew.below hb3;have hs3:SinkAt w3 kb sb x true:=HSINK.out.kept (hb3.block kb HSINK.out.lt);have g:=fun (j:Nat) (v:Value) (hv:w2.cell? ⟨w.heap.size,j,none⟩=some v)=>(show w3.cell? ⟨w.heap.size,j,none⟩=some v by rw [hb3.cell (p:=⟨w.heap.size,j,none⟩) hxl2];exact hv);refine ⟨⟨hs3.cells.1,g 0 _ f0,g 1 _ f1,g 2 _ f2,g 3 _ f3⟩,hm3,?_,Rd_own ho3,fun b hb=>H.out.fresh (Nat.le_trans hw2l (ownsRow_block ho3 b hb)),hs3⟩;exact HST.out.moved hm3 HO.out (fun e=>HNE.out e.symm))
  have hk2:Hid (∀ w3 w4 d4 o4 L4,Moved (·=kb) n pb db w o d w3 o d L->SinkAt w3 kb sb x true->w3.cell? ⟨w.heap.size,0,none⟩=some (.int .u32 (x.t.toNat:Int))/\w3.cell? ⟨w.heap.size,1,none⟩=some (.int .u32 (x.h.toNat:Int))/\w3.cell? ⟨w.heap.size,2,none⟩=some (.int .u64 (x.x.toNat:Int))/\w3.cell? ⟨w.heap.size,3,none⟩=some (.int .u32 (x.m.toNat:Int))->Moved (fun _=>False) n pb db w3 o d w4 o4 d4 L4 ->
   (w4.cell? ⟨kb,0,none⟩=some (.pointer (some ⟨sb,0,none⟩))/\w4.cell? ⟨w.heap.size,0,none⟩=some (.int .u32 (x.t.toNat:Int))/\w4.cell? ⟨w.heap.size,1,none⟩=some (.int .u32 (x.h.toNat:Int))/\w4.cell? ⟨w.heap.size,2,none⟩=some (.int .u64 (x.x.toNat:Int))/\w4.cell? ⟨w.heap.size,3,none⟩=some (.int .u32 (x.m.toNat:Int))) /\
   Moved (·=kb) n pb db w o d w4 o4 d4 L4/\SinkAt w4 kb sb x true):=Lib.hid (fun w3 w4 d4 o4 L4 hm3 hs3 ⟨g0,g1,g2,g3⟩ hm4=>by
   have hs4:SinkAt w4 kb sb x true:=hs3.kept (hm4.block hs3.lt HOK.out (fun h=>h));have hx:o w.heap.size=none:=H.out.fresh (Nat.le_refl _);exact ⟨⟨hs4.cells.1,hm4.cell g0 hx (fun h=>h),hm4.cell g1 hx (fun h=>h),hm4.cell g2 hx (fun h=>h),hm4.cell g3 hx (fun h=>h)⟩,hm3.trans hm4 (fun _ _ h=>h.elim),hs4⟩)
  go_region_held3 (fun w'=>w'.cell? ⟨kb,0,none⟩=some (.pointer (some ⟨sb,0,none⟩))/\w'.cell? ⟨w.heap.size,0,none⟩=some (.int .u32 (x.t.toNat:Int))/\w'.cell? ⟨w.heap.size,1,none⟩=some (.int .u32 (x.h.toNat:Int))/\w'.cell? ⟨w.heap.size,2,none⟩=some (.int .u64 (x.x.toNat:Int))/\w'.cell? ⟨w.heap.size,3,none⟩=some (.int .u32 (x.m.toNat:Int))) (first | exact ⟨q0,f0,f1,f2,f3⟩ | exact q1 | exact q2)
   (first
     | (go_at_call 208;refine (hedge.out _).mono ?_;rintro e w3 ⟨v3,rfl,ho3,hb3⟩;obtain ⟨q1,hm3,hst3,hr3,hf3,hs3⟩:=hk1.out w3 v3 ho3 hb3)
     | (go_at_call 72;refine (hadd.out w3 o d hm3.pool hst3 HO.out v3 hr3 hf3).mono ?_;rintro e w4 ⟨c4,d4,o4,rfl,hm4,he4⟩;obtain ⟨q2,hm5,hs5⟩:=hk2.out w3 w4 d4 o4 _ hm3 hs3 q1.2 hm4))
  have HM5:=Lib.hid hm5;have HS5:=Lib.hid hs5;have HE4:=Lib.hid he4;clear hm5 hs5 he4 hm4 hm3 hst3 hr3 hf3 hs3 ho3 hb3 q1 q2 q0 f0 f1 f2 f3;go_wp2;go_ret;exact ⟨c4,d4,o4,rfl,HM5.out,HE4.out,HS5.out⟩
theorem sinkPut_any (HW:WriteSaid) (h:PoolAt w pb db n o d L) (hst:StreamAt w sb pb name 20) (ho:o sb=none) (hok:o kb=none) (hne:kb≠sb) {out:List Edg} (hL:mget L name=some (edgeFile out false)) (hN:out.length < 65535) (hk:SinkOf w kb sb out) (x:Edg) :
 Calls Tryz.prog 225 #[ptrTo kb, .agg #[.int .u32 (x.t.toNat:Int), .int .u32 (x.h.toNat:Int), .int .u64 (x.x.toNat:Int), .int .u32 (x.m.toNat:Int)]] w (SinkPost n pb db w o d L name kb sb out x):=by
 obtain ⟨last,any,hsk,hcase⟩:∃ last any,SinkAt w kb sb last any/\((out=[]/\any=false)\/(out.getLast? = some last/\any=true)):=by
  rcases hk with ⟨h1,y,h2⟩ | ⟨y,h1,h2⟩
  ·exact ⟨y,false,h2, .inl ⟨h1,rfl⟩⟩
  ·exact ⟨y,true,h2, .inr ⟨h1,rfl⟩⟩
 obtain ⟨p1,p2⟩:=skipsB_out (x:=x) hcase;cases hs:skipsB last any x with
 | true=>
   refine (put_skip hsk hs).mono ?_;rintro e w' ⟨rfl,hb⟩;refine ⟨0,d,o,rfl,?_, .inl rfl,fun _=>?_⟩
   ·rw [if_pos rfl,p1 hs];exact (Moved.ofBelow h hb).same hL
   ·rw [p1 hs];exact hk.below hb
 | false=>
   refine (put_lay HW h hst ho hok hne hL hN hsk hs).mono ?_;rintro e w' ⟨c,d',o',rfl,hm,he,hs'⟩;refine ⟨c,d',o',rfl,by rw [p2 hs];exact hm,he,fun _=>?_⟩;rw [p2 hs];exact .inr ⟨x,by simp,hs'⟩
end
end
end Go.Proofs.YthkkgdpomhhjjaaGreatDoor
namespace Go.Proofs
open Go.Shelf
def Tryz.itoa_ren:Go.Shelf.Ren:=⟨fun | 171=>51 | 243=>85 | 246=>126 | 283=>187 | 284=>188 | 285=>189 | 286=>190 | 129=>136 | 317=>232 | 318=>233 | 319=>234 | 320=>235 | 337=>276 | 338=>277 | n=>n,fun | 3=>3 | 9=>9 | 2=>2 | 4=>4 | 171=>276 | 0=>0 | 53=>62 | 37=>39 | 5=>5 | 173=>278 | 212=>311 | 51=>26 | 20=>20 | 213=>312 | 46=>159 | 232=>377 | 233=>378 | n=>n,fun | 17=>0 | 18=>1 | 19=>2 | n=>n⟩
theorem Tryz.itoa:Go.Proofs.LaysM.n171 Tryz.prog Tryz.itoa_ren:={
 mixed:=by kernel_rfl
 f129:=Tryz.func136.trans (congrArg some (by kernel_rfl))
 f171:=Tryz.func51.trans (congrArg some (by kernel_rfl))
 f243:=Tryz.func85.trans (congrArg some (by kernel_rfl))
 f246:=Tryz.func126.trans (congrArg some (by kernel_rfl))
 f283:=Tryz.func187.trans (congrArg some (by kernel_rfl))
 f284:=Tryz.func188.trans (congrArg some (by kernel_rfl))
 f285:=Tryz.func189.trans (congrArg some (by kernel_rfl))
 f286:=Tryz.func190.trans (congrArg some (by kernel_rfl))
 f317:=Tryz.func232.trans (congrArg some (by kernel_rfl))
 f318:=Tryz.func233.trans (congrArg some (by kernel_rfl))
 f319:=Tryz.func234.trans (congrArg some (by kernel_rfl))
 f320:=Tryz.func235.trans (congrArg some (by kernel_rfl))
 f337:=Tryz.func276.trans (congrArg some (by kernel_rfl))
 f338:=Tryz.func277.trans (congrArg some (by kernel_rfl))
 t0:=Tryz.underlying0
 a0:=Tryz.isAgg0
 z0:=Tryz.sizeOf0
 v0:=Tryz.zeroValue0
 t2:=Tryz.underlying2
 a2:=Tryz.isAgg2
 z2:=Tryz.sizeOf2
 v2:=Tryz.zeroValue2
 t3:=Tryz.underlying3
 a3:=Tryz.isAgg3
 z3:=Tryz.sizeOf3
 v3:=Tryz.zeroValue3
 t4:=Tryz.underlying4
 a4:=Tryz.isAgg4
 z4:=Tryz.sizeOf4
 v4:=Tryz.zeroValue4
 t5:=Tryz.underlying5
 a5:=Tryz.isAgg5
 z5:=Tryz.sizeOf5
 v5:=Tryz.zeroValue5
 t9:=Tryz.underlying9
 a9:=Tryz.isAgg9
 z9:=Tryz.sizeOf9
 v9:=Tryz.zeroValue9
 t20:=Tryz.underlying20
 a20:=Tryz.isAgg20
 z20:=Tryz.sizeOf20
 v20:=Tryz.zeroValue20
 t37:=Tryz.underlying39
 a37:=Tryz.isAgg39
 z37:=Tryz.sizeOf39
 v37:=Tryz.zeroValue39
 t46:=Tryz.underlying159
 a46:=Tryz.isAgg159
 z46:=Tryz.sizeOf159
 v46:=Tryz.zeroValue159
 t51:=Tryz.underlying26
 a51:=Tryz.isAgg26
 z51:=Tryz.sizeOf26
 v51:=Tryz.zeroValue26
 t53:=Tryz.underlying62
 a53:=Tryz.isAgg62
 z53:=Tryz.sizeOf62
 v53:=Tryz.zeroValue62
 t171:=Tryz.underlying276
 a171:=Tryz.isAgg276
 z171:=Tryz.sizeOf276
 v171:=Tryz.zeroValue276
 t173:=Tryz.underlying278
 a173:=Tryz.isAgg278
 z173:=Tryz.sizeOf278
 v173:=Tryz.zeroValue278
 t212:=Tryz.underlying311
 a212:=Tryz.isAgg311
 z212:=Tryz.sizeOf311
 v212:=Tryz.zeroValue311
 t213:=Tryz.underlying312
 a213:=Tryz.isAgg312
 z213:=Tryz.sizeOf312
 t232:=Tryz.underlying377
 a232:=Tryz.isAgg377
 z232:=Tryz.sizeOf377
 v232:=Tryz.zeroValue377
 t233:=Tryz.underlying378
 a233:=Tryz.isAgg378
 z233:=Tryz.sizeOf378
 v233:=Tryz.zeroValue378
 g17:=by kernel_rfl
 g18:=by kernel_rfl
 g19:=by kernel_rfl
 i0:=by kernel_rfl
 i2:=by kernel_rfl
 i3:=by kernel_rfl
 i4:=by kernel_rfl
 i5:=by kernel_rfl
 i9:=by kernel_rfl
 i20:=by kernel_rfl
 i37:=by kernel_rfl
 i46:=by kernel_rfl
 i51:=by kernel_rfl
 i53:=by kernel_rfl
 i171:=by kernel_rfl
 i173:=by kernel_rfl
 i212:=by kernel_rfl
 i232:=by kernel_rfl
 i233:=by kernel_rfl
 m17:=by kernel_rfl
 m18:=by kernel_rfl
 m19:=by kernel_rfl }
def Tryz.hasPre_ren:Go.Shelf.Ren:=⟨fun | 99=>114 | 206=>176 | n=>n,fun | 9=>9 | 4=>4 | 3=>3 | n=>n,fun | n=>n⟩
theorem Tryz.hasPre:Go.Proofs.Lays.n99 Tryz.prog Tryz.hasPre_ren:={
 mixed:=by kernel_rfl
 f99:=Tryz.func114.trans (congrArg some (by kernel_rfl))
 f206:=Tryz.func176.trans (congrArg some (by kernel_rfl))
 t3:=Tryz.underlying3
 a3:=Tryz.isAgg3
 z3:=Tryz.sizeOf3
 v3:=Tryz.zeroValue3
 t4:=Tryz.underlying4
 a4:=Tryz.isAgg4
 z4:=Tryz.sizeOf4
 v4:=Tryz.zeroValue4
 t9:=Tryz.underlying9
 a9:=Tryz.isAgg9
 z9:=Tryz.sizeOf9
 v9:=Tryz.zeroValue9 }
end Go.Proofs
namespace Go.Proofs.YthkkgdpomhhjjaaGreatDoor
section
open Go.RowKit Go.Maps Go.MapKept
section
variable {S:Nat->Prop} {w w':World} {pb db n cb kb sb jb byb made:Nat} {by':Bool} {name:Name} {o o':Owner} {d d':Dsk} {L L':Logic}
theorem JobAt.moved (h:JobAt w jb pb byb made by') (hm:Moved S n pb db w o d w' o' d' L') (h1:o jb=none) (h2:o byb=none) (h3:¬ S jb) (h4:¬ S byb):JobAt w' jb pb byb made by':=
 h.kept (hm.block h.lt.1 h1 h3) (hm.block h.lt.2 h2 h4)
theorem Sound.weaken {fs:List Frm} (h:Sound d fs L) {ps:List Pg} {fl:Bool} (hL:mget L name=some (.inl (ps,fl))):Sound d fs (mput L name (.inl (ps,false))) where
 keys:=mput_keys h.keys
 dkeys:=h.dkeys
 names:=fun x=>by
  rw [isSome_mput,h.names];by_cases e:x=name
  ·subst e;simp [hL]
  ·simp [e]
 ok:=fun x hx=>by
  rw [isSome_mput] at hx;by_cases e:x=name
  ·subst e;exact h.ok x (by rw [hL];rfl)
  ·exact h.ok x (by simpa [e] using hx)
 paged:=fun x ps' fl' hg=>by
  rw [mget_mput] at hg;by_cases e:x=name
  ·rw [if_pos e] at hg;cases hg;subst e;obtain ⟨f,dp,q⟩:=h.paged _ _ _ hL;exact ⟨f,dp,q.get,q.now,q.le,q.most,q.short,q.sdp,q.each,fun e=>(by cases e),q.near⟩
  ·rw [if_neg e] at hg;exact h.paged x ps' fl' hg
 raws:=fun x f' ls hg=>by
  rw [mget_mput] at hg;by_cases e:x=name
  ·rw [if_pos e] at hg;cases hg
  ·rw [if_neg e] at hg;exact h.raws x f' ls hg
 frames:=fun fr hfr hf=>by
  obtain ⟨ps',fl',h1,h2⟩:=h.frames fr hfr hf;rw [mget_mput];by_cases e:fr.name=name
  ·rw [if_pos e];rw [e,hL] at h1;cases h1;exact ⟨ps,false,rfl,h2⟩
  ·rw [if_neg e];exact ⟨ps',fl',h1,h2⟩
 blank:=h.blank
 once:=h.once
 looseIn:=fun x s hs=>by
  rw [isSome_mput,h.looseIn x s hs];simp
theorem PoolAt.weaken (h:PoolAt w pb db n o d L) {ps:List Pg} {fl:Bool} (hL:mget L name=some (.inl (ps,fl))):PoolAt w pb db n o d (mput L name (.inl (ps,false))):=by
 obtain ⟨fb,mb,l,hand,mf,h,hl,g⟩:=h;exact ⟨fb,mb,l,hand,mf,h,hl,g.weaken hL⟩
theorem edgeFile_nil (fl:Bool):edgeFile [] fl=.inl ([],fl):=rfl
def createCode (d:Dsk) (L:Logic) (name:Name):Nat:=if d.tick.dead=true then 6 else if okName name=false then 1 else if (mget L name).isSome=true then 4 else 0
def CreatePost (n pb db:Nat) (w:World) (o:Owner) (d:Dsk) (L:Logic) (name:Name) (e:Ending) (w':World):Prop:=
 ∃ d' o',e=.returned (.int .i64 (createCode d L name:Int))/\Moved (fun _=>False) n pb db w o d w' o' d' (if createCode d L name=0 then mput L name (.inl ([],true)) else L)/\(createCode d L name=0->d'.dead=false)/\(d.tick.dead=true->d'.dead=true)
theorem create_pool (h:PoolAt w pb db n o d L) (name:Name) (hs:name.size<=1000):Calls Tryz.prog 71 #[ptrTo pb, .string name] w (CreatePost n pb db w o d L name):=by
 obtain ⟨fb,mb,l,hand,mf,hp,hl,g⟩:=h;refine (poolCreate_any hp name hs).mono ?_;rintro e w' ⟨rfl,o',hd,ht,hg⟩;have hp':=hp.reDisk hd ht hg;have hcode:(d.create name).2=createCode d L name:=by
  unfold Dsk.create createCode;rw [<- g.names];split
  ·rfl
  ·split
   ·rfl
   ·split<;>rfl
 refine ⟨(d.create name).1,o',by rw [hcode],⟨⟨fb,mb,l,hand,mf,hp',hl,?_⟩,(Turn.pool ht).mono (fun _ _ h=>.inl h),hg,?_⟩,?_,?_⟩
 ·unfold createCode Dsk.create;rw [<- g.names];split
  ·exact g.tick
  ·rename_i hdd
   split
   ·exact g.tick
   ·rename_i hok
    split
    ·exact g.tick
    ·rename_i hno
     rw [if_pos rfl];refine g.create (by simpa using hok) ?_ rfl (Dsk.tick_loose d);have:=g.names name;rw [Bool.not_eq_true] at hno;rw [hno] at this;exact Option.not_isSome_iff_eq_none.1 (by rw [<- this];simp)
 ·unfold Dsk.create;split
  ·exact Onward.tick d
  ·split
   ·exact Onward.tick d
   ·split
    ·exact Onward.tick d
    ·exact (Onward.tick d).of rfl rfl rfl
 ·intro h0;rw [<- hcode] at h0;unfold Dsk.create at h0 ⊢;by_cases hdd:d.tick.dead=true
  ·rw [if_pos hdd] at h0;cases h0
  ·rw [if_neg hdd] at h0 ⊢;have hdf:d.tick.dead=false:=by simpa using hdd
   split
   ·exact hdf
   ·split<;>exact hdf
 ·intro hdd;unfold Dsk.create;rw [if_pos hdd];exact hdd
def tName (k:Nat):Name:=⟨([116,46]++Lib.decDigits k).toArray⟩
set_option maxRecDepth 100000 in
set_option maxHeartbeats 2000000 in
theorem fresh_any (hj:JobAt w jb pb byb made by') (hm:made < 100) (hne:byb≠jb) :
 Calls Tryz.prog 178 #[ptrTo jb] w fun e w'=>e=.returned (.string (tName made))/\JobAt w' jb pb byb (made+1) by'/\Turn (·=jb) w w':=by
 obtain ⟨-,-,hc2,-,hz⟩:=hj.cells;have HJ:=Lib.hid hj;have hit:=Lib.hid (fun W=>Any.strconv_Itoa_small (P:=Tryz.prog) (ρ:=Tryz.itoa_ren) { Tryz.itoa with } made hm W);have hjl:=hj.lt;have hw1:IntKind.i64.wrap ((made:Int)+1)=(made:Int)+1:=wrap_in (by omega) (by omega);have hw2:IntKind.i64.wrap ((made:Int)+1 - 1)=(made:Int):=by rw [wrap_in (by omega) (by omega)];omega
 clear hj;have hdl:(Lib.decDigits made).length<=2:=by
  by_cases h:made < 10
  ·rw [Lib.decDigits_one h];simp
  ·rw [Lib.decDigits_two h hm];simp
 have HT:Hid ((⟨#[116,46]⟩:ByteArray)++⟨(Lib.decDigits made).toArray⟩=tName made):=Lib.hid (by
  unfold tName;apply ByteArray.ext;simp)
 generalize Lib.decDigits made=dg at *;unfold ptrTo;go_enter Tryz.func178,Tryz.ntmps178
 go_wp2_with fail
 refine (hit.out _).mono ?_;rintro e w' ⟨rfl,rfl⟩;go_wp2;go_ret;refine ⟨by rw [<- HT.out];rfl,?_,(Turn.refl _ w).setCell _ _ (.inl rfl)⟩;obtain ⟨⟨t,h1⟩,⟨t',h2⟩⟩:=HJ.out;refine ⟨⟨t,?_⟩,⟨t',?_⟩⟩
 ·have:=cells_set h1 2 (.int .i64 ((made:Int)+1));rw [this];rfl
 ·rw [Below.heap_setCell _ _ _ _ hne];exact h2
def edg0:Edg:=⟨0,0,0,0⟩
def OpenSrcPost (n pb db:Nat) (w:World) (o:Owner) (d:Dsk) (L:Logic) (name:Name) (N:Nat) (e:Ending) (w':World):Prop:=
 ∃ v c d' o',e=.returned (.tuple #[v, .int .i64 ((c:Nat):Int)])/\Moved (fun _=>False) n pb db w o d w' o' d' L/\(c=0\/Err d d' L c) /\
  (c=0->∃ cb sb,v=ptrTo cb/\SourceAt w' cb sb 0 N edg0/\StreamAt w' sb pb name 20/\o' cb=none/\o' sb=none/\w.heap.size<=cb/\w.heap.size<=sb)
set_option maxRecDepth 100000 in
set_option maxHeartbeats 4000000 in
theorem jobOpen_any (HW:WriteSaid) (h:PoolAt w pb db n o d L) (hj:JobAt w jb pb byb made by') {es:List Edg} {fl:Bool} (hL:mget L name=some (edgeFile es fl)) :
 Calls Tryz.prog 116 #[ptrTo jb, .string name] w (OpenSrcPost n pb db w o d L name es.length):=by
 have hs:=okName_1000 (h.ok hL);have hopen:=Lib.hid (streamOpen_any (sz:=20) h name hs (by decide) (by decide));have hlen:Hid (∀ W o' d' sb,PoolAt W pb db n o' d' L->StreamAt W sb pb name 20->o' sb=none->Calls Tryz.prog 59 #[ptrTo sb] W (Stays n pb db W o' d' L (numIs es.length))):=Lib.hid (fun W o' d' sb hW hst ho'=>by
  have:=streamLen_any HW hW hst ho' (by decide) (by decide) hL (sized_edges es);rw [List.length_map] at this;exact this)
 have hpf:=pfOpen_paged h hL;have H:=Lib.hid h;have hc0:=hj.cells.1;clear h hj hL;unfold ptrTo at *;generalize es.length=N at *;cases hd:d.dead with
 | true=>
   rw [hd,if_pos rfl] at hpf;rw [hpf] at hopen;have HD:=Lib.hid hd;clear hd hpf;go_enter Tryz.func116,Tryz.ntmps116
   go_wp2_with fail
   refine hopen.out.mono ?_;rintro e w1 ⟨v1,rfl,hb1,-,hbad⟩;obtain rfl:=hbad (by decide);have HB:=Lib.hid hb1;clear hb1 hbad;go_wp2;go_ret2
   exact ⟨_,6,d,o,rfl,Moved.ofBelow H.out HB.out, .inr (.inr ⟨rfl,HD.out⟩),fun h=>absurd h (by decide)⟩
 | false=>
   rw [hd,if_neg (by simp)] at hpf;rw [hpf] at hopen;clear hd hpf;go_enter Tryz.func116,Tryz.ntmps116
   go_wp2_with fail
   refine hopen.out.mono ?_;rintro e w1 ⟨v1,rfl,hb1,hok,-⟩;obtain ⟨sb,rfl,hst1,hsb⟩:=hok rfl;have HB:=Lib.hid hb1;have HST1:=Lib.hid hst1;have hfree:o sb=none:=H.out.fresh hsb;have HF:=Lib.hid hfree;have hcall:=Lib.hid (hlen.out w1 o d sb (H.out.below hb1) hst1 hfree);clear hb1 hst1 hok hfree;unfold ptrTo at *;go_wp2_with fail
   refine hcall.out.mono ?_;rintro e w2 ⟨c2,d2,o2,⟨x,rfl,hx⟩,hm2,he2⟩;have HX:=Lib.hid hx;have HM2:=Lib.hid ((Moved.ofBelow H.out HB.out).trans hm2 (fun _ _ h=>h));have HST2:=Lib.hid (HST1.out.moved hm2 HF.out (fun h=>h));have HE2:=Lib.hid he2;have hsb1:=HST1.out.lt;have hs2:w.heap.size<=w2.heap.size:=HM2.out.size;have HF2:Hid (o2 sb=none):=Lib.hid (hm2.free hsb1 HF.out);clear hx hm2 he2;go_wp2;go_ret2
   refine ⟨_,c2,d2,o2,rfl,HM2.out.alloc _,HE2.out,fun h0=>⟨w2.heap.size,sb,rfl,⟨265,?_⟩,HST2.out.below ((Below.refl _ _).alloc (Nat.le_refl _) _),HM2.out.pool.fresh (Nat.le_refl _),HF2.out,hs2,hsb⟩⟩;rw [heap_alloc_new,HX.out h0];rfl
def CreateSinkPost (n pb db:Nat) (w:World) (o:Owner) (d:Dsk) (L:Logic) (name:Name) (e:Ending) (w':World):Prop:=
 ∃ v c d' o',e=.returned (.tuple #[v, .int .i64 ((c:Nat):Int)])/\Moved (fun _=>False) n pb db w o d w' o' d' (if c=0 then mput L name (edgeFile [] false) else L)/\(c=0\/c=6/\d'.dead=true) /\
  (c=0->∃ kb sb,v=ptrTo kb/\SinkOf w' kb sb []/\StreamAt w' sb pb name 20/\o' kb=none/\o' sb=none/\kb≠sb/\w.heap.size<=kb/\w.heap.size<=sb)
set_option maxRecDepth 100000 in
set_option maxHeartbeats 4000000 in
theorem jobCreate_any (h:PoolAt w pb db n o d L) (hj:JobAt w jb pb byb made by') (hoj:o jb=none) (hok:okName name=true) (hno:mget L name=none) :
 Calls Tryz.prog 223 #[ptrTo jb, .string name] w (CreateSinkPost n pb db w o d L name):=by
 have hs:=okName_1000 hok;have hcr:=Lib.hid (create_pool h name hs);have hcode:createCode d L name=if d.tick.dead=true then 6 else 0:=by
  unfold createCode;rw [hok,hno];rfl
 have hopen:Hid (∀ W o' d' L',PoolAt W pb db n o' d' L'->Calls Tryz.prog 67 #[ptrTo pb, .string name, .int .i64 20] W (StreamOpenPost W pb name 20 (pfOpen d' name))):=Lib.hid (fun W o' d' L' hW=>streamOpen_any (sz:=20) hW name hs (by decide) (by decide));have hjl:=hj.lt.1;have HJ:=Lib.hid hj;have HOJ:=Lib.hid hoj;have hc0:=hj.cells.1;have HKEYS:=Lib.hid h.keys;clear h hj hoj hok hno;unfold ptrTo at *;cases hd:d.tick.dead with
 | true=>
   rw [hd,if_pos rfl] at hcode;unfold CreatePost at hcr;rw [hcode] at hcr;have HD:=Lib.hid hd;clear hd hcode;go_enter Tryz.func223,Tryz.ntmps223
   go_wp2_with fail
   refine hcr.out.mono ?_;rintro e w1 ⟨d1,o1,rfl,hm1,-,hdd⟩;rw [if_neg (by decide)] at hm1;have HM:=Lib.hid hm1;have HDD:=Lib.hid (hdd HD.out);clear hm1 hdd;go_wp2;go_ret2
   exact ⟨_,6,d1,o1,rfl,HM.out, .inr ⟨rfl,HDD.out⟩,fun h=>absurd h (by decide)⟩
 | false=>
   rw [hd,if_neg (by simp)] at hcode;unfold CreatePost at hcr;rw [hcode] at hcr;clear hd hcode;go_enter Tryz.func223,Tryz.ntmps223
   go_wp2_with fail
   refine hcr.out.mono ?_;rintro e w1 ⟨d1,o1,rfl,hm1,hdd,-⟩;simp only [if_true] at hm1;have hget:mget (mput L name (.inl (([]:List Pg),true))) name=some (.inl (([]:List Pg),true)):=by rw [mget_mput,if_pos rfl]
   have hpf:pfOpen d1 name=0:=by
    rw [pfOpen_paged hm1.pool hget,hdd trivial];rfl
   have hj1:w1.cell? ⟨jb,0,none⟩=some (.pointer (some ⟨pb,0,none⟩)):=hm1.cell hc0 HOJ.out (fun h=>h);have hcall:=Lib.hid (hopen.out w1 o1 d1 _ hm1.pool);rw [hpf] at hcall;have hm1':Moved (fun _=>False) n pb db w o d w1 o1 d1 (mput L name (edgeFile [] false)):=
    ⟨(hm1.pool.weaken hget).congr (mput_keys HKEYS.out) (fun x=>by
      rw [edgeFile_nil,mget_mput,mget_mput,mget_mput];by_cases e:x=name
      ·rw [if_pos e,if_pos e]
      ·rw [if_neg e,if_neg e,if_neg e]),hm1.turn,hm1.grow,hm1.on⟩
   have HM:=Lib.hid hm1';have HF:=Lib.hid (fun x (hx:w1.heap.size<=x)=>hm1.pool.fresh hx);have hs1:w.heap.size<=w1.heap.size:=hm1.size;clear hm1 hm1' hdd hpf hget;go_wp2_with fail
   refine hcall.out.mono ?_;rintro e w2 ⟨v2,rfl,hb2,hok2,-⟩;obtain ⟨sb,rfl,hst2,hsb⟩:=hok2 rfl;have HB2:=Lib.hid hb2;have HST2:=Lib.hid hst2;have hsb2:=hst2.lt;have hs2:w1.heap.size<=w2.heap.size:=hb2.size;clear hb2 hst2 hok2;unfold ptrTo;go_wp2;go_ret2
   refine ⟨_,0,d1,o1,rfl,by rw [if_pos rfl];exact (HM.out.below HB2.out).alloc _, .inl rfl,fun _=>⟨w2.heap.size,sb,rfl, .inl ⟨rfl,edg0,⟨341,?_⟩⟩,HST2.out.below ((Below.refl _ _).alloc (Nat.le_refl _) _),HF.out _ hs2,HF.out _ hsb,by omega,by omega,by omega⟩⟩;rw [heap_alloc_new];rfl
end
end
end Go.Proofs.YthkkgdpomhhjjaaGreatDoor
namespace Go.Proofs
open Go.Shelf
def Tryz.sortEdges_ren:Go.Shelf.Ren:=⟨fun | 6=>260 | 15=>87 | 14=>292 | 28=>135 | 29=>136 | 20=>305 | 21=>306 | 22=>307 | 23=>308 | 24=>309 | 25=>310 | 26=>311 | 27=>312 | 46=>315 | 47=>192 | 48=>193 | 49=>316 | 50=>317 | 57=>319 | n=>n,fun | 22=>22 | 24=>64 | 25=>305 | 3=>3 | 39=>159 | 0=>0 | 53=>26 | 55=>62 | 4=>4 | 46=>221 | 45=>220 | 50=>225 | 5=>5 | 9=>9 | 66=>280 | 70=>284 | 76=>313 | 77=>98 | n=>n,fun | n=>n⟩
theorem Tryz.sortEdges:Go.Proofs.SlLaysF0.n6 Tryz.prog Tryz.sortEdges_ren:={
 mixed:=by kernel_rfl
 f6:=⟨Tryz.f260.name,by decide,Tryz.func260.trans (congrArg some (by kernel_rfl))⟩
 f14:=⟨Tryz.f292.name,by decide,Tryz.func292.trans (congrArg some (by kernel_rfl))⟩
 f15:=Tryz.func87.trans (congrArg some (by kernel_rfl))
 f20:=⟨Tryz.f305.name,by decide,Tryz.func305.trans (congrArg some (by kernel_rfl))⟩
 f21:=⟨Tryz.f306.name,by decide,Tryz.func306.trans (congrArg some (by kernel_rfl))⟩
 f22:=⟨Tryz.f307.name,by decide,Tryz.func307.trans (congrArg some (by kernel_rfl))⟩
 f23:=⟨Tryz.f308.name,by decide,Tryz.func308.trans (congrArg some (by kernel_rfl))⟩
 f24:=⟨Tryz.f309.name,by decide,Tryz.func309.trans (congrArg some (by kernel_rfl))⟩
 f25:=⟨Tryz.f310.name,by decide,Tryz.func310.trans (congrArg some (by kernel_rfl))⟩
 f26:=⟨Tryz.f311.name,by decide,Tryz.func311.trans (congrArg some (by kernel_rfl))⟩
 f27:=⟨Tryz.f312.name,by decide,Tryz.func312.trans (congrArg some (by kernel_rfl))⟩
 f28:=Tryz.func135.trans (congrArg some (by kernel_rfl))
 f29:=Tryz.func136.trans (congrArg some (by kernel_rfl))
 f46:=⟨Tryz.f315.name,by decide,Tryz.func315.trans (congrArg some (by kernel_rfl))⟩
 f47:=Tryz.func192.trans (congrArg some (by kernel_rfl))
 f48:=Tryz.func193.trans (congrArg some (by kernel_rfl))
 f49:=⟨Tryz.f316.name,by decide,Tryz.func316.trans (congrArg some (by kernel_rfl))⟩
 f50:=⟨Tryz.f317.name,by decide,Tryz.func317.trans (congrArg some (by kernel_rfl))⟩
 f57:=⟨Tryz.f319.name,by decide,Tryz.func319.trans (congrArg some (by kernel_rfl))⟩
 t0:=Tryz.underlying0
 a0:=Tryz.isAgg0
 z0:=Tryz.sizeOf0
 v0:=Tryz.zeroValue0
 t3:=Tryz.underlying3
 a3:=Tryz.isAgg3
 z3:=Tryz.sizeOf3
 v3:=Tryz.zeroValue3
 t4:=Tryz.underlying4
 a4:=Tryz.isAgg4
 z4:=Tryz.sizeOf4
 v4:=Tryz.zeroValue4
 t5:=Tryz.underlying5
 a5:=Tryz.isAgg5
 z5:=Tryz.sizeOf5
 v5:=Tryz.zeroValue5
 t9:=Tryz.underlying9
 a9:=Tryz.isAgg9
 z9:=Tryz.sizeOf9
 v9:=Tryz.zeroValue9
 t22:=Tryz.underlying22
 a22:=Tryz.isAgg22
 z22:=Tryz.sizeOf22
 v22:=Tryz.zeroValue22
 t25:=Tryz.underlying305
 a25:=Tryz.isAgg305
 z25:=Tryz.sizeOf305
 v25:=Tryz.zeroValue305
 t39:=Tryz.underlying159
 a39:=Tryz.isAgg159
 z39:=Tryz.sizeOf159
 v39:=Tryz.zeroValue159
 t45:=Tryz.underlying220
 a45:=Tryz.isAgg220
 z45:=Tryz.sizeOf220
 v45:=Tryz.zeroValue220
 t46:=Tryz.underlying221
 a46:=Tryz.isAgg221
 z46:=Tryz.sizeOf221
 v46:=Tryz.zeroValue221
 t50:=Tryz.underlying225
 a50:=Tryz.isAgg225
 z50:=Tryz.sizeOf225
 v50:=Tryz.zeroValue225
 t53:=Tryz.underlying26
 a53:=Tryz.isAgg26
 z53:=Tryz.sizeOf26
 v53:=Tryz.zeroValue26
 t55:=Tryz.underlying62
 a55:=Tryz.isAgg62
 z55:=Tryz.sizeOf62
 v55:=Tryz.zeroValue62
 t66:=Tryz.underlying280
 a66:=Tryz.isAgg280
 z66:=Tryz.sizeOf280
 v66:=Tryz.zeroValue280
 t70:=Tryz.underlying284
 a70:=Tryz.isAgg284
 z70:=Tryz.sizeOf284
 v70:=Tryz.zeroValue284
 t76:=Tryz.underlying313
 a76:=Tryz.isAgg313
 z76:=Tryz.sizeOf313
 v76:=Tryz.zeroValue313
 t77:=Tryz.underlying98
 a77:=Tryz.isAgg98
 z77:=Tryz.sizeOf98
 v77:=Tryz.zeroValue98 }
end Go.Proofs
namespace Go.Proofs.YthkkgdpomhhjjaaGreatDoor
section
open Go.RowKit Go.Maps Go.MapKept
def edgRow:List Edg->List Value
 | []=>[]
 | e::l=>e.cells++edgRow l
theorem edgRow_length (l:List Edg):(edgRow l).length=l.length*4:=by
 induction l with
 | nil=>rfl
 | cons e l ih=>rw [edgRow,List.length_append,ih,List.length_cons];simp;omega
theorem edgRow_append (a b:List Edg):edgRow (a++b)=edgRow a++edgRow b:=by
 induction a with
 | nil=>rfl
 | cons e a ih=>rw [List.cons_append,edgRow,edgRow,ih,List.append_assoc]
theorem edgRow_get {l:List Edg} {i:Nat} {e:Edg} (h:l[i]? = some e) {j:Nat} (hj:j < 4):(edgRow l)[i*4+j]? = e.cells[j]? := by
 induction l generalizing i with
 | nil=>cases h
 | cons q l ih=>
   rw [edgRow];cases i with
   | zero=>
     cases h;rw [List.getElem?_append_left (by simp [Edg.cells];omega)];simp
   | succ i=>
     rw [List.getElem?_append_right (by simp [Edg.cells];omega),<- ih (i:=i) (by simpa using h)];congr 1;simp [Edg.cells];omega
abbrev ownsEdges (w:World) (base:Nat) (v:Value) (l:List Edg):Prop:=w.ownsRow base 64 4 v l.length (edgRow l)
theorem ownsEdges_cells {w:World} {base g cap:Nat} {l:List Edg} (h:ownsEdges w base (.slice (some ⟨g,0,none⟩) l.length cap) l) {i:Nat} {e:Edg} (hi:l[i]? = some e) :
 w.cell? ⟨g,i*4,none⟩=some (.int .u32 (e.t.toNat:Int))/\w.cell? ⟨g,i*4+1,none⟩=some (.int .u32 (e.h.toNat:Int))/\w.cell? ⟨g,i*4+2,none⟩=some (.int .u64 (e.x.toNat:Int))/\w.cell? ⟨g,i*4+3,none⟩=some (.int .u32 (e.m.toNat:Int)):=by
 have hc:∀ (j:Nat) (u:Value),(edgRow l)[j]? = some u->w.cell? ⟨g,j,none⟩=some u:=fun j u hj=>by
  have:=World.ownsRow.cells h (g:=g) rfl j u hj;rwa [Addr_add,Nat.zero_add] at this
 refine ⟨hc _ _ ?_,hc _ _ ?_,hc _ _ ?_,hc _ _ ?_⟩
 ·have:=edgRow_get hi (j:=0) (by decide);rw [Nat.add_zero] at this;rw [this];rfl
 ·rw [edgRow_get hi (by decide)];rfl
 ·rw [edgRow_get hi (by decide)];rfl
 ·rw [edgRow_get hi (by decide)];rfl
theorem ownsEdges_shape {w:World} {base:Nat} {v:Value} {l:List Edg} (h:ownsEdges w base v l):(l=[]/\v=.slice none 0 0)\/∃ g cap,v=.slice (some ⟨g,0,none⟩) l.length cap/\base<=g/\l.length<=cap/\cap<=maxLen:=by
 obtain ⟨_,⟨h1,h2⟩ | ⟨g,cap,cur,h1,h2,h3,h4,h5,_⟩⟩:=h
 ·exact .inl ⟨List.eq_nil_of_length_eq_zero h2,h1⟩
 ·exact .inr ⟨g,cap,h1,h2,h4,h5⟩
theorem info_edge:(Tryz.prog.info? 64).map (fun i=>(i.zero,i.size,i.bytes))=some (some (.agg #[.int .u32 0, .int .u32 0, .int .u64 0, .int .u32 0]),4,24):=by kernel_rfl
def cmpFn (jb:Nat):Value:=.func (.func 224) #[ptrTo jb] #[]
def SortedPost (b:Bool) (w:World) (base g cap:Nat) (es:List Edg) (e:Ending) (w':World):Prop:=
 ∃ ts,e=.returned (.tuple #[])/\ts.Perm es/\ts.Pairwise (Ahead b)/\ownsEdges w' base (.slice (some ⟨g,0,none⟩) es.length cap) ts/\Turn (·=g) w w'
def SortSaid (m:Nat):Prop:=∀ {w:World} {jb pb byb made:Nat} {b:Bool},JobAt w jb pb byb made b->∀ {base g cap:Nat} (es:List Edg),es.length<=m->ownsEdges w base (.slice (some ⟨g,0,none⟩) es.length cap) es->g≠jb->g≠byb ->
 Calls Tryz.prog 260 #[.slice (some ⟨g,0,none⟩) es.length cap,cmpFn jb] w (SortedPost b w base g cap es)
theorem sortNone_any (p:Option Addr) (cap:Nat) (fv:Value) (w:World):Calls Tryz.prog 260 #[.slice p 0 cap,fv] w fun e w'=>e=.returned (.tuple #[])/\w=w':=
 (AnyF.slices_SortFunc_none (P:=Tryz.prog) (ρ:=Tryz.sortEdges_ren) { Tryz.sortEdges with } p cap fv w).mono fun _ _ ⟨h1,h2⟩=>⟨h1,h2.symm⟩
end
section
open Go.RowKit Go.Maps Go.Sort
instance:Inhabited Edg:=⟨edg0⟩
structure Srt (bt:Bool) (w0:World) (jb pb byb made base g cap:Nat) (d:Array Edg) (W:World):Prop where
 row:ownsEdges W base (.slice (some ⟨g,0,none⟩) d.size cap) d.toList
 job:JobAt W jb pb byb made bt
 nj:g≠jb
 nb:g≠byb
 turn:Turn (·=g) w0 W
section
variable {bt:Bool} {w0 W W':World} {jb pb byb made base g cap:Nat} {d:Array Edg}
theorem Srt.below (h:Srt bt w0 jb pb byb made base g cap d W) (hb:Below W.heap.size W W'):Srt bt w0 jb pb byb made base g cap d W':=
 ⟨ownsRow_below h.row hb,h.job.below hb,h.nj,h.nb,h.turn.thenBelow hb⟩
theorem Srt.drew (h:Srt bt w0 jb pb byb made base g cap d W):Srt bt w0 jb pb byb made base g cap d W.drew:=h.below (Below.refl _ _).drew
theorem Srt.cells (h:Srt bt w0 jb pb byb made base g cap d W) {i:Nat} (hi:i < d.size) :
 W.cell? ⟨g,i*4,none⟩=some (.int .u32 (d[i]!.t.toNat:Int))/\W.cell? ⟨g,i*4+1,none⟩=some (.int .u32 (d[i]!.h.toNat:Int))/\W.cell? ⟨g,i*4+2,none⟩=some (.int .u64 (d[i]!.x.toNat:Int))/\W.cell? ⟨g,i*4+3,none⟩=some (.int .u32 (d[i]!.m.toNat:Int)):=by
 have hg:d.toList[i]? = some d[i]! := by rw [Array.getElem?_toList,Array.getElem?_eq_getElem hi,getElem!_pos d i hi]
 have:=ownsEdges_cells (l:=d.toList) (by have:=h.row;simpa using this) hg;exact this
theorem Srt.cmp (h:Srt bt w0 jb pb byb made base g cap d W) (x y:Edg) :
 Calls Tryz.prog 224 #[ptrTo jb, .agg #[.int .u32 (x.t.toNat:Int), .int .u32 (x.h.toNat:Int), .int .u64 (x.x.toNat:Int), .int .u32 (x.m.toNat:Int)], .agg #[.int .u32 (y.t.toNat:Int), .int .u32 (y.h.toNat:Int), .int .u64 (y.x.toNat:Int), .int .u32 (y.m.toNat:Int)]] W
  fun e w'=>e=.returned (.int .i64 (cmpE bt x y))/\Below W.heap.size W w':=
 (compare_any h.job x y).mono fun _ _ ⟨h1,h2⟩=>⟨h1,h2.below⟩
theorem edgRow_set (l:List Edg) (i:Nat) (x:Edg) (hi:i < l.length):((((edgRow l).set (i*4) (.int .u32 (x.t.toNat:Int))).set (i*4+1) (.int .u32 (x.h.toNat:Int))).set (i*4+2) (.int .u64 (x.x.toNat:Int))).set (i*4+3) (.int .u32 (x.m.toNat:Int))=edgRow (l.set i x):=by
 induction l generalizing i with
 | nil=>simp at hi
 | cons e l ih=>
   cases i with
   | zero=>simp [edgRow,Edg.cells]
   | succ i=>
     have:=ih i (by simpa using hi);have e0:(i+1)*4=i*4+4:=by omega
     simp only [List.set_cons_succ,edgRow];rw [<- this];simp only [Edg.cells,List.cons_append,List.nil_append,e0,List.set_cons_succ]
theorem ownsEdges_put {l:List Edg} (h:ownsEdges W base (.slice (some ⟨g,0,none⟩) l.length cap) l) (i:Nat) (x:Edg) (hi:i < l.length) :
 ownsEdges (W.setCells g (i*4) x.cells) base (.slice (some ⟨g,0,none⟩) l.length cap) (l.set i x):=by
 have h1:=World.ownsRow.stored h (i*4) (.int .u32 (x.t.toNat:Int));have h2:=World.ownsRow.stored h1.1 (i*4+1) (.int .u32 (x.h.toNat:Int));have h3:=World.ownsRow.stored h2.1 (i*4+2) (.int .u64 (x.x.toNat:Int));have h4:=World.ownsRow.stored h3.1 (i*4+3) (.int .u32 (x.m.toNat:Int));unfold ownsEdges;rw [List.length_set,<- edgRow_set l i x hi];exact h4.1
theorem Srt.put (h:Srt bt w0 jb pb byb made base g cap d W) {i:Nat} (hi:i < d.size) (x:Edg):Srt bt w0 jb pb byb made base g cap (d.setIfInBounds i x) (W.setCells g (i*4) x.cells):=by
 refine ⟨?_,?_,h.nj,h.nb,h.turn.setCells g (i*4) x.cells (.inl rfl)⟩
 ·have:=ownsEdges_put (l:=d.toList) (by have:=h.row;simpa using this) i x (by simpa using hi);simpa using this
 ·have ht:Turn (·=g) W (W.setCells g (i*4) x.cells):=(Turn.refl _ _).setCells g (i*4) x.cells (.inl rfl);exact h.job.kept (ht.block _ h.job.lt.1 (fun e=>h.nj e.symm)) (ht.block _ h.job.lt.2 (fun e=>h.nb e.symm))
theorem Srt.swapped (h:Srt bt w0 jb pb byb made base g cap d W) {i j:Nat} (hi:i < d.size) (hj:j < d.size):Srt bt w0 jb pb byb made base g cap (swp d i j) ((W.setCells g (i*4) d[j]!.cells).setCells g (j*4) d[i]!.cells):=
 (h.put hi d[j]!).put (by simpa using hj) d[i]!
structure Exch (bt:Bool) (w0:World) (jb pb byb made base g cap:Nat) (d:Array Edg) (W:World) (i j p q:Nat) (x y:Edg):Prop where
 hp:i*4=p
 hq:j*4=q
 p0:W.cell? ⟨g,p,none⟩=some (.int .u32 (x.t.toNat:Int))
 p1:W.cell? ⟨g,p+1,none⟩=some (.int .u32 (x.h.toNat:Int))
 p2:W.cell? ⟨g,p+2,none⟩=some (.int .u64 (x.x.toNat:Int))
 p3:W.cell? ⟨g,p+3,none⟩=some (.int .u32 (x.m.toNat:Int))
 q0:W.cell? ⟨g,q,none⟩=some (.int .u32 (y.t.toNat:Int))
 q1:W.cell? ⟨g,q+1,none⟩=some (.int .u32 (y.h.toNat:Int))
 q2:W.cell? ⟨g,q+2,none⟩=some (.int .u64 (y.x.toNat:Int))
 q3:W.cell? ⟨g,q+3,none⟩=some (.int .u32 (y.m.toNat:Int))
 fr:∀ k,W.frozen? ⟨g,k,none⟩=false
 apart:i≠j->p≠q/\p≠q+1/\p≠q+2/\p≠q+3/\p+1≠q/\p+2≠q/\p+3≠q
 done:Srt bt w0 jb pb byb made base g cap (swp d i j) (((((((((W.setCell ⟨g,p,none⟩ (.int .u32 (y.t.toNat:Int))).setCell ⟨g,p+1,none⟩ (.int .u32 (y.h.toNat:Int))).setCell ⟨g,p+2,none⟩ (.int .u64 (y.x.toNat:Int))).setCell ⟨g,p+3,none⟩ (.int .u32 (y.m.toNat:Int))).setCell ⟨g,q,none⟩ (.int .u32 (x.t.toNat:Int))).setCell ⟨g,q+1,none⟩ (.int .u32 (x.h.toNat:Int))).setCell ⟨g,q+2,none⟩ (.int .u64 (x.x.toNat:Int))).setCell ⟨g,q+3,none⟩ (.int .u32 (x.m.toNat:Int)))).drew
theorem Srt.exch (h:Srt bt w0 jb pb byb made base g cap d W) {i j:Nat} (hi:i < d.size) (hj:j < d.size) {x y:Edg} (hx:d[i]! = x) (hy:d[j]! = y):∃ p q,Exch bt w0 jb pb byb made base g cap d W i j p q x y:=by
 obtain ⟨a0,a1,a2,a3⟩:=h.cells hi;obtain ⟨b0,b1,b2,b3⟩:=h.cells hj;have hs:=(h.swapped hi hj).drew;rw [hx] at a0 a1 a2 a3 hs;rw [hy] at b0 b1 b2 b3 hs;exact ⟨i*4,j*4,rfl,rfl,a0,a1,a2,a3,b0,b1,b2,b3,fun k=>World.ownsRow.frozenAt h.row k,fun hne=>by omega,hs⟩
end
end
section
open Go.RowKit Go.Maps Go.Sort
section
variable {bt:Bool} {w0 W W':World} {jb pb byb made base g cap:Nat} {d:Array Edg}
def SrtPost (bt:Bool) (w0:World) (jb pb byb made base g cap:Nat) (d:Array Edg) (e:Ending) (w':World):Prop:=e=.returned (.tuple #[])/\Srt bt w0 jb pb byb made base g cap d w'
set_option maxRecDepth 100000 in
set_option maxHeartbeats 8000000 in
theorem insertionSort_any (h:Srt bt w0 jb pb byb made base g cap d W) (a b:Nat) (hab:a<=b) (hb:b<=d.size) (hsz:d.size<=1000000) :
 Calls Tryz.prog 305 #[.slice (some ⟨g,0,none⟩) d.size cap, .int .i64 (a:Int), .int .i64 (b:Int),cmpFn jb] W (SrtPost bt w0 jb pb byb made base g cap (insertionSort (ltOf (cmpE bt)) d a b)):=by
 have H:=Lib.hid h;clear h;obtain ⟨N,hN⟩:∃ N,N=d.size:=⟨_,rfl⟩;rw [<- hN] at hb hsz ⊢;have HN:=Lib.hid hN;clear hN;unfold cmpFn ptrTo;go_enter Tryz.func305,Tryz.ntmps305
 go_wp2;go_loopw [8] (fun vi wr=>∃ (i:Nat) (dk:Array Edg),vi=.int .i64 (i:Int)/\a < i/\i<=b+1/\dk.size=N/\Srt bt w0 jb pb byb made base g cap dk wr/\Hid (insOuter (ltOf (cmpE bt)) a b i dk=insOuter (ltOf (cmpE bt)) a b (a+1) d)) (fun vi _=>b+1 - (intOf vi).toNat)
 case atStart=>exact ⟨a+1,d,by go_num,by omega,by omega,HN.out.symm,H.out,rfl⟩
 case round=>
  obtain ⟨i,dk,rfl,hai,hib,hsk,hs,HO⟩:=hrel;have HS:=Lib.hid hs;have HSK:=Lib.hid hsk;clear hs hsk;by_cases hlt:i < b
  ·have hltz:(i:Int) < (b:Int):=by omega
   go_wp2;go_loopw [9] (fun vj wr2=>∃ (j:Nat) (dj:Array Edg),vj=.int .i64 (j:Int)/\a<=j/\j<=i/\dj.size=N/\Srt bt w0 jb pb byb made base g cap dj wr2/\Hid (insInner (ltOf (cmpE bt)) a j dj=insInner (ltOf (cmpE bt)) a i dk)) (fun vj _=>(intOf vj).toNat)
   case atStart=>exact ⟨i,dk,rfl,by omega,Nat.le_refl _,HSK.out,HS.out,rfl⟩
   case round=>
    obtain ⟨j,dj,rfl,haj,hji,hsj,hs2,HI⟩:=hrel;have HS2:=Lib.hid hs2;have HSJ:=Lib.hid hsj;clear hs2 hsj;have OUT:Hid ((j<=a\/ltOf (cmpE bt) dj[j]! dj[j - 1]! = false)->insOuter (ltOf (cmpE bt)) a b (i+1) dj=insOuter (ltOf (cmpE bt)) a b (a+1) d):=Lib.hid (fun hq=>by
     rw [<- HO.out,insOuter_go _ _ _ _ _ hlt,<- HI.out,insInner_stop _ _ _ _ hq])
    generalize wr=Wr at *;by_cases hja:a < j
    ·obtain ⟨jp,rfl⟩:∃ jp,j=jp+1:=⟨j - 1,by omega⟩;have hjaz:(a:Int) < (jp:Int)+1:=by omega
     have hwp:IntKind.i64.wrap (jp:Int)=(jp:Int):=wrap_in (by omega) (by omega);have jz:(jp:Int)+1 < (N:Int):=by omega
     have jz1:(jp:Int) < (N:Int):=by omega
     have p0:(0:Int)<=(jp:Int)+1:=by omega
     have e0:((jp:Int)+1).toNat=jp+1:=by omega
     have HJ:Hid (jp+1 < dj.size/\jp < dj.size):=Lib.hid ⟨by rw [HSJ.out];omega,by rw [HSJ.out];omega⟩;obtain ⟨xj,hxj⟩:∃ x,dj[jp+1]! = x:=⟨_,rfl⟩;obtain ⟨xp,hxp⟩:∃ x,dj[jp]! = x:=⟨_,rfl⟩;have F1:Hid (∀ w',Below Wr.heap.size Wr w'->w'.cell? ⟨g,(jp+1)*4,none⟩=some (.int .u32 (xj.t.toNat:Int))/\w'.cell? ⟨g,(jp+1)*4+1,none⟩=some (.int .u32 (xj.h.toNat:Int))/\w'.cell? ⟨g,(jp+1)*4+2,none⟩=some (.int .u64 (xj.x.toNat:Int))/\w'.cell? ⟨g,(jp+1)*4+3,none⟩=some (.int .u32 (xj.m.toNat:Int))):=Lib.hid (fun w' hw'=>by rw [<- hxj];exact (HS2.out.below hw').cells HJ.out.1);have F2:Hid (∀ w',Below Wr.heap.size Wr w'->w'.cell? ⟨g,jp*4,none⟩=some (.int .u32 (xp.t.toNat:Int))/\w'.cell? ⟨g,jp*4+1,none⟩=some (.int .u32 (xp.h.toNat:Int))/\w'.cell? ⟨g,jp*4+2,none⟩=some (.int .u64 (xp.x.toNat:Int))/\w'.cell? ⟨g,jp*4+3,none⟩=some (.int .u32 (xp.m.toNat:Int))):=Lib.hid (fun w' hw'=>by rw [<- hxp];exact (HS2.out.below hw').cells HJ.out.2);have FC:Hid (∀ w',Below Wr.heap.size Wr w'->Calls Tryz.prog 224 #[.pointer (some ⟨jb,0,none⟩), .agg #[.int .u32 (xj.t.toNat:Int), .int .u32 (xj.h.toNat:Int), .int .u64 (xj.x.toNat:Int), .int .u32 (xj.m.toNat:Int)], .agg #[.int .u32 (xp.t.toNat:Int), .int .u32 (xp.h.toNat:Int), .int .u64 (xp.x.toNat:Int), .int .u32 (xp.m.toNat:Int)]] w' fun e w''=>e=.returned (.int .i64 (cmpE bt xj xp))/\Below Wr.heap.size Wr w''):=Lib.hid (fun w' hw'=>((HS2.out.below hw').cmp xj xp).mono fun _ _ ⟨h1,h2⟩=>⟨h1,hw'.trans (h2.mono hw'.size)⟩);by_cases hlv:cmpE bt xj xp < 0
     ·go_wp2_with fail
      refine wq Wr ?_;iterate 4 (refine qo (fun K hK=>?_);go_simp;refine hK _ ?_;clear hK K)
      iterate 4 (refine qo (fun K hK=>?_);go_simp;refine hK _ ?_;clear hK K)
      refine qo (fun K hK=>?_) (fun w' hw'=>by obtain ⟨c0,c1,c2,c3⟩:=F1.out w' hw';go_simp<;>rfl);go_simp;refine hK _ ?_;clear hK K;iterate 4 (refine qo (fun K hK=>?_);go_simp;refine hK _ ?_;clear hK K)
      refine qo (fun K hK=>?_) (fun w' hw'=>by obtain ⟨c0,c1,c2,c3⟩:=F2.out w' hw';go_simp<;>rfl);go_simp;refine hK _ ?_;clear hK K;refine qc (fun w' hw'=>FC.out w' hw') (fun K hK=>?_);go_simp;refine hK _ ?_;clear hK K;iterate 2 (refine qo (fun K hK=>?_);go_simp;refine hK _ ?_;clear hK K)
      refine wpQuiet_nil ?_;intro w3 hw3;have HS3:=Lib.hid (HS2.out.below hw3);clear hw3;go_wp2_with fail
      obtain ⟨pp,qq,hex⟩:=HS3.out.exch HJ.out.1 HJ.out.2 hxj hxp;have HEX:=Lib.hid hex;obtain ⟨hpp,hqq,x0,x1,x2,x3,y0,y1,y2,y3,hfr,hap,-⟩:=hex;obtain ⟨n0,n1,n2,n3,n4,n5,n6⟩:=hap (by omega);clear F1 F2 FC hap;go_big_region
      all_goals
       clear x0 x1 x2 x3 y0 y1 y2 y3 n0 n1 n2 n3 n4 n5 n6 hfr;have hdone:=Lib.hid HEX.out.done;go_wp2;have hst:insInner (ltOf (cmpE bt)) a jp (swp dj (jp+1) jp)=insInner (ltOf (cmpE bt)) a i dk:=by
        have:=insInner_go (lt:=ltOf (cmpE bt)) a (jp+1) dj hja (by rw [Nat.add_sub_cancel,hxj,hxp];exact decide_eq_true hlv);rw [Nat.add_sub_cancel] at this;rw [<- HI.out,this]
       exact ⟨⟨jp,swp dj (jp+1) jp,rfl,by omega,by omega,by rw [size_swp];exact HSJ.out,hdone.out,hst⟩,by simp [intOf]⟩
     ·go_wp2_with fail
      refine wq Wr ?_;iterate 4 (refine qo (fun K hK=>?_);go_simp;refine hK _ ?_;clear hK K)
      iterate 4 (refine qo (fun K hK=>?_);go_simp;refine hK _ ?_;clear hK K)
      refine qo (fun K hK=>?_) (fun w' hw'=>by obtain ⟨c0,c1,c2,c3⟩:=F1.out w' hw';go_simp<;>rfl);go_simp;refine hK _ ?_;clear hK K;iterate 4 (refine qo (fun K hK=>?_);go_simp;refine hK _ ?_;clear hK K)
      refine qo (fun K hK=>?_) (fun w' hw'=>by obtain ⟨c0,c1,c2,c3⟩:=F2.out w' hw';go_simp<;>rfl);go_simp;refine hK _ ?_;clear hK K;refine qc (fun w' hw'=>FC.out w' hw') (fun K hK=>?_);go_simp;refine hK _ ?_;clear hK K;iterate 2 (refine qo (fun K hK=>?_);go_simp;refine hK _ ?_;clear hK K)
      refine wpQuiet_nil ?_;intro w3 hw3;have HS3:=Lib.hid (HS2.out.below hw3);clear hw3;go_wp2;have HO3:=Lib.hid (OUT.out (.inr (by rw [Nat.add_sub_cancel,hxj,hxp];exact decide_eq_false (by omega))));exact ⟨⟨i+1,dj,by go_num,by omega,by omega,HSJ.out,HS3.out,HO3⟩,by simp [intOf];omega⟩
    ·have hjaz:¬ (a:Int) < (j:Int):=by omega
     go_wp2_with fail
     go_quiet (fail)
     go_wp2;have HBd:RowKit.Below Wr.heap.size Wr (Wr.drewN nq):=⟨rfl,rfl,rfl,Nat.le_refl _,fun _ _=>rfl⟩;exact ⟨⟨i+1,dj,by go_num,by omega,by omega,HSJ.out,HS2.out.below HBd,Lib.hid (OUT.out (.inl (by omega)))⟩,by simp [intOf];omega⟩
  ·have hltz:¬ (i:Int) < (b:Int):=by omega
   go_wp2;go_end0
   exact ⟨rfl,by unfold insertionSort;rw [<- HO.out,insOuter_stop _ _ _ _ _ hlt];exact HS.out⟩
end
end
end Go.Proofs.YthkkgdpomhhjjaaGreatDoor
