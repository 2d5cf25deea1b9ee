/-
  Joined.
-/
import Derived.Test.YthkkgdpomhhjjaaGreatDoorR06
import Derived.Sort.AssemblyPlain
import Derived.Sort.Walk13a
import Derived.Maps.AppendAt
import Derived.Deep.RegionLaw
import Derived.BigRegion
import Derived.Maps.Keyed
namespace Go.Proofs.YthkkgdpomhhjjaaGreatDoor
section
open Go.RowKit Go.Maps Go.Sort
def PdqAt (m:Nat):Prop:=∀ {bt:Bool} {w0 W:World} {jb pb byb made base g cap:Nat} {d:Array Edg},Srt bt w0 jb pb byb made base g cap d W->∀ (a b limit:Nat),a<=b->b<=d.size->d.size<=1000000->b - a<=m->limit<=64->Sort.Below (ltOf (cmpE bt)) a b d ->
 Calls Tryz.prog 292 #[.slice (some ⟨g,0,none⟩) d.size cap, .int .i64 (a:Int), .int .i64 (b:Int), .int .i64 (limit:Int),cmpFn jb] W (SrtPost bt w0 jb pb byb made base g cap (pdq (ltOf (cmpE bt)) d a b limit true true))
set_option maxRecDepth 100000 in
set_option maxHeartbeats 1000000 in
theorem pdq_twelve:PdqAt 12:=by
 intro bt w0 W jb pb byb made base g cap d h a b limit hab hb hsz hm hl _;have hins:=Lib.hid (insertionSort_any h a b hab hb hsz);rw [pdq_small hm];have hw:IntKind.i64.wrap ((b:Int) - (a:Int))=(b:Int) - (a:Int):=wrap_in (by omega) (by omega);have hle:(b:Int) - (a:Int)<=12:=by omega
 clear h;unfold cmpFn ptrTo at *;generalize d.size=N at *;go_enter Tryz.func292,Tryz.ntmps292
 go_wp2;refine wp_loop_rounds 1 ?_;rw [rounds_succ];go_wp2_with fail
 refine hins.out.mono ?_;rintro e w' ⟨rfl,hs⟩;have HS:=Lib.hid hs;clear hs;go_wp2;go_returns
 exact ⟨rfl,HS.out⟩
theorem bitLen_64 {n:Nat} (h:n<=1000000):Lib.bitLen n<=64:=Nat.le_trans (Lib.bitLen_le n 62 (by omega) (by omega)) (by decide)
set_option maxRecDepth 100000 in
set_option maxHeartbeats 1000000 in
theorem sortSaid_of {m:Nat} (hm:m<=1000000) (HP:PdqAt m):SortSaid m:=by
 intro w jb pb byb made b hj base g cap es hes ho hgj hgb;have hs:Srt b w jb pb byb made base g cap es.toArray w:=⟨by simpa using ho,hj,hgj,hgb,Turn.refl _ _⟩;have hlim:=bitLen_64 (n:=es.length) (by omega);have hp:=HP hs 0 es.length (Lib.bitLen es.length) (Nat.zero_le _) (by simp) (by simp;omega) (by omega) hlim (.inl rfl);obtain ⟨hperm,hsort⟩:=pdq_sorts (ltOf (cmpE b)) (swo_cmpE b) es.toArray 0 es.length (Lib.bitLen es.length) true true (Nat.zero_le _) (by simp) (.inl rfl);have hbits:Calls Tryz.prog 87 #[.int .u64 (es.length:Int)] w fun e w'=>e=.returned (.int .i64 (Lib.bitLen es.length:Nat))/\w'=w:=by
  have:=Any.bits_Len (SlLaysF0.n15.bits (P:=Tryz.prog) (ρ:=Tryz.sortEdges_ren) { Tryz.sortEdges with }) (es.length:Int) w (by omega) (by omega);rwa [Int.toNat_natCast] at this
 have HB:=Lib.hid hbits;generalize pdq (ltOf (cmpE b)) es.toArray 0 es.length (Lib.bitLen es.length) true true=D at *;have HQ:Hid (∀ e w',SrtPost b w jb pb byb made base g cap D e w'->SortedPost b w base g cap es e w'):=Lib.hid (fun e w' ⟨he,h2⟩=>by
  obtain ⟨hsz,-,hpm⟩:=hperm;have hsz':D.size=es.length:=by rw [hsz];simp
  refine ⟨D.toList,he,?_,?_,?_,h2.turn⟩
  ·have e1:(D.extract 0 es.length).toList=D.toList:=by rw [<- hsz'];simp
   have e2:(es.toArray.extract 0 es.length).toList=es:=by simp
   rw [e1,e2] at hpm;exact hpm
  ·rw [List.pairwise_iff_getElem];intro i j hi hj hij;have h3:=hsort i j (Nat.zero_le _) hij (by rw [<- hsz'];simpa using hj);unfold ltOf at h3;rw [decide_eq_false_iff_not,cmpE_ahead] at h3;rw [Array.length_toList] at hi hj;rw [getElem!_pos D i hi,getElem!_pos D j hj] at h3;rw [Array.getElem_toList,Array.getElem_toList];exact h3
  ·have:=h2.row;rw [hsz'] at this;exact this)
 have HC:=Lib.hid hp;have hw:IntKind.u64.wrap (es.length:Int)=(es.length:Int):=wraps_u64 _ (by omega) (by omega);clear hbits hp hperm hsort hs hj ho;simp only [List.size_toArray] at HC;unfold cmpFn ptrTo at *;generalize es.length=N at *;go_enter Tryz.func260,Tryz.ntmps260
 go_wp2_with fail
 refine HB.out.mono ?_;rintro e w' ⟨rfl,rfl⟩;go_wp2_with fail
 refine HC.out.mono ?_;rintro e w2 ⟨rfl,hs⟩;have HS:=Lib.hid hs;clear hs;go_wp2;go_returns
 exact HQ.out _ _ ⟨rfl,HS.out⟩
theorem sortSaid_twelve:SortSaid 12:=sortSaid_of (by decide) pdq_twelve
end
section
open Go.RowKit Go.Maps
abbrev Itm:=Nat × Nat
def LtI (a b:Itm):Prop:=a.1 < b.1\/a.1=b.1/\a.2 < b.2
instance (a b:Itm):Decidable (LtI a b):=by unfold LtI;infer_instance
theorem LtI.asym {a b:Itm} (h:LtI a b):¬ LtI b a:=by unfold LtI at *;omega
theorem LtI.neg_trans {a b c:Itm} (h:¬ LtI b a) (k:¬ LtI c b):¬ LtI c a:=by unfold LtI at *;omega
theorem LtI.neg_irrefl (a:Itm):¬ LtI a a:=by unfold LtI;omega
theorem LtI.eq {a b:Itm} (h:¬ LtI a b) (k:¬ LtI b a):a=b:=by
 obtain ⟨a1,a2⟩:=a;obtain ⟨b1,b2⟩:=b;unfold LtI at *;dsimp only at *;rw [Prod.mk.injEq];omega
def gI (l:List Itm) (i:Nat):Itm:=l.getD i (0,0)
def sw (l:List Itm) (i j:Nat):List Itm:=(l.set i (gI l j)).set j (gI l i)
theorem gI_of {l:List Itm} {i:Nat} {x:Itm} (h:l[i]? = some x):gI l i=x:=by unfold gI;rw [List.getD_eq_getElem?_getD,h];rfl
theorem gI_some {l:List Itm} {i:Nat} (h:i < l.length):l[i]? = some (gI l i):=by
 unfold gI;rw [List.getD_eq_getElem?_getD,List.getElem?_eq_getElem h];rfl
theorem sw_length (l:List Itm) (i j:Nat):(sw l i j).length=l.length:=by unfold sw;simp
theorem gI_sw {l:List Itm} {i j:Nat} (hi:i < l.length) (hj:j < l.length) (k:Nat):gI (sw l i j) k=if k=j then gI l i else if k=i then gI l j else gI l k:=by
 unfold sw;have e:∀ (m:List Itm) (p:Nat) (x:Itm),p < m.length->gI (m.set p x) k=if k=p then x else gI m k:=by
  intro m p x hp;unfold gI;rw [List.getD_eq_getElem?_getD,List.getD_eq_getElem?_getD,List.getElem?_set];by_cases h:k=p
  ·subst h;rw [if_pos rfl,if_pos hp,if_pos rfl];rfl
  ·rw [if_neg (fun e=>h e.symm),if_neg h]
 rw [e _ _ _ (by simpa using hj),e _ _ _ hi]
theorem sw_perm {l:List Itm} {i j:Nat} (hi:i < l.length) (hj:j < l.length):(sw l i j).Perm l:=by
 have h:=Array.swap_perm (xs:=l.toArray) (i:=i) (j:=j) (by simpa using hi) (by simpa using hj);have h2:=h.toList;have e:(l.toArray.swap i j (by simpa using hi) (by simpa using hj)).toList=sw l i j:=by
  unfold sw;rw [Array.swap_def];rw [gI_of (List.getElem?_eq_getElem hi),gI_of (List.getElem?_eq_getElem hj)];simp
 rw [e] at h2;simpa using h2
def HoleU (l:List Itm) (i:Nat):Prop:=(∀ j,0 < j->j < l.length->j≠i->¬ LtI (gI l j) (gI l ((j - 1) / 2)))/\(0 < i->∀ j,0 < j->j < l.length->(j - 1) / 2=i->¬ LtI (gI l j) (gI l ((i - 1) / 2)))
def HoleD (l:List Itm) (i:Nat):Prop:=(∀ j,0 < j->j < l.length->(j - 1) / 2≠i->¬ LtI (gI l j) (gI l ((j - 1) / 2)))/\(0 < i->∀ j,0 < j->j < l.length->(j - 1) / 2=i->¬ LtI (gI l j) (gI l ((i - 1) / 2)))
def Heaped (l:List Itm):Prop:=∀ j,0 < j->j < l.length->¬ LtI (gI l j) (gI l ((j - 1) / 2))
theorem up_done {l:List Itm} {i:Nat} (h:HoleU l i) (hi:i=0\/¬ LtI (gI l i) (gI l ((i - 1) / 2))):Heaped l:=by
 intro j h1 h2;by_cases e:j=i
 ·subst e;rcases hi with hi | hi
  ·omega
  ·exact hi
 ·exact h.1 j h1 h2 e
theorem up_step {l:List Itm} {i:Nat} (h:HoleU l i) (h0:0 < i) (hi:i < l.length) (hl:LtI (gI l i) (gI l ((i - 1) / 2))):HoleU (sw l i ((i - 1) / 2)) ((i - 1) / 2):=by
 obtain ⟨ha,hb⟩:=h;have hb:=hb h0;generalize hp:(i - 1) / 2=p at *;have hpi:p < i:=by omega
 have hg:=gI_sw hi (show p < l.length by omega);refine ⟨fun j h1 h2 h3=>?_,fun hp0 j h1 h2 h3=>?_⟩
 ·rw [sw_length] at h2;rw [hg,hg,if_neg h3];by_cases e1:j=i
  ·subst e1;rw [if_pos rfl,hp,if_pos rfl];exact hl.asym
  ·rw [if_neg e1];have:=ha j h1 h2 e1;by_cases e2:(j - 1) / 2=p
   ·rw [if_pos e2];rw [e2] at this;exact LtI.neg_trans hl.asym this
   ·rw [if_neg e2];by_cases e3:(j - 1) / 2=i
    ·rw [if_pos e3];exact hb j h1 h2 e3
    ·rw [if_neg e3];exact this
 ·rw [sw_length] at h2;rw [hg,hg,if_neg (show ¬ (p - 1) / 2=p by omega),if_neg (show ¬ (p - 1) / 2=i by omega),if_neg (show ¬ j=p by omega)];have hpp:=ha p hp0 (by omega) (by omega);by_cases e1:j=i
  ·rw [if_pos e1];exact hpp
  ·rw [if_neg e1];have:=ha j h1 h2 e1;rw [h3] at this;exact LtI.neg_trans hpp this
theorem down_done {l:List Itm} {i:Nat} (h:HoleD l i) (hi:∀ j,0 < j->j < l.length->(j - 1) / 2=i->¬ LtI (gI l j) (gI l i)):Heaped l:=by
 intro j h1 h2;by_cases e:(j - 1) / 2=i
 ·rw [e];exact hi j h1 h2 e
 ·exact h.1 j h1 h2 e
theorem down_step {l:List Itm} {i c:Nat} (h:HoleD l i) (h0:0 < c) (hc:c < l.length) (hci:(c - 1) / 2=i) (hl:LtI (gI l c) (gI l i)) (ho:∀ j,0 < j->j < l.length->(j - 1) / 2=i->¬ LtI (gI l j) (gI l c)):HoleD (sw l i c) c:=by
 obtain ⟨ha,hb⟩:=h;have hic:i < c:=by omega
 have hg:=gI_sw (show i < l.length by omega) hc;refine ⟨fun j h1 h2 h3=>?_,fun _ j h1 h2 h3=>?_⟩
 ·rw [sw_length] at h2;rw [hg,hg,if_neg h3];by_cases e1:j=c
  ·subst e1;rw [if_pos rfl,hci,if_pos rfl];exact hl.asym
  ·rw [if_neg e1];by_cases e2:(j - 1) / 2=i
   ·rw [if_neg (show ¬ j=i by omega),if_pos e2];exact ho j h1 h2 e2
   ·rw [if_neg e2];by_cases e3:j=i
    ·subst e3;rw [if_pos rfl];exact hb h1 c h0 hc hci
    ·rw [if_neg e3];exact ha j h1 h2 e2
 ·rw [sw_length] at h2;rw [hg,hg,if_neg (show ¬ j=c by omega),if_neg (show ¬ j=i by omega),hci,if_neg (show ¬ i=c by omega),if_pos rfl];have:=ha j h1 h2 (by omega);rw [h3] at this;exact this
theorem heap_min {l:List Itm} (h:Heaped l):∀ j,j < l.length->¬ LtI (gI l j) (gI l 0):=by
 intro j;induction j using Nat.strongRecOn with
 | _ j ih=>
   intro hj;by_cases e:j=0
   ·subst e;exact LtI.neg_irrefl _
   ·exact LtI.neg_trans (ih ((j - 1) / 2) (by omega) (by omega)) (h j (by omega) hj)
theorem push_hole {l:List Itm} (h:Heaped l) (x:Itm):HoleU (l++[x]) l.length:=by
 have e:∀ j,j < l.length->gI (l++[x]) j=gI l j:=fun j hj=>gI_of (by rw [List.getElem?_append_left hj];exact gI_some hj);refine ⟨fun j h1 h2 h3=>?_,fun _ j h1 h2 h3=>?_⟩
 ·simp only [List.length_append,List.length_cons,List.length_nil] at h2;rw [e j (by omega),e _ (by omega)];exact h j h1 (by omega)
 ·simp only [List.length_append,List.length_cons,List.length_nil] at h2;omega
def popL (l:List Itm):List Itm:=(l.set 0 (gI l (l.length - 1))).take (l.length - 1)
theorem popL_length (l:List Itm):(popL l).length=l.length - 1:=by unfold popL;simp
theorem popL_get {l:List Itm} {j:Nat} (h0:0 < j) (hj:j < l.length - 1):gI (popL l) j=gI l j:=by
 apply gI_of;unfold popL;rw [List.getElem?_take_of_lt hj,List.getElem?_set_ne (by omega)];exact gI_some (by omega)
theorem popL_hole {l:List Itm} (h:Heaped l):HoleD (popL l) 0:=by
 refine ⟨fun j h1 h2 h3=>?_,fun h=>absurd h (by omega)⟩;rw [popL_length] at h2;rw [popL_get h1 h2,popL_get (by omega) (by omega)];exact h j h1 (by omega)
theorem popL_perm {l:List Itm} (h:0 < l.length):(gI l 0::popL l).Perm l:=by
 match l,h with
 | x::l,_=>
   rcases List.eq_nil_or_concat l with rfl | ⟨m,y,rfl⟩
   ·exact List.Perm.refl _
   ·have e:popL (x::m.concat y)=y::m:=by
     unfold popL;have:gI (x::m.concat y) ((x::m.concat y).length - 1)=y:=gI_of (by simp);rw [this];simp
    rw [e];show (x::y::m).Perm _;refine List.Perm.cons x ?_;simp only [List.concat_eq_append];exact (List.perm_append_singleton y m).symm
end
section
open Go.RowKit Go.Maps Go.MapKept
theorem mdel_fresh {κ υ:Type} [DecidableEq κ] {m:List (κ × υ)} {k:κ} (h:mget m k=none):mdel m k=m:=by
 unfold mdel;rw [List.filter_eq_self];intro p hp;simp only [decide_eq_true_eq];intro e;unfold mget at h;rw [Option.map_eq_none_iff,List.find?_eq_none] at h;exact h p hp (by simpa using e)
theorem need_cons (L:Logic) (p:Name × LFile):need (p::L)=p.2.need+need L:=by
 unfold need;rw [List.map_cons,List.sum_cons]
theorem need_mput_fresh {L:Logic} {k:Name} (f:LFile) (h:mget L k=none):need (mput L k f)=f.need+need L:=by
 unfold mput;rw [mdel_fresh h,need_cons]
theorem edgeFile_need (es:List Edg) (fl:Bool):(edgeFile es fl).need<=4*es.length:=by
 unfold edgeFile LFile.need;dsimp only;rw [pagesOf_length,List.length_map];have:pagesFor (per 20) es.length<=es.length:=by
  unfold pagesFor;have h12:per 20=12:=by decide
  rw [h12];omega
 omega
def ErrN (d d':Dsk) (B c:Nat):Prop:=c=5/\d.quota < B\/c=6/\d'.dead=true
theorem Err.num {d d':Dsk} {L:Logic} {c B:Nat} (h:Err d d' L c) (hB:need L<=B):ErrN d d' B c:=by
 rcases h with ⟨h1,h2⟩ | h
 ·exact .inl ⟨h1,by omega⟩
 ·exact .inr h
theorem ErrN.ne {d d':Dsk} {B c:Nat} (h:ErrN d d' B c):c≠0:=by rcases h with h | h<;>omega
theorem ErrN.mono {d d':Dsk} {B B' c:Nat} (h:ErrN d d' B c) (hB:B<=B'):ErrN d d' B' c:=by
 rcases h with ⟨h1,h2⟩ | h
 ·exact .inl ⟨h1,by omega⟩
 ·exact .inr h
theorem ErrN.later {d d1 d2:Dsk} {B c:Nat} (hq:d1.quota=d.quota) (h:ErrN d1 d2 B c):ErrN d d2 B c:=by
 rcases h with ⟨h1,h2⟩ | h
 ·exact .inl ⟨h1,by rw [<- hq];exact h2⟩
 ·exact .inr h
def MadePost (S:Nat->Prop) (n pb db:Nat) (w:World) (o:Owner) (d:Dsk) (L:Logic) (name:Name) (out:List Edg) (B:Nat) (e:Ending) (w':World):Prop:=
 ∃ c d' o' L',e=.returned (.int .i64 ((c:Nat):Int))/\Moved S n pb db w o d w' o' d' L'/\(c=0/\L'=mput L name (edgeFile out false)\/ErrN d d' B c)/\∀ x,x≠name->mget L' x=mget L x
section
variable {S:Nat->Prop} {w w':World} {pb db n cb kb sb jb byb made:Nat} {by':Bool} {name:Name} {o o':Owner} {d d':Dsk} {L L':Logic}
set_option maxRecDepth 100000 in
set_option maxHeartbeats 8000000 in
theorem jobWrite_any (HW:WriteSaid) {m:Nat} (HS:SortSaid m) (h:PoolAt w pb db n o d L) (hj:JobAt w jb pb byb made by') (hoj:o jb=none) (hob:o byb=none) (hok:okName name=true) (hno:mget L name=none)
 {v:Value} {base:Nat} {es:List Edg} (hv:ownsEdges w base v es) (hvo:∀ x,v.ownBlock=some x->o x=none/\x≠jb/\x≠byb) (hm:es.length<=m) (hes:es.length < 65535) :
 Calls Tryz.prog 222 #[ptrTo jb, .string name,v] w (MadePost (fun x=>v.ownBlock=some x) n pb db w o d L name (bestOf by' es) (need L+4*es.length)):=by
 have hsort:Hid (Calls Tryz.prog 260 #[v,cmpFn jb] w (fun e w'=>∃ ts,e=.returned (.tuple #[])/\ts.Perm es/\ts.Pairwise (Ahead by')/\ownsEdges w' base v ts/\Turn (fun x=>v.ownBlock=some x) w w')):=Lib.hid (by
  rcases ownsEdges_shape hv with ⟨rfl,rfl⟩ | ⟨g,cap,rfl,hg,hc1,hc2⟩
  ·refine (sortNone_any _ _ _ _).mono ?_;rintro e w' ⟨rfl,rfl⟩;exact ⟨[],rfl,List.Perm.refl _,List.Pairwise.nil,hv,Turn.refl _ _⟩
  ·refine (HS hj es hm hv (hvo g rfl).2.1 (hvo g rfl).2.2).mono ?_;rintro e w' ⟨ts,rfl,h1,h2,h3,h4⟩;exact ⟨ts,rfl,h1,h2,h3,h4.mono (fun x _ e=>by rw [e];rfl)⟩)
 have hshape:∃ a cap,v=.slice a es.length cap/\∀ x,v.ownBlock=some x->a=some ⟨x,0,none⟩:=by
  rcases ownsEdges_shape hv with ⟨rfl,rfl⟩ | ⟨g,cap,rfl,hg,hc1,hc2⟩
  ·exact ⟨none,0,rfl,fun x hx=>by cases hx⟩
  ·exact ⟨some ⟨g,0,none⟩,cap,rfl,fun x hx=>by cases hx;rfl⟩
 have hcreate:Hid (∀ W,PoolAt W pb db n o d L->JobAt W jb pb byb made by'->Calls Tryz.prog 223 #[ptrTo jb, .string name] W (CreateSinkPost n pb db W o d L name)):=Lib.hid (fun W hW hjW=>jobCreate_any hW hjW hoj hok hno);have hput:Hid (∀ W o' d' kb sb out,PoolAt W pb db n o' d' (mput L name (edgeFile out false))->StreamAt W sb pb name 20->o' sb=none->o' kb=none->kb≠sb->SinkOf W kb sb out->out.length < 65535->∀ x:Edg,
  Calls Tryz.prog 225 #[ptrTo kb, .agg #[.int .u32 (x.t.toNat:Int), .int .u32 (x.h.toNat:Int), .int .u64 (x.x.toNat:Int), .int .u32 (x.m.toNat:Int)]] W (SinkPost n pb db W o' d' (mput L name (edgeFile out false)) name kb sb out x)):=
  Lib.hid (fun W o' d' kb sb out hW hst ho hok' hne hk hl x=>sinkPut_any HW hW hst ho hok' hne (by rw [mget_mput,if_pos rfl]) hl hk x)
 have H:=Lib.hid h;have HJ:=Lib.hid hj;have HVO:=Lib.hid hvo;have HNO:=Lib.hid hno;have HVL:Hid (∀ x,v.ownBlock=some x->x < w.heap.size):=Lib.hid (fun x hx=>(ownBlock_old hv x hx).1);have HOJ:=Lib.hid hoj;have HOB:=Lib.hid hob;have hbest:Hid (∀ ts:List Edg,ts.Perm es->ts.Pairwise (Ahead by')->putL ts=bestOf by' es):=Lib.hid (fun ts h1 h2=>((best_putL h2).congr (fun x=>h1.mem_iff)).eq);obtain ⟨a,cap,rfl,ha⟩:=hshape;have HA:=Lib.hid ha;clear h hj hoj hob hok hno hv hvo hm ha;unfold cmpFn ptrTo at *;generalize hN:es.length=N at *;have HN:=Lib.hid hN;clear hN;go_enter Tryz.func222,Tryz.ntmps222
 go_wp2_with fail
 refine hsort.out.mono ?_;rintro e w1 ⟨ts,rfl,hp1,hs1,hv1,ht1⟩;have htl:ts.length=N:=by rw [hp1.length_eq,HN.out]
 have HTL:=Lib.hid htl;have HM1:Hid (Moved (fun x=>(Value.slice a N cap).ownBlock=some x) n pb db w o d w1 o d L):=Lib.hid ⟨H.out.kept ht1 (fun x hx e=>Owner.not_in_none (HVO.out x e).1 hx) (fun _ _ h=>h) (fun x t hx=>Nat.lt_of_lt_of_le (H.out.owned x t hx) ht1.size),ht1.mono (fun _ _ h=>.inr h),OGrow.refl _ _,Onward.refl _⟩;have HJ1:Hid (JobAt w1 jb pb byb made by'):=Lib.hid (HJ.out.kept (ht1.block _ HJ.out.lt.1 (fun e=>(HVO.out _ e).2.1 rfl)) (ht1.block _ HJ.out.lt.2 (fun e=>(HVO.out _ e).2.2 rfl)));have HV1:=Lib.hid hv1;have HB:=Lib.hid (hbest.out ts hp1 hs1);have hs1:w.heap.size<=w1.heap.size:=ht1.size;clear hp1 hs1 hv1 ht1 htl;have hcall:=Lib.hid (hcreate.out w1 HM1.out.pool HJ1.out);go_wp2_with fail
 refine hcall.out.mono ?_;rintro e w2 ⟨v2,c2,d2,o2,rfl,hm2,he2,hok2⟩;have HE2:=Lib.hid he2;have hs1':w.heap.size<=w1.heap.size:=HM1.out.size;by_cases hc2:c2=0
 ·subst hc2;obtain ⟨kb,sb,rfl,hk2,hst2,hok2',hos2,hne2,hkb,hsb⟩:=hok2 rfl;simp only [if_true] at hm2;have HM2:=Lib.hid (HM1.out.trans hm2 (fun _ _ h=>h.elim));have HV2:Hid (ownsEdges w2 base (.slice a N cap) ts):=Lib.hid (hm2.ownsRow HV1.out (fun b hb=>⟨(HVO.out b hb).1,fun h=>h⟩));have HK2:=Lib.hid hk2;have HST2:=Lib.hid hst2;have HOK2:=Lib.hid hok2';have HOS2:=Lib.hid hos2;have HNE2:=Lib.hid hne2;have HNK:Hid (∀ x,(Value.slice a N cap).ownBlock=some x->x≠kb):=Lib.hid (fun x hx e=>by have:=HVL.out x hx;omega);have hs2:w.heap.size<=kb:=Nat.le_trans hs1' hkb;clear hok2 hm2 hk2 hst2 hok2' hos2 hne2 he2 hcall;unfold ptrTo;go_wp2;go_loopw [27] (fun i wr=>∃ (k:Nat) (d':Dsk) (o':Owner),k<=N/\i=.int .i64 (k:Int)/\Moved (fun x=>(Value.slice a N cap).ownBlock=some x) n pb db w o d wr o' d' (mput L name (edgeFile (putL (ts.take k)) false))/\SinkOf wr kb sb (putL (ts.take k))/\StreamAt wr sb pb name 20/\o' kb=none/\o' sb=none/\ownsEdges wr base (.slice a N cap) ts/\(∀ x,(Value.slice a N cap).ownBlock=some x->o' x=none)) (fun i _=>N - (intOf i).toNat)
  case atStart=>exact ⟨0,d2,o2,Nat.zero_le _,rfl,by simpa [putL] using HM2.out,by simpa [putL] using HK2.out,HST2.out,HOK2.out,HOS2.out,HV2.out,fun x hx=>HM2.out.free (HVL.out x hx) (HVO.out x hx).1⟩
  case round=>
   obtain ⟨k,d3,o3,hk,rfl,hm3,hk3,hst3,hok3,hos3,hv3,hvo3⟩:=hrel;have HM3:=Lib.hid hm3;have HK3:=Lib.hid hk3;have HST3:=Lib.hid hst3;have HOK3:=Lib.hid hok3;have HOS3:=Lib.hid hos3;have HV3:=Lib.hid hv3;have HVO3:=Lib.hid hvo3;have hs3:w.heap.size<=wr.heap.size:=hm3.size;have hkl:=hk3.lt;have hsl:=hst3.lt;clear hm3 hk3 hst3 hok3 hos3 hv3 hvo3;by_cases hlt:k < N
   ·have hkt:k < ts.length:=by rw [HTL.out];exact hlt
    have hshape3:∃ g,a=some ⟨g,0,none⟩/\N<=cap/\cap<=maxLen:=by
     rcases ownsEdges_shape HV3.out with ⟨h1,_⟩ | ⟨g,cap',h1,_,h2,h3⟩
     ·rw [h1] at hkt;simp at hkt
     ·cases h1;rw [HTL.out] at h2;exact ⟨g,rfl,h2,h3⟩
    obtain ⟨g,rfl,hcap1,hcap2⟩:=hshape3;unfold maxLen at hcap2;have hvc:=HV3.out;rw [<- HTL.out] at hvc;obtain ⟨e0,e1,e2,e3⟩:=ownsEdges_cells hvc (List.getElem?_eq_getElem hkt);have hgl:g < wr.heap.size:=World.block_lt_of_cell? _ _ e0;have HPUT:Hid (putL (ts.take (k+1))=put1 (putL (ts.take k)) ts[k]):=Lib.hid (by rw [List.take_succ_eq_append_getElem hkt,putL_snoc]);have hpl:Hid ((putL (ts.take k)).length<=k):=Lib.hid (Nat.le_trans (putL_length _) (List.length_take_le _ _));have hal:Hid (∀ ob:Obj,Moved (fun x=>(Value.slice (some ⟨g,0,none⟩) N cap).ownBlock=some x) n pb db w o d (wr.alloc ob) o3 d3 (mput L name (edgeFile (putL (ts.take k)) false))):=Lib.hid (fun ob=>HM3.out.alloc ob);have hcallp:=Lib.hid (fun W (hW:PoolAt W pb db n o3 d3 (mput L name (edgeFile (putL (ts.take k)) false))) (hst:StreamAt W sb pb name 20) (hsk:SinkOf W kb sb (putL (ts.take k)))=>hput.out W o3 d3 kb sb (putL (ts.take k)) hW hst HOS3.out HOK3.out HNE2.out hsk (by have:=hpl.out;omega) ts[k]);clear hvc;generalize ts[k]=x at *;go_wp2_with fail
    have hbl:∀ ob:Obj,Below wr.heap.size wr (wr.alloc ob):=fun ob=>(Below.refl _ _).alloc (Nat.le_refl _) ob;refine (hcallp.out _ (hal.out _).pool (HST3.out.below (hbl _)) (HK3.out.below (hbl _))).mono ?_;rintro e w4 ⟨c4,d4,o4,rfl,hm4,he4,hk4⟩;have hsz4:wr.heap.size<=w4.heap.size:=Nat.le_trans (by simp) hm4.size;have HV4:Hid (ownsEdges w4 base (.slice (some ⟨g,0,none⟩) N cap) ts):=Lib.hid (hm4.ownsRow (HV3.out.alloc _) (fun b hb=>⟨HVO3.out b hb,HNK.out b hb⟩));have HST4:Hid (StreamAt w4 sb pb name 20):=Lib.hid ((HST3.out.below (hbl _)).moved hm4 HOS3.out (fun e=>HNE2.out e.symm));have HOK4:Hid (o4 kb=none):=Lib.hid (hm4.free (Nat.lt_of_lt_of_le hkl (hbl _).size) HOK3.out);have HOS4:Hid (o4 sb=none):=Lib.hid (hm4.free (Nat.lt_of_lt_of_le hsl (hbl _).size) HOS3.out);have HVO4:Hid (∀ x,(Value.slice (some ⟨g,0,none⟩) N cap).ownBlock=some x->o4 x=none):=Lib.hid (fun x hx=>hm4.free (Nat.lt_of_lt_of_le (by cases hx;exact hgl) (hbl _).size) (HVO3.out x hx));have HK4:=Lib.hid hk4;clear hk4 hcallp e0 e1 e2 e3;by_cases hc4:c4=0
    ·subst hc4;simp only [if_true,mput_mput] at hm4;have HM4:=Lib.hid ((hal.out _).trans hm4 (fun x hx e=>by subst e;omega));have hk5:=HK4.out rfl;rw [<- HPUT.out] at HM4 hk5;have HK5:=Lib.hid hk5;clear hm4 he4 hk5;go_wp2;go_roundw
     case rel=>exact ⟨k+1,d4,o4,by omega,by go_num,HM4.out,HK5.out,HST4.out,HOK4.out,HOS4.out,HV4.out,HVO4.out⟩
     case measure=>simp [intOf];omega
    ·have hc4':¬ (c4:Int)=0:=by omega
     rw [if_neg hc4] at hm4;have HM4:=Lib.hid ((hal.out _).trans hm4 (fun x hx e=>by subst e;omega));have hnd:need (mput L name (edgeFile (putL (ts.take k)) false))<=need L+4*N:=by
      rw [need_mput_fresh _ HNO.out];have h1:=edgeFile_need (putL (ts.take k)) false;have h2:=hpl.out;omega
     have HE4:=Lib.hid (((he4.resolve_left hc4).num hnd).later HM3.out.on.quota);clear hm4 he4 hc4 hnd;go_wp2;go_ret;exact ⟨c4,d4,o4,_,rfl,HM4.out, .inr HE4.out,fun x hx=>by rw [mget_mput,if_neg hx]⟩
   ·obtain rfl:k=N:=by omega
    go_wp2;go_ret;refine ⟨0,d3,o3,_,rfl,HM3.out, .inl ⟨rfl,?_⟩,fun x hx=>by rw [mget_mput,if_neg hx]⟩;rw [List.take_of_length_le (by rw [HTL.out];exact Nat.le_refl _),HB.out]
 ·have hc2':¬ (c2:Int)=0:=by omega
  have HC2:=Lib.hid hc2;rw [if_neg hc2] at hm2;have HM2:=Lib.hid (HM1.out.trans hm2 (fun _ _ h=>h.elim));clear hc2 hm2 hok2 he2 hcall;go_wp2;go_ret;exact ⟨c2,d2,o2,_,rfl,HM2.out, .inr (.inr (HE2.out.resolve_left HC2.out)),fun x _=>rfl⟩
end
end
section
open Go.RowKit
abbrev Run:=Name × List Edg
def runsL (rs:List Run) (L:Logic):Logic:=rs.foldl (fun L p=>mput L p.1 (edgeFile p.2 false)) L
theorem runsL_snoc (rs:List Run) (p:Run) (L:Logic):runsL (rs++[p]) L=mput (runsL rs L) p.1 (edgeFile p.2 false):=by unfold runsL;rw [List.foldl_append];rfl
theorem runsL_cons (rs:List Run) (p:Run) (L:Logic):runsL (p::rs) L=runsL rs (mput L p.1 (edgeFile p.2 false)):=rfl
theorem runsL_other (rs:List Run):∀ (L:Logic) (x:Name),x ∉ rs.map (·.1)->mget (runsL rs L) x=mget L x:=by
 induction rs with
 | nil=>intro L x _;rfl
 | cons p rs ih=>
   intro L x hx;rw [List.map_cons,List.mem_cons,not_or] at hx;rw [runsL_cons,ih _ _ hx.2,mget_mput,if_neg hx.1]
def lens (rs:List Run):Nat:=(rs.map (fun p=>p.2.length)).sum
theorem need_mput_le (L:Logic) (k:Name) (f:LFile):need (mput L k f)<=f.need+need L:=by
 unfold mput;rw [need_cons];have:need (mdel L k)<=need L:=by
  induction L with
  | nil=>exact Nat.le_refl _
  | cons q L ih=>
    unfold mdel at ih ⊢;rw [List.filter_cons];split
    ·rw [need_cons,need_cons];omega
    ·rw [need_cons];omega
 dsimp only;omega
theorem runsL_need (rs:List Run):∀ (L:Logic),need (runsL rs L)<=need L+4*lens rs:=by
 induction rs with
 | nil=>intro L;exact Nat.le_add_right _ _
 | cons p rs ih=>
   intro L;rw [runsL_cons];have h1:=ih (mput L p.1 (edgeFile p.2 false));have h2:=need_mput_le L p.1 (edgeFile p.2 false);have h3:=edgeFile_need p.2 false;have h4:lens (p::rs)=p.2.length+lens rs:=by unfold lens;rw [List.map_cons,List.sum_cons]
   omega
theorem lens_append (a b:List Run):lens (a++b)=lens a+lens b:=by unfold lens;rw [List.map_append,List.sum_append]
def allOf (rs:List Run):List Edg:=(rs.map (·.2)).flatten
theorem allOf_append (a b:List Run):allOf (a++b)=allOf a++allOf b:=by unfold allOf;rw [List.map_append,List.flatten_append]
theorem bestOf_length (b:Bool) (l:List Edg):(bestOf b l).length<=l.length:=by
 unfold bestOf;refine Nat.le_trans (putL_length _) ?_;rw [List.length_mergeSort];exact Nat.le_refl _
theorem bestOf_same (b:Bool) (l:List Edg):bestOf b (bestOf b l)=bestOf b l:=((best_bestOf b l).trans (best_bestOf b (bestOf b l))).eq
theorem bestOf_both (b:Bool) (l m:List Edg):bestOf b (bestOf b l++bestOf b m)=bestOf b (l++m):=((best_bestOf b l).both (best_bestOf b m) (best_bestOf b _)).eq
theorem bestOf_lr {b:Bool} {l l' m m':List Edg} (h1:bestOf b l=bestOf b l') (h2:bestOf b m=bestOf b m'):bestOf b (l++m)=bestOf b (l'++m'):=by
 rw [<- bestOf_both,h1,h2,bestOf_both]
structure RunsOk (b:Bool) (es:List Edg) (rs:List Run):Prop where
 each:∀ p∈rs,bestOf b p.2=p.2
 all:bestOf b (allOf rs)=bestOf b es
 len:lens rs<=es.length
 nodup:(rs.map (·.1)).Nodup
def ofSort (out x:Name):Prop:=x=out\/∃ k,k < 128/\x=tName k
theorem nDigits_inj {a b:Nat}:Lib.decDigits a=Lib.decDigits b->a=b:=by
 induction a using Nat.strongRecOn generalizing b with
 | _ a ih=>
   intro h;rw [Lib.decDigits,Lib.decDigits.eq_1 b] at h;by_cases ha:a < 10
   ·by_cases hb:b < 10
    ·rw [dif_pos ha,dif_pos hb] at h;have h1:=List.cons.inj h;have h2:=congrArg UInt8.toNat h1.1;rw [UInt8.toNat_ofNat',UInt8.toNat_ofNat'] at h2;omega
    ·rw [dif_pos ha,dif_neg hb] at h;have h1:=congrArg List.length h;have h2:0 < (Lib.decDigits (b / 10)).length:=by rw [Lib.decDigits_length];exact Lib.nDigits_pos _
     simp at h1;rw [h1] at h2;simp at h2
   ·by_cases hb:b < 10
    ·rw [dif_neg ha,dif_pos hb] at h;have h1:=congrArg List.length h;have h2:0 < (Lib.decDigits (a / 10)).length:=by rw [Lib.decDigits_length];exact Lib.nDigits_pos _
     simp at h1;rw [h1] at h2;simp at h2
    ·rw [dif_neg ha,dif_neg hb] at h;have h1:=List.append_inj' h rfl;have h3:=ih (a / 10) (by omega) h1.1;have h2:=congrArg UInt8.toNat (List.cons.inj h1.2).1;rw [UInt8.toNat_ofNat',UInt8.toNat_ofNat'] at h2;omega
theorem tName_inj {a b:Nat} (h:tName a=tName b):a=b:=by
 unfold tName at h;have h1:=congrArg (fun x:ByteArray=>x.data.toList) h;simp only [List.cons_append,List.nil_append,List.cons.injEq,true_and] at h1;exact nDigits_inj h1
theorem decDigits_ok {k:Nat} (h:k < 100):(Lib.decDigits k).all okByte=true/\(Lib.decDigits k).length<=2:=by
 have hb:∀ j,j < 10->okByte (UInt8.ofNat (48+j))=true:=by decide
 by_cases h1:k < 10
 ·rw [Lib.decDigits_one h1];exact ⟨by simp only [List.all_cons,List.all_nil,Bool.and_true];exact hb k h1,by simp⟩
 ·rw [Lib.decDigits_two h1 h];exact ⟨by simp only [List.all_cons,List.all_nil,Bool.and_true,hb (k / 10) (by omega),hb (k % 10) (by omega)],by simp⟩
theorem tName_ok {k:Nat} (h:k < 100):okName (tName k)=true:=by
 obtain ⟨h1,h2⟩:=decDigits_ok h;unfold okName tName;have hs:(ByteArray.mk ([116,46]++Lib.decDigits k).toArray).size=2+(Lib.decDigits k).length:=by
  show Array.size _=_;simp;omega
 rw [hs];simp only [List.cons_append,List.nil_append,List.all_cons,h1,Bool.and_eq_true,decide_eq_true_eq];refine ⟨⟨⟨by decide,by decide,trivial⟩,by omega⟩,by omega⟩
end
section
open Go.RowKit Go.Maps
def Appd (v:Value) (w w':World) (v':Value):Prop:=w.grownBy w' v.ownBlock/\(v'.ownBlock=v.ownBlock\/v'.ownBlock=some w.heap.size)
theorem wpList_append_at {P:Program} {w:World} {ops:Array Oper} {rest:List Oper} {op:Oper} {a:Act} {Q:Exit->Act->World->Prop} (hgd:op.guard=none) (s x:Operand) (t:TypeId)
 (ho:op.op=.call { callee:=.builtin .append,args:=#[s,x],argTypes:=#[t,t] })
 (base:Nat) (e:TypeId) (z:Value) (size bytes:Nat) (ht:P.underlying t=some (.slice e)) (hi:(P.info? e).map (fun i=>(i.zero,i.size,i.bytes))=some (some z,size,bytes)) (hzs:z.cells.size=size) (hsz:0 < size)
 (v:Value) (n:Nat) (xs:List Value) (hs:a.eval s=v) (hown:w.ownsRow base e size v n xs)
 (ad:Addr) (m c:Nat) (news:List Value) (hx:a.eval x=.slice (some ad) m c) (hl:news.length=m*size) (hnews:∀ j u,news[j]? = some u->w.cell? (ad.add j)=some u) (h1:∀ u∈news,u.oneCell'=true)
 (h63:n+m<=maxLen) (hbytes:(n+m)*bytes<=140737488355328) (hbase:base<=w.heap.size)
 (k:∀ v' w',w'.ownsRow base e size v' (n+m) (xs++news)->Appd v w w' v'->wpList P ops Q rest (a.put op.dst v') w'):wpList P ops Q (op::rest) a w:=by
 obtain ⟨i0,hi0,hz0,hz1,hz2⟩:=info_parts hi;refine wpList_plain hgd fun K hK=>?_;obtain ⟨v',w',g1,g2,g3,g4,g5⟩:=run_append_own_at (P:=P) w base t op.type e i0 z size bytes ht hi0 hz0 hz1 hz2 hzs hsz v n xs hown ad m c news hl hnews h1 h63 hbytes hbase;unfold Oper.wp execOp;simp only [ho,resolve,invoke,builtin,Sem.run_bind,Sem.run_pure,Result.andThen_ok,List.map_toArray,List.map_cons,List.map_nil,hs,hx,g1];exact hK _ _ (k v' w' g2 ⟨g3,g5⟩)
section
variable {w:World} {ops:Array Oper} {rest:List Oper} {op:Oper} {a:Act} {Q:Exit->Act->World->Prop}
theorem wpList_append_edge (hgd:op.guard=none) (s x:Operand) (ho:op.op=.call { callee:=.builtin .append,args:=#[s,x],argTypes:=#[22,22] }) (base:Nat) (v:Value) (l:List Edg) (hs:a.eval s=v) (hown:ownsEdges w base v l)
 (y:Edg) (c:Nat) (hx:a.eval x=.slice (some ⟨w.heap.size,0,none⟩) 1 c) (hl:l.length<=100000) (hbase:base<=w.heap.size)
 (k:∀ v' w',ownsEdges w' base v' (l++[y])->Appd v (w.alloc (.cells #[.int .u32 (y.t.toNat:Int), .int .u32 (y.h.toNat:Int), .int .u64 (y.x.toNat:Int), .int .u32 (y.m.toNat:Int)] 64)) w' v'->wpList Tryz.prog ops Q rest (a.put op.dst v') w') :
 wpList Tryz.prog ops Q (op::rest) a (w.alloc (.cells #[.int .u32 (y.t.toNat:Int), .int .u32 (y.h.toNat:Int), .int .u64 (y.x.toNat:Int), .int .u32 (y.m.toNat:Int)] 64)):=by
 refine wpList_append_at hgd s x 22 ho base 64 _ 4 24 Tryz.underlying22 info_edge rfl (by decide) v l.length (edgRow l) hs (World.ownsRow.alloc hown _) ⟨w.heap.size,0,none⟩ 1 c y.cells hx rfl (fun j u hj=>?_) (by simp [Value.oneCell']) (by unfold maxLen;omega) (by omega) (by simp;omega) (fun v' w' h1 h2=>k v' w' ?_ h2)
 ·rw [Addr_add,Nat.zero_add];match j,hj with
  | 0,hj=>cases hj;simp
  | 1,hj=>cases hj;simp
  | 2,hj=>cases hj;simp
  | 3,hj=>cases hj;simp
  | j+4,hj=>cases hj
 ·unfold ownsEdges;rw [edgRow_append,List.length_append];exact h1
theorem wpList_append_str (hgd:op.guard=none) (s x:Operand) (ho:op.op=.call { callee:=.builtin .append,args:=#[s,x],argTypes:=#[91,91] }) (base:Nat) (v:Value) (l:List Name) (hs:a.eval s=v) (hown:w.ownsRow base 9 1 v l.length (l.map Value.string))
 (y:Name) (c:Nat) (hx:a.eval x=.slice (some ⟨w.heap.size,0,none⟩) 1 c) (hl:l.length<=100000) (hbase:base<=w.heap.size)
 (k:∀ v' w',w'.ownsRow base 9 1 v' (l++[y]).length ((l++[y]).map Value.string)->Appd v (w.alloc (.cells #[.string y] 9)) w' v'->wpList Tryz.prog ops Q rest (a.put op.dst v') w') :
 wpList Tryz.prog ops Q (op::rest) a (w.alloc (.cells #[.string y] 9)):=by
 refine wpList_append_at hgd s x 91 ho base 9 _ 1 16 Tryz.underlying91 info_string rfl (by decide) v l.length (l.map Value.string) hs (World.ownsRow.alloc hown _) ⟨w.heap.size,0,none⟩ 1 c [.string y] hx rfl (fun j u hj=>?_) (by simp [Value.oneCell']) (by unfold maxLen;omega) (by omega) (by simp;omega) (fun v' w' h1 h2=>k v' w' ?_ h2)
 ·rw [Addr_add,Nat.zero_add];match j,hj with
  | 0,hj=>cases hj;simp
  | j+1,hj=>cases hj
 ·rw [List.map_append,List.length_append];exact h1
end
section
variable {S:Nat->Prop} {n pb db:Nat} {w W w':World} {o o':Owner} {d d':Dsk} {L':Logic} {v v':Value}
theorem Appd.moved {ob:Obj} (ha:Appd v (W.alloc ob) w' v') (hm:Moved S n pb db w o d W o' d' L') (hv:∀ x,v.ownBlock=some x->o' x=none/\w.heap.size<=x) :
 Moved S n pb db w o d w' o' d' L'/\(∀ x,v'.ownBlock=some x->o' x=none/\w.heap.size<=x)/\(∀ x,x < W.heap.size->v.ownBlock≠some x->w'.heap[x]? = W.heap[x]?)/\W.heap.size<=w'.heap.size:=by
 obtain ⟨hg,hb⟩:=ha;have hs:W.heap.size < (W.alloc ob).heap.size:=by simp
 refine ⟨(hm.alloc ob).grown hg (fun k hk=>⟨(hv k hk).1, .inr (hv k hk).2⟩),fun x hx=>?_,fun x hx hne=>?_,Nat.le_trans (Nat.le_of_lt hs) hg.size⟩
 ·rcases hb with e | e
  ·rw [e] at hx;exact hv x hx
  ·rw [e] at hx;cases hx;exact ⟨hm.pool.fresh (Nat.le_of_lt hs),Nat.le_trans hm.size (Nat.le_of_lt hs)⟩
 ·exact (hg.block x (Nat.lt_trans hx hs) (fun e=>hne e.symm)).trans ((MapKept.heap_alloc W ob).2 x hx)
theorem ownsRow_heap {base:Nat} {e:TypeId} {size:Nat} {k:Nat} {xs:List Value} (hr:W.ownsRow base e size v k xs) (hb:∀ x,v.ownBlock=some x->w'.heap[x]? = W.heap[x]?):w'.ownsRow base e size v k xs:=by
 obtain ⟨hl,hr⟩:=hr;refine ⟨hl,?_⟩;rcases hr with hr | ⟨g,cap,cur,hv,hg,hh,r⟩
 ·exact .inl hr
 ·exact .inr ⟨g,cap,cur,hv,hg,(hb g (by rw [hv];rfl)).trans hh,r⟩
theorem ownsRow_apart {base base':Nat} {e e':TypeId} {size size' k k':Nat} {xs xs':List Value} (h:W.ownsRow base e size v k xs) (h':W.ownsRow base' e' size' v' k' xs') (hne:e≠e'):∀ x,v.ownBlock=some x->v'.ownBlock≠some x:=by
 intro x hx hx';obtain ⟨_,⟨h1,_⟩ | ⟨g,cap,cur,h1,_,h2,_⟩⟩:=h
 ·rw [h1] at hx;cases hx
 ·obtain ⟨_,⟨g1,_⟩ | ⟨g',cap',cur',g1,_,g2,_⟩⟩:=h'
  ·rw [g1] at hx';cases hx'
  ·rw [h1] at hx;rw [g1] at hx';cases hx;cases hx';rw [h2] at g2;have:=Option.some.inj g2;injection this with a b;exact hne b
end
end
section
open Go.RowKit Go.Maps
set_option maxHeartbeats 1000000 in
theorem cmpOr_any (x y:Int) (b:Nat) (w:World) (hx:w.cell? ⟨b,0,none⟩=some (.int .i64 x)) (hy:w.cell? ⟨b,1,none⟩=some (.int .i64 y)) :
 Calls Tryz.prog 204 #[.slice (some ⟨b,0,none⟩) 2 2] w fun e w'=>e=.returned (.int .i64 (first2 x y))/\w=w':=by
 by_cases h1:x=0
 ·subst h1;by_cases h2:y=0
  ·subst h2;go_enter Tryz.func204,Tryz.ntmps204
   go_wp2;refine wp_loop_rounds 3 ?_;iterate 3 (rw [rounds_succ];go_wp2)
   go_ret;exact ⟨rfl,rfl⟩
  ·go_enter Tryz.func204,Tryz.ntmps204
   go_wp2;refine wp_loop_rounds 2 ?_;iterate 2 (rw [rounds_succ];go_wp2)
   go_ret;exact ⟨rfl,rfl⟩
 ·have H:=Lib.hid h1;go_enter Tryz.func204,Tryz.ntmps204
  go_wp2;refine wp_loop_rounds 1 ?_;iterate 1 (rw [rounds_succ];go_wp2)
  go_ret;exact ⟨by unfold first2;rw [if_neg H.out];rfl,rfl⟩
theorem cellB {w w':World} (hb:Below w.heap.size w w') {a:Addr} {v:Value} (hc:w.cell? a=some v):w'.cell? a=some v:=(hb.cell (World.block_lt_of_cell? w a hc)).trans hc
theorem first2_lt (a b:Itm):decide (first2 (cmpN a.1 b.1) (cmpN a.2 b.2) < 0)=decide (LtI a b):=by
 rw [decide_eq_decide];unfold LtI first2;rcases cmpN_cases a.1 b.1 with ⟨g1,g2⟩ | ⟨g1,g2⟩ | ⟨g1,g2⟩
 ·rw [g2,if_neg (by decide)];omega
 ·rw [g2,if_neg (by decide)];omega
 ·rw [g2,if_pos rfl];rcases cmpN_cases a.2 b.2 with ⟨k1,k2⟩ | ⟨k1,k2⟩ | ⟨k1,k2⟩<;>rw [k2]<;>omega
abbrev itmVal (x:Itm):Value:=.agg #[.int .u64 (x.1:Int), .int .u32 (x.2:Int)]
set_option maxRecDepth 100000 in
set_option maxHeartbeats 2000000 in
theorem less_any (x y:Itm) (w:World):Calls Tryz.prog 282 #[itmVal x,itmVal y] w fun e w'=>e=.returned (.bool (decide (LtI x y)))/\Grew w w':=by
 have hf:=Lib.hid (first2_lt x y);unfold itmVal;generalize x.1=xk at *;generalize x.2=xi at *;generalize y.1=yk at *;generalize y.2=yi at *;go_enter Tryz.func282,Tryz.ntmps282
 have HG:Hid (Grew w ((w.alloc (.cells #[.int .u64 (xk:Int), .int .u32 (xi:Int)] 357)).alloc (.cells #[.int .u64 (yk:Int), .int .u32 (yi:Int)] 357))):=Lib.hid (((Grew.refl w).alloc _).alloc _);go_wp2;have K:Hid (((w.alloc (.cells #[.int .u64 (xk:Int), .int .u32 (xi:Int)] 357)).alloc (.cells #[.int .u64 (yk:Int), .int .u32 (yi:Int)] 357)).cell? ⟨w.heap.size,0,none⟩=some (.int .u64 (xk:Int))/\((w.alloc (.cells #[.int .u64 (xk:Int), .int .u32 (xi:Int)] 357)).alloc (.cells #[.int .u64 (yk:Int), .int .u32 (yi:Int)] 357)).cell? ⟨w.heap.size,1,none⟩=some (.int .u32 (xi:Int))/\((w.alloc (.cells #[.int .u64 (xk:Int), .int .u32 (xi:Int)] 357)).alloc (.cells #[.int .u64 (yk:Int), .int .u32 (yi:Int)] 357)).cell? ⟨w.heap.size+1,0,none⟩=some (.int .u64 (yk:Int))/\((w.alloc (.cells #[.int .u64 (xk:Int), .int .u32 (xi:Int)] 357)).alloc (.cells #[.int .u64 (yk:Int), .int .u32 (yi:Int)] 357)).cell? ⟨w.heap.size+1,1,none⟩=some (.int .u32 (yi:Int))):=Lib.hid (by simp);generalize ((w.alloc (.cells #[.int .u64 (xk:Int), .int .u32 (xi:Int)] 357)).alloc (.cells #[.int .u64 (yk:Int), .int .u32 (yi:Int)] 357))=W at *;refine wp_region_quiet_tail (Grew W) 10 (by kernel_rfl) (by kernel_rfl) (Grew.refl W).drew ?_;simp only [List.take_succ_cons,List.take_zero,List.drop_succ_cons,List.drop_zero];refine qo (fun K hK=>?_);go_simp;refine hK _ ?_;clear hK K;refine qo (fun K hK=>?_) (fun w' hw'=>by have hc:=hw'.cell K.out.1;go_simp<;>rfl);go_simp;refine hK _ ?_;clear hK K;refine qo (fun K hK=>?_);go_simp;refine hK _ ?_;clear hK K;refine qo (fun K hK=>?_) (fun w' hw'=>by have hc:=hw'.cell K.out.2.2.1;go_simp<;>rfl);go_simp;refine hK _ ?_;clear hK K;refine qc (fun w' hw'=>(cmp64_any xk yk w').mono (fun e w'' h=>⟨h.1,h.2 ▸ hw'⟩)) (fun K hK=>?_);go_simp;refine hK _ ?_;clear hK K;refine qo (fun K hK=>?_);go_simp;refine hK _ ?_;clear hK K;refine qo (fun K hK=>?_) (fun w' hw'=>by have hc:=hw'.cell K.out.2.1;go_simp<;>rfl);go_simp;refine hK _ ?_;clear hK K;refine qo (fun K hK=>?_);go_simp;refine hK _ ?_;clear hK K;refine qo (fun K hK=>?_) (fun w' hw'=>by have hc:=hw'.cell K.out.2.2.2;go_simp<;>rfl);go_simp;refine hK _ ?_;clear hK K;refine qc (fun w' hw'=>(cmp32_any xi yi w').mono (fun e w'' h=>⟨h.1,h.2 ▸ hw'⟩)) (fun K hK=>?_);go_simp;refine hK _ ?_;clear hK K;refine wpQuiet_nil ?_;intro w3 hw3;have HW3:=Lib.hid hw3;clear hw3;go_wp2_with fail
 refine (cmpOr_any (cmpN xk yk) (cmpN xi yi) _ _ (by simp) (by simp)).mono ?_;rintro e w4 ⟨rfl,rfl⟩;go_wp2;go_ret;exact ⟨by rw [<- hf.out];rfl,(HG.out.trans HW3.out).alloc _⟩
abbrev Itm.cells (x:Itm):List Value:=[.int .u64 (x.1:Int), .int .u32 (x.2:Int)]
def itmRow:List Itm->List Value
 | []=>[]
 | x::l=>Itm.cells x++itmRow l
theorem itmRow_length (l:List Itm):(itmRow l).length=l.length*2:=by
 induction l with
 | nil=>rfl
 | cons e l ih=>rw [itmRow,List.length_append,ih,List.length_cons];simp;omega
theorem itmRow_append (a b:List Itm):itmRow (a++b)=itmRow a++itmRow b:=by
 induction a with
 | nil=>rfl
 | cons e a ih=>rw [List.cons_append,itmRow,itmRow,ih,List.append_assoc]
theorem itmRow_take (l:List Itm) (k:Nat):itmRow (l.take k)=(itmRow l).take (k*2):=by
 induction l generalizing k with
 | nil=>simp [itmRow]
 | cons e l ih=>
   cases k with
   | zero=>simp [itmRow]
   | succ k=>
     rw [List.take_succ_cons,itmRow,itmRow,ih,show (k+1)*2=k*2+2 by omega];simp [Itm.cells]
theorem itmRow_set (l:List Itm) (i:Nat) (x:Itm) (hi:i < l.length):((itmRow l).set (i*2) (.int .u64 (x.1:Int))).set (i*2+1) (.int .u32 (x.2:Int))=itmRow (l.set i x):=by
 induction l generalizing i with
 | nil=>simp at hi
 | cons e l ih=>
   cases i with
   | zero=>simp [itmRow,Itm.cells]
   | succ i=>
     have:=ih i (by simpa using hi);have e0:(i+1)*2=i*2+2:=by omega
     simp only [List.set_cons_succ,itmRow];rw [<- this];simp only [Itm.cells,List.cons_append,List.nil_append,e0,List.set_cons_succ]
theorem itmRow_get {l:List Itm} {i:Nat} (h:i < l.length):(itmRow l)[i*2]? = some (.int .u64 ((gI l i).1:Int))/\(itmRow l)[i*2+1]? = some (.int .u32 ((gI l i).2:Int)):=by
 induction l generalizing i with
 | nil=>simp at h
 | cons q l ih=>
   cases i with
   | zero=>exact ⟨rfl,rfl⟩
   | succ i=>
     have:=ih (i:=i) (by simpa using h);rw [show (i+1)*2=i*2+2 by omega];exact this
theorem info_item:(Tryz.prog.info? 357).map (fun i=>(i.zero,i.size,i.bytes))=some (some (.agg #[.int .u64 0, .int .u32 0]),2,16):=by kernel_rfl
abbrev lessV:Value:=.func (.func 282) #[] #[]
abbrev ownsItms (w:World) (v:Value) (l:List Itm):Prop:=w.ownsRow 0 357 2 v l.length (itmRow l)
structure HpAt (w:World) (hb:Nat) (v:Value) (l:List Itm):Prop where
 hd:∃ t,w.heap[hb]? = some (.cells #[v,lessV] t)
 row:ownsItms w v l
 ne:v.ownBlock≠some hb
section
variable {w w' W:World} {hb g cap:Nat} {v:Value} {l:List Itm}
theorem HpAt.lt (h:HpAt w hb v l):hb < w.heap.size:=by
 obtain ⟨t,h⟩:=h.hd;exact (Array.getElem?_eq_some_iff.1 h).1
theorem HpAt.kept (h:HpAt w hb v l) (hk:∀ b,b=hb\/v.ownBlock=some b->w'.heap[b]? = w.heap[b]?):HpAt w' hb v l:=by
 obtain ⟨⟨t,h1⟩,h2,h3⟩:=h;exact ⟨⟨t,(hk hb (.inl rfl)).trans h1⟩,ownsRow_heap h2 (fun x hx=>hk x (.inr hx)),h3⟩
theorem HpAt.below (h:HpAt w hb v l) (hbl:Below w.heap.size w w'):HpAt w' hb v l:=
 h.kept (fun b hb'=>hbl.block _ (hb'.elim (fun e=>e ▸ h.lt) (fun e=>(ownBlock_old h.row b e).1)))
theorem HpAt.cells (h:HpAt w hb v l):w.cell? ⟨hb,0,none⟩=some v/\w.cell? ⟨hb,1,none⟩=some lessV/\∀ k,w.frozen? ⟨hb,k,none⟩=false:=by
 obtain ⟨t,h1⟩:=h.hd;exact ⟨by rw [cells_cell h1];rfl,by rw [cells_cell h1];rfl,fun _=>cells_frozen h1 _⟩
theorem HpAt.item (h:HpAt w hb (.slice (some ⟨g,0,none⟩) l.length cap) l) {i:Nat} (hi:i < l.length) :
 w.cell? ⟨g,i*2,none⟩=some (.int .u64 ((gI l i).1:Int))/\w.cell? ⟨g,i*2+1,none⟩=some (.int .u32 ((gI l i).2:Int)):=by
 obtain ⟨h1,h2⟩:=itmRow_get hi;have hc:∀ (j:Nat) (u:Value),(itmRow l)[j]? = some u->w.cell? ⟨g,j,none⟩=some u:=fun j u hj=>by
  have:=World.ownsRow.cells h.row (g:=g) rfl j u hj;rwa [Addr_add,Nat.zero_add] at this
 exact ⟨hc _ _ h1,hc _ _ h2⟩
theorem HpAt.put (h:HpAt w hb (.slice (some ⟨g,0,none⟩) l.length cap) l) {i:Nat} (hi:i < l.length) (x:Itm) :
 HpAt ((w.setCell ⟨g,i*2,none⟩ (.int .u64 (x.1:Int))).setCell ⟨g,i*2+1,none⟩ (.int .u32 (x.2:Int))) hb (.slice (some ⟨g,0,none⟩) (l.set i x).length cap) (l.set i x):=by
 obtain ⟨⟨t,h0⟩,h2,h3⟩:=h;have hne:hb≠g:=fun e=>h3 (by rw [e];rfl);refine ⟨⟨t,?_⟩,?_,by rw [List.length_set];exact h3⟩
 ·rw [List.length_set,Below.heap_setCell _ _ _ _ hne,Below.heap_setCell _ _ _ _ hne];exact h0
 ·have h1:=World.ownsRow.stored h2 (i*2) (.int .u64 (x.1:Int));have h4:=World.ownsRow.stored h1.1 (i*2+1) (.int .u32 (x.2:Int));unfold ownsItms;rw [List.length_set,<- itmRow_set l i x hi];exact h4.1
def ReadsI (W:World) (hb g p q cap:Nat) (n:Nat) (x y:Itm):Prop:=∀ w',Below W.heap.size W w' ->
 (w'.cell? ⟨hb,0,none⟩=some (.slice (some ⟨g,0,none⟩) n cap)/\w'.cell? ⟨hb,1,none⟩=some lessV) /\
 (w'.cell? ⟨g,p,none⟩=some (.int .u64 (x.1:Int))/\w'.cell? ⟨g,p+1,none⟩=some (.int .u32 (x.2:Int))) /\
 (w'.cell? ⟨g,q,none⟩=some (.int .u64 (y.1:Int))/\w'.cell? ⟨g,q+1,none⟩=some (.int .u32 (y.2:Int))) /\
 Calls Tryz.prog 282 #[.agg #[.int .u64 (x.1:Int), .int .u32 (x.2:Int)], .agg #[.int .u64 (y.1:Int), .int .u32 (y.2:Int)]] w' fun e w''=>e=.returned (.bool (decide (LtI x y)))/\Below W.heap.size W w''
theorem HpAt.reads (h:HpAt W hb (.slice (some ⟨g,0,none⟩) l.length cap) l) {i j:Nat} (hi:i < l.length) (hj:j < l.length):ReadsI W hb g (i*2) (j*2) cap l.length (gI l i) (gI l j):=fun w' hw'=>
 ⟨⟨(h.below hw').cells.1,(h.below hw').cells.2.1⟩,(h.below hw').item hi,(h.below hw').item hj,(less_any _ _ w').mono fun _ _ ⟨h1,h2⟩=>⟨h1,hw'.trans (h2.below.mono hw'.size)⟩⟩
structure ExchI (W:World) (hb g cap:Nat) (l:List Itm) (i j p q:Nat) (x y:Itm):Prop where
 hp:i*2=p
 hq:j*2=q
 c0:W.cell? ⟨hb,0,none⟩=some (.slice (some ⟨g,0,none⟩) l.length cap)
 p0:W.cell? ⟨g,p,none⟩=some (.int .u64 (x.1:Int))
 p1:W.cell? ⟨g,p+1,none⟩=some (.int .u32 (x.2:Int))
 q0:W.cell? ⟨g,q,none⟩=some (.int .u64 (y.1:Int))
 q1:W.cell? ⟨g,q+1,none⟩=some (.int .u32 (y.2:Int))
 fr:∀ k,W.frozen? ⟨g,k,none⟩=false
 gh:g≠hb
 n0:p≠q
 n1:p≠q+1
 n2:p+1≠q
 done:HpAt ((((W.setCell ⟨g,p,none⟩ (.int .u64 (y.1:Int))).setCell ⟨g,p+1,none⟩ (.int .u32 (y.2:Int))).setCell ⟨g,q,none⟩ (.int .u64 (x.1:Int))).setCell ⟨g,q+1,none⟩ (.int .u32 (x.2:Int))).drew hb (.slice (some ⟨g,0,none⟩) (sw l i j).length cap) (sw l i j)
 turn:Turn (·=g) W ((((W.setCell ⟨g,p,none⟩ (.int .u64 (y.1:Int))).setCell ⟨g,p+1,none⟩ (.int .u32 (y.2:Int))).setCell ⟨g,q,none⟩ (.int .u64 (x.1:Int))).setCell ⟨g,q+1,none⟩ (.int .u32 (x.2:Int))).drew
theorem HpAt.exch (h:HpAt W hb (.slice (some ⟨g,0,none⟩) l.length cap) l) {i j:Nat} (hi:i < l.length) (hj:j < l.length) (hij:i≠j) {x y:Itm} (hx:gI l i=x) (hy:gI l j=y):∃ p q,ExchI W hb g cap l i j p q x y:=by
 subst hx hy;have h1:=h.put hi (gI l j);have h2:=h1.put (i:=j) (by rw [List.length_set];exact hj) (gI l i);obtain ⟨a1,a2⟩:=h.item hi;obtain ⟨b1,b2⟩:=h.item hj;exact ⟨i*2,j*2,rfl,rfl,h.cells.1,a1,a2,b1,b2,fun k=>World.ownsRow.frozenAt h.row k,fun e=>h.ne (by rw [<- e];rfl),by omega,by omega,by omega,h2.below (Below.refl _ _).drew,
  (((((Turn.refl (·=g) W).setCell _ _ (.inl rfl)).setCell _ _ (.inl rfl)).setCell _ _ (.inl rfl)).setCell _ _ (.inl rfl)).drew⟩
end
end
section
open Go.RowKit Go.Maps
section
variable {w w' W:World} {hb g cap:Nat} {l:List Itm}
def HpPost (w:World) (hb g cap:Nat) (l:List Itm) (e:Ending) (w':World):Prop:=
 ∃ l',e=.returned (.tuple #[])/\l'.Perm l/\Heaped l'/\HpAt w' hb (.slice (some ⟨g,0,none⟩) l.length cap) l'/\Turn (·=g) w w'
set_option maxRecDepth 100000 in
set_option maxHeartbeats 8000000 in
theorem up_any (h:HpAt w hb (.slice (some ⟨g,0,none⟩) l.length cap) l) (i:Nat) (hi:i < l.length) (hu:HoleU l i) (hl:l.length<=1000000) :
 Calls Tryz.prog 301 #[ptrTo hb, .int .i64 (i:Int)] w (HpPost w hb g cap l):=by
 have H:=Lib.hid h;have HU:=Lib.hid hu;clear h hu;obtain ⟨N,hN⟩:∃ N,N=l.length:=⟨_,rfl⟩;rw [<- hN] at hi hl;have HN:=Lib.hid hN;clear hN;unfold ptrTo;go_enter Tryz.func301,Tryz.ntmps301
 go_wp2;go_loopw [1] (fun vi wr=>∃ (i:Nat) (lk:List Itm),vi=.int .i64 (i:Int)/\i < N/\Hid (lk.length=N)/\HpAt wr hb (.slice (some ⟨g,0,none⟩) N cap) lk/\Turn (·=g) w wr/\Hid (HoleU lk i/\lk.Perm l)) (fun vi _=>(intOf vi).toNat)
 case atStart=>exact ⟨i,l,rfl,hi,Lib.hid HN.out.symm,by rw [HN.out];exact H.out,Turn.refl _ _,Lib.hid ⟨HU.out,List.Perm.refl _⟩⟩
 case round=>
  obtain ⟨i,lk,rfl,hi,HK,hh,ht,HQ⟩:=hrel;generalize wr=Wr at *;have HH:Hid (HpAt Wr hb (.slice (some ⟨g,0,none⟩) lk.length cap) lk):=Lib.hid (by rw [HK.out];exact hh);have HT:=Lib.hid ht;clear hh ht;by_cases h0:0 < i
  ·have h0z:(i:Int) > 0:=by omega
   obtain ⟨p,hp⟩:∃ p,p=(i - 1) / 2:=⟨_,rfl⟩;have w1:IntKind.i64.wrap ((i:Int) - 1)=((i - 1:Nat):Int):=by rw [wrap_in]<;>omega
   have w2:((i - 1:Nat):Int) / 2=(p:Int):=by omega
   have bi:(i:Int) < (N:Int):=by omega
   have bp:(p:Int) < (N:Int):=by omega
   have HI:Hid (i < lk.length/\p < lk.length/\p < i/\p=(i - 1) / 2):=Lib.hid (by have:=HK.out;omega);clear hp;have F:=Lib.hid (HH.out.reads (i:=i) (j:=p) HI.out.1 HI.out.2.1);obtain ⟨xi,hxi⟩:∃ x,gI lk i=x:=⟨_,rfl⟩;obtain ⟨xp,hxp⟩:∃ x,gI lk p=x:=⟨_,rfl⟩;rw [hxi,hxp,HK.out] at F;by_cases hlt:LtI xi xp
   ·have hlb:decide (LtI xi xp)=true:=decide_eq_true hlt;go_wp2_with fail
    refine wq Wr ?_;iterate 3 (refine qo (fun K hK=>?_);go_simp;refine hK _ ?_;clear hK K)
    refine qo (fun K hK=>?_) (fun w' hw'=>by obtain ⟨⟨c0,c1⟩,-,-,-⟩:=F.out w' hw';go_simp<;>rfl);go_simp;refine hK _ ?_;clear hK K;iterate 3 (refine qo (fun K hK=>?_);go_simp;refine hK _ ?_;clear hK K)
    refine qo (fun K hK=>?_) (fun w' hw'=>by obtain ⟨⟨c0,c1⟩,-,-,-⟩:=F.out w' hw';go_simp<;>rfl);go_simp;refine hK _ ?_;clear hK K;iterate 2 (refine qo (fun K hK=>?_);go_simp;refine hK _ ?_;clear hK K)
    refine qo (fun K hK=>?_) (fun w' hw'=>by obtain ⟨-,⟨c0,c1⟩,-,-⟩:=F.out w' hw';go_simp<;>rfl);go_simp;refine hK _ ?_;clear hK K;iterate 3 (refine qo (fun K hK=>?_);go_simp;refine hK _ ?_;clear hK K)
    refine qo (fun K hK=>?_) (fun w' hw'=>by obtain ⟨⟨c0,c1⟩,-,-,-⟩:=F.out w' hw';go_simp<;>rfl);go_simp;refine hK _ ?_;clear hK K;iterate 2 (refine qo (fun K hK=>?_);go_simp;refine hK _ ?_;clear hK K)
    refine qo (fun K hK=>?_) (fun w' hw'=>by obtain ⟨-,-,⟨c0,c1⟩,-⟩:=F.out w' hw';go_simp<;>rfl);go_simp;refine hK _ ?_;clear hK K;refine qc (fun w' hw'=>(F.out w' hw').2.2.2) (fun K hK=>?_);go_simp;refine hK _ ?_;clear hK K;refine qo (fun K hK=>?_);go_simp;refine hK _ ?_;clear hK K;refine wpQuiet_nil ?_;intro w3 hw3;have HT3:=Lib.hid (HT.out.thenBelow hw3);have HH3:=Lib.hid (HH.out.below hw3);clear hw3;go_wp2_with fail
    obtain ⟨pp,qq,hex⟩:=HH3.out.exch HI.out.1 HI.out.2.1 (by have:=HI.out;omega) hxi hxp;have HEX:=Lib.hid hex;obtain ⟨hpp,hqq,c0,x0,x1,y0,y1,hfr,hgh,n0,n1,n2,-,-⟩:=hex;rw [HK.out] at c0;clear F;go_big_region
    all_goals
     clear c0 x0 x1 y0 y1 n0 n1 n2 hfr hgh;have hdone:=Lib.hid HEX.out.done;have hturn:=Lib.hid HEX.out.turn;go_wp2;refine ⟨⟨p,sw lk i p,rfl,?_,Lib.hid (by rw [sw_length];exact HK.out),?_,?_,Lib.hid ⟨?_,?_⟩⟩,?_⟩
     ·omega
     ·have:=hdone.out;rwa [sw_length,HK.out] at this
     ·exact HT3.out.trans hturn.out (fun _ _ e=>e)
     ·have:=HI.out;rw [this.2.2.2] at hxp ⊢;exact up_step HQ.out.1 h0 this.1 (by rw [hxi,hxp];exact hlt)
     ·exact (sw_perm HI.out.1 HI.out.2.1).trans HQ.out.2
     ·have:=HI.out;simp [intOf];omega
   ·have hlb:decide (LtI xi xp)=false:=decide_eq_false hlt;go_wp2_with fail
    refine wq Wr ?_;iterate 3 (refine qo (fun K hK=>?_);go_simp;refine hK _ ?_;clear hK K)
    refine qo (fun K hK=>?_) (fun w' hw'=>by obtain ⟨⟨c0,c1⟩,-,-,-⟩:=F.out w' hw';go_simp<;>rfl);go_simp;refine hK _ ?_;clear hK K;iterate 3 (refine qo (fun K hK=>?_);go_simp;refine hK _ ?_;clear hK K)
    refine qo (fun K hK=>?_) (fun w' hw'=>by obtain ⟨⟨c0,c1⟩,-,-,-⟩:=F.out w' hw';go_simp<;>rfl);go_simp;refine hK _ ?_;clear hK K;iterate 2 (refine qo (fun K hK=>?_);go_simp;refine hK _ ?_;clear hK K)
    refine qo (fun K hK=>?_) (fun w' hw'=>by obtain ⟨-,⟨c0,c1⟩,-,-⟩:=F.out w' hw';go_simp<;>rfl);go_simp;refine hK _ ?_;clear hK K;iterate 3 (refine qo (fun K hK=>?_);go_simp;refine hK _ ?_;clear hK K)
    refine qo (fun K hK=>?_) (fun w' hw'=>by obtain ⟨⟨c0,c1⟩,-,-,-⟩:=F.out w' hw';go_simp<;>rfl);go_simp;refine hK _ ?_;clear hK K;iterate 2 (refine qo (fun K hK=>?_);go_simp;refine hK _ ?_;clear hK K)
    refine qo (fun K hK=>?_) (fun w' hw'=>by obtain ⟨-,-,⟨c0,c1⟩,-⟩:=F.out w' hw';go_simp<;>rfl);go_simp;refine hK _ ?_;clear hK K;refine qc (fun w' hw'=>(F.out w' hw').2.2.2) (fun K hK=>?_);go_simp;refine hK _ ?_;clear hK K;refine qo (fun K hK=>?_);go_simp;refine hK _ ?_;clear hK K;refine wpQuiet_nil ?_;intro w3 hw3;have HT3:=Lib.hid (HT.out.thenBelow hw3);have HH3:=Lib.hid (HH.out.below hw3);clear hw3;go_wp2;go_returns
    exact ⟨lk,rfl,HQ.out.2,up_done HQ.out.1 (.inr (by have:=HI.out;rw [<- this.2.2.2,hxi,hxp];exact hlt)),by rw [<- HN.out,<- HK.out];exact HH3.out,HT3.out⟩
  ·have h0z:¬ (i:Int) > 0:=by omega
   go_wp2;go_returns
   exact ⟨lk,rfl,HQ.out.2,up_done HQ.out.1 (.inl (by omega)),by rw [<- HN.out,<- HK.out];exact HH.out,HT.out⟩
set_option maxRecDepth 100000 in
set_option maxHeartbeats 8000000 in
theorem down_any (h:HpAt w hb (.slice (some ⟨g,0,none⟩) l.length cap) l) (hu:HoleD l 0) (hl:l.length<=1000000) :
 Calls Tryz.prog 302 #[ptrTo hb, .int .i64 0] w (HpPost w hb g cap l):=by
 have H:=Lib.hid h;have HU:=Lib.hid hu;clear h hu;obtain ⟨N,hN⟩:∃ N,N=l.length:=⟨_,rfl⟩;rw [<- hN] at hl;have HN:=Lib.hid hN;clear hN;unfold ptrTo;go_enter Tryz.func302,Tryz.ntmps302
 go_wp2;go_loopw [1] (fun vi wr=>∃ (i:Nat) (lk:List Itm),vi=.int .i64 (i:Int)/\i<=N/\Hid (lk.length=N)/\HpAt wr hb (.slice (some ⟨g,0,none⟩) N cap) lk/\Turn (·=g) w wr/\Hid (HoleD lk i/\lk.Perm l)) (fun vi _=>N - (intOf vi).toNat)
 case atStart=>exact ⟨0,l,rfl,Nat.zero_le _,Lib.hid HN.out.symm,by rw [HN.out];exact H.out,Turn.refl _ _,Lib.hid ⟨HU.out,List.Perm.refl _⟩⟩
 case round=>
  obtain ⟨i,lk,rfl,hi,HK,hh,ht,HQ⟩:=hrel;generalize wr=Wr at *;have HH:Hid (HpAt Wr hb (.slice (some ⟨g,0,none⟩) lk.length cap) lk):=Lib.hid (by rw [HK.out];exact hh);have HT:=Lib.hid ht;have c0:=hh.cells.1;clear hh ht;obtain ⟨A,hA⟩:∃ x,x=2*i:=⟨_,rfl⟩;obtain ⟨B,hB⟩:∃ x,x=A+1:=⟨_,rfl⟩;obtain ⟨C,hC⟩:∃ x,x=B+1:=⟨_,rfl⟩;have wA:IntKind.i64.wrap (2*(i:Int))=(A:Int):=by rw [wrap_in]<;>omega
  have wB:IntKind.i64.wrap ((A:Int)+1)=(B:Int):=by rw [wrap_in]<;>omega
  have wC:IntKind.i64.wrap ((B:Int)+1)=(C:Int):=by rw [wrap_in]<;>omega
  have HE:Hid (B=2*i+1/\C=2*i+2):=Lib.hid (by omega);by_cases hB1:B < N
  ·have hBz:¬ (B:Int) >= (N:Int):=by omega
   have bB:(B:Int) < (N:Int):=by omega
   have bi:(i:Int) < (N:Int):=by omega
   have HB:Hid (B < lk.length/\i < lk.length/\i < B/\i < C):=Lib.hid (by have:=HK.out;omega);clear hA hB hC;have HSEL:∃ bb,Hid (bb=decide (C < N/\LtI (gI lk C) (gI lk B))):=⟨_,Lib.hid rfl⟩;obtain ⟨bb,HSEL⟩:=HSEL;go_upto_region 2 with fail
   go_cut [44] from 15 to 44 (fun vb wx=>vb=.bool bb/\Below Wr.heap.size Wr wx)
   case first=>
    clear H HU HT HQ;by_cases hC1:C < N
    ·have hCz:(C:Int) < (N:Int):=by omega
     have hCd:decide ((C:Int) < (N:Int))=true:=decide_eq_true hCz;have F:=Lib.hid (HH.out.reads (i:=C) (j:=B) (by have:=HK.out;omega) HB.out.1);rw [HK.out] at F;have HBB:Hid (bb=decide (LtI (gI lk C) (gI lk B))):=Lib.hid (by rw [HSEL.out];simp [hC1]);generalize gI lk C=xc at *;generalize gI lk B=xb at *;clear c0;refine wq Wr ?_;iterate 5 (refine qo (fun K hK=>?_);go_simp;refine hK _ ?_;clear hK K)
     refine qo (fun K hK=>?_) (fun w' hw'=>by obtain ⟨⟨c0,c1⟩,-,-,-⟩:=F.out w' hw';go_simp<;>rfl);go_simp;refine hK _ ?_;clear hK K;iterate 6 (refine qo (fun K hK=>?_);go_simp;refine hK _ ?_;clear hK K)
     refine qo (fun K hK=>?_) (fun w' hw'=>by obtain ⟨⟨c0,c1⟩,-,-,-⟩:=F.out w' hw';go_simp<;>rfl);go_simp;refine hK _ ?_;clear hK K;iterate 3 (refine qo (fun K hK=>?_);go_simp;refine hK _ ?_;clear hK K)
     refine qo (fun K hK=>?_) (fun w' hw'=>by obtain ⟨⟨c0,c1⟩,-,-,-⟩:=F.out w' hw';go_simp<;>rfl);go_simp;refine hK _ ?_;clear hK K;iterate 3 (refine qo (fun K hK=>?_);go_simp;refine hK _ ?_;clear hK K)
     refine qo (fun K hK=>?_) (fun w' hw'=>by obtain ⟨-,⟨c0,c1⟩,-,-⟩:=F.out w' hw';go_simp<;>rfl);go_simp;refine hK _ ?_;clear hK K;iterate 3 (refine qo (fun K hK=>?_);go_simp;refine hK _ ?_;clear hK K)
     refine qo (fun K hK=>?_) (fun w' hw'=>by obtain ⟨⟨c0,c1⟩,-,-,-⟩:=F.out w' hw';go_simp<;>rfl);go_simp;refine hK _ ?_;clear hK K;iterate 2 (refine qo (fun K hK=>?_);go_simp;refine hK _ ?_;clear hK K)
     refine qo (fun K hK=>?_) (fun w' hw'=>by obtain ⟨-,-,⟨c0,c1⟩,-⟩:=F.out w' hw';go_simp<;>rfl);go_simp;refine hK _ ?_;clear hK K;refine qc (fun w' hw'=>(F.out w' hw').2.2.2) (fun K hK=>?_);go_simp;refine hK _ ?_;clear hK K;refine qo (fun K hK=>?_);go_simp;refine hK _ ?_;clear hK K;refine wpQuiet_nil ?_;intro w3 hw3;go_wp2;go_meet
     exact ⟨by rw [HBB.out],hw3⟩
    ·have hCz:¬ (C:Int) < (N:Int):=by omega
     have hCd:decide ((C:Int) < (N:Int))=false:=decide_eq_false hCz;have HBB:Hid (bb=false):=Lib.hid (by rw [HSEL.out];simp [hC1]);go_quiet (fail)
     go_wp2;go_meet
     exact ⟨by rw [HBB.out],⟨rfl,rfl,rfl,Nat.le_refl _,fun _ _=>rfl⟩⟩
   case rest=>
    obtain ⟨rfl,hcut⟩:=hcut;have HT3:=Lib.hid (HT.out.thenBelow hcut);have HH3:=Lib.hid (HH.out.below hcut);clear hcut c0 HH HT;have HCC:∃ c,Hid (c < lk.length/\0 < c/\(c - 1) / 2=i/\i < c/\(c:Nat)=(if bb=true then C else B)/\∀ j,0 < j->j < lk.length->(j - 1) / 2=i->¬ LtI (gI lk j) (gI lk c)):=by
     have e1:=HE.out;have e2:=HB.out;have e3:=HSEL.out;have e4:=HK.out;cases bb with
     | true=>
       have:=of_decide_eq_true e3.symm;refine ⟨C,Lib.hid ⟨by omega,by omega,by omega,by omega,rfl,fun j h1 h2 h3=>?_⟩⟩;have:j=B\/j=C:=by omega
       rcases this with rfl | rfl
       ·exact LtI.asym (by assumption |> And.right)
       ·exact LtI.neg_irrefl _
     | false=>
       have:=of_decide_eq_false e3.symm;refine ⟨B,Lib.hid ⟨by omega,by omega,by omega,by omega,rfl,fun j h1 h2 h3=>?_⟩⟩;have hj:j=B\/j=C:=by omega
       rcases hj with rfl | rfl
       ·exact LtI.neg_irrefl _
       ·exact fun e=>this ⟨by omega,e⟩
    obtain ⟨c,HCC⟩:=HCC;go_upto_if 44 with fail
    go_cut [4] from 45 to 46 (fun vc wx=>vc=.int .i64 (c:Int)/\wx=wc)
    case first=>
     have e5:=HCC.out.2.2.2.2.1;cases bb with
     | true=>
       rw [if_pos rfl] at e5;subst e5;go_wp2;go_meet
       exact ⟨rfl,rfl⟩
     | false=>
       rw [if_neg (by decide)] at e5;subst e5;go_wp2;go_meet
       exact ⟨rfl,rfl⟩
    case rest=>
     obtain ⟨rfl,rfl⟩:=hcut;have bc:(c:Int) < (N:Int):=by have:=HCC.out;have:=HK.out;omega
     have F:=Lib.hid (HH3.out.reads (i:=c) (j:=i) HCC.out.1 HB.out.2.1);obtain ⟨xc,hxc⟩:∃ x,gI lk c=x:=⟨_,rfl⟩;obtain ⟨xi,hxi⟩:∃ x,gI lk i=x:=⟨_,rfl⟩;rw [hxc,hxi,HK.out] at F;generalize wc=w4 at *;by_cases hlt:LtI xc xi
     ·have hlb:decide (LtI xc xi)=true:=decide_eq_true hlt;go_wp2_with fail
      refine wq w4 ?_;iterate 3 (refine qo (fun K hK=>?_);go_simp;refine hK _ ?_;clear hK K)
      refine qo (fun K hK=>?_) (fun w' hw'=>by obtain ⟨⟨c0,c1⟩,-,-,-⟩:=F.out w' hw';go_simp<;>rfl);go_simp;refine hK _ ?_;clear hK K;iterate 3 (refine qo (fun K hK=>?_);go_simp;refine hK _ ?_;clear hK K)
      refine qo (fun K hK=>?_) (fun w' hw'=>by obtain ⟨⟨c0,c1⟩,-,-,-⟩:=F.out w' hw';go_simp<;>rfl);go_simp;refine hK _ ?_;clear hK K;iterate 2 (refine qo (fun K hK=>?_);go_simp;refine hK _ ?_;clear hK K)
      refine qo (fun K hK=>?_) (fun w' hw'=>by obtain ⟨-,⟨c0,c1⟩,-,-⟩:=F.out w' hw';go_simp<;>rfl);go_simp;refine hK _ ?_;clear hK K;iterate 3 (refine qo (fun K hK=>?_);go_simp;refine hK _ ?_;clear hK K)
      refine qo (fun K hK=>?_) (fun w' hw'=>by obtain ⟨⟨c0,c1⟩,-,-,-⟩:=F.out w' hw';go_simp<;>rfl);go_simp;refine hK _ ?_;clear hK K;iterate 2 (refine qo (fun K hK=>?_);go_simp;refine hK _ ?_;clear hK K)
      refine qo (fun K hK=>?_) (fun w' hw'=>by obtain ⟨-,-,⟨c0,c1⟩,-⟩:=F.out w' hw';go_simp<;>rfl);go_simp;refine hK _ ?_;clear hK K;refine qc (fun w' hw'=>(F.out w' hw').2.2.2) (fun K hK=>?_);go_simp;refine hK _ ?_;clear hK K;refine qo (fun K hK=>?_);go_simp;refine hK _ ?_;clear hK K;refine wpQuiet_nil ?_;intro w5 hw5;have HT5:=Lib.hid (HT3.out.thenBelow hw5);have HH5:=Lib.hid (HH3.out.below hw5);clear hw5;go_wp2_with fail
      obtain ⟨pp,qq,hex⟩:=HH5.out.exch HB.out.2.1 HCC.out.1 (by have:=HCC.out;omega) hxi hxc;have HEX:=Lib.hid hex;obtain ⟨hpp,hqq,c0,x0,x1,y0,y1,hfr,hgh,n0,n1,n2,-,-⟩:=hex;rw [HK.out] at c0;clear F;go_big_region
      all_goals
       clear c0 x0 x1 y0 y1 n0 n1 n2 hfr hgh;have hdone:=Lib.hid HEX.out.done;have hturn:=Lib.hid HEX.out.turn;go_wp2;refine ⟨⟨c,sw lk i c,rfl,?_,Lib.hid (by rw [sw_length];exact HK.out),?_,?_,Lib.hid ⟨?_,?_⟩⟩,?_⟩
       ·omega
       ·have:=hdone.out;rwa [sw_length,HK.out] at this
       ·exact HT5.out.trans hturn.out (fun _ _ e=>e)
       ·obtain ⟨k1,k2,k3,-,-,k6⟩:=HCC.out;exact down_step HQ.out.1 k2 k1 k3 (by rw [hxi,hxc];exact hlt) k6
       ·exact (sw_perm HB.out.2.1 HCC.out.1).trans HQ.out.2
       ·have:=HCC.out;simp [intOf];omega
     ·have hlb:decide (LtI xc xi)=false:=decide_eq_false hlt;go_wp2_with fail
      refine wq w4 ?_;iterate 3 (refine qo (fun K hK=>?_);go_simp;refine hK _ ?_;clear hK K)
      refine qo (fun K hK=>?_) (fun w' hw'=>by obtain ⟨⟨c0,c1⟩,-,-,-⟩:=F.out w' hw';go_simp<;>rfl);go_simp;refine hK _ ?_;clear hK K;iterate 3 (refine qo (fun K hK=>?_);go_simp;refine hK _ ?_;clear hK K)
      refine qo (fun K hK=>?_) (fun w' hw'=>by obtain ⟨⟨c0,c1⟩,-,-,-⟩:=F.out w' hw';go_simp<;>rfl);go_simp;refine hK _ ?_;clear hK K;iterate 2 (refine qo (fun K hK=>?_);go_simp;refine hK _ ?_;clear hK K)
      refine qo (fun K hK=>?_) (fun w' hw'=>by obtain ⟨-,⟨c0,c1⟩,-,-⟩:=F.out w' hw';go_simp<;>rfl);go_simp;refine hK _ ?_;clear hK K;iterate 3 (refine qo (fun K hK=>?_);go_simp;refine hK _ ?_;clear hK K)
      refine qo (fun K hK=>?_) (fun w' hw'=>by obtain ⟨⟨c0,c1⟩,-,-,-⟩:=F.out w' hw';go_simp<;>rfl);go_simp;refine hK _ ?_;clear hK K;iterate 2 (refine qo (fun K hK=>?_);go_simp;refine hK _ ?_;clear hK K)
      refine qo (fun K hK=>?_) (fun w' hw'=>by obtain ⟨-,-,⟨c0,c1⟩,-⟩:=F.out w' hw';go_simp<;>rfl);go_simp;refine hK _ ?_;clear hK K;refine qc (fun w' hw'=>(F.out w' hw').2.2.2) (fun K hK=>?_);go_simp;refine hK _ ?_;clear hK K;refine qo (fun K hK=>?_);go_simp;refine hK _ ?_;clear hK K;refine wpQuiet_nil ?_;intro w5 hw5;have HT5:=Lib.hid (HT3.out.thenBelow hw5);have HH5:=Lib.hid (HH3.out.below hw5);clear hw5;go_wp2;go_returns
      refine ⟨lk,rfl,HQ.out.2,down_done HQ.out.1 (fun j h1 h2 h3=>?_),by rw [<- HN.out,<- HK.out];exact HH5.out,HT5.out⟩;have:=HCC.out.2.2.2.2.2 j h1 h2 h3;rw [hxc] at this;rw [hxi];exact LtI.neg_trans hlt this
  ·have hBz:(B:Int) >= (N:Int):=by omega
   go_wp2;go_returns
   exact ⟨lk,rfl,HQ.out.2,down_done HQ.out.1 (fun j h1 h2 h3=>by have:=HK.out;omega),by rw [<- HN.out,<- HK.out];exact HH.out,HT.out⟩
end
end
section
open Go.RowKit Go.Maps
section
variable {w w' W:World} {hb g cap:Nat} {v v':Value} {l:List Itm}
theorem step_append_at {P:Program} {w:World} {ops:Array Oper} {o:Oper} {a:Act} {K:Act->World->Prop} {Q:Exit->Act->World->Prop} {E:Prop} (hg:o.guard=none) (s x:Operand) (t:TypeId)
 (ho:o.op=.call { callee:=.builtin .append,args:=#[s,x],argTypes:=#[t,t] })
 (base:Nat) (e:TypeId) (z:Value) (size bytes:Nat) (ht:P.underlying t=some (.slice e)) (hi:(P.info? e).map (fun i=>(i.zero,i.size,i.bytes))=some (some z,size,bytes)) (hzs:z.cells.size=size) (hsz:0 < size)
 (v:Value) (n:Nat) (xs:List Value) (hs:a.eval s=v) (hown:w.ownsRow base e size v n xs)
 (ad:Addr) (m c:Nat) (news:List Value) (hx:a.eval x=.slice (some ad) m c) (hl:news.length=m*size) (hnews:∀ j u,news[j]? = some u->w.cell? (ad.add j)=some u) (h1:∀ u∈news,u.oneCell'=true)
 (h63:n+m<=maxLen) (hbytes:(n+m)*bytes<=140737488355328) (hbase:base<=w.heap.size)
 (k:∀ v' w',w'.ownsRow base e size v' (n+m) (xs++news)->Appd v w w' v'->K (a.put o.dst v') w'):if Region.wanted o (yielded ops a.tmps)=true then Oper.wp P o a w K Q else E:=by
 have hw:Region.wanted o (yielded ops a.tmps)=true:=by simp [Region.wanted,hg]
 rw [if_pos hw];obtain ⟨i0,hi0,hz0,hz1,hz2⟩:=info_parts hi;obtain ⟨v',w',g1,g2,g3,g4,g5⟩:=run_append_own_at (P:=P) w base t o.type e i0 z size bytes ht hi0 hz0 hz1 hz2 hzs hsz v n xs hown ad m c news hl hnews h1 h63 hbytes hbase;unfold Oper.wp execOp;simp only [ho,resolve,invoke,builtin,Sem.run_bind,Sem.run_pure,Result.andThen_ok,List.map_toArray,List.map_cons,List.map_nil,hs,hx,g1];exact k v' w' g2 ⟨g3,g5⟩
theorem step_append_item {ops:Array Oper} {o:Oper} {a:Act} {w:World} {K:Act->World->Prop} {Q:Exit->Act->World->Prop} {E:Prop} (hgd:o.guard=none) (s x:Operand) (ho:o.op=.call { callee:=.builtin .append,args:=#[s,x],argTypes:=#[359,359] }) (v:Value) (l:List Itm) (hs:a.eval s=v) (hown:ownsItms w v l)
 (y:Itm) (xb c:Nat) (hx:a.eval x=.slice (some ⟨xb,0,none⟩) 1 c) (hxb:w.heap[xb]? = some (.cells #[.int .u64 (y.1:Int), .int .u32 (y.2:Int)] 357)) (hl:l.length<=100000)
 (k:∀ v' w',ownsItms w' v' (l++[y])->Appd v w w' v'->K (a.put o.dst v') w'):if Region.wanted o (yielded ops a.tmps)=true then Oper.wp Tryz.prog o a w K Q else E:=by
 refine step_append_at hgd s x 359 ho 0 357 _ 2 16 Tryz.underlying359 info_item rfl (by decide) v l.length (itmRow l) hs hown ⟨xb,0,none⟩ 1 c (Itm.cells y) hx rfl (fun j u hj=>?_) (by simp [Value.oneCell']) (by unfold maxLen;omega) (by omega) (Nat.zero_le _) (fun v' w' h1 h2=>k v' w' ?_ h2)
 ·rw [Addr_add,Nat.zero_add,cells_cell hxb];match j,hj with
  | 0,hj=>cases hj;rfl
  | 1,hj=>cases hj;rfl
  | j+2,hj=>cases hj
 ·unfold ownsItms;rw [itmRow_append,List.length_append];exact h1
theorem HpAt.appd {x:Itm} (h:HpAt W hb v l) (ha:Appd v W w' v') (hr:ownsItms w' v' (l++[x])) :
 w'.cell? ⟨hb,0,none⟩=some v/\w'.frozen? ⟨hb,0,none⟩=false/\HpAt (w'.setCell ⟨hb,0,none⟩ v') hb v' (l++[x])/\Turn (fun b=>b=hb\/v.ownBlock=some b) W (w'.setCell ⟨hb,0,none⟩ v')/\∀ b,v'.ownBlock=some b->v.ownBlock=some b\/W.heap.size<=b:=by
 obtain ⟨hg,hv⟩:=ha;have hlt:=h.lt;obtain ⟨⟨t,h1⟩,h2,h3⟩:=h;have e1:w'.heap[hb]? = some (.cells #[v,lessV] t):=by
  rw [hg.block hb hlt (fun e=>h3 e.symm)];exact h1
 have hnb:∀ b,v'.ownBlock=some b->v.ownBlock=some b\/W.heap.size<=b:=fun b hb'=>by
  rcases hv with e | e
  ·exact .inl (e ▸ hb')
  ·rw [e] at hb';cases hb';exact .inr (Nat.le_refl _)
 have hne:v'.ownBlock≠some hb:=fun e=>by
  rcases hnb hb e with e | e
  ·exact h3 e
  ·omega
 refine ⟨by rw [cells_cell e1];rfl,cells_frozen e1 _,⟨⟨t,cells_set e1 0 v'⟩,?_,hne⟩,?_,hnb⟩
 ·exact ownsRow_heap hr (fun x hx=>Below.heap_setCell _ _ _ _ (fun e=>hne (hx.trans (congrArg some e))))
 ·have ht:Turn (fun b=>b=hb\/v.ownBlock=some b) W w':=⟨hg.os,hg.tape,hg.output,hg.size,fun k hk hn=>hg.block k hk (fun e=>hn (.inr e.symm))⟩;exact ht.setCell _ _ (.inl (.inl rfl))
set_option maxRecDepth 100000 in
set_option maxHeartbeats 1000000 in
theorem heapLen_any (h:HpAt w hb v l):Calls Tryz.prog 300 #[ptrTo hb] w fun e w'=>e=.returned (.int .i64 (l.length:Int))/\w'=w:=by
 obtain ⟨a,c,rfl⟩:=ownsRow_slice h.row;have c0:=h.cells.1;clear h;unfold ptrTo;go_enter Tryz.func300,Tryz.ntmps300
 go_wp2;go_ret;exact ⟨rfl,rfl⟩
set_option maxRecDepth 100000 in
set_option maxHeartbeats 1000000 in
theorem heapNew_any (w:World):Calls Tryz.prog 242 #[] w fun e w'=>e=.returned (ptrTo w.heap.size)/\HpAt w' w.heap.size (.slice none 0 0) []/\Below w.heap.size w w'/\w.heap.size < w'.heap.size:=by
 unfold ptrTo;go_enter Tryz.func242,Tryz.ntmps242
 go_wp2;go_ret;refine ⟨rfl,⟨⟨_,heap_alloc_new _ _⟩,World.ownsRow_nil _ _ _ _,by simp [Value.ownBlock]⟩,(Below.refl _ _).alloc (Nat.le_refl _) _,by simp⟩
theorem itms_shape {x:Itm} (h:ownsItms w v (l++[x])):∃ g k M,Hid (M=l.length+1)/\v=.slice (some ⟨g,0,none⟩) M k:=by
 obtain ⟨-,⟨h1,h2⟩ | ⟨g,k,_,h1,_⟩⟩:=h
 ·simp at h2
 ·exact ⟨g,k,l.length+1,Lib.hid rfl,by rw [h1];simp⟩
def PushPost (w:World) (hb:Nat) (v:Value) (l:List Itm) (x:Itm) (e:Ending) (w':World):Prop:=
 ∃ v' l',e=.returned (.int .i64 0)/\HpAt w' hb v' l'/\Heaped l'/\l'.Perm (l++[x])/\Turn (fun b=>b=hb\/v.ownBlock=some b) w w'/\∀ b,v'.ownBlock=some b->v.ownBlock=some b\/w.heap.size<=b
set_option maxRecDepth 100000 in
set_option maxHeartbeats 4000000 in
theorem push_any (h:HpAt w hb v l) (hh:Heaped l) (x:Itm) (hl:l.length < 65536):Calls Tryz.prog 283 #[ptrTo hb,itmVal x] w (PushPost w hb v l x):=by
 obtain ⟨a,c,rfl⟩:=ownsRow_slice h.row;have H1:Hid (HpAt (w.alloc (.cells #[.int .u64 (x.1:Int), .int .u32 (x.2:Int)] 357)) hb (.slice a l.length c) l):=Lib.hid (h.below ((Below.refl _ _).alloc (Nat.le_refl _) _));have HX:Hid ((w.alloc (.cells #[.int .u64 (x.1:Int), .int .u32 (x.2:Int)] 357)).cell? ⟨w.heap.size,0,none⟩=some (.int .u64 (x.1:Int))/\(w.alloc (.cells #[.int .u64 (x.1:Int), .int .u32 (x.2:Int)] 357)).cell? ⟨w.heap.size,1,none⟩=some (.int .u32 (x.2:Int))):=Lib.hid (by simp);have HT:Hid (Turn (fun b=>b=hb\/(Value.slice a l.length c).ownBlock=some b) w (w.alloc (.cells #[.int .u64 (x.1:Int), .int .u32 (x.2:Int)] 357))):=Lib.hid ((Turn.refl _ w).alloc _);have HH:=Lib.hid hh;have hlen:=Lib.hid (heapLen_any H1.out);have hl':decide ((l.length:Int) >= 65536)=false:=decide_eq_false (by omega);have HL:=Lib.hid hl;clear h hh hl;unfold itmVal ptrTo PushPost at *;go_enter Tryz.func283,Tryz.ntmps283
 go_wp2_with fail
 refine hlen.out.mono ?_;rintro e w2 ⟨rfl,rfl⟩;clear hlen;generalize w.alloc (.cells #[.int .u64 (x.1:Int), .int .u32 (x.2:Int)] 357)=W1 at *;go_wp2_with fail
 have c0:=H1.out.cells.1;obtain ⟨x0,x1⟩:=HX.out;have hlt:=H1.out.lt;have hxlt:=World.block_lt_of_cell? _ _ x0;have f0:=H1.out.cells.2.2;have HB1:Hid (∀ ob,Below W1.heap.size W1 (W1.alloc ob).drew):=Lib.hid (fun ob=>((Below.refl _ _).alloc (Nat.le_refl _) ob).drew);go_region_law (refine step_append_item rfl _ _ rfl _ l rfl (World.ownsRow.alloc (World.ownsRow.drew H1.out.row) _) x _ 1 rfl (heap_alloc_new _ _) (by have:=HL.out;omega) ?_;intro v5 w5 h5 ha;obtain ⟨g5,k5,M,HM,rfl⟩:=itms_shape h5;obtain ⟨c5,f5,hp5,ht5,hn5⟩:=(H1.out.below (HB1.out _)).appd ha h5;have HA5:=Lib.hid (show _/\_/\_ from ⟨hp5,ht5,hn5⟩);clear hp5 ht5 hn5 ha h5)
 all_goals
  clear c0 x0 x1 hlt hxlt f0 c5 f5;have H5:Hid (HpAt (w5.setCell ⟨hb,0,none⟩ (.slice (some ⟨g5,0,none⟩) M k5)) hb (.slice (some ⟨g5,0,none⟩) (l++[x]).length k5) (l++[x])):=Lib.hid (by rw [show (l++[x]).length=M by rw [HM.out];simp];exact HA5.out.1);have HT5:=Lib.hid ((HT.out.thenBelow (HB1.out (.cells #[.int .u64 (x.1:Int), .int .u32 (x.2:Int)] 357))).trans HA5.out.2.1 (fun _ _ e=>e));have HN5:Hid (∀ b,g5=b->(Value.slice a l.length c).ownBlock=some b\/w.heap.size<=b):=Lib.hid (fun b hb=>(HA5.out.2.2 b (by rw [hb];rfl)).imp id (fun e=>Nat.le_trans (HT.out.thenBelow (HB1.out (.cells #[.int .u64 (x.1:Int), .int .u32 (x.2:Int)] 357))).size e));clear HA5 HB1 H1 HT HX;generalize w5.setCell ⟨hb,0,none⟩ (.slice (some ⟨g5,0,none⟩) M k5)=W5 at *;have hlen:=Lib.hid (fun W hW=>heapLen_any (w:=W) (H5.out.below (w':=W) hW));have hup:=Lib.hid (fun W hW=>up_any (w:=W) (i:=l.length) (H5.out.below (w':=W) hW) (by simp) (push_hole HH.out x) (by have:=HL.out;simp;omega));rw [show (l++[x]).length=M by rw [HM.out];simp] at hlen;have wl:IntKind.i64.wrap ((M:Int) - 1)=(l.length:Int):=by have:=HL.out;have:=HM.out;rw [wrap_in]<;>omega
  unfold ptrTo at *;go_wp2_with fail
  refine wp_region_quiet_tail (Below W5.heap.size W5) 6 (by kernel_rfl) (by kernel_rfl) ((Below.refl _ _).drew) ?_;simp only [List.take_succ_cons,List.take_zero,List.drop_succ_cons,List.drop_zero];iterate 4 (refine qo (fun K hK=>?_);go_simp;refine hK _ ?_;clear hK K)
  refine qc (fun w' hw'=>(hlen.out w' hw').mono (fun e w'' h=>⟨h.1,h.2 ▸ hw'⟩)) (fun K hK=>?_);go_simp;refine hK _ ?_;clear hK K;refine qo (fun K hK=>?_);go_simp;refine hK _ ?_;clear hK K;refine wpQuiet_nil ?_;intro w6 hw6;go_wp2_with fail
  refine (hup.out w6 hw6).mono ?_;rintro e w7 ⟨l7,rfl,hp7,hh7,ha7,ht7⟩;have HT7:=Lib.hid ((HT5.out.thenBelow hw6).trans ht7 (S:=fun b=>b=hb\/(Value.slice a l.length c).ownBlock=some b) (fun y hy e=>by
   rcases HN5.out y e.symm with h | h
   ·exact .inr h
   ·omega))
  clear hlen hup hw6 ht7 wl;have HA7:=Lib.hid ha7;clear ha7;go_wp2;go_ret;exact ⟨_,l7,rfl,HA7.out,hh7,hp7,HT7.out,fun b hb=>HN5.out b (by cases hb;rfl)⟩
theorem HpAt.shrink (h:HpAt W hb (.slice (some ⟨g,0,none⟩) l.length cap) l) (k:Nat) (hk:k<=l.length):HpAt (W.setCell ⟨hb,0,none⟩ (.slice (some ⟨g,0,none⟩) k cap)) hb (.slice (some ⟨g,0,none⟩) (l.take k).length cap) (l.take k):=by
 obtain ⟨⟨t,h1⟩,h2,h3⟩:=h;have e:(l.take k).length=k:=by rw [List.length_take];omega
 have hne:g≠hb:=fun e=>h3 (by rw [e];rfl);refine ⟨⟨t,?_⟩,?_,by rw [e];exact h3⟩
 ·rw [e];exact cells_set h1 0 _
 ·obtain ⟨hl,⟨h4,h5⟩ | ⟨g',cap',cur,h4,h5,h6,h7,h8,h9,h10⟩⟩:=h2
  ·cases h4
  ·cases h4;refine ⟨by rw [itmRow_length], .inr ⟨g,cap,cur,rfl,Nat.zero_le _,?_,by rw [e];omega,h8,h9,?_⟩⟩
   ·rw [Below.heap_setCell _ _ _ _ hne];exact h6
   ·rw [itmRow_take,<- h10,List.take_take,e];congr 1;omega
theorem HpAt.popped (h:HpAt W hb (.slice (some ⟨g,0,none⟩) l.length cap) l) (hl:0 < l.length) {y:Itm} (hy:gI l (l.length - 1)=y) :
 HpAt (((W.setCell ⟨g,0,none⟩ (.int .u64 (y.1:Int))).setCell ⟨g,1,none⟩ (.int .u32 (y.2:Int))).setCell ⟨hb,0,none⟩ (.slice (some ⟨g,0,none⟩) (l.length - 1) cap)) hb (.slice (some ⟨g,0,none⟩) (popL l).length cap) (popL l) /\
 Turn (fun b=>b=hb\/g=b) W (((W.setCell ⟨g,0,none⟩ (.int .u64 (y.1:Int))).setCell ⟨g,1,none⟩ (.int .u32 (y.2:Int))).setCell ⟨hb,0,none⟩ (.slice (some ⟨g,0,none⟩) (l.length - 1) cap)):=by
 subst hy;refine ⟨(h.put hl (gI l (l.length - 1))).shrink (l.length - 1) (by rw [List.length_set];omega),?_⟩;exact (((Turn.refl _ W).setCell _ _ (.inl (.inr rfl))).setCell _ _ (.inl (.inr rfl))).setCell _ _ (.inl (.inl rfl))
set_option maxRecDepth 100000 in
set_option maxHeartbeats 1000000 in
theorem popNone_any (h:HpAt w hb v []):Calls Tryz.prog 285 #[ptrTo hb] w fun e w'=>e=.returned (.tuple #[itmVal (0,0), .bool false])/\Below w.heap.size w w':=by
 have hlen:=Lib.hid (fun W hW=>heapLen_any (w:=W) (h.below (w':=W) hW));have HB:Hid (Below w.heap.size w (w.alloc (.cells #[.int .u64 0, .int .u32 0] 357))):=Lib.hid ((Below.refl _ _).alloc (Nat.le_refl _) _);clear h;unfold itmVal ptrTo at *;go_enter Tryz.func285,Tryz.ntmps285
 go_wp2_with fail
 refine (hlen.out _ HB.out).mono ?_;rintro e w2 ⟨rfl,rfl⟩;go_wp2;go_returns
 exact ⟨rfl,HB.out⟩
def PopPost (w:World) (hb:Nat) (v:Value) (l:List Itm) (e:Ending) (w':World):Prop:=
 ∃ v' l',e=.returned (.tuple #[itmVal (gI l 0), .bool true])/\HpAt w' hb v' l'/\Heaped l'/\(gI l 0::l').Perm l/\Turn (fun b=>b=hb\/v.ownBlock=some b) w w'/\v'.ownBlock=v.ownBlock
set_option maxRecDepth 100000 in
set_option maxHeartbeats 4000000 in
theorem pop_any (h:HpAt w hb v l) (hh:Heaped l) (h0:0 < l.length) (hl:l.length<=100000):Calls Tryz.prog 285 #[ptrTo hb] w (PopPost w hb v l):=by
 obtain ⟨g,cap,rfl⟩:∃ g cap,v=.slice (some ⟨g,0,none⟩) l.length cap:=by
  obtain ⟨-,⟨h1,h2⟩ | ⟨g,cap,_,h1,_⟩⟩:=h.row
  ·omega
  ·exact ⟨g,cap,h1⟩
 have HB:Hid (Below w.heap.size w (w.alloc (.cells #[.int .u64 0, .int .u32 0] 357))):=Lib.hid ((Below.refl _ _).alloc (Nat.le_refl _) _);have H1:=Lib.hid (h.below HB.out);have HR:Hid ((w.alloc (.cells #[.int .u64 0, .int .u32 0] 357)).heap[w.heap.size]? = some (.cells #[.int .u64 0, .int .u32 0] 357)):=Lib.hid (heap_alloc_new _ _);have hlen:=Lib.hid (heapLen_any H1.out);have HH:=Lib.hid hh;have HN:Hid (hb≠w.heap.size/\g≠w.heap.size/\hb < w.heap.size/\g < w.heap.size):=Lib.hid (by
  have h1:=h.lt;have h2:=(ownBlock_old h.row g rfl).1;omega)
 clear h hh;obtain ⟨M,hM⟩:∃ M,M=l.length - 1:=⟨_,rfl⟩;obtain ⟨N,hN⟩:∃ N,N=l.length:=⟨_,rfl⟩;have HMN:Hid (M=l.length - 1/\N=l.length/\M < l.length):=Lib.hid (by omega);have wM:IntKind.i64.wrap ((N:Int) - 1)=(M:Int):=by rw [wrap_in]<;>omega
 have b0:¬ (N:Int)=0:=by omega
 have b1:(0:Int) < (N:Int):=by omega
 have b2:(M:Int) < (N:Int):=by omega
 have b3:M<=N:=by omega
 rw [<- hN] at h0 hl hlen;unfold itmVal PopPost ptrTo at *;rw [<- hN];clear hM hN;go_enter Tryz.func285,Tryz.ntmps285
 go_wp2_with fail
 refine hlen.out.mono ?_;rintro e w2 ⟨rfl,rfl⟩;clear hlen;generalize w.alloc (.cells #[.int .u64 0, .int .u32 0] 357)=W1 at *;obtain ⟨c0,-,fh⟩:=H1.out.cells;obtain ⟨x0,x1⟩:=H1.out.item (i:=0) (by have:=HMN.out;omega);obtain ⟨y0,y1⟩:=H1.out.item (i:=M) HMN.out.2.2;obtain ⟨xx,hxx⟩:∃ x,gI l 0=x:=⟨_,rfl⟩;obtain ⟨yy,hyy⟩:∃ x,gI l M=x:=⟨_,rfl⟩;have hfr:=fun k=>World.ownsRow.frozenAt H1.out.row k;rw [hxx] at x0 x1;rw [hyy] at y0 y1;rw [<- HMN.out.2.1] at c0;rw [Nat.zero_mul] at x0 x1;obtain ⟨n1,n2,n3,n4⟩:=HN.out;have n6:=H1.out.lt;have b4:M<=cap:=by
  obtain ⟨-,⟨h,-⟩ | ⟨_,_,_,h,-,-,h7,-⟩⟩:=H1.out.row
  ·cases h
  ·cases h;have:=HMN.out;omega
 have n7:=(ownBlock_old H1.out.row g rfl).1;have n8:=(Array.getElem?_eq_some_iff.1 HR.out).1;have n5:hb≠g:=fun e=>H1.out.ne (by rw [e];rfl);go_wp2_with fail
 have hpp:=H1.out.popped (by have:=HMN.out;omega) (y:=yy) (by rw [<- HMN.out.1];exact hyy);rw [<- HMN.out.1] at hpp;obtain ⟨hp2,ht2⟩:=hpp;have HP2:=Lib.hid (hp2.below ((Below.refl _ _).alloc (Nat.le_refl _) (.cells #[.int .u64 (xx.1:Int), .int .u32 (xx.2:Int)] 357)));have HT2:=Lib.hid (ht2.alloc (.cells #[.int .u64 (xx.1:Int), .int .u32 (xx.2:Int)] 357));have HX2:Hid (((((W1.setCell ⟨g,0,none⟩ (.int .u64 (yy.1:Int))).setCell ⟨g,1,none⟩ (.int .u32 (yy.2:Int))).setCell ⟨hb,0,none⟩ (.slice (some ⟨g,0,none⟩) M cap)).alloc (.cells #[.int .u64 (xx.1:Int), .int .u32 (xx.2:Int)] 357)).heap[W1.heap.size]? = some (.cells #[.int .u64 (xx.1:Int), .int .u32 (xx.2:Int)] 357)):=Lib.hid (by
  have:=heap_alloc_new (((W1.setCell ⟨g,0,none⟩ (.int .u64 (yy.1:Int))).setCell ⟨g,1,none⟩ (.int .u32 (yy.2:Int))).setCell ⟨hb,0,none⟩ (.slice (some ⟨g,0,none⟩) M cap)) (.cells #[.int .u64 (xx.1:Int), .int .u32 (xx.2:Int)] 357);simpa using this)
 have HSZ:Hid (W1.heap.size < ((((W1.setCell ⟨g,0,none⟩ (.int .u64 (yy.1:Int))).setCell ⟨g,1,none⟩ (.int .u32 (yy.2:Int))).setCell ⟨hb,0,none⟩ (.slice (some ⟨g,0,none⟩) M cap)).alloc (.cells #[.int .u64 (xx.1:Int), .int .u32 (xx.2:Int)] 357)).heap.size):=Lib.hid (by simp);clear hp2 ht2 x0 x1 y0 y1 hfr c0 fh;generalize ((((W1.setCell ⟨g,0,none⟩ (.int .u64 (yy.1:Int))).setCell ⟨g,1,none⟩ (.int .u32 (yy.2:Int))).setCell ⟨hb,0,none⟩ (.slice (some ⟨g,0,none⟩) M cap)).alloc (.cells #[.int .u64 (xx.1:Int), .int .u32 (xx.2:Int)] 357))=W2 at *;refine (down_any HP2.out (popL_hole HH.out) (by rw [popL_length];have:=HMN.out;omega)).mono ?_;rintro e w3 ⟨l3,rfl,hp3,hh3,ha3,ht3⟩;have HA3:=Lib.hid ha3;have r0:w3.heap[W1.heap.size]? = some (.cells #[.int .u64 (xx.1:Int), .int .u32 (xx.2:Int)] 357):=(ht3.block _ HSZ.out (by omega)).trans HX2.out;have s0:w3.heap[w.heap.size]? = some (.cells #[.int .u64 0, .int .u32 0] 357):=(ht3.block _ (Nat.lt_trans n8 HSZ.out) (by omega)).trans ((HT2.out.block _ n8 (by omega)).trans HR.out);have HQ:Hid (HpAt ((w3.setCell ⟨w.heap.size,0,none⟩ (.int .u64 (xx.1:Int))).setCell ⟨w.heap.size,1,none⟩ (.int .u32 (xx.2:Int))) hb (.slice (some ⟨g,0,none⟩) (popL l).length cap) l3/\Turn (fun b=>b=hb\/(Value.slice (some ⟨g,0,none⟩) N cap).ownBlock=some b) w ((w3.setCell ⟨w.heap.size,0,none⟩ (.int .u64 (xx.1:Int))).setCell ⟨w.heap.size,1,none⟩ (.int .u32 (xx.2:Int)))/\(xx::l3).Perm l):=Lib.hid (by
  refine ⟨HA3.out.kept (fun b hb'=>?_),?_,(hp3.cons xx).trans (hxx ▸ popL_perm (by have:=HMN.out;omega))⟩
  ·have hne:b≠w.heap.size:=by
    rcases hb' with rfl | e
    ·exact n1
    ·cases e;exact n2
   rw [Below.heap_setCell _ _ _ _ hne,Below.heap_setCell _ _ _ _ hne]
  ·refine ((((Turn.ofBelow HB.out).trans HT2.out (fun b _ e=>?_)).trans ht3 (fun b _ e=>?_)).setCell _ _ (.inr (Nat.le_refl _))).setCell _ _ (.inr (Nat.le_refl _))
   ·exact e.imp id (fun e=>by rw [e];rfl)
   ·exact .inr (by rw [e];rfl))
 have q0:w3.cell? ⟨W1.heap.size,0,none⟩=some (.int .u64 (xx.1:Int)):=by rw [cells_cell r0];rfl
 have q1:w3.cell? ⟨W1.heap.size,1,none⟩=some (.int .u32 (xx.2:Int)):=by rw [cells_cell r0];rfl
 have q2:w3.cell? ⟨w.heap.size,0,none⟩=some (.int .u64 0):=by rw [cells_cell s0];rfl
 have q3:w3.cell? ⟨w.heap.size,1,none⟩=some (.int .u32 0):=by rw [cells_cell s0];rfl
 have q4:∀ k,w3.frozen? ⟨w.heap.size,k,none⟩=false:=fun k=>cells_frozen s0 k;have q5:=(Array.getElem?_eq_some_iff.1 s0).1;have q6:=(Array.getElem?_eq_some_iff.1 r0).1;have s1:=cells_set s0 0 (.int .u64 (xx.1:Int));have s2:=cells_set s1 1 (.int .u32 (xx.2:Int));have e0:(w3.setCell ⟨w.heap.size,0,none⟩ (.int .u64 (xx.1:Int))).cell? ⟨w.heap.size,0,none⟩=some (.int .u64 (xx.1:Int)):=by rw [cells_cell s1];rfl
 have e1:((w3.setCell ⟨w.heap.size,0,none⟩ (.int .u64 (xx.1:Int))).setCell ⟨w.heap.size,1,none⟩ (.int .u32 (xx.2:Int))).cell? ⟨w.heap.size,1,none⟩=some (.int .u32 (xx.2:Int)):=by rw [cells_cell s2];rfl
 clear s1 s2;have HH3:=Lib.hid hh3;have HXX:=Lib.hid hxx;clear ha3 hp3 ht3 r0 s0 HA3 HP2 HT2 HX2 H1 HR hh3 hxx HB HSZ;go_wp2;refine bodyPost_ret (by simp [results,Tryz.results285,go_sem,e0,e1];try rfl) rfl ?_;exact ⟨_,l3,by rw [HXX.out],HQ.out.1,HH3.out,by rw [HXX.out];exact HQ.out.2.2,HQ.out.2.1,rfl⟩
def PopE (w:World) (hb:Nat) (v:Value) (l:List Itm) (e:Ending) (w':World):Prop:=
 ∃ (ok:Bool) (x:Itm) (v':Value) (l':List Itm),e=.returned (.tuple #[itmVal x, .bool ok])/\HpAt w' hb v' l'/\Heaped l'/\Turn (fun b=>b=hb\/v.ownBlock=some b) w w'/\v'.ownBlock=v.ownBlock/\l'.length<=l.length/\if ok=true then (x::l').Perm l/\∀ y∈l',¬ LtI y x else l=[]/\l'=[]
theorem popE_any (h:HpAt w hb v l) (hh:Heaped l) (hl:l.length<=100000):Calls Tryz.prog 285 #[ptrTo hb] w (PopE w hb v l):=by
 rcases Nat.eq_zero_or_pos l.length with h0 | h0
 ·obtain rfl:=List.eq_nil_of_length_eq_zero h0;refine (popNone_any h).mono ?_;rintro e w' ⟨rfl,hb⟩;exact ⟨false,_,v,[],rfl,h.below hb,hh,Turn.ofBelow hb,rfl,Nat.le_refl _,by simp⟩
 ·refine (pop_any h hh h0 hl).mono ?_;rintro e w' ⟨v',l',rfl,h1,h2,h3,h4,h5⟩;refine ⟨true,_,v',l',rfl,h1,h2,h4,h5,by have:=h3.length_eq;simp at this;omega,?_⟩;rw [if_pos rfl];refine ⟨h3,fun y hy=>?_⟩;obtain ⟨j,hj⟩:=List.mem_iff_getElem?.1 (h3.mem_iff.1 (List.mem_cons_of_mem _ hy));have hlt:=(List.getElem?_eq_some_iff.1 hj).1;rw [<- gI_of hj];exact heap_min hh j hlt
end
end
section
open Go.RowKit Go.Maps
abbrev Far:=List (Nat × Nat)
def Waits (h:List Itm) (m:Far):Prop:=(∀ v d,mget m v=some d->(d,v)∈h)/\∀ y∈h,y.2 < 4294967296
def nextM:Far->Option (Nat × Nat)
 | []=>none
 | p::m=>match nextM m with
   | none=>some p
   | some q=>if LtI (p.2,p.1) (q.2,q.1) then some p else some q
theorem nextM_none {m:Far} (h:nextM m=none):m=[]:=by
 cases m with
 | nil=>rfl
 | cons p m=>
   rw [nextM] at h;split at h
   ·cases h
   ·split at h<;>cases h
theorem nextM_some {m:Far} {q:Nat × Nat} (h:nextM m=some q):q∈m/\∀ p∈m,¬ LtI (p.2,p.1) (q.2,q.1):=by
 induction m generalizing q with
 | nil=>cases h
 | cons p m ih=>
   rw [nextM] at h;split at h
   ·rename_i e
    cases h;rw [nextM_none e];refine ⟨by simp,fun x hx=>?_⟩;rw [List.mem_singleton.1 hx];exact LtI.neg_irrefl _
   ·rename_i q' e
    obtain ⟨h1,h2⟩:=ih e;split at h
    ·rename_i hl
     cases h;refine ⟨by simp,fun x hx=>?_⟩;rcases List.mem_cons.1 hx with rfl | hx
     ·exact LtI.neg_irrefl _
     ·exact LtI.neg_trans hl.asym (h2 x hx)
    ·rename_i hl
     cases h;refine ⟨by simp [h1],fun x hx=>?_⟩;rcases List.mem_cons.1 hx with rfl | hx
     ·exact hl
     ·exact h2 x hx
theorem nextM_of {m:Far} (hn:(m.map (·.1)).Nodup) {v d:Nat} (hm:mget m v=some d) (hl:∀ v' d',mget m v'=some d'->¬ LtI (d',v') (d,v)):nextM m=some (v,d):=by
 cases e:nextM m with
 | none=>rw [nextM_none e] at hm;cases hm
 | some q=>
   obtain ⟨h1,h2⟩:=nextM_some e;have h3:=hl q.1 q.2 (mget_of_mem hn h1);have h4:=h2 (v,d) (mget_mem hm);have:=LtI.eq h3 h4;rw [Prod.mk.injEq] at this;rw [<- this.1,<- this.2]
def comeM (m:Far) (v d:Nat):Far:=match mget m v with
 | some old=>if old<=d then m else mput m v d
 | none=>mput m v d
theorem waits_put {h h':List Itm} {m:Far} (hw:Waits h m) {v d:Nat} (hv:v < 4294967296) (hp:h'.Perm (h++[(d,v)])):Waits h' (mput m v d):=by
 refine ⟨fun v' d' hm=>?_,fun y hy=>?_⟩;rotate_left
 ·rcases List.mem_append.1 (hp.mem_iff.1 hy) with h | h
  ·exact hw.2 y h
  ·rw [List.mem_singleton.1 h];exact hv
 rw [mget_mput] at hm;refine hp.mem_iff.2 (List.mem_append.2 ?_);split at hm
 ·rename_i e
  cases hm;rw [e];exact .inr (by simp)
 ·exact .inl (hw.1 _ _ hm)
theorem waits_pop {h h':List Itm} {m:Far} (hw:Waits h m) {x:Itm} (hp:(x::h').Perm h):Waits h' (match mget m x.2 with | some d=>if d=x.1 then mdel m x.2 else m | none=>m):=by
 have key:∀ v d,mget m v=some d->¬ (v=x.2/\d=x.1)->(d,v)∈h':=by
  intro v d hm hne;rcases List.mem_cons.1 (hp.mem_iff.2 (hw.1 v d hm)) with e | e
  ·exact absurd ⟨by rw [<- e],by rw [<- e]⟩ hne
  ·exact e
 refine ⟨fun v d hm=>?_,fun y hy=>hw.2 y (hp.mem_iff.1 (List.mem_cons_of_mem _ hy))⟩;split at hm
 ·rename_i d0 e0
  split at hm
  ·rw [mget_mdel] at hm;split at hm
   ·cases hm
   ·rename_i hv
    exact key v d hm (fun h=>hv h.1)
  ·rename_i hd
   refine key v d hm (fun h=>hd ?_);rw [h.1,e0] at hm;cases hm;exact h.2
 ·rename_i e0
  refine key v d hm (fun h=>?_);rw [h.1,e0] at hm;cases hm
def relaxM (A:Nat->Bool) (S:List Nat) (dist:Nat) (m:Far) (es:List Edg):Far:=
 es.foldl (fun m x=>if dist+x.x.toNat < 9223372036854775808/\x.h.toNat ∉ S/\A x.h.toNat=false then comeM m x.h.toNat (dist+x.x.toNat) else m) m
def findM (E:Nat->List Edg) (A:Nat->Bool) (tgt most:Nat):Nat->Far->List Nat->Bool
 | 0,_,_=>false
 | k+1,m,S=>match nextM m with
   | none=>false
   | some (v,d)=>if most < d then false else if v=tgt then true else findM E A tgt most k (relaxM A (v::S) d (mdel m v) (E v)) (v::S)
def cutF (E:Nat->List Edg) (A:Nat->Bool) (v:UInt32) (a b:Edg):Option Edg:=
 let s:=a.x.toNat+b.x.toNat
 let A':Nat->Bool:=fun w=>w == v.toNat || A w
 if a.t.toNat=b.h.toNat\/A' a.t.toNat=true\/A' b.h.toNat=true\/¬ s < 9223372036854775808\/(∃ x∈E a.t.toNat,x.h.toNat=b.h.toNat/\x.x.toNat<=s)\/findM E A' b.h.toNat s 16 [(a.t.toNat,0)] []=true then none
 else some ⟨a.t,b.h,UInt64.ofNat s,v⟩
def cutsM (E:Nat->List Edg) (A:Nat->Bool) (ins:List Edg) (v:UInt32):List Edg:=ins.flatMap fun a=>(E v.toNat).filterMap (cutF E A v a)
end
section
open Go.RowKit Go.Maps
open Go.ChangeMaps (setBlock)
theorem keyed_u32:Keyed Tryz.prog 26:=int_keyed Tryz.underlying26
abbrev u32V (k:Nat):Value:=.int .u32 (k:Int)
abbrev u64V (k:Nat):Value:=.int .u64 (k:Int)
theorem u32_inj:∀ a b:Nat,u32V a=u32V b->a=b:=fun a b h=>by
 have:(a:Int)=(b:Int):=by injection h
 omega
theorem good_u32 {k:Nat} (h:k < 4294967296):Good Tryz.prog 26 (u32V k):=by
 refine ⟨.int .u32 (k:Int),?_⟩;unfold keyOf mapKey;rw [Tryz.underlying26];have:(Lit.int .u32 (k:Int)).wf=true:=by
  have h0:IntKind.u32.min=0:=rfl;have h1:IntKind.u32.max=4294967295:=rfl;simp [Lit.wf];omega
 simp [this]
abbrev FarAt (w:World) (b:Nat) (m:Far):Prop:=MapAt Tryz.prog 26 u32V u64V w b m
structure FrontIn (w:World) (fb hb mb:Nat) (v:Value) (h:List Itm) (m:Far):Prop where
 hd:w.heap[fb]? = some (.cells #[ptrTo hb, .map (some mb)] 325)
 hp:HpAt w hb v h
 hh:Heaped h
 far:FarAt w mb m
 n1:fb≠hb
 n2:fb≠mb
 n3:hb≠mb
 n4:v.ownBlock≠some fb
 n5:v.ownBlock≠some mb
def FrontAt (w:World) (fb:Nat) (B:Nat->Prop) (m:Far) (c:Nat):Prop:=
 ∃ hb mb v h,FrontIn w fb hb mb v h m/\Waits h m/\h.length<=c/\B fb/\B hb/\B mb/\∀ b,v.ownBlock=some b->B b
section
variable {w w' W:World} {fb hb mb c:Nat} {B:Nat->Prop} {v v':Value} {h h':List Itm} {m m':Far}
theorem FrontIn.lt (f:FrontIn w fb hb mb v h m):fb < w.heap.size/\hb < w.heap.size/\mb < w.heap.size/\∀ b,v.ownBlock=some b->b < w.heap.size:=
 ⟨(Array.getElem?_eq_some_iff.1 f.hd).1,f.hp.lt,f.far.lt,fun b hb=>(ownBlock_old f.hp.row b hb).1⟩
theorem FrontIn.kept (f:FrontIn w fb hb mb v h m) (hk:∀ b,b=fb\/b=hb\/b=mb\/v.ownBlock=some b->w'.heap[b]? = w.heap[b]?):FrontIn w' fb hb mb v h m:=
 ⟨(hk fb (.inl rfl)).trans f.hd,f.hp.kept (fun b hb=>hk b (hb.elim (fun e=>.inr (.inl e)) (fun e=>.inr (.inr (.inr e))))),f.hh,f.far.kept (hk mb (.inr (.inr (.inl rfl)))),f.n1,f.n2,f.n3,f.n4,f.n5⟩
theorem FrontIn.below (f:FrontIn w fb hb mb v h m) (hbl:Below w.heap.size w w'):FrontIn w' fb hb mb v h m:=by
 obtain ⟨l1,l2,l3,l4⟩:=f.lt;refine f.kept fun b hb=>hbl.block b ?_;rcases hb with rfl | rfl | rfl | e
 ·exact l1
 ·exact l2
 ·exact l3
 ·exact l4 b e
theorem FrontAt.kept (f:FrontAt w fb B m c) (hk:∀ b,B b->w'.heap[b]? = w.heap[b]?):FrontAt w' fb B m c:=by
 obtain ⟨hb,mb,v,h,f,hw,hc,b1,b2,b3,b4⟩:=f;refine ⟨hb,mb,v,h,f.kept fun b hb=>hk b ?_,hw,hc,b1,b2,b3,b4⟩;rcases hb with rfl | rfl | rfl | e
 ·exact b1
 ·exact b2
 ·exact b3
 ·exact b4 b e
theorem FrontIn.cells (f:FrontIn w fb hb mb v h m):w.cell? ⟨fb,0,none⟩=some (ptrTo hb)/\w.cell? ⟨fb,1,none⟩=some (.map (some mb)):=
 ⟨by rw [cells_cell f.hd];rfl,by rw [cells_cell f.hd];rfl⟩
theorem FrontIn.mapped (f:FrontIn w fb hb mb v h m) (ob:Obj) (hm:FarAt (setBlock w mb ob) mb m'):FrontIn (setBlock w mb ob) fb hb mb v h m'/\Turn (·=mb) w (setBlock w mb ob):=by
 have ht:∀ b,b≠mb->(setBlock w mb ob).heap[b]? = w.heap[b]? := fun b hb=>heap_setBlock_none ob hb;refine ⟨⟨(ht _ f.n2).trans f.hd,f.hp.kept (fun b hb=>ht b ?_),f.hh,hm,f.n1,f.n2,f.n3,f.n4,f.n5⟩,?_⟩
 ·rcases hb with rfl | e
  ·exact f.n3
  ·exact fun e'=>f.n5 (e' ▸ e)
 ·exact (Turn.refl _ w).setBlock _ _ (.inl rfl)
theorem FrontIn.turned (f:FrontIn w fb hb mb v h m) (hp:HpAt w' hb v' h') (hh:Heaped h') (ht:Turn (fun b=>b=hb\/v.ownBlock=some b) w w') (hn:∀ b,v'.ownBlock=some b->v.ownBlock=some b\/w.heap.size<=b):FrontIn w' fb hb mb v' h' m:=by
 obtain ⟨l1,l2,l3,l4⟩:=f.lt;have hk:∀ b,b < w.heap.size->b≠hb->v.ownBlock≠some b->w'.heap[b]? = w.heap[b]? := fun b h1 h2 h3=>ht.block b h1 (fun e=>e.elim h2 h3);refine ⟨(hk fb l1 f.n1 f.n4).trans f.hd,hp,hh,f.far.kept (hk mb l3 f.n3.symm f.n5),f.n1,f.n2,f.n3,fun e=>?_,fun e=>?_⟩
 ·rcases hn _ e with e | e
  ·exact f.n4 e
  ·omega
 ·rcases hn _ e with e | e
  ·exact f.n5 e
  ·omega
def ComePost (w:World) (fb:Nat) (B:Nat->Prop) (m:Far) (c:Nat) (e:Ending) (w':World):Prop:=
 e=.returned (.tuple #[])/\FrontAt w' fb (fun b=>B b\/w.heap.size<=b/\b < w'.heap.size) m (c+1)/\Turn B w w'
theorem zero_u64 (w:World):(zeroValue 62).run Tryz.prog w=.ok (.int .u64 0) w:=Tryz.zeroValue62 w
set_option maxRecDepth 100000 in
set_option maxHeartbeats 4000000 in
theorem come_any (hF:FrontAt w fb B m c) (hc:c < 65536) (x d:Nat) (hx:x < 4294967296):Calls Tryz.prog 243 #[ptrTo fb, .int .u32 (x:Int), .int .u64 (d:Int)] w (ComePost w fb B (comeM m x d) c):=by
 have HF0:=Lib.hid hF;obtain ⟨hb,mb,v,h,f,hw,hlc,b1,b2,b3,b4⟩:=hF;have F:=Lib.hid f;have HW:=Lib.hid hw;have HB:Hid (B fb/\B hb/\B mb/\∀ b,v.ownBlock=some b->B b):=Lib.hid ⟨b1,b2,b3,b4⟩;obtain ⟨c0,c1⟩:=f.cells;have HG:=Lib.hid (good_u32 hx);have HZ:=Lib.hid zero_u64;clear f hw b1 b2 b3 b4;unfold ptrTo ComePost at *;by_cases hold:∃ old,mget m x=some old/\old<=d
 ·obtain ⟨old,hm,hle⟩:=hold;have HM:=Lib.hid hm;have hlez:(old:Int)<=(d:Int):=by omega
  have HC:Hid (comeM m x d=m):=Lib.hid (by unfold comeM;rw [hm];exact if_pos hle);clear hm hle;go_enter Tryz.func243,Tryz.ntmps243
  go_wp2_with (at_lookup;refine wpList_look _ rfl _ _ _ _ rfl 62 keyed_u32 u32_inj Tryz.underlying323 (HZ.out _) mb m rfl F.out.far x rfl HG.out ?_;unfold mhas;rw [HM.out];simp only [Option.map_some,Option.getD_some,Option.isSome_some])
  go_returns
  exact ⟨rfl,by rw [HC.out];obtain ⟨hb,mb,v,h,f,hw,hlc,b1,b2,b3,b4⟩:=HF0.out;exact ⟨hb,mb,v,h,f,hw,by omega, .inl b1, .inl b2, .inl b3,fun b e=>.inl (b4 b e)⟩,Turn.refl _ _⟩
 ·have HC:Hid (comeM m x d=mput m x d):=Lib.hid (by
   unfold comeM;split
   ·rename_i old e
    rw [if_neg (fun hle=>hold ⟨old,e,hle⟩)]
   ·rfl)
  clear HF0;have HPU:Hid (∀ W,FrontIn W fb hb mb v h (mput m x d)->Calls Tryz.prog 283 #[ptrTo hb,itmVal (d,x)] W (PushPost W hb v h (d,x))):=Lib.hid (fun W f=>push_any f.hp f.hh (d,x) (by omega));unfold itmVal ptrTo at *;dsimp only at HPU;cases hm:mget m x;case' none=>
   have HM:=Lib.hid hm;clear hm hold;go_enter Tryz.func243,Tryz.ntmps243
   go_wp2_with (first | (at_lookup;refine wpList_look _ rfl _ _ _ _ rfl 62 keyed_u32 u32_inj Tryz.underlying323 (HZ.out _) mb m rfl F.out.far x rfl HG.out ?_;unfold mhas;rw [HM.out];simp only [Option.map_none,Option.getD_none,Option.isSome_none]) | (at_mapUpdate;refine wpList_put _ rfl _ _ _ _ rfl 62 keyed_u32 u32_inj Tryz.underlying323 mb m rfl F.out.far x d rfl rfl HG.out ?_;intro es clock hm2))
   clear HM
  case' some old=>
   have HM:=Lib.hid hm;have hlez:¬ (old:Int)<=(d:Int):=fun hle=>hold ⟨old,hm,by omega⟩;clear hm hold;go_enter Tryz.func243,Tryz.ntmps243
   go_wp2_with (first | (at_lookup;refine wpList_look _ rfl _ _ _ _ rfl 62 keyed_u32 u32_inj Tryz.underlying323 (HZ.out _) mb m rfl F.out.far x rfl HG.out ?_;unfold mhas;rw [HM.out];simp only [Option.map_some,Option.getD_some,Option.isSome_some]) | (at_mapUpdate;refine wpList_put _ rfl _ _ _ _ rfl 62 keyed_u32 u32_inj Tryz.underlying323 mb m rfl F.out.far x d rfl rfl HG.out ?_;intro es clock hm2))
   clear HM hlez
  all_goals
   obtain ⟨f2,ht2⟩:=F.out.mapped _ hm2;have F2:=Lib.hid f2;have HT2:Hid (Turn B w (setBlock w mb (.map es clock))):=Lib.hid (ht2.mono (fun b _ e=>e ▸ HB.out.2.2.1));have hs2:(setBlock w mb (.map es clock)).heap.size=w.heap.size:=by unfold setBlock;simp
   have HS2:=Lib.hid hs2;clear hm2 f2 ht2 c0 c1 F hs2;generalize setBlock w mb (.map es clock)=W2 at *;have F3:Hid (FrontIn (W2.alloc (.cells #[.int .u64 (d:Int), .int .u32 (x:Int)] 357)) fb hb mb v h (mput m x d)):=Lib.hid (F2.out.below ((Below.refl _ _).alloc (Nat.le_refl _) _));have HX3:Hid ((W2.alloc (.cells #[.int .u64 (d:Int), .int .u32 (x:Int)] 357)).cell? ⟨W2.heap.size,0,none⟩=some (.int .u64 (d:Int))/\(W2.alloc (.cells #[.int .u64 (d:Int), .int .u32 (x:Int)] 357)).cell? ⟨W2.heap.size,1,none⟩=some (.int .u32 (x:Int))):=Lib.hid (by simp);have HT3:Hid (Turn B w (W2.alloc (.cells #[.int .u64 (d:Int), .int .u32 (x:Int)] 357))):=Lib.hid (HT2.out.alloc _);clear HT2 F2;go_wp2_with fail
   generalize W2.alloc (.cells #[.int .u64 (d:Int), .int .u32 (x:Int)] 357)=W3 at *;refine wp_region_quiet_tail (Below W3.heap.size W3) 5 (by kernel_rfl) (by kernel_rfl) ((Below.refl _ _).drew) ?_;simp only [List.take_succ_cons,List.take_zero,List.drop_succ_cons,List.drop_zero];iterate 3 (refine qo (fun K hK=>?_);go_simp;refine hK _ ?_;clear hK K)
   refine qo (fun K hK=>?_) (fun w' hw'=>by have c0:=(F3.out.below hw').cells.1;unfold ptrTo at c0;go_simp<;>rfl);go_simp;refine hK _ ?_;clear hK K;refine qo (fun K hK=>?_) (fun w' hw'=>by have c0:=cellB hw' HX3.out.1;have c1:=cellB hw' HX3.out.2;go_simp<;>rfl);go_simp;refine hK _ ?_;clear hK K;refine wpQuiet_nil ?_;intro w4 hw4;have F4:=Lib.hid (F3.out.below hw4);have HT4:=Lib.hid (HT3.out.thenBelow hw4);have hpu:=Lib.hid (HPU.out _ F4.out);clear hw4 F3 HT3 HX3;go_wp2_with fail
   refine hpu.out.mono ?_;rintro e w5 ⟨v5,h5,rfl,hp5,hh5,hpm5,ht5,hn5⟩;have HQ:Hid (FrontAt w5 fb (fun b=>B b\/w.heap.size<=b/\b < w5.heap.size) (mput m x d) (c+1)/\Turn B w w5):=Lib.hid (by
    obtain ⟨b1,b2,b3,b4⟩:=HB.out;refine ⟨⟨hb,mb,v5,h5,F4.out.turned hp5 hh5 ht5 hn5,waits_put HW.out hx hpm5,?_, .inl b1, .inl b2, .inl b3,fun b e=>?_⟩,HT4.out.trans ht5 (fun b _ e=>?_)⟩
    ·rw [hpm5.length_eq,List.length_append];simp;omega
    ·exact (hn5 b e).imp (b4 b) (fun e'=>⟨Nat.le_trans HT4.out.size e',(ownBlock_old hp5.row b e).1⟩)
    ·rcases e with rfl | e
     ·exact b2
     ·exact b4 b e)
   clear hp5 hh5 hpm5 ht5 hn5 hpu F4 HT4;go_wp2;go_returns
   exact ⟨rfl,by rw [HC.out];exact HQ.out.1,HQ.out.2⟩
def LeastPost (w:World) (fb:Nat) (B:Nat->Prop) (m:Far) (c:Nat) (e:Ending) (w':World):Prop:=
 (nextM m=none/\e=.returned (.tuple #[.int .u32 0, .int .u64 0, .bool false])/\Turn B w w') \/
 ∃ x d,nextM m=some (x,d)/\e=.returned (.tuple #[.int .u32 (x:Int), .int .u64 (d:Int), .bool true])/\FrontAt w' fb B (mdel m x) c/\Turn B w w'
def lenV:Option Value->Nat
 | some (.slice _ n _)=>n
 | _=>0
def boolN:Value->Nat
 | .bool true=>1
 | _=>0
theorem HpAt.lenV (hp:HpAt w hb v h):lenV (w.cell? ⟨hb,0,none⟩)=h.length:=by
 obtain ⟨a,k,rfl⟩:=ownsRow_slice hp.row;rw [hp.cells.1];rfl
theorem far_none (hk:(m.map (·.1)).Nodup) (hw:Waits [] m):m=[]:=by
 cases m with
 | nil=>rfl
 | cons p m=>exact absurd (hw.1 p.1 p.2 (mget_of_mem hk (by simp))) (by simp)
structure Popped (w:World) (fb hb mb:Nat) (v0:Value) (B:Nat->Prop) (m:Far) (c xb:Nat) (ok:Bool) (x:Itm) (v:Value) (h:List Itm) (W:World):Prop where
 cs:W.heap[xb]? = some (.cells #[.int .u64 (x.1:Int), .int .u32 (x.2:Int)] 357)
 ge:w.heap.size<=xb
 fr:FrontIn W fb hb mb v h m
 ow:v.ownBlock=v0.ownBlock
 tn:Turn B w W
 ln:h.length<=c
 yes:ok=true->Waits (x::h) m/\∀ y∈h,¬ LtI y x
 no:ok=false->h=[]/\m=[]
section
variable {v0:Value} {xb:Nat} {ok:Bool} {x:Itm}
theorem Popped.of (hk:(m.map (·.1)).Nodup) (f:FrontIn W fb hb mb v h m) (hw:Waits h m) (ho:v.ownBlock=v0.ownBlock) (ht:Turn B w W) (hl:h.length<=c) (hB:B hb/\∀ b,v0.ownBlock=some b->B b) {ok:Bool} {x:Itm} {v':Value} {l':List Itm} {w1 w2:World}
 (p1:HpAt w1 hb v' l') (p2:Heaped l') (p3:Turn (fun b=>b=hb\/v.ownBlock=some b) W w1) (p4:v'.ownBlock=v.ownBlock) (p5:l'.length<=h.length) (p6:if ok=true then (x::l').Perm h/\∀ y∈l',¬ LtI y x else h=[]/\l'=[])
 (hc:w2.heap[xb]? = some (.cells #[.int .u64 (x.1:Int), .int .u32 (x.2:Int)] 357)) (hge:w.heap.size<=xb) (hx:∀ b,b=fb\/b=hb\/b=mb\/v0.ownBlock=some b->b≠xb) (ht2:Turn (·=xb) w1 w2):Popped w fb hb mb v0 B m c xb ok x v' l' w2:=by
 have f1:=f.turned p1 p2 p3 (fun b e=>.inl (p4 ▸ e));obtain ⟨l1,l2,l3,l4⟩:=f1.lt;refine ⟨hc,hge,f1.kept (fun b hb'=>ht2.block b ?_ (hx b ?_)),p4.trans ho,(ht.trans p3 (fun b _ e=>?_)).trans ht2 (fun b hb e=>?_),Nat.le_trans p5 hl,fun e=>?_,fun e=>?_⟩
 ·rcases hb' with rfl | rfl | rfl | e
  ·exact l1
  ·exact l2
  ·exact l3
  ·exact l4 b e
 ·rw [p4,ho] at hb';exact hb'
 ·rcases e with rfl | e
  ·exact hB.1
  ·exact hB.2 b (ho ▸ e)
 ·omega
 ·rw [if_pos e] at p6;exact ⟨⟨fun v d hm=>p6.1.mem_iff.2 (hw.1 v d hm),fun y hy=>hw.2 y (p6.1.mem_iff.1 hy)⟩,p6.2⟩
 ·rw [if_neg (by rw [e];decide)] at p6;obtain ⟨rfl,rfl⟩:=p6;exact ⟨rfl,far_none hk hw⟩
set_option maxRecDepth 100000 in
set_option maxHeartbeats 8000000 in
theorem least_any (hF:FrontAt w fb B m c) (hc:c<=65536):Calls Tryz.prog 244 #[ptrTo fb] w (LeastPost w fb B m c):=by
 obtain ⟨hb,mb,v0,h0,f,hw,hlc,b1,b2,b3,b4⟩:=hF;have HK:Hid ((m.map (·.1)).Nodup):=Lib.hid f.far.keys;have HB:Hid (B fb/\B hb/\B mb/\∀ b,v0.ownBlock=some b->B b):=Lib.hid ⟨b1,b2,b3,b4⟩;have HLT:=Lib.hid f.lt;have HPOP:Hid (∀ W v h,FrontIn W fb hb mb v h m->h.length<=c->Calls Tryz.prog 285 #[ptrTo hb] W (PopE W hb v h)):=Lib.hid (fun W v h f hl=>popE_any f.hp f.hh (by omega));have F:=Lib.hid f;have hpop:=Lib.hid (HPOP.out _ _ _ f hlc);obtain ⟨c0,c1⟩:=f.cells;have HZ:=Lib.hid zero_u64;have HAP:Hid (∀ xb,w.heap.size<=xb->∀ b,b=fb\/b=hb\/b=mb\/v0.ownBlock=some b->b≠xb):=Lib.hid (fun xb hxb b hb'=>by
  obtain ⟨l1,l2,l3,l4⟩:=HLT.out;rcases hb' with rfl | rfl | rfl | e
  ·omega
  ·omega
  ·omega
  ·have:=l4 b e;omega)
 have HOF:Hid (∀ {W:World} {v:Value} {h:List Itm} {xb:Nat} {ok:Bool} {x:Itm} {v':Value} {l':List Itm} {w1 w2:World},FrontIn W fb hb mb v h m->Waits h m->v.ownBlock=v0.ownBlock->Turn B w W->h.length<=c->HpAt w1 hb v' l'->Heaped l'->Turn (fun b=>b=hb\/v.ownBlock=some b) W w1->v'.ownBlock=v.ownBlock->l'.length<=h.length->(if ok=true then (x::l').Perm h/\∀ y∈l',¬ LtI y x else h=[]/\l'=[])->w2.heap[xb]? = some (.cells #[.int .u64 (x.1:Int), .int .u32 (x.2:Int)] 357)->w.heap.size<=xb->Turn (·=xb) w1 w2->Popped w fb hb mb v0 B m c xb ok x v' l' w2):=
  Lib.hid (fun f hw ho ht hl p1 p2 p3 p4 p5 p6 hc hge ht2=>Popped.of HK.out f hw ho ht hl ⟨HB.out.2.1,HB.out.2.2.2⟩ p1 p2 p3 p4 p5 p6 hc hge (HAP.out _ hge) ht2)
 have HW:=Lib.hid hw;clear f hw b1 b2 b3 b4;unfold itmVal ptrTo LeastPost PopE at *;go_enter Tryz.func244,Tryz.ntmps244
 go_wp2_with fail
 refine hpop.out.mono ?_;rintro e w1 ⟨ok,x,v1,h1,rfl,p1,p2,p3,p4,p5,p6⟩;have HP1:Hid (Popped w fb hb mb v0 B m c w1.heap.size ok x v1 h1 (w1.alloc (.cells #[.int .u64 (x.1:Int), .int .u32 (x.2:Int)] 357))):=Lib.hid (HOF.out F.out HW.out rfl (Turn.refl _ _) hlc p1 p2 p3 p4 p5 p6 (heap_alloc_new _ _) p3.size ((Turn.refl _ _).alloc _));clear p1 p2 p3 p4 p5 p6 hpop F HW c0 c1 hlc;go_wp2_with fail
 generalize hxb:w1.heap.size=xb1 at *;clear hxb;generalize w1.alloc (.cells #[.int .u64 (x.1:Int), .int .u32 (x.2:Int)] 357)=W1 at *;go_loopw [5,6] (fun v5 v6 wr=>∃ xb ok x v h,v5=.pointer (some ⟨xb,0,none⟩)/\v6=.bool ok/\Hid (Popped w fb hb mb v0 B m c xb ok x v h wr)) (fun _ v6 wr=>lenV (wr.cell? ⟨hb,0,none⟩)+boolN v6)
 case atStart=>exact ⟨_,ok,x,v1,h1,rfl,rfl,HP1⟩
 case round=>
  obtain ⟨xb,ok,x,v,h,rfl,rfl,HP⟩:=hrel;clear HP1;generalize wr=Wr at *;cases ok with
  | false=>
    obtain ⟨rfl,hm0⟩:=HP.out.no rfl;go_wp2;go_returns
    exact .inl ⟨by rw [hm0];rfl,rfl,HP.out.tn⟩
  | true=>
    obtain ⟨hw,hmin⟩:=HP.out.yes rfl;have HW:=Lib.hid hw;have HMIN:=Lib.hid hmin;have HG:=Lib.hid (good_u32 (hw.2 x (by simp)));have HLH:=Lib.hid HP.out.fr.hp.lenV;clear hw hmin;obtain ⟨D,b,HD,HL⟩:∃ (D:Nat) (b:Bool),Hid (mget m x.2=if b=true then some D else none)/\Hid (∀ w',Below Wr.heap.size Wr w'->Sem.run Tryz.prog (Instr.lookup 323 (.map (some mb)) (.int .u32 (x.2:Int)) true) w'=.ok (.tuple #[.int .u64 (D:Int), .bool b]) w'):=by
     have hl:=fun w' hw'=>(HP.out.fr.below (w':=w') hw').far.lookup keyed_u32 u32_inj Tryz.underlying323 (HZ.out w') x.2 HG.out true;cases e:mget m x.2 with
     | none=>exact ⟨0,false,Lib.hid (by simp),Lib.hid (fun w' hw'=>by have:=hl w' hw';unfold mhas at this;rw [e] at this;exact this)⟩
     | some D=>exact ⟨D,true,Lib.hid (by simp),Lib.hid (fun w' hw'=>by have:=hl w' hw';unfold mhas at this;rw [e] at this;exact this)⟩
    have HR:Hid (∀ w',Below Wr.heap.size Wr w'->w'.cell? ⟨fb,0,none⟩=some (.pointer (some ⟨hb,0,none⟩))/\w'.cell? ⟨fb,1,none⟩=some (.map (some mb))/\w'.cell? ⟨xb,0,none⟩=some (.int .u64 (x.1:Int))/\w'.cell? ⟨xb,1,none⟩=some (.int .u32 (x.2:Int))):=Lib.hid (fun w' hw'=>by
     have f:=HP.out.fr.below hw';have hcs:w'.heap[xb]? = some (.cells #[.int .u64 (x.1:Int), .int .u32 (x.2:Int)] 357):=(hw'.block _ (Array.getElem?_eq_some_iff.1 HP.out.cs).1).trans HP.out.cs;exact ⟨f.cells.1,f.cells.2,by rw [cells_cell hcs];rfl,by rw [cells_cell hcs];rfl⟩)
    have HXB:Hid (xb≠mb):=Lib.hid (by have:=HP.out.ge;have:=HLT.out;omega);by_cases hhit:b=true/\D=x.1
    ·obtain ⟨rfl,rfl⟩:=hhit;go_wp2_with fail
     refine wq Wr ?_;iterate 3 (refine qo (fun K hK=>?_);go_simp;refine hK _ ?_;clear hK K)
     refine qo (fun K hK=>?_) (fun w' hw'=>by obtain ⟨c0,c1,c2,c3⟩:=HR.out w' hw';go_simp<;>rfl);go_simp;refine hK _ ?_;clear hK K;refine qo (fun K hK=>?_);go_simp;refine hK _ ?_;clear hK K;refine qo (fun K hK=>?_) (fun w' hw'=>by obtain ⟨c0,c1,c2,c3⟩:=HR.out w' hw';go_simp<;>rfl);go_simp;refine hK _ ?_;clear hK K;refine qo (fun K hK=>?_) (fun w' hw'=>by have c4:=HL.out w' hw';go_simp<;>rfl);go_simp;refine hK _ ?_;clear hK K;iterate 5 (refine qo (fun K hK=>?_);go_simp;refine hK _ ?_;clear hK K)
     refine wpQuiet_nil ?_;intro w3 hw3;have HB3:=Lib.hid hw3;obtain ⟨c0,c1,c2,c3⟩:=HR.out w3 hw3;clear hw3;go_wp2_with fail
     clear c0 c1 c2 c3;refine wp_region_quiet_tail (Below w3.heap.size w3) 6 (by kernel_rfl) (by kernel_rfl) ((Below.refl _ _).drew) ?_;simp only [List.take_succ_cons,List.take_zero,List.drop_succ_cons,List.drop_zero];iterate 3 (refine qo (fun K hK=>?_);go_simp;refine hK _ ?_;clear hK K)
     refine qo (fun K hK=>?_) (fun w' hw'=>by obtain ⟨c0,c1,c2,c3⟩:=HR.out w' (HB3.out.trans (hw'.mono HB3.out.size));go_simp<;>rfl);go_simp;refine hK _ ?_;clear hK K;refine qo (fun K hK=>?_);go_simp;refine hK _ ?_;clear hK K;refine qo (fun K hK=>?_) (fun w' hw'=>by obtain ⟨c0,c1,c2,c3⟩:=HR.out w' (HB3.out.trans (hw'.mono HB3.out.size));go_simp<;>rfl);go_simp;refine hK _ ?_;clear hK K;refine wpQuiet_nil ?_;intro w4 hw4;have HB4:=Lib.hid (HB3.out.trans (hw4.mono HB3.out.size));clear hw4;have F4:=Lib.hid (HP.out.fr.below HB4.out);go_wp2_with (at_delete;refine wpList_del _ rfl _ _ _ rfl 62 keyed_u32 u32_inj Tryz.underlying323 mb m rfl F4.out.far x.2 rfl HG.out ?_;intro es clock hm5;obtain ⟨f5,ht5⟩:=F4.out.mapped _ hm5;have F5:=Lib.hid f5;have HT5:=Lib.hid ((HP.out.tn.thenBelow HB4.out).trans ht5 (fun b _ e=>e ▸ HB.out.2.2.1));have c3:(setBlock w4 mb (.map es clock)).cell? ⟨xb,1,none⟩=some (.int .u32 (x.2:Int)):=(by rw [World.cell?_of_block (a:=⟨xb,1,none⟩) (heap_setBlock_none (w:=w4) (b:=mb) (.map es clock) HXB.out)];exact (HR.out w4 HB4.out).2.2.2);clear f5 ht5 hm5)
     generalize setBlock w4 mb (.map es clock)=W5 at *;have HQ:Hid (nextM m=some (x.2,x.1)/\FrontAt W5 fb B (mdel m x.2) c/\Turn B w W5):=Lib.hid (by
      have hm:mget m x.2=some x.1:=by rw [HD.out];rfl
      refine ⟨nextM_of HK.out hm (fun v' d' hm'=>?_),⟨hb,mb,v,h,F5.out,?_,HP.out.ln,HB.out.1,HB.out.2.1,HB.out.2.2.1,fun b e=>HB.out.2.2.2 b (HP.out.ow ▸ e)⟩,HT5.out⟩
      ·rcases List.mem_cons.1 (HW.out.1 _ _ hm') with e | e
       ·rw [e];exact LtI.neg_irrefl _
       ·exact HMIN.out _ e
      ·have:=waits_pop HW.out (List.Perm.refl (x::h));rw [hm] at this;simpa using this)
     clear F5 HT5 F4 HB4 HB3;go_returns
     exact .inr ⟨_,_,HQ.out.1,rfl,HQ.out.2.1,HQ.out.2.2⟩
    ·have HWM:Hid (Waits h m):=Lib.hid (by
      have:=waits_pop HW.out (List.Perm.refl (x::h));rw [HD.out] at this;cases b with
      | false=>exact this
      | true=>simpa [show ¬ D=x.1 from fun e=>hhit ⟨rfl,e⟩] using this)
     cases b;case' false=>skip
     case' true=>
      have hDz:¬ (D:Int)=(x.1:Int):=fun e=>hhit ⟨rfl,by omega⟩
     all_goals
      clear hhit;go_wp2_with fail
      refine wq Wr ?_;iterate 3 (refine qo (fun K hK=>?_);go_simp;refine hK _ ?_;clear hK K)
      refine qo (fun K hK=>?_) (fun w' hw'=>by obtain ⟨c0,c1,c2,c3⟩:=HR.out w' hw';go_simp<;>rfl);go_simp;refine hK _ ?_;clear hK K;refine qo (fun K hK=>?_);go_simp;refine hK _ ?_;clear hK K;refine qo (fun K hK=>?_) (fun w' hw'=>by obtain ⟨c0,c1,c2,c3⟩:=HR.out w' hw';go_simp<;>rfl);go_simp;refine hK _ ?_;clear hK K;refine qo (fun K hK=>?_) (fun w' hw'=>by have c4:=HL.out w' hw';go_simp<;>rfl);go_simp;refine hK _ ?_;clear hK K;iterate 5 (refine qo (fun K hK=>?_);go_simp;refine hK _ ?_;clear hK K)
      refine wpQuiet_nil ?_;intro w3 hw3;have F3:Hid (FrontIn (w3.alloc (.cells #[.int .u64 (x.1:Int), .int .u32 (x.2:Int)] 357)) fb hb mb v h m):=Lib.hid (HP.out.fr.below (hw3.alloc hw3.size _));have HT3:Hid (Turn B w (w3.alloc (.cells #[.int .u64 (x.1:Int), .int .u32 (x.2:Int)] 357))):=Lib.hid ((HP.out.tn.thenBelow hw3).alloc _);have HC3:Hid ((w3.alloc (.cells #[.int .u64 (x.1:Int), .int .u32 (x.2:Int)] 357)).heap[w3.heap.size]? = some (.cells #[.int .u64 (x.1:Int), .int .u32 (x.2:Int)] 357)):=Lib.hid (heap_alloc_new _ _);have HGE:Hid (w.heap.size<=w3.heap.size):=Lib.hid (Nat.le_trans HP.out.tn.size hw3.size);obtain ⟨c0,c1,c2,c3⟩:=HR.out w3 hw3;have hpop:=Lib.hid (HPOP.out _ _ _ F3.out HP.out.ln);have hflt:=(Array.getElem?_eq_some_iff.1 (HP.out.fr.below hw3).hd).1;clear hw3;go_wp2_with fail
      clear c0 c1 c2 c3 hflt;generalize hxs:w3.heap.size=xb2 at *;generalize w3.alloc (.cells #[.int .u64 (x.1:Int), .int .u32 (x.2:Int)] 357)=W4 at *;clear hxs;refine hpop.out.mono ?_;rintro e w5 ⟨ok,y,v5,h5,rfl,p1,p2,p3,p4,p5,p6⟩;have hx5:w5.heap[xb2]? = some (.cells #[.int .u64 (x.1:Int), .int .u32 (x.2:Int)] 357):=(p3.block xb2 (Array.getElem?_eq_some_iff.1 HC3.out).1 (fun e=>by
       rcases e with e | e
       ·exact HAP.out xb2 HGE.out hb (.inr (.inl rfl)) e.symm
       ·exact HAP.out xb2 HGE.out xb2 (.inr (.inr (.inr (HP.out.ow ▸ e)))) rfl)).trans HC3.out
      have s1:=cells_set hx5 0 (.int .u64 (y.1:Int));have s2:=cells_set s1 1 (.int .u32 (y.2:Int));have HP7:Hid (Popped w fb hb mb v0 B m c xb2 ok y v5 h5 ((w5.setCell ⟨xb2,0,none⟩ (.int .u64 (y.1:Int))).setCell ⟨xb2,1,none⟩ (.int .u32 (y.2:Int)))):=Lib.hid (HOF.out F3.out HWM.out HP.out.ow HT3.out HP.out.ln p1 p2 p3 p4 p5 p6 s2 HGE.out (((Turn.refl (·=xb2) w5).setCell ⟨xb2,0,none⟩ _ (.inl rfl)).setCell ⟨xb2,1,none⟩ _ (.inl rfl)));have HMS:Hid (lenV (((w5.setCell ⟨xb2,0,none⟩ (.int .u64 (y.1:Int))).setCell ⟨xb2,1,none⟩ (.int .u32 (y.2:Int))).cell? ⟨hb,0,none⟩)+boolN (.bool ok) < lenV (Wr.cell? ⟨hb,0,none⟩)+boolN (.bool true)):=Lib.hid (by
       rw [HP7.out.fr.hp.lenV,HLH.out];cases ok with
       | true=>
         have:=(p6.1).length_eq;simp at this;show h5.length+1 < h.length+1;omega
       | false=>
         have:=p6.2;subst this;show 0+0 < h.length+1;omega)
      have q0:w5.cell? ⟨xb2,0,none⟩=some (.int .u64 (x.1:Int)):=by rw [cells_cell hx5];rfl
      have q1:w5.cell? ⟨xb2,1,none⟩=some (.int .u32 (x.2:Int)):=by rw [cells_cell hx5];rfl
      have q2:∀ k,w5.frozen? ⟨xb2,k,none⟩=false:=fun k=>cells_frozen hx5 k;have q3:=(Array.getElem?_eq_some_iff.1 hx5).1;clear p1 p2 p3 p4 p5 p6 hx5 s1 s2 hpop F3 HT3 HC3 HLH;go_wp2;go_roundw
      case rel=>exact ⟨xb2,ok,y,v5,h5,rfl,rfl,HP7⟩
      case measure=>exact HMS.out
end
end
end
end Go.Proofs.YthkkgdpomhhjjaaGreatDoor
