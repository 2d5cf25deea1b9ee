/-
  Joined.
-/
import Derived.Test.YthkkgdpomhhjjaaGreatDoorCards
import Derived.Test.YthkkgdpomhhjjaaGreatDoorTie
import Derived.WalkKit
import Derived.ProofKit
import Derived.OpenShut
import Derived.Deep.DeepHandedRow
import Derived.Lib.LaidTab
import Derived.Lib.SmallJoins
import Derived.Maps.OwnSet
import Derived.Maps.RangeWalk
import Derived.StillTail
import Derived.Deep.Quiet
import Derived.Deep.QuietTactic
import Derived.BigQuiet
import Derived.Test.YthkkgdpomhhjjaaGreatDoorRows
import Derived.WalkSpells
import Derived.WalkLawsBesides
import Derived.Lib.Hide
import Derived.Handy
import Derived.IntWalk
import Derived.Deep.LoopGhost
import Derived.Deep.RegionHeld3
import Derived.Deep.DeepCutAuto
import Derived.Laws.Tables
import Derived.Deep.WholeRow
import Derived.Lib.AppendZerosOnto
import Derived.Maps.AppendAt
import Derived.Deep.MidRow
import Derived.Lib.ConvBytes
import Derived.DeepKeys4
namespace Go.Proofs.YthkkgdpomhhjjaaGreatDoor
section
open Go.RowKit Go.Maps Go.MapKept
open Go.ChangeMaps (setBlock map_eraseIdx modify_eq_set heap_setBlock_same heap_setBlock_other)
section
variable {κ υ:Type} [DecidableEq κ]
def mget (m:List (κ × υ)) (k:κ):Option υ:=(m.find? (fun p=>p.1=k)).map (·.2)
def mhas (m:List (κ × υ)) (k:κ):Bool:=(mget m k).isSome
def mdel (m:List (κ × υ)) (k:κ):List (κ × υ):=m.filter fun p=>p.1≠k
def mput (m:List (κ × υ)) (k:κ) (v:υ):List (κ × υ):=(k,v)::mdel m k
theorem mget_none {m:List (κ × υ)} {k:κ}:mget m k=none ↔ ∀ p∈m,p.1≠k:=by
 unfold mget;simp [Option.map_eq_none_iff,List.find?_eq_none]
theorem mget_mem {m:List (κ × υ)} {k:κ} {v:υ} (h:mget m k=some v):(k,v)∈m:=by
 unfold mget at h;simp only [Option.map_eq_some_iff] at h;obtain ⟨p,hp1,rfl⟩:=h;have hpk:=List.find?_some hp1;simp only [decide_eq_true_eq] at hpk;have:=List.mem_of_find?_eq_some hp1;rw [<- hpk];exact this
theorem mget_of_mem {m:List (κ × υ)} (hn:(m.map (·.1)).Nodup) {k:κ} {v:υ} (hp:(k,v)∈m):mget m k=some v:=by
 induction m with
 | nil=>cases hp
 | cons q m ih=>
   simp only [List.map_cons,List.nodup_cons] at hn;rcases List.mem_cons.1 hp with rfl | hp
   ·simp [mget]
   ·have hne:q.1≠k:=fun e=>hn.1 (by rw [e];exact List.mem_map.2 ⟨_,hp,rfl⟩);have:=ih hn.2 hp;unfold mget at this ⊢;rw [List.find?_cons_of_neg (by simpa using hne)];exact this
theorem mget_perm {m m':List (κ × υ)} (hn:(m.map (·.1)).Nodup) (hp:m.Perm m') (k:κ):mget m k=mget m' k:=by
 have hn':(m'.map (·.1)).Nodup:=(hp.map _).nodup_iff.1 hn;cases h:mget m k with
 | none=>
   refine (mget_none.2 fun p hm=>mget_none.1 h p (hp.mem_iff.2 hm)).symm
 | some v=>exact (mget_of_mem hn' (hp.mem_iff.1 (mget_mem h))).symm
theorem mdel_perm {m m':List (κ × υ)} (hp:m.Perm m') (k:κ):(mdel m k).Perm (mdel m' k):=hp.filter _
theorem mput_perm {m m':List (κ × υ)} (hp:m.Perm m') (k:κ) (v:υ):(mput m k v).Perm (mput m' k v):=(mdel_perm hp k).cons _
theorem mdel_all {m:List (κ × υ)} {k:κ} (h:∀ p∈m,p.1≠k):mdel m k=m:=List.filter_eq_self.2 (fun p hp=>by simpa using h p hp)
theorem mdel_keys {m:List (κ × υ)} {k:κ} (hn:(m.map (·.1)).Nodup):((mdel m k).map (·.1)).Nodup:=(List.filter_sublist.map _).nodup hn
theorem mput_keys {m:List (κ × υ)} {k:κ} {v:υ} (hn:(m.map (·.1)).Nodup):((mput m k v).map (·.1)).Nodup:=by
 unfold mput;rw [List.map_cons,List.nodup_cons];refine ⟨fun h=>?_,mdel_keys hn⟩;obtain ⟨p,hp,e⟩:=List.mem_map.1 h;simp [mdel] at hp;exact hp.2 e
theorem mget_mdel (m:List (κ × υ)) (k k':κ):mget (mdel m k) k'=if k'=k then none else mget m k':=by
 unfold mget mdel;rw [List.find?_filter];by_cases h:k'=k
 ·rw [if_pos h,Option.map_eq_none_iff,List.find?_eq_none];intro p _;subst h;simp
 ·rw [if_neg h];congr 1;congr 1;funext p
  by_cases hp:p.1=k'
  ·simp [hp,h]
  ·simp [hp]
theorem mget_mput (m:List (κ × υ)) (k:κ) (v:υ) (k':κ):mget (mput m k v) k'=if k'=k then some v else mget m k':=by
 by_cases h:k'=k
 ·subst h;simp [mput,mget]
 ·rw [if_neg h];have:=mget_mdel m k k';rw [if_neg h] at this;rw [<- this];unfold mget mput;rw [List.find?_cons_of_neg (by simpa using fun e=>h e.symm)]
theorem mem_mdel {m:List (κ × υ)} {k:κ} {p:κ × υ}:p∈mdel m k ↔ p∈m/\p.1≠k:=by simp [mdel]
theorem set_perm {m:List (κ × υ)} (hn:(m.map (·.1)).Nodup) {j:Nat} {p:κ × υ} (hp:m[j]? = some p) (v:υ):(m.set j (p.1,v)).Perm (mput m p.1 v):=by
 induction m generalizing j with
 | nil=>simp at hp
 | cons q m ih=>
   simp only [List.map_cons,List.nodup_cons] at hn;cases j with
   | zero=>
     simp only [List.getElem?_cons_zero,Option.some.injEq] at hp;subst hp;have:mdel (q::m) q.1=m:=by
      unfold mdel;rw [List.filter_cons_of_neg (by simp)];exact mdel_all (k:=q.1) (fun p hp e=>hn.1 (by rw [<- e];exact List.mem_map.2 ⟨p,hp,rfl⟩))
     unfold mput;rw [this];exact List.Perm.refl _
   | succ j=>
     simp only [List.getElem?_cons_succ] at hp;have hne:q.1≠p.1:=fun e=>hn.1 (by rw [e];exact List.mem_map.2 ⟨p,List.mem_of_getElem? hp,rfl⟩);have:=ih hn.2 hp;unfold mput mdel at this ⊢;rw [List.filter_cons_of_pos (by simpa using hne),List.set_cons_succ];exact (this.cons q).trans (List.Perm.swap _ _ _)
omit [DecidableEq κ] in
theorem perm_eraseIdx {α:Type} {l:List α} {j:Nat} {x:α} (h:l[j]? = some x):l.Perm (x::l.eraseIdx j):=by
 induction l generalizing j with
 | nil=>simp at h
 | cons q m ih=>
   cases j with
   | zero=>
     simp only [List.getElem?_cons_zero,Option.some.injEq] at h;subst h;exact List.Perm.refl _
   | succ j=>
     simp only [List.getElem?_cons_succ] at h;rw [List.eraseIdx_cons_succ];exact ((ih h).cons q).trans (List.Perm.swap _ _ _)
theorem erase_key {α β:Type} (f:α->β) (p:α->Bool) {l:List α} (hn:(l.map f).Nodup) {j:Nat} {x:α} (hx:l[j]? = some x) (hp:∀ y∈l,p y=true ↔ f y≠f x):l.eraseIdx j=l.filter p:=by
 induction l generalizing j with
 | nil=>simp at hx
 | cons q m ih=>
   simp only [List.map_cons,List.nodup_cons] at hn;cases j with
   | zero=>
     simp only [List.getElem?_cons_zero,Option.some.injEq] at hx;subst hx;rw [List.filter_cons_of_neg (by rw [hp q (by simp)];simp)];exact (List.filter_eq_self.2 (fun y (hy:y∈m)=>(hp y (by simp [hy])).2 (fun e=>hn.1 (by rw [<- e];exact List.mem_map.2 ⟨y,hy,rfl⟩)))).symm
   | succ j=>
     simp only [List.getElem?_cons_succ] at hx;have hne:f q≠f x:=fun e=>hn.1 (by rw [e];exact List.mem_map.2 ⟨x,List.mem_of_getElem? hx,rfl⟩);rw [List.filter_cons_of_pos ((hp q (by simp)).2 hne),List.eraseIdx_cons_succ,ih hn.2 hx (fun y hy=>hp y (by simp [hy]))]
theorem erase_eq {m:List (κ × υ)} (hn:(m.map (·.1)).Nodup) {j:Nat} {p:κ × υ} (hp:m[j]? = some p):m.eraseIdx j=mdel m p.1:=
 erase_key (·.1) _ hn hp (fun y _=>by simp)
end
section
variable {κ υ:Type} (P:Program) (kt:TypeId) (ek:κ->Value) (ev:υ->Value)
def Good (P:Program) (k:TypeId) (v:Value):Prop:=∃ l,keyOf P k v=some l
def Lie (es:Array MapEntry) (clock:Nat) (m:List (κ × υ)):Prop:=
 Stamped es clock/\es.toList.map (fun e=>(e.key,e.val))=m.map (fun p=>(ek p.1,ev p.2))/\∀ p∈m,Good P kt (ek p.1)
def MapAt (w:World) (b:Nat) (m:List (κ × υ)):Prop:=
 ∃ es clock l,w.heap[b]? = some (.map es clock)/\l.Perm m/\Lie P kt ek ev es clock l
def IterAt (w:World) (b r:Nat) (m todo:List (κ × υ)):Prop:=
 ∃ (es:Array MapEntry) (clock:Nat) (l:List (κ × υ)) (since:Nat) (seen:Array Nat) (c0:Nat) (t:List (κ × υ)),w.heap[b]? = some (.map es clock)/\l.Perm m/\Lie P kt ek ev es clock l /\
  w.heap[r]? = some (.mapIter (some b) since seen c0)/\(∀ x∈es.toList,x.born < since)/\since<=c0/\since<=clock /\
  (leftOf es seen).toList.map (fun e=>(e.key,e.val))=t.map (fun p=>(ek p.1,ev p.2))/\t.Perm todo/\t.Sublist l
variable {P kt ek ev}
variable {w w':World} {b r:Nat} {m todo:List (κ × υ)} {es:Array MapEntry} {clock:Nat}
theorem MapAt.lt (h:MapAt P kt ek ev w b m):b < w.heap.size:=by
 obtain ⟨es,clock,l,hb,_⟩:=h;exact (Array.getElem?_eq_some_iff.1 hb).1
theorem MapAt.kept (h:MapAt P kt ek ev w b m) (hb:w'.heap[b]? = w.heap[b]?):MapAt P kt ek ev w' b m:=by
 obtain ⟨es,clock,l,h1,h2⟩:=h;exact ⟨es,clock,l,hb.trans h1,h2⟩
theorem MapAt.perm {m':List (κ × υ)} (h:MapAt P kt ek ev w b m) (hp:m.Perm m'):MapAt P kt ek ev w b m':=by
 obtain ⟨es,clock,l,h1,h2,h3⟩:=h;exact ⟨es,clock,l,h1,h2.trans hp,h3⟩
theorem IterAt.map (h:IterAt P kt ek ev w b r m todo):MapAt P kt ek ev w b m:=by
 obtain ⟨es,clock,l,since,seen,c0,t,h1,h2,h3,_⟩:=h;exact ⟨es,clock,l,h1,h2,h3⟩
theorem IterAt.lt (h:IterAt P kt ek ev w b r m todo):r < w.heap.size:=by
 obtain ⟨es,clock,l,since,seen,c0,t,h1,h2,h3,h4,_⟩:=h;exact (Array.getElem?_eq_some_iff.1 h4).1
theorem IterAt.ne (h:IterAt P kt ek ev w b r m todo):r≠b:=by
 obtain ⟨es,clock,l,since,seen,c0,t,h1,h2,h3,h4,_⟩:=h;intro e;rw [e,h1] at h4;cases h4
theorem IterAt.kept (h:IterAt P kt ek ev w b r m todo) (hb:w'.heap[b]? = w.heap[b]?) (hr:w'.heap[r]? = w.heap[r]?):IterAt P kt ek ev w' b r m todo:=by
 obtain ⟨es,clock,l,since,seen,c0,t,h1,h2,h3,h4,h5⟩:=h;exact ⟨es,clock,l,since,seen,c0,t,hb.trans h1,h2,h3,hr.trans h4,h5⟩
theorem IterAt.left (h:IterAt P kt ek ev w b r m todo):w.rangeLeft b r=todo.length:=by
 obtain ⟨es,clock,l,since,seen,c0,t,h1,h2,h3,h4,_,_,_,h5,h6,_⟩:=h;simp only [World.rangeLeft,h1,h4];have:=congrArg List.length h5;simp only [List.length_map,Array.length_toList] at this;rw [this,h6.length_eq]
theorem MapAt.made (w:World) (P:Program) (kt:TypeId) (ek:κ->Value) (ev:υ->Value):MapAt P kt ek ev (w.alloc (.map #[] 0)) w.heap.size []:=
 ⟨#[],0,[],heap_alloc_new _ _, .refl _,⟨by simp,by simp,by simp⟩,rfl,by simp⟩
theorem pairs_get (h:es.toList.map (fun e=>(e.key,e.val))=m.map (fun p=>(ek p.1,ev p.2))) (j:Nat) :
 (es.toList[j]?).map (fun e=>(e.key,e.val))=(m[j]?).map (fun p=>(ek p.1,ev p.2)):=by
 rw [<- List.getElem?_map,<- List.getElem?_map,h]
theorem pairs_entry (h:es.toList.map (fun e=>(e.key,e.val))=m.map (fun p=>(ek p.1,ev p.2))) {j:Nat} {e:MapEntry} (he:es.toList[j]? = some e) :
 ∃ p,m[j]? = some p/\e.key=ek p.1/\e.val=ev p.2:=by
 have:=pairs_get h j;rw [he] at this;cases hm:m[j]? with
 | none=>rw [hm] at this;cases this
 | some p=>
   rw [hm] at this;simp only [Option.map_some,Option.some.injEq,Prod.mk.injEq] at this;exact ⟨p,rfl,this.1,this.2⟩
theorem pairs_pair (h:es.toList.map (fun e=>(e.key,e.val))=m.map (fun p=>(ek p.1,ev p.2))) {j:Nat} {p:κ × υ} (hp:m[j]? = some p) :
 ∃ e,es.toList[j]? = some e/\e.key=ek p.1/\e.val=ev p.2:=by
 have:=pairs_get h j;rw [hp] at this;cases he:es.toList[j]? with
 | none=>rw [he] at this;cases this
 | some e=>
   rw [he] at this;simp only [Option.map_some,Option.some.injEq,Prod.mk.injEq] at this;exact ⟨e,rfl,this.1,this.2⟩
theorem Lie.good (h:Lie P kt ek ev es clock m):∀ e∈es.toList,∃ l,keyOf P kt e.key=some l:=by
 intro e he;obtain ⟨j,hj⟩:=List.mem_iff_getElem?.1 he;obtain ⟨p,hp,hk,_⟩:=pairs_entry h.2.1 hj;rw [hk];exact h.2.2 p (List.mem_of_getElem? hp)
theorem Lie.keys (h:Lie P kt ek ev es clock m):(m.map (·.1)).Nodup:=by
 have e1:es.toList.map (·.key)=m.map (fun p=>ek p.1):=by
  have:=congrArg (List.map Prod.fst) h.2.1;simpa [List.map_map,Function.comp_def] using this
 have h1:=h.1.2.2;rw [e1] at h1;unfold List.Nodup at h1 ⊢;rw [List.pairwise_map] at h1 ⊢;exact h1.imp (fun hne e=>hne (by rw [e]))
theorem MapAt.keys (h:MapAt P kt ek ev w b m):(m.map (·.1)).Nodup:=by
 obtain ⟨es,clock,l,_,hp,hl⟩:=h;exact ((hp.map _).nodup_iff).1 hl.keys
theorem IterAt.sub (h:IterAt P kt ek ev w b r m todo):∀ p∈todo,p∈m:=by
 obtain ⟨es,clock,l,since,seen,c0,t,_,h2,hl,_,_,_,_,_,h6,h7⟩:=h;exact fun p hp=>h2.mem_iff.1 (h7.subset (h6.mem_iff.2 hp))
theorem IterAt.keys (h:IterAt P kt ek ev w b r m todo):(todo.map (·.1)).Nodup:=by
 obtain ⟨es,clock,l,since,seen,c0,t,_,_,hl,_,_,_,_,_,h6,h7⟩:=h;exact ((h6.map _).nodup_iff).1 ((h7.map _).nodup hl.keys)
theorem MapAt.good (h:MapAt P kt ek ev w b m):∀ p∈m,Good P kt (ek p.1):=by
 obtain ⟨es,clock,l,_,hp,hl⟩:=h;exact fun p hm=>hl.2.2 p (hp.mem_iff.2 hm)
variable [DecidableEq κ]
theorem Lie.find (h:Lie P kt ek ev es clock m) (K:Keyed P kt) (inj:∀ a b,ek a=ek b->a=b) (w:World) (k:κ) (hg:Good P kt (ek k)) :
 (mget m k=none/\(Instr.findKey kt (ek k) es.toList).run P w=.ok none w/\∀ e∈es.toList,e.key≠ek k) \/
 ∃ j e v,mget m k=some v/\(Instr.findKey kt (ek k) es.toList).run P w=.ok (some (j,ev v)) w/\es.toList[j]? = some e/\e.key=ek k/\m[j]? = some (k,v):=by
 obtain ⟨l,hl⟩:=hg;rcases K.find w hl es.toList h.good with ⟨h1,h2⟩ | ⟨j,e0,h1,h2,h3⟩
 ·refine Or.inl ⟨?_,h1,h2⟩;refine mget_none.2 fun p hp e=>?_;obtain ⟨j,hj⟩:=List.mem_iff_getElem?.1 hp;obtain ⟨e0,he,hk,_⟩:=pairs_pair h.2.1 hj;exact h2 e0 (List.mem_of_getElem? he) (by rw [hk,e])
 ·obtain ⟨p,hpj,hk,hv⟩:=pairs_entry h.2.1 h2;have hkp:p.1=k:=inj _ _ (by rw [<- hk,h3]);refine Or.inr ⟨j,e0,p.2,mget_of_mem h.keys (by rw [<- hkp];exact List.mem_of_getElem? hpj),by rw [h1,hv],h2,h3,by rw [hpj,<- hkp]⟩
theorem MapAt.lookup {t e:TypeId} (h:MapAt P kt ek ev w b m) (K:Keyed P kt) (inj:∀ a b,ek a=ek b->a=b) (ht:P.underlying t=some (.map kt e)) {z:Value} (hz:(zeroValue e).run P w=.ok z w) (k:κ) (hg:Good P kt (ek k)) (c:Bool) :
 (Instr.lookup t (.map (some b)) (ek k) c).run P w=.ok (if c then .tuple #[((mget m k).map ev).getD z, .bool (mhas m k)] else ((mget m k).map ev).getD z) w:=by
 obtain ⟨es,clock,l,hb,hp,hl⟩:=h;unfold mhas;rw [<- mget_perm hl.keys hp k];obtain ⟨lk,hlk⟩:=id hg;rcases hl.find K inj w k hg with ⟨h1,h2,h3⟩ | ⟨j,e0,v,h1,h2,h3,h4,h5⟩
 ·rw [h1];simp [Instr.lookup,run_underlying ht,MapKept.run_getObj_map hb,K.check w _ hlk,h2,hz,Result.andThen]
 ·rw [h1];simp [Instr.lookup,run_underlying ht,MapKept.run_getObj_map hb,K.check w _ hlk,h2,Result.andThen]
theorem MapAt.update {t e:TypeId} (h:MapAt P kt ek ev w b m) (K:Keyed P kt) (inj:∀ a b,ek a=ek b->a=b) (ht:P.underlying t=some (.map kt e)) (k:κ) (hg:Good P kt (ek k)) (v:υ) :
 ∃ es' clock',(Instr.mapUpdate t (.map (some b)) (ek k) (ev v)).run P w=.ok () (setBlock w b (.map es' clock'))/\MapAt P kt ek ev (setBlock w b (.map es' clock')) b (mput m k v):=by
 obtain ⟨es,clock,l,hb,hp,hl⟩:=h;obtain ⟨lk,hlk⟩:=id hg;rcases hl.find K inj w k hg with ⟨h1,h2,h3⟩ | ⟨j,e0,v0,h1,h2,h3,h4,h5⟩
 ·refine ⟨es.push ⟨ek k,ev v,clock⟩,clock+1,?_,_,_,l++[(k,v)],heap_setBlock_same hb _,?_,stamped_push hl.1 h3,?_,?_⟩
  ·simp [Instr.mapUpdate,run_underlying ht,MapKept.run_getObj_map hb,K.check w false hlk,h2,MapKept.run_setObj_map _ hb,Result.andThen,setBlock]
  ·refine (List.perm_append_singleton _ _).trans (List.Perm.trans ?_ (mput_perm hp k v));unfold mput;rw [mdel_all (mget_none.1 h1)]
  ·rw [Array.toList_push,List.map_append,List.map_append,hl.2.1];rfl
  ·intro p hpm;rcases List.mem_append.1 hpm with h | h
   ·exact hl.2.2 p h
   ·rw [List.mem_singleton.1 h];exact hg
 ·have hj:es[j]? = some e0:=by simpa using h3
  have hlist:(es.modify j (fun e'=>{ e' with key:=ek k,val:=ev v })).toList=es.toList.set j { e0 with key:=ek k,val:=ev v }:=by rw [Array.toList_modify,modify_eq_set _ _ _ _ h3]
  have hst:Stamped (es.modify j (fun e'=>{ e' with key:=ek k,val:=ev v })) clock:=by
   have e1:es.modify j (fun e'=>{ e' with key:=ek k,val:=ev v })=es.modify j (fun e'=>{ e' with val:=ev v }):=by
    apply Array.ext_getElem?;intro i;rw [Array.getElem?_modify,Array.getElem?_modify];by_cases hi:j=i
    ·subst hi;rw [if_pos rfl,if_pos rfl,hj];simp [h4]
    ·rw [if_neg hi,if_neg hi]
   rw [e1];exact stamped_modify hl.1 j _ (fun _ _=>rfl) (fun _ _ _=>rfl)
  refine ⟨es.modify j (fun e'=>{ e' with key:=ek k,val:=ev v }),clock,?_,_,_,l.set j (k,v),heap_setBlock_same hb _,?_,hst,?_,?_⟩
  ·simp [Instr.mapUpdate,run_underlying ht,MapKept.run_getObj_map hb,K.check w false hlk,h2,hj,h4,K.stays w hlk,MapKept.run_setObj_map _ hb,Result.andThen,setBlock]
  ·exact (set_perm hl.keys h5 v).trans (mput_perm hp k v)
  ·rw [hlist,List.map_set,List.map_set,hl.2.1]
  ·intro p hpm;rcases List.mem_or_eq_of_mem_set hpm with h | h
   ·exact hl.2.2 p h
   ·rw [h];exact hg
theorem Lie.drop {t e ty:TypeId} (hb:w.heap[b]? = some (.map es clock)) (hl:Lie P kt ek ev es clock m) (K:Keyed P kt) (inj:∀ a b,ek a=ek b->a=b) (ht:P.underlying t=some (.map kt e)) (k:κ) (hg:Good P kt (ek k)) :
 ∃ es',(Builtin.delete_ #[t,kt] ty #[.map (some b),ek k]).run P w=.ok (.tuple #[]) (setBlock w b (.map es' clock))/\Lie P kt ek ev es' clock (mdel m k)/\(∀ p:MapEntry->Bool,(∀ e∈es.toList,p e=true ↔ e.key≠ek k)->es'.toList=es.toList.filter p):=by
 obtain ⟨lk,hlk⟩:=id hg;rcases hl.find K inj w k hg with ⟨h1,h2,h3⟩ | ⟨j,e0,v0,h1,h2,h3,h4,h5⟩
 ·refine ⟨es,?_,?_,?_⟩
  ·simp [Builtin.delete_,run_underlying ht,MapKept.run_getObj_map hb,K.check w _ hlk,h2,MapKept.run_setObj_map _ hb,Result.andThen,setBlock]
  ·rw [mdel_all (mget_none.1 h1)];exact hl
  ·exact fun p hp=>(List.filter_eq_self.2 (fun x hx=>(hp x hx).2 (h3 x hx))).symm
 ·have hjl:j < es.toList.length:=(List.getElem?_eq_some_iff.1 h3).1;have hjs:j < es.size:=by simpa using hjl
  have hsub:(es.eraseIdxIfInBounds j).toList=es.toList.eraseIdx j:=by
   unfold Array.eraseIdxIfInBounds;rw [dif_pos hjs];simp
  refine ⟨es.eraseIdxIfInBounds j,?_,⟨stamped_erase hl.1 j,?_,?_⟩,?_⟩
  ·simp [Builtin.delete_,run_underlying ht,MapKept.run_getObj_map hb,K.check w _ hlk,h2,MapKept.run_setObj_map _ hb,Result.andThen,setBlock]
  ·rw [hsub,<- erase_eq hl.keys h5,map_eraseIdx,map_eraseIdx,hl.2.1]
  ·intro p hp;exact hl.2.2 p (mem_mdel.1 hp).1
  ·intro p hp;rw [hsub];exact erase_key (·.key) p hl.1.2.2 h3 (fun y hy=>by rw [h4];exact hp y hy)
theorem MapAt.delete {t e ty:TypeId} (h:MapAt P kt ek ev w b m) (K:Keyed P kt) (inj:∀ a b,ek a=ek b->a=b) (ht:P.underlying t=some (.map kt e)) (k:κ) (hg:Good P kt (ek k)) :
 ∃ es' clock',(Builtin.delete_ #[t,kt] ty #[.map (some b),ek k]).run P w=.ok (.tuple #[]) (setBlock w b (.map es' clock'))/\MapAt P kt ek ev (setBlock w b (.map es' clock')) b (mdel m k):=by
 obtain ⟨es,clock,l,hb,hp,hl⟩:=h;obtain ⟨es',h1,h2,_⟩:=hl.drop (ty:=ty) hb K inj ht k hg;exact ⟨es',clock,h1,es',clock,mdel l k,heap_setBlock_same hb _,mdel_perm hp k,h2⟩
omit [DecidableEq κ] in
theorem MapAt.range {t e:TypeId} (h:MapAt P kt ek ev w b m) (ht:P.underlying t=some (.map kt e)) :
 ∃ o,(Instr.range t (.map (some b))).run P w=.ok (.pointer (some ⟨w.heap.size,0,none⟩)) (w.alloc o)/\IterAt P kt ek ev (w.alloc o) b w.heap.size m m:=by
 have hlt:=h.lt;obtain ⟨es,clock,l,hb,hp,hl⟩:=h;refine ⟨_,run_range_map w t kt e b es clock ht hb,es,clock,l,clock,#[],clock,l,((MapKept.heap_alloc w _).2 b hlt).trans hb,hp,hl,(MapKept.heap_alloc w _).1,hl.1.1,Nat.le_refl _,Nat.le_refl _,?_,hp,List.Sublist.refl _⟩;have:leftOf es #[]=es:=Array.filter_eq_self.2 (fun _ _=>by simp);rw [this];exact hl.2.1
omit [DecidableEq κ] in
theorem leftOf_eq (es:Array MapEntry) (seen:Array Nat):(leftOf es seen).toList=es.toList.filter (fun e=>!seen.contains e.born):=by
 unfold leftOf;rw [<- Array.toList_filter]
omit [DecidableEq κ] in
theorem IterAt.next (h:IterAt P kt ek ev w b r m todo) (ty:TypeId) :
 (todo=[]/\(Instr.next (.pointer (some ⟨r,0,none⟩)) false ty).run P w=.ok (.tuple #[.bool false]) w) \/
 ∃ p rest w1 o,todo.Perm (p::rest)/\(w1=w\/w1=w.drew)/\(Instr.next (.pointer (some ⟨r,0,none⟩)) false ty).run P w=.ok (.tuple #[.bool true,ek p.1,ev p.2]) (setBlock w1 r o) /\
  IterAt P kt ek ev (setBlock w1 r o) b r m rest/\(Instr.entry (.pointer (some ⟨r,0,none⟩))).run P (setBlock w1 r o)=.ok (.tuple #[ek p.1,ev p.2]) (setBlock w1 r o):=by
 have hne:=h.ne;obtain ⟨es,clock,l,since,seen,c0,t,hb,hp,hl,hr,hold,hsc,hsk,hleft,htp,hts⟩:=h;rcases run_next_at (P:=P) w ty r b since c0 seen es clock hr hb hold hsc with ⟨h0,hrun⟩ | ⟨e,he,w1,hal,hrun⟩
 ·refine Or.inl ⟨?_,hrun⟩;have h1:(leftOf es seen).toList=[]:=by
   apply List.eq_nil_of_length_eq_zero;simpa using h0
  rw [h1] at hleft;have:t=[]:=by simpa using hleft.symm
  subst this;exact htp.symm.eq_nil
 ·obtain ⟨hem,hes⟩:=mem_left he;obtain ⟨j,hj⟩:=List.mem_iff_getElem?.1 he;obtain ⟨p,hpj,hk,hv⟩:=pairs_entry hleft hj;have hr1:w1.heap[r]? = some (.mapIter (some b) since seen c0):=by rcases hal with rfl | rfl<;>exact hr
  have hb1:w1.heap[b]? = some (.map es clock):=by rcases hal with rfl | rfl<;>exact hb
  have hset:=heap_set (o':=.mapIter (some b) since (seen.push e.born) clock) hr1;have hb':(setBlock w1 r (.mapIter (some b) since (seen.push e.born) clock)).heap[b]? = some (.map es clock):=(hset.2 b (fun e1=>hne e1.symm)).trans hb1;rw [hk,hv] at hrun;have hen:=run_entry_at (P:=P) _ r b since seen es clock e hset.1 hb' hem ((stamped_iff es clock).1 hl.1).2.1;rw [hk,hv] at hen;refine Or.inr ⟨p,t.eraseIdx j,w1,_,?_,hal,hrun,⟨es,clock,l,since,seen.push e.born,clock,t.eraseIdx j,hb',hp,hl,hset.1,hold,hsk,hsk,?_,List.Perm.refl _,(List.eraseIdx_sublist _ _).trans hts⟩,hen⟩
  ·exact htp.symm.trans (perm_eraseIdx hpj)
  ·rw [map_eraseIdx,<- hleft,<- map_eraseIdx];congr 1;rw [leftOf_eq] at hj ⊢;have hnb:((es.toList.filter (fun e=>!seen.contains e.born)).map (·.born)).Nodup:=(List.filter_sublist.map _).nodup ((stamped_iff es clock).1 hl.1).2.1;rw [leftOf_eq,erase_key (·.born) (fun x=>x.born≠e.born) hnb hj (fun y _=>by simp),List.filter_filter];apply List.filter_congr;intro x _;rw [contains_push];cases seen.contains x.born<;>by_cases hxb:x.born=e.born<;>simp [hxb]
theorem IterAt.delete {t e ty:TypeId} (h:IterAt P kt ek ev w b r m todo) (K:Keyed P kt) (inj:∀ a b,ek a=ek b->a=b) (ht:P.underlying t=some (.map kt e)) (k:κ) (hg:Good P kt (ek k)) (hk:∀ p∈todo,p.1≠k) :
 ∃ es' clock',(Builtin.delete_ #[t,kt] ty #[.map (some b),ek k]).run P w=.ok (.tuple #[]) (setBlock w b (.map es' clock'))/\IterAt P kt ek ev (setBlock w b (.map es' clock')) b r (mdel m k) todo:=by
 have hne:=h.ne;obtain ⟨es,clock,l,since,seen,c0,t,hb,hp,hl,hr,hold,hsc,hsk,hleft,htp,hts⟩:=h;obtain ⟨es',h1,h2,h3⟩:=hl.drop (ty:=ty) hb K inj ht k hg;classical
 have h4:=h3 (fun e=>e.key≠ek k) (fun e _=>by simp);refine ⟨es',clock,h1,es',clock,mdel l k,since,seen,c0,t,heap_setBlock_same hb _,mdel_perm hp k,h2,(heap_setBlock_other hb _ hne).trans hr,?_,hsc,hsk,?_,htp,?_⟩
 ·intro x hx;rw [h4] at hx;exact hold x (List.mem_filter.1 hx).1
 ·rw [leftOf_eq,h4,List.filter_filter,<- hleft,leftOf_eq];congr 1;apply List.filter_congr;intro x hx;cases hc:seen.contains x.born with
  | true=>simp
  | false=>
    simp only [Bool.not_false,Bool.true_and,decide_eq_true_eq];intro hxk;have hxl:x∈(leftOf es seen).toList:=by
     rw [leftOf_eq];exact List.mem_filter.2 ⟨hx,by rw [hc];rfl⟩
    obtain ⟨j,hj⟩:=List.mem_iff_getElem?.1 hxl;obtain ⟨p,hpj,hpk,_⟩:=pairs_entry hleft hj;exact hk p (htp.mem_iff.1 (List.mem_of_getElem? hpj)) (inj _ _ (by rw [<- hpk,hxk]))
 ·have:mdel t k=t:=mdel_all (fun p hpm=>hk p (htp.mem_iff.1 hpm));rw [<- this];exact hts.filter _
end
section
variable {κ υ:Type} [DecidableEq κ] {P:Program} {kt:TypeId} {ek:κ->Value} {ev:υ->Value}
variable (w:World) {ops:Array Oper} {rest:List Oper} {o:Oper} {a:Act} {Q:Exit->Act->World->Prop}
theorem wpList_look (hg:o.guard=none) (m x:Operand) (t:TypeId) (c:Bool) (hop:o.op=Op.lookup t m x c)
 (e:TypeId) (K:Keyed P kt) (inj:∀ a b,ek a=ek b->a=b) (ht:P.underlying t=some (.map kt e)) {z:Value} (hz:(zeroValue e).run P w=.ok z w) (b:Nat) (M:List (κ × υ))
 (hm:a.eval m=.map (some b)) (h:MapAt P kt ek ev w b M) (k:κ) (hx:a.eval x=ek k) (hk:Good P kt (ek k))
 (hK:wpList P ops Q rest (a.put o.dst (if c then .tuple #[((mget M k).map ev).getD z, .bool (mhas M k)] else ((mget M k).map ev).getD z)) w) :
 wpList P ops Q (o::rest) a w:=by
 refine wpList_plain hg fun K' hK'=>?_;have hrun:=h.lookup K inj ht hz k hk c;unfold Oper.wp;simp only [execOp,hop,hm,hx,Sem.run_bind,hrun,Result.andThen];exact hK' _ _ hK
theorem wpList_put (hg:o.guard=none) (m x v:Operand) (t:TypeId) (hop:o.op=Op.mapUpdate t m x v)
 (e:TypeId) (K:Keyed P kt) (inj:∀ a b,ek a=ek b->a=b) (ht:P.underlying t=some (.map kt e)) (b:Nat) (M:List (κ × υ))
 (hm:a.eval m=.map (some b)) (h:MapAt P kt ek ev w b M) (k:κ) (u:υ) (hx:a.eval x=ek k) (hv:a.eval v=ev u) (hk:Good P kt (ek k))
 (hK:∀ es clock,MapAt P kt ek ev (setBlock w b (.map es clock)) b (mput M k u)->wpList P ops Q rest (a.put o.dst undef) (setBlock w b (.map es clock))) :
 wpList P ops Q (o::rest) a w:=by
 refine wpList_plain hg fun K' hK'=>?_;obtain ⟨es',clock',hrun,r1⟩:=h.update K inj ht k hk u;unfold Oper.wp;simp only [execOp,hop,hm,hx,hv,Sem.run_bind,hrun,Result.andThen];exact hK' _ _ (hK _ _ r1)
theorem wpList_del (hg:o.guard=none) (m x:Operand) (t:TypeId) (hop:o.op=Op.call { callee:=Callee.builtin Builtin.delete,args:=#[m,x],argTypes:=#[t,kt] })
 (e:TypeId) (K:Keyed P kt) (inj:∀ a b,ek a=ek b->a=b) (ht:P.underlying t=some (.map kt e)) (b:Nat) (M:List (κ × υ))
 (hm:a.eval m=.map (some b)) (h:MapAt P kt ek ev w b M) (k:κ) (hx:a.eval x=ek k) (hk:Good P kt (ek k))
 (hK:∀ es clock,MapAt P kt ek ev (setBlock w b (.map es clock)) b (mdel M k)->wpList P ops Q rest (a.put o.dst (.tuple #[])) (setBlock w b (.map es clock))) :
 wpList P ops Q (o::rest) a w:=by
 refine wpList_plain hg fun K' hK'=>?_;obtain ⟨es',clock',hrun,r1⟩:=h.delete (ty:=o.type) K inj ht k hk;unfold Oper.wp;simp [execOp,hop,resolve,invoke,builtin,hm,hx,hrun,Result.andThen];exact hK' _ _ (hK _ _ r1)
theorem wpList_delIter (hg:o.guard=none) (m x:Operand) (t:TypeId) (hop:o.op=Op.call { callee:=Callee.builtin Builtin.delete,args:=#[m,x],argTypes:=#[t,kt] })
 (e:TypeId) (K:Keyed P kt) (inj:∀ a b,ek a=ek b->a=b) (ht:P.underlying t=some (.map kt e)) (b r:Nat) (M todo:List (κ × υ))
 (hm:a.eval m=.map (some b)) (h:IterAt P kt ek ev w b r M todo) (k:κ) (hx:a.eval x=ek k) (hk:Good P kt (ek k)) (hnt:∀ p∈todo,p.1≠k)
 (hK:∀ es clock,IterAt P kt ek ev (setBlock w b (.map es clock)) b r (mdel M k) todo->wpList P ops Q rest (a.put o.dst (.tuple #[])) (setBlock w b (.map es clock))) :
 wpList P ops Q (o::rest) a w:=by
 refine wpList_plain hg fun K' hK'=>?_;obtain ⟨es',clock',hrun,r1⟩:=h.delete (ty:=o.type) K inj ht k hk hnt;unfold Oper.wp;simp [execOp,hop,resolve,invoke,builtin,hm,hx,hrun,Result.andThen];exact hK' _ _ (hK _ _ r1)
omit [DecidableEq κ] in
theorem wpList_rng (hg:o.guard=none) (m:Operand) (t:TypeId) (hop:o.op=Op.range t m) (e:TypeId) (ht:P.underlying t=some (.map kt e)) (b:Nat) (M:List (κ × υ))
 (hm:a.eval m=.map (some b)) (h:MapAt P kt ek ev w b M)
 (hK:∀ ob,IterAt P kt ek ev (w.alloc ob) b w.heap.size M M->wpList P ops Q rest (a.put o.dst (.pointer (some ⟨w.heap.size,0,none⟩))) (w.alloc ob)) :
 wpList P ops Q (o::rest) a w:=by
 refine wpList_plain hg fun K' hK'=>?_;obtain ⟨ob,hrun,r1⟩:=h.range ht;unfold Oper.wp;simp only [execOp,hop,hm,Sem.run_bind,hrun,Result.andThen];exact hK' _ _ (hK _ r1)
omit [DecidableEq κ] in
theorem wpList_nxt (hg:o.guard=none) (it:Operand) (hop:o.op=Op.next it false) (b r:Nat) (M todo:List (κ × υ))
 (hit:a.eval it=.pointer (some ⟨r,0,none⟩)) (h:IterAt P kt ek ev w b r M todo)
 (hDone:todo=[]->wpList P ops Q rest (a.put o.dst (.tuple #[.bool false])) w)
 (hMore:∀ p rs w1 ob,todo.Perm (p::rs)->(w1=w\/w1=w.drew)->IterAt P kt ek ev (setBlock w1 r ob) b r M rs ->
   (Instr.entry (.pointer (some ⟨r,0,none⟩))).run P (setBlock w1 r ob)=.ok (.tuple #[ek p.1,ev p.2]) (setBlock w1 r ob)->wpList P ops Q rest (a.put o.dst (.tuple #[.bool true,ek p.1,ev p.2])) (setBlock w1 r ob)) :
 wpList P ops Q (o::rest) a w:=by
 refine wpList_plain hg fun K' hK'=>?_;unfold Oper.wp;rcases h.next o.type with ⟨h0,hrun⟩ | ⟨p,rs,w1,ob,hp,hal,hrun,hi,hen⟩
 ·simp only [execOp,hop,hit,Sem.run_bind,hrun,Result.andThen];exact hK' _ _ (hDone h0)
 ·simp only [execOp,hop,hit,Sem.run_bind,hrun,Result.andThen];exact hK' _ _ (hMore p rs w1 ob hp hal hi hen)
end
end
section
open Go
section
variable {P:Program} {ops:Array Oper} {md:Region.Mode} {C:World->Prop}
def headAny (P:Program) (md:Region.Mode) (ops:Array Oper) (C:World->Prop) (n:Nat) (L:Array Bool->Act->Prop):Nat->Array Bool->Act->Prop
 | 0,listed,a=>L listed a
 | f+1,listed,a=>
   Region.ready md ops listed≠[]/\∀ i∈Region.ready md ops listed,i < n/\qOp P ops C i (headAny P md ops C n L f (listed.setIfInBounds i true)) a
theorem headAny_any {n g:Nat} {L:Array Bool->Act->Prop} {Q':Exit->Act->World->Prop} (hL:∀ listed a w,C w->L listed a->wpAny P md ops Q' g listed a w) (f:Nat) :
 ∀ (listed:Array Bool) (a:Act) (w:World),C w->headAny P md ops C n L f listed a->wpAny P md ops Q' (f+g) listed a w:=by
 induction f with
 | zero=>intro listed a w hw h;rw [Nat.zero_add];exact hL _ _ _ hw h
 | succ f ih=>
   intro listed a w hw h;rw [show f+1+g=(f+g)+1 by omega];exact ⟨fun h0=>absurd h0 h.1,fun i hi=>wpOp_of_qOp hw (fun a' w' hw' h'=>ih _ a' w' hw' h') (h.2 i hi).2⟩
theorem headAny_first {n i:Nat} {oi:Oper} {v:Value} {L:Array Bool->Act->Prop} (hi:ops[i]? = some oi) (hsel:∀ (j:Nat) (o:Oper) cs b,ops[j]? = some o->o.op≠.select cs b)
 (hs:Region.sinkB md ops n=true) (hc:Region.chainB md ops n=true) (hn:n < ops.size) (hin:i < n)
 (hdone:∀ listed a,L listed a->∀ j∈Region.ready md ops listed,n<=j) (f:Nat) :
 ∀ (listed:Array Bool) (a:Act),HeadInv md ops n listed ->
  (∀ j oj,ops[j]? = some oj->j≠i->listed.getD j true=false->(∀ e∈oj.after,Region.binds md e=true->e.on≠i)->oi.apart ops oj=true) ->
  i∈Region.ready md ops listed->YieldsIn P ops C oi v a ->
  headAny P md ops C n L f (listed.setIfInBounds i true) (a.put oi.dst v)->headAny P md ops C n L (f+1) listed a:=by
 induction f with
 | zero=>
   intro listed a inv _ hr hy H;have hun:=(mem_ready.1 hr).1;refine ⟨fun h=>(by rw [h] at hr;cases hr),fun j hj=>?_⟩;have hjn:j < n:=by
    rcases Nat.lt_or_ge j n with h | h
    ·exact h
    ·exact absurd hj (tail_waits hs hc hn inv _ i rfl hin hun j h)
   refine ⟨hjn,?_⟩;by_cases hji:j=i
   ·subst hji;exact hy.qOp hi H
   ·have:=hdone _ _ H j (ready_mono hj hji);omega
 | succ f ih=>
   intro listed a inv hfree hr hy H;have hun:=(mem_ready.1 hr).1;refine ⟨fun h=>(by rw [h] at hr;cases hr),fun j hj=>?_⟩;have hjn:j < n:=by
    rcases Nat.lt_or_ge j n with h | h
    ·exact h
    ·exact absurd hj (tail_waits hs hc hn inv _ i rfl hin hun j h)
   refine ⟨hjn,?_⟩;by_cases hji:j=i
   ·subst hji;exact hy.qOp hi H
   ·have h1:=(H.2 j (ready_mono hj hji)).2;obtain ⟨hjun,oj,hoj,hall⟩:=mem_ready.1 hj;have hnot:∀ e∈oj.after,Region.binds md e=true->e.on≠i:=fun e he hb heq=>by
     have h1:=hall e he hb;rw [heq,getD_both hun] at h1;cases h1
    have h2:=qOp_put hoj (hfree j oj hoj hji hjun hnot) (fun cs b=>hsel i oi cs b hi) (fun cs b=>hsel j oj cs b hoj) hy h1;have hfree':∀ k ok,ops[k]? = some ok->k≠i->(listed.setIfInBounds j true).getD k true=false ->
     (∀ e∈ok.after,Region.binds md e=true->e.on≠i)->oi.apart ops ok=true:=fun k ok hk hki hun hno=>by
     refine hfree k ok hk hki ?_ hno;by_cases hjk:j=k
     ·subst hjk;exact hjun
     ·rw [getD_set_ne true hjk] at hun;exact hun
    refine qOp_mono (fun a' h3=>ih (listed.setIfInBounds j true) a' (inv.set hj hjn) hfree' (ready_mono hr (Ne.symm hji)) h3.1 ?_) h2;rw [Array.setIfInBounds_comm _ _ hji];exact h3.2
theorem headAny_lex {n g:Nat} {Lq:Act->Prop} (hsel:Region.noSelect ops=true) (hs:Region.sinkB md ops n=true) (hc:Region.chainB md ops n=true) (hn:n < ops.size) (l:List Oper) :
 ∀ (k:Nat) (listed:Array Bool) (a:Act),(∀ j,j < l.length->l[j]? = ops[k+j]?)->k+l.length=n->HeadInv md ops n listed ->
 Region.lexHead md ops g l.length k listed=true->wpQuiet P ops C Lq l a ->
 headAny P md ops C n (fun listed' a'=>Region.seqB md ops g n listed'=true/\Lq a') l.length listed a:=by
 induction l with
 | nil=>
   intro k listed a _ hk _ hB h;have:k=n:=by simpa using hk
   subst this;exact ⟨by simpa [Region.lexHead] using hB,h⟩
 | cons o l ih=>
   intro k listed a hl hk inv hB h;have h0:ops[k]? = some o:=by simpa using (hl 0 (by simp)).symm
   simp only [List.length_cons,Region.lexHead,Bool.and_eq_true] at hB;obtain ⟨⟨hr,hf⟩,hB'⟩:=hB;have hkn:k < n:=by simp only [List.length_cons] at hk;omega
   have hr':k∈Region.ready md ops listed:=by simpa using hr
   have hst:qOp P ops C k (wpQuiet P ops C Lq l) a:=by unfold qOp;simp only [h0];exact h
   obtain ⟨v,hy,hK⟩:=yieldsIn_of_qOp h0 hst;exact headAny_first h0 (Region.noSelect_spec hsel) hs hc hn hkn (fun listed' a' hL=>seqB_ready hL.1) l.length listed a inv (Region.free_spec h0 hf) hr' hy
    (ih (k+1) _ _ (fun j hj=>by have:=hl (j+1) (by simp;omega);simpa [Nat.add_assoc,Nat.add_comm 1 j] using this) (by simp only [List.length_cons] at hk;omega) (inv.set hr' hkn) hB' hK)
theorem wp_region_quiet_tail (C:World->Prop) {id:Nat} {Q:Exit->Act->World->Prop} {a:Act} {w:World} {l:List Oper} (n:Nat) (hm:P.follows .mixedOrders=true) (hB:Region.lexTailB .any l.toArray n=true) (hC:C w.drew)
 (h:wpQuiet P l.toArray C (fun a'=>∀ w',C w'->wpList P l.toArray Q (l.drop n) a' w') (l.take n) a):(Code.region id l.toArray true).wp P Q a w:=by
 simp only [Region.lexTailB,Bool.and_eq_true,decide_eq_true_eq] at hB;obtain ⟨⟨⟨⟨hsel,hn⟩,hs⟩,hc⟩,hlex⟩:=hB;have hn':n < l.length:=by simpa using hn
 have htl:(l.take n).length=n:=by simp;omega
 have hdl:(l.drop n).length=l.toArray.size - n:=by simp
 have inv0:HeadInv .any l.toArray n (Array.replicate l.toArray.size false):=
  ⟨by simp,fun j oj _ hl=>(by rw [getD_replicate_false] at hl;cases hl),fun t _ ht=>getD_in (by simpa using ht) (getD_replicate_false _ _)⟩
 have H:=headAny_lex (md:=.any) (C:=C) (g:=l.toArray.size - n) hsel hs hc hn (l.take n) 0 _ a (fun j hj=>by
  have hj':j < n:=by rw [htl] at hj;exact hj
  simp [hj']) (by simpa using htl) inv0 (by rw [htl];exact hlex) h
 refine wp_region_any hm ?_;have:=headAny_any (Q':=Q) (g:=l.toArray.size - n) (fun listed a' w' hw' hL=>by
  have:=wpAny_of_seq (md:=.any) (Q':=Q) (l.drop n) n listed a' w' (fun j=>by simp [List.getElem?_drop]) (by rw [hdl];exact hL.1) (hL.2 w' hw');rwa [hdl] at this) _ _ _ _ hC H
 rw [htl,show n+(l.toArray.size - n)=l.toArray.size by omega] at this;exact this
theorem wp_region_quiet_in (C:World->Prop) {id:Nat} {Q:Exit->Act->World->Prop} {a:Act} {w:World} {l:List Oper} (hm:P.follows .mixedOrders=true) (hB:Region.lexB .any l.toArray=true) (hC:C w.drew)
 (h:wpQuiet P l.toArray C (fun a'=>∀ w',C w'->Q .normal a' w') l a):(Code.region id l.toArray true).wp P Q a w:=
 wp_region_quiet hm hB hC (by simpa using h)
theorem q_op {Q:Act->Prop} {a:Act} {o:Oper} {rest:List Oper} {v:Value} (hw:Region.wanted o (yielded ops a.tmps)=true)
 (h:∀ w,C w->(execOp a.eval o).run P w=.ok (.value v) w) (hk:∀ K:Act->Prop,(∀ a,wpQuiet P ops C Q rest a->K a)->K (a.put o.dst v)):wpQuiet P ops C Q (o::rest) a:=by
 unfold wpQuiet;rw [if_pos hw];exact ⟨v,fun w hC=>by unfold Oper.quietAt;rw [h w hC];exact ⟨rfl,rfl⟩,hk _ fun _ h=>h⟩
theorem qo {Q:Act->Prop} {a:Act} {o:Oper} {rest:List Oper} {v:Value} (hk:∀ K:Act->Prop,(∀ a,wpQuiet P ops C Q rest a->K a)->K (a.put o.dst v))
 (h:∀ w,C w->(execOp a.eval o).run P w=.ok (.value v) w:=by intro w' hw';go_simp<;>rfl) (hw:Region.wanted o (yielded ops a.tmps)=true:=by rfl):wpQuiet P ops C Q (o::rest) a:=q_op hw h hk
theorem q_call {Q:Act->Prop} {a:Act} {o:Oper} {rest:List Oper} {v:Value} {f:FuncId} {args:Array Value} (hw:Region.wanted o (yielded ops a.tmps)=true)
 (h:∀ w,C w->(execOp a.eval o).run P w=.ok (.enter f args) w) (hc:∀ w,C w->Calls P f args w fun e w'=>e=.returned v/\C w')
 (hk:∀ K:Act->Prop,(∀ a,wpQuiet P ops C Q rest a->K a)->K (a.put o.dst v)):wpQuiet P ops C Q (o::rest) a:=by
 unfold wpQuiet;rw [if_pos hw];exact ⟨v,fun w hC=>by unfold Oper.quietAt;rw [h w hC];exact ⟨rfl,hc w hC⟩,hk _ fun _ h=>h⟩
theorem qc {Q:Act->Prop} {a:Act} {o:Oper} {rest:List Oper} {v:Value} {f:FuncId} {args:Array Value} (hc:∀ w,C w->Calls P f args w fun e w'=>e=.returned v/\C w')
 (hk:∀ K:Act->Prop,(∀ a,wpQuiet P ops C Q rest a->K a)->K (a.put o.dst v)) (h:∀ w,C w->(execOp a.eval o).run P w=.ok (.enter f args) w:=by intro w' hw';go_simp<;>rfl) (hw:Region.wanted o (yielded ops a.tmps)=true:=by rfl):wpQuiet P ops C Q (o::rest) a:=q_call hw h hc hk
theorem wq (w:World) {id:Nat} {Q:Exit->Act->World->Prop} {a:Act} {l:List Oper} (h:wpQuiet P l.toArray (RowKit.Below w.heap.size w) (fun a'=>∀ w',RowKit.Below w.heap.size w w'->Q .normal a' w') l a)
 (hm:P.follows .mixedOrders=true:=by kernel_rfl) (hB:Region.lexB .any l.toArray=true:=by kernel_rfl):(Code.region id l.toArray true).wp P Q a w:=wp_region_quiet_in _ hm hB (RowKit.Below.refl _ _).drew h
end
end
section
open Go.RowKit
theorem ret_int {k:IntKind} {a b:Int} (h:a=b):Ending.returned (.int k a)=.returned (.int k b):=by rw [h]
@[go_sem] theorem setCell_drewN (w:World) (n:Nat) (a:Addr) (v:Value):(w.drewN n).setCell a v=(w.setCell a v).drewN n:=rfl
@[go_sem] theorem alloc_drewN (w:World) (n:Nat) (o:Obj):(w.drewN n).alloc o=(w.alloc o).drewN n:=rfl
def bv (b:UInt8):Value:=.int .u8 (b.toNat:Int)
def le (x:Nat):Nat->List UInt8
 | 0=>[]
 | k+1=>le x k++[UInt8.ofNat (x / 256 ^ k)]
theorem le_length (x k:Nat):(le x k).length=k:=by
 induction k with
 | zero=>rfl
 | succ k ih=>simp [le,ih]
theorem run_shr_nat {P:Program} (w:World) (q:IntKind) (x c:Nat) (hc:c<=q.bits) (y:Int) (hy:y=c) :
 Sem.run P (Op.shift .shr q x .i64 y) w=.ok (.int q ((x / 2 ^ c:Nat):Int)) w:=by
 subst hy;have h1:¬ ((c:Int) < 0):=by omega
 have h2:min c q.bits=c:=Nat.min_eq_left hc;have h3:(x:Int).fdiv (2 ^ c)=((x / 2 ^ c:Nat):Int):=by
  rw [Int.fdiv_eq_ediv_of_nonneg _ (by exact_mod_cast Nat.zero_le (2 ^ c))];norm_cast
 unfold Op.shift;rw [if_neg h1];simp only [Int.toNat_natCast,h2,h3];rfl
theorem bv_shift (x k:Nat):Value.int .u8 ((x:Int) / 2 ^ (8*k) % 256)=bv (UInt8.ofNat (x / 256 ^ k)):=by
 unfold bv;have h:(2:Int) ^ (8*k)=((256 ^ k:Nat):Int):=by rw [Int.pow_mul,Int.natCast_pow];rfl
 have h2:(x:Int) / 2 ^ (8*k) % 256=((x / 256 ^ k % 256:Nat):Int):=by rw [h,Int.natCast_emod,Int.natCast_ediv];rfl
 rw [h2,UInt8.toNat_ofNat']
theorem bv_oneCell (b:UInt8):(bv b).oneCell'=true:=rfl
theorem ownsRow_block {w:World} {base size n:Nat} {e:TypeId} {v:Value} {xs:List Value} (h:w.ownsRow base e size v n xs):∀ k,v.ownBlock=some k->base<=k:=by
 intro k hk;obtain ⟨_,⟨rfl,_⟩ | ⟨g,cap,cur,rfl,hg,_⟩⟩:=h
 ·cases hk
 ·cases hk;exact hg
theorem ownsRow_base {w:World} {base base' size n:Nat} {e:TypeId} {v:Value} {xs:List Value} (h:w.ownsRow base e size v n xs) (hb:base'<=base):w.ownsRow base' e size v n xs:=by
 obtain ⟨h1,h2⟩:=h;refine ⟨h1,?_⟩;rcases h2 with h2 | ⟨g,cap,cur,hv,hg,r⟩
 ·exact .inl h2
 ·exact .inr ⟨g,cap,cur,hv,Nat.le_trans hb hg,r⟩
theorem ownsRow_below {w w':World} {base size n:Nat} {e:TypeId} {v:Value} {xs:List Value} (h:w.ownsRow base e size v n xs) (hb:Below w.heap.size w w'):w'.ownsRow base e size v n xs:=by
 obtain ⟨h1,h2⟩:=h;refine ⟨h1,?_⟩;rcases h2 with h2 | ⟨g,cap,cur,hv,hg,hh,r⟩
 ·exact .inl h2
 ·have hlt:g < w.heap.size:=by
   rcases Nat.lt_or_ge g w.heap.size with h | h
   ·exact h
   ·simp [Array.getElem?_eq_none h] at hh
  exact .inr ⟨g,cap,cur,hv,hg,by rw [hb.block g hlt];exact hh,r⟩
def Rd (w:World) (v:Value) (bs:List UInt8):Prop:=
 ∃ a cap,v=.slice a bs.length cap/\bs.length<=cap/\cap<=maxLen/\(bs.length=0\/∃ b off,a=some ⟨b,off,none⟩/\∀ j (h:j < bs.length),w.cell? ⟨b,off+j,none⟩=some (bv bs[j]))
theorem Rd.drewN {w:World} {v:Value} {bs:List UInt8} (h:Rd w v bs) (n:Nat):Rd (w.drewN n) v bs:=h
theorem Rd.from {w:World} {a:Option Addr} {n cap k:Nat} {bs:List UInt8} (h:Rd w (.slice a n cap) bs) (hk:k<=bs.length) :
 (cap=k->Rd w (.slice a (n - k) 0) (bs.drop k))/\(Rd w (.slice (a.map (·.add k)) (n - k) (cap - k)) (bs.drop k)):=by
 obtain ⟨a',cap',he,hlc,hcm,hc⟩:=h;simp only [Value.slice.injEq] at he;obtain ⟨rfl,rfl,rfl⟩:=he;have hl:(bs.drop k).length=bs.length - k:=List.length_drop ..;constructor
 ·rintro rfl;refine ⟨a,0,by rw [hl],by rw [hl];omega,by unfold maxLen;omega, .inl (by rw [hl];omega)⟩
 ·refine ⟨_,_,by rw [hl],by rw [hl];omega,by omega,?_⟩;by_cases h0:bs.length=k
  ·exact .inl (by rw [hl];omega)
  ·rcases hc with hc | ⟨b,off,rfl,hc⟩
   ·omega
   ·refine .inr ⟨b,off+k,by unfold Addr.add;split<;>simp_all,fun j hj=>?_⟩;rw [hl] at hj;have:=hc (k+j) (by omega);rw [<- Nat.add_assoc] at this;rw [this,List.getElem_drop]
theorem Rd.to {w:World} {a:Option Addr} {n cap k:Nat} {bs:List UInt8} (h:Rd w (.slice a n cap) bs) (hk:k<=bs.length):Rd w (.slice a k cap) (bs.take k):=by
 obtain ⟨a',cap',he,hlc,hcm,hc⟩:=h;simp only [Value.slice.injEq] at he;obtain ⟨rfl,rfl,rfl⟩:=he;have hl:(bs.take k).length=k:=by rw [List.length_take];omega
 refine ⟨a,cap,by rw [hl],by rw [hl];omega,hcm,?_⟩;rcases hc with hc | ⟨b,off,rfl,hc⟩
 ·exact .inl (by rw [hl];omega)
 ·refine .inr ⟨b,off,rfl,fun j hj=>?_⟩;rw [hl] at hj;rw [hc j (by omega),List.getElem_take]
theorem Rd.sub {w:World} {a:Option Addr} {n cap i k:Nat} {bs:List UInt8} (h:Rd w (.slice a n cap) bs) (hk:i+k<=bs.length):Rd w (.slice (a.map (·.add i)) k (cap - i)) ((bs.drop i).take k):=by
 have h1:=(h.from (k:=i) (by omega)).2;exact h1.to (by rw [List.length_drop];omega)
theorem Rd.kept {w w':World} {v:Value} {bs:List UInt8} (h:Rd w v bs) (hk:∀ b o x,w.cell? ⟨b,o,none⟩=some x->w'.cell? ⟨b,o,none⟩=some x):Rd w' v bs:=by
 obtain ⟨a,cap,he,hlc,hcm,hc⟩:=h;refine ⟨a,cap,he,hlc,hcm,?_⟩;rcases hc with hc | ⟨b,off,ha,hc⟩
 ·exact .inl hc
 ·exact .inr ⟨b,off,ha,fun j hj=>hk _ _ _ (hc j hj)⟩
theorem Rd.below {w w':World} {v:Value} {bs:List UInt8} (h:Rd w v bs) (hb:Below w.heap.size w w'):Rd w' v bs:=
 h.kept fun b o x hx=>by rw [hb.cell (World.block_lt_of_cell? _ _ hx)];exact hx
theorem Addr_add (b o j:Nat):(⟨b,o,none⟩:Addr).add j=⟨b,o+j,none⟩:=by unfold Addr.add;split<;>simp_all
theorem Rd.news {w w':World} {ad:Addr} {n cap:Nat} {bs:List UInt8} (h:Rd w (.slice (some ad) n cap) bs) (hk:∀ b o x,w.cell? ⟨b,o,none⟩=some x->w'.cell? ⟨b,o,none⟩=some x) :
 ∀ j u,(bs.map bv)[j]? = some u->w'.cell? (ad.add j)=some u:=by
 obtain ⟨a,cap,he,_,_,hc⟩:=h;simp only [Value.slice.injEq] at he;obtain ⟨rfl,_,_⟩:=he;intro j u hj;rcases hc with hc | ⟨b,off,ha,hc⟩
 ·have:bs=[]:=List.length_eq_zero_iff.1 hc;subst this;simp at hj
 ·cases ha;rw [List.getElem?_map] at hj;by_cases hjl:j < bs.length
  ·rw [List.getElem?_eq_getElem hjl] at hj;simp only [Option.map_some,Option.some.injEq] at hj;subst hj;rw [Addr_add];exact hk _ _ _ (hc j hjl)
  ·rw [List.getElem?_eq_none (by omega)] at hj;simp at hj
def unle:List UInt8->Nat
 | []=>0
 | b::bs=>b.toNat+256*unle bs
theorem unle_lt (bs:List UInt8):unle bs < 256 ^ bs.length:=by
 induction bs with
 | nil=>simp [unle]
 | cons b bs ih=>
   have hb:b.toNat < 256:=b.toNat_lt;simp only [unle,List.length_cons,Nat.pow_succ];omega
theorem unle_snoc (bs:List UInt8) (b:UInt8):unle (bs++[b])=unle bs+b.toNat*256 ^ bs.length:=by
 induction bs with
 | nil=>simp [unle]
 | cons c bs ih=>
   simp only [List.cons_append,unle,ih,List.length_cons,Nat.pow_succ];rw [Nat.mul_add];have:256*(b.toNat*256 ^ bs.length)=b.toNat*(256 ^ bs.length*256):=by
    rw [Nat.mul_comm 256,Nat.mul_assoc]
   omega
theorem unle_or (bs:List UInt8) (b:UInt8):unle bs ||| b.toNat*256 ^ bs.length=unle (bs++[b]):=by
 have h:=Nat.shiftLeft_add_eq_or_of_lt (i:=8*bs.length) (a:=b.toNat) (b:=unle bs) (by rw [Nat.pow_mul];exact unle_lt bs);rw [Nat.shiftLeft_eq,Nat.pow_mul] at h;rw [unle_snoc,Nat.or_comm,<- h];show b.toNat*256 ^ bs.length+_=_;omega
theorem unle_le (x k:Nat):unle (le x k)=x % 256 ^ k:=by
 induction k with
 | zero=>simp [le,unle,Nat.mod_one]
 | succ k ih=>
   have h:=Nat.mod_mul (x:=x) (a:=256 ^ k) (b:=256);rw [le,unle_snoc,ih,le_length,UInt8.toNat_ofNat',show (256:Nat) ^ (k+1)=256 ^ k*256 from Nat.pow_succ ..,h,Nat.mul_comm (256 ^ k)]
theorem wraps_u32 (n:Int) (h₀:0<=n) (h₁:n < 2 ^ 32):IntKind.u32.wrap n=n:=by rw [IntKind.wrap_u32];omega
theorem wraps_u64 (n:Int) (h₀:0<=n) (h₁:n < 2 ^ 64):IntKind.u64.wrap n=n:=by
 have:IntKind.u64.wrap n=n % 18446744073709551616:=by simp [IntKind.wrap,IntKind.bits,IntKind.signed]
 rw [this];omega
theorem bits_xor_nat (k:IntKind) (j:Nat) (hj:j<=k.bits) (hk:∀ n:Int,0<=n->n < 2 ^ j->k.wrap n=n) (a b:Nat) (ha:a < 2 ^ j) (hb:b < 2 ^ j) :
 bits .xor k a b=((a ^^^ b:Nat):Int):=by
 have hp:2 ^ j<=2 ^ k.bits:=Nat.pow_le_pow_right (by decide) hj;have ha':a % 2 ^ k.bits=a:=Nat.mod_eq_of_lt (Nat.lt_of_lt_of_le ha hp);have hb':b % 2 ^ k.bits=b:=Nat.mod_eq_of_lt (Nat.lt_of_lt_of_le hb hp);have cast:∀ n:Nat,n < 2 ^ j->((n:Nat):Int) < 2 ^ j:=fun n h=>by exact_mod_cast h
 simp only [bits,BitVec.ofInt_natCast,BitVec.toNat_xor,BitVec.toNat_ofNat,ha',hb'];exact hk _ (Int.natCast_nonneg _) (cast _ (Nat.xor_lt_two_pow ha hb))
theorem shl_fits (b k:Nat) (hb:b < 256) (n:Nat) (hk:k < n):b*256 ^ k < 256 ^ n:=by
 have h1:(256:Nat) ^ (k+1)<=256 ^ n:=Nat.pow_le_pow_right (by decide) hk;have h2:b*256 ^ k < 256*256 ^ k:=Nat.mul_lt_mul_of_pos_right hb (Nat.pow_pos (by decide));rw [show (256:Nat) ^ (k+1)=256 ^ k*256 from Nat.pow_succ ..,Nat.mul_comm (256 ^ k)] at h1;omega
theorem take_unle_lt (bs:List UInt8) (k n:Nat) (hk:k<=n):unle (bs.take k) < 256 ^ n:=
 Nat.lt_of_lt_of_le (unle_lt _) (Nat.pow_le_pow_right (by decide) (Nat.le_trans (List.length_take_le _ _) hk))
theorem take_step (bs:List UInt8) (k:Nat) (hk:k < bs.length):unle (bs.take k) ||| bs[k].toNat*256 ^ k=unle (bs.take (k+1)):=by
 have h:=unle_or (bs.take k) bs[k];have hl:(bs.take k).length=k:=by simp;omega
 rw [hl] at h;rw [h,List.take_succ_eq_append_getElem hk]
theorem or32 (bs:List UInt8) (k:Nat) (hk:k < bs.length) (h4:k < 4) :
 bits BinOp.or IntKind.u32 (unle (bs.take k)) ((bs[k].toNat:Int) % 4294967296*2 ^ (8*k) % 4294967296)=(unle (bs.take (k+1)):Int):=by
 have hb:bs[k].toNat < 256:=bs[k].toNat_lt;have hf:=shl_fits bs[k].toNat k hb 4 h4;have e1:((bs[k].toNat:Int) % 4294967296*2 ^ (8*k) % 4294967296)=((bs[k].toNat*256 ^ k:Nat):Int):=by
  have h1:(bs[k].toNat:Int) % 4294967296=bs[k].toNat:=by omega
  have h2:(2:Int) ^ (8*k)=((256 ^ k:Nat):Int):=by rw [Int.pow_mul,Int.natCast_pow];rfl
  rw [h1,h2,<- Int.natCast_mul];omega
 rw [e1,(bits_nat .u32 32 (by decide) wraps_u32 _ _ (take_unle_lt bs k 4 (by omega)) hf).2,take_step bs k hk]
theorem or64 (bs:List UInt8) (k:Nat) (hk:k < bs.length) (h8:k < 8) :
 bits BinOp.or IntKind.u64 (unle (bs.take k)) ((bs[k].toNat:Int) % 18446744073709551616*2 ^ (8*k) % 18446744073709551616)=(unle (bs.take (k+1)):Int):=by
 have hb:bs[k].toNat < 256:=bs[k].toNat_lt;have hf:=shl_fits bs[k].toNat k hb 8 h8;have e1:((bs[k].toNat:Int) % 18446744073709551616*2 ^ (8*k) % 18446744073709551616)=((bs[k].toNat*256 ^ k:Nat):Int):=by
  have h1:(bs[k].toNat:Int) % 18446744073709551616=bs[k].toNat:=by omega
  have h2:(2:Int) ^ (8*k)=((256 ^ k:Nat):Int):=by rw [Int.pow_mul,Int.natCast_pow];rfl
  rw [h1,h2,<- Int.natCast_mul];omega
 rw [e1,(bits_nat .u64 64 (by decide) wraps_u64 _ _ (take_unle_lt bs k 8 (by omega)) hf).2,take_step bs k hk]
theorem info_u8:(Tryz.prog.info? 5).map (fun i=>(i.zero,i.size,i.bytes))=some (some (.int .u8 0),1,1):=by kernel_rfl
def PutPost (base n:Nat) (w:World) (xs:List Value) (e:Ending) (w':World):Prop:=
 ∃ v',e=.returned v'/\w'.ownsRow base 5 1 v' n xs/\Below base w w'
set_option maxHeartbeats 1000000 in
theorem put32_any (base n:Nat) (v:Value) (bs:List UInt8) (x size:Nat) (w:World) (hs:size<=4) (hn:n<=1000000)
 (hb:base<=w.heap.size) (hown:w.ownsRow base 5 1 v n (bs.map bv)) :
 Calls Tryz.prog 118 #[v, .int .u32 x, .int .i64 size] w (PutPost base (n+size) w ((bs++le x size).map bv)):=by
 obtain ⟨i0,hi,hz0,hz1,hz2⟩:=info_parts info_u8;go_enter Tryz.func118,Tryz.ntmps118
 go_wp2;go_loopw [0,9] (fun v i wr=>∃ k:Nat,k<=size/\i=.int .i64 k/\wr.ownsRow base 5 1 v (n+k) ((bs++le x k).map bv)/\Below base w wr) (fun _ i _=>size - (intOf i).toNat)
 case atStart=>exact ⟨0,Nat.zero_le _,rfl,by simpa [le] using hown,Below.refl _ _⟩
 case round=>
  obtain ⟨k,hk,rfl,ho,hB⟩:=hrel;by_cases hlt:k < size
  ·have hsh:∀ w,Sem.run Tryz.prog (Op.shift .shr .u32 x .i64 (8*k)) w=.ok (.int .u32 ((x / 2 ^ (8*k):Nat):Int)) w:=fun w=>run_shr_nat w .u32 x (8*k) (by show 8*k<=32;omega) _ (by omega);go_wp2_with (at_builtin;refine wpList_append_own _ rfl _ _ 39 rfl base 5 i0 (.int .u8 0) 1 1 Tryz.underlying39 hi hz0 hz1 hz2 rfl (by decide) _ _ _ rfl (ho.alloc _) ⟨wr.heap.size,0,none⟩ 1 1 [bv (UInt8.ofNat (x / 256 ^ k))] rfl rfl ?c1 ?c2 ?c3 ?c4 ?c5 ?_)
   case c1=>rw [<- bv_shift];exact cell_one_new _ _ _
   case c2=>simp [bv_oneCell]
   case c3=>unfold maxLen;omega
   case c4=>omega
   case c5=>have:=hB.size;simp;omega
   intro v' w1 hown1 hgr _;have hB1:Hid (Below base w w1):=Lib.hid ((hB.alloc (by have:=hB.size;omega) _).grown hgr (by have:=hB.size;simp;omega) (ownsRow_block ho));have ho1:Hid (w1.ownsRow base 5 1 v' (n+(k+1)) ((bs++le x (k+1)).map bv)):=Lib.hid (by simpa [le,Nat.add_assoc] using hown1);clear hown1 hgr ho hB;go_wp2;go_roundw
   case rel=>exact ⟨k+1,by omega,by go_num,ho1.out,hB1.out⟩
   case measure=>simp [intOf];omega
  ·go_wp2_with fail
   obtain rfl:k=size:=by omega
   go_ret;exact ⟨_,rfl,ho,hB⟩
set_option maxHeartbeats 1000000 in
theorem put64_any (base n:Nat) (v:Value) (bs:List UInt8) (x size:Nat) (w:World) (hs:size<=8) (hn:n<=1000000)
 (hb:base<=w.heap.size) (hown:w.ownsRow base 5 1 v n (bs.map bv)) :
 Calls Tryz.prog 256 #[v, .int .u64 x, .int .i64 size] w (PutPost base (n+size) w ((bs++le x size).map bv)):=by
 obtain ⟨i0,hi,hz0,hz1,hz2⟩:=info_parts info_u8;go_enter Tryz.func256,Tryz.ntmps256
 go_wp2;go_loopw [0,9] (fun v i wr=>∃ k:Nat,k<=size/\i=.int .i64 k/\wr.ownsRow base 5 1 v (n+k) ((bs++le x k).map bv)/\Below base w wr) (fun _ i _=>size - (intOf i).toNat)
 case atStart=>exact ⟨0,Nat.zero_le _,rfl,by simpa [le] using hown,Below.refl _ _⟩
 case round=>
  obtain ⟨k,hk,rfl,ho,hB⟩:=hrel;by_cases hlt:k < size
  ·have hsh:∀ w,Sem.run Tryz.prog (Op.shift .shr .u64 x .i64 (8*k)) w=.ok (.int .u64 ((x / 2 ^ (8*k):Nat):Int)) w:=fun w=>run_shr_nat w .u64 x (8*k) (by show 8*k<=64;omega) _ (by omega);go_wp2_with (at_builtin;refine wpList_append_own _ rfl _ _ 39 rfl base 5 i0 (.int .u8 0) 1 1 Tryz.underlying39 hi hz0 hz1 hz2 rfl (by decide) _ _ _ rfl (ho.alloc _) ⟨wr.heap.size,0,none⟩ 1 1 [bv (UInt8.ofNat (x / 256 ^ k))] rfl rfl ?c1 ?c2 ?c3 ?c4 ?c5 ?_)
   case c1=>rw [<- bv_shift];exact cell_one_new _ _ _
   case c2=>simp [bv_oneCell]
   case c3=>unfold maxLen;omega
   case c4=>omega
   case c5=>have:=hB.size;simp;omega
   intro v' w1 hown1 hgr _;have hB1:Hid (Below base w w1):=Lib.hid ((hB.alloc (by have:=hB.size;omega) _).grown hgr (by have:=hB.size;simp;omega) (ownsRow_block ho));have ho1:Hid (w1.ownsRow base 5 1 v' (n+(k+1)) ((bs++le x (k+1)).map bv)):=Lib.hid (by simpa [le,Nat.add_assoc] using hown1);clear hown1 hgr ho hB;go_wp2;go_roundw
   case rel=>exact ⟨k+1,by omega,by go_num,ho1.out,hB1.out⟩
   case measure=>simp [intOf];omega
  ·go_wp2_with fail
   obtain rfl:k=size:=by omega
   go_ret;exact ⟨_,rfl,ho,hB⟩
def vertBytes (r l g:Nat):List UInt8:=le r 4++le l 4++le g 4
def edgeBytes (t h w m:Nat):List UInt8:=le t 4++le h 4++le w 8++le m 4
theorem ownsRow_nil (w:World) (base:Nat) (e:TypeId):w.ownsRow base e 1 (.slice none 0 0) 0 []:=⟨rfl, .inl ⟨rfl,rfl⟩⟩
def NewBytes (w:World) (bs:List UInt8) (e:Ending) (w':World):Prop:=
 ∃ v,e=.returned v/\w'.ownsRow w.heap.size 5 1 v bs.length (bs.map bv)/\Below w.heap.size w w'
theorem box_kept {w w':World} {c0 c1 c2:Value} {t:TypeId} (h:Below (w.heap.size+1) (w.alloc (.cells #[c0,c1,c2] t)).drew w') :
 w'.cell? ⟨w.heap.size,0,none⟩=some c0/\w'.cell? ⟨w.heap.size,1,none⟩=some c1/\w'.cell? ⟨w.heap.size,2,none⟩=some c2:=
 ⟨by rw [h.cell (by simp)];simp,by rw [h.cell (by simp)];simp,by rw [h.cell (by simp)];simp⟩
set_option maxHeartbeats 1000000 in
theorem vert_any (r l g:Nat) (w:World) :
 Calls Tryz.prog 78 #[.agg #[.int .u32 r, .int .u32 l, .int .u32 g]] w (NewBytes w (vertBytes r l g)):=by
 go_enter Tryz.func78,Tryz.ntmps78
 go_wp2;go_region_held3 (fun w'=>w'.cell? ⟨w.heap.size,0,none⟩=some (.int .u32 r)/\w'.cell? ⟨w.heap.size,1,none⟩=some (.int .u32 l)/\w'.cell? ⟨w.heap.size,2,none⟩=some (.int .u32 g)) (go_keep)
  (first
    | (go_at_call 118;refine (put32_any (w.heap.size+1) 8 _ (le r 4++le l 4) g 4 _ (by omega) (by omega) (by have:=hb2.size;simp at this;omega) ho2).mono ?_;rintro e w3 ⟨v3,rfl,ho3,hb3⟩;replace hb3:=hb2.trans hb3;have q3:=(box_kept hb3))
    | (go_at_call 118;refine (put32_any (w.heap.size+1) 4 _ (le r 4) l 4 _ (by omega) (by omega) (by have:=hb1.size;simp at this;omega) ho1).mono ?_;rintro e w2 ⟨v2,rfl,ho2,hb2⟩;replace hb2:=hb1.trans hb2;have q2:=(box_kept hb2))
    | (go_at_call 118;refine (put32_any (w.heap.size+1) 0 _ [] r 4 _ (by omega) (by omega) (by simp) (ownsRow_nil _ _ _)).mono ?_;rintro e w1 ⟨v1,rfl,ho1,hb1⟩;have q1:=(box_kept hb1)))
 go_wp2;go_ret;exact ⟨v3,rfl,by simpa [vertBytes,le_length] using ownsRow_base ho3 (Nat.le_succ _),(((Below.refl _ _).alloc (Nat.le_refl _) _).drew).trans (hb3.mono (Nat.le_succ _))⟩
theorem box_kept4 {w w':World} {c0 c1 c2 c3:Value} {t:TypeId} (h:Below (w.heap.size+1) (w.alloc (.cells #[c0,c1,c2,c3] t)).drew w') :
 w'.cell? ⟨w.heap.size,0,none⟩=some c0/\w'.cell? ⟨w.heap.size,1,none⟩=some c1/\w'.cell? ⟨w.heap.size,2,none⟩=some c2/\w'.cell? ⟨w.heap.size,3,none⟩=some c3:=
 ⟨by rw [h.cell (by simp)];simp,by rw [h.cell (by simp)];simp,by rw [h.cell (by simp)];simp,by rw [h.cell (by simp)];simp⟩
set_option maxHeartbeats 2000000 in
theorem edge_any (t h x m:Nat) (w:World) :
 Calls Tryz.prog 208 #[.agg #[.int .u32 t, .int .u32 h, .int .u64 x, .int .u32 m]] w (NewBytes w (edgeBytes t h x m)):=by
 go_enter Tryz.func208,Tryz.ntmps208
 go_wp2;go_region_held3 (fun w'=>w'.cell? ⟨w.heap.size,0,none⟩=some (.int .u32 t)/\w'.cell? ⟨w.heap.size,1,none⟩=some (.int .u32 h)/\w'.cell? ⟨w.heap.size,2,none⟩=some (.int .u64 x)/\w'.cell? ⟨w.heap.size,3,none⟩=some (.int .u32 m)) (go_keep)
  (first
    | (go_at_call 118;refine (put32_any (w.heap.size+1) 4 _ (le t 4) h 4 _ (by omega) (by omega) (by have:=hb1.size;simp at this;omega) ho1).mono ?_;rintro e w2 ⟨v2,rfl,ho2,hb2⟩;replace hb2:=hb1.trans hb2;have q2:=(box_kept4 hb2))
    | (go_at_call 118;refine (put32_any (w.heap.size+1) 0 _ [] t 4 _ (by omega) (by omega) (by simp) (ownsRow_nil _ _ _)).mono ?_;rintro e w1 ⟨v1,rfl,ho1,hb1⟩;have q1:=(box_kept4 hb1)))
 clear q1;obtain ⟨q20,q21,q22,q23⟩:=q2;have hb2':Below (w.heap.size+1) (w.alloc (.cells #[.int .u32 t, .int .u32 h, .int .u64 x, .int .u32 m] 64)).drew w2.drew:=hb2.drew;have ho2':w2.drew.ownsRow (w.heap.size+1) 5 1 v2 (4+4) ((le t 4++le h 4).map bv):=ho2;go_wp2;go_region_held3 (fun w'=>w'.cell? ⟨w.heap.size,0,none⟩=some (.int .u32 t)/\w'.cell? ⟨w.heap.size,1,none⟩=some (.int .u32 h)/\w'.cell? ⟨w.heap.size,2,none⟩=some (.int .u64 x)/\w'.cell? ⟨w.heap.size,3,none⟩=some (.int .u32 m)) (go_keep)
  (first
    | (go_at_call 118;refine (put32_any (w.heap.size+1) 16 _ (le t 4++le h 4++le x 8) m 4 _ (by omega) (by omega) (by have:=hb3.size;simp at this;omega) ho3).mono ?_;rintro e w4 ⟨v4,rfl,ho4,hb4⟩;replace hb4:=hb3.trans hb4;have q4:=(box_kept4 hb4))
    | (go_at_call 256;refine (put64_any (w.heap.size+1) 8 _ (le t 4++le h 4) x 8 _ (by omega) (by omega) (by have:=hb2.size;simp at this ⊢;omega) ho2').mono ?_;rintro e w3 ⟨v3,rfl,ho3,hb3⟩;replace hb3:=hb2'.trans hb3;have q3:=(box_kept4 hb3)))
 go_wp2;go_ret;exact ⟨v4,rfl,by simpa [edgeBytes,le_length] using ownsRow_base ho4 (Nat.le_succ _),(((Below.refl _ _).alloc (Nat.le_refl _) _).drew).trans (hb4.mono (Nat.le_succ _))⟩
def TakePost (q:IntKind) (x:Nat) (v:Value) (bs:List UInt8) (size:Nat) (w:World) (e:Ending) (w':World):Prop:=
 ∃ rest n,e=.returned (.tuple #[.int q x,rest])/\(∀ W,Rd W v bs->Rd W rest (bs.drop size))/\w'=w.drewN n
set_option maxHeartbeats 1000000 in
theorem take32_any (v:Value) (bs:List UInt8) (size:Nat) (w:World) (hs:size<=4) (hl:size<=bs.length) (hv:Rd w v bs) :
 Calls Tryz.prog 91 #[v, .int .i64 size] w (TakePost .u32 (unle (bs.take size)) v bs size w):=by
 obtain ⟨a,cap,rfl,hlc,hcm,hc⟩:=hv;unfold maxLen at hcm;go_enter Tryz.func91,Tryz.ntmps91
 go_wp2;go_loop [4,8] (fun x i=>∃ k:Nat,k<=size/\i=.int .i64 k/\x=.int .u32 (unle (bs.take k))) (fun _ i=>size - (intOf i).toNat)
 case atStart=>exact ⟨0,Nat.zero_le _,rfl,rfl⟩
 case round=>
  obtain ⟨k,hk,rfl,rfl⟩:=hrel;by_cases hlt:k < size
  ·obtain hc | ⟨b,off,rfl,hc⟩:=hc
   ·omega
   have hcell:=hc k (by omega);have hor:=Lib.hid (or32 bs k (by omega) (by omega));unfold bv at hcell;clear hc;go_wp2_with fail
   go_round
   case rel=>exact ⟨k+1,by omega,by go_num,by rw [hor.out]⟩
   case measure=>simp [intOf];omega
  ·obtain rfl:k=size:=by omega
   clear hc;go_wp2_with fail
   go_quiet (fail)
   go_wp2
   ·go_ret2
    exact ⟨_,_,rfl,fun W hW=>(hW.from hl).1 rfl,rfl⟩
   ·go_ret2
    exact ⟨_,_,rfl,fun W hW=>(hW.from hl).2,rfl⟩
set_option maxHeartbeats 1000000 in
theorem take64_any (v:Value) (bs:List UInt8) (size:Nat) (w:World) (hs:size<=8) (hl:size<=bs.length) (hv:Rd w v bs) :
 Calls Tryz.prog 104 #[v, .int .i64 size] w (TakePost .u64 (unle (bs.take size)) v bs size w):=by
 obtain ⟨a,cap,rfl,hlc,hcm,hc⟩:=hv;unfold maxLen at hcm;go_enter Tryz.func104,Tryz.ntmps104
 go_wp2;go_loop [4,8] (fun x i=>∃ k:Nat,k<=size/\i=.int .i64 k/\x=.int .u64 (unle (bs.take k))) (fun _ i=>size - (intOf i).toNat)
 case atStart=>exact ⟨0,Nat.zero_le _,rfl,rfl⟩
 case round=>
  obtain ⟨k,hk,rfl,rfl⟩:=hrel;by_cases hlt:k < size
  ·obtain hc | ⟨b,off,rfl,hc⟩:=hc
   ·omega
   have hcell:=hc k (by omega);have hor:=Lib.hid (or64 bs k (by omega) (by omega));unfold bv at hcell;clear hc;go_wp2_with fail
   go_round
   case rel=>exact ⟨k+1,by omega,by go_num,by simp only [IntKind.wrap_u64];rw [hor.out]⟩
   case measure=>simp [intOf];omega
  ·obtain rfl:k=size:=by omega
   clear hc;go_wp2_with fail
   go_quiet (fail)
   go_wp2
   ·go_ret2
    exact ⟨_,_,rfl,fun W hW=>(hW.from hl).1 rfl,rfl⟩
   ·go_ret2
    exact ⟨_,_,rfl,fun W hW=>(hW.from hl).2,rfl⟩
def Gives (v:Value) (w:World) (e:Ending) (w':World):Prop:=e=.returned v/\Below w.heap.size w w'
set_option maxHeartbeats 1000000 in
theorem readVert_any (v:Value) (bs:List UInt8) (w:World) (hl:bs.length=12) (hv:Rd w v bs) :
 Calls Tryz.prog 58 #[v] w (Gives (.tuple #[.agg #[.int .u32 (unle (bs.take 4)), .int .u32 (unle ((bs.drop 4).take 4)), .int .u32 (unle ((bs.drop 8).take 4))], .int .i64 0]) w):=by
 have hr:Hid (∀ W,Below w.heap.size w W->Rd W v bs):=Lib.hid fun W h=>hv.below h;obtain ⟨a,cap,he,hlc,hcm,hc⟩:=hv;rw [hl] at he hlc;subst he;unfold maxLen at hcm;clear hc;have Hl:=Lib.hid hl;clear hl;go_enter Tryz.func58,Tryz.ntmps58
 go_wp2_with fail
 refine (take32_any _ bs 4 _ (by omega) (by rw [Hl.out];omega) (hr.out _ ((Below.refl _ _).alloc (Nat.le_refl _) _))).mono ?_;rintro e w' ⟨v1,n1,rfl,hv1,rfl⟩;have hV1:=Lib.hid hv1;clear hv1;go_wp2_with fail
 have hd4:(bs.drop 4).length=8:=by rw [List.length_drop,Hl.out]
 refine (take32_any v1 (bs.drop 4) 4 _ (by omega) (by omega) (hV1.out _ (hr.out _ (below_drewN ((Below.refl _ _).alloc (Nat.le_refl _) _) _)))).mono ?_;rintro e w' ⟨v2,n2,rfl,hv2,rfl⟩;have hV2:Hid (∀ W,Rd W (.slice a 12 cap) bs->Rd W v2 (bs.drop 8)):=Lib.hid fun W hW=>by have:=hv2 W (hV1.out W hW);simpa using this
 clear hv2 hV1 hd4;go_wp2_with fail
 have hd8:(bs.drop 8).length=4:=by rw [List.length_drop,Hl.out]
 refine (take32_any v2 (bs.drop 8) 4 _ (by omega) (by omega) (hV2.out _ (hr.out _ (below_drewN ((Below.refl _ _).alloc (Nat.le_refl _) _) _)))).mono ?_;rintro e w' ⟨v3,n3,rfl,hv3,rfl⟩;clear hv3 hV2 hd8;go_wp2_with fail
 go_returns
 exact ⟨rfl,below_drewN ((Below.refl _ _).alloc (Nat.le_refl _) _) _⟩
set_option maxHeartbeats 1000000 in
theorem readEdge_any (v:Value) (bs:List UInt8) (w:World) (hl:bs.length=20) (hv:Rd w v bs) :
 Calls Tryz.prog 68 #[v] w (Gives (.tuple #[.agg #[.int .u32 (unle (bs.take 4)), .int .u32 (unle ((bs.drop 4).take 4)), .int .u64 (unle ((bs.drop 8).take 8)), .int .u32 (unle ((bs.drop 16).take 4))], .int .i64 0]) w):=by
 have hr:Hid (∀ W,Below w.heap.size w W->Rd W v bs):=Lib.hid fun W h=>hv.below h;obtain ⟨a,cap,he,hlc,hcm,hc⟩:=hv;rw [hl] at he hlc;subst he;unfold maxLen at hcm;clear hc;have Hl:=Lib.hid hl;clear hl;go_enter Tryz.func68,Tryz.ntmps68
 go_wp2_with fail
 refine (take32_any _ bs 4 _ (by omega) (by rw [Hl.out];omega) (hr.out _ ((Below.refl _ _).alloc (Nat.le_refl _) _))).mono ?_;rintro e w' ⟨v1,n1,rfl,hv1,rfl⟩;have hV1:=Lib.hid hv1;clear hv1;go_wp2_with fail
 have hd4:(bs.drop 4).length=16:=by rw [List.length_drop,Hl.out]
 refine (take32_any v1 (bs.drop 4) 4 _ (by omega) (by omega) (hV1.out _ (hr.out _ (below_drewN ((Below.refl _ _).alloc (Nat.le_refl _) _) _)))).mono ?_;rintro e w' ⟨v2,n2,rfl,hv2,rfl⟩;have hV2:Hid (∀ W,Rd W (.slice a 20 cap) bs->Rd W v2 (bs.drop 8)):=Lib.hid fun W hW=>by have:=hv2 W (hV1.out W hW);simpa using this
 clear hv2 hV1 hd4;go_wp2_with fail
 have hd8:(bs.drop 8).length=12:=by rw [List.length_drop,Hl.out]
 refine (take64_any v2 (bs.drop 8) 8 _ (by omega) (by omega) (hV2.out _ (hr.out _ (below_drewN ((Below.refl _ _).alloc (Nat.le_refl _) _) _)))).mono ?_;rintro e w' ⟨v3,n3,rfl,hv3,rfl⟩;have hV3:Hid (∀ W,Rd W (.slice a 20 cap) bs->Rd W v3 (bs.drop 16)):=Lib.hid fun W hW=>by have:=hv3 W (hV2.out W hW);simpa using this
 clear hv3 hV2 hd8;go_wp2_with fail
 have hd16:(bs.drop 16).length=4:=by rw [List.length_drop,Hl.out]
 refine (take32_any v3 (bs.drop 16) 4 _ (by omega) (by omega) (hV3.out _ (hr.out _ (below_drewN ((Below.refl _ _).alloc (Nat.le_refl _) _) _)))).mono ?_;rintro e w' ⟨v4,n4,rfl,hv4,rfl⟩;clear hv4 hV3 hd16;go_wp2_with fail
 go_returns
 exact ⟨rfl,below_drewN ((Below.refl _ _).alloc (Nat.le_refl _) _) _⟩
def crcStep (x:Nat):Nat:=(x / 2) ^^^ (2197175160*(x % 2))
def crcSteps:Nat->Nat->Nat
 | 0,x=>x
 | k+1,x=>crcStep (crcSteps k x)
def crcTab (i:Nat):Nat:=crcSteps 8 i
theorem crcStep_lt (x:Nat) (h:x < 4294967296):crcStep x < 4294967296:=by
 unfold crcStep;have h1:x / 2 < 2 ^ 32:=by omega
 have h2:2197175160*(x % 2) < 2 ^ 32:=by omega
 exact Nat.xor_lt_two_pow h1 h2
theorem crcSteps_lt (k x:Nat) (h:x < 4294967296):crcSteps k x < 4294967296:=by
 induction k with
 | zero=>exact h
 | succ k ih=>exact crcStep_lt _ ih
theorem step_bits (x:Nat) (h:x < 4294967296) :
 bits BinOp.xor IntKind.u32 ((x:Int) / 2) (2197175160*bits BinOp.and IntKind.u32 x 1 % 4294967296)=(crcStep x:Int):=by
 have e0:=(bits_nat .u32 32 (by decide) wraps_u32 x 1 h (by decide)).1;rw [Nat.and_one_is_mod] at e0;have e1:bits BinOp.and IntKind.u32 (x:Int) 1=((x % 2:Nat):Int):=e0;have e2:(2197175160*((x % 2:Nat):Int) % 4294967296)=((2197175160*(x % 2):Nat):Int):=by omega
 have e3:(x:Int) / 2=((x / 2:Nat):Int):=by omega
 rw [e1,e2,e3,bits_xor_nat .u32 32 (by decide) wraps_u32 _ _ (by omega) (by omega)];rfl
def tabAt (k i:Nat):Value:=if i < k then .int .u32 (crcTab i) else .int .u32 0
def tabCells (k:Nat):Array Value:=((List.range 256).map (tabAt k)).toArray
theorem tabCells_size (k:Nat):(tabCells k).size=256:=by simp [tabCells]
theorem tabCells_get (k i:Nat) (h:i < 256):(tabCells k)[i]? = some (tabAt k i):=by simp [tabCells,h]
theorem tabCells_set (k:Nat):(tabCells k).setIfInBounds k (.int .u32 (crcTab k))=tabCells (k+1):=by
 apply Array.ext
 ·simp [tabCells]
 ·intro i h1 h2;simp only [Array.size_setIfInBounds,tabCells_size] at h1;rw [Array.getElem_setIfInBounds]
  ·simp only [tabCells,List.getElem_toArray,List.getElem_map,List.getElem_range,tabAt];split
   ·rename_i e;subst e;simp
   ·by_cases h3:i < k
    ·simp [h3,show i < k+1 by omega]
    ·simp [h3,show ¬ i < k+1 by omega]
  ·rw [tabCells_size];exact h1
theorem tabCells_one (k:Nat):(tabCells k).all (·.oneCell')=true:=by
 rw [Array.all_eq_true];intro i h;simp only [tabCells,List.getElem_toArray,List.getElem_map,tabAt];split<;>rfl
theorem tabCells_zero:Tryz.zeroCells383=tabCells 0:=by kernel_rfl
set_option maxRecDepth 100000 in
set_option maxHeartbeats 1000000 in
theorem table_any (w:World):Calls Tryz.prog 304 #[] w fun e w'=>e=.returned (.agg (tabCells 256))/\Below w.heap.size w w':=by
 go_enter Tryz.func304,Tryz.ntmps304
 go_wp2_with fail
 rw [tabCells_zero];go_loopw [3] (fun i wr=>∃ k:Nat,k<=256/\i=.int .i64 k/\wr=w.alloc (.cells (tabCells k) 383)) (fun i _=>256 - (intOf i).toNat)
 case atStart=>exact ⟨0,by omega,rfl,rfl⟩
 case round=>
  obtain ⟨k,hk,rfl,rfl⟩:=hrel;by_cases hlt:k < 256
  ·have hk32:Hid (k < 4294967296):=Lib.hid (by omega);go_wp2_with fail
   go_loop [2,8] (fun x j=>∃ m:Nat,m<=8/\j=.int .i64 m/\x=.int .u32 (crcSteps m k)) (fun _ j=>8 - (intOf j).toNat)
   case atStart=>exact ⟨0,by omega,rfl,rfl⟩
   case round=>
    obtain ⟨m,hm,rfl,rfl⟩:=hrel;by_cases hml:m < 8
    ·have hx:=Lib.hid (step_bits _ (crcSteps_lt m k hk32.out));go_wp2_with fail
     go_round
     case rel=>exact ⟨m+1,by omega,by go_num,by rw [hx.out];rfl⟩
     case measure=>simp [intOf];omega
    ·obtain rfl:m=8:=by omega
     have hg:(tabCells k)[k]? = some (.int .u32 0):=by rw [tabCells_get k k hlt];simp [tabAt]
     go_wp2_with fail
     go_roundw
     case rel=>exact ⟨k+1,by omega,by go_num,by rw [<- tabCells_set k];rfl⟩
     case measure=>simp [intOf];omega
  ·obtain rfl:k=256:=by omega
   have hz:(Tryz.prog.info? 383).map (·.size)=some (tabCells 256).size:=by rw [tabCells_size];kernel_rfl
   have hh:(w.alloc (.cells (tabCells 256) 383)).heap[w.heap.size]? = some (.cells (tabCells 256) 383 (0,0)):=heap_alloc_new _ _;have Hz:=Lib.hid hz;have Hh:=Lib.hid hh;clear hz hh;go_wp2_with (first
    | refine wpList_load_row rfl 383 _ rfl w.heap.size rfl 383 (tabCells 256) (0,0) _ Hh.out Tryz.underlying383 rfl Hz.out ?_
    | (refine wpList_store_row rfl 383 _ _ rfl w.heap.size (tabCells 256) rfl rfl 383 (tabCells 256) Hh.out Hz.out rfl (tabCells_one 256) ?_;rw [World.setRow_alloc_new]))
   refine bodyPost_ret (results_cell_row rfl _ _ w.heap.size 383 (tabCells 256) (0,0) _ rfl Hh.out Tryz.underlying383 rfl Hz.out) rfl ?_;exact ⟨rfl,(Below.refl _ _).alloc (Nat.le_refl _) _⟩
def crcExt (x:Nat) (b:UInt8):Nat:=(x / 256) ^^^ crcTab ((x % 256) ^^^ b.toNat)
def crcOf (bs:List UInt8):Nat:=4294967295 - bs.foldl crcExt 4294967295
theorem crcExt_lt (x:Nat) (b:UInt8) (h:x < 4294967296):crcExt x b < 4294967296:=by
 have hb:b.toNat < 2 ^ 8:=b.toNat_lt;have h1:x / 256 < 2 ^ 32:=by omega
 have h3:x % 256 ^^^ b.toNat < 2 ^ 8:=Nat.xor_lt_two_pow (by omega) hb;have h2:crcTab ((x % 256) ^^^ b.toNat) < 2 ^ 32:=crcSteps_lt 8 _ (by omega);exact Nat.xor_lt_two_pow h1 h2
theorem crcFold_lt (bs:List UInt8) (x:Nat) (h:x < 4294967296):bs.foldl crcExt x < 4294967296:=by
 induction bs generalizing x with
 | nil=>exact h
 | cons b bs ih=>exact ih _ (crcExt_lt x b h)
theorem crcOf_lt (bs:List UInt8):crcOf bs < 4294967296:=by unfold crcOf;omega
theorem not_bits (x:Nat) (h:x < 4294967296):bits BinOp.xor IntKind.u32 IntKind.u32.max (x:Int)=((4294967295 - x:Nat):Int):=by
 have e:IntKind.u32.max=((4294967295:Nat):Int):=by decide
 have e2:(4294967295 ^^^ x:Nat)=4294967295 - x:=by
  have h1:(~~~ (BitVec.ofNat 32 x)).toNat=2 ^ 32 - 1 - x:=by rw [BitVec.toNat_not,BitVec.toNat_ofNat,Nat.mod_eq_of_lt (by omega)]
  have h2:(BitVec.allOnes 32 ^^^ BitVec.ofNat 32 x).toNat=4294967295 ^^^ x:=by rw [BitVec.toNat_xor,BitVec.toNat_allOnes,BitVec.toNat_ofNat,Nat.mod_eq_of_lt (by omega)]
  rw [BitVec.allOnes_xor,h1] at h2;omega
 rw [e,bits_xor_nat .u32 32 (by decide) wraps_u32 _ _ (by decide) h,e2]
set_option maxRecDepth 100000 in
set_option maxHeartbeats 1000000 in
theorem extend_any (v:Value) (bs:List UInt8) (w:World) (hv:Rd w v bs) :
 Calls Tryz.prog 289 #[.int .u32 0,v] w fun e w'=>e=.returned (.int .u32 (crcOf bs))/\Below w.heap.size w w':=by
 have hr:Hid (∀ W,Below w.heap.size w W->Rd W v bs):=Lib.hid fun W h=>hv.below h;obtain ⟨a,cap,rfl,hlc,hcm,hc⟩:=hv;clear hc;unfold maxLen at hcm;go_enter Tryz.func289,Tryz.ntmps289
 go_wp2_with fail
 refine (table_any _).mono ?_;rintro e w1 ⟨rfl,hb1⟩;have hz:(Tryz.prog.info? 383).map (·.size)=some (tabCells 256).size:=by rw [tabCells_size];kernel_rfl
 have Hz:=Lib.hid hz;clear hz;have hB1:Hid (Below w.heap.size w (w1.alloc (.cells (tabCells 256) 383))):=Lib.hid (hb1.alloc hb1.size _);have hR:=Lib.hid (hr.out _ hB1.out);clear hb1 hr;go_wp2_with (first
  | (refine wpList_store_row rfl 383 _ _ rfl w1.heap.size (tabCells 256) rfl rfl 383 Tryz.zeroCells383 (heap_alloc_new _ _) Hz.out rfl (tabCells_one 256) ?_;rw [World.setRow_alloc_new]))
 go_loop [6,13] (fun x i=>∃ k:Nat,k<=bs.length/\i=.int .i64 k/\x=.int .u32 (((bs.take k).foldl crcExt 4294967295:Nat):Int)) (fun _ i=>bs.length - (intOf i).toNat)
 case atStart=>exact ⟨0,by omega,rfl,by rw [show ((0:Int))=((0:Nat):Int) from rfl,not_bits 0 (by omega)];rfl⟩
 case round=>
  obtain ⟨k,hk,rfl,rfl⟩:=hrel;by_cases hlt:k < bs.length
  ·obtain ⟨a',cap',he,_,_,hc⟩:=hR.out;simp only [Value.slice.injEq] at he;obtain ⟨rfl,_,rfl⟩:=he;obtain hc | ⟨b,off,rfl,hc⟩:=hc
   ·omega
   have hcell:=hc k hlt;unfold bv at hcell;have hX:=Lib.hid (crcFold_lt (bs.take k) 4294967295 (by omega));have hstep:Hid ((bs.take (k+1)).foldl crcExt 4294967295=((bs.take k).foldl crcExt 4294967295) / 256 ^^^ crcTab (((bs.take k).foldl crcExt 4294967295) % 256 ^^^ bs[k].toNat)):=Lib.hid (by rw [List.take_succ_eq_append_getElem hlt,List.foldl_append];rfl);clear hc;generalize (bs.take k).foldl crcExt 4294967295=X at *;have hb8:bs[k].toNat < 256:=bs[k].toNat_lt;generalize bs[k].toNat=B at *;have hY:X % 256 ^^^ B < 256:=Nat.xor_lt_two_pow (n:=8) (by omega) (by omega);have hx8:bits BinOp.xor IntKind.u8 ((X:Int) % 256) B=((X % 256 ^^^ B:Nat):Int):=by
    rw [show (X:Int) % 256=((X % 256:Nat):Int) by omega,bits_xor_nat .u8 8 (by decide) wraps_u8 _ _ (by omega) (by omega)]
   have hT:crcTab (X % 256 ^^^ B) < 4294967296:=crcSteps_lt 8 (X % 256 ^^^ B) (by omega);have hg:(tabCells 256)[X % 256 ^^^ B]? = some (.int .u32 (crcTab (X % 256 ^^^ B))):=by rw [tabCells_get _ _ hY];unfold tabAt;rw [if_pos hY]
   have hx32:Hid (bits BinOp.xor IntKind.u32 ((X:Int) / 256) (crcTab (X % 256 ^^^ B))=((X / 256 ^^^ crcTab (X % 256 ^^^ B):Nat):Int)):=Lib.hid (by
    have:=hX.out;rw [show (X:Int) / 256=((X / 256:Nat):Int) by omega,bits_xor_nat .u32 32 (by decide) wraps_u32 _ _ (by omega) hT])
   clear hT;generalize X % 256 ^^^ B=Y at *;go_wp2_with fail
   go_round
   case rel=>exact ⟨k+1,by omega,by go_num,by rw [hx32.out,hstep.out]⟩
   case measure=>simp [intOf];omega
  ·obtain rfl:k=bs.length:=by omega
   have hX:=Lib.hid (crcFold_lt bs 4294967295 (by omega));rw [List.take_length];go_wp2_with fail
   go_ret;refine ⟨?_,hB1.out⟩;unfold crcOf;rw [<- not_bits _ hX.out];rfl
set_option maxHeartbeats 400000 in
theorem sum_any (v:Value) (bs:List UInt8) (w:World) (hv:Rd w v bs) :
 Calls Tryz.prog 257 #[v] w fun e w'=>e=.returned (.int .u32 (crcOf bs))/\Below w.heap.size w w':=by
 go_enter Tryz.func257,Tryz.ntmps257
 go_wp2_with fail
 refine (extend_any v bs _ hv).mono ?_;rintro e w1 ⟨rfl,hb1⟩;go_wp2_with fail
 go_ret;exact ⟨rfl,hb1⟩
theorem zeroCells_list (z:Value) (k:Nat):(Builtin.zeroCells #[z] k).toList=List.replicate k z:=by
 apply List.ext_getElem
 ·simp [Builtin.zeroCells]
 ·intro i h1 h2;simp [Builtin.zeroCells,Nat.mod_one]
theorem ownsRow_made {w0:World} {base n cap:Nat} {e:TypeId} {xs:List Value} {rest:Array Value} (hx:xs.length=n) (hb:base<=w0.heap.size) (hc:n<=cap) (hm:cap<=maxLen) (hr:rest.size=cap - n) :
 (w0.alloc (.cells (xs.toArray++rest) e)).ownsRow base e 1 (.slice (some ⟨w0.heap.size,0,none⟩) n cap) n xs:=
 ⟨by omega, .inr ⟨w0.heap.size,cap,_,rfl,hb,heap_alloc_new _ _,hc,hm,by simp [hr];omega,by simp [hx]⟩⟩
theorem run_append_zeros {P:Program} (w:World) (base:Nat) (t tn ty e:TypeId) (i:TypeInfo) (z:Value) (kn:IntKind) (ht:P.underlying t=some (.slice e)) (htn:P.underlying tn=some (.int kn)) (hi:P.info? e=some i) (hz:i.zero=some z)
 (hsize:i.size=1) (hby:i.bytes=1) (hzs:z.cells=#[z]) (hz1:z.oneCell'=true)
 (v:Value) (n:Nat) (xs:List Value) (hown:w.ownsRow base e 1 v n xs) (k:Nat) (hk:n+k<=1073741824) (hbase:base<=w.heap.size) :
 ∃ v' w',(Builtin.append_ #[t,tn] ty #[v, .int .i64 k]).run P w=.ok v' w'/\w'.ownsRow base e 1 v' (n+k) (xs++List.replicate k z)/\w.grownBy w' v.ownBlock /\
  (v'=.slice none 0 0 ↔ v=.slice none 0 0/\k=0)/\(v'.ownBlock=v.ownBlock\/v'.ownBlock=some w.heap.size):=by
 have hw:IntKind.i64.wrap (k:Int)=k:=by rw [IntKind.wrap_i64];omega
 have hw0:IntKind.i64.wrap 0=0:=by decide
 have hneg:¬ ((k:Int) < 0):=by omega
 have h48i:¬ (281474976710656 < (k:Int)):=by omega
 have hxl:xs.length=n:=by have:=hown.1;omega
 have hgc:∀ old,grownCap w (n+k) old e<=maxLen:=fun old=>grownCap_le_maxLen w (n+k) old e (by unfold maxLen;omega);have hge:∀ old,n+k<=grownCap w (n+k) old e:=fun old=>grownCap_ge w (n+k) old e;rcases hown.2 with ⟨rfl,h0⟩ | ⟨g,cap,cur,rfl,hbg,hg,hnc,hcm,hcs,htake⟩
 ·obtain rfl:n=0:=h0;obtain rfl:xs=[]:=List.eq_nil_of_length_eq_zero hxl;by_cases hk0:k=0
  ·subst hk0;refine ⟨.slice none 0 0,w,?_,World.ownsRow_nil w base e 1,⟨rfl,rfl,rfl,Nat.le_refl _,fun _ _ _=>rfl⟩,by simp, .inl rfl⟩;simp [Builtin.append_,run_underlying ht,run_underlying htn,sizeOf,typeInfo,hi,asInt,asIntOf,hw0]
  ·have hr:=Lib.run_append_nil_zeros (P:=P) w t tn ty e i z .i64 kn ht htn hi hz k (by omega) (by omega) (by omega) (by rw [hby];omega);refine ⟨_,_,hr,?_,⟨rfl,rfl,rfl,by simp,fun j hj _=>heap_alloc_old w.drew _ hj⟩,by simp [hk0], .inr rfl⟩;have hz2:Builtin.zeroCells z.cells k=(List.replicate k z).toArray:=by rw [hzs];apply Array.ext';rw [zeroCells_list]
   rw [hz2];have:=ownsRow_made (w0:=w.drew) (base:=base) (n:=k) (cap:=grownCap w k 0 e) (e:=e) (xs:=List.replicate k z) (rest:=Builtin.zeroCells z.cells (grownCap w k 0 e - k)) (by simp) hbase (by have:=hge 0;simpa using this) (by have:=hgc 0;simpa using this) (by rw [hzs,size_zeroCells];simp);simpa using this
 ·by_cases hroom:n+k<=cap
  ·have hzc:(Builtin.zeroCells z.cells k).toList=List.replicate k z:=by rw [hzs];exact zeroCells_list z k
   have hst:=run_storeCells_at (P:=P) g n e (List.replicate k z) 0 cur w hg (by simp;omega) (fun v hv=>by rw [List.eq_of_mem_replicate hv];exact hz1);simp only [Nat.add_zero,List.length_replicate] at hst;have hadd:(⟨g,0,none⟩:Addr).add n=⟨g,n,none⟩:=by rw [Addr_add];simp
   have hf:n+(List.replicate k z).length<=cur.size:=by simp;omega
   refine ⟨.slice (some ⟨g,0,none⟩) (n+k) cap,w.setRow g (cur.toList.take n++List.replicate k z++cur.toList.drop (n+k)).toArray,?_,⟨by simp;omega, .inr ⟨g,cap,_,rfl,hbg,setRow_heap w g cur _ e _ hg,hroom,hcm,?_,?_⟩⟩,⟨rfl,rfl,rfl,by simp,fun j _ hj=>setRow_other w g j _ (fun e=>hj (by simp [Value.ownBlock,e]))⟩,by simp, .inl rfl⟩
   ·by_cases hk0:k=0
    ·subst hk0;simp only [List.replicate_zero,Nat.add_zero,List.append_nil,List.take_append_drop,Array.toArray_toList,setRow_self w g cur e (0,0) hg];have hst0:(storeCells ⟨g,n,none⟩ []).run P w=.ok () w:=rfl;simp [Builtin.append_,run_underlying ht,run_underlying htn,sizeOf,typeInfo,hi,asInt,asIntOf,hw0,hsize,hnc,hadd,hst0]
    ·simp [Builtin.append_,run_underlying ht,run_underlying htn,sizeOf,typeInfo,zeroValue,hi,hz,asInt,asIntOf,hw,hneg,h48i,hsize,hby,hroom,hadd,hk0,hzc,hst]
   ·simp only [List.size_toArray,List.length_append,List.length_take,List.length_drop,Array.length_toList,List.length_replicate];omega
   ·have hl:(cur.toList.take n++List.replicate k z).length=(n+k)*1:=by simp;omega
    have hx2:cur.toList.take n=xs:=by simpa using htake
    rw [<- hl];show List.take _ (_++_)=_;rw [List.take_left,hx2]
  ·have holds:∀ j u,xs[j]? = some u->w.cell? ((⟨g,0,none⟩:Addr).add j)=some u:=hown.cells (g:=g) rfl;have hfc:=run_firstCells_some (P:=P) w.drew i.size n ⟨g,0,none⟩ n cap xs (by rw [hsize];omega) holds;have hr:=Lib.run_append_grow_zeros (P:=P) w t tn ty e i z .i64 kn ht htn hi hz (some ⟨g,0,none⟩) n cap xs hfc k (by omega) (by omega) (by omega) (by omega) (by rw [hby];omega) (growslice_fits (by omega) (by rw [hby];omega));refine ⟨_,_,hr,?_,⟨rfl,rfl,rfl,by simp,fun j hj _=>heap_alloc_old w.drew _ hj⟩,by simp, .inr rfl⟩;have hz2:Builtin.zeroCells z.cells k=(List.replicate k z).toArray:=by rw [hzs];apply Array.ext';rw [zeroCells_list]
   rw [hz2];have:=ownsRow_made (w0:=w.drew) (base:=base) (n:=n+k) (cap:=grownCap w (n+k) cap e) (e:=e) (xs:=xs++List.replicate k z) (rest:=Builtin.zeroCells z.cells (grownCap w (n+k) cap e - (n+k))) (by simp [hxl]) hbase (hge cap) (hgc cap) (by rw [hzs,size_zeroCells];simp);rw [show xs.toArray++(List.replicate k z).toArray=(xs++List.replicate k z).toArray by simp];exact this
theorem wpList_append_rd {P:Program} {w:World} {ops:Array Oper} {rest:List Oper} {o:Oper} {a:Act} {Q:Exit->Act->World->Prop} (hgd:o.guard=none) (s x:Operand) (t:TypeId)
 (ho:o.op=.call { callee:=.builtin .append,args:=#[s,x],argTypes:=#[t,t] })
 (base:Nat) (e:TypeId) (ht:P.underlying t=some (.slice e)) (hi:(P.info? e).map (fun i=>(i.zero,i.size,i.bytes))=some (some (.int .u8 0),1,1))
 (v:Value) (n:Nat) (xs:List Value) (hs:a.eval s=v) (hown:w.ownsRow base e 1 v n xs) (vx:Value) (bs:List UInt8) (hx:a.eval x=vx) (hr:Rd w vx bs)
 (hl:n+bs.length<=1073741824) (hbase:base<=w.heap.size)
 (h:∀ v' w',w'.ownsRow base e 1 v' (n+bs.length) (xs++bs.map bv)->w.grownBy w' v.ownBlock->(v'.ownBlock=v.ownBlock\/v'.ownBlock=some w.heap.size)->wpList P ops Q rest (a.put o.dst v') w') :
 wpList P ops Q (o::rest) a w:=by
 obtain ⟨i0,hi,hz0,hz1,hz2⟩:=info_parts hi;refine wpList_plain hgd fun K hK=>?_;have hrun:∃ v' w',(Builtin.append_ #[t,t] o.type #[v,vx]).run P w=.ok v' w'/\w'.ownsRow base e 1 v' (n+bs.length) (xs++bs.map bv)/\w.grownBy w' v.ownBlock/\(v'.ownBlock=v.ownBlock\/v'.ownBlock=some w.heap.size):=by
  obtain ⟨ad,cap,rfl,hlc,hcm,hc⟩:=hr;cases ad with
  | none=>
    have h0:bs=[]:=by
     rcases hc with hc | ⟨b,off,ha,_⟩
     ·exact List.length_eq_zero_iff.1 hc
     ·cases ha
    subst h0;refine ⟨v,w,?_,by simpa using hown,⟨rfl,rfl,rfl,Nat.le_refl _,fun _ _ _=>rfl⟩, .inl rfl⟩;rcases hown.2 with ⟨rfl,h0⟩ | ⟨g,cp,cur,rfl,hbg,hg,hnc,hcm',hcs,htake⟩
    ·simp [Builtin.append_,run_underlying ht,sizeOf,typeInfo,hi,Builtin.lenOf,Builtin.firstCells]
    ·have hst0:∀ ad,(storeCells ad []).run P w=.ok () w:=fun _=>rfl;simp [Builtin.append_,run_underlying ht,sizeOf,typeInfo,hi,Builtin.lenOf,Builtin.firstCells,hnc,hst0]
  | some ad=>
    have hnews:=Rd.news (w:=w) (w':=w) (ad:=ad) (n:=bs.length) (cap:=cap) (bs:=bs) ⟨some ad,cap,rfl,hlc,hcm,hc⟩ (fun _ _ _ h=>h);obtain ⟨v',w',h1,h2,h3,h4,h5⟩:=run_append_own_at (P:=P) w base t o.type e i0 (.int .u8 0) 1 1 ht hi hz0 hz1 hz2 rfl (by decide) v n xs hown ad bs.length cap (bs.map bv) (by simp) hnews (by simp [bv_oneCell]) (by unfold maxLen;omega) (by omega) hbase;exact ⟨v',w',h1,h2,h3,h5⟩
 obtain ⟨v',w',h1,h2,h3,h4⟩:=hrun;unfold Oper.wp execOp;simp only [ho,resolve,invoke,builtin,Sem.run_bind,Sem.run_pure,Result.andThen_ok,List.map_toArray,List.map_cons,List.map_nil,hs,hx,h1];exact hK _ _ (h v' w' h2 h3 h4)
theorem wpList_append_zeros {P:Program} {w:World} {ops:Array Oper} {rest:List Oper} {o:Oper} {a:Act} {Q:Exit->Act->World->Prop} (hgd:o.guard=none) (s x:Operand) (t tn:TypeId) (kn:IntKind)
 (ho:o.op=.call { callee:=.builtin .append,args:=#[s,x],argTypes:=#[t,tn] })
 (base:Nat) (e:TypeId) (ht:P.underlying t=some (.slice e)) (htn:P.underlying tn=some (.int kn)) (hi:(P.info? e).map (fun i=>(i.zero,i.size,i.bytes))=some (some (.int .u8 0),1,1))
 (v:Value) (n:Nat) (xs:List Value) (hs:a.eval s=v) (hown:w.ownsRow base e 1 v n xs) (k:Nat) (hx:a.eval x=.int .i64 k)
 (hl:n+k<=1073741824) (hbase:base<=w.heap.size)
 (h:∀ v' w',w'.ownsRow base e 1 v' (n+k) (xs++(List.replicate k (0:UInt8)).map bv)->w.grownBy w' v.ownBlock->(v'.ownBlock=v.ownBlock\/v'.ownBlock=some w.heap.size)->wpList P ops Q rest (a.put o.dst v') w') :
 wpList P ops Q (o::rest) a w:=by
 obtain ⟨i0,hi,hz0,hz1,hz2⟩:=info_parts hi;refine wpList_plain hgd fun K hK=>?_;obtain ⟨v',w',h1,h2,h3,_,h4⟩:=run_append_zeros (P:=P) w base t tn o.type e i0 (.int .u8 0) kn ht htn hi hz0 hz1 hz2 rfl rfl v n xs hown k hl hbase;rw [show List.replicate k (Value.int .u8 0)=(List.replicate k (0:UInt8)).map bv by simp [bv]] at h2;unfold Oper.wp execOp;simp only [ho,resolve,invoke,builtin,Sem.run_bind,Sem.run_pure,Result.andThen_ok,List.map_toArray,List.map_cons,List.map_nil,hs,hx,h1];exact hK _ _ (h v' w' h2 h3 h4)
theorem ownsRow_new0 (w:World):(w.alloc (.cells #[] 5)).ownsRow w.heap.size 5 1 (.slice (some ⟨w.heap.size,0,none⟩) 0 0) 0 []:=
 ⟨rfl, .inr ⟨w.heap.size,0,#[],rfl,Nat.le_refl _,heap_alloc_new _ _,Nat.le_refl _,by unfold maxLen;omega,rfl,rfl⟩⟩
set_option maxRecDepth 100000 in
set_option maxHeartbeats 1000000 in
theorem clone_any (v:Value) (bs:List UInt8) (w:World) (hv:Rd w v bs) (hl:bs.length<=140737488355328) :
 Calls Tryz.prog 50 #[v] w (NewBytes w bs):=by
 obtain ⟨i0,hi,hz0,hz1,hz2⟩:=info_parts info_u8;obtain ⟨a,cap,rfl,hlc,hcm,hc⟩:=hv;have Hl:=Lib.hid hl;have Hm:=Lib.hid hcm;have Hc:=Lib.hid hlc;clear hl hcm hlc;have hn:=fun (W:World) (a:Option Addr) (n c:Nat)=>Lib.run_eql_slice_nil (P:=Tryz.prog) W 39 5 a n c 0 0 Tryz.underlying39;cases a with
 | none=>
   have h0:bs=[]:=by
    rcases hc with hc | ⟨b,off,ha,_⟩
    ·exact List.length_eq_zero_iff.1 hc
    ·cases ha
   subst h0;clear hc;go_enter Tryz.func50,Tryz.ntmps50
   go_wp2_with fail
   go_ret;exact ⟨_,rfl,ownsRow_nil _ _ _,Below.refl _ _⟩
 | some ad=>
   have HC:Hid (∀ j u,(bs.map bv)[j]? = some u->(w.alloc (.cells #[] 5)).cell? (ad.add j)=some u):=Lib.hid fun j u hj=>by
    rcases hc with hc | ⟨b,off,ha,hc⟩
    ·have:bs=[]:=List.length_eq_zero_iff.1 hc;subst this;simp at hj
    ·cases ha;rw [List.getElem?_map] at hj;by_cases hjl:j < bs.length
     ·rw [List.getElem?_eq_getElem hjl] at hj;simp only [Option.map_some,Option.some.injEq] at hj;subst hj;have:=hc j hjl;rw [Addr.add_mid,World.cell?_alloc_lt _ _ _ (World.block_lt_of_cell? _ _ this)];exact this
     ·rw [List.getElem?_eq_none (by omega)] at hj;simp at hj
   clear hc;go_enter Tryz.func50,Tryz.ntmps50
   go_wp2_with (at_builtin;refine wpList_append_own _ rfl _ _ 39 rfl w.heap.size 5 i0 (.int .u8 0) 1 1 Tryz.underlying39 hi hz0 hz1 hz2 rfl (by decide) _ _ _ rfl (ownsRow_new0 w) ad bs.length cap (bs.map bv) rfl ?c1 HC.out ?c2 ?c3 ?c4 ?c5 ?_)
   case c1=>simp
   case c2=>simp [bv_oneCell]
   case c3=>have:=Hl.out;unfold maxLen;omega
   case c4=>have:=Hl.out;omega
   case c5=>simp
   intro v' w1 hown1 hgr _;have hB1:Hid (Below w.heap.size w w1):=Lib.hid (((Below.refl _ _).alloc (Nat.le_refl _) _).grown hgr (by simp) (fun k hk=>by cases hk;exact Nat.le_refl _));have ho1:Hid (w1.ownsRow w.heap.size 5 1 v' bs.length (bs.map bv)):=Lib.hid (by simpa using hown1);clear hown1 hgr;go_wp2;go_ret;exact ⟨v',rfl,ho1.out,hB1.out⟩
set_option maxHeartbeats 1000000 in
theorem sized4_any (w:World):Calls Tryz.prog 294 #[.int .i64 4] w fun e w'=>e=.returned (.bool true)/\Below w.heap.size w w':=by
 go_enter Tryz.func294,Tryz.ntmps294
 go_wp2;go_rounds 4
 go_ret;exact ⟨rfl,(Below.refl _ _).alloc (Nat.le_refl _) _⟩
set_option maxHeartbeats 1000000 in
theorem sized2_any (w:World):Calls Tryz.prog 294 #[.int .i64 2] w fun e w'=>e=.returned (.bool true)/\Below w.heap.size w w':=by
 go_enter Tryz.func294,Tryz.ntmps294
 go_wp2;go_rounds 3
 go_ret;exact ⟨rfl,(Below.refl _ _).alloc (Nat.le_refl _) _⟩
set_option maxHeartbeats 1000000 in
theorem Put4_any (v:Value) (bs:List UInt8) (x:Nat) (w:World) (hv:Rd w v bs) (hl:bs.length<=1000000) :
 Calls Tryz.prog 265 #[v, .int .u64 x, .int .i64 4] w (NewBytes w (bs++le x 4)):=by
 go_enter Tryz.func265,Tryz.ntmps265
 go_wp2_with fail
 refine (clone_any v bs _ hv (by omega)).mono ?_;rintro e w1 ⟨v1,rfl,ho1,hb1⟩;go_wp2_with fail
 refine (sized4_any _).mono ?_;rintro e w2 ⟨rfl,hb2⟩;have ho2:w2.ownsRow w.heap.size 5 1 v1 bs.length (bs.map bv):=ownsRow_below ho1 hb2;have hB2:=hb1.trans (hb2.mono hb1.size);go_wp2_with fail
 refine (put64_any w.heap.size bs.length v1 bs x 4 _ (by omega) (by omega) hB2.size ho2).mono ?_;rintro e w3 ⟨v3,rfl,ho3,hb3⟩;go_wp2_with fail
 go_ret;exact ⟨v3,rfl,by simpa [le_length] using ho3,hB2.trans hb3⟩
set_option maxHeartbeats 1000000 in
theorem Put2_any (v:Value) (bs:List UInt8) (x:Nat) (w:World) (hv:Rd w v bs) (hl:bs.length<=1000000) :
 Calls Tryz.prog 265 #[v, .int .u64 x, .int .i64 2] w (NewBytes w (bs++le x 2)):=by
 go_enter Tryz.func265,Tryz.ntmps265
 go_wp2_with fail
 refine (clone_any v bs _ hv (by omega)).mono ?_;rintro e w1 ⟨v1,rfl,ho1,hb1⟩;go_wp2_with fail
 refine (sized2_any _).mono ?_;rintro e w2 ⟨rfl,hb2⟩;have ho2:w2.ownsRow w.heap.size 5 1 v1 bs.length (bs.map bv):=ownsRow_below ho1 hb2;have hB2:=hb1.trans (hb2.mono hb1.size);go_wp2_with fail
 refine (put64_any w.heap.size bs.length v1 bs x 2 _ (by omega) (by omega) hB2.size ho2).mono ?_;rintro e w3 ⟨v3,rfl,ho3,hb3⟩;go_wp2_with fail
 go_ret;exact ⟨v3,rfl,by simpa [le_length] using ho3,hB2.trans hb3⟩
set_option maxHeartbeats 1000000 in
theorem number4_any (v:Value) (bs:List UInt8) (k:Nat) (w:World) (hv:Rd w v bs) (hl:k+4<=bs.length) (hb:bs.length<=1000000) :
 Calls Tryz.prog 278 #[v, .int .i64 k, .int .i64 4] w fun e w'=>e=.returned (.int .u64 (unle ((bs.drop k).take 4)))/\Below w.heap.size w w':=by
 have hr:Hid (∀ W,Below w.heap.size w W->Rd W v bs):=Lib.hid fun W h=>hv.below h;obtain ⟨a,cap,rfl,hlc,hcm,hc⟩:=hv;clear hc;unfold maxLen at hcm;go_enter Tryz.func278,Tryz.ntmps278
 go_wp2_with fail
 go_in
 go_wp2_with fail
 refine (sized4_any _).mono ?_;rintro e w1 ⟨rfl,hb1⟩;go_wp2_with fail
 refine (take64_any _ (bs.drop k) 4 _ (by omega) (by rw [List.length_drop];omega) ((hr.out _ hb1).from (by omega)).2).mono ?_;rintro e w2 ⟨v2,n2,rfl,_,rfl⟩;go_wp2_with fail
 go_ret;exact ⟨rfl,below_drewN hb1 _⟩
set_option maxHeartbeats 1000000 in
theorem number2_any (v:Value) (bs:List UInt8) (k:Nat) (w:World) (hv:Rd w v bs) (hl:k+2<=bs.length) (hb:bs.length<=1000000) :
 Calls Tryz.prog 278 #[v, .int .i64 k, .int .i64 2] w fun e w'=>e=.returned (.int .u64 (unle ((bs.drop k).take 2)))/\Below w.heap.size w w':=by
 have hr:Hid (∀ W,Below w.heap.size w W->Rd W v bs):=Lib.hid fun W h=>hv.below h;obtain ⟨a,cap,rfl,hlc,hcm,hc⟩:=hv;clear hc;unfold maxLen at hcm;go_enter Tryz.func278,Tryz.ntmps278
 go_wp2_with fail
 go_in
 go_wp2_with fail
 refine (sized2_any _).mono ?_;rintro e w1 ⟨rfl,hb1⟩;go_wp2_with fail
 refine (take64_any _ (bs.drop k) 2 _ (by omega) (by rw [List.length_drop];omega) ((hr.out _ hb1).from (by omega)).2).mono ?_;rintro e w2 ⟨v2,n2,rfl,_,rfl⟩;go_wp2_with fail
 go_ret;exact ⟨rfl,below_drewN hb1 _⟩
def headBytes (t n s z:Nat):List UInt8:=le t 4++le n 4++le s 2++le z 2
theorem Rd_own {w:World} {base:Nat} {v:Value} {bs:List UInt8} (h:w.ownsRow base 5 1 v bs.length (bs.map bv)):Rd w v bs:=by
 obtain ⟨h1,⟨rfl,h0⟩ | ⟨g,cap,cur,rfl,hg,hh,hn,hm,hs,hx⟩⟩:=h
 ·exact ⟨none,0,by rw [h0],by omega,by unfold maxLen;omega, .inl h0⟩
 ·refine ⟨some ⟨g,0,none⟩,cap,rfl,hn,hm, .inr ⟨g,0,rfl,fun j hj=>?_⟩⟩;simp only [World.cell?,hh,Nat.zero_add];have h2:(cur.toList.take (bs.length*1))[j]? = (bs.map bv)[j]? := by rw [hx]
  rw [List.getElem?_take_of_lt (by omega),List.getElem?_map,List.getElem?_eq_getElem hj] at h2;simpa using h2
set_option maxHeartbeats 2000000 in
theorem head_any (t n s z:Nat) (w:World) :
 Calls Tryz.prog 264 #[.agg #[.int .u64 t, .int .u64 n, .int .u64 s, .int .u64 z]] w (NewBytes w (headBytes t n s z)):=by
 go_enter Tryz.func264,Tryz.ntmps264
 go_wp2;go_region_held3 (fun w'=>w'.cell? ⟨w.heap.size,0,none⟩=some (.int .u64 t)/\w'.cell? ⟨w.heap.size,1,none⟩=some (.int .u64 n)/\w'.cell? ⟨w.heap.size,2,none⟩=some (.int .u64 s)/\w'.cell? ⟨w.heap.size,3,none⟩=some (.int .u64 z)) (go_keep)
  (first
    | (go_at_call 265;refine (Put4_any v1 (le t 4) n _ (Rd_own ho1) (by rw [le_length];omega)).mono ?_;rintro e w2 ⟨v2,rfl,ho2,hb2⟩;replace ho2:=ownsRow_base ho2 (by simpa using hb1.size);replace hb2:=hb1.trans (hb2.mono (by simpa using hb1.size));have q2:=(box_kept4 hb2))
    | (go_at_call 265;refine (Put4_any (.slice none 0 0) [] t _ ⟨none,0,rfl,by simp,by unfold maxLen;omega, .inl rfl⟩ (by simp)).mono ?_;rintro e w1 ⟨v1,rfl,ho1,hb1⟩;simp only [World.size_drew,World.size_alloc] at hb1 ho1;have q1:=(box_kept4 hb1)))
 clear q1;have hb2':Below (w.heap.size+1) (w.alloc (.cells #[.int .u64 t, .int .u64 n, .int .u64 s, .int .u64 z] 344)).drew w2.drew:=hb2.drew;have ho2':w2.drew.ownsRow (w.heap.size+1) 5 1 v2 (le t 4++le n 4).length ((le t 4++le n 4).map bv):=ho2;obtain ⟨q20,q21,q22,q23⟩:=q2;go_wp2;go_region_held3 (fun w'=>w'.cell? ⟨w.heap.size,0,none⟩=some (.int .u64 t)/\w'.cell? ⟨w.heap.size,1,none⟩=some (.int .u64 n)/\w'.cell? ⟨w.heap.size,2,none⟩=some (.int .u64 s)/\w'.cell? ⟨w.heap.size,3,none⟩=some (.int .u64 z)) (go_keep)
  (first
    | (go_at_call 265;refine (Put2_any v3 (le t 4++le n 4++le s 2) z _ (Rd_own ho3) (by simp [le_length])).mono ?_;rintro e w4 ⟨v4,rfl,ho4,hb4⟩;replace ho4:=ownsRow_base ho4 (by simpa using hb3.size);replace hb4:=hb3.trans (hb4.mono (by simpa using hb3.size));have q4:=(box_kept4 hb4))
    | (go_at_call 265;refine (Put2_any v2 (le t 4++le n 4) s _ (Rd_own ho2') (by simp [le_length])).mono ?_;rintro e w3 ⟨v3,rfl,ho3,hb3⟩;replace ho3:=ownsRow_base ho3 (by simpa using hb2'.size);replace hb3:=hb2'.trans (hb3.mono (by simpa using hb2'.size));have q3:=(box_kept4 hb3)))
 go_wp2;go_ret;exact ⟨v4,rfl,by simpa [headBytes] using ownsRow_base ho4 (Nat.le_succ _),(((Below.refl _ _).alloc (Nat.le_refl _) _).drew).trans (hb4.mono (Nat.le_succ _))⟩
def pageBody (tag num:Nat) (bs:List UInt8):List UInt8:=headBytes tag num bs.length 0++bs++List.replicate (240 - bs.length) 0
def mkPage (tag num:Nat) (bs:List UInt8):List UInt8:=pageBody tag num bs++le (crcOf (pageBody tag num bs)) 4
theorem headBytes_length (t n s z:Nat):(headBytes t n s z).length=12:=by simp [headBytes,le_length]
theorem pageBody_length (tag num:Nat) (bs:List UInt8) (h:bs.length<=240):(pageBody tag num bs).length=252:=by
 simp [pageBody,headBytes_length];omega
theorem mkPage_length (tag num:Nat) (bs:List UInt8) (h:bs.length<=240):(mkPage tag num bs).length=256:=by
 simp [mkPage,pageBody_length _ _ _ h,le_length]
def NewBytesOk (w:World) (bs:List UInt8) (e:Ending) (w':World):Prop:=
 ∃ v,e=.returned (.tuple #[v, .int .i64 0])/\w'.ownsRow w.heap.size 5 1 v bs.length (bs.map bv)/\Below w.heap.size w w'
set_option maxHeartbeats 2000000 in
theorem make_any (tag num:Nat) (v:Value) (bs:List UInt8) (w:World) (hv:Rd w v bs) (hl:bs.length<=240) (ht:tag < 4294967296) (hn:num < 4294967296) :
 Calls Tryz.prog 229 #[.int .u32 tag, .int .u32 num,v] w (NewBytesOk w (mkPage tag num bs)):=by
 have hr:Hid (∀ W,Below w.heap.size w W->Rd W v bs):=Lib.hid fun W h=>hv.below h;obtain ⟨a,cap,rfl,hlc,hcm,hc⟩:=hv;clear hc;unfold maxLen at hcm;go_enter Tryz.func229,Tryz.ntmps229
 go_wp2_with fail
 have hh:=head_any tag num bs.length 0 w;refine hh.mono ?_;rintro e w1 ⟨v1,rfl,ho1,hb1⟩;rw [headBytes_length] at ho1;have hR1:=Lib.hid (hr.out _ hb1);have hB1:=Lib.hid hb1;have hO1:=Lib.hid ho1;clear hh hb1 ho1;go_wp2_with (at_builtin;refine wpList_append_rd rfl _ _ 39 rfl w.heap.size 5 Tryz.underlying39 info_u8 v1 12 _ rfl hO1.out _ bs rfl hR1.out ?c1 ?c2 ?_)
 case c1=>omega
 case c2=>exact hB1.out.size
 intro v2 w2 ho2 hg2 _;have hB2:Hid (Below w.heap.size w w2):=Lib.hid (hB1.out.grown hg2 hB1.out.size (ownsRow_block hO1.out));have hO2:Hid (w2.ownsRow w.heap.size 5 1 v2 (12+bs.length) ((headBytes tag num bs.length 0++bs).map bv)):=Lib.hid (by simpa using ho2);have hv2:Hid (∃ a2 c2,v2=.slice a2 (12+bs.length) c2):=Lib.hid (by
  obtain ⟨_,⟨rfl,h0⟩ | ⟨g,cp,cur,rfl,_⟩⟩:=ho2
  ·omega
  ·exact ⟨_,_,rfl⟩)
 obtain ⟨a2,c2,hv2⟩:=hv2.out;subst hv2;clear ho2 hg2 hO1 hR1 hB1;go_wp2_with (at_builtin;refine wpList_append_zeros rfl _ _ 39 3 .i64 rfl w.heap.size 5 Tryz.underlying39 Tryz.underlying3 info_u8 _ (12+bs.length) _ rfl hO2.out (240 - bs.length) ?c3 ?c1 ?c2 ?_)
 case c3=>show Value.int .i64 _=Value.int .i64 _;congr 1;omega
 case c1=>omega
 case c2=>exact hB2.out.size
 intro v3 w3 ho3 hg3 _;have hB3:Hid (Below w.heap.size w w3):=Lib.hid (hB2.out.grown hg3 hB2.out.size (ownsRow_block hO2.out));have hO3:Hid (w3.ownsRow w.heap.size 5 1 v3 (pageBody tag num bs).length ((pageBody tag num bs).map bv)):=Lib.hid (by
  rw [pageBody_length _ _ _ hl];rw [show 12+bs.length+(240 - bs.length)=252 by omega] at ho3;simpa [pageBody] using ho3)
 have hlen:=Lib.hid (pageBody_length tag num bs hl);have hcrc:Hid (mkPage tag num bs=pageBody tag num bs++le (crcOf (pageBody tag num bs)) 4):=Lib.hid rfl;have hlt:=crcOf_lt (pageBody tag num bs);clear ho3 hg3 hO2 hB2 hv2;generalize pageBody tag num bs=body at *;go_wp2_with fail
 refine (sum_any v3 body _ (Rd_own hO3.out)).mono ?_;rintro e w4 ⟨rfl,hb4⟩;have hB4:Hid (Below w.heap.size w w4):=Lib.hid (hB3.out.trans (hb4.mono hB3.out.size));have hO4:=Lib.hid (ownsRow_below hO3.out hb4);clear hb4 hO3 hB3;generalize crcOf body=crc at *;go_wp2_with fail
 refine (Put4_any v3 body crc _ (Rd_own hO4.out) (by rw [hlen.out];omega)).mono ?_;rintro e w5 ⟨v5,rfl,ho5,hb5⟩;have hB5:Hid (Below w.heap.size w w5):=Lib.hid (hB4.out.trans (hb5.mono hB4.out.size));have hO5:=Lib.hid (ownsRow_base ho5 hB4.out.size);clear hb5 ho5 hO4 hB4;go_wp2_with fail
 go_ret2
 exact ⟨v5,rfl,by rw [hcrc.out];exact hO5.out,hB5.out⟩
theorem Rd_bytesWorld (w:World) (s:ByteArray) (hs:s.size<=1000):Rd (Lib.bytesWorld w 5 s) (.slice (some ⟨w.heap.size,0,none⟩) s.size (grownCap w s.size 0 5)) s.data.toList:=by
 refine ⟨_,_,rfl,?_,grownCap_le_maxLen w s.size 0 _ (by unfold maxLen;omega), .inr ⟨w.heap.size,0,rfl,fun j hj=>?_⟩⟩
 ·exact grownCap_ge w s.size 0 _
 ·rw [Nat.zero_add,Lib.bytesWorld_cell w _ s j hj];have hj':s.data[j]? = some s.data[j]:=Array.getElem?_eq_getElem _;simp [bv,hj']
set_option maxRecDepth 100000 in
set_option maxHeartbeats 1000000 in
theorem tag_any (s:ByteArray) (w:World) (hs:s.size<=1000) :
 Calls Tryz.prog 209 #[.string s] w fun e w'=>e=.returned (.int .u32 (crcOf s.data.toList))/\Below w.heap.size w w':=by
 have hr:=Lib.hid (Rd_bytesWorld w s hs);have hb:=Lib.hid (Joins.below_bytesWorld w.heap.size w 5 s (Nat.le_refl _));have hcv:=fun W=>Lib.run_convert_string_bytes (P:=Tryz.prog) W 9 39 5 s Tryz.underlying9 Tryz.underlying39 Tryz.underlying5;go_enter Tryz.func209,Tryz.ntmps209
 go_wp2_with fail
 refine (sum_any _ _ _ hr.out).mono ?_;rintro e w1 ⟨rfl,hb1⟩;go_wp2_with fail
 go_ret;exact ⟨rfl,hb.out.trans (hb1.mono hb.out.size)⟩
end
section
open Go.RowKit Go.Maps Go.MapKept
open Go.ChangeMaps (setBlock heap_setBlock_same heap_setBlock_other)
structure Turn (S:Nat->Prop) (w w':World):Prop where
 os:w'.os=w.os
 tape:w'.tape=w.tape
 output:w'.output=w.output
 size:w.heap.size<=w'.heap.size
 block:∀ k,k < w.heap.size->¬ S k->w'.heap[k]? = w.heap[k]?
section
variable {S S':Nat->Prop} {w w' w'':World}
theorem Turn.refl (S:Nat->Prop) (w:World):Turn S w w:=⟨rfl,rfl,rfl,Nat.le_refl _,fun _ _ _=>rfl⟩
theorem Turn.trans (h:Turn S w w') (k:Turn S' w' w'') (hs:∀ x,x < w.heap.size->S' x->S x):Turn S w w'':=
 ⟨k.os.trans h.os,k.tape.trans h.tape,k.output.trans h.output,Nat.le_trans h.size k.size,fun x hx hn=>(k.block x (Nat.lt_of_lt_of_le hx h.size) (fun h'=>hn (hs x hx h'))).trans (h.block x hx hn)⟩
theorem Turn.mono (h:Turn S w w') (hs:∀ x,x < w.heap.size->S x->S' x):Turn S' w w':=⟨h.os,h.tape,h.output,h.size,fun x hx hn=>h.block x hx (fun h'=>hn (hs x hx h'))⟩
theorem Turn.ofBelow (h:Below w.heap.size w w'):Turn S w w':=⟨h.os,h.tape,h.output,h.size,fun x hx _=>h.block x hx⟩
theorem Turn.below (h:Turn S w w') {n:Nat} (hn:n<=w.heap.size) (hs:∀ x,S x->n<=x):Below n w w':=⟨h.os,h.tape,h.output,h.size,fun x hx=>h.block x (Nat.lt_of_lt_of_le hx hn) (fun h'=>absurd (hs x h') (by omega))⟩
theorem Turn.thenBelow (h:Turn S w w') (k:Below w'.heap.size w' w''):Turn S w w'':=h.trans (S':=fun _=>False) (Turn.ofBelow k) (fun _ _ h=>h.elim)
theorem Turn.alloc (h:Turn S w w') (o:Obj):Turn S w (w'.alloc o):=h.thenBelow ((Below.refl _ _).alloc (Nat.le_refl _) o)
theorem Turn.drew (h:Turn S w w'):Turn S w w'.drew:=h.thenBelow (Below.refl _ _).drew
theorem Turn.drewN (h:Turn S w w') (n:Nat):Turn S w (w'.drewN n):=⟨h.os,h.tape,h.output,h.size,h.block⟩
theorem Turn.setCell (h:Turn S w w') (a:Addr) (u:Value) (ha:S a.block\/w.heap.size<=a.block):Turn S w (w'.setCell a u):=by
 refine h.trans (S':=fun x=>x=a.block) ⟨rfl,rfl,rfl,by simp,fun x _ hn=>Below.heap_setCell _ _ _ _ hn⟩ (fun x hx e=>?_);subst e;rcases ha with ha | ha
 ·exact ha
 ·omega
theorem Turn.grown {row:Option Nat} (h:Turn S w w') (hg:w'.grownBy w'' row) (hr:∀ k,row=some k->S k\/w.heap.size<=k):Turn S w w'':=by
 refine h.trans (S':=fun x=>row=some x) ⟨hg.os,hg.tape,hg.output,hg.size,fun x hx hn=>hg.block x hx (fun e=>hn e.symm)⟩ (fun x hx e=>?_);rcases hr x e with h | h
 ·exact h
 ·omega
theorem heap_setBlock_none {w:World} {b:Nat} (ob:Obj) {x:Nat} (hx:x≠b):(setBlock w b ob).heap[x]? = w.heap[x]? := by
 unfold setBlock;simp only [Array.getElem?_setIfInBounds];rw [if_neg (fun e=>hx e.symm)]
theorem Turn.setBlock (h:Turn S w w') (b:Nat) (ob:Obj) (hb:S b\/w.heap.size<=b):Turn S w (setBlock w' b ob):=by
 refine h.trans (S':=fun x=>x=b) ⟨rfl,rfl,rfl,by simp [ChangeMaps.setBlock],fun x _ hn=>heap_setBlock_none ob hn⟩ (fun x hx e=>?_);subst e;rcases hb with ha | ha
 ·exact ha
 ·omega
theorem Turn.cell (h:Turn S w w') {a:Addr} {v:Value} (hc:w.cell? a=some v) (hs:¬ S a.block):w'.cell? a=some v:=by
 rw [World.cell?_of_block (w:=w) (h.block a.block (World.block_lt_of_cell? _ _ hc) hs)];exact hc
theorem Turn.ownsRow (h:Turn S w w') {base:Nat} {e:TypeId} {size:Nat} {v:Value} {n:Nat} {xs:List Value} (hr:w.ownsRow base e size v n xs) (hs:∀ b,v.ownBlock=some b->¬ S b):w'.ownsRow base e size v n xs:=by
 obtain ⟨hl,hr⟩:=hr;refine ⟨hl,?_⟩;rcases hr with hr | ⟨g,cap,cur,hv,hg,hh,r⟩
 ·exact .inl hr
 ·have hlt:g < w.heap.size:=(Array.getElem?_eq_some_iff.1 hh).1;exact .inr ⟨g,cap,cur,hv,hg,(h.block g hlt (hs g (by rw [hv];rfl))).trans hh,r⟩
theorem Turn.rd (h:Turn S w w') {v:Value} {bs:List UInt8} (hr:Rd w v bs) (hs:∀ b,v.ownBlock=some b->¬ S b):Rd w' v bs:=by
 obtain ⟨a,cap,he,hlc,hcm,hc⟩:=hr;refine ⟨a,cap,he,hlc,hcm,?_⟩;rcases hc with hc | ⟨b,off,ha,hc⟩
 ·exact .inl hc
 ·exact .inr ⟨b,off,ha,fun j hj=>h.cell (hc j hj) (hs b (by rw [he,ha];rfl))⟩
end
abbrev Tag:=Nat × Nat
abbrev Owner:=Nat->Option Tag
def Owner.In (o:Owner) (C:Nat->Prop) (x:Nat):Prop:=∃ t,o x=some t/\C t.1
def Owner.set (o:Owner) (b:Nat) (t:Tag):Owner:=fun x=>if x=b then some t else o x
@[simp] theorem Owner.set_same (o:Owner) (b:Nat) (t:Tag):o.set b t b=some t:=by simp [Owner.set]
theorem Owner.set_other (o:Owner) {b x:Nat} (t:Tag) (h:x≠b):o.set b t x=o x:=by simp [Owner.set,h]
theorem Owner.ne {o:Owner} {x y:Nat} {s t:Tag} (hx:o x=some s) (hy:o y=some t) (h:s≠t):x≠y:=by
 intro e;rw [e,hy] at hx;exact h (Option.some.inj hx).symm
theorem Owner.not_in {o:Owner} {C:Nat->Prop} {x:Nat} {t:Tag} (hx:o x=some t) (h:¬ C t.1):¬ o.In C x:=by
 rintro ⟨s,hs,hc⟩;rw [hx] at hs;cases hs;exact h hc
theorem Owner.not_in_none {o:Owner} {C:Nat->Prop} {x:Nat} (hx:o x=none):¬ o.In C x:=by
 rintro ⟨s,hs,_⟩;rw [hx] at hs;cases hs
def OGrow (n:Nat) (o o':Owner):Prop:=∀ x,x < n->o' x=o x
theorem OGrow.refl (n:Nat) (o:Owner):OGrow n o o:=fun _ _=>rfl
theorem OGrow.trans {n n':Nat} {o o' o'':Owner} (h:OGrow n o o') (k:OGrow n' o' o'') (hn:n<=n'):OGrow n o o'':=fun x hx=>(k x (by omega)).trans (h x hx)
theorem OGrow.set {n:Nat} {o o':Owner} (h:OGrow n o o') {b:Nat} (hb:n<=b) (t:Tag):OGrow n o (o'.set b t):=fun x hx=>by rw [Owner.set_other _ _ (by omega)];exact h x hx
theorem Turn.owned {o o':Owner} {C:Nat->Prop} {w w' w'':World} (h:Turn (o.In C) w w') (hg:OGrow w.heap.size o o') (k:Turn (o'.In C) w' w''):Turn (o.In C) w w'':=
 h.trans k fun x hx ⟨t,ht,hc⟩=>⟨t,by rw [<- hg x hx];exact ht,hc⟩
theorem Tryz.laidOut':laidOutB Tryz.prog=true:=by kernel_rfl
theorem keyed_string:Keyed Tryz.prog 9:=string_keyed Tryz.underlying9
theorem string_inj:∀ a b:ByteArray,Value.string a=Value.string b->a=b:=fun _ _ h=>by cases h;rfl
theorem good_string {s:ByteArray} (h:s.size<=maxLen):Good Tryz.prog 9 (.string s):=⟨.string s.data.toList,by simp [keyOf,mapKey,Tryz.underlying9,h]⟩
theorem row_dkey:(116:TypeId) < Tryz.prog.types.size:=of_decide_eq_true (by kernel_rfl)
theorem wide_dkey:(match Tryz.prog.underlying 116 with | some (.array _ _) | some (.struct _)=>true | _=>false)=true:=by rw [Tryz.underlying116]
set_option maxRecDepth 100000 in
theorem keyed_dkey:Keyed Tryz.prog 116:=Keyed.of_law (deep_law_laid Tryz.laidOut' (m:=2) (by omega) row_dkey (by kernel_rfl) wide_dkey)
def nameNum (k:ByteArray × Nat):Value:=.agg #[.string k.1, .int .i64 (k.2:Int)]
theorem nameNum_inj:∀ a b,nameNum a=nameNum b->a=b:=by
 rintro ⟨a,n⟩ ⟨b,m⟩ h;simp only [nameNum,Value.agg.injEq,Array.mk.injEq,List.cons.injEq,Value.string.injEq,Value.int.injEq,true_and,and_true] at h;obtain ⟨rfl,h⟩:=h;rw [Int.ofNat_inj.1 h]
set_option maxRecDepth 100000 in
theorem good_dkey {s:ByteArray} {n:Nat} (h:s.size<=maxLen) (hn:n < 9223372036854775808):Good Tryz.prog 116 (nameNum (s,n)):=by
 have h1:Tryz.prog.keyType 116=true:=by kernel_rfl
 have h2:Tryz.prog.cellsOf 116=2:=by kernel_rfl
 have h3:Tryz.prog.cellsOf 9=1:=by kernel_rfl
 have h4:Tryz.prog.cellsOf 3=1:=by kernel_rfl
 have h5:(Lit.int .i64 (n:Int)).wf=true:=by
  have:(Lit.int .i64 (n:Int)).wf=(decide (-9223372036854775808<=(n:Int)) && decide ((n:Int)<=9223372036854775807)):=by rfl
  rw [this];simp;omega
 have hk:∀ d,Tryz.prog.keyLits (d+2) 116 [.string s, .int .i64 (n:Int)]=some [.string s.data.toList, .int .i64 (n:Int)]:=by
  intro d;simp [Program.keyLits,Tryz.underlying116,Tryz.underlying9,Tryz.underlying3,h2,h3,h4,h,h5]
 unfold Good nameNum keyOf;rw [Tryz.underlying116];simp only [h1,Value.formed,Tryz.underlying116,h2];have hk':Tryz.prog.keyLits (Tryz.prog.types.size+1) 116 (Value.agg #[.string s, .int .i64 (n:Int)]).cells.toList=some [.string s.data.toList, .int .i64 (n:Int)]:=hk (Tryz.prog.types.size - 1);rw [hk'];exact ⟨_,rfl⟩
end
end Go.Proofs.YthkkgdpomhhjjaaGreatDoor
