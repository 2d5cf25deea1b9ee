/-
  Joined, in build order, what is needed of: QRel, Store1, Store2, Store3, Store4, Store5.
-/
import Derived.Test.YtolieljpnafbhaaGreatDoorV13
import Derived.Below
import Derived.Deep.RegionWith
import Derived.Laws.IdiomStrings
namespace Go.Proofs.YtolieljpnafbhaaGreatDoor
open Go Go.RowKit
section
variable {P : Program} {C : World → Prop} {Pd : Nat → Value → World → Prop} {l : List Oper} {a0 : Act}
structure RelInv (C : World → Prop) (Pd : Nat → Value → World → Prop) (l : List Oper) (a0 : Act) (listed : Array Bool) (a : Act) (w : World) : Prop where
 size : listed.size = l.length
 cls : C w
 tsz : a.tmps.size = a0.tmps.size
 dfr : a.defers = a0.defers
 out : ∀ k, (∀ o ∈ l, o.dst ≠ some k) → a.tmps[k]? = a0.tmps[k]?
 slot : ∀ (i : Nat) (o : Oper) (k : Nat), l[i]? = some o → o.dst = some k → listed.getD i true = true → ∃ v, a.tmps[k]? = some v ∧ Pd i v w
def RelDeps (Pd : Nat → Value → World → Prop) (l : List Oper) (a0 : Act) (o : Oper) (a : Act) (w : World) : Prop :=
 (∀ k, (∀ o ∈ l, o.dst ≠ some k) → a.tmps[k]? = a0.tmps[k]?) ∧ a.tmps.size = a0.tmps.size ∧
 ∀ e ∈ o.after, Region.binds .any e = true → ∀ (oj : Oper) (k : Nat), l[e.on]? = some oj → oj.dst = some k → ∃ v, a.tmps[k]? = some v ∧ Pd e.on v w
def RelStep (P : Program) (Pd : Nat → Value → World → Prop) (i : Nat) (o : Oper) (a : Act) (w : World) : Prop :=
 ∀ (Q : Exit → Act → World → Prop) (K : Act → World → Prop), (∀ v w', Below w.heap.size w w' → Pd i v w' → K (a.put o.dst v) w') → o.wp P a w K Q
theorem wpAny_rel {Q : Exit → Act → World → Prop} (hg : ∀ o ∈ l, o.guard = none)
 (hd : ∀ (i j : Nat) (oi oj : Oper) (k : Nat), l[i]? = some oi → l[j]? = some oj → oi.dst = some k → oj.dst = some k → i = j) (hb : ∀ o ∈ l, ∀ k, o.dst = some k → k < a0.tmps.size)
 (hmono : ∀ w w', C w → Below w.heap.size w w' → C w') (hP : ∀ i v w w', Below w.heap.size w w' → Pd i v w → Pd i v w')
 (hstep : ∀ (i : Nat) (o : Oper), l[i]? = some o → ∀ a w, C w → RelDeps Pd l a0 o a w → RelStep P Pd i o a w)
 (hend : ∀ listed a w, RelInv C Pd l a0 listed a w → Region.ready .any l.toArray listed = [] → Q .normal a w) (f : Nat) :
 ∀ (listed : Array Bool) (a : Act) (w : World), RelInv C Pd l a0 listed a w → listed.toList.count false ≤ f → wpAny P .any l.toArray Q f listed a w := by
 induction f with
 | zero =>
   intro listed a w inv hf
   have hall : ∀ i, listed.getD i true = true := fun i => by
    rw [Array.getD_eq_getD_getElem?]
    cases h : listed[i]? with
    | none => rfl
    | some b =>
      cases b with
      | true => rfl
      | false =>
        exfalso
        have h1 : false ∈ listed.toList := List.mem_of_getElem? (by rw [Array.getElem?_toList]; exact h)
        have := List.count_pos_iff.2 h1
        omega
   have hr : Region.ready .any l.toArray listed = [] := by
    unfold Region.ready
    rw [List.filter_eq_nil_iff]
    intro i _
    rw [hall i]
    simp
   exact ⟨hr, hend _ _ _ inv hr⟩
 | succ f ih =>
   intro listed a w inv hf
   refine ⟨hend _ _ _ inv, fun i hi => ?_⟩
   obtain ⟨hun, o, ho, hall⟩ := mem_ready.1 hi
   have ho' : l[i]? = some o := by simpa using ho
   have hol : o ∈ l := List.mem_of_getElem? ho'
   have hil : i < l.length := (List.getElem?_eq_some_iff.1 ho').1
   have hdeps : RelDeps Pd l a0 o a w := ⟨inv.out, inv.tsz, fun e he hbn oj k hoj hk => inv.slot _ oj k hoj hk (by
    have h1 := hall e he hbn
    rw [Array.getD_eq_getD_getElem?] at h1 ⊢
    cases h2 : listed[e.on]? with
    | none => rw [h2] at h1; cases h1
    | some b => rw [h2] at h1; exact h1)⟩
   have hw : Region.wanted o (yielded l.toArray a.tmps) = true := by
    unfold Region.wanted
    rw [hg o hol]
   unfold wpOp
   rw [ho]
   simp only [hw, if_true]
   refine .inl (hstep i o ho' a w inv.cls hdeps _ _ (fun v w' hbw hv => ih _ _ _ ⟨?_, hmono _ _ inv.cls hbw, ?_, ?_, fun k hk => ?_, fun j oj k hoj hk hlj => ?_⟩ ?_))
   ·rw [Array.size_setIfInBounds]; exact inv.size
   ·unfold Act.put
    cases o.dst with
    | none => exact inv.tsz
    | some d => simp [inv.tsz]
   ·unfold Act.put
    cases o.dst with
    | none => exact inv.dfr
    | some d => exact inv.dfr
   ·unfold Act.put
    cases hdst : o.dst with
    | none => exact inv.out k hk
    | some d =>
      have hne : d ≠ k := fun e => hk o hol (by rw [hdst, e])
      simp only [Array.getElem?_setIfInBounds_ne hne]
      exact inv.out k hk
   ·by_cases hij : i = j
    ·subst hij
     rw [ho'] at hoj
     obtain rfl := Option.some.inj hoj
     refine ⟨v, ?_, hv⟩
     unfold Act.put
     rw [hk]
     have hkb := hb o hol k hk
     rw [← inv.tsz] at hkb
     simp [hkb]
    ·have hlj' : listed.getD j true = true := by
      rw [Array.getD_eq_getD_getElem?, Array.getElem?_setIfInBounds_ne hij] at hlj
      rw [Array.getD_eq_getD_getElem?]
      exact hlj
     obtain ⟨u, hu1, hu2⟩ := inv.slot j oj k hoj hk hlj'
     refine ⟨u, ?_, hP _ _ _ _ hbw hu2⟩
     unfold Act.put
     cases hdst : o.dst with
     | none => exact hu1
     | some d =>
       have hne : d ≠ k := fun e => hij (hd i j o oj k ho' hoj (by rw [hdst, e]) hk)
       simp only [Array.getElem?_setIfInBounds_ne hne]
       exact hu1
   ·have hf1 : listed[i]? = some false := by
     rw [Array.getD_eq_getD_getElem?] at hun
     cases h : listed[i]? with
     | none => rw [h] at hun; cases hun
     | some b => rw [h] at hun; simp at hun; rw [hun]
    have hlt : i < listed.toList.length := by rw [Array.length_toList, inv.size]; exact hil
    rw [Array.toList_setIfInBounds]
    have h1 : listed.toList[i]? = some false := by rw [Array.getElem?_toList]; exact hf1
    have h2 : listed.toList.count false = (listed.toList.set i true).count false + 1 := by
     rw [List.count_set hlt]
     rw [List.getElem?_eq_getElem hlt] at h1
     have h3 := Option.some.inj h1
     rw [h3]
     have h4 : 0 < listed.toList.count false := List.count_pos_iff.2 (List.mem_of_getElem? (by rw [List.getElem?_eq_getElem hlt, h3]))
     rw [if_pos (by decide), if_neg (by decide)]
     omega
    omega
theorem wp_region_rel {id : Nat} {Q : Exit → Act → World → Prop} {w : World} (C : World → Prop) (Pd : Nat → Value → World → Prop) (hm : P.follows .mixedOrders = true) (hg : ∀ o ∈ l, o.guard = none)
 (hd : ∀ (i j : Nat) (oi oj : Oper) (k : Nat), l[i]? = some oi → l[j]? = some oj → oi.dst = some k → oj.dst = some k → i = j) (hb : ∀ o ∈ l, ∀ k, o.dst = some k → k < a0.tmps.size)
 (hC : C w.drew) (hmono : ∀ w w', C w → Below w.heap.size w w' → C w') (hP : ∀ i v w w', Below w.heap.size w w' → Pd i v w → Pd i v w')
 (hstep : ∀ (i : Nat) (o : Oper), l[i]? = some o → ∀ a w, C w → RelDeps Pd l a0 o a w → RelStep P Pd i o a w)
 (hend : ∀ listed a w, RelInv C Pd l a0 listed a w → Region.ready .any l.toArray listed = [] → Q .normal a w) : (Code.region id l.toArray true).wp P Q a0 w := by
 refine wp_region_any hm ?_
 refine wpAny_rel hg hd hb hmono hP hstep hend _ _ _ _ ⟨by simp, hC, rfl, rfl, fun _ _ => rfl, fun i o k ho _ hl => ?_⟩ ?_
 ·have hil : i < l.length := (List.getElem?_eq_some_iff.1 ho).1
  rw [Array.getD_eq_getD_getElem?] at hl
  simp [hil] at hl
 ·refine Nat.le_trans List.count_le_length ?_
  simp
def relB (l : List Oper) (n : Nat) : Bool :=
 l.all (fun o => o.guard.isNone) && l.all (fun o => match o.dst with | some k => decide (k < n) | none => true) &&
  (List.range l.length).all fun i => (List.range l.length).all fun j => decide (i = j) || (match (l[i]?).bind (·.dst), (l[j]?).bind (·.dst) with | some a, some b => decide (a ≠ b) | _, _ => true)
theorem wp_region_relB {id : Nat} {Q : Exit → Act → World → Prop} {w : World} (C : World → Prop) (Pd : Nat → Value → World → Prop) (hm : P.follows .mixedOrders = true) (hB : relB l a0.tmps.size = true)
 (hC : C w.drew) (hmono : ∀ w w', C w → Below w.heap.size w w' → C w') (hP : ∀ i v w w', Below w.heap.size w w' → Pd i v w → Pd i v w')
 (hstep : ∀ (i : Nat) (o : Oper), l[i]? = some o → ∀ a w, C w → RelDeps Pd l a0 o a w → RelStep P Pd i o a w)
 (hend : ∀ listed a w, RelInv C Pd l a0 listed a w → Region.ready .any l.toArray listed = [] → Q .normal a w) : (Code.region id l.toArray true).wp P Q a0 w := by
 simp only [relB, Bool.and_eq_true, List.all_eq_true] at hB
 obtain ⟨⟨h1, h2⟩, h3⟩ := hB
 refine wp_region_rel C Pd hm (fun o ho => by simpa using h1 o ho) (fun i j oi oj k hi hj hki hkj => ?_) (fun o ho k hk => ?_) hC hmono hP hstep hend
 ·have h4 := h3 i (List.mem_range.2 (List.getElem?_eq_some_iff.1 hi).1) j (List.mem_range.2 (List.getElem?_eq_some_iff.1 hj).1)
  rw [hi, hj] at h4
  simp only [Option.bind_some, hki, hkj, Bool.or_eq_true, decide_eq_true_eq] at h4
  rcases h4 with h4 | h4
  ·exact h4
  ·exact absurd rfl h4
 ·have h4 := h2 o ho
  rw [hk] at h4
  simpa using h4
theorem step_val {i : Nat} {o : Oper} {a : Act} {w w' : World} {v : Value} (h : (execOp a.eval o).run P w = .ok (.value v) w') (hb : Below w.heap.size w w') (hp : Pd i v w') : RelStep P Pd i o a w := by
 intro Q K hK
 unfold Oper.wp
 rw [h]
 exact hK v w' hb hp
theorem step_call {i : Nat} {o : Oper} {a : Act} {w : World} {f : FuncId} {args : Array Value} (h : (execOp a.eval o).run P w = .ok (.enter f args) w) (hc : Calls P f args w fun e w' => ∃ v, e = .returned v ∧ Below w.heap.size w w' ∧ Pd i v w') : RelStep P Pd i o a w := by
 intro Q K hK
 unfold Oper.wp
 rw [h]
 refine Calls.mono hc ?_
 rintro e w' ⟨v, rfl, hb, hp⟩
 exact hK v w' hb hp
theorem tmps_getD {a : Act} {k : Nat} {v : Value} (h : a.tmps[k]? = some v) : a.tmps.getD k undef = v := by
 rw [Array.getD_eq_getD_getElem?, h]
 rfl
theorem RelDeps.get {o : Oper} {a : Act} {w : World} (h : RelDeps Pd l a0 o a w) (j : Nat) {oj : Oper} {k : Nat} (hj : (o.after.toList.any fun e => decide (e.on = j) && Region.binds .any e) = true) (ho : l[j]? = some oj) (hk : oj.dst = some k) : ∃ v, a.tmps[k]? = some v ∧ Pd j v w := by
 rw [List.any_eq_true] at hj
 obtain ⟨e, he, h1⟩ := hj
 rw [Bool.and_eq_true, decide_eq_true_eq] at h1
 obtain ⟨rfl, h2⟩ := h1
 obtain ⟨v, h3, h4⟩ := h.2.2 e (by simpa using he) h2 oj k ho hk
 exact ⟨v, h3, h4⟩
theorem RelDeps.old {o : Oper} {a : Act} {w : World} (h : RelDeps Pd l a0 o a w) (k : Nat) {v : Value} (hk : (l.all fun o => decide (o.dst ≠ some k)) = true) (h0 : a0.tmps[k]? = some v) : a.tmps[k]? = some v := by
 refine (h.1 k fun o ho => ?_).trans h0
 rw [List.all_eq_true] at hk
 simpa using hk o ho
theorem rel_all {C : World → Prop} {listed : Array Bool} {a : Act} {w : World} (h : RelInv C Pd l a0 listed a w) (hr : Region.ready .any l.toArray listed = []) (hB : ((List.range l.length).all fun i => match l[i]? with | some o => o.after.toList.all (fun e => decide (e.on < i)) | none => true) = true) :
 ∀ (i : Nat) (o : Oper) (k : Nat), l[i]? = some o → o.dst = some k → ∃ v, a.tmps[k]? = some v ∧ Pd i v w := by
 have hall : ∀ i, i < l.length → listed.getD i true = true := by
  intro i
  induction i using Nat.strongRecOn with
  | _ i ih =>
    intro hi
    by_cases hd : listed.getD i true = true
    ·exact hd
    ·exfalso
     have hd' : listed.getD i true = false := by simpa using hd
     have hm : i ∈ Region.ready .any l.toArray listed := by
      refine mem_ready.2 ⟨hd', l[i], by simp [hi], fun e he _ => ?_⟩
      rw [List.all_eq_true] at hB
      have h1 := hB i (List.mem_range.2 hi)
      rw [List.getElem?_eq_getElem hi] at h1
      simp only [List.all_eq_true, decide_eq_true_eq] at h1
      have h2 := h1 e (by simpa using he)
      have h3 := ih e.on h2 (by omega)
      have hs : e.on < listed.size := by rw [h.size]; omega
      rw [Array.getD_eq_getD_getElem?, Array.getElem?_eq_getElem hs] at h3 ⊢
      exact h3
     rw [hr] at hm
     cases hm
 exact fun i o k ho hk => h.slot i o k ho hk (hall i (List.getElem?_eq_some_iff.1 ho).1)
theorem rel_act_ext {a b : Act} (hs : a.tmps.size = b.tmps.size) (hd : a.defers = b.defers) (he : ∀ k, k < b.tmps.size → a.tmps[k]? = b.tmps[k]?) : a = b := by
 obtain ⟨ta, da⟩ := a
 obtain ⟨tb, db⟩ := b
 obtain rfl : da = db := hd
 congr 1
 apply Array.ext hs
 intro k h1 h2
 have := he k h2
 rw [Array.getElem?_eq_getElem h1, Array.getElem?_eq_getElem h2] at this
 exact Option.some.inj this
def relPut (a : Act) : List Oper → List Value → Act
 | o :: l, v :: vs => relPut (a.put o.dst v) l vs
 | _, _ => a
theorem actPut_size (a : Act) (d : Option Tmp) (v : Value) : (a.put d v).tmps.size = a.tmps.size := by
 unfold Act.put
 cases d <;> simp
theorem actPut_defers (a : Act) (d : Option Tmp) (v : Value) : (a.put d v).defers = a.defers := by
 unfold Act.put
 cases d <;> rfl
theorem actPut_other (a : Act) (d : Option Tmp) (v : Value) (k : Nat) (h : d ≠ some k) : (a.put d v).tmps[k]? = a.tmps[k]? := by
 unfold Act.put
 cases d with
 | none => rfl
 | some d => exact Array.getElem?_setIfInBounds_ne (fun e => h (by rw [e]))
theorem relPut_keep (l : List Oper) : ∀ (a : Act) (vs : List Value), (relPut a l vs).tmps.size = a.tmps.size ∧ (relPut a l vs).defers = a.defers ∧ ∀ k, (∀ o : Oper, o ∈ l → o.dst ≠ some k) → (relPut a l vs).tmps[k]? = a.tmps[k]? := by
 induction l with
 | nil => intro a vs; cases vs <;> exact ⟨rfl, rfl, fun _ _ => rfl⟩
 | cons o l ih =>
   intro a vs
   cases vs with
   | nil => exact ⟨rfl, rfl, fun _ _ => rfl⟩
   | cons v vs =>
     obtain ⟨h1, h2, h3⟩ := ih (a.put o.dst v) vs
     exact ⟨h1.trans (actPut_size _ _ _), h2.trans (actPut_defers _ _ _), fun k hk => (h3 k (fun o' ho' => hk o' (by simp [ho']))).trans (actPut_other _ _ _ _ (hk o (by simp)))⟩
theorem relPut_at (l : List Oper) : ∀ (a : Act) (vs : List Value) (i : Nat) (o : Oper) (k : Nat) (v : Value), l[i]? = some o → o.dst = some k → vs[i]? = some v → k < a.tmps.size → (∀ (j : Nat) (oj : Oper), l[j]? = some oj → oj.dst = some k → j = i) → (relPut a l vs).tmps[k]? = some v := by
 induction l with
 | nil => intro a vs i o k v ho; cases ho
 | cons o' l ih =>
   intro a vs i o k v ho hk hv hb hu
   cases vs with
   | nil => cases hv
   | cons v' vs =>
     cases i with
     | zero =>
       cases ho
       cases hv
       refine ((relPut_keep l (a.put _ v) vs).2.2 k (fun x hx e => ?_)).trans ?_
       ·obtain ⟨j, hj⟩ := List.mem_iff_getElem?.1 hx
        have := hu (j + 1) x (by simpa using hj) e
        omega
       ·unfold Act.put
        rw [hk]
        simp [hb]
     | succ i =>
       refine ih (a.put o'.dst v') vs i o k v (by simpa using ho) hk (by simpa using hv) (by rw [actPut_size]; exact hb) (fun j oj hj he => ?_)
       have := hu (j + 1) oj (by simpa using hj) he
       omega
theorem rel_end {C : World → Prop} {listed : Array Bool} {a : Act} {w : World} (h : RelInv C Pd l a0 listed a w) (hr : Region.ready .any l.toArray listed = []) (hB : relB l a0.tmps.size = true) (hA : ((List.range l.length).all fun i => match l[i]? with | some o => o.after.toList.all (fun e => decide (e.on < i)) && o.dst.isSome | none => true) = true) :
 ∃ vs : List Value, vs.length = l.length ∧ (∀ i v, vs[i]? = some v → Pd i v w) ∧ a = relPut a0 l vs := by
 rw [List.all_eq_true] at hA
 have hA' : ∀ (i : Nat) (o : Oper), l[i]? = some o → (o.after.toList.all (fun e => decide (e.on < i))) = true ∧ ∃ k, o.dst = some k := fun i o ho => by
  have h1 := hA i (List.mem_range.2 (List.getElem?_eq_some_iff.1 ho).1)
  rw [ho] at h1
  simp only [Bool.and_eq_true] at h1
  exact ⟨h1.1, Option.isSome_iff_exists.1 h1.2⟩
 have hal := rel_all h hr (by
  rw [List.all_eq_true]
  intro i hi
  rw [List.mem_range] at hi
  rw [List.getElem?_eq_getElem hi]
  exact (hA' i _ (List.getElem?_eq_getElem hi)).1)
 simp only [relB, Bool.and_eq_true, List.all_eq_true] at hB
 obtain ⟨⟨_, h2⟩, h3⟩ := hB
 have huniq : ∀ (i j : Nat) (oi oj : Oper) (k : Nat), l[i]? = some oi → l[j]? = some oj → oi.dst = some k → oj.dst = some k → i = j := fun i j oi oj k hi hj hki hkj => by
  have h4 := h3 i (List.mem_range.2 (List.getElem?_eq_some_iff.1 hi).1) j (List.mem_range.2 (List.getElem?_eq_some_iff.1 hj).1)
  rw [hi, hj] at h4
  simp only [Option.bind_some, hki, hkj, Bool.or_eq_true, decide_eq_true_eq] at h4
  rcases h4 with h4 | h4
  ·exact h4
  ·exact absurd rfl h4
 refine ⟨l.map fun o => (o.dst.bind (a.tmps[·]?)).getD undef, List.length_map _, fun i v hv => ?_, ?_⟩
 ·rw [List.getElem?_map] at hv
  obtain ⟨o, ho, rfl⟩ := Option.map_eq_some_iff.1 hv
  obtain ⟨_, k, hk⟩ := hA' i o ho
  obtain ⟨v, e1, e2⟩ := hal i o k ho hk
  rw [hk]
  simp only [Option.bind_some, e1, Option.getD_some]
  exact e2
 ·obtain ⟨k1, k2, k3⟩ := relPut_keep l a0 (l.map fun o => (o.dst.bind (a.tmps[·]?)).getD undef)
  refine rel_act_ext (by rw [k1, h.tsz]) (by rw [k2, h.dfr]) (fun k hk => ?_)
  rw [k1] at hk
  by_cases he : ∃ o ∈ l, o.dst = some k
  ·obtain ⟨o, ho, hok⟩ := he
   obtain ⟨i, hi⟩ := List.mem_iff_getElem?.1 ho
   obtain ⟨v, e1, _⟩ := hal i o k hi hok
   rw [e1]
   refine (relPut_at l a0 _ i o k v hi hok ?_ hk (fun j oj hj hjk => huniq j i oj o k hj hi hjk hok)).symm
   rw [List.getElem?_map, hi]
   simp [hok, e1]
  ·have hno : ∀ o ∈ l, o.dst ≠ some k := fun o ho e => he ⟨o, ho, e⟩
   rw [k3 k hno, h.out k hno]
end
end Go.Proofs.YtolieljpnafbhaaGreatDoor
namespace Go.Proofs.YtolieljpnafbhaaGreatDoor
open Go.RowKit Go.Maps Go.MapKept
def sName (c : UInt8) (k : Nat) : Name := ⟨([c, 46] ++ Lib.decDigits k).toArray⟩
def PowAt (w : World) : Prop := Lib.TabIs Tryz.prog w "internal/strconv.uint64pow10" .u64 Lib.pow10Tab
theorem powName : Tryz.prog.globalNamed "internal/strconv.uint64pow10" = some 0 := by kernel_rfl
theorem PowAt.kept {w w' : World} (h : PowAt w) (hb : w'.heap[(0 : Nat)]? = w.heap[(0 : Nat)]?) : PowAt w' := by
 unfold PowAt Lib.TabIs World.var? at h ⊢
 rw [powName] at h ⊢
 simp only [Option.bind_some] at h ⊢
 rw [hb]
 exact h
theorem PowAt.lt {w : World} (h : PowAt w) : 0 < w.heap.size := by
 unfold PowAt Lib.TabIs World.var? at h
 rw [powName] at h
 simp only [Option.bind_some] at h
 by_cases hl : 0 < w.heap.size
 ·exact hl
 ·rw [Array.getElem?_eq_none (by omega)] at h
  cases h
def GenAt (w : World) (o : Owner) (gen : Nat) : Prop := gen < 100 ∨ (gen ≤ 1048576 ∧ PowAt w ∧ o 0 = none)
theorem GenAt.le {w : World} {o : Owner} {gen : Nat} (h : GenAt w o gen) : gen ≤ 1048576 := h.elim (fun h => by omega) (fun h => h.1)
theorem GenAt.below {w w' : World} {o : Owner} {gen : Nat} (h : GenAt w o gen) (hb : Below w.heap.size w w') : GenAt w' o gen :=
 h.imp id fun ⟨h1, h2, h3⟩ => ⟨h1, h2.kept (hb.block _ h2.lt), h3⟩
theorem GenAt.moved {S : Nat → Prop} {n pb db gen : Nat} {w w' : World} {o o' : Owner} {d d' : Dsk} {L' : Logic} (h : GenAt w o gen) (hm : Moved S n pb db w o d w' o' d' L') (hs : ∀ x, ¬ S x) : GenAt w' o' gen :=
 h.imp id fun ⟨h1, h2, h3⟩ => ⟨h1, h2.kept (hm.block h2.lt h3 (hs _)), hm.free h2.lt h3⟩
theorem digits_lt : ∀ (n k : Nat), k < 10 ^ (n + 1) → (Lib.decDigits k).all okByte = true ∧ (Lib.decDigits k).length ≤ n + 1 := by
 have hb : ∀ j, j < 10 → okByte (UInt8.ofNat (48 + j)) = true := by decide
 intro n
 induction n with
 | zero =>
   intro k hk
   have h1 : k < 10 := by simpa using hk
   rw [Lib.decDigits, dif_pos h1]
   exact ⟨by simp only [List.all_cons, List.all_nil, Bool.and_true]; exact hb k h1, by simp⟩
 | succ n ih =>
   intro k hk
   by_cases h1 : k < 10
   ·rw [Lib.decDigits, dif_pos h1]
    exact ⟨by simp only [List.all_cons, List.all_nil, Bool.and_true]; exact hb k h1, by simp⟩
   ·rw [Lib.decDigits, dif_neg h1]
    have hk' : k / 10 < 10 ^ (n + 1) := by
     rw [Nat.pow_succ] at hk
     exact Nat.div_lt_of_lt_mul (by rw [Nat.mul_comm]; exact hk)
    obtain ⟨h2, h3⟩ := ih _ hk'
    refine ⟨?_, by rw [List.length_append]; simp; omega⟩
    rw [List.all_append, h2, Bool.true_and]
    simp only [List.all_cons, List.all_nil, Bool.and_true]
    exact hb _ (by omega)
set_option maxRecDepth 100000 in
set_option maxHeartbeats 4000000 in
theorem storeName_small (c : UInt8) (k : Nat) (hk : k < 100) (w : World) :
 Calls Tryz.prog 53 #[.int .u8 (c.toNat : Int), .int .i64 (k : Int)] w fun e w' => e = .returned (.string (sName c k)) ∧ Below w.heap.size w w' := by
 have hit := Lib.hid (fun W => Any.strconv_Itoa_small (P := Tryz.prog) (ρ := Tryz.itoa_ren) { Tryz.itoa with } k hk W)
 have hk0 : ¬ (k : Int) < 0 := by omega
 have hdl : (Lib.decDigits k).length ≤ 2 := by
  by_cases h : k < 10
  ·rw [Lib.decDigits_one h]; simp
  ·rw [Lib.decDigits_two h hk]; simp
 have HT : Hid ((⟨#[c, 46]⟩ : ByteArray) ++ ⟨(Lib.decDigits k).toArray⟩ = sName c k) := Lib.hid (by
  unfold sName
  apply ByteArray.ext
  simp)
 have hcv : Sem.run Tryz.prog (convert 57 9 (.slice (some ⟨w.heap.size, 0, none⟩) 2 2)) (w.alloc (.cells #[.int .u8 (c.toNat : Int), .int .u8 46] 5)).drew = .ok (.string ⟨#[c, 46]⟩) (w.alloc (.cells #[.int .u8 (c.toNat : Int), .int .u8 46] 5)).drew :=
  run_convert_bytes_back (P := Tryz.prog) _ 57 9 5 ⟨w.heap.size, 0, none⟩ 2 [c, 46] Tryz.underlying57 Tryz.underlying5 Tryz.underlying9 (fun j hj => by
   rw [Addr_add, Nat.zero_add]
   match j, hj with
   | 0, _ => simp
   | 1, _ => simp)
 generalize Lib.decDigits k = dg at *
 go_enter Tryz.func53, Tryz.ntmps53
 go_wp2
 go_region_with (go_at_call 92; refine (hit.out _).mono ?_; rintro e w' ⟨rfl, rfl⟩)
 all_goals
  go_wp2
  go_ret
  exact ⟨by rw [← HT.out]; rfl, ((Below.refl _ _).alloc (Nat.le_refl _) _).drew⟩
def nameRel (c : UInt8) (k : Nat) (dg : List UInt8) (full : Name) : Nat → Value → World → Prop
 | 0, v, _ => v = .int .u8 (c.toNat : Int)
 | 1, v, W => ∃ g, v = .slice (some ⟨g, 0, none⟩) 2 2 ∧ W.cell? ⟨g, 0, none⟩ = some (.int .u8 (c.toNat : Int)) ∧ W.cell? ⟨g, 1, none⟩ = some (.int .u8 46)
 | 2, v, _ => v = .string ⟨#[c, 46]⟩
 | 3, v, _ => v = .int .i64 (k : Int)
 | 4, v, _ => v = .string ⟨dg.toArray⟩
 | _, v, _ => v = .string full
theorem nameRel_on {c : UInt8} {k : Nat} {dg : List UInt8} {full : Name} (i : Nat) (v : Value) (w w' : World) (hb : Below w.heap.size w w') (h : nameRel c k dg full i v w) : nameRel c k dg full i v w' := by
 match i, h with
 | 0, h => exact h
 | 1, ⟨g, h1, h2, h3⟩ => exact ⟨g, h1, (hb.cell (World.block_lt_of_cell? w _ h2)).trans h2, (hb.cell (World.block_lt_of_cell? w _ h3)).trans h3⟩
 | 2, h => exact h
 | 3, h => exact h
 | 4, h => exact h
 | _ + 5, h => exact h
theorem below_grown (w : World) (k : Nat) (os : Array Obj) : Below w.heap.size w (Go.Sort.grow (w.drewN k) os) :=
 ⟨rfl, rfl, rfl, by show w.heap.size ≤ (w.heap ++ os).size; rw [Array.size_append]; omega, fun j hj => by show (w.heap ++ os)[j]? = w.heap[j]?; exact Array.getElem?_append_left hj⟩
set_option maxRecDepth 100000 in
set_option maxHeartbeats 4000000 in
theorem storeName_great (c : UInt8) (k : Nat) (hk : k ≤ 1048576) (w : World) (hp : PowAt w) :
 Calls Tryz.prog 53 #[.int .u8 (c.toNat : Int), .int .i64 (k : Int)] w fun e w' => e = .returned (.string (sName c k)) ∧ Below w.heap.size w w' := by
 have hit : Hid (∀ W, Below w.heap.size w W → Calls Tryz.prog 92 #[.int .i64 (k : Int)] W fun e w' => ∃ v, e = .returned v ∧ Below W.heap.size W w' ∧ v = .string ⟨(Lib.decDigits k).toArray⟩) := Lib.hid (fun W hW => by
  refine (Any.strconv_Itoa (P := Tryz.prog) (ρ := Tryz.itoa_ren) { Tryz.itoa with } (k : Int) (by omega) (by omega) W (hp.kept (hW.block _ hp.lt))).mono ?_
  rintro e w' ⟨rfl, j, os, rfl⟩
  rw [Lib.itoa_nonneg]
  exact ⟨_, rfl, below_grown _ _ _, rfl⟩)
 have hk0 : ¬ (k : Int) < 0 := by omega
 have HT : Hid ((⟨#[c, 46]⟩ : ByteArray) ++ ⟨(Lib.decDigits k).toArray⟩ = sName c k) := Lib.hid (by
  unfold sName
  apply ByteArray.ext
  simp)
 have hcv : Hid (∀ (W : World) (g : Nat), W.cell? ⟨g, 0, none⟩ = some (.int .u8 (c.toNat : Int)) → W.cell? ⟨g, 1, none⟩ = some (.int .u8 46) → Sem.run Tryz.prog (convert 57 9 (.slice (some ⟨g, 0, none⟩) 2 2)) W = .ok (.string ⟨#[c, 46]⟩) W) := Lib.hid (fun W g h0 h1 =>
  run_convert_bytes_back (P := Tryz.prog) _ 57 9 5 ⟨g, 0, none⟩ 2 [c, 46] Tryz.underlying57 Tryz.underlying5 Tryz.underlying9 (fun j hj => by
   rw [Addr_add, Nat.zero_add]
   match j, hj with
   | 0, _ => exact h0
   | 1, _ => exact h1))
 have hdl : (Lib.decDigits k).length ≤ 7 := (digits_lt 6 k (by omega)).2
 clear hp
 generalize Lib.decDigits k = dg at *
 generalize sName c k = full at *
 go_enter Tryz.func53, Tryz.ntmps53
 go_wp2
 refine wp_region_relB (Below w.heap.size w) (nameRel c k dg full) (by kernel_rfl) (by kernel_rfl) (Below.refl _ _).drew (fun w1 w2 h1 h2 => h1.trans (h2.mono h1.size)) nameRel_on ?_ ?_
 ·intro i o ho a W hC hdep
  match i, ho with
  | 0, ho =>
    cases ho
    have h0 := hdep.old 0 rfl rfl
    refine step_val (v := .int .u8 (c.toNat : Int)) (w' := W) ?_ (Below.refl _ _) rfl
    go_simp
  | 1, ho =>
    cases ho
    obtain ⟨v7, h7, rfl⟩ := hdep.get 0 rfl rfl rfl
    refine step_val (v := .slice (some ⟨W.heap.size, 0, none⟩) 2 2) (w' := W.alloc (.cells #[.int .u8 (c.toNat : Int), .int .u8 46] 5)) ?_ ((Below.refl _ _).alloc (Nat.le_refl _) _) ⟨W.heap.size, rfl, by simp, by simp⟩
    go_simp
  | 2, ho =>
    cases ho
    obtain ⟨v8, h8, g, rfl, c0, c1⟩ := hdep.get 1 rfl rfl rfl
    have hc := hcv.out W g c0 c1
    refine step_val (v := .string ⟨#[c, 46]⟩) (w' := W) ?_ (Below.refl _ _) rfl
    go_simp
  | 3, ho =>
    cases ho
    have h1 := hdep.old 1 rfl rfl
    refine step_val (v := .int .i64 (k : Int)) (w' := W) ?_ (Below.refl _ _) rfl
    go_simp
  | 4, ho =>
    cases ho
    obtain ⟨v10, h10, rfl⟩ := hdep.get 3 rfl rfl rfl
    refine step_call (f := 92) (args := #[.int .i64 (k : Int)]) ?_ (hit.out W hC)
    go_simp
  | 5, ho =>
    cases ho
    obtain ⟨v9, h9, rfl⟩ := hdep.get 2 rfl rfl rfl
    obtain ⟨v11, h11, rfl⟩ := hdep.get 4 rfl rfl rfl
    refine step_val (v := .string full) (w' := W) ?_ (Below.refl _ _) rfl
    rw [← HT.out]
    go_simp
    omega
  | 6, ho =>
    cases ho
    obtain ⟨v12, h12, rfl⟩ := hdep.get 5 rfl rfl rfl
    refine step_val (v := .string full) (w' := W) ?_ (Below.refl _ _) rfl
    go_simp
  | _ + 7, ho => cases ho
 ·intro listed a W inv hr
  have HB := Lib.hid inv.cls
  obtain ⟨vs, hl, hp, rfl⟩ := rel_end inv hr (by kernel_rfl) (by kernel_rfl)
  match vs, hl with
  | [v0, v1, v2, v3, v4, v5, v6], _ =>
    obtain rfl := hp 6 v6 rfl
    clear hp hl hr inv
    simp only [relPut]
    go_simp
    go_wp2
    go_ret
    exact ⟨rfl, HB.out⟩
theorem storeName_any (c : UInt8) (k : Nat) {w : World} {o : Owner} (h : GenAt w o k) :
 Calls Tryz.prog 53 #[.int .u8 (c.toNat : Int), .int .i64 (k : Int)] w fun e w' => e = .returned (.string (sName c k)) ∧ Below w.heap.size w w' := by
 rcases h with h | ⟨h1, h2, _⟩
 ·exact storeName_small c k h w
 ·exact storeName_great c k h1 w h2
set_option maxHeartbeats 1000000 in
theorem storeRight_yes (k : Nat) (hk : k ≤ 1048576) (w : World) : Calls Tryz.prog 62 #[.int .i64 (k : Int)] w fun e w' => e = .returned (.bool true) ∧ w = w' := by
 have h1 : (k : Int) ≤ 1048576 := by omega
 have h2 : (k : Int) ≥ 0 := by omega
 go_enter Tryz.func62, Tryz.ntmps62
 go_wp2
 go_ret
 exact ⟨rfl, rfl⟩
end Go.Proofs.YtolieljpnafbhaaGreatDoor
namespace Go.Proofs.YtolieljpnafbhaaGreatDoor
open Go.RowKit Go.Maps Go.MapKept
def vertFile (vs : List Vrt) (fl : Bool) : LFile := .inl (pagesOf (per 12) (vs.map Vrt.bytes), fl)
theorem sized_verts (vs : List Vrt) : Sized 12 (vs.map Vrt.bytes) := fun r hr => by
 obtain ⟨e, _, rfl⟩ := List.mem_map.1 hr
 exact e.bytes_length
theorem vertFile_need (vs : List Vrt) (fl : Bool) : (vertFile vs fl).need ≤ 4 * vs.length := by
 unfold vertFile LFile.need
 dsimp only
 rw [pagesOf_length, List.length_map]
 have : pagesFor (per 12) vs.length ≤ vs.length := by
  unfold pagesFor
  have h12 : per 12 = 20 := by decide
  rw [h12]
  omega
 omega
def VertsAt (w : World) (v : Value) (vs : List Vrt) : Prop :=
 ∃ a cap, v = .slice a vs.length cap ∧ vs.length ≤ cap ∧ cap ≤ maxLen ∧ (vs.length = 0 ∨ ∃ b off, a = some ⟨b, off, none⟩ ∧ ∀ i (h : i < vs.length), w.cell? ⟨b, off + i * 3, none⟩ = some (.int .u32 (vs[i].r.toNat : Int)) ∧ w.cell? ⟨b, off + i * 3 + 1, none⟩ = some (.int .u32 (vs[i].l.toNat : Int)) ∧ w.cell? ⟨b, off + i * 3 + 2, none⟩ = some (.int .u32 (vs[i].g.toNat : Int)))
theorem sName_ok (c : UInt8) (hc : okByte c = true) {k : Nat} (h : k ≤ 1048576) : okName (sName c k) = true := by
 obtain ⟨h1, h2⟩ := digits_lt 6 k (by omega)
 unfold okName sName
 have hs : (ByteArray.mk ([c, 46] ++ Lib.decDigits k).toArray).size = 2 + (Lib.decDigits k).length := by
  show Array.size _ = _
  simp
  omega
 rw [hs]
 simp only [List.cons_append, List.nil_append, List.all_cons, h1, hc, Bool.and_eq_true, decide_eq_true_eq]
 refine ⟨⟨⟨trivial, by decide, trivial⟩, by omega⟩, by omega⟩
theorem sName_own (c : UInt8) (hc : c ≠ 116) (k : Nat) : ownName (sName c k) = false := by
 unfold ownName sName dotT Lib.hasPrefix
 simp [List.isPrefixOf]
 intro h
 exact absurd h.symm hc
theorem sName_ne {c c' : UInt8} (hc : c ≠ c') (k k' : Nat) : sName c k ≠ sName c' k' := by
 unfold sName
 intro h
 have h1 := congrArg (fun x : ByteArray => x.data.toList) h
 simp only [List.cons_append, List.cons.injEq] at h1
 exact hc h1.1
theorem tName_sName (c : UInt8) (hc : c ≠ 116) (k j : Nat) : sName c k ≠ tName j := fun e => by
 have h1 := sName_own c hc k
 rw [e, ownName_t] at h1
 cases h1
noncomputable def makeL (L : Logic) (gen : Nat) (es : List Edg) (vs : List Vrt) : Logic :=
 mput (mput (mput L (sName 101 gen) (edgeFile (bestOf false es) true)) (sName 114 gen) (edgeFile (bestOf true es) true)) (sName 118 gen) (vertFile vs true)
def ofMake (gen : Nat) (x : Name) : Prop := x = sName 101 gen ∨ x = sName 114 gen ∨ x = sName 118 gen ∨ ∃ k, k < 128 ∧ x = tName k
def MakePost (n pb db : Nat) (w : World) (o : Owner) (d : Dsk) (L : Logic) (gen : Nat) (es : List Edg) (vs : List Vrt) (e : Ending) (w' : World) : Prop :=
 ∃ c d' o' L', e = .returned (.int .i64 ((c : Nat) : Int)) ∧ Moved (fun _ => False) n pb db w o d w' o' d' L' ∧ (∀ x, ¬ ofMake gen x → mget L' x = mget L x) ∧ ((c = 0 ∧ L' = makeL L gen es vs) ∨ ErrN d d' (need L + 20 * es.length + 4 * vs.length) c)
section
variable {w w' : World} {pb db n : Nat} {name : Name} {o o' : Owner} {d d' : Dsk} {L L' : Logic}
set_option maxRecDepth 100000 in
set_option maxHeartbeats 8000000 in
theorem storeMake_any (HW : WriteSaid) {m : Nat} (HJS : JobSortSaid m) (h : PoolAt w pb db n o d L) (hn : 8 ≤ n) {es : List Edg} {fl : Bool} {raw : Name} {gen : Nat} (hg : GenAt w o gen) (hL : mget L raw = some (edgeFile es fl)) (hraw : ownName raw = false) (hm : es.length ≤ m)
 (he : mget L (sName 101 gen) = none) (hr : mget L (sName 114 gen) = none) (hv : mget L (sName 118 gen) = none) (hnt : ∀ k, mget L (tName k) = none) {v : Value} {vs : List Vrt} (hvs : VertsAt w v vs) (hvo : ∀ x, v.ownBlock = some x → o x = none) (hvl : vs.length < 65535) :
 Calls Tryz.prog 17 #[ptrTo pb, .string raw, .int .i64 (gen : Int), v] w (MakePost n pb db w o d L gen es vs) := by
 have hne1 : raw ≠ sName 101 gen := fun e => by rw [e, he] at hL; cases hL
 have hne2 : raw ≠ sName 114 gen := fun e => by rw [e, hr] at hL; cases hL
 have hright := Lib.hid (storeRight_yes gen hg.le)
 have hnmE := Lib.hid (fun W o' (hW : GenAt W o' gen) => storeName_any 101 gen hW)
 have hnmR := Lib.hid (fun W o' (hW : GenAt W o' gen) => storeName_any 114 gen hW)
 have hnmV := Lib.hid (fun W o' (hW : GenAt W o' gen) => storeName_any 118 gen hW)
 have hs1 : Hid (∀ W o' d', PoolAt W pb db n o' d' L → Calls Tryz.prog 28 #[ptrTo pb, .string raw, .string (sName 101 gen), .int .i64 0] W (SortsPost (fun _ => False) n pb db W o' d' L (sName 101 gen) (bestOf false es) es.length)) := Lib.hid (fun W o' d' hW =>
  sort_done (by' := false) HW HJS hW hn hL hne1 hraw (sName_own 101 (by decide) gen) (sName_ok 101 (by decide) hg.le) he hnt hm)
 obtain ⟨L1, hL1⟩ : ∃ L1, L1 = mput L (sName 101 gen) (edgeFile (bestOf false es) true) := ⟨_, rfl⟩
 have hraw1 : mget L1 raw = some (edgeFile es fl) := by rw [hL1, mget_mput, if_neg hne1, hL]
 have hr1 : mget L1 (sName 114 gen) = none := by rw [hL1, mget_mput, if_neg (sName_ne (by decide) _ _), hr]
 have hnt1 : ∀ k, mget L1 (tName k) = none := fun k => by rw [hL1, mget_mput, if_neg (fun e => tName_sName 101 (by decide) gen k e.symm), hnt]
 have hs2 : Hid (∀ W o' d', PoolAt W pb db n o' d' L1 → Calls Tryz.prog 28 #[ptrTo pb, .string raw, .string (sName 114 gen), .int .i64 1] W (SortsPost (fun _ => False) n pb db W o' d' L1 (sName 114 gen) (bestOf true es) es.length)) := Lib.hid (fun W o' d' hW =>
  sort_done (by' := true) HW HJS hW hn hraw1 hne2 hraw (sName_own 114 (by decide) gen) (sName_ok 114 (by decide) hg.le) hr1 hnt1 hm)
 obtain ⟨L2, hL2⟩ : ∃ L2, L2 = mput L1 (sName 114 gen) (edgeFile (bestOf true es) true) := ⟨_, rfl⟩
 have hv2 : mget L2 (sName 118 gen) = none := by rw [hL2, mget_mput, if_neg (sName_ne (by decide) _ _), hL1, mget_mput, if_neg (sName_ne (by decide) _ _), hv]
 have hokV := sName_ok 118 (by decide) hg.le
 have HGEN := Lib.hid hg
 have hcr : Hid (∀ W o' d', PoolAt W pb db n o' d' L2 → Calls Tryz.prog 59 #[ptrTo pb, .string (sName 118 gen)] W (CreatePost n pb db W o' d' L2 (sName 118 gen))) := Lib.hid (fun W o' d' hW => create_pool hW _ (okName_1000 hokV))
 have hcode : Hid (∀ d' : Dsk, createCode d' L2 (sName 118 gen) = if d'.tick.dead = true then 6 else 0) := Lib.hid (fun d' => by
  unfold createCode
  rw [hokV, hv2]
  rfl)
 have hopen : Hid (∀ W o' d' L', PoolAt W pb db n o' d' L' → Calls Tryz.prog 29 #[ptrTo pb, .string (sName 118 gen), .int .i64 12] W (StreamOpenPost W pb (sName 118 gen) 12 (pfOpen d' (sName 118 gen)))) := Lib.hid (fun W o' d' L' hW => streamOpen_any (sz := 12) hW _ (okName_1000 hokV) (by decide) (by decide))
 have hadd : Hid (∀ W o' d' sb rs, PoolAt W pb db n o' d' (mput L2 (sName 118 gen) (vertFile rs false)) → StreamAt W sb pb (sName 118 gen) 12 → o' sb = none → rs.length < 65535 → ∀ rv (x : Vrt), Rd W rv x.bytes → (∀ b, rv.ownBlock = some b → o' b = none) →
  Calls Tryz.prog 60 #[ptrTo sb, rv] W (LaidPost (fun _ => False) n pb db W o' d' (mput L2 (sName 118 gen) (vertFile rs false)) (mput L2 (sName 118 gen) (vertFile (rs ++ [x]) false)))) := Lib.hid (fun W o' d' sb rs hW hst ho' hl rv x hr hro => by
  have := streamAdd_any HW hW hst ho' (by decide) (by decide) (by rw [mget_mput, if_pos rfl]; rfl) (sized_verts rs) (by rw [List.length_map]; exact hl) hr x.bytes_length hro
  rw [mput_mput] at this
  unfold vertFile at this ⊢
  rw [List.map_append]
  exact this)
 have hfl : Hid (∀ W o' d', PoolAt W pb db n o' d' (mput L2 (sName 118 gen) (vertFile vs false)) → Calls Tryz.prog 64 #[ptrTo pb, .string (sName 118 gen)] W (LaidPost (fun _ => False) n pb db W o' d' (mput L2 (sName 118 gen) (vertFile vs false)) (mput L2 (sName 118 gen) (vertFile vs true)))) := Lib.hid (fun W o' d' hW => by
  have := flush_pool HW hW (name := sName 118 gen) (ps := pagesOf (per 12) (vs.map Vrt.bytes)) (fl := false) (by rw [mget_mput, if_pos rfl]; rfl)
  rw [mput_mput] at this
  exact this)
 have HK1 : Hid ((L1.map (·.1)).Nodup) := Lib.hid (by rw [hL1]; exact mput_keys h.keys)
 have HK2 : Hid ((L2.map (·.1)).Nodup) := Lib.hid (by rw [hL2, hL1]; exact mput_keys (mput_keys h.keys))
 have HN1 : Hid (need L1 ≤ need L + 4 * es.length) := Lib.hid (by
  have h1 := need_mput_le L (sName 101 gen) (edgeFile (bestOf false es) true)
  have h2 := edgeFile_need (bestOf false es) true
  have h3 := bestOf_length false es
  rw [hL1]
  omega)
 have HN2 : Hid (∀ rs : List Vrt, rs.length ≤ vs.length → need (mput L2 (sName 118 gen) (vertFile rs false)) ≤ need L + 20 * es.length + 4 * vs.length) := Lib.hid (fun rs hrs => by
  have h1 := need_mput_le L1 (sName 114 gen) (edgeFile (bestOf true es) true)
  have h2 := edgeFile_need (bestOf true es) true
  have h3 := bestOf_length true es
  have h4 := need_mput_le L2 (sName 118 gen) (vertFile rs false)
  have h5 := vertFile_need rs false
  have h6 := HN1.out
  rw [← hL2] at h1
  omega)
 have HO1 : Hid (∀ x, ¬ ofMake gen x → mget L1 x = mget L x) := Lib.hid (fun x hx => by rw [hL1, mget_mput, if_neg (fun e => hx (.inl e))])
 have HO2 : Hid (∀ x, ¬ ofMake gen x → mget L2 x = mget L x) := Lib.hid (fun x hx => by rw [hL2, mget_mput, if_neg (fun e => hx (.inr (.inl e))), HO1.out x hx])
 have HEND : Hid (makeL L gen es vs = mput L2 (sName 118 gen) (vertFile vs true)) := Lib.hid (by unfold makeL; rw [hL2, hL1])
 have HNE : Hid (∀ x, ¬ ofMake gen x → ¬ ofSort (sName 101 gen) x ∧ ¬ ofSort (sName 114 gen) x ∧ x ≠ sName 118 gen) := Lib.hid (fun x hx => ⟨fun e => hx (e.imp id (fun h => .inr (.inr h))), fun e => hx (.inr (e.imp id .inr)), fun e => hx (.inr (.inr (.inl e)))⟩)
 have HL1e : Hid (∀ x, mget L1 x = mget (mput L (sName 101 gen) (edgeFile (bestOf false es) true)) x) := Lib.hid (fun x => by rw [hL1])
 have HL2e : Hid (∀ x, mget L2 x = mget (mput L1 (sName 114 gen) (edgeFile (bestOf true es) true)) x) := Lib.hid (fun x => by rw [hL2])
 have H := Lib.hid h
 have HVS := Lib.hid hvs
 have HVO := Lib.hid hvo
 obtain ⟨va, vc, rfl, hvc1, hvc2, -⟩ := hvs
 unfold maxLen at hvc2
 have hvw : Hid (∀ (x : Vrt) W, Calls Tryz.prog 63 #[.agg #[.int .u32 (x.r.toNat : Int), .int .u32 (x.l.toNat : Int), .int .u32 (x.g.toNat : Int)]] W (NewBytes W x.bytes)) := Lib.hid (fun x W => vrtBytes_any x W)
 clear h hg hL hraw hm he hr hv hnt hvo hne1 hne2 hraw1 hr1 hnt1 hv2 hokV hL1 hL2
 unfold ptrTo at *
 generalize sName 101 gen = nE at *
 generalize sName 114 gen = nR at *
 generalize sName 118 gen = nV at *
 go_enter Tryz.func17, Tryz.ntmps17
 go_wp2_with fail
 refine (hright.out _).mono ?_
 rintro e w' ⟨rfl, rfl⟩
 go_wp2_with fail
 refine (hnmE.out _ o HGEN.out).mono ?_
 rintro e w1 ⟨rfl, hb1⟩
 have HB1 := Lib.hid hb1
 clear hb1
 go_wp2_with fail
 refine (hs1.out w1 o d (H.out.below HB1.out)).mono ?_
 rintro e w2 ⟨c2, d2, o2, L2', rfl, hm2, hot2, hc2⟩
 have HM2 := Lib.hid ((Moved.ofBelow H.out HB1.out).trans hm2 (fun _ _ h => h))
 have HOT2 := Lib.hid hot2
 clear hm2 hot2
 rcases hc2 with ⟨rfl, hl2⟩ | he2
 ·have HM2' : Hid (Moved (fun _ => False) n pb db w o d w2 o2 d2 L1) := Lib.hid (HM2.out.congr HK1.out (fun x => (HL1e.out x).trans (hl2 x).symm))
  clear hl2 HM2 HOT2
  go_wp2_with fail
  refine (hnmR.out _ o2 (HGEN.out.moved HM2'.out (fun _ h => h))).mono ?_
  rintro e w3 ⟨rfl, hb3⟩
  have HM3 := Lib.hid (HM2'.out.below hb3)
  clear hb3
  go_wp2_with fail
  refine (hs2.out w3 o2 d2 HM3.out.pool).mono ?_
  rintro e w4 ⟨c4, d4, o4, L4', rfl, hm4, hot4, hc4⟩
  have HM4 := Lib.hid (HM3.out.trans hm4 (fun _ _ h => h))
  have HOT4 := Lib.hid hot4
  clear hm4 hot4
  rcases hc4 with ⟨rfl, hl4⟩ | he4
  ·have HM4' : Hid (Moved (fun _ => False) n pb db w o d w4 o4 d4 L2) := Lib.hid (HM4.out.congr HK2.out (fun x => (HL2e.out x).trans (hl4 x).symm))
   clear hl4 HM4 HOT4
   go_wp2_with fail
   refine (hnmV.out _ o4 (HGEN.out.moved HM4'.out (fun _ h => h))).mono ?_
   rintro e w5 ⟨rfl, hb5⟩
   have HM5 := Lib.hid (HM4'.out.below hb5)
   clear hb5
   have hcc := Lib.hid (hcr.out w5 o4 d4 HM5.out.pool)
   unfold CreatePost at hcc
   rw [hcode.out d4] at hcc
   cases hd4 : d4.tick.dead with
   | true =>
     rw [hd4, if_pos rfl] at hcc
     have HD4 := Lib.hid hd4
     clear hd4
     go_wp2_with fail
     refine hcc.out.mono ?_
     rintro e w6 ⟨d6, o6, rfl, hm6, -, hdd⟩
     rw [if_neg (by decide)] at hm6
     have HM6 := Lib.hid (HM5.out.trans hm6 (fun _ _ h => h))
     have HDD := Lib.hid (hdd (by first | exact HD4.out | trivial))
     clear hm6 hdd hcc
     go_wp2
     go_ret
     exact ⟨6, d6, o6, L2, rfl, HM6.out, HO2.out, .inr (.inr ⟨rfl, HDD.out⟩)⟩
   | false =>
     rw [hd4, if_neg (by simp)] at hcc
     clear hd4
     go_wp2_with fail
     refine hcc.out.mono ?_
     rintro e w6 ⟨d6, o6, rfl, hm6, hdd6, -⟩
     simp only [if_true] at hm6
     have hget : mget (mput L2 nV (.inl (([] : List Pg), true))) nV = some (.inl (([] : List Pg), true)) := by rw [mget_mput, if_pos rfl]
     have hpf : pfOpen d6 nV = 0 := by
      rw [pfOpen_paged hm6.pool hget, hdd6 (by trivial)]
      rfl
     have hm6' : Moved (fun _ => False) n pb db w5 o4 d4 w6 o6 d6 (mput L2 nV (vertFile [] false)) :=
      ⟨(hm6.pool.weaken hget).congr (mput_keys HK2.out) (fun x => by
        show mget (mput L2 nV (.inl (([] : List Pg), false))) x = _
        rw [mget_mput, mget_mput, mget_mput]
        by_cases e : x = nV
        ·rw [if_pos e, if_pos e]
        ·rw [if_neg e, if_neg e, if_neg e]), hm6.turn, hm6.grow, hm6.on⟩
     have HM6 := Lib.hid (HM5.out.trans hm6' (fun _ _ h => h))
     have hco := Lib.hid (hopen.out w6 o6 d6 _ hm6.pool)
     rw [hpf] at hco
     have HF6 := Lib.hid (fun x (hx : w6.heap.size ≤ x) => hm6.pool.fresh hx)
     clear hm6 hm6' hdd6 hpf hget hcc
     go_wp2_with fail
     refine hco.out.mono ?_
     rintro e w7 ⟨v7, rfl, hb7, hok7, -⟩
     obtain ⟨sb, rfl, hst7, hsb⟩ := hok7 rfl
     have HM7 := Lib.hid (HM6.out.below hb7)
     have HST7 := Lib.hid hst7
     have HOS7 : Hid (o6 sb = none) := Lib.hid (HF6.out _ hsb)
     clear hb7 hst7 hok7 hco
     unfold ptrTo
     generalize hV : vs.length = V at *
     have HV := Lib.hid hV
     clear hV
     go_wp2
     go_loopw [60] (fun i wr => ∃ (k : Nat) (d' : Dsk) (o' : Owner), k ≤ V ∧ i = .int .i64 (k : Int) ∧ Moved (fun _ => False) n pb db w o d wr o' d' (mput L2 nV (vertFile (vs.take k) false)) ∧ StreamAt wr sb pb nV 12 ∧ o' sb = none) (fun i _ => V - (intOf i).toNat)
     case atStart => exact ⟨0, d6, o6, Nat.zero_le _, rfl, by simpa using HM7.out, HST7.out, HOS7.out⟩
     case round =>
      obtain ⟨k, d8, o8, hk, rfl, hm8, hst8, hos8⟩ := hrel
      have HM8 := Lib.hid hm8
      have HST8 := Lib.hid hst8
      have HOS8 := Lib.hid hos8
      have hsl8 := hst8.lt
      by_cases hlt : k < V
      ·have hkv : k < vs.length := by rw [HV.out]; exact hlt
       obtain ⟨a', c', hve, -, -, hcs⟩ := HVS.out
       cases hve
       obtain hcs | ⟨b, off, rfl, hcs⟩ := hcs
       ·omega
       obtain ⟨g0, g1, g2⟩ := hcs k hkv
       have e0 := hm8.cell g0 (HVO.out b rfl) (fun h => h)
       have e1 := hm8.cell g1 (HVO.out b rfl) (fun h => h)
       have e2 := hm8.cell g2 (HVO.out b rfl) (fun h => h)
       have hbl : b < wr.heap.size := World.block_lt_of_cell? _ _ e0
       have HTK : Hid (vs.take k ++ [vs[k]] = vs.take (k + 1)) := Lib.hid (by rw [List.take_succ_eq_append_getElem hkv])
       have htl : (vs.take k).length < 65535 := by rw [List.length_take, HV.out]; omega
       have hcallv := Lib.hid (fun W => hvw.out vs[k] W)
       have hcalla := Lib.hid (fun W rv (hW : PoolAt W pb db n o8 d8 (mput L2 nV (vertFile (vs.take k) false))) (hst : StreamAt W sb pb nV 12) (hr : Rd W rv vs[k].bytes) (hro : ∀ b, rv.ownBlock = some b → o8 b = none) => hadd.out W o8 d8 sb (vs.take k) hW hst HOS8.out htl rv vs[k] hr hro)
       have hal : Hid (∀ ob : Obj, Moved (fun _ => False) n pb db w o d (wr.alloc ob) o8 d8 (mput L2 nV (vertFile (vs.take k) false))) := Lib.hid (fun ob => HM8.out.alloc ob)
       have htl2 : Hid ((vs.take k).length ≤ vs.length) := Lib.hid (by rw [List.length_take]; omega)
       clear g0 g1 g2 hcs hm8 hst8 hos8
       generalize vs[k] = y at *
       go_wp2_with fail
       refine (hcallv.out _).mono ?_
       rintro e w9 ⟨v9, rfl, ho9, hb9⟩
       have HM9 := Lib.hid ((hal.out _).below hb9)
       have hst9 : StreamAt w9 sb pb nV 12 := (HST8.out.below ((Below.refl _ _).alloc (Nat.le_refl _) _)).below hb9
       have hfr9 : ∀ b, v9.ownBlock = some b → o8 b = none := fun b hb => HM8.out.pool.fresh (Nat.le_trans (by simp) (ownsRow_block ho9 b hb))
       have hca := Lib.hid (hcalla.out w9 v9 HM9.out.pool hst9 (Rd_own ho9) hfr9)
       have HST9 := Lib.hid hst9
       clear ho9 hb9 hst9 hfr9 e0 e1 e2 hcalla hcallv
       go_wp2_with fail
       refine hca.out.mono ?_
       rintro e w10 ⟨c10, d10, o10, rfl, hm10, he10⟩
       have HST10 : Hid (StreamAt w10 sb pb nV 12) := Lib.hid (HST9.out.moved hm10 HOS8.out (fun h => h))
       have HOS10 : Hid (o10 sb = none) := Lib.hid (hm10.free HST9.out.lt HOS8.out)
       by_cases hc : c10 = 0
       ·subst hc
        rw [if_pos rfl, HTK.out] at hm10
        have HM10 := Lib.hid (HM9.out.trans hm10 (fun _ _ h => h))
        clear hm10 he10 hca
        go_wp2
        go_roundw
        case rel => exact ⟨k + 1, d10, o10, by omega, by go_num, HM10.out, HST10.out, HOS10.out⟩
        case measure => simp [intOf]; omega
       ·have hc' : ¬ (c10 : Int) = 0 := by omega
        rw [if_neg hc] at hm10
        have HM10 := Lib.hid (HM9.out.trans hm10 (fun _ _ h => h))
        have HE10 : Hid (ErrN d d10 (need L + 20 * es.length + 4 * vs.length) c10) := Lib.hid (((he10.resolve_left hc).num (HN2.out (vs.take k) htl2.out)).later HM9.out.on.quota)
        clear hm10 he10 hca hc
        go_wp2
        go_ret
        exact ⟨c10, d10, o10, _, rfl, HM10.out, fun x hx => by rw [mget_mput, if_neg (HNE.out x hx).2.2, HO2.out x hx], .inr HE10.out⟩
      ·have htk : vs.take k = vs := List.take_of_length_le (by rw [HV.out]; omega)
       rw [htk] at HM8
       have hff := Lib.hid (hfl.out wr o8 d8 HM8.out.pool)
       clear htk hm8 hst8 hos8
       go_wp2_with fail
       refine hff.out.mono ?_
       rintro e w9 ⟨c9, d9, o9, rfl, hm9, he9⟩
       have HM9 := Lib.hid (HM8.out.trans hm9 (fun _ _ h => h))
       have HE9 := Lib.hid he9
       clear hm9 he9 hff
       go_wp2
       go_ret
       refine ⟨c9, d9, o9, _, rfl, HM9.out, fun x hx => ?_, ?_⟩
       ·split
        ·rw [mget_mput, if_neg (HNE.out x hx).2.2, HO2.out x hx]
        ·rw [mget_mput, if_neg (HNE.out x hx).2.2, HO2.out x hx]
       ·rcases HE9.out with h | h
        ·subst h
         exact .inl ⟨rfl, by rw [if_pos rfl]; exact HEND.out.symm⟩
        ·exact .inr (by rw [HV.out]; exact (h.num (HN2.out vs (by rw [HV.out]; exact Nat.le_refl _))).later HM8.out.on.quota)
  ·have hc4' : ¬ (c4 : Int) = 0 := by have := he4.ne; omega
   have HE4 : Hid (ErrN d d4 (need L + 20 * es.length + 4 * vs.length) c4) := Lib.hid ((he4.mono (by have := HN1.out; omega)).later HM3.out.on.quota)
   clear he4
   go_wp2
   go_ret
   exact ⟨c4, d4, o4, L4', rfl, HM4.out, fun x hx => (HOT4.out x (HNE.out x hx).2.1).trans (HO1.out x hx), .inr HE4.out⟩
 ·have hc2' : ¬ (c2 : Int) = 0 := by have := he2.ne; omega
  have HE2 : Hid (ErrN d d2 (need L + 20 * es.length + 4 * vs.length) c2) := Lib.hid (he2.mono (by omega))
  clear he2
  go_wp2
  go_ret
  exact ⟨c2, d2, o2, L2', rfl, HM2.out, fun x hx => HOT2.out x (HNE.out x hx).1, .inr HE2.out⟩
end
end Go.Proofs.YtolieljpnafbhaaGreatDoor
namespace Go.Proofs.YtolieljpnafbhaaGreatDoor
open Go.RowKit Go.Maps Go.MapKept
def GraphRaw (w : World) (gb : Nat) (x0 x1 x2 x3 : Value) : Prop := ∃ t, w.heap[gb]? = some (.cells #[x0, x1, x2, x3] t)
section
variable {S : Nat → Prop} {w w' : World} {pb db n gb : Nat} {name : Name} {o o' : Owner} {d d' : Dsk} {L L' : Logic} {x0 x1 x2 x3 : Value}
theorem GraphRaw.kept (h : GraphRaw w gb x0 x1 x2 x3) (hb : w'.heap[gb]? = w.heap[gb]?) : GraphRaw w' gb x0 x1 x2 x3 := by
 obtain ⟨t, h⟩ := h
 exact ⟨t, hb.trans h⟩
theorem GraphRaw.lt (h : GraphRaw w gb x0 x1 x2 x3) : gb < w.heap.size := by
 obtain ⟨t, h⟩ := h
 exact (Array.getElem?_eq_some_iff.1 h).1
theorem GraphRaw.below (h : GraphRaw w gb x0 x1 x2 x3) (hb : Below w.heap.size w w') : GraphRaw w' gb x0 x1 x2 x3 := h.kept (hb.block _ h.lt)
theorem GraphRaw.moved (h : GraphRaw w gb x0 x1 x2 x3) (hm : Moved S n pb db w o d w' o' d' L') (ho : o gb = none) (hs : ¬ S gb) : GraphRaw w' gb x0 x1 x2 x3 := h.kept (hm.block h.lt ho hs)
theorem GraphRaw.cells (h : GraphRaw w gb x0 x1 x2 x3) : w.cell? ⟨gb, 0, none⟩ = some x0 ∧ w.cell? ⟨gb, 1, none⟩ = some x1 ∧ w.cell? ⟨gb, 2, none⟩ = some x2 ∧ w.cell? ⟨gb, 3, none⟩ = some x3 ∧ ∀ j, w.frozen? ⟨gb, j, none⟩ = false := by
 obtain ⟨t, h⟩ := h
 refine ⟨?_, ?_, ?_, ?_, fun j => cells_frozen h j⟩ <;> rw [cells_cell h] <;> rfl
theorem GraphRaw.set0 (h : GraphRaw w gb x0 x1 x2 x3) (v : Value) : GraphRaw (w.setCell ⟨gb, 0, none⟩ v) gb v x1 x2 x3 := by
 obtain ⟨t, h⟩ := h
 exact ⟨t, cells_set h 0 v⟩
theorem GraphRaw.set1 (h : GraphRaw w gb x0 x1 x2 x3) (v : Value) : GraphRaw (w.setCell ⟨gb, 1, none⟩ v) gb x0 v x2 x3 := by
 obtain ⟨t, h⟩ := h
 exact ⟨t, cells_set h 1 v⟩
theorem GraphRaw.set2 (h : GraphRaw w gb x0 x1 x2 x3) (v : Value) : GraphRaw (w.setCell ⟨gb, 2, none⟩ v) gb x0 x1 v x3 := by
 obtain ⟨t, h⟩ := h
 exact ⟨t, cells_set h 2 v⟩
theorem GraphRaw.set3 (h : GraphRaw w gb x0 x1 x2 x3) (v : Value) : GraphRaw (w.setCell ⟨gb, 3, none⟩ v) gb x0 x1 x2 v := by
 obtain ⟨t, h⟩ := h
 exact ⟨t, cells_set h 3 v⟩
structure GraphAt (w : World) (o : Owner) (gb pb gen N : Nat) (ob ib vb : Nat) : Prop where
 raw : GraphRaw w gb (ptrTo ob) (ptrTo ib) (ptrTo vb) (.int .i64 (N : Int))
 out : StreamAt w ob pb (sName 101 gen) 20
 inn : StreamAt w ib pb (sName 114 gen) 20
 verts : StreamAt w vb pb (sName 118 gen) 12
 ogb : o gb = none
 oob : o ob = none
 oib : o ib = none
 ovb : o vb = none
theorem GraphAt.moved {gen N ob ib vb : Nat} (h : GraphAt w o gb pb gen N ob ib vb) (hm : Moved (fun _ => False) n pb db w o d w' o' d' L') : GraphAt w' o' gb pb gen N ob ib vb :=
 ⟨h.raw.moved hm h.ogb (fun h => h), h.out.moved hm h.oob (fun h => h), h.inn.moved hm h.oib (fun h => h), h.verts.moved hm h.ovb (fun h => h), hm.free h.raw.lt h.ogb, hm.free h.out.lt h.oob, hm.free h.inn.lt h.oib, hm.free h.verts.lt h.ovb⟩
theorem StreamAt.setOther {sb sz b j : Nat} {v : Value} (h : StreamAt w sb pb name sz) (hne : sb ≠ b) : StreamAt (w.setCell ⟨b, j, none⟩ v) sb pb name sz := h.kept (Below.heap_setCell _ _ _ _ hne)
def OpenGraphPost (n pb db : Nat) (w : World) (o : Owner) (d : Dsk) (L : Logic) (gen N : Nat) (e : Ending) (w' : World) : Prop :=
 ∃ v c d' o', e = .returned (.tuple #[v, .int .i64 ((c : Nat) : Int)]) ∧ Moved (fun _ => False) n pb db w o d w' o' d' L ∧ (c = 0 ∨ Err d d' L c) ∧ (c = 0 → ∃ gb ob ib vb, v = ptrTo gb ∧ GraphAt w' o' gb pb gen N ob ib vb) ∧ (c ≠ 0 → v = .pointer none)
theorem pfOpen_err (h : PoolAt w pb db n o d L) {ps : List Pg} {fl : Bool} (hL : mget L name = some (.inl (ps, fl))) {c : Nat} (hc : pfOpen d name = c) (h0 : c ≠ 0) : c = 6 ∧ d.dead = true := by
 rw [pfOpen_paged h hL] at hc
 split at hc
 ·exact ⟨hc.symm, by assumption⟩
 ·exact absurd hc.symm h0
set_option maxRecDepth 100000 in
set_option maxHeartbeats 8000000 in
theorem storeOpen_any (HW : WriteSaid) (h : PoolAt w pb db n o d L) {gen : Nat} (hg : GenAt w o gen) {vs : List Vrt} {es1 es2 : List Edg} {fl0 fl1 fl2 : Bool} (hv : mget L (sName 118 gen) = some (vertFile vs fl0)) (he : mget L (sName 101 gen) = some (edgeFile es1 fl1)) (hr : mget L (sName 114 gen) = some (edgeFile es2 fl2)) :
 Calls Tryz.prog 18 #[ptrTo pb, .int .i64 (gen : Int)] w (OpenGraphPost n pb db w o d L gen vs.length) := by
 have hright := Lib.hid (storeRight_yes gen hg.le)
 have hnmE := Lib.hid (fun W o' (hW : GenAt W o' gen) => storeName_any 101 gen hW)
 have hnmR := Lib.hid (fun W o' (hW : GenAt W o' gen) => storeName_any 114 gen hW)
 have hnmV := Lib.hid (fun W o' (hW : GenAt W o' gen) => storeName_any 118 gen hW)
 have hoV : Hid (∀ W o' d', PoolAt W pb db n o' d' L → Calls Tryz.prog 29 #[ptrTo pb, .string (sName 118 gen), .int .i64 12] W (StreamOpenPost W pb (sName 118 gen) 12 (pfOpen d' (sName 118 gen))) ∧ ∀ c, pfOpen d' (sName 118 gen) = c → c ≠ 0 → c = 6 ∧ d'.dead = true) := Lib.hid (fun W o' d' hW => ⟨streamOpen_any (sz := 12) hW _ (okName_1000 (h.ok hv)) (by decide) (by decide), fun c h1 h2 => pfOpen_err hW hv h1 h2⟩)
 have hoE : Hid (∀ W o' d', PoolAt W pb db n o' d' L → Calls Tryz.prog 29 #[ptrTo pb, .string (sName 101 gen), .int .i64 20] W (StreamOpenPost W pb (sName 101 gen) 20 (pfOpen d' (sName 101 gen))) ∧ ∀ c, pfOpen d' (sName 101 gen) = c → c ≠ 0 → c = 6 ∧ d'.dead = true) := Lib.hid (fun W o' d' hW => ⟨streamOpen_any (sz := 20) hW _ (okName_1000 (h.ok he)) (by decide) (by decide), fun c h1 h2 => pfOpen_err hW he h1 h2⟩)
 have hoR : Hid (∀ W o' d', PoolAt W pb db n o' d' L → Calls Tryz.prog 29 #[ptrTo pb, .string (sName 114 gen), .int .i64 20] W (StreamOpenPost W pb (sName 114 gen) 20 (pfOpen d' (sName 114 gen))) ∧ ∀ c, pfOpen d' (sName 114 gen) = c → c ≠ 0 → c = 6 ∧ d'.dead = true) := Lib.hid (fun W o' d' hW => ⟨streamOpen_any (sz := 20) hW _ (okName_1000 (h.ok hr)) (by decide) (by decide), fun c h1 h2 => pfOpen_err hW hr h1 h2⟩)
 have hlen : Hid (∀ W o' d' sb, PoolAt W pb db n o' d' L → StreamAt W sb pb (sName 118 gen) 12 → o' sb = none → Calls Tryz.prog 30 #[ptrTo sb] W (Stays n pb db W o' d' L (numIs vs.length))) := Lib.hid (fun W o' d' sb hW hst ho' => by
  have := streamLen_any HW hW hst ho' (by decide) (by decide) hv (sized_verts vs)
  rw [List.length_map] at this
  exact this)
 have H := Lib.hid h
 have HGEN := Lib.hid hg
 clear h hg hv he hr
 unfold ptrTo at *
 generalize vs.length = N at *
 go_enter Tryz.func18, Tryz.ntmps18
 go_wp2_with fail
 refine (hright.out _).mono ?_
 rintro e w' ⟨rfl, rfl⟩
 have HG0 : Hid (GraphRaw (w.alloc (.cells #[.pointer none, .pointer none, .pointer none, .int .i64 0] 115)) w.heap.size (.pointer none) (.pointer none) (.pointer none) (.int .i64 0)) := Lib.hid ⟨_, heap_alloc_new w _⟩
 have HB0 : Hid (Below w.heap.size w (w.alloc (.cells #[.pointer none, .pointer none, .pointer none, .int .i64 0] 115))) := Lib.hid ((Below.refl _ _).alloc (Nat.le_refl _) _)
 have HOG : Hid (o w.heap.size = none) := Lib.hid (H.out.fresh (Nat.le_refl _))
 go_wp2_with fail
 generalize w.alloc (.cells #[.pointer none, .pointer none, .pointer none, .int .i64 0] 115) = W0 at *
 refine (hnmV.out _ o (HGEN.out.below HB0.out)).mono ?_
 rintro e w1 ⟨rfl, hb1⟩
 have HG1 := Lib.hid (HG0.out.below hb1)
 have HB1 : Hid (Below w.heap.size w w1) := Lib.hid (HB0.out.trans (hb1.mono HB0.out.size))
 clear hb1
 go_wp2_with fail
 obtain ⟨hcV, hbV⟩ := hoV.out w1 o d (H.out.below HB1.out)
 have HCV := Lib.hid hcV
 have HBV := Lib.hid hbV
 clear hcV hbV
 generalize hp2 : pfOpen d (sName 118 gen) = c2 at *
 have HP2 := Lib.hid hp2
 clear hp2
 refine HCV.out.mono ?_
 rintro e w2 ⟨v2, rfl, hb2, hok2, hbad2⟩
 have HG2 := Lib.hid (HG1.out.below hb2)
 have HB2 : Hid (Below w.heap.size w w2) := Lib.hid (HB1.out.trans (hb2.mono HB1.out.size))
 have hsz1 : w.heap.size < w1.heap.size := HG1.out.lt
 have HM2' : Hid (∀ v, Moved (fun _ => False) n pb db w o d (w2.setCell ⟨w.heap.size, 2, none⟩ v) o d L) := Lib.hid (fun v => (Moved.ofBelow H.out HB2.out).setCell _ _ HOG.out (.inr (Nat.le_refl _)))
 clear hb2
 obtain ⟨g0, g1, g2, g3, gz⟩ := HG2.out.cells
 have gz2 := gz 2
 clear gz
 by_cases hc2 : c2 = 0
 ·subst hc2
  obtain ⟨vb, rfl, hst2, hvb⟩ := hok2 rfl
  have hne2 : vb ≠ w.heap.size := by omega
  have HV3 : Hid (StreamAt (w2.setCell ⟨w.heap.size, 2, none⟩ (.pointer (some ⟨vb, 0, none⟩))) vb pb (sName 118 gen) 12) := Lib.hid (hst2.setOther hne2)
  have HG3 : Hid (GraphRaw (w2.setCell ⟨w.heap.size, 2, none⟩ (.pointer (some ⟨vb, 0, none⟩))) w.heap.size (.pointer none) (.pointer none) (.pointer (some ⟨vb, 0, none⟩)) (.int .i64 0)) := Lib.hid (HG2.out.set2 _)
  have HM3 := Lib.hid (HM2'.out (.pointer (some ⟨vb, 0, none⟩)))
  have HOV : Hid (o vb = none) := Lib.hid (H.out.fresh (by omega))
  clear hok2 hbad2 hst2
  unfold ptrTo
  go_wp2_with fail
  generalize w2.setCell ⟨w.heap.size, 2, none⟩ (.pointer (some ⟨vb, 0, none⟩)) = w3 at *
  have hcl := Lib.hid (hlen.out w3 o d vb HM3.out.pool HV3.out HOV.out)
  refine hcl.out.mono ?_
  rintro e w4 ⟨c4, d4, o4, ⟨x4, rfl, hx4⟩, hm4, he4⟩
  have HX4 := Lib.hid hx4
  have HE4 := Lib.hid he4
  have HM4 := Lib.hid (HM3.out.trans hm4 (fun _ _ h => h))
  have HG4 := Lib.hid (HG3.out.moved hm4 HOG.out (fun h => h))
  have HV4 := Lib.hid (HV3.out.moved hm4 HOV.out (fun h => h))
  have HOG4 : Hid (o4 w.heap.size = none) := Lib.hid (hm4.free HG3.out.lt HOG.out)
  have HOV4 : Hid (o4 vb = none) := Lib.hid (hm4.free HV3.out.lt HOV.out)
  clear hm4 he4 hx4 hcl g0 g1 g2 g3 gz2
  obtain ⟨g0, g1, g2, g3, gz⟩ := HG4.out.cells
  have gz3 := gz 3
  clear gz
  have HM5 : Hid (Moved (fun _ => False) n pb db w o d (w4.setCell ⟨w.heap.size, 3, none⟩ (.int .i64 (x4 : Int))) o4 d4 L) := Lib.hid (HM4.out.setCell _ _ HOG4.out (.inr (Nat.le_refl _)))
  have HG5 : Hid (GraphRaw (w4.setCell ⟨w.heap.size, 3, none⟩ (.int .i64 (x4 : Int))) w.heap.size (.pointer none) (.pointer none) (.pointer (some ⟨vb, 0, none⟩)) (.int .i64 (x4 : Int))) := Lib.hid (HG4.out.set3 _)
  have HV5 : Hid (StreamAt (w4.setCell ⟨w.heap.size, 3, none⟩ (.int .i64 (x4 : Int))) vb pb (sName 118 gen) 12) := Lib.hid (HV4.out.setOther hne2)
  by_cases hc4 : c4 = 0
  ·subst hc4
   have HX := Lib.hid (HX4.out rfl)
   go_wp2_with fail
   generalize w4.setCell ⟨w.heap.size, 3, none⟩ (.int .i64 (x4 : Int)) = w5 at *
   clear g0 g1 g2 g3 gz3
   refine (hnmE.out _ o4 (HGEN.out.moved HM5.out (fun _ h => h))).mono ?_
   rintro e w6 ⟨rfl, hb6⟩
   have HM6 := Lib.hid (HM5.out.below hb6)
   have HG6 := Lib.hid (HG5.out.below hb6)
   have HV6 := Lib.hid (HV5.out.below hb6)
   clear hb6
   go_wp2_with fail
   obtain ⟨hcE, hbE⟩ := hoE.out w6 o4 d4 HM6.out.pool
   have HCE := Lib.hid hcE
   have HBE := Lib.hid hbE
   clear hcE hbE
   generalize hp7 : pfOpen d4 (sName 101 gen) = c7 at *
   clear hp7
   refine HCE.out.mono ?_
   rintro e w7 ⟨v7, rfl, hb7, hok7, hbad7⟩
   have HM7 := Lib.hid (HM6.out.below hb7)
   have HG7 := Lib.hid (HG6.out.below hb7)
   have HV7 := Lib.hid (HV6.out.below hb7)
   have hs6 : w.heap.size < w6.heap.size := HG6.out.lt
   clear hb7
   obtain ⟨g0, g1, g2, g3, gz⟩ := HG7.out.cells
   have gz0 := gz 0
   clear gz
   have HM8' : Hid (∀ v, Moved (fun _ => False) n pb db w o d (w7.setCell ⟨w.heap.size, 0, none⟩ v) o4 d4 L) := Lib.hid (fun v => HM7.out.setCell _ _ HOG4.out (.inr (Nat.le_refl _)))
   by_cases hc7 : c7 = 0
   ·subst hc7
    obtain ⟨ob, rfl, hst7, hob⟩ := hok7 rfl
    have hne7 : ob ≠ w.heap.size := by omega
    have HO8 : Hid (StreamAt (w7.setCell ⟨w.heap.size, 0, none⟩ (.pointer (some ⟨ob, 0, none⟩))) ob pb (sName 101 gen) 20) := Lib.hid (hst7.setOther hne7)
    have HV8 : Hid (StreamAt (w7.setCell ⟨w.heap.size, 0, none⟩ (.pointer (some ⟨ob, 0, none⟩))) vb pb (sName 118 gen) 12) := Lib.hid (HV7.out.setOther hne2)
    have HG8 : Hid (GraphRaw (w7.setCell ⟨w.heap.size, 0, none⟩ (.pointer (some ⟨ob, 0, none⟩))) w.heap.size (.pointer (some ⟨ob, 0, none⟩)) (.pointer none) (.pointer (some ⟨vb, 0, none⟩)) (.int .i64 (x4 : Int))) := Lib.hid (HG7.out.set0 _)
    have HM8 := Lib.hid (HM8'.out (.pointer (some ⟨ob, 0, none⟩)))
    have HOB : Hid (o4 ob = none) := Lib.hid (HM6.out.pool.fresh hob)
    clear hok7 hbad7 hst7
    unfold ptrTo
    go_wp2_with fail
    generalize w7.setCell ⟨w.heap.size, 0, none⟩ (.pointer (some ⟨ob, 0, none⟩)) = w8 at *
    clear g0 g1 g2 g3 gz0
    refine (hnmR.out _ o4 (HGEN.out.moved HM8.out (fun _ h => h))).mono ?_
    rintro e w9 ⟨rfl, hb9⟩
    have HM9 := Lib.hid (HM8.out.below hb9)
    have HG9 := Lib.hid (HG8.out.below hb9)
    have HV9 := Lib.hid (HV8.out.below hb9)
    have HO9 := Lib.hid (HO8.out.below hb9)
    clear hb9
    go_wp2_with fail
    obtain ⟨hcR, hbR⟩ := hoR.out w9 o4 d4 HM9.out.pool
    have HCR := Lib.hid hcR
    have HBR := Lib.hid hbR
    clear hcR hbR
    generalize hp10 : pfOpen d4 (sName 114 gen) = c10 at *
    clear hp10
    refine HCR.out.mono ?_
    rintro e w10 ⟨v10, rfl, hb10, hok10, hbad10⟩
    have HM10 := Lib.hid (HM9.out.below hb10)
    have HG10 := Lib.hid (HG9.out.below hb10)
    have HV10 := Lib.hid (HV9.out.below hb10)
    have HO10 := Lib.hid (HO9.out.below hb10)
    have hs9 : w.heap.size < w9.heap.size := HG9.out.lt
    clear hb10
    obtain ⟨g0, g1, g2, g3, gz⟩ := HG10.out.cells
    have gz1 := gz 1
    clear gz
    have HM11' : Hid (∀ v, Moved (fun _ => False) n pb db w o d (w10.setCell ⟨w.heap.size, 1, none⟩ v) o4 d4 L) := Lib.hid (fun v => HM10.out.setCell _ _ HOG4.out (.inr (Nat.le_refl _)))
    by_cases hc10 : c10 = 0
    ·subst hc10
     obtain ⟨ib, rfl, hst10, hib⟩ := hok10 rfl
     have hne10 : ib ≠ w.heap.size := by omega
     have hst11 := Lib.hid (hst10.setOther (j := 1) (v := .pointer (some ⟨ib, 0, none⟩)) hne10)
     have HOI : Hid (o4 ib = none) := Lib.hid (HM9.out.pool.fresh hib)
     clear hok10 hbad10 hst10
     unfold ptrTo
     go_wp2
     go_ret2
     refine ⟨_, 0, d4, o4, rfl, HM11'.out _, .inl rfl, fun _ => ⟨w.heap.size, ob, ib, vb, rfl, ⟨?_, HO10.out.setOther hne7, hst11.out, HV10.out.setOther hne2, HOG4.out, HOB.out, HOI.out, HOV4.out⟩⟩, fun h => absurd rfl h⟩
     rw [← HX.out]
     exact HG10.out.set1 _
    ·obtain rfl := hbad10 hc10
     obtain ⟨h6, hdd⟩ := HBR.out c10 rfl hc10
     have HDD := Lib.hid hdd
     subst h6
     clear hok10 hbad10 hc10 hdd
     go_wp2
     go_ret2
     exact ⟨_, 6, d4, o4, rfl, HM11'.out _, .inr (.inr ⟨rfl, HDD.out⟩), fun h => absurd h (by decide), fun _ => rfl⟩
   ·obtain rfl := hbad7 hc7
    obtain ⟨h6, hdd⟩ := HBE.out c7 rfl hc7
    have HDD := Lib.hid hdd
    subst h6
    clear hok7 hbad7 hc7 hdd
    go_wp2
    go_ret2
    exact ⟨_, 6, d4, o4, rfl, HM8'.out _, .inr (.inr ⟨rfl, HDD.out⟩), fun h => absurd h (by decide), fun _ => rfl⟩
  ·have hc4' : ¬ (c4 : Int) = 0 := by omega
   have HE5 : Hid (Err d d4 L c4) := Lib.hid (HE4.out.resolve_left hc4)
   have HC4 := Lib.hid hc4
   clear hc4
   go_wp2
   go_ret2
   exact ⟨_, c4, d4, o4, rfl, HM5.out, .inr HE5.out, fun h => absurd h HC4.out, fun _ => rfl⟩
 ·obtain rfl := hbad2 hc2
  obtain ⟨h6, hdd⟩ := HBV.out c2 rfl hc2
  have HDD := Lib.hid hdd
  subst h6
  clear hok2 hbad2 hc2 hdd
  go_wp2
  go_ret2
  exact ⟨_, 6, d, o, rfl, HM2'.out _, .inr (.inr ⟨rfl, HDD.out⟩), fun h => absurd h (by decide), fun _ => rfl⟩
end
end Go.Proofs.YtolieljpnafbhaaGreatDoor
namespace Go.Proofs.YtolieljpnafbhaaGreatDoor
open Go.RowKit Go.Maps Go.MapKept
section
variable {w w' : World} {pb db n gb gen N ob ib vb : Nat} {name : Name} {o o' : Owner} {d d' : Dsk} {L L' : Logic}
set_option maxHeartbeats 1000000 in
theorem graphSize_any (hg : GraphAt w o gb pb gen N ob ib vb) : Calls Tryz.prog 19 #[ptrTo gb] w fun e w' => e = .returned (.int .i64 (N : Int)) ∧ w = w' := by
 obtain ⟨-, -, -, g3, -⟩ := hg.raw.cells
 clear hg
 unfold ptrTo
 go_enter Tryz.func19, Tryz.ntmps19
 go_wp2
 go_ret
 exact ⟨rfl, rfl⟩
end
end Go.Proofs.YtolieljpnafbhaaGreatDoor
namespace Go.Proofs.YtolieljpnafbhaaGreatDoor
open Go.RowKit Go.Maps Go.MapKept
section
variable {w w' : World} {pb db n gb gen N sb : Nat} {name : Name} {o o' : Owner} {d d' : Dsk} {L L' : Logic}
def ReadEPostE (E : Nat → Dsk → Prop) (n pb db : Nat) (w : World) (o : Owner) (d : Dsk) (L : Logic) (x : Edg) (e : Ending) (w' : World) : Prop :=
 ∃ c d' o' y, e = .returned (.tuple #[.agg #[.int .u32 (y.t.toNat : Int), .int .u32 (y.h.toNat : Int), .int .u64 (y.x.toNat : Int), .int .u32 (y.m.toNat : Int)], .int .i64 ((c : Nat) : Int)]) ∧ Moved (fun _ => False) n pb db w o d w' o' d' L ∧ E c d' ∧ (c = 0 → y = x) ∧ (c ≠ 0 → y = edg0)
def ReadEPost (n pb db : Nat) (w : World) (o : Owner) (d : Dsk) (L : Logic) (x : Edg) (e : Ending) (w' : World) : Prop :=
 ∃ c d' o' y, e = .returned (.tuple #[.agg #[.int .u32 (y.t.toNat : Int), .int .u32 (y.h.toNat : Int), .int .u64 (y.x.toNat : Int), .int .u32 (y.m.toNat : Int)], .int .i64 ((c : Nat) : Int)]) ∧ Moved (fun _ => False) n pb db w o d w' o' d' L ∧ (c = 0 ∨ Err d d' L c) ∧ (c = 0 → y = x)
def RecPostE (E : Nat → Dsk → Prop) (n pb db : Nat) (w : World) (o : Owner) (d : Dsk) (L : Logic) (r : Rec) (e : Ending) (w' : World) : Prop :=
 ∃ v c d' o', e = .returned (.tuple #[v, .int .i64 ((c : Nat) : Int)]) ∧ Moved (fun _ => False) n pb db w o d w' o' d' L ∧ E c d' ∧
  (c = 0 → w'.ownsRow w.heap.size 5 1 v r.length (r.map bv) ∧ ∀ x, v.ownBlock = some x → o' x = none) ∧ (c ≠ 0 → v = .slice none 0 0)
set_option maxRecDepth 100000 in
set_option maxHeartbeats 4000000 in
theorem storeRead_gen (E : Nat → Dsk → Prop) (h : PoolAt w pb db n o d L) {i : Int} {x : Edg} (hget0 : ∀ W, Below w.heap.size w W → Calls Tryz.prog 31 #[ptrTo sb, .int .i64 i] W (RecPostE E n pb db W o d L x.bytes)) :
 Calls Tryz.prog 69 #[ptrTo sb, .int .i64 i] w (ReadEPostE E n pb db w o d L x) := by
 have hget := Lib.hid hget0
 have H := Lib.hid h
 clear h hget0
 unfold ptrTo at *
 have HB0 : Hid (Below w.heap.size w (w.alloc (.cells #[.int .u32 0, .int .u32 0, .int .u64 0, .int .u32 0] 47))) := Lib.hid ((Below.refl _ _).alloc (Nat.le_refl _) _)
 have HBX : Hid ((w.alloc (.cells #[.int .u32 0, .int .u32 0, .int .u64 0, .int .u32 0] 47)).heap[w.heap.size]? = some (.cells #[.int .u32 0, .int .u32 0, .int .u64 0, .int .u32 0] 47)) := Lib.hid (heap_alloc_new w _)
 have HOX : Hid (o w.heap.size = none) := Lib.hid (H.out.fresh (Nat.le_refl _))
 go_enter Tryz.func69, Tryz.ntmps69
 go_wp2_with fail
 generalize w.alloc (.cells #[.int .u32 0, .int .u32 0, .int .u64 0, .int .u32 0] 47) = W0 at *
 refine (hget.out W0 HB0.out).mono ?_
 rintro e w1 ⟨v1, c1, d1, o1, rfl, hm1, he1, hok1, hbad1⟩
 have hbl : w.heap.size < W0.heap.size := (Array.getElem?_eq_some_iff.1 HBX.out).1
 have HM1 := Lib.hid ((Moved.ofBelow H.out HB0.out).trans hm1 (fun _ _ h => h))
 have HX1 := Lib.hid (hm1.heap HBX.out HOX.out (fun h => h))
 have HE1 := Lib.hid he1
 have HOX1 : Hid (o1 w.heap.size = none) := Lib.hid (hm1.free hbl HOX.out)
 clear hm1 he1
 have hset : Hid (∀ (w2 : World) (a b c e : Value), w2.heap[w.heap.size]? = some (.cells #[.int .u32 0, .int .u32 0, .int .u64 0, .int .u32 0] 47) → ((((w2.setCell ⟨w.heap.size, 0, none⟩ a).setCell ⟨w.heap.size, 1, none⟩ b).setCell ⟨w.heap.size, 2, none⟩ c).setCell ⟨w.heap.size, 3, none⟩ e).heap[w.heap.size]? = some (.cells #[a, b, c, e] 47)) := Lib.hid (fun w2 a b c e hx => cells_set (cells_set (cells_set (cells_set hx 0 _) 1 _) 2 _) 3 _)
 by_cases hc1 : c1 = 0
 ·subst hc1
  obtain ⟨ho1, hf1⟩ := hok1 rfl
  obtain ⟨a1, k1, rfl⟩ := ownsRow_slice ho1
  have HR1 := Lib.hid (Rd_own ho1)
  clear hok1 hbad1 ho1 hf1
  go_wp2_with fail
  refine (readEdg_any _ x _ HR1.out).mono ?_
  rintro e w2 ⟨rfl, hb2⟩
  have HM2 := Lib.hid (HM1.out.below hb2)
  have hx2 : w2.heap[w.heap.size]? = some (.cells #[.int .u32 0, .int .u32 0, .int .u64 0, .int .u32 0] 47) := by rw [hb2.block _ (Array.getElem?_eq_some_iff.1 HX1.out).1]; exact HX1.out
  have k0 : w2.cell? ⟨w.heap.size, 0, none⟩ = some (.int .u32 0) := by rw [cells_cell hx2]; rfl
  have k1' : w2.cell? ⟨w.heap.size, 1, none⟩ = some (.int .u32 0) := by rw [cells_cell hx2]; rfl
  have k2' : w2.cell? ⟨w.heap.size, 2, none⟩ = some (.int .u64 0) := by rw [cells_cell hx2]; rfl
  have k3' : w2.cell? ⟨w.heap.size, 3, none⟩ = some (.int .u32 0) := by rw [cells_cell hx2]; rfl
  have z0 := cells_frozen hx2 0
  have z1 := cells_frozen hx2 1
  have z2 := cells_frozen hx2 2
  have z3 := cells_frozen hx2 3
  have hbl2 : w.heap.size < w2.heap.size := (Array.getElem?_eq_some_iff.1 hx2).1
  have HX3 := Lib.hid (hset.out w2 (.int .u32 (x.t.toNat : Int)) (.int .u32 (x.h.toNat : Int)) (.int .u64 (x.x.toNat : Int)) (.int .u32 (x.m.toNat : Int)) hx2)
  have HM3 : Hid (Moved (fun _ => False) n pb db w o d ((((w2.setCell ⟨w.heap.size, 0, none⟩ (.int .u32 (x.t.toNat : Int))).setCell ⟨w.heap.size, 1, none⟩ (.int .u32 (x.h.toNat : Int))).setCell ⟨w.heap.size, 2, none⟩ (.int .u64 (x.x.toNat : Int))).setCell ⟨w.heap.size, 3, none⟩ (.int .u32 (x.m.toNat : Int))) o1 d1 L) := Lib.hid ((((HM2.out.setCell ⟨w.heap.size, 0, none⟩ _ HOX1.out (.inr (Nat.le_refl _))).setCell ⟨w.heap.size, 1, none⟩ _ HOX1.out (.inr (Nat.le_refl _))).setCell ⟨w.heap.size, 2, none⟩ _ HOX1.out (.inr (Nat.le_refl _))).setCell ⟨w.heap.size, 3, none⟩ _ HOX1.out (.inr (Nat.le_refl _)))
  clear hb2 hx2
  go_wp2
  generalize ((((w2.setCell ⟨w.heap.size, 0, none⟩ (.int .u32 (x.t.toNat : Int))).setCell ⟨w.heap.size, 1, none⟩ (.int .u32 (x.h.toNat : Int))).setCell ⟨w.heap.size, 2, none⟩ (.int .u64 (x.x.toNat : Int))).setCell ⟨w.heap.size, 3, none⟩ (.int .u32 (x.m.toNat : Int))) = w3 at *
  have q0 : w3.cell? ⟨w.heap.size, 0, none⟩ = some (.int .u32 (x.t.toNat : Int)) := by rw [cells_cell HX3.out]; rfl
  have q1 : w3.cell? ⟨w.heap.size, 1, none⟩ = some (.int .u32 (x.h.toNat : Int)) := by rw [cells_cell HX3.out]; rfl
  have q2 : w3.cell? ⟨w.heap.size, 2, none⟩ = some (.int .u64 (x.x.toNat : Int)) := by rw [cells_cell HX3.out]; rfl
  have q3 : w3.cell? ⟨w.heap.size, 3, none⟩ = some (.int .u32 (x.m.toNat : Int)) := by rw [cells_cell HX3.out]; rfl
  clear k0 k1' k2' k3' z0 z1 z2 z3
  exact bodyPost_ret (v := .tuple #[.agg #[.int .u32 (x.t.toNat : Int), .int .u32 (x.h.toNat : Int), .int .u64 (x.x.toNat : Int), .int .u32 (x.m.toNat : Int)], .int .i64 0]) (by simp [results, Tryz.results69, go_sem, q0, q1, q2, q3]) rfl ⟨0, d1, o1, x, rfl, HM3.out, HE1.out, fun _ => rfl, fun h => absurd rfl h⟩
 ·obtain rfl := hbad1 hc1
  have hc1' : ¬ (c1 : Int) = 0 := by omega
  have HC1 := Lib.hid hc1
  have k0 : w1.cell? ⟨w.heap.size, 0, none⟩ = some (.int .u32 0) := by rw [cells_cell HX1.out]; rfl
  have k1' : w1.cell? ⟨w.heap.size, 1, none⟩ = some (.int .u32 0) := by rw [cells_cell HX1.out]; rfl
  have k2' : w1.cell? ⟨w.heap.size, 2, none⟩ = some (.int .u64 0) := by rw [cells_cell HX1.out]; rfl
  have k3' : w1.cell? ⟨w.heap.size, 3, none⟩ = some (.int .u32 0) := by rw [cells_cell HX1.out]; rfl
  have z0 := cells_frozen HX1.out 0
  have z1 := cells_frozen HX1.out 1
  have z2 := cells_frozen HX1.out 2
  have z3 := cells_frozen HX1.out 3
  have hbl1 : w.heap.size < w1.heap.size := (Array.getElem?_eq_some_iff.1 HX1.out).1
  have HX3 := Lib.hid (hset.out w1 (.int .u32 0) (.int .u32 0) (.int .u64 0) (.int .u32 0) HX1.out)
  have HM3 : Hid (Moved (fun _ => False) n pb db w o d ((((w1.setCell ⟨w.heap.size, 0, none⟩ (.int .u32 0)).setCell ⟨w.heap.size, 1, none⟩ (.int .u32 0)).setCell ⟨w.heap.size, 2, none⟩ (.int .u64 0)).setCell ⟨w.heap.size, 3, none⟩ (.int .u32 0)) o1 d1 L) := Lib.hid ((((HM1.out.setCell ⟨w.heap.size, 0, none⟩ _ HOX1.out (.inr (Nat.le_refl _))).setCell ⟨w.heap.size, 1, none⟩ _ HOX1.out (.inr (Nat.le_refl _))).setCell ⟨w.heap.size, 2, none⟩ _ HOX1.out (.inr (Nat.le_refl _))).setCell ⟨w.heap.size, 3, none⟩ _ HOX1.out (.inr (Nat.le_refl _)))
  clear hok1 hbad1 hc1
  go_wp2
  generalize ((((w1.setCell ⟨w.heap.size, 0, none⟩ (.int .u32 0)).setCell ⟨w.heap.size, 1, none⟩ (.int .u32 0)).setCell ⟨w.heap.size, 2, none⟩ (.int .u64 0)).setCell ⟨w.heap.size, 3, none⟩ (.int .u32 0)) = w3 at *
  have q0 : w3.cell? ⟨w.heap.size, 0, none⟩ = some (.int .u32 0) := by rw [cells_cell HX3.out]; rfl
  have q1 : w3.cell? ⟨w.heap.size, 1, none⟩ = some (.int .u32 0) := by rw [cells_cell HX3.out]; rfl
  have q2 : w3.cell? ⟨w.heap.size, 2, none⟩ = some (.int .u64 0) := by rw [cells_cell HX3.out]; rfl
  have q3 : w3.cell? ⟨w.heap.size, 3, none⟩ = some (.int .u32 0) := by rw [cells_cell HX3.out]; rfl
  clear k0 k1' k2' k3' z0 z1 z2 z3
  exact bodyPost_ret (v := .tuple #[.agg #[.int .u32 0, .int .u32 0, .int .u64 0, .int .u32 0], .int .i64 (c1 : Int)]) (by simp [results, Tryz.results69, go_sem, q0, q1, q2, q3]) rfl ⟨c1, d1, o1, edg0, rfl, HM3.out, HE1.out, fun h => absurd h HC1.out, fun _ => rfl⟩
theorem storeRead_in (HW : WriteSaid) (h : PoolAt w pb db n o d L) (hst : StreamAt w sb pb name 20) (ho : o sb = none) {es : List Edg} {fl : Bool} (hL : mget L name = some (edgeFile es fl)) {i : Nat} {x : Edg} (hi : es[i]? = some x) :
 Calls Tryz.prog 69 #[ptrTo sb, .int .i64 (i : Int)] w (ReadEPost n pb db w o d L x) := by
 have hil := lt_of_get hi
 refine (storeRead_gen (fun c d' => c = 0 ∨ Err d d' L c) h (x := x) (fun W hW => ?_)).mono fun e w' ⟨c, d', o', y, h1, h2, h3, h4, _⟩ => ⟨c, d', o', y, h1, h2, h3, h4⟩
 have := streamGet_in HW (h.below hW) (hst.below hW) ho (by decide) (by decide) hL (sized_edges es) (i := i) (by rw [List.length_map]; exact hil)
 rw [List.getElem_map] at this
 rw [List.getElem?_eq_getElem hil] at hi
 rw [Option.some.inj hi] at this
 exact this
def endFn (b : Bool) : FuncId := if b then 68 else 67
set_option maxRecDepth 100000 in
set_option maxHeartbeats 1000000 in
theorem endOut_any (x : Edg) (w : World) : Calls Tryz.prog 67 #[.agg #[.int .u32 (x.t.toNat : Int), .int .u32 (x.h.toNat : Int), .int .u64 (x.x.toNat : Int), .int .u32 (x.m.toNat : Int)]] w fun e w' => e = .returned (.int .u32 (x.t.toNat : Int)) ∧ Below w.heap.size w w' := by
 go_enter Tryz.func67, Tryz.ntmps67
 go_wp2
 go_ret
 exact ⟨rfl, (Below.refl _ _).alloc (Nat.le_refl _) _⟩
set_option maxRecDepth 100000 in
set_option maxHeartbeats 1000000 in
theorem endIn_any (x : Edg) (w : World) : Calls Tryz.prog 68 #[.agg #[.int .u32 (x.t.toNat : Int), .int .u32 (x.h.toNat : Int), .int .u64 (x.x.toNat : Int), .int .u32 (x.m.toNat : Int)]] w fun e w' => e = .returned (.int .u32 (x.h.toNat : Int)) ∧ Below w.heap.size w w' := by
 go_enter Tryz.func68, Tryz.ntmps68
 go_wp2
 go_ret
 exact ⟨rfl, (Below.refl _ _).alloc (Nat.le_refl _) _⟩
theorem end_any (b : Bool) (x : Edg) (w : World) : Calls Tryz.prog (endFn b) #[.agg #[.int .u32 (x.t.toNat : Int), .int .u32 (x.h.toNat : Int), .int .u64 (x.x.toNat : Int), .int .u32 (x.m.toNat : Int)]] w fun e w' => e = .returned (.int .u32 (end1 b x : Int)) ∧ Below w.heap.size w w' := by
 cases b
 ·exact endOut_any x w
 ·exact endIn_any x w
end
end Go.Proofs.YtolieljpnafbhaaGreatDoor
