/-
  Joined, in build order, what is needed of: ExtM, PoolAt, PageFile, PageFile2, Pool1, Pool2, Pool3, Pool4, ShelfInts, SortRow.
-/
import Derived.Test.YtolieljpnafbhaaGreatDoorV04
import Derived.Deep.MidRow
import Derived.StillTailTactics
import Derived.Shelf.SlSortCmp.Whole1
import Derived.Ground.SlsfProg
import Derived.Shelf.SlGeneric
import Derived.Test.YtolieljpnafbhaaGreatDoorProg
import Derived.Sort.OwnSortedInts
namespace Go.Proofs.YtolieljpnafbhaaGreatDoor
open Go.RowKit
structure Edg where
 t : UInt32
 h : UInt32
 x : UInt64
 m : UInt32
theorem Edg.ext' {a b : Edg} (h1 : a.t = b.t) (h2 : a.h = b.h) (h3 : a.x = b.x) (h4 : a.m = b.m) : a = b := by
 cases a; cases b
 simp only at h1 h2 h3 h4
 rw [h1, h2, h3, h4]
def pk (by' : Bool) (e : Edg) : Nat := if by' then e.h.toNat * 4294967296 + e.t.toNat else e.t.toNat * 4294967296 + e.h.toNat
def rk (e : Edg) : Nat := e.x.toNat * 4294967296 + (e.m.toNat + 1) % 4294967296
def same (a b : Edg) : Prop := a.t = b.t ∧ a.h = b.h
theorem pk_same {b : Bool} {x y : Edg} : pk b x = pk b y ↔ same x y := by
 have h1 := x.t.toNat_lt
 have h2 := x.h.toNat_lt
 have h3 := y.t.toNat_lt
 have h4 := y.h.toNat_lt
 unfold pk same
 rw [← UInt32.toNat_inj, ← UInt32.toNat_inj]
 cases b
 ·simp only [Bool.false_eq_true, if_false]
  omega
 ·simp only [if_true]
  omega
theorem rk_inj {x y : Edg} (h : rk x = rk y) : x.x = y.x ∧ x.m = y.m := by
 have h1 := x.m.toNat_lt
 have h2 := y.m.toNat_lt
 unfold rk at h
 rw [← UInt64.toNat_inj, ← UInt32.toNat_inj]
 omega
def Ahead (b : Bool) (x y : Edg) : Prop := pk b x < pk b y ∨ pk b x = pk b y ∧ rk x ≤ rk y
theorem Ahead.refl (b : Bool) (x : Edg) : Ahead b x x := .inr ⟨rfl, Nat.le_refl _⟩
theorem Ahead.trans {b : Bool} {x y z : Edg} (h : Ahead b x y) (k : Ahead b y z) : Ahead b x z := by unfold Ahead at *; omega
theorem Ahead.total (b : Bool) (x y : Edg) : Ahead b x y ∨ Ahead b y x := by unfold Ahead; omega
structure Best (b : Bool) (l out : List Edg) : Prop where
 rise : out.Pairwise (fun x y => pk b x < pk b y)
 mem : ∀ e ∈ out, e ∈ l ∧ e.t ≠ e.h ∧ ∀ x ∈ l, same x e → rk e ≤ rk x
 all : ∀ x ∈ l, x.t ≠ x.h → ∃ e ∈ out, same e x
theorem rise_ext {α : Type} {f : α → Nat} {a c : List α} (ha : a.Pairwise (fun x y => f x < f y)) (hc : c.Pairwise (fun x y => f x < f y)) (h : ∀ x, x ∈ a ↔ x ∈ c) : a = c := by
 induction a generalizing c with
 | nil =>
   cases c with
   | nil => rfl
   | cons y c => have := (h y).2 (by simp); cases this
 | cons x a ih =>
   cases c with
   | nil => have := (h x).1 (by simp); cases this
   | cons y c =>
     rw [List.pairwise_cons] at ha hc
     have hxy : x = y := by
      rcases List.mem_cons.1 ((h x).1 (by simp)) with e | e
      ·exact e
      ·rcases List.mem_cons.1 ((h y).2 (by simp)) with e' | e'
       ·exact e'.symm
       ·have h1 := hc.1 x e
        have h2 := ha.1 y e'
        omega
     subst hxy
     congr 1
     refine ih ha.2 hc.2 fun z => ⟨fun hz => ?_, fun hz => ?_⟩
     ·rcases List.mem_cons.1 ((h z).1 (by simp [hz])) with e | e
      ·have := ha.1 z hz
       rw [e] at this
       omega
      ·exact e
     ·rcases List.mem_cons.1 ((h z).2 (by simp [hz])) with e | e
      ·have := hc.1 z hz
       rw [e] at this
       omega
      ·exact e
theorem same.symm {x y : Edg} (h : same x y) : same y x := ⟨h.1.symm, h.2.symm⟩
theorem same.trans {x y z : Edg} (h : same x y) (k : same y z) : same x z := ⟨h.1.trans k.1, h.2.trans k.2⟩
theorem same.loop {x y : Edg} (h : same x y) (hx : x.t ≠ x.h) : y.t ≠ y.h := by rw [← h.1, ← h.2]; exact hx
theorem Best.sub {b : Bool} {l a c : List Edg} (ha : Best b l a) (hc : Best b l c) : ∀ x ∈ a, x ∈ c := fun x hx => by
 obtain ⟨h1, h2, h3⟩ := ha.mem x hx
 obtain ⟨e, he, hs⟩ := hc.all x h1 h2
 obtain ⟨g1, g2, g3⟩ := hc.mem e he
 have h4 := h3 e g1 hs
 have h5 := g3 x h1 hs.symm
 have h6 := rk_inj (Nat.le_antisymm h4 h5)
 rw [Edg.ext' hs.symm.1 hs.symm.2 h6.1 h6.2]
 exact he
theorem Best.unique {b : Bool} {l a c : List Edg} (ha : Best b l a) (hc : Best b l c) : a = c := rise_ext ha.rise hc.rise fun x => ⟨ha.sub hc x, hc.sub ha x⟩
theorem Best.congr {b : Bool} {l l' out : List Edg} (h : Best b l out) (hm : ∀ x, x ∈ l ↔ x ∈ l') : Best b l' out :=
 ⟨h.rise, fun e he => ⟨(hm e).1 (h.mem e he).1, (h.mem e he).2.1, fun x hx => (h.mem e he).2.2 x ((hm x).2 hx)⟩, fun x hx => h.all x ((hm x).2 hx)⟩
theorem Best.nil (b : Bool) : Best b [] [] := ⟨List.Pairwise.nil, (fun _ h => nomatch h), (fun _ h => nomatch h)⟩
theorem Best.trans {b b' : Bool} {l m out : List Edg} (h : Best b' l m) (k : Best b m out) : Best b l out :=
 ⟨k.rise, fun e he => by
  obtain ⟨h1, h2, h3⟩ := k.mem e he
  refine ⟨(h.mem e h1).1, h2, fun x hx hs => ?_⟩
  exact (h.mem e h1).2.2 x hx hs, fun x hx hn => by
  obtain ⟨e, he, hs⟩ := h.all x hx hn
  obtain ⟨e', he', hs'⟩ := k.all e he (hs.symm.loop hn)
  exact ⟨e', he', hs'.trans hs⟩⟩
theorem Best.both {b : Bool} {l1 l2 m1 m2 out : List Edg} (h1 : Best b l1 m1) (h2 : Best b l2 m2) (k : Best b (m1 ++ m2) out) : Best b (l1 ++ l2) out := by
 refine ⟨k.rise, fun e he => ?_, fun x hx hn => ?_⟩
 ·obtain ⟨g1, g2, g3⟩ := k.mem e he
  refine ⟨?_, g2, fun x hx hs => ?_⟩
  ·rcases List.mem_append.1 g1 with g | g
   ·exact List.mem_append_left _ (h1.mem e g).1
   ·exact List.mem_append_right _ (h2.mem e g).1
  ·have hn : x.t ≠ x.h := hs.symm.loop g2
   rcases List.mem_append.1 hx with hx | hx
   ·obtain ⟨y, hy, hys⟩ := h1.all x hx hn
    have := (h1.mem y hy).2.2 x hx hys.symm
    have := g3 y (List.mem_append_left _ hy) (hys.trans hs)
    omega
   ·obtain ⟨y, hy, hys⟩ := h2.all x hx hn
    have := (h2.mem y hy).2.2 x hx hys.symm
    have := g3 y (List.mem_append_right _ hy) (hys.trans hs)
    omega
 ·rcases List.mem_append.1 hx with hx | hx
  ·obtain ⟨y, hy, hys⟩ := h1.all x hx hn
   obtain ⟨e, he, hs⟩ := k.all y (List.mem_append_left _ hy) (hys.symm.loop hn)
   exact ⟨e, he, hs.trans hys⟩
  ·obtain ⟨y, hy, hys⟩ := h2.all x hx hn
   obtain ⟨e, he, hs⟩ := k.all y (List.mem_append_right _ hy) (hys.symm.loop hn)
   exact ⟨e, he, hs.trans hys⟩
def skips (out : List Edg) (e : Edg) : Prop := e.t = e.h ∨ ∃ y, out.getLast? = some y ∧ same y e
open Classical in
noncomputable def put1 (out : List Edg) (e : Edg) : List Edg := if skips out e then out else out ++ [e]
noncomputable def putL (xs : List Edg) : List Edg := xs.foldl put1 []
theorem putL_snoc (xs : List Edg) (e : Edg) : putL (xs ++ [e]) = put1 (putL xs) e := by unfold putL; rw [List.foldl_append]; rfl
theorem put1_skip {out : List Edg} {e : Edg} (h : skips out e) : put1 out e = out := by unfold put1; rw [if_pos h]
theorem put1_lay {out : List Edg} {e : Edg} (h : ¬ skips out e) : put1 out e = out ++ [e] := by unfold put1; rw [if_neg h]
theorem put1_length (out : List Edg) (e : Edg) : (put1 out e).length ≤ out.length + 1 := by
 by_cases h : skips out e
 ·rw [put1_skip h]; omega
 ·rw [put1_lay h]; simp
theorem putL_length (xs : List Edg) : (putL xs).length ≤ xs.length := by
 suffices h : ∀ (xs ys : List Edg), (xs.foldl put1 ys).length ≤ ys.length + xs.length by simpa [putL] using h xs []
 intro xs
 induction xs with
 | nil => intro ys; simp
 | cons x xs ih =>
   intro ys
   rw [List.foldl_cons, List.length_cons]
   have h1 := ih (put1 ys x)
   have h2 := put1_length ys x
   omega
theorem last_of {α : Type} {l : List α} {x : α} (h : l.getLast? = some x) : ∃ r, l = r ++ [x] := by
 rw [List.getLast?_eq_some_iff] at h
 exact h
theorem Best.put {b : Bool} {xs out : List Edg} {e : Edg} (h : Best b xs out) (hs : ∀ x ∈ xs, Ahead b x e) : Best b (xs ++ [e]) (put1 out e) := by
 by_cases hsk : skips out e
 ·rw [put1_skip hsk]
  refine ⟨h.rise, fun o ho => ⟨List.mem_append_left _ (h.mem o ho).1, (h.mem o ho).2.1, fun x hx hxo => ?_⟩, fun x hx hn => ?_⟩
  ·rcases List.mem_append.1 hx with hx | hx
   ·exact (h.mem o ho).2.2 x hx hxo
   ·rw [List.mem_singleton.1 hx] at hxo ⊢
    have h1 := hs o (h.mem o ho).1
    have h2 : pk b e = pk b o := pk_same.2 hxo
    unfold Ahead at h1
    omega
  ·rcases List.mem_append.1 hx with hx | hx
   ·exact h.all x hx hn
   ·rw [List.mem_singleton.1 hx] at hn ⊢
    rcases hsk with hl | ⟨y, hy, hye⟩
    ·exact absurd hl hn
    ·obtain ⟨r, hr⟩ := last_of hy
     exact ⟨y, by rw [hr]; simp, hye⟩
 ·rw [put1_lay hsk]
  have hn : e.t ≠ e.h := fun h => hsk (.inl h)
  have hgt : ∀ o ∈ out, pk b o < pk b e := fun o ho => by
   have h1 := hs o (h.mem o ho).1
   rcases Nat.lt_or_ge (pk b o) (pk b e) with hlt | hge
   ·exact hlt
   ·exfalso
    have h2 : pk b o = pk b e := by unfold Ahead at h1; omega
    rcases List.eq_nil_or_concat out with rfl | ⟨r, y, hr⟩
    ·cases ho
    ·have hy : out.getLast? = some y := by rw [hr]; simp
     have hyo : pk b y ≤ pk b e := by
      have h3 := hs y (h.mem y (by rw [hr]; simp)).1
      unfold Ahead at h3
      omega
     have hoy : o = y ∨ pk b o < pk b y := by
      have h4 := h.rise
      rw [hr, List.concat_eq_append, List.pairwise_append] at h4
      rw [hr, List.concat_eq_append] at ho
      rcases List.mem_append.1 ho with ho | ho
      ·exact .inr (h4.2.2 o ho y (by simp))
      ·exact .inl (List.mem_singleton.1 ho)
     rcases hoy with rfl | hoy
     ·exact hsk (.inr ⟨o, hy, pk_same.1 h2⟩)
     ·omega
  refine ⟨?_, fun o ho => ?_, fun x hx hxn => ?_⟩
  ·rw [List.pairwise_append]
   exact ⟨h.rise, List.pairwise_singleton _ _, fun o ho z hz => by rw [List.mem_singleton.1 hz]; exact hgt o ho⟩
  ·rcases List.mem_append.1 ho with ho | ho
   ·refine ⟨List.mem_append_left _ (h.mem o ho).1, (h.mem o ho).2.1, fun x hx hxo => ?_⟩
    rcases List.mem_append.1 hx with hx | hx
    ·exact (h.mem o ho).2.2 x hx hxo
    ·rw [List.mem_singleton.1 hx] at hxo
     have := pk_same (b := b).2 hxo
     have := hgt o ho
     omega
   ·rw [List.mem_singleton.1 ho]
    refine ⟨by simp, hn, fun x hx hxo => ?_⟩
    rcases List.mem_append.1 hx with hx | hx
    ·obtain ⟨o', ho', hs'⟩ := h.all x hx (hxo.symm.loop hn)
     have h1 := hgt o' ho'
     have h2 := pk_same (b := b).2 (hs'.trans hxo)
     omega
    ·rw [List.mem_singleton.1 hx]
     exact Nat.le_refl _
  ·rcases List.mem_append.1 hx with hx | hx
   ·obtain ⟨o, ho, hos⟩ := h.all x hx hxn
    exact ⟨o, List.mem_append_left _ ho, hos⟩
   ·rw [List.mem_singleton.1 hx]
    exact ⟨e, by simp, rfl, rfl⟩
theorem best_putL {b : Bool} {xs : List Edg} (h : xs.Pairwise (Ahead b)) : Best b xs (putL xs) := by
 suffices g : ∀ (n : Nat) (xs : List Edg), xs.length = n → xs.Pairwise (Ahead b) → Best b xs (putL xs) from g _ xs rfl h
 intro n
 induction n with
 | zero =>
   intro xs hl _
   obtain rfl := List.eq_nil_of_length_eq_zero hl
   exact Best.nil b
 | succ n ih =>
   intro xs hl hp
   rcases List.eq_nil_or_concat xs with rfl | ⟨r, y, hr⟩
   ·simp at hl
   ·rw [List.concat_eq_append] at hr
    subst hr
    rw [putL_snoc]
    rw [List.pairwise_append] at hp
    exact (ih r (by simpa using hl) hp.1).put fun x hx => hp.2.2 x hx y (by simp)
noncomputable def bestOf (b : Bool) (l : List Edg) : List Edg := open Classical in putL (l.mergeSort (fun x y => decide (Ahead b x y)))
theorem best_bestOf (b : Bool) (l : List Edg) : Best b l (bestOf b l) := by
 unfold bestOf
 refine (best_putL ?_).congr fun x => List.mem_mergeSort
 have := List.pairwise_mergeSort (le := fun x y => @decide (Ahead b x y) (Classical.propDecidable _)) (fun x y z h1 h2 => by
  simp only [decide_eq_true_eq] at h1 h2 ⊢
  exact h1.trans h2) (fun x y => by
  simp only [Bool.or_eq_true, decide_eq_true_eq]
  exact Ahead.total b x y) l
 refine this.imp fun {x y} h => ?_
 simpa using h
theorem Best.eq {b : Bool} {l out : List Edg} (h : Best b l out) : out = bestOf b l := h.unique (best_bestOf b l)
end Go.Proofs.YtolieljpnafbhaaGreatDoor
namespace Go.Proofs.YtolieljpnafbhaaGreatDoor
open Go.RowKit Go.Maps Go.MapKept
open Go.ChangeMaps (setBlock heap_setBlock_same heap_setBlock_other)
abbrev Plc := Value × Frm
def frmCells (v : Value) (f : Frm) : List Value := [.bool f.full, .string f.name, .int .i64 (f.k : Int), v, .int .i64 0, .bool f.dirty, .bool f.used]
def rowOf : List Plc → List Value
 | [] => []
 | p :: l => frmCells p.1 p.2 ++ rowOf l
theorem rowOf_length (l : List Plc) : (rowOf l).length = 7 * l.length := by
 induction l with
 | nil => rfl
 | cons p l ih => rw [rowOf, List.length_append, ih, List.length_cons]; simp [frmCells]; omega
theorem rowOf_get {l : List Plc} {i : Nat} {p : Plc} (h : l[i]? = some p) {j : Nat} (hj : j < 7) : (rowOf l)[7 * i + j]? = (frmCells p.1 p.2)[j]? := by
 induction l generalizing i with
 | nil => cases h
 | cons q l ih =>
   rw [rowOf]
   cases i with
   | zero =>
     cases h
     rw [List.getElem?_append_left (by simp [frmCells]; omega)]
     simp
   | succ i =>
     rw [List.getElem?_append_right (by simp [frmCells]; omega), ← ih (i := i) (by simpa using h)]
     congr 1
     simp [frmCells]
     omega
theorem rowOf_set {l : List Plc} {i : Nat} {p q : Plc} (h : l[i]? = some p) {j : Nat} (hj : j < 7) {v : Value} (hv : (frmCells p.1 p.2).set j v = frmCells q.1 q.2) : (rowOf l).set (7 * i + j) v = rowOf (l.set i q) := by
 induction l generalizing i with
 | nil => cases h
 | cons r l ih =>
   cases i with
   | zero =>
     cases h
     rw [rowOf, List.set_cons_zero, rowOf, List.set_append_left _ _ (by simp [frmCells]; omega)]
     congr 1
     simpa using hv
   | succ i =>
     rw [rowOf, List.set_cons_succ, rowOf, ← ih (i := i) (by simpa using h), List.set_append_right _ _ (by simp [frmCells]; omega)]
     congr 2
     simp [frmCells]
     omega
theorem take_app' {α : Type} (a b : List α) (n : Nat) (h : a.length = n) : (a ++ b).take n = a := by rw [← h]; exact List.take_left
theorem cells_setCells {b : Nat} {t : TypeId} (vs : List Value) : ∀ {w : World} {o : Nat} {cs : List Value}, w.heap[b]? = some (.cells cs.toArray t) → o + vs.length ≤ cs.length →
 (w.setCells b o vs).heap[b]? = some (.cells (cs.take o ++ (vs ++ cs.drop (o + vs.length))).toArray t) := by
 induction vs with
 | nil => intro w o cs h _; simp [World.setCells, h]
 | cons v vs ih =>
   intro w o cs h ho
   rw [List.length_cons] at ho
   have h1 := cells_set h o v
   rw [List.setIfInBounds_toArray] at h1
   rw [World.setCells, ih h1 (by rw [List.length_set]; omega)]
   congr 3
   have hset : cs.set o v = cs.take o ++ v :: cs.drop (o + 1) := List.set_eq_take_append_cons_drop.trans (by rw [if_pos (by omega)])
   have e1 : (cs.set o v).take (o + 1) = cs.take o ++ [v] := by
    rw [hset, show cs.take o ++ v :: cs.drop (o + 1) = (cs.take o ++ [v]) ++ cs.drop (o + 1) by simp]
    exact take_app' _ _ _ (by simp; omega)
   have e2 : (cs.set o v).drop (o + 1 + vs.length) = cs.drop (o + (vs.length + 1)) := by
    rw [List.drop_set_of_lt (by omega)]
    congr 1
    omega
   rw [e1, e2, List.append_assoc]
   rfl
theorem rowOf_split {l : List Plc} {i : Nat} (h : i < l.length) (q : Plc) : (rowOf l).take (7 * i) ++ (frmCells q.1 q.2 ++ (rowOf l).drop (7 * i + 7)) = rowOf (l.set i q) := by
 induction l generalizing i with
 | nil => simp at h
 | cons r l ih =>
   have h7 : (frmCells r.1 r.2).length = 7 := rfl
   cases i with
   | zero =>
     have t2 : (frmCells r.1 r.2 ++ rowOf l).drop (7 * 0 + 7) = rowOf l := by
      rw [List.drop_append, List.drop_eq_nil_of_le (by omega), h7]
      rfl
     rw [rowOf, List.set_cons_zero, rowOf, t2]
     rfl
   | succ i =>
     have t1 : (frmCells r.1 r.2 ++ rowOf l).take (7 * (i + 1)) = frmCells r.1 r.2 ++ (rowOf l).take (7 * i) := by
      rw [List.take_append, List.take_of_length_le (by omega), h7, show 7 * (i + 1) - 7 = 7 * i by omega]
     have t2 : (frmCells r.1 r.2 ++ rowOf l).drop (7 * (i + 1) + 7) = (rowOf l).drop (7 * i + 7) := by
      rw [List.drop_append, List.drop_eq_nil_of_le (by omega), h7, List.nil_append, show 7 * (i + 1) + 7 - 7 = 7 * i + 7 by omega]
     rw [rowOf, List.set_cons_succ, rowOf, ← ih (i := i) (by simpa using h), t1, t2, List.append_assoc]
section
variable {w w' : World} {fb : Nat} {l : List Plc}
def RowAt (w : World) (fb : Nat) (l : List Plc) : Prop := ∃ t, w.heap[fb]? = some (.cells (rowOf l).toArray t)
theorem RowAt.range (h : RowAt w fb l) {i : Nat} {p : Plc} (hi : l[i]? = some p) : w.rangeAt fb (7 * i) (frmCells p.1 p.2) := fun j v hv => by
 obtain ⟨t, h⟩ := h
 have hj : j < 7 := lt_of_get hv
 rw [cells_cell h, List.getElem?_toArray, rowOf_get hi hj]
 exact hv
theorem RowAt.cell (h : RowAt w fb l) {i : Nat} {p : Plc} (hi : l[i]? = some p) {j : Nat} {v : Value} (hv : (frmCells p.1 p.2)[j]? = some v) : w.cell? ⟨fb, 7 * i + j, none⟩ = some v := h.range hi j v hv
theorem RowAt.free (h : RowAt w fb l) (i : Nat) : w.frozen? ⟨fb, i, none⟩ = false := by
 obtain ⟨t, h⟩ := h
 exact cells_frozen h i
theorem RowAt.lt (h : RowAt w fb l) : fb < w.heap.size := by
 obtain ⟨t, h⟩ := h
 exact (Array.getElem?_eq_some_iff.1 h).1
theorem RowAt.set (h : RowAt w fb l) {i : Nat} {p q : Plc} (hi : l[i]? = some p) {j : Nat} (hj : j < 7) {v : Value} (hv : (frmCells p.1 p.2).set j v = frmCells q.1 q.2) : RowAt (w.setCell ⟨fb, 7 * i + j, none⟩ v) fb (l.set i q) := by
 obtain ⟨t, h⟩ := h
 refine ⟨t, ?_⟩
 rw [cells_set h, List.setIfInBounds_toArray, rowOf_set hi hj hv]
theorem RowAt.setAll (h : RowAt w fb l) {i : Nat} (hi : i < l.length) (q : Plc) : RowAt (w.setCells fb (7 * i) (frmCells q.1 q.2)) fb (l.set i q) := by
 obtain ⟨t, h⟩ := h
 refine ⟨t, ?_⟩
 rw [cells_setCells _ h (by rw [rowOf_length]; show 7 * i + 7 ≤ _; omega)]
 congr 3
 exact rowOf_split hi q
theorem RowAt.kept {S : Nat → Prop} (h : RowAt w fb l) (ht : Turn S w w') (hs : ¬ S fb) : RowAt w' fb l := by
 obtain ⟨t, h⟩ := h
 exact ⟨t, ht.heap h hs⟩
end
theorem Turn.setCells {S : Nat → Prop} {w w' : World} (h : Turn S w w') (b o : Nat) (vs : List Value) (hb : S b ∨ w.heap.size ≤ b) : Turn S w (w'.setCells b o vs) := by
 induction vs generalizing w' o with
 | nil => exact h
 | cons v vs ih => exact ih (h.setCell ⟨b, o, none⟩ v hb) (o + 1)
abbrev WhereMap := MapAt Tryz.prog 150 nameNum (fun i : Nat => .int .i64 (i : Int))
def IsWhere (fs : List Frm) (m : List ((Name × Nat) × Nat)) : Prop := ∀ n k i, mget m (n, k) = some i ↔ ∃ fr, fs[i]? = some fr ∧ fr.full = true ∧ fr.name = n ∧ fr.k = k
theorem row_pkey : (150 : TypeId) < Tryz.prog.types.size := of_decide_eq_true (by kernel_rfl)
theorem wide_pkey : (match Tryz.prog.underlying 150 with | some (.array _ _) | some (.struct _) => true | _ => false) = true := by rw [Tryz.underlying150]
set_option maxRecDepth 100000 in
theorem keyed_pkey : Keyed Tryz.prog 150 := Keyed.of_law (deep_law_laid Tryz.laidOut' (m := 2) (by omega) row_pkey (by kernel_rfl) wide_pkey)
set_option maxRecDepth 100000 in
theorem good_pkey {s : ByteArray} {n : Nat} (h : s.size ≤ maxLen) (hn : n < 9223372036854775808) : Good Tryz.prog 150 (nameNum (s, n)) := by
 have h1 : Tryz.prog.keyType 150 = true := by kernel_rfl
 have h2 : Tryz.prog.cellsOf 150 = 2 := by kernel_rfl
 have h3 : Tryz.prog.cellsOf 9 = 1 := by kernel_rfl
 have h4 : Tryz.prog.cellsOf 3 = 1 := by kernel_rfl
 have h5 : (Lit.int .i64 (n : Int)).wf = true := by
  have : (Lit.int .i64 (n : Int)).wf = (decide (-9223372036854775808 ≤ (n : Int)) && decide ((n : Int) ≤ 9223372036854775807)) := by rfl
  rw [this]
  simp
  omega
 have hk : ∀ d, Tryz.prog.keyLits (d + 2) 150 [.string s, .int .i64 (n : Int)] = some [.string s.data.toList, .int .i64 (n : Int)] := by
  intro d
  simp [Program.keyLits, Tryz.underlying150, Tryz.underlying9, Tryz.underlying3, h2, h3, h4, h, h5]
 unfold Good nameNum keyOf
 rw [Tryz.underlying150]
 simp only [h1, Value.formed, Tryz.underlying150, h2]
 have hk' : Tryz.prog.keyLits (Tryz.prog.types.size + 1) 150 (Value.agg #[.string s, .int .i64 (n : Int)]).cells.toList = some [.string s.data.toList, .int .i64 (n : Int)] := hk (Tryz.prog.types.size - 1)
 rw [hk']
 exact ⟨_, rfl⟩
def ofPool (c : Nat) : Prop := c < 10
theorem ofDisk_pool {o : Owner} {x : Nat} (h : o.In ofDisk x) : o.In ofPool x := by
 obtain ⟨t, h1, h2⟩ := h
 have h2 : t.1 < 6 := h2
 exact ⟨t, h1, show t.1 < 10 by omega⟩
def PoolHead (w : World) (pb db fb mb n hand mf : Nat) : Prop :=
 ∃ t, w.heap[pb]? = some (.cells #[ptrTo db, .slice (some ⟨fb, 0, none⟩) n n, .map (some mb), .int .i64 (hand : Int), .int .i64 (mf : Int), .int .i64 0] t)
structure PoolIn (w : World) (pb db fb mb : Nat) (o : Owner) (l : List Plc) (hand mf : Nat) (d : Dsk) : Prop where
 disk : DiskAt w db o d
 opb : o pb = some (6, 0)
 ofb : o fb = some (7, 0)
 omb : o mb = some (8, 0)
 head : PoolHead w pb db fb mb l.length hand mf
 row : RowAt w fb l
 wher : ∃ m, WhereMap w mb m ∧ IsWhere (l.map (·.2)) m
 each : ∀ p ∈ l, w.ownsRow 0 5 1 p.1 p.2.bytes.length (p.2.bytes.map bv) ∧ ∀ b, p.1.ownBlock = some b → o b = some (9, 0)
 hand : hand < l.length
 most : l.length ≤ 4096
 full : mf ≤ l.length
def PoolAt (w : World) (pb db n : Nat) (o : Owner) (d : Dsk) (L : Logic) : Prop :=
 ∃ fb mb l hand mf, PoolIn w pb db fb mb o l hand mf d ∧ l.length = n ∧ Sound d (l.map (·.2)) L
section
variable {S : Nat → Prop} {w w' : World} {o o' : Owner} {pb db fb mb : Nat} {l : List Plc} {hand mf : Nat} {d d' : Dsk} {L : Logic}
theorem PoolHead.kept {n : Nat} (h : PoolHead w pb db fb mb n hand mf) (ht : Turn S w w') (hs : ¬ S pb) : PoolHead w' pb db fb mb n hand mf := by
 obtain ⟨t, h⟩ := h
 exact ⟨t, ht.heap h hs⟩
theorem PoolHead.cells {n : Nat} (h : PoolHead w pb db fb mb n hand mf) :
 (w.cell? ⟨pb, 0, none⟩ = some (ptrTo db) ∧ w.cell? ⟨pb, 1, none⟩ = some (.slice (some ⟨fb, 0, none⟩) n n) ∧ w.cell? ⟨pb, 2, none⟩ = some (.map (some mb)) ∧ w.cell? ⟨pb, 3, none⟩ = some (.int .i64 (hand : Int)) ∧ w.cell? ⟨pb, 4, none⟩ = some (.int .i64 (mf : Int)) ∧ w.cell? ⟨pb, 5, none⟩ = some (.int .i64 0)) ∧
   w.frozen? ⟨pb, 3, none⟩ = false ∧ w.frozen? ⟨pb, 4, none⟩ = false ∧ w.frozen? ⟨pb, 5, none⟩ = false := by
 obtain ⟨t, h⟩ := h
 refine ⟨⟨?_, ?_, ?_, ?_, ?_, ?_⟩, cells_frozen h _, cells_frozen h _, cells_frozen h _⟩ <;> rw [cells_cell h] <;> rfl
theorem PoolHead.setHand {n : Nat} (h : PoolHead w pb db fb mb n hand mf) (a : Nat) : PoolHead (w.setCell ⟨pb, 3, none⟩ (.int .i64 (a : Int))) pb db fb mb n a mf := by
 obtain ⟨t, h⟩ := h
 exact ⟨t, by rw [cells_set h]; rfl⟩
theorem PoolHead.setFull {n : Nat} (h : PoolHead w pb db fb mb n hand mf) (a : Nat) : PoolHead (w.setCell ⟨pb, 4, none⟩ (.int .i64 (a : Int))) pb db fb mb n hand a := by
 obtain ⟨t, h⟩ := h
 exact ⟨t, by rw [cells_set h]; rfl⟩
theorem PoolHead.setPins {n : Nat} (h : PoolHead w pb db fb mb n hand mf) : PoolHead (w.setCell ⟨pb, 5, none⟩ (.int .i64 0)) pb db fb mb n hand mf := by
 obtain ⟨t, h⟩ := h
 exact ⟨t, by rw [cells_set h]; rfl⟩
theorem PoolHead.lt {n : Nat} (h : PoolHead w pb db fb mb n hand mf) : pb < w.heap.size := by
 obtain ⟨t, h⟩ := h
 exact (Array.getElem?_eq_some_iff.1 h).1
theorem PoolIn.owned (h : PoolIn w pb db fb mb o l hand mf d) : ∀ x t, o x = some t → x < w.heap.size := by
 obtain ⟨_, _, _, hd⟩ := h.disk
 exact hd.owned
theorem PoolIn.kept (h : PoolIn w pb db fb mb o l hand mf d) (ht : Turn S w w') (hs : ∀ x, o.In ofPool x → ¬ S x) (ho : ∀ x t, o x = some t → o' x = some t) (hb : ∀ x t, o' x = some t → x < w'.heap.size) : PoolIn w' pb db fb mb o' l hand mf d where
 disk := h.disk.kept ht (fun x t hx hl => hs x ⟨t, hx, show t.1 < 10 by omega⟩) ho hb
 opb := ho _ _ h.opb
 ofb := ho _ _ h.ofb
 omb := ho _ _ h.omb
 head := h.head.kept ht (hs _ ⟨_, h.opb, show 6 < 10 by decide⟩)
 row := h.row.kept ht (hs _ ⟨_, h.ofb, show 7 < 10 by decide⟩)
 wher := by
  obtain ⟨m, h1, h2⟩ := h.wher
  exact ⟨m, h1.turn ht (hs _ ⟨_, h.omb, show 8 < 10 by decide⟩), h2⟩
 each := fun p hp => ⟨ht.ownsRow (h.each p hp).1 (fun b hb => hs b ⟨_, (h.each p hp).2 b hb, show 9 < 10 by decide⟩), fun b hb => ho _ _ ((h.each p hp).2 b hb)⟩
 hand := h.hand
 most := h.most
 full := h.full
theorem PoolAt.kept {n : Nat} (h : PoolAt w pb db n o d L) (ht : Turn S w w') (hs : ∀ x, o.In ofPool x → ¬ S x) (ho : ∀ x t, o x = some t → o' x = some t) (hb : ∀ x t, o' x = some t → x < w'.heap.size) : PoolAt w' pb db n o' d L := by
 obtain ⟨fb, mb, l, hand, mf, h, hl, g⟩ := h
 exact ⟨fb, mb, l, hand, mf, h.kept ht hs ho hb, hl, g⟩
theorem PoolIn.below (h : PoolIn w pb db fb mb o l hand mf d) (hb : Below w.heap.size w w') : PoolIn w' pb db fb mb o l hand mf d :=
 h.kept (S := fun _ => False) (Turn.ofBelow hb) (fun _ _ h => h) (fun _ _ h => h) (fun x t hx => Nat.lt_of_lt_of_le (h.owned x t hx) hb.size)
theorem PoolAt.below {n : Nat} (h : PoolAt w pb db n o d L) (hb : Below w.heap.size w w') : PoolAt w' pb db n o d L := by
 obtain ⟨fb, mb, l, hand, mf, h, hl, g⟩ := h
 exact ⟨fb, mb, l, hand, mf, h.below hb, hl, g⟩
theorem OGrow.keep {n : Nat} (hg : OGrow n o o') (hb : ∀ x t, o x = some t → x < n) : ∀ x t, o x = some t → o' x = some t := fun x t hx => by rw [hg x (hb x t hx)]; exact hx
theorem PoolIn.reDisk (h : PoolIn w pb db fb mb o l hand mf d) (hd : DiskAt w' db o' d') (ht : Turn (o.In ofDisk) w w') (hg : OGrow w.heap.size o o') : PoolIn w' pb db fb mb o' l hand mf d' where
 disk := hd
 opb := hg.keep h.owned _ _ h.opb
 ofb := hg.keep h.owned _ _ h.ofb
 omb := hg.keep h.owned _ _ h.omb
 head := h.head.kept ht (Owner.not_in h.opb (show ¬ 6 < 6 by decide))
 row := h.row.kept ht (Owner.not_in h.ofb (show ¬ 7 < 6 by decide))
 wher := by
  obtain ⟨m, h1, h2⟩ := h.wher
  exact ⟨m, h1.turn ht (Owner.not_in h.omb (show ¬ 8 < 6 by decide)), h2⟩
 each := fun p hp => ⟨ht.ownsRow (h.each p hp).1 (fun b hb => Owner.not_in ((h.each p hp).2 b hb) (show ¬ 9 < 6 by decide)), fun b hb => hg.keep h.owned _ _ ((h.each p hp).2 b hb)⟩
 hand := h.hand
 most := h.most
 full := h.full
theorem PoolIn.reHead (h : PoolIn w pb db fb mb o l hand mf d) (ht : Turn (· = pb) w w') {a c : Nat} (hh : PoolHead w' pb db fb mb l.length a c) (ha : a < l.length) (hc : c ≤ l.length) : PoolIn w' pb db fb mb o l a c d where
 disk := h.disk.kept ht (fun x t hx hl => Owner.ne hx h.opb (fun e => by rw [e] at hl; exact absurd hl (by decide))) (fun _ _ h => h) (fun x t hx => Nat.lt_of_lt_of_le (h.owned x t hx) ht.size)
 opb := h.opb
 ofb := h.ofb
 omb := h.omb
 head := hh
 row := h.row.kept ht (Owner.ne h.ofb h.opb (by decide))
 wher := by
  obtain ⟨m, h1, h2⟩ := h.wher
  exact ⟨m, h1.turn ht (Owner.ne h.omb h.opb (by decide)), h2⟩
 each := fun p hp => ⟨ht.ownsRow (h.each p hp).1 (fun b hb => Owner.ne ((h.each p hp).2 b hb) h.opb (by decide)), (h.each p hp).2⟩
 hand := ha
 most := h.most
 full := hc
theorem PoolIn.reRow (h : PoolIn w pb db fb mb o l hand mf d) (ht : Turn (fun x => x = fb ∨ x = mb) w w') {l' : List Plc} (hl : l'.length = l.length) (hr : RowAt w' fb l') (ho : ∀ x t, o x = some t → o' x = some t) (hb : ∀ x t, o' x = some t → x < w'.heap.size)
 (hm : ∃ m, WhereMap w' mb m ∧ IsWhere (l'.map (·.2)) m) (he : ∀ p ∈ l', p ∈ l ∨ (w'.ownsRow 0 5 1 p.1 p.2.bytes.length (p.2.bytes.map bv) ∧ ∀ b, p.1.ownBlock = some b → o' b = some (9, 0))) : PoolIn w' pb db fb mb o' l' hand mf d where
 disk := h.disk.kept ht (fun x t hx hl e => by
  rcases e with e | e
  ·exact Owner.ne hx h.ofb (fun e => by rw [e] at hl; exact absurd hl (by decide)) e
  ·exact Owner.ne hx h.omb (fun e => by rw [e] at hl; exact absurd hl (by decide)) e) ho hb
 opb := ho _ _ h.opb
 ofb := ho _ _ h.ofb
 omb := ho _ _ h.omb
 head := by
  rw [hl]
  exact h.head.kept ht (fun e => by
   rcases e with e | e
   ·exact Owner.ne h.opb h.ofb (by decide) e
   ·exact Owner.ne h.opb h.omb (by decide) e)
 row := hr
 wher := hm
 each := fun p hp => by
  rcases he p hp with hp | hp
  ·refine ⟨ht.ownsRow (h.each p hp).1 (fun b hb e => ?_), fun b hb => ho _ _ ((h.each p hp).2 b hb)⟩
   rcases e with e | e
   ·exact Owner.ne ((h.each p hp).2 b hb) h.ofb (by decide) e
   ·exact Owner.ne ((h.each p hp).2 b hb) h.omb (by decide) e
  ·exact hp
 hand := by rw [hl]; exact h.hand
 most := by rw [hl]; exact h.most
 full := by rw [hl]; exact h.full
theorem Turn.pool (h : Turn (o.In ofDisk) w w') : Turn (o.In ofPool) w w' := h.mono fun _ _ hx => ofDisk_pool hx
end
end Go.Proofs.YtolieljpnafbhaaGreatDoor
namespace Go.Proofs.YtolieljpnafbhaaGreatDoor
open Go.RowKit Go.Maps Go.MapKept
open Go.ChangeMaps (setBlock heap_setBlock_same heap_setBlock_other)
def PfAt (w : World) (pf db : Nat) (name : Name) : Prop := ∃ t, w.heap[pf]? = some (.cells #[ptrTo db, .string name, .int .u32 (tagOf name : Int)] t)
theorem PfAt.cells {w : World} {pf db : Nat} {name : Name} (h : PfAt w pf db name) : w.cell? ⟨pf, 0, none⟩ = some (ptrTo db) ∧ w.cell? ⟨pf, 1, none⟩ = some (.string name) ∧ w.cell? ⟨pf, 2, none⟩ = some (.int .u32 (tagOf name : Int)) := by
 obtain ⟨t, h⟩ := h
 refine ⟨?_, ?_, ?_⟩ <;> rw [cells_cell h] <;> rfl
theorem PfAt.lt {w : World} {pf db : Nat} {name : Name} (h : PfAt w pf db name) : pf < w.heap.size := by
 obtain ⟨t, h⟩ := h
 exact (Array.getElem?_eq_some_iff.1 h).1
theorem PfAt.kept {S : Nat → Prop} {w w' : World} {pf db : Nat} {name : Name} (h : PfAt w pf db name) (ht : Turn S w w') (hs : ¬ S pf) : PfAt w' pf db name := by
 obtain ⟨t, h⟩ := h
 exact ⟨t, ht.heap h hs⟩
theorem PfAt.below {w w' : World} {pf db : Nat} {name : Name} (h : PfAt w pf db name) (hb : Below w.heap.size w w') : PfAt w' pf db name := h.kept (S := fun _ => False) (Turn.ofBelow hb) (fun h => h)
set_option maxHeartbeats 1000000 in
theorem made_any (db : Nat) (name : Name) (w : World) (hs : name.size ≤ 1000) :
 Calls Tryz.prog 124 #[ptrTo db, .string name] w fun e w' => ∃ pf, e = .returned (ptrTo pf) ∧ PfAt w' pf db name ∧ Below w.heap.size w w' ∧ w.heap.size ≤ pf := by
 unfold ptrTo
 go_enter Tryz.func124, Tryz.ntmps124
 go_wp2_with fail
 refine (tag_any name _ hs).mono ?_
 rintro e w1 ⟨rfl, hb1⟩
 go_wp2
 go_ret
 exact ⟨w1.heap.size, rfl, ⟨_, heap_alloc_new _ _⟩, hb1.alloc hb1.size _, hb1.size⟩
def PfPost (w : World) (db : Nat) (name : Name) (c : Nat) (e : Ending) (w' : World) : Prop :=
 ∃ v, e = .returned (.tuple #[v, .int .i64 (c : Int)]) ∧ Below w.heap.size w w' ∧ (c = 0 → ∃ pf, v = ptrTo pf ∧ PfAt w' pf db name ∧ w.heap.size ≤ pf) ∧ (c ≠ 0 → v = .pointer none)
def pfOpen (d : Dsk) (name : Name) : Nat := if (d.sizeOf name).2 ≠ 0 then (d.sizeOf name).2 else if (d.sizeOf name).1 % 256 ≠ 0 then 7 else 0
theorem size_bound {w : World} {db : Nat} {o : Owner} {d : Dsk} (h : DiskAt w db o d) (name : Name) : (d.sizeOf name).1 ≤ 16777216 ∧ (d.sizeOf name).2 ≤ 6 := by
 obtain ⟨mf, ml, l, h⟩ := h
 unfold Dsk.sizeOf
 split
 ·exact ⟨by simp, by simp⟩
 ·split
  ·exact ⟨by simp, by simp⟩
  ·split
   ·exact ⟨by simp, by simp⟩
   ·rename_i f hf
    refine ⟨?_, by simp⟩
    have hg : mget d.files name = (mget l name).map (·.2) := by rw [← h.strip]; exact strip_get
    rw [hg] at hf
    cases hm : mget l name with
    | none => rw [hm] at hf; cases hf
    | some x =>
      rw [hm] at hf
      cases hf
      exact (h.each _ (mget_mem hm)).most.1
set_option maxRecDepth 100000 in
set_option maxHeartbeats 2000000 in
theorem pfOpen_any {w : World} {db : Nat} {o : Owner} {d : Dsk} (h : DiskAt w db o d) (name : Name) (hs : name.size ≤ 1000) :
 Calls Tryz.prog 111 #[ptrTo db, .string name] w (PfPost w db name (pfOpen d name)) := by
 have H := Lib.hid h
 have hb := size_bound h name
 obtain ⟨hb1, hb2⟩ := hb
 have hc := Lib.hid (show pfOpen d name = if (d.sizeOf name).2 ≠ 0 then (d.sizeOf name).2 else if (d.sizeOf name).1 % 256 ≠ 0 then 7 else 0 from rfl)
 clear h
 unfold ptrTo
 have hcall := Lib.hid (size_any H.out name hs)
 generalize (d.sizeOf name).1 = n at *
 generalize (d.sizeOf name).2 = c at *
 generalize pfOpen d name = r at *
 by_cases h0 : c = 0
 ·subst h0
  by_cases h1 : n % 256 = 0
  ·have h1' : (n : Int) % 256 = 0 := by omega
   have hr : r = 0 := by rw [hc.out, if_neg (by simp), if_neg (by simp [h1])]
   have HR := Lib.hid hr
   have H1 := Lib.hid h1
   clear hr h1
   go_enter Tryz.func111, Tryz.ntmps111
   go_wp2_with fail
   refine hcall.out.mono ?_
   rintro e w1 ⟨rfl, hb3⟩
   go_wp2_with fail
   refine (made_any db name _ hs).mono ?_
   rintro e w2 ⟨pf, rfl, hp, hb4, hl⟩
   unfold ptrTo
   go_wp2
   go_ret2
   rw [HR.out]
   exact ⟨_, rfl, hb3.trans (hb4.mono hb3.size), fun _ => ⟨pf, rfl, hp, Nat.le_trans hb3.size hl⟩, fun h => absurd rfl h⟩
  ·have h1' : ¬ (n : Int) % 256 = 0 := by omega
   have hr : r = 7 := by rw [hc.out, if_neg (by simp), if_pos h1]
   have HR := Lib.hid hr
   clear hr h1
   go_enter Tryz.func111, Tryz.ntmps111
   go_wp2_with fail
   refine hcall.out.mono ?_
   rintro e w1 ⟨rfl, hb3⟩
   go_wp2
   go_ret2
   rw [HR.out]
   exact ⟨_, rfl, hb3, fun h => absurd h (by decide), fun _ => rfl⟩
 ·have h0' : ¬ (c : Int) = 0 := by omega
  have hr : r = c := by rw [hc.out, if_pos h0]
  have HR := Lib.hid hr
  have H0 := Lib.hid h0
  clear hr h0
  go_enter Tryz.func111, Tryz.ntmps111
  go_wp2_with fail
  refine hcall.out.mono ?_
  rintro e w1 ⟨rfl, hb3⟩
  go_wp2
  go_ret2
  rw [HR.out]
  exact ⟨_, rfl, hb3, fun h => absurd h H0.out, fun _ => rfl⟩
end Go.Proofs.YtolieljpnafbhaaGreatDoor
namespace Go.Proofs.YtolieljpnafbhaaGreatDoor
open Go.RowKit Go.Maps Go.MapKept
open Go.ChangeMaps (setBlock heap_setBlock_same heap_setBlock_other)
theorem wrap_in {n : Int} (h1 : -9223372036854775808 ≤ n) (h2 : n ≤ 9223372036854775807) : IntKind.i64.wrap n = n := by
 simp [IntKind.wrap, IntKind.bits, IntKind.signed]
 omega
set_option maxRecDepth 100000 in
set_option maxHeartbeats 2000000 in
theorem pfPages_any {w : World} {db pf : Nat} {o : Owner} {d : Dsk} {name : Name} (h : DiskAt w db o d) (hp : PfAt w pf db name) (hs : name.size ≤ 1000) :
 Calls Tryz.prog 112 #[ptrTo pf] w fun e w' => e = .returned (.tuple #[.int .i64 (((d.sizeOf name).1 / 256 : Nat) : Int), .int .i64 ((d.sizeOf name).2 : Int)]) ∧ Below w.heap.size w w' := by
 have H := Lib.hid h
 have HP := Lib.hid hp
 obtain ⟨hb1, hb2⟩ := size_bound h name
 have hcall : Hid (∀ W, DiskAt W db o d → Calls Tryz.prog 154 #[ptrTo db, .string name] W fun e w' => e = .returned (.tuple #[.int .i64 ((d.sizeOf name).1 : Int), .int .i64 ((d.sizeOf name).2 : Int)]) ∧ Below W.heap.size W w') := Lib.hid (fun W hW => size_any hW name hs)
 clear h hp
 unfold ptrTo at hcall ⊢
 generalize (d.sizeOf name).1 = n at *
 generalize (d.sizeOf name).2 = c at *
 go_enter Tryz.func112, Tryz.ntmps112
 go_wp2
 refine wp_region_quiet_in (Below w.heap.size w) (by kernel_rfl) (by kernel_rfl) ((Below.refl _ _).drew) ?_
 iterate 3 (refine q_op rfl (fun w' hw' => (by go_simp <;> rfl)) (fun K hK => ?_); go_simp; refine hK _ ?_; clear hK K)
 refine q_op rfl (fun w' hw' => (by have hc := (HP.out.below hw').cells.1; unfold ptrTo at hc; go_simp <;> rfl)) (fun K hK => ?_); go_simp; refine hK _ ?_; clear hK K
 iterate 3 (refine q_op rfl (fun w' hw' => (by go_simp <;> rfl)) (fun K hK => ?_); go_simp; refine hK _ ?_; clear hK K)
 refine q_op rfl (fun w' hw' => (by have hc := (HP.out.below hw').cells.2.1; go_simp <;> rfl)) (fun K hK => ?_); go_simp; refine hK _ ?_; clear hK K
 refine q_call rfl (fun w' hw' => (by go_simp <;> rfl)) (fun w' hw' => ((hcall.out w' (H.out.below hw')).mono (fun e w'' h => ⟨h.1, hw'.trans (h.2.mono hw'.size)⟩))) (fun K hK => ?_); go_simp; refine hK _ ?_; clear hK K
 iterate 5 (refine q_op rfl (fun w' hw' => (by go_simp <;> rfl)) (fun K hK => ?_); go_simp; refine hK _ ?_; clear hK K)
 refine wpQuiet_nil ?_
 intro w3 hw3
 go_wp2
 go_ret2
 exact ⟨by simp, hw3⟩
def WriteSaid : Prop := ∀ {w : World} {db : Nat} {o : Owner} {d : Dsk}, DiskAt w db o d → ∀ (name : Name), name.size ≤ 1000 → ∀ (off : Nat), off ≤ 1099511627776 → ∀ (sv : Value) (bs : List UInt8), Rd w sv bs → bs.length ≤ 1099511627776 → (∀ b, sv.ownBlock = some b → o b = none) →
    Calls Tryz.prog 171 #[ptrTo db, .string name, .int .i64 (off : Int), sv] w fun e w' => e = .returned (.int .i64 ((d.write name off bs).2 : Int)) ∧ DiskPost w db o (d.write name off bs).1 w'
theorem DiskPost.after {w w1 w2 : World} {db : Nat} {o : Owner} {d : Dsk} (hb : Below w.heap.size w w1) (h : DiskPost w1 db o d w2) : DiskPost w db o d w2 := by
 obtain ⟨o', h1, h2, h3⟩ := h
 exact ⟨o', h1, (Turn.ofBelow hb).trans h2 (fun _ _ hx => hx), fun x hx => h3 x (Nat.lt_of_lt_of_le hx hb.size)⟩
theorem DiskPost.then {w w1 w2 : World} {db : Nat} {o : Owner} {d : Dsk} (h : DiskPost w db o d w1) (hb : Below w1.heap.size w1 w2) : DiskPost w db o d w2 := by
 obtain ⟨o', h1, h2, h3⟩ := h
 exact ⟨o', h1.below hb, h2.thenBelow hb, h3⟩
set_option maxRecDepth 100000 in
set_option maxHeartbeats 2000000 in
theorem pfCreate_any {w : World} {db : Nat} {o : Owner} {d : Dsk} (h : DiskAt w db o d) (name : Name) (hs : name.size ≤ 1000) :
 Calls Tryz.prog 93 #[ptrTo db, .string name] w fun e w' => (∃ v, e = .returned (.tuple #[v, .int .i64 ((d.create name).2 : Int)])) ∧ DiskPost w db o (d.create name).1 w' := by
 have hcall := Lib.hid (create_any h name hs)
 clear h
 generalize (d.create name).1 = d' at *
 generalize (d.create name).2 = c at *
 unfold ptrTo at *
 by_cases h0 : c = 0
 ·subst h0
  go_enter Tryz.func93, Tryz.ntmps93
  go_wp2_with fail
  refine hcall.out.mono ?_
  rintro e w1 ⟨rfl, hp⟩
  go_wp2_with fail
  refine (made_any db name _ hs).mono ?_
  rintro e w2 ⟨pf, rfl, -, hb, -⟩
  unfold ptrTo
  go_wp2
  go_ret2
  exact ⟨⟨_, rfl⟩, hp.then hb⟩
 ·have h0' : ¬ (c : Int) = 0 := by omega
  clear h0
  go_enter Tryz.func93, Tryz.ntmps93
  go_wp2_with fail
  refine hcall.out.mono ?_
  rintro e w1 ⟨rfl, hp⟩
  go_wp2
  go_ret2
  exact ⟨⟨_, rfl⟩, hp⟩
set_option maxRecDepth 100000 in
set_option maxHeartbeats 2000000 in
theorem pfRead_ok {w : World} {db pf : Nat} {o : Owner} {d : Dsk} {name : Name} (h : DiskAt w db o d) (hp : PfAt w pf db name) (hs : name.size ≤ 1000) (k n : Nat) (b : Pg) (hz : d.sizeOf name = (n, 0)) (hk : k < n / 256) (hn : n ≤ 16777216)
 (hr : d.read name (256 * k) 256 = (mkPage (tagOf name) k b, 0)) (hb : b.length ≤ 240) :
 Calls Tryz.prog 113 #[ptrTo pf, .int .i64 (k : Int)] w (NewBytesOk w b) := by
 have hcall := Lib.hid (pfPages_any h hp hs)
 rw [hz] at hcall
 have H := Lib.hid h
 have HP := Lib.hid hp
 have htag := tagOf_lt name
 have hcall2 : Hid (∀ W, DiskAt W db o d → Calls Tryz.prog 155 #[ptrTo db, .string name, .int .i64 ((k : Int) * 256), .int .i64 256] W (ReadPost W (mkPage (tagOf name) k b, 0))) := Lib.hid (fun W hW => by
  have := read_any hW name hs (256 * k) 256 (by omega)
  rw [hr, show ((256 * k : Nat) : Int) = (k : Int) * 256 by omega] at this
  exact this)
 have hreads := Lib.hid (mkPage_reads (tagOf name) k b hb htag (by omega))
 clear h hp hz hr
 unfold ptrTo at *
 generalize hT : tagOf name = tag at *
 have HT := Lib.hid hT
 clear hT
 generalize mkPage tag k b = p at *
 obtain ⟨q, hq⟩ : ∃ q, q = n / 256 := ⟨_, rfl⟩
 rw [← hq] at hk hcall
 have hqb : q ≤ 65536 := by omega
 clear hq hn
 dsimp only at hcall
 have hk' : ¬ ((k : Int) ≥ (q : Int)) := by omega
 go_enter Tryz.func113, Tryz.ntmps113
 go_wp2_with fail
 refine hcall.out.mono ?_
 rintro e w1 ⟨rfl, hb1⟩
 have H1 := Lib.hid (H.out.below hb1)
 have HP1 := Lib.hid (HP.out.below hb1)
 have HB1 := Lib.hid hb1
 clear hb1
 obtain ⟨hc0, hc1, hc2⟩ := HP1.out.cells
 unfold ptrTo at hc0
 go_wp2
 have hw256 : IntKind.i64.wrap ((k : Int) * 256) = (k : Int) * 256 := wrap_in (by omega) (by omega)
 refine wp_region_mid (Below w1.heap.size w1) 10 rfl (by kernel_rfl) (by kernel_rfl) ((Below.refl _ _).drew) ?_; simp only [List.take_succ_cons, List.take_zero]
 iterate 3 (refine q_op rfl (fun w' hw' => (by go_simp <;> rfl)) (fun K hK => ?_); go_simp; refine hK _ ?_; clear hK K)
 refine q_op rfl (fun w' hw' => (by have hc := (HP1.out.below hw').cells.1; unfold ptrTo at hc; go_simp <;> rfl)) (fun K hK => ?_); go_simp; refine hK _ ?_; clear hK K
 iterate 3 (refine q_op rfl (fun w' hw' => (by go_simp <;> rfl)) (fun K hK => ?_); go_simp; refine hK _ ?_; clear hK K)
 refine q_op rfl (fun w' hw' => (by have hc := (HP1.out.below hw').cells.2.1; go_simp <;> rfl)) (fun K hK => ?_); go_simp; refine hK _ ?_; clear hK K
 iterate 2 (refine q_op rfl (fun w' hw' => (by go_simp <;> rfl)) (fun K hK => ?_); go_simp; refine hK _ ?_; clear hK K)
 refine wpQuiet_nil ?_; intro w2 hw2; refine ⟨_, _, rfl, (by go_simp <;> exact ⟨rfl, rfl⟩), ?_⟩
 refine (hcall2.out _ (H1.out.below hw2)).mono ?_
 rintro e w3 ⟨v3, rfl, ho3, hb3⟩
 obtain ⟨a3, c3, rfl⟩ := ownsRow_slice ho3
 refine ⟨_, rfl, ?_⟩; go_simp
 iterate 5 (refine q_op rfl (fun w' hw' => (by go_simp <;> rfl)) (fun K hK => ?_); go_simp; refine hK _ ?_; clear hK K)
 refine wpQuiet_nil ?_
 have HB2 : Hid (Below w.heap.size w w2) := Lib.hid (HB1.out.trans (hw2.mono HB1.out.size))
 have HB3 : Hid (Below w.heap.size w w3) := Lib.hid (HB2.out.trans (hb3.mono HB2.out.size))
 have HO3 := Lib.hid ho3
 have hc3 : w3.cell? ⟨pf, 2, none⟩ = some (.int .u32 (tag : Int)) := by
  have := ((HP1.out.below hw2).below hb3).cells.2.2
  rw [HT.out] at this
  exact this
 have hk32 : k < 4294967296 := by omega
 clear hw2 hb3 ho3 hc0 hc1 hc2 hw256
 go_wp2_with fail
 refine (open_any tag k _ b p _ (Rd_own HO3.out) hreads.out hb htag (by omega)).mono ?_
 rintro e w4 ⟨v4, rfl, ho4, hb4⟩
 go_wp2
 go_ret2
 exact ⟨v4, rfl, ownsRow_base ho4 HB3.out.size, HB3.out.trans (hb4.mono HB3.out.size)⟩
theorem pfWrite_size (d : Dsk) (name : Name) (k : Nat) (b : Pg) (n c : Nat) (h : d.sizeOf name = (n, c)) : pfWrite d name k b = if c ≠ 0 then (d, c) else if n / 256 < k then (d, 1) else d.write name (256 * k) (mkPage (tagOf name) k b) := by
 unfold pfWrite
 rw [h]
set_option maxRecDepth 100000 in
set_option maxHeartbeats 2000000 in
theorem pfWrite_any (HW : WriteSaid) {w : World} {db pf : Nat} {o : Owner} {d : Dsk} {name : Name} (h : DiskAt w db o d) (hp : PfAt w pf db name) (hs : name.size ≤ 1000) (k : Nat) (hk : k < 65536) (sv : Value) (b : Pg) (hb : b.length ≤ 240) (hv : Rd w sv b) :
 Calls Tryz.prog 128 #[ptrTo pf, .int .i64 (k : Int), sv] w fun e w' => e = .returned (.int .i64 ((pfWrite d name k b).2 : Int)) ∧ DiskPost w db o (pfWrite d name k b).1 w' := by
 have hcall := Lib.hid (pfPages_any h hp hs)
 obtain ⟨hn, hc6⟩ := size_bound h name
 obtain ⟨n, c, hz⟩ : ∃ n c, d.sizeOf name = (n, c) := ⟨_, _, rfl⟩
 have hpw := Lib.hid (pfWrite_size d name k b n c hz)
 rw [hz] at hcall hn hc6
 have H := Lib.hid h
 have HP := Lib.hid hp
 have HV := Lib.hid hv
 obtain ⟨a0, c0, rfl, -⟩ := hv
 have htag := tagOf_lt name
 have hcall2 : Hid (∀ W sv p, p.length = 256 → DiskAt W db o d → Rd W sv p → (∀ b, sv.ownBlock = some b → o b = none) → Calls Tryz.prog 171 #[ptrTo db, .string name, .int .i64 ((k : Int) * 256), sv] W fun e w' => e = .returned (.int .i64 ((d.write name (256 * k) p).2 : Int)) ∧ DiskPost W db o (d.write name (256 * k) p).1 w') := Lib.hid (fun W sv p hp hW hv hso => by
  have := HW hW name hs (256 * k) (by omega) sv p hv (by omega) hso
  rw [show ((256 * k : Nat) : Int) = (k : Int) * 256 by omega] at this
  exact this)
 have hml := Lib.hid (mkPage_length (tagOf name) k b hb)
 clear h hp hz
 unfold ptrTo at *
 generalize hT : tagOf name = tag at *
 have HT := Lib.hid hT
 clear hT
 obtain ⟨q, hq⟩ : ∃ q, q = n / 256 := ⟨_, rfl⟩
 rw [← hq] at hcall hpw
 have hqb : q ≤ 65536 := by omega
 clear hq hn
 dsimp only at hcall hc6
 by_cases h0 : c = 0
 ·subst h0
  by_cases hkq : q < k
  ·have hr : pfWrite d name k b = (d, 1) := by rw [hpw.out, if_neg (by simp), if_pos hkq]
   have HR := Lib.hid hr
   clear hr hpw hml
   go_enter Tryz.func128, Tryz.ntmps128
   go_wp2_with fail
   refine hcall.out.mono ?_
   rintro e w1 ⟨rfl, hb1⟩
   go_wp2
   go_ret
   rw [HR.out]
   exact ⟨rfl, .of (H.out.below hb1) (Turn.ofBelow hb1)⟩
  ·have hr : pfWrite d name k b = d.write name (256 * k) (mkPage tag k b) := by rw [hpw.out, if_neg (by simp), if_neg hkq]
   have HR := Lib.hid hr
   have hk32 : k < 4294967296 := by omega
   clear hr hpw
   go_enter Tryz.func128, Tryz.ntmps128
   go_wp2_with fail
   refine hcall.out.mono ?_
   rintro e w1 ⟨rfl, hb1⟩
   have HB1 := Lib.hid hb1
   have hc2 := (HP.out.below hb1).cells.2.2
   rw [HT.out] at hc2
   clear hb1
   go_wp2_with fail
   refine (make_any tag k _ b _ (HV.out.below HB1.out) hb htag (by omega)).mono ?_
   rintro e w2 ⟨v2, rfl, ho2, hb2⟩
   have HB2 : Hid (Below w.heap.size w w2) := Lib.hid (HB1.out.trans (hb2.mono HB1.out.size))
   have HO2 := Lib.hid (ownsRow_base ho2 HB1.out.size)
   have HP2 := Lib.hid (HP.out.below HB2.out)
   generalize hP : mkPage tag k b = p at *
   obtain ⟨a2, c2, rfl⟩ := ownsRow_slice ho2
   clear hP ho2 hb2 hc2
   go_wp2
   have hw256 : IntKind.i64.wrap ((k : Int) * 256) = (k : Int) * 256 := wrap_in (by omega) (by omega)
   refine wp_region_mid (Below w2.heap.size w2) 11 rfl (by kernel_rfl) (by kernel_rfl) ((Below.refl _ _).drew) ?_; simp only [List.take_succ_cons, List.take_zero]
   iterate 3 (refine q_op rfl (fun w' hw' => (by go_simp <;> rfl)) (fun K hK => ?_); go_simp; refine hK _ ?_; clear hK K)
   refine q_op rfl (fun w' hw' => (by have hc := (HP2.out.below hw').cells.1; unfold ptrTo at hc; go_simp <;> rfl)) (fun K hK => ?_); go_simp; refine hK _ ?_; clear hK K
   iterate 3 (refine q_op rfl (fun w' hw' => (by go_simp <;> rfl)) (fun K hK => ?_); go_simp; refine hK _ ?_; clear hK K)
   refine q_op rfl (fun w' hw' => (by have hc := (HP2.out.below hw').cells.2.1; go_simp <;> rfl)) (fun K hK => ?_); go_simp; refine hK _ ?_; clear hK K
   iterate 3 (refine q_op rfl (fun w' hw' => (by go_simp <;> rfl)) (fun K hK => ?_); go_simp; refine hK _ ?_; clear hK K)
   refine wpQuiet_nil ?_; intro w3 hw3; refine ⟨_, _, rfl, (by go_simp <;> exact ⟨rfl, rfl⟩), ?_⟩
   have HB3 : Hid (Below w.heap.size w w3) := Lib.hid (HB2.out.trans (hw3.mono HB2.out.size))
   have HO3 : Hid (w3.ownsRow w.heap.size 5 1 (.slice a2 p.length c2) p.length (p.map bv)) := Lib.hid (ownsRow_base (ownsRow_below HO2.out hw3) (Nat.le_refl _))
   clear hw3 hw256
   refine (hcall2.out _ _ p hml.out (H.out.below HB3.out) (Rd_own HO3.out) (fun b hb => fresh_none (fun x t hx => by
    obtain ⟨_, _, _, hd⟩ := H.out
    exact hd.owned x t hx) (ownBlock_old HO3.out b hb).2)).mono ?_
   rintro e w4 ⟨rfl, hp4⟩
   have HP4 := Lib.hid (DiskPost.after HB3.out hp4)
   clear hp4
   refine ⟨_, rfl, ?_⟩; go_simp
   refine q_op rfl (fun w' hw' => (by go_simp <;> rfl)) (fun K hK => ?_); go_simp; refine hK _ ?_; clear hK K
   refine wpQuiet_nil ?_
   go_wp2
   go_ret
   rw [HR.out]
   exact ⟨rfl, HP4.out⟩
 ·have h0' : ¬ (c : Int) = 0 := by omega
  have hr : pfWrite d name k b = (d, c) := by rw [hpw.out, if_pos h0]
  have HR := Lib.hid hr
  clear hr hpw h0 hml
  go_enter Tryz.func128, Tryz.ntmps128
  go_wp2_with fail
  refine hcall.out.mono ?_
  rintro e w1 ⟨rfl, hb1⟩
  go_wp2
  go_ret
  rw [HR.out]
  exact ⟨rfl, .of (H.out.below hb1) (Turn.ofBelow hb1)⟩
set_option maxRecDepth 100000 in
set_option maxHeartbeats 2000000 in
theorem pfSync_any {w : World} {db pf : Nat} {o : Owner} {d : Dsk} {name : Name} (h : DiskAt w db o d) (hp : PfAt w pf db name) (hs : name.size ≤ 1000) :
 Calls Tryz.prog 100 #[ptrTo pf] w fun e w' => e = .returned (.int .i64 ((d.sync name).2 : Int)) ∧ DiskPost w db o (d.sync name).1 w' := by
 have H := Lib.hid h
 have HP := Lib.hid hp
 have hcall : Hid (∀ W, DiskAt W db o d → Calls Tryz.prog 131 #[ptrTo db, .string name] W fun e w' => e = .returned (.int .i64 ((d.sync name).2 : Int)) ∧ DiskPost W db o (d.sync name).1 w') := Lib.hid (fun W hW => sync_any hW name hs)
 clear h hp
 unfold ptrTo at *
 generalize (d.sync name).1 = d' at *
 generalize (d.sync name).2 = c at *
 go_enter Tryz.func100, Tryz.ntmps100
 go_wp2
 refine wp_region_mid (Below w.heap.size w) 8 rfl (by kernel_rfl) (by kernel_rfl) ((Below.refl _ _).drew) ?_; simp only [List.take_succ_cons, List.take_zero]
 iterate 3 (refine q_op rfl (fun w' hw' => (by go_simp <;> rfl)) (fun K hK => ?_); go_simp; refine hK _ ?_; clear hK K)
 refine q_op rfl (fun w' hw' => (by have hc := (HP.out.below hw').cells.1; unfold ptrTo at hc; go_simp <;> rfl)) (fun K hK => ?_); go_simp; refine hK _ ?_; clear hK K
 iterate 3 (refine q_op rfl (fun w' hw' => (by go_simp <;> rfl)) (fun K hK => ?_); go_simp; refine hK _ ?_; clear hK K)
 refine q_op rfl (fun w' hw' => (by have hc := (HP.out.below hw').cells.2.1; go_simp <;> rfl)) (fun K hK => ?_); go_simp; refine hK _ ?_; clear hK K
 refine wpQuiet_nil ?_; intro w3 hw3; refine ⟨_, _, rfl, (by go_simp <;> exact ⟨rfl, rfl⟩), ?_⟩
 refine (hcall.out _ (H.out.below hw3)).mono ?_
 rintro e w4 ⟨rfl, hp4⟩
 have HP4 := Lib.hid (DiskPost.after hw3 hp4)
 clear hp4 hw3
 refine ⟨_, rfl, ?_⟩; go_simp
 refine q_op rfl (fun w' hw' => (by go_simp <;> rfl)) (fun K hK => ?_); go_simp; refine hK _ ?_; clear hK K
 refine wpQuiet_nil ?_
 go_wp2
 go_ret
 exact ⟨rfl, HP4.out⟩
end Go.Proofs.YtolieljpnafbhaaGreatDoor
namespace Go.Proofs.YtolieljpnafbhaaGreatDoor
open Go.RowKit Go.Maps Go.MapKept
open Go.ChangeMaps (setBlock heap_setBlock_same heap_setBlock_other)
theorem RowAt.seven {w : World} {fb : Nat} {l : List Plc} (h : RowAt w fb l) {k : Nat} {v : Value} {f : Frm} (hi : l[k]? = some (v, f)) :
 w.cell? ⟨fb, k * 7, none⟩ = some (.bool f.full) ∧ w.cell? ⟨fb, k * 7 + 1, none⟩ = some (.string f.name) ∧ w.cell? ⟨fb, k * 7 + 2, none⟩ = some (.int .i64 (f.k : Int)) ∧ w.cell? ⟨fb, k * 7 + 3, none⟩ = some v ∧
  w.cell? ⟨fb, k * 7 + 4, none⟩ = some (.int .i64 0) ∧ w.cell? ⟨fb, k * 7 + 5, none⟩ = some (.bool f.dirty) ∧ w.cell? ⟨fb, k * 7 + 6, none⟩ = some (.bool f.used) := by
 rw [Nat.mul_comm k 7]
 exact ⟨h.cell (j := 0) hi rfl, h.cell (j := 1) hi rfl, h.cell (j := 2) hi rfl, h.cell (j := 3) hi rfl, h.cell (j := 4) hi rfl, h.cell (j := 5) hi rfl, h.cell (j := 6) hi rfl⟩
def Shaped (l : List Plc) : Prop := ∀ p ∈ l, ∃ a c, p.1 = .slice a p.2.bytes.length c
theorem PoolIn.shaped {w : World} {pb db fb mb : Nat} {o : Owner} {l : List Plc} {hand mf : Nat} {d : Dsk} (h : PoolIn w pb db fb mb o l hand mf d) : Shaped l := fun p hp => ownsRow_slice (h.each p hp).1
theorem Shaped.get {l : List Plc} (h : Shaped l) {n k : Nat} (hn : l.length = n) (hk : k < n) : ∃ a c f, l[k]? = some (.slice a f.bytes.length c, f) := by
 have hkl : k < l.length := by omega
 obtain ⟨a, c, e⟩ := h l[k] (List.getElem_mem hkl)
 exact ⟨a, c, l[k].2, by rw [List.getElem?_eq_getElem hkl, ← e]⟩
theorem RowAt.below {w w' : World} {fb : Nat} {l : List Plc} (h : RowAt w fb l) (hb : Below w.heap.size w w') : RowAt w' fb l := h.kept (S := fun _ => False) (Turn.ofBelow hb) (fun h => h)
def HeldPost (n : Nat) (w : World) (e : Ending) (w' : World) : Prop := ∃ r dd : Nat, r ≤ n ∧ e = .returned (.tuple #[.int .i64 (r : Int), .int .i64 0, .int .i64 (dd : Int)]) ∧ Below w.heap.size w w'
set_option maxRecDepth 100000 in
set_option maxHeartbeats 2000000 in
theorem held_any {w : World} {pb db fb mb : Nat} {o : Owner} {l : List Plc} {hand mf : Nat} {d : Dsk} (h : PoolIn w pb db fb mb o l hand mf d) :
 Calls Tryz.prog 189 #[ptrTo pb] w (HeldPost l.length w) := by
 have HRow := Lib.hid h.row
 have hn := h.most
 have HS := Lib.hid h.shaped
 obtain ⟨⟨-, hc1, -⟩, -⟩ := h.head.cells
 clear h
 generalize hN : l.length = n at *
 have HN := Lib.hid hN
 clear hN
 unfold ptrTo
 go_enter Tryz.func189, Tryz.ntmps189
 go_wp2
 go_loopw [2, 3, 4, 14] (fun a b c i wr => ∃ k r dd : Nat, k ≤ n ∧ r ≤ k ∧ dd ≤ k ∧ a = .int .i64 (r : Int) ∧ b = .int .i64 0 ∧ c = .int .i64 (dd : Int) ∧ i = .int .i64 (k : Int) ∧ Below w.heap.size w wr) (fun _ _ _ i _ => n - (intOf i).toNat)
 case atStart => exact ⟨0, 0, 0, by omega, by omega, by omega, rfl, rfl, rfl, rfl, Below.refl _ _⟩
 case round =>
  obtain ⟨k, r, dd, hk, hr, hd, rfl, rfl, rfl, rfl, hb⟩ := hrel
  by_cases hlt : k < n
  ·obtain ⟨a, c, f, hi⟩ := HS.out.get HN.out hlt
   obtain ⟨h0, h1, h2, h3, h4, h5, h6⟩ := (HRow.out.below hb).seven hi
   have hc1' : wr.cell? ⟨pb, 1, none⟩ = some (.slice (some ⟨fb, 0, none⟩) n n) := by rw [hb.cell (p := ⟨pb, 1, none⟩) (World.block_lt_of_cell? _ _ hc1)]; exact hc1
   have HB := Lib.hid hb
   clear hi hb
   cases hfull : f.full <;> cases hdirty : f.dirty <;> rw [hfull] at h0 <;> rw [hdirty] at h5 <;> clear hfull hdirty
   all_goals
    go_wp2
    go_roundw
    case rel => first
     | exact ⟨k + 1, r, dd, by omega, by omega, by omega, rfl, rfl, rfl, by go_num, HB.out.alloc HB.out.size _⟩
     | exact ⟨k + 1, r + 1, dd, by omega, by omega, by omega, by go_num, rfl, rfl, by go_num, HB.out.alloc HB.out.size _⟩
     | exact ⟨k + 1, r, dd + 1, by omega, by omega, by omega, rfl, rfl, by go_num, by go_num, HB.out.alloc HB.out.size _⟩
     | exact ⟨k + 1, r + 1, dd + 1, by omega, by omega, by omega, by go_num, rfl, by go_num, by go_num, HB.out.alloc HB.out.size _⟩
    case measure => simp [intOf]; omega
  ·obtain rfl : k = n := by omega
   go_wp2
   go_ret3
   exact ⟨r, dd, hr, rfl, hb⟩
set_option maxRecDepth 100000 in
set_option maxHeartbeats 2000000 in
theorem note_any {w : World} {pb db fb mb : Nat} {o : Owner} {l : List Plc} {hand mf : Nat} {d : Dsk} (h : PoolIn w pb db fb mb o l hand mf d) :
 Calls Tryz.prog 158 #[ptrTo pb] w fun e w' => e = .returned (.tuple #[]) ∧ (∃ mf', PoolIn w' pb db fb mb o l hand mf' d) ∧ Turn (· = pb) w w' := by
 have hcall := Lib.hid (held_any h)
 have H := Lib.hid h
 have hmf := h.full
 have hn := h.most
 clear h
 unfold ptrTo at *
 go_enter Tryz.func158, Tryz.ntmps158
 go_wp2_with fail
 refine hcall.out.mono ?_
 rintro e w1 ⟨r, dd, hr, rfl, hb⟩
 have H1 := Lib.hid (H.out.below hb)
 obtain ⟨⟨-, -, -, -, hc4, hc5⟩, -, hf4, hf5⟩ := H1.out.head.cells
 have HB := Lib.hid hb
 clear hb
 have hpb := Lib.hid H1.out.head.lt
 obtain ⟨m, hm⟩ : ∃ m : Nat, m = max mf r := ⟨_, rfl⟩
 have hml : m ≤ l.length := by omega
 have HM := Lib.hid hm
 clear hm
 go_wp2_with (refine wpList_maxNat rfl _ _ _ _ rfl mf r rfl rfl rfl rfl ?_; intro E hE; rw [← HM.out] at hE; subst hE)
 go_end0
 exact ⟨rfl, ⟨E, H1.out.reHead (((Turn.refl (· = pb) w1).setCell _ _ (.inl rfl)).setCell _ _ (.inl rfl)) ((H1.out.head.setFull E).setPins) H1.out.hand hml⟩, (((Turn.ofBelow (S := (· = pb)) HB.out).setCell ⟨pb, 4, none⟩ _ (.inl rfl)).setCell ⟨pb, 5, none⟩ _ (.inl rfl))⟩
end Go.Proofs.YtolieljpnafbhaaGreatDoor
namespace Go.Proofs.YtolieljpnafbhaaGreatDoor
open Go.RowKit Go.Maps Go.MapKept
open Go.ChangeMaps (setBlock heap_setBlock_same heap_setBlock_other)
theorem map_set {l : List Plc} {i : Nat} {q : Plc} : (l.set i q).map (·.2) = (l.map (·.2)).set i q.2 := by rw [List.map_set]
theorem map_get {l : List Plc} {i : Nat} {p : Plc} (h : l[i]? = some p) : (l.map (·.2))[i]? = some p.2 := by rw [List.getElem?_map, h]; rfl
theorem IsWhere.del {fs : List Frm} {m : List ((Name × Nat) × Nat)} (h : IsWhere fs m) {i : Nat} {fr : Frm} (hi : fs[i]? = some fr) (hf : fr.full = true) : IsWhere (fs.set i Frm.none) (mdel m (fr.name, fr.k)) := by
 intro n k j
 rw [mget_mdel, get_set (lt_of_get hi)]
 have hme := (h fr.name fr.k i).2 ⟨fr, hi, hf, rfl, rfl⟩
 constructor
 ·intro hj
  by_cases e : (n, k) = (fr.name, fr.k)
  ·rw [if_pos e] at hj; cases hj
  ·rw [if_neg e] at hj
   obtain ⟨fj, h1, h2, h3, h4⟩ := (h n k j).1 hj
   have hne : j ≠ i := by
    rintro rfl
    rw [hi] at h1
    cases h1
    exact e (by rw [h3, h4])
   rw [if_neg hne]
   exact ⟨fj, h1, h2, h3, h4⟩
 ·rintro ⟨fj, h1, h2, h3, h4⟩
  by_cases hne : j = i
  ·rw [if_pos hne] at h1
   cases h1
   cases h2
  ·rw [if_neg hne] at h1
   have hj := (h n k j).2 ⟨fj, h1, h2, h3, h4⟩
   have e : (n, k) ≠ (fr.name, fr.k) := by
    intro e
    cases e
    rw [hme] at hj
    cases hj
    exact hne rfl
   rw [if_neg e]
   exact hj
theorem IsWhere.put {fs : List Frm} {m : List ((Name × Nat) × Nat)} (h : IsWhere fs m) {i : Nat} {fr x : Frm} (hi : fs[i]? = some fr) (hf : fr.full = false) (hx : x.full = true) (hn : mget m (x.name, x.k) = none) : IsWhere (fs.set i x) (mput m (x.name, x.k) i) := by
 intro n k j
 rw [mget_mput, get_set (lt_of_get hi)]
 constructor
 ·intro hj
  by_cases e : (n, k) = (x.name, x.k)
  ·rw [if_pos e] at hj
   cases hj
   rw [if_pos rfl]
   cases e
   exact ⟨x, rfl, hx, rfl, rfl⟩
  ·rw [if_neg e] at hj
   obtain ⟨fj, h1, h2, h3, h4⟩ := (h n k j).1 hj
   have hne : j ≠ i := by
    rintro rfl
    rw [hi] at h1
    cases h1
    rw [hf] at h2
    cases h2
   rw [if_neg hne]
   exact ⟨fj, h1, h2, h3, h4⟩
 ·rintro ⟨fj, h1, h2, h3, h4⟩
  by_cases hne : j = i
  ·rw [if_pos hne] at h1
   cases h1
   rw [if_pos (by rw [h3, h4]), hne]
  ·rw [if_neg hne] at h1
   have hj := (h n k j).2 ⟨fj, h1, h2, h3, h4⟩
   have e : (n, k) ≠ (x.name, x.k) := by
    intro e
    cases e
    rw [hn] at hj
    cases hj
   rw [if_neg e]
   exact hj
theorem IsWhere.same {fs : List Frm} {m : List ((Name × Nat) × Nat)} (h : IsWhere fs m) {i : Nat} {fr x : Frm} (hi : fs[i]? = some fr) (h1 : x.full = fr.full) (h2 : x.name = fr.name) (h3 : x.k = fr.k) : IsWhere (fs.set i x) m := by
 intro n k j
 rw [h n k j, get_set (lt_of_get hi)]
 by_cases e : j = i
 ·subst e
  rw [if_pos rfl, hi]
  constructor
  ·rintro ⟨f, g1, g2, g3, g4⟩
   cases g1
   exact ⟨x, rfl, h1.trans g2, h2.trans g3, h3.trans g4⟩
  ·rintro ⟨f, g1, g2, g3, g4⟩
   cases g1
   exact ⟨fr, rfl, h1.symm.trans g2, h2.symm.trans g3, h3.symm.trans g4⟩
 ·rw [if_neg e]
theorem RowAt.setAll' {w : World} {fb : Nat} {l : List Plc} (h : RowAt w fb l) {i : Nat} (hi : i < l.length) (q : Plc) : RowAt (w.setCells fb (i * 7) (frmCells q.1 q.2)) fb (l.set i q) := by
 rw [Nat.mul_comm i 7]
 exact h.setAll hi q
theorem PoolIn.setFrame {w w' : World} {pb db fb mb : Nat} {o o' : Owner} {l : List Plc} {hand mf : Nat} {d : Dsk} (h : PoolIn w pb db fb mb o l hand mf d) {i : Nat} {q : Plc} (hr : RowAt w' fb (l.set i q)) (ht : Turn (fun x => x = fb ∨ x = mb) w w')
 (ho : ∀ x t, o x = some t → o' x = some t) (hb : ∀ x t, o' x = some t → x < w'.heap.size) (hm : ∃ m, WhereMap w' mb m ∧ IsWhere ((l.map (·.2)).set i q.2) m) (hq : w'.ownsRow 0 5 1 q.1 q.2.bytes.length (q.2.bytes.map bv) ∧ ∀ b, q.1.ownBlock = some b → o' b = some (9, 0)) :
 PoolIn w' pb db fb mb o' (l.set i q) hand mf d :=
 h.reRow ht (List.length_set) hr ho hb (by rw [map_set]; exact hm) (fun p hp => by
  rcases List.mem_or_eq_of_mem_set hp with hp | rfl
  ·exact .inl hp
  ·exact .inr hq)
set_option maxRecDepth 100000 in
set_option maxHeartbeats 2000000 in
theorem empty_any {w : World} {pb db fb mb : Nat} {o : Owner} {l : List Plc} {hand mf : Nat} {d : Dsk} (h : PoolIn w pb db fb mb o l hand mf d) {i : Nat} {v : Value} {f : Frm} (hi : l[i]? = some (v, f)) (hf : f.full = true) (hs : f.name.size ≤ 1000) (hk : f.k < 9223372036854775808) :
 Calls Tryz.prog 104 #[ptrTo pb, .int .i64 (i : Int)] w fun e w' => e = .returned (.tuple #[]) ∧ PoolIn w' pb db fb mb o (l.set i (.slice none 0 0, Frm.none)) hand mf d ∧ Turn (fun x => x = fb ∨ x = mb) w w' := by
 have H := Lib.hid h
 have HI := Lib.hid hi
 have hn := h.most
 have hil : i < l.length := lt_of_get hi
 have HRow := Lib.hid h.row
 obtain ⟨⟨-, hc1, hc2, -⟩, -⟩ := h.head.cells
 obtain ⟨h0, h1, h2, h3, h4, h5, h6⟩ := h.row.seven hi
 obtain ⟨m, hm1, hm2⟩ := h.wher
 have HM1 := Lib.hid hm1
 have HM2 := Lib.hid hm2
 have hg := Lib.hid (good_pkey (s := f.name) (n := f.k) (by unfold maxLen; omega) hk)
 have HF := Lib.hid hf
 clear h hi hm1 hm2 h0 h3 h4 h5 h6 hf
 unfold ptrTo
 generalize hN : l.length = n at *
 have HN := Lib.hid hN
 clear hN
 go_enter Tryz.func104, Tryz.ntmps104
 go_wp2
 go_still_tail 12, (by kernel_rfl)
 refine wpList_del _ rfl _ _ _ rfl 3 keyed_pkey nameNum_inj Tryz.underlying146 mb m rfl HM1.out (f.name, f.k) rfl hg.out ?_
 intro es clock hm
 have hT : Turn (· = mb) w (setBlock { w with drawn := w.drawn + 1 } mb (.map es clock)) := (Turn.refl (· = mb) w).drew.setBlock mb _ (.inl rfl)
 have HM3 := Lib.hid hm
 have HT3 := Lib.hid hT
 clear hm hT
 generalize setBlock { w with drawn := w.drawn + 1 } mb (.map es clock) = w3 at *
 have HR3 := Lib.hid (HRow.out.kept HT3.out (Owner.ne H.out.ofb H.out.omb (by decide)))
 have hc1' : w3.cell? ⟨pb, 1, none⟩ = some (.slice (some ⟨fb, 0, none⟩) n n) := HT3.out.cell hc1 (Owner.ne H.out.opb H.out.omb (by decide))
 clear hc1 hc2 h1 h2
 obtain ⟨k0, k1, k2, k3, k4, k5, k6⟩ := HR3.out.seven HI.out
 have kz : ∀ j, w3.frozen? ⟨fb, j, none⟩ = false := HR3.out.free
 go_wp2
 go_end0
 have hrow : RowAt (w3.setCells fb (i * 7) (frmCells (.slice none 0 0) Frm.none)) fb (l.set i (.slice none 0 0, Frm.none)) := HR3.out.setAll' (by rw [HN.out]; exact hil) (.slice none 0 0, Frm.none)
 have hturn : Turn (fun x => x = fb ∨ x = mb) w (w3.setCells fb (i * 7) (frmCells (.slice none 0 0) Frm.none)) := (HT3.out.mono (fun x _ e => .inr e)).setCells fb _ _ (.inl (.inl rfl))
 have hmap : WhereMap (w3.setCells fb (i * 7) (frmCells (.slice none 0 0) Frm.none)) mb (mdel m (f.name, f.k)) := HM3.out.turn ((Turn.refl (· = fb) w3).setCells fb _ _ (.inl rfl)) (Owner.ne H.out.omb H.out.ofb (by decide))
 exact ⟨rfl, H.out.setFrame hrow hturn (fun _ _ h => h) (fun x t hx => Nat.lt_of_lt_of_le (H.out.owned x t hx) hturn.size) ⟨_, hmap, HM2.out.del (map_get HI.out) HF.out⟩ ⟨ownsRow_nil _ _ _, fun b hb => by simp [Value.ownBlock] at hb⟩, hturn⟩
end Go.Proofs.YtolieljpnafbhaaGreatDoor
namespace Go.Proofs.YtolieljpnafbhaaGreatDoor
open Go.RowKit Go.Maps Go.MapKept
open Go.ChangeMaps (setBlock heap_setBlock_same heap_setBlock_other)
theorem RowAt.drew {w : World} {fb : Nat} {l : List Plc} (h : RowAt w fb l) : RowAt w.drew fb l := h
theorem IsWhere.none {fs : List Frm} {m : List ((Name × Nat) × Nat)} (h : IsWhere fs m) {n : Name} {k : Nat} (hn : ∀ (j : Nat) (fj : Frm), fs[j]? = some fj → fj.full = true → fj.name = n → fj.k = k → False) : mget m (n, k) = none := by
 cases e : mget m (n, k) with
 | none => rfl
 | some j =>
   obtain ⟨fj, h1, h2, h3, h4⟩ := (h n k j).1 e
   exact (hn j fj h1 h2 h3 h4).elim
set_option maxRecDepth 100000 in
set_option maxHeartbeats 800000 in
theorem fill_any {w : World} {pb db fb mb : Nat} {o : Owner} {l : List Plc} {hand mf : Nat} {d : Dsk} (h : PoolIn w pb db fb mb o l hand mf d) {i : Nat} {p : Plc} (hi : l[i]? = some p) (hf : p.2.full = false) (f : Frm) {a : Option Addr} {c base : Nat}
 (hv : w.ownsRow base 5 1 (.slice a f.bytes.length c) f.bytes.length (f.bytes.map bv)) (hvo : ∀ b, (Value.slice a f.bytes.length c).ownBlock = some b → o b = none)
 (hnew : ∀ (j : Nat) (fj : Frm), (l.map (·.2))[j]? = some fj → fj.full = true → fj.name = f.name → fj.k = f.k → False) (hs : f.name.size ≤ 1000) (hk : f.k < 9223372036854775808) (b0 : Bool) :
 Calls Tryz.prog 115 #[ptrTo pb, .int .i64 (i : Int), .agg #[.bool b0, .string f.name, .int .i64 (f.k : Int), .slice a f.bytes.length c, .int .i64 0, .bool f.dirty, .bool f.used]] w fun e w' => e = .returned (.tuple #[]) ∧
  (∃ mf', PoolIn w' pb db fb mb (o.put (.slice a f.bytes.length c) (9, 0)) (l.set i (.slice a f.bytes.length c, { f with full := true })) hand mf' d) ∧ Turn (fun x => x = fb ∨ x = mb ∨ x = pb) w w' := by
 have H := Lib.hid h
 have HI := Lib.hid hi
 have hn := h.most
 have hil : i < l.length := lt_of_get hi
 have HRow := Lib.hid h.row
 obtain ⟨⟨-, hc1, hc2, -⟩, -⟩ := h.head.cells
 obtain ⟨m, hm1, hm2⟩ := h.wher
 have HM1 := Lib.hid hm1
 have HM2 := Lib.hid hm2
 have HV := Lib.hid hv
 have HVO := Lib.hid hvo
 have HNEW := Lib.hid hnew
 have hg := Lib.hid (good_pkey (s := f.name) (n := f.k) (by unfold maxLen; omega) hk)
 have HF := Lib.hid hf
 have HOW := Lib.hid h.owned
 have hpbl := h.head.lt
 have hfbl := h.row.lt
 have hmbl := hm1.lt
 have hp1 : pb ≠ fb := Owner.ne h.opb h.ofb (by decide)
 have hp2 : pb ≠ mb := Owner.ne h.opb h.omb (by decide)
 have hp3 : mb ≠ fb := Owner.ne h.omb h.ofb (by decide)
 have HP1 := Lib.hid hp1
 have HP2 := Lib.hid hp2
 have HP3 := Lib.hid hp3
 clear h hi hm1 hm2 hf hv hvo hnew hp1 hp2 hp3
 unfold ptrTo
 generalize hN : l.length = n at *
 have HN := Lib.hid hN
 clear hN
 go_enter Tryz.func115, Tryz.ntmps115
 go_wp2
 have hB1 : Below w.heap.size w (w.alloc (.cells #[.bool true, .string f.name, .int .i64 (f.k : Int), .slice a f.bytes.length c, .int .i64 0, .bool f.dirty, .bool f.used] 152)) := (Below.refl _ _).alloc (Nat.le_refl _) _
 have hx := heap_alloc_new w (.cells #[.bool true, .string f.name, .int .i64 (f.k : Int), .slice a f.bytes.length c, .int .i64 0, .bool f.dirty, .bool f.used] 152)
 have hbxn : w.heap.size < (w.alloc (.cells #[.bool true, .string f.name, .int .i64 (f.k : Int), .slice a f.bytes.length c, .int .i64 0, .bool f.dirty, .bool f.used] 152)).heap.size := by simp
 generalize w.alloc (.cells #[.bool true, .string f.name, .int .i64 (f.k : Int), .slice a f.bytes.length c, .int .i64 0, .bool f.dirty, .bool f.used] 152) = W1 at *
 obtain ⟨bx, hbx⟩ : ∃ bx, bx = w.heap.size := ⟨_, rfl⟩
 rw [← hbx] at hx
 have hxf : bx ≠ fb := by omega
 have hxm : bx ≠ mb := by omega
 have hxp : bx ≠ pb := by omega
 have x0 : W1.cell? ⟨bx, 0, none⟩ = some (.bool true) := by rw [cells_cell hx]; rfl
 have x1 : W1.cell? ⟨bx, 1, none⟩ = some (.string f.name) := by rw [cells_cell hx]; rfl
 have x2 : W1.cell? ⟨bx, 2, none⟩ = some (.int .i64 (f.k : Int)) := by rw [cells_cell hx]; rfl
 have x3 : W1.cell? ⟨bx, 3, none⟩ = some (.slice a f.bytes.length c) := by rw [cells_cell hx]; rfl
 have x4 : W1.cell? ⟨bx, 4, none⟩ = some (.int .i64 0) := by rw [cells_cell hx]; rfl
 have x5 : W1.cell? ⟨bx, 5, none⟩ = some (.bool f.dirty) := by rw [cells_cell hx]; rfl
 have x6 : W1.cell? ⟨bx, 6, none⟩ = some (.bool f.used) := by rw [cells_cell hx]; rfl
 have HX := Lib.hid hx
 have HB1 := Lib.hid hB1
 have HR1 := Lib.hid (HRow.out.below hB1)
 have hd1 : W1.cell? ⟨pb, 1, none⟩ = some (.slice (some ⟨fb, 0, none⟩) n n) := by rw [hB1.cell (p := ⟨pb, 1, none⟩) hpbl]; exact hc1
 have hd2 : W1.cell? ⟨pb, 2, none⟩ = some (.map (some mb)) := by rw [hB1.cell (p := ⟨pb, 2, none⟩) hpbl]; exact hc2
 rw [← hbx]
 have HBX := Lib.hid hbx
 have HXF := Lib.hid hxf
 have HXM := Lib.hid hxm
 have HXP := Lib.hid hxp
 obtain ⟨q, hq⟩ : ∃ q : Plc, l[i]? = some q := ⟨_, HI.out⟩
 obtain ⟨qv, qf⟩ := q
 obtain ⟨k0, k1, k2, k3, k4, k5, k6⟩ := HR1.out.seven hq
 have kz : ∀ j, W1.frozen? ⟨fb, j, none⟩ = false := HR1.out.free
 clear hx hB1 hbx hxf hxm hxp hc1 hc2 hq
 go_still_tail 7, (by kernel_rfl)
 go_wp2
 change Code.wp _ _ _ _ (World.drew (World.setCells W1 fb (i * 7) (frmCells (.slice a f.bytes.length c) { f with full := true })))
 have hrow : RowAt (World.drew (W1.setCells fb (i * 7) (frmCells (.slice a f.bytes.length c) { f with full := true }))) fb (l.set i (.slice a f.bytes.length c, { f with full := true })) := (HR1.out.setAll' (by rw [HN.out]; exact hil) (.slice a f.bytes.length c, { f with full := true })).drew
 have ht1 : Turn (· = fb) W1 (World.drew (W1.setCells fb (i * 7) (frmCells (.slice a f.bytes.length c) { f with full := true }))) := ((Turn.refl (· = fb) W1).setCells fb _ _ (.inl rfl)).drew
 generalize World.drew (W1.setCells fb (i * 7) (frmCells (.slice a f.bytes.length c) { f with full := true })) = W2 at *
 have e2 : W2.cell? ⟨pb, 2, none⟩ = some (.map (some mb)) := ht1.cell hd2 HP1.out
 have y1 : W2.cell? ⟨bx, 1, none⟩ = some (.string f.name) := ht1.cell x1 HXF.out
 have y2 : W2.cell? ⟨bx, 2, none⟩ = some (.int .i64 (f.k : Int)) := ht1.cell x2 HXF.out
 have HM2' : Hid (WhereMap W2 mb m) := Lib.hid ((HM1.out.kept (HB1.out.block mb hmbl)).turn ht1 HP3.out)
 have HRW := Lib.hid hrow
 have HT2 : Hid (Turn (fun x => x = fb ∨ x = mb) w W2) := Lib.hid ((Turn.ofBelow HB1.out).trans ht1 (fun x _ e => .inl e))
 have HV2 : Hid (W2.ownsRow 0 5 1 (.slice a f.bytes.length c) f.bytes.length (f.bytes.map bv)) := Lib.hid (ht1.ownsRow (ownsRow_base (ownsRow_below HV.out HB1.out) (Nat.zero_le _)) (fun b hb e => by
  have h1 := HVO.out b hb
  rw [e, H.out.ofb] at h1
  cases h1))
 clear hrow ht1 x0 x1 x2 x3 x4 x5 x6 k0 k1 k2 k3 k4 k5 k6 kz hd1 hd2
 go_still_tail 7, (by kernel_rfl)
 refine wpList_put _ rfl _ _ _ _ rfl 3 keyed_pkey nameNum_inj Tryz.underlying146 mb m rfl HM2'.out (f.name, f.k) i rfl rfl hg.out ?_
 intro es clock hm
 have hT : Turn (· = mb) W2 (setBlock { W2 with drawn := W2.drawn + 1 } mb (.map es clock)) := (Turn.refl (· = mb) W2).drew.setBlock mb _ (.inl rfl)
 have HM3 := Lib.hid hm
 have HT3 := Lib.hid hT
 clear hm hT
 generalize setBlock { W2 with drawn := W2.drawn + 1 } mb (.map es clock) = W3 at *
 have HT4 : Hid (Turn (fun x => x = fb ∨ x = mb) w W3) := Lib.hid (HT2.out.trans HT3.out (fun x _ e => .inr e))
 have HP : Hid (PoolIn W3 pb db fb mb (o.put (.slice a f.bytes.length c) (9, 0)) (l.set i (.slice a f.bytes.length c, { f with full := true })) hand mf d) := Lib.hid (H.out.setFrame (HRW.out.kept HT3.out (fun e => HP3.out e.symm)) HT4.out
  (Owner.put_keep HVO.out) (Owner.put_owned (fun x t hx => Nat.lt_of_lt_of_le (HOW.out x t hx) HT4.out.size) (fun b hb => Nat.lt_of_lt_of_le (ownBlock_old HV2.out b hb).1 HT3.out.size))
  ⟨_, HM3.out, HM2.out.put (x := { f with full := true }) (map_get HI.out) HF.out rfl (HM2.out.none HNEW.out)⟩
  ⟨HT3.out.ownsRow HV2.out (fun b hb e => by
   have h1 := HVO.out b hb
   rw [e, H.out.omb] at h1
   cases h1), fun b hb => Owner.put_at hb⟩)
 have hcall := Lib.hid (note_any HP.out)
 unfold ptrTo at hcall
 clear e2 y1 y2
 go_wp2_with fail
 refine hcall.out.mono ?_
 rintro e W4 ⟨rfl, ⟨mf', hp4⟩, ht4⟩
 have HP4 := Lib.hid hp4
 have HT5 := Lib.hid ht4
 clear hp4 ht4
 go_wp2
 go_end0
 exact ⟨rfl, ⟨mf', HP4.out⟩, (HT4.out.mono (fun x _ e => e.elim .inl (fun e => .inr (.inl e)))).trans HT5.out (fun x _ e => .inr (.inr e))⟩
end Go.Proofs.YtolieljpnafbhaaGreatDoor
namespace Go.Proofs.YtolieljpnafbhaaGreatDoor
open Go.RowKit Go.Maps Go.MapKept
open Go.ChangeMaps (setBlock heap_setBlock_same heap_setBlock_other)
def OnDiskPost (w : World) (db : Nat) (d : Dsk) (name : Name) (e : Ending) (w' : World) : Prop :=
 ∃ (v : Value) (n : Nat), e = .returned (.tuple #[v, .int .i64 (n : Int), .int .i64 (pfOpen d name : Int)]) ∧ Below w.heap.size w w' ∧
  (pfOpen d name = 0 → n = (d.sizeOf name).1 / 256 ∧ ∃ pf, v = ptrTo pf ∧ PfAt w' pf db name ∧ w.heap.size ≤ pf)
theorem pfOpen_zero {d : Dsk} {name : Name} (h : pfOpen d name = 0) : (d.sizeOf name).2 = 0 := by
 unfold pfOpen at h
 split at h
 ·exact h
 ·rename_i h2; omega
set_option maxRecDepth 100000 in
set_option maxHeartbeats 2000000 in
theorem onDisk_any {w : World} {pb db fb mb : Nat} {o : Owner} {l : List Plc} {hand mf : Nat} {d : Dsk} (h : PoolIn w pb db fb mb o l hand mf d) (name : Name) (hs : name.size ≤ 1000) :
 Calls Tryz.prog 80 #[ptrTo pb, .string name] w (OnDiskPost w db d name) := by
 have H := Lib.hid h
 obtain ⟨⟨hc0, -⟩, -⟩ := h.head.cells
 have hcall := Lib.hid (pfOpen_any h.disk name hs)
 have hsz := size_bound h.disk name
 obtain ⟨hsz1, -⟩ := hsz
 clear h
 unfold ptrTo at *
 by_cases hz : pfOpen d name = 0
 ·have hz2 := pfOpen_zero hz
  have HZ := Lib.hid hz
  have HZ2 := Lib.hid hz2
  rw [hz] at hcall
  clear hz hz2
  go_enter Tryz.func80, Tryz.ntmps80
  go_wp2_with fail
  refine hcall.out.mono ?_
  rintro e w1 ⟨v, rfl, hb1, hy, -⟩
  obtain ⟨pf, rfl, hp, hl⟩ := hy rfl
  have HB1 := Lib.hid hb1
  have HP := Lib.hid hp
  have hcall2 := Lib.hid (pfPages_any (H.out.below hb1).disk hp hs)
  rw [HZ2.out] at hcall2
  have HPF := Lib.hid (show pf = pf from rfl)
  clear hb1 hp hy
  unfold ptrTo at *
  generalize hq : (d.sizeOf name).1 / 256 = q at *
  have HQ := Lib.hid hq
  clear hq
  go_wp2_with fail
  refine hcall2.out.mono ?_
  rintro e w2 ⟨rfl, hb2⟩
  go_wp2
  go_ret3
  refine ⟨_, q, ?_, HB1.out.trans (hb2.mono HB1.out.size), fun _ => ⟨HQ.out.symm, pf, rfl, HP.out.below hb2, hl⟩⟩
  rw [HZ.out]
  rfl
 ·have hz' : ¬ (pfOpen d name : Int) = 0 := by omega
  have HZ := Lib.hid hz
  generalize hq : pfOpen d name = q at *
  have HQ := Lib.hid hq
  clear hz hq
  go_enter Tryz.func80, Tryz.ntmps80
  go_wp2_with fail
  refine hcall.out.mono ?_
  rintro e w1 ⟨v, rfl, hb1, -, hy⟩
  obtain rfl := hy HZ.out
  go_wp2
  go_ret3
  exact ⟨_, 0, by rw [HQ.out]; rfl, hb1, fun h => absurd (HQ.out.symm.trans h) HZ.out⟩
set_option maxRecDepth 100000 in
set_option maxHeartbeats 2000000 in
theorem poolCreate_any {w : World} {pb db fb mb : Nat} {o : Owner} {l : List Plc} {hand mf : Nat} {d : Dsk} (h : PoolIn w pb db fb mb o l hand mf d) (name : Name) (hs : name.size ≤ 1000) :
 Calls Tryz.prog 59 #[ptrTo pb, .string name] w fun e w' => e = .returned (.int .i64 ((d.create name).2 : Int)) ∧ DiskPost w db o (d.create name).1 w' := by
 obtain ⟨⟨hc0, -⟩, -⟩ := h.head.cells
 have hcall := Lib.hid (pfCreate_any h.disk name hs)
 clear h
 unfold ptrTo at *
 generalize (d.create name).1 = d' at *
 generalize (d.create name).2 = c at *
 go_enter Tryz.func59, Tryz.ntmps59
 go_wp2_with fail
 refine hcall.out.mono ?_
 rintro e w1 ⟨⟨v, rfl⟩, hp⟩
 have HP := Lib.hid hp
 clear hp
 go_wp2
 go_ret
 exact ⟨rfl, HP.out⟩
def pagesStep (name : Name) (n : Nat) (f : Frm) : Nat := if f.full = true ∧ f.dirty = true ∧ f.name = name then max n (f.k + 1) else n
def pagesTo (name : Name) (n0 : Nat) (fs : List Frm) : Nat := fs.foldl (pagesStep name) n0
theorem pagesTo_snoc (name : Name) (n0 : Nat) {fs : List Frm} {k : Nat} {f : Frm} (h : fs[k]? = some f) : pagesTo name n0 (fs.take (k + 1)) = pagesStep name (pagesTo name n0 (fs.take k)) f := by
 have hk := lt_of_get h
 have e : fs[k] = f := by
  rw [List.getElem?_eq_getElem hk] at h
  exact Option.some.inj h
 unfold pagesTo
 rw [List.take_succ_eq_append_getElem hk, List.foldl_append, e]
 rfl
theorem pagesTo_le (name : Name) {B : Nat} (fs : List Frm) (h : ∀ f ∈ fs, f.k < B) : ∀ n0, n0 ≤ B → pagesTo name n0 fs ≤ B := by
 induction fs with
 | nil => intro n0 hn; exact hn
 | cons f fs ih =>
   intro n0 hn
   have hf := h f (by simp)
   unfold pagesTo at ih ⊢
   rw [List.foldl_cons]
   refine ih (fun g hg => h g (by simp [hg])) _ ?_
   unfold pagesStep
   split <;> omega
theorem bytes_ne {a b : ByteArray} (h : a ≠ b) : (a.toList == b.toList) = false := by
 cases e : (a.toList == b.toList) with
 | false => rfl
 | true => exact absurd (WideShapes.bytes_inj (by rw [← ByteArray.toList_eq, ← ByteArray.toList_eq]; exact eq_of_beq e)) h
set_option maxRecDepth 100000 in
set_option maxHeartbeats 2000000 in
theorem pages_any {w : World} {pb db fb mb : Nat} {o : Owner} {l : List Plc} {hand mf : Nat} {d : Dsk} (h : PoolIn w pb db fb mb o l hand mf d) (hks : ∀ p ∈ l, p.2.k < 65536) (name : Name) (hs : name.size ≤ 1000) :
 Calls Tryz.prog 34 #[ptrTo pb, .string name] w fun e w' => e = .returned (.tuple #[.int .i64 ((if pfOpen d name = 0 then pagesTo name ((d.sizeOf name).1 / 256) (l.map (·.2)) else 0 : Nat) : Int), .int .i64 (pfOpen d name : Int)]) ∧ Below w.heap.size w w' := by
 have H := Lib.hid h
 have HRow := Lib.hid h.row
 have hn := h.most
 have HS := Lib.hid h.shaped
 have HKS := Lib.hid hks
 obtain ⟨⟨-, hc1, -⟩, -⟩ := h.head.cells
 have hcall := Lib.hid (onDisk_any h name hs)
 obtain ⟨hsz, -⟩ := size_bound h.disk name
 clear h hks
 unfold ptrTo at *
 generalize hN : l.length = n at *
 have HN := Lib.hid hN
 clear hN
 by_cases hz : pfOpen d name = 0
 ·rw [if_pos hz]
  have HZ := Lib.hid hz
  clear hz
  go_enter Tryz.func34, Tryz.ntmps34
  go_wp2_with fail
  refine hcall.out.mono ?_
  rintro e w1 ⟨v, q, rfl, hb1, hy⟩
  obtain ⟨hq, pf, rfl, -, -⟩ := hy HZ.out
  have hq2 : q ≤ 65536 := by omega
  have HQ := Lib.hid hq
  rw [HZ.out]
  have HB1 := Lib.hid hb1
  have hd1 : w1.cell? ⟨pb, 1, none⟩ = some (.slice (some ⟨fb, 0, none⟩) n n) := by rw [hb1.cell (p := ⟨pb, 1, none⟩) (World.block_lt_of_cell? _ _ hc1)]; exact hc1
  have HR1 := Lib.hid (HRow.out.below hb1)
  clear hb1 hy hq hc1 hcall
  unfold ptrTo
  have hbound : Hid (∀ k, pagesTo name q ((l.map (·.2)).take k) ≤ 65536) := Lib.hid fun k => pagesTo_le name _ (fun f hf => by
   obtain ⟨p, hp, rfl⟩ := List.mem_map.1 (List.mem_of_mem_take hf)
   exact HKS.out p hp) q hq2
  go_wp2
  go_loopw [7, 28] (fun a i wr => ∃ k : Nat, k ≤ n ∧ i = .int .i64 (k : Int) ∧ a = .int .i64 ((pagesTo name q ((l.map (·.2)).take k) : Nat) : Int) ∧ Below w1.heap.size w1 wr) (fun _ i _ => n - (intOf i).toNat)
  case atStart => exact ⟨0, Nat.zero_le _, rfl, rfl, Below.refl _ _⟩
  case round =>
   obtain ⟨k, hk, rfl, rfl, hb⟩ := hrel
   by_cases hlt : k < n
   ·obtain ⟨a, c, f, hi⟩ := HS.out.get HN.out hlt
    obtain ⟨h0, h1, h2, h3, h4, h5, h6⟩ := (HR1.out.below hb).seven hi
    have hd1' : wr.cell? ⟨pb, 1, none⟩ = some (.slice (some ⟨fb, 0, none⟩) n n) := by rw [hb.cell (p := ⟨pb, 1, none⟩) (World.block_lt_of_cell? _ _ hd1)]; exact hd1
    have hfk : f.k < 65536 := HKS.out _ (List.mem_of_getElem? hi)
    have HST := Lib.hid (pagesTo_snoc name q (map_get hi))
    have hbk := hbound.out k
    have HB := Lib.hid hb
    clear hi hb
    obtain ⟨t, ht⟩ : ∃ t, t = pagesTo name q ((l.map (·.2)).take k) := ⟨_, rfl⟩
    rw [← ht] at HST hbk ⊢
    clear ht
    obtain ⟨full, nm, fk, bs, dirty, used⟩ := f
    dsimp only at *
    by_cases hnm : nm = name
    case' pos => have hbq : (nm.toList == name.toList) = true := by rw [hnm]; exact beq_self_eq_true _
    case' neg => have hbq : (nm.toList == name.toList) = false := bytes_ne hnm
    all_goals
     have HNM := Lib.hid hnm
     clear hnm
     cases full <;> cases dirty
    all_goals
     go_wp2_with (refine wpList_maxNat rfl _ _ _ _ rfl t (fk + 1) rfl rfl rfl rfl ?_; intro E hE; have HE := Lib.hid hE; clear hE)
     go_roundw
     case rel =>
      refine ⟨k + 1, by omega, by go_num, ?_, HB.out.alloc HB.out.size _⟩
      have hnm := HNM.out
      rw [HST.out]
      first
       | (simp [pagesStep]; done)
       | (simp [pagesStep, hnm]; done)
       | (rw [HE.out]; simp [pagesStep, hnm]; done)
     case measure => simp [intOf]; omega
   ·obtain rfl : k = n := by omega
    go_wp2
    go_ret2
    refine ⟨?_, HB1.out.trans (hb.mono HB1.out.size)⟩
    rw [List.take_of_length_le (by rw [List.length_map, HN.out]; exact Nat.le_refl _), HZ.out, ← HQ.out]
    rfl
 ·rw [if_neg hz]
  have hz' : ¬ (pfOpen d name : Int) = 0 := by omega
  go_enter Tryz.func34, Tryz.ntmps34
  go_wp2_with fail
  refine hcall.out.mono ?_
  rintro e w1 ⟨v, q2, rfl, hb1, -⟩
  go_wp2
  go_ret2
  exact ⟨rfl, hb1⟩
end Go.Proofs.YtolieljpnafbhaaGreatDoor
namespace Go.Proofs
open Go.Shelf
def Tryz.sortInts_ren : Go.Shelf.Ren := ⟨fun | 6 => 129 | 15 => 110 | 14 => 172 | 28 => 152 | 29 => 153 | 20 => 199 | 21 => 200 | 22 => 201 | 23 => 202 | 24 => 203 | 25 => 204 | 26 => 205 | 27 => 206 | 46 => 222 | 47 => 179 | 48 => 180 | 49 => 223 | 50 => 224 | 57 => 239 | n => n, fun | 22 => 175 | 24 => 3 | 25 => 197 | 3 => 3 | 39 => 61 | 0 => 0 | 53 => 23 | 55 => 45 | 4 => 4 | 46 => 216 | 45 => 215 | 50 => 188 | 5 => 5 | 9 => 9 | 66 => 240 | 70 => 244 | 76 => 269 | 77 => 82 | n => n, fun | n => n⟩
theorem Tryz.sortInts : Go.Proofs.SlLaysF.n6 Tryz.prog Tryz.sortInts_ren := {
 mixed := by kernel_rfl
 f6 := ⟨Tryz.f129.name, by decide, Tryz.func129.trans (congrArg some (by kernel_rfl))⟩
 f14 := ⟨Tryz.f172.name, by decide, Tryz.func172.trans (congrArg some (by kernel_rfl))⟩
 f15 := Tryz.func110.trans (congrArg some (by kernel_rfl))
 f20 := ⟨Tryz.f199.name, by decide, Tryz.func199.trans (congrArg some (by kernel_rfl))⟩
 f21 := ⟨Tryz.f200.name, by decide, Tryz.func200.trans (congrArg some (by kernel_rfl))⟩
 f22 := ⟨Tryz.f201.name, by decide, Tryz.func201.trans (congrArg some (by kernel_rfl))⟩
 f23 := ⟨Tryz.f202.name, by decide, Tryz.func202.trans (congrArg some (by kernel_rfl))⟩
 f24 := ⟨Tryz.f203.name, by decide, Tryz.func203.trans (congrArg some (by kernel_rfl))⟩
 f25 := ⟨Tryz.f204.name, by decide, Tryz.func204.trans (congrArg some (by kernel_rfl))⟩
 f26 := ⟨Tryz.f205.name, by decide, Tryz.func205.trans (congrArg some (by kernel_rfl))⟩
 f27 := ⟨Tryz.f206.name, by decide, Tryz.func206.trans (congrArg some (by kernel_rfl))⟩
 f28 := Tryz.func152.trans (congrArg some (by kernel_rfl))
 f29 := Tryz.func153.trans (congrArg some (by kernel_rfl))
 f46 := ⟨Tryz.f222.name, by decide, Tryz.func222.trans (congrArg some (by kernel_rfl))⟩
 f47 := Tryz.func179.trans (congrArg some (by kernel_rfl))
 f48 := Tryz.func180.trans (congrArg some (by kernel_rfl))
 f49 := ⟨Tryz.f223.name, by decide, Tryz.func223.trans (congrArg some (by kernel_rfl))⟩
 f50 := ⟨Tryz.f224.name, by decide, Tryz.func224.trans (congrArg some (by kernel_rfl))⟩
 f57 := ⟨Tryz.f239.name, by decide, Tryz.func239.trans (congrArg some (by kernel_rfl))⟩
 t0 := Tryz.underlying0
 a0 := Tryz.isAgg0
 z0 := Tryz.sizeOf0
 v0 := Tryz.zeroValue0
 t3 := Tryz.underlying3
 a3 := Tryz.isAgg3
 z3 := Tryz.sizeOf3
 v3 := Tryz.zeroValue3
 t4 := Tryz.underlying4
 a4 := Tryz.isAgg4
 z4 := Tryz.sizeOf4
 v4 := Tryz.zeroValue4
 t5 := Tryz.underlying5
 a5 := Tryz.isAgg5
 z5 := Tryz.sizeOf5
 v5 := Tryz.zeroValue5
 t9 := Tryz.underlying9
 a9 := Tryz.isAgg9
 z9 := Tryz.sizeOf9
 v9 := Tryz.zeroValue9
 t22 := Tryz.underlying175
 a22 := Tryz.isAgg175
 z22 := Tryz.sizeOf175
 v22 := Tryz.zeroValue175
 a24 := Tryz.isAgg3
 z24 := Tryz.sizeOf3
 t25 := Tryz.underlying197
 a25 := Tryz.isAgg197
 z25 := Tryz.sizeOf197
 v25 := Tryz.zeroValue197
 t39 := Tryz.underlying61
 a39 := Tryz.isAgg61
 z39 := Tryz.sizeOf61
 v39 := Tryz.zeroValue61
 t45 := Tryz.underlying215
 a45 := Tryz.isAgg215
 z45 := Tryz.sizeOf215
 v45 := Tryz.zeroValue215
 t46 := Tryz.underlying216
 a46 := Tryz.isAgg216
 z46 := Tryz.sizeOf216
 v46 := Tryz.zeroValue216
 t50 := Tryz.underlying188
 a50 := Tryz.isAgg188
 z50 := Tryz.sizeOf188
 v50 := Tryz.zeroValue188
 t53 := Tryz.underlying23
 a53 := Tryz.isAgg23
 z53 := Tryz.sizeOf23
 v53 := Tryz.zeroValue23
 t55 := Tryz.underlying45
 a55 := Tryz.isAgg45
 z55 := Tryz.sizeOf45
 v55 := Tryz.zeroValue45
 t66 := Tryz.underlying240
 a66 := Tryz.isAgg240
 z66 := Tryz.sizeOf240
 v66 := Tryz.zeroValue240
 t70 := Tryz.underlying244
 a70 := Tryz.isAgg244
 z70 := Tryz.sizeOf244
 v70 := Tryz.zeroValue244
 t76 := Tryz.underlying269
 a76 := Tryz.isAgg269
 z76 := Tryz.sizeOf269
 v76 := Tryz.zeroValue269
 t77 := Tryz.underlying82
 a77 := Tryz.isAgg82
 z77 := Tryz.sizeOf82
 v77 := Tryz.zeroValue82 }
end Go.Proofs
namespace Go.Proofs.YtolieljpnafbhaaGreatDoor
open Go.RowKit
section
variable {α : Type} [Inhabited α]
theorem holds_of_block (enc : α → Value) {w : World} {g : Nat} {cur : Array Value} {e : TypeId} {ss : List α} (hb : w.heap[g]? = some (.cells cur e (0, 0))) (ht : cur.toList.take ss.length = ss.map enc) : Go.Sort.Holds enc w g 0 ss.toArray := by
 intro j hj
 have hj' : j < ss.length := by simpa using hj
 refine ⟨?_, by simp [World.frozen?, hb]⟩
 have h1 : (cur.toList.take ss.length)[j]? = (ss.map enc)[j]? := by rw [ht]
 rw [List.getElem?_take_of_lt hj'] at h1
 simp only [World.cell?, hb, Nat.zero_add]
 simp only [Option.isSome_none, Bool.false_eq_true, if_false]
 rw [← Array.getElem?_toList, h1]
 simp [hj']
theorem heap_sorted (enc : α → Value) {w : World} {g n : Nat} {os : Array Obj} {cur : Array Value} {e : TypeId} {fr : Nat × Nat} (d : Array α) (hb : w.heap[g]? = some (.cells cur e fr)) :
 (Go.Sort.grow (Go.Sort.putRow enc (Go.Sort.ahead w n) g 0 d) os).heap[g]? = some (.cells (Go.Sort.putCells enc 0 d cur) e fr) := by
 have hg : g < w.heap.size := (Array.getElem?_eq_some_iff.1 hb).1
 rw [Go.Sort.heap_grow_old _ _ (by simpa using hg)]
 simp [Go.Sort.putRow, Go.Sort.mapBlock, Go.Sort.ahead, Array.getElem?_modify, hb, Go.Sort.onCells]
theorem turn_sorted (enc : α → Value) {w : World} {g n : Nat} {os : Array Obj} (d : Array α) : Turn (· = g) w (Go.Sort.grow (Go.Sort.putRow enc (Go.Sort.ahead w n) g 0 d) os) := by
 refine ⟨rfl, rfl, rfl, by simp, fun k hk hne => ?_⟩
 rw [Go.Sort.heap_grow_old _ _ (by simpa using hk)]
 have : g ≠ k := fun e => hne e.symm
 simp [Go.Sort.putRow, Go.Sort.mapBlock, Go.Sort.ahead, Array.getElem?_modify, this]
theorem take_putCells (enc : α → Value) (cur : Array Value) (ts : List α) (h : ts.length ≤ cur.size) : (Go.Sort.putCells enc 0 ts.toArray cur).toList.take ts.length = ts.map enc := by
 apply List.ext_getElem?
 intro j
 by_cases hj : j < ts.length
 ·rw [List.getElem?_take_of_lt hj, Array.getElem?_toList]
  simp [Go.Sort.putCells, hj, show j < cur.size by omega]
 ·rw [List.getElem?_take_eq_none (by omega), List.getElem?_eq_none (by simp; omega)]
theorem ownsRow_sorted (enc : α → Value) {w : World} {base g cap n : Nat} {e : TypeId} {os : Array Obj} {cur : Array Value} {ss ts : List α} (hl : ts.length = ss.length) (hbase : base ≤ g) (hb : w.heap[g]? = some (.cells cur e (0, 0)))
 (h1 : ss.length ≤ cap) (h2 : cap ≤ maxLen) (h3 : cur.size = cap * 1) :
 (Go.Sort.grow (Go.Sort.putRow enc (Go.Sort.ahead w n) g 0 ts.toArray) os).ownsRow base e 1 (.slice (some ⟨g, 0, none⟩) ss.length cap) ss.length (ts.map enc) :=
 ⟨by simp [hl], .inr ⟨g, cap, _, rfl, hbase, heap_sorted enc _ hb, h1, h2, by simp [Go.Sort.putCells, h3], by rw [Nat.mul_one, ← hl]; exact take_putCells enc cur ts (by omega)⟩⟩
end
def SortPost {α : Type} [Inhabited α] (enc : α → Value) (cf : α → α → Int) (w : World) (base : Nat) (elem : TypeId) (g len cap : Nat) (ss : List α) (e : Ending) (w' : World) : Prop :=
 e = .returned (.tuple #[]) ∧ ∃ ts : List α, ts.Perm ss ∧ ts.Pairwise (fun x y => ¬ cf y x < 0) ∧ w'.ownsRow base elem 1 (.slice (some ⟨g, 0, none⟩) len cap) len (ts.map enc) ∧ Turn (· = g) w w'
theorem sortInts_any {α : Type} [Inhabited α] (enc : α → Value) (h1 : OneCell enc) (cf : α → α → Int) (hO : Go.Sort.SWO (ltOf cf)) (f : Nat) (cb : Array Value) {w : World} {base g len cap : Nat} {elem : TypeId} {ss : List α} (hl : ss.length = len) (hbig : len < 4611686018427387904)
 (hown : w.ownsRow base elem 1 (.slice (some ⟨g, 0, none⟩) len cap) len (ss.map enc)) (eg : ∀ args w, (callFunc f args).run Tryz.prog w = .ok (.enter f args) w) (hcmp : CmpLays1 Tryz.prog f cb enc cf g 0 len w) :
 Calls Tryz.prog 129 #[.slice (some ⟨g, 0, none⟩) len cap, .func (.func f) #[] cb] w (SortPost enc cf w base elem g len cap ss) := by
 obtain ⟨hlen, ⟨h0, _⟩ | ⟨g', cap', cur, hv, hg, hh, hn, hm, hcs, hx⟩⟩ := hown
 ·cases h0
 cases hv
 rw [Nat.mul_one] at hx
 have hH := holds_of_block enc (ss := ss) hh (by rw [hl]; exact hx)
 have hsz : ss.toArray.size = len := by simpa using hl
 have hcon := Any.slices_SortFunc Tryz.sortInts enc h1 cf hO f cb g 0 cap ss.toArray w eg (by rw [hsz]; exact hcmp) hH (Array.getElem?_eq_some_iff.1 hh).1 (by rw [hsz]; exact hbig)
 rw [hsz] at hcon
 refine hcon.mono ?_
 rintro e w' ⟨rfl, d', n, os, hp, hs, rfl⟩
 obtain ⟨hp1, _, hp3⟩ := hp
 rw [hsz] at hp1
 have hd' : d' = d'.toList.toArray := by simp
 have hdl : d'.toList.length = ss.length := by rw [Array.length_toList, hp1, hl]
 refine ⟨rfl, d'.toList, ?_, ?_, ?_, turn_sorted enc d'⟩
 ·have e1 : (d'.extract 0 len).toList = d'.toList := by rw [← hp1]; simp
  have e2 : (ss.toArray.extract 0 len).toList = ss := by rw [← hsz]; simp
  rw [e1, e2] at hp3
  exact hp3
 ·rw [List.pairwise_iff_getElem]
  intro i j hi hj hij
  have h2 := hs i j (Nat.zero_le _) hij (by rw [← hp1]; simpa using hj)
  unfold ltOf at h2
  rw [decide_eq_false_iff_not] at h2
  rw [Array.length_toList] at hi hj
  rw [getElem!_pos d' j hj, getElem!_pos d' i hi] at h2
  simpa using h2
 ·have := ownsRow_sorted enc (w := w) (base := base) (g := g) (cap := cap) (n := n) (os := os) (ss := ss) (ts := d'.toList) hdl hg hh (by omega) hm hcs
  rw [hl] at this
  unfold sortWorld
  simpa using this
end Go.Proofs.YtolieljpnafbhaaGreatDoor
