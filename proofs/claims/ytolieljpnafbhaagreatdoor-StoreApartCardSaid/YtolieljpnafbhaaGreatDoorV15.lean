/-
  Joined, in build order, what is needed of: Store6, Store7, Store8, RowT, RefA, LawM, Quota, Law13, ShelfSort, DNames, Law12b.
-/
import Derived.Test.YtolieljpnafbhaaGreatDoorV14
import Derived.Shelf.Sort.Plain
import Derived.Shelf.Slices.In.SortNone
import Derived.Ground.NamesProg
import Derived.Test.YtolieljpnafbhaaGreatDoorProg
namespace Go.Proofs.YtolieljpnafbhaaGreatDoor
open Go.RowKit Go.Maps Go.MapKept
structure OfMem (w : World) (o : Owner) (xb kb fb vb sb : Nat) (b : Bool) (v bc : Nat) : Prop where
 xs : ∃ t, w.heap[xb]? = some (.cells #[ptrTo sb] t)
 bad : ∃ t, w.heap[kb]? = some (.cells #[.int .i64 (bc : Int)] t)
 fn : ∃ t, w.heap[fb]? = some (.cells #[.func (.func (endFn b)) #[] #[]] t)
 vtx : ∃ t, w.heap[vb]? = some (.cells #[.int .u32 (v : Int)] t)
 oxb : o xb = none
 okb : o kb = none
 ofb : o fb = none
 ovb : o vb = none
 xk : xb ≠ kb
 fk : fb ≠ kb
 vk : vb ≠ kb
section
variable {w w' : World} {pb db n sb xb kb fb vb v bc : Nat} {b : Bool} {name : Name} {o o' : Owner} {d d' : Dsk} {L L' : Logic}
theorem lt_heap {w : World} {x : Nat} {ob : Obj} (h : w.heap[x]? = some ob) : x < w.heap.size := (Array.getElem?_eq_some_iff.1 h).1
theorem cellBelow {w w' : World} (hb : Below w.heap.size w w') {a : Addr} {v : Value} (hc : w.cell? a = some v) : w'.cell? a = some v := (hb.cell (World.block_lt_of_cell? w a hc)).trans hc
theorem OfMem.lts (h : OfMem w o xb kb fb vb sb b v bc) : xb < w.heap.size ∧ kb < w.heap.size ∧ fb < w.heap.size ∧ vb < w.heap.size := by
 obtain ⟨_, h1⟩ := h.xs
 obtain ⟨_, h2⟩ := h.bad
 obtain ⟨_, h3⟩ := h.fn
 obtain ⟨_, h4⟩ := h.vtx
 exact ⟨lt_heap h1, lt_heap h2, lt_heap h3, lt_heap h4⟩
theorem OfMem.cells (h : OfMem w o xb kb fb vb sb b v bc) : w.cell? ⟨xb, 0, none⟩ = some (ptrTo sb) ∧ w.cell? ⟨kb, 0, none⟩ = some (.int .i64 (bc : Int)) ∧ w.cell? ⟨fb, 0, none⟩ = some (.func (.func (endFn b)) #[] #[]) ∧ w.cell? ⟨vb, 0, none⟩ = some (.int .u32 (v : Int)) ∧ w.frozen? ⟨kb, 0, none⟩ = false := by
 obtain ⟨_, h1⟩ := h.xs
 obtain ⟨_, h2⟩ := h.bad
 obtain ⟨_, h3⟩ := h.fn
 obtain ⟨_, h4⟩ := h.vtx
 refine ⟨?_, ?_, ?_, ?_, cells_frozen h2 _⟩
 ·rw [cells_cell h1]; rfl
 ·rw [cells_cell h2]; rfl
 ·rw [cells_cell h3]; rfl
 ·rw [cells_cell h4]; rfl
theorem OfMem.moved (h : OfMem w o xb kb fb vb sb b v bc) (hm : Moved (fun _ => False) n pb db w o d w' o' d' L') : OfMem w' o' xb kb fb vb sb b v bc := by
 obtain ⟨l1, l2, l3, l4⟩ := h.lts
 obtain ⟨t1, h1⟩ := h.xs
 obtain ⟨t2, h2⟩ := h.bad
 obtain ⟨t3, h3⟩ := h.fn
 obtain ⟨t4, h4⟩ := h.vtx
 exact ⟨⟨t1, hm.heap h1 h.oxb (fun h => h)⟩, ⟨t2, hm.heap h2 h.okb (fun h => h)⟩, ⟨t3, hm.heap h3 h.ofb (fun h => h)⟩, ⟨t4, hm.heap h4 h.ovb (fun h => h)⟩, hm.free l1 h.oxb, hm.free l2 h.okb, hm.free l3 h.ofb, hm.free l4 h.ovb, h.xk, h.fk, h.vk⟩
theorem OfMem.below (h : OfMem w o xb kb fb vb sb b v bc) (hb : Below w.heap.size w w') : OfMem w' o xb kb fb vb sb b v bc := by
 obtain ⟨l1, l2, l3, l4⟩ := h.lts
 obtain ⟨t1, h1⟩ := h.xs
 obtain ⟨t2, h2⟩ := h.bad
 obtain ⟨t3, h3⟩ := h.fn
 obtain ⟨t4, h4⟩ := h.vtx
 exact ⟨⟨t1, (hb.block _ l1).trans h1⟩, ⟨t2, (hb.block _ l2).trans h2⟩, ⟨t3, (hb.block _ l3).trans h3⟩, ⟨t4, (hb.block _ l4).trans h4⟩, h.oxb, h.okb, h.ofb, h.ovb, h.xk, h.fk, h.vk⟩
theorem OfMem.set (h : OfMem w o xb kb fb vb sb b v bc) (c : Nat) : OfMem (w.setCell ⟨kb, 0, none⟩ (.int .i64 (c : Int))) o xb kb fb vb sb b v c := by
 obtain ⟨t1, h1⟩ := h.xs
 obtain ⟨t2, h2⟩ := h.bad
 obtain ⟨t3, h3⟩ := h.fn
 obtain ⟨t4, h4⟩ := h.vtx
 refine ⟨⟨t1, (Below.heap_setCell _ _ _ _ h.xk).trans h1⟩, ⟨t2, cells_set h2 0 _⟩, ⟨t3, (Below.heap_setCell _ _ _ _ h.fk).trans h3⟩, ⟨t4, (Below.heap_setCell _ _ _ _ h.vk).trans h4⟩, h.oxb, h.okb, h.ofb, h.ovb, h.xk, h.fk, h.vk⟩
set_option maxRecDepth 100000 in
theorem run_endFn (b : Bool) (args : Array Value) (w : World) : Sem.run Tryz.prog (callFunc (endFn b) args) w = .ok (.enter (endFn b) args) w := by
 cases b
 ·show Sem.run Tryz.prog (callFunc 67 args) w = .ok (.enter 67 args) w
  go_simp
 ·show Sem.run Tryz.prog (callFunc 68 args) w = .ok (.enter 68 args) w
  go_simp
def TestPost (n pb db : Nat) (w : World) (o : Owner) (d : Dsk) (L : Logic) (xb kb fb vb sb : Nat) (b : Bool) (v bc : Nat) (x : Edg) (e : Ending) (w' : World) : Prop :=
 ∃ r c d' o', e = .returned (.bool r) ∧ Moved (· = kb) n pb db w o d w' o' d' L ∧ OfMem w' o' xb kb fb vb sb b v c ∧ ((c = bc ∧ r = decide (v ≤ end1 b x)) ∨ Err d d' L c)
set_option maxRecDepth 100000 in
set_option maxHeartbeats 4000000 in
theorem ofTest_any (HW : WriteSaid) (h : PoolAt w pb db n o d L) (hst : StreamAt w sb pb name 20) (ho : o sb = none) {es : List Edg} {fl : Bool} (hL : mget L name = some (edgeFile es fl)) (hm : OfMem w o xb kb fb vb sb b v bc) {i : Nat} {x : Edg} (hi : es[i]? = some x) :
 Calls Tryz.prog 102 #[.int .i64 (i : Int), .pointer (some ⟨xb, 0, none⟩), .pointer (some ⟨kb, 0, none⟩), .pointer (some ⟨fb, 0, none⟩), .pointer (some ⟨vb, 0, none⟩)] w (TestPost n pb db w o d L xb kb fb vb sb b v bc x) := by
 have hread := Lib.hid (storeRead_in HW h hst ho hL hi)
 have HO := Lib.hid hm
 obtain ⟨c1, c2, c3, c4, -⟩ := hm.cells
 obtain ⟨l1, l2, l3, l4⟩ := hm.lts
 have HE : Hid (∀ (y : Edg) (W : World), Calls Tryz.prog (endFn b) #[.agg #[.int .u32 (y.t.toNat : Int), .int .u32 (y.h.toNat : Int), .int .u64 (y.x.toNat : Int), .int .u32 (y.m.toNat : Int)]] W fun e w' => e = .returned (.int .u32 (end1 b y : Int)) ∧ Below W.heap.size W w') := Lib.hid (fun y W => end_any b y W)
 clear h hst ho hL hi hm
 unfold ptrTo at *
 go_enter Tryz.func102, Tryz.ntmps102
 go_wp2_with fail
 refine hread.out.mono ?_
 rintro e w1 ⟨c, d1, o1, y, rfl, hm1, he1, hy1⟩
 have HM1 := Lib.hid hm1
 have HE1 := Lib.hid he1
 have HY1 := Lib.hid hy1
 have HO1 := Lib.hid (HO.out.moved hm1)
 clear hm1 he1 hy1 c1 c2 c3 c4
 have HB1 : Hid (Below w1.heap.size w1 (w1.alloc (.cells #[.int .u32 (y.t.toNat : Int), .int .u32 (y.h.toNat : Int), .int .u64 (y.x.toNat : Int), .int .u32 (y.m.toNat : Int)] 47))) := Lib.hid ((Below.refl _ _).alloc (Nat.le_refl _) _)
 have HX1 : Hid ((w1.alloc (.cells #[.int .u32 (y.t.toNat : Int), .int .u32 (y.h.toNat : Int), .int .u64 (y.x.toNat : Int), .int .u32 (y.m.toNat : Int)] 47)).heap[w1.heap.size]? = some (.cells #[.int .u32 (y.t.toNat : Int), .int .u32 (y.h.toNat : Int), .int .u64 (y.x.toNat : Int), .int .u32 (y.m.toNat : Int)] 47)) := Lib.hid (heap_alloc_new w1 _)
 have HOA := Lib.hid (HO1.out.below HB1.out)
 have HMA : Hid (Moved (· = kb) n pb db w o d (w1.alloc (.cells #[.int .u32 (y.t.toNat : Int), .int .u32 (y.h.toNat : Int), .int .u64 (y.x.toNat : Int), .int .u32 (y.m.toNat : Int)] 47)) o1 d1 L) := Lib.hid ((HM1.out.below HB1.out).mono (fun _ _ h => h.elim))
 have m2 := HO1.out.lts.2.1
 have m5 := HOA.out.cells.2.2.2.2
 have m6 := HOA.out.cells.2.1
 have m7 := HO1.out.cells.2.1
 obtain ⟨-, -, -, -, c5⟩ := HO1.out.cells
 have HNE : Hid (w1.heap.size ≠ kb) := Lib.hid (by omega)
 have hsel : ∀ (W : World) (bc' : Nat), Moved (· = kb) n pb db w o d W o1 d1 L → OfMem W o1 xb kb fb vb sb b v bc' → (bc' = bc ∧ y = x ∨ Err d d1 L bc') → ∀ W' r, Below W.heap.size W W' → r = decide (v ≤ end1 b y) → TestPost n pb db w o d L xb kb fb vb sb b v bc x (.returned (.bool r)) W' := by
  intro W bc' g1 g2 g3 W' r g4 g5
  refine ⟨r, bc', d1, o1, rfl, g1.below g4, g2.below g4, g3.imp (fun ⟨a1, a2⟩ => ⟨a1, by rw [g5, a2]⟩) id⟩
 have HSEL := Lib.hid hsel
 clear hsel
 by_cases hc : c = 0
 ·subst hc
  have HF : Hid (bc = bc ∧ y = x ∨ Err d d1 L bc) := Lib.hid (.inl ⟨rfl, HY1.out rfl⟩)
  have HS2 := Lib.hid (HSEL.out _ _ HMA.out HOA.out HF.out)
  go_wp2
  generalize w1.alloc (.cells #[.int .u32 (y.t.toNat : Int), .int .u32 (y.h.toNat : Int), .int .u64 (y.x.toNat : Int), .int .u32 (y.m.toNat : Int)] 47) = W at *
  have q0 : W.cell? ⟨w1.heap.size, 0, none⟩ = some (.int .u32 (y.t.toNat : Int)) := by rw [cells_cell HX1.out]; rfl
  have q1 : W.cell? ⟨w1.heap.size, 1, none⟩ = some (.int .u32 (y.h.toNat : Int)) := by rw [cells_cell HX1.out]; rfl
  have q2 : W.cell? ⟨w1.heap.size, 2, none⟩ = some (.int .u64 (y.x.toNat : Int)) := by rw [cells_cell HX1.out]; rfl
  have q3 : W.cell? ⟨w1.heap.size, 3, none⟩ = some (.int .u32 (y.m.toNat : Int)) := by rw [cells_cell HX1.out]; rfl
  obtain ⟨-, -, k3, k4, -⟩ := (show OfMem W o1 xb kb fb vb sb b v _ from HOA.out).cells
  have m9 : w1.heap.size < W.heap.size := lt_heap HX1.out
  have Q0 := Lib.hid q0
  have Q1 := Lib.hid q1
  have Q2 := Lib.hid q2
  have Q3 := Lib.hid q3
  have K3 := Lib.hid k3
  have K4 := Lib.hid k4
  clear q0 q1 q2 q3 k3 k4
  refine wp_region_quiet_in (Below W.heap.size W) (by kernel_rfl) (by kernel_rfl) ((Below.refl _ _).drew) ?_
  refine q_op rfl (fun w' hw' => (by have z3 := cellBelow hw' K3.out; go_simp <;> rfl)) (fun K hK => ?_); go_simp; refine hK _ ?_; clear hK K
  refine q_op rfl (fun w' hw' => (by have z0 := cellBelow hw' Q0.out; have z1 := cellBelow hw' Q1.out; have z2 := cellBelow hw' Q2.out; have z3 := cellBelow hw' Q3.out; go_simp <;> rfl)) (fun K hK => ?_); go_simp; refine hK _ ?_; clear hK K
  refine q_call rfl (fun w' hw' => (by go_simp; exact run_endFn b _ _)) (fun w' hw' => ((HE.out y w').mono (fun e w'' h => ⟨h.1, hw'.trans (h.2.mono hw'.size)⟩))) (fun K hK => ?_); go_simp; refine hK _ ?_; clear hK K
  refine q_op rfl (fun w' hw' => (by have z4 := cellBelow hw' K4.out; go_simp <;> rfl)) (fun K hK => ?_); go_simp; refine hK _ ?_; clear hK K
  iterate 2 (refine q_op rfl (fun w' hw' => (by go_simp <;> rfl)) (fun K hK => ?_); go_simp; refine hK _ ?_; clear hK K)
  refine wpQuiet_nil ?_
  intro w4 hw4
  have HW4 := Lib.hid hw4
  clear hw4
  go_wp2
  go_ret
  refine HS2.out _ _ HW4.out ?_
  simp
 ·have hc' : ¬ (c : Int) = 0 := by omega
  have HF : Hid (c = bc ∧ y = x ∨ Err d d1 L c) := Lib.hid (.inr (HE1.out.resolve_left hc))
  have hc'' : ((c : Int) != 0) = true := by simp; exact hc
  have HX2 : Hid (((w1.setCell ⟨kb, 0, none⟩ (.int .i64 (c : Int))).alloc (.cells #[.int .u32 (y.t.toNat : Int), .int .u32 (y.h.toNat : Int), .int .u64 (y.x.toNat : Int), .int .u32 (y.m.toNat : Int)] 47)).heap[w1.heap.size]? = some (.cells #[.int .u32 (y.t.toNat : Int), .int .u32 (y.h.toNat : Int), .int .u64 (y.x.toNat : Int), .int .u32 (y.m.toNat : Int)] 47)) := Lib.hid (by
   have := heap_alloc_new (w1.setCell ⟨kb, 0, none⟩ (.int .i64 (c : Int))) (.cells #[.int .u32 (y.t.toNat : Int), .int .u32 (y.h.toNat : Int), .int .u64 (y.x.toNat : Int), .int .u32 (y.m.toNat : Int)] 47)
   rw [World.size_setCell] at this
   exact this)
  have HMB := Lib.hid (((HM1.out.mono (S' := (· = kb)) (fun _ _ h => h.elim)).setCell ⟨kb, 0, none⟩ (.int .i64 (c : Int)) HO1.out.okb (.inl rfl)).alloc (.cells #[.int .u32 (y.t.toNat : Int), .int .u32 (y.h.toNat : Int), .int .u64 (y.x.toNat : Int), .int .u32 (y.m.toNat : Int)] 47))
  have HOB := Lib.hid ((HO1.out.set c).below ((Below.refl _ _).alloc (Nat.le_refl _) (.cells #[.int .u32 (y.t.toNat : Int), .int .u32 (y.h.toNat : Int), .int .u64 (y.x.toNat : Int), .int .u32 (y.m.toNat : Int)] 47)))
  have HS2 := Lib.hid (HSEL.out _ _ HMB.out HOB.out HF.out)
  clear HX1 HB1 HOA HMA
  go_wp2
  generalize (w1.setCell ⟨kb, 0, none⟩ (.int .i64 (c : Int))).alloc (.cells #[.int .u32 (y.t.toNat : Int), .int .u32 (y.h.toNat : Int), .int .u64 (y.x.toNat : Int), .int .u32 (y.m.toNat : Int)] 47) = W at *
  have q0 : W.cell? ⟨w1.heap.size, 0, none⟩ = some (.int .u32 (y.t.toNat : Int)) := by rw [cells_cell HX2.out]; rfl
  have q1 : W.cell? ⟨w1.heap.size, 1, none⟩ = some (.int .u32 (y.h.toNat : Int)) := by rw [cells_cell HX2.out]; rfl
  have q2 : W.cell? ⟨w1.heap.size, 2, none⟩ = some (.int .u64 (y.x.toNat : Int)) := by rw [cells_cell HX2.out]; rfl
  have q3 : W.cell? ⟨w1.heap.size, 3, none⟩ = some (.int .u32 (y.m.toNat : Int)) := by rw [cells_cell HX2.out]; rfl
  obtain ⟨-, -, k3, k4, -⟩ := (show OfMem W o1 xb kb fb vb sb b v _ from HOB.out).cells
  have m9 : w1.heap.size < W.heap.size := lt_heap HX2.out
  have Q0 := Lib.hid q0
  have Q1 := Lib.hid q1
  have Q2 := Lib.hid q2
  have Q3 := Lib.hid q3
  have K3 := Lib.hid k3
  have K4 := Lib.hid k4
  clear q0 q1 q2 q3 k3 k4
  refine wp_region_quiet_in (Below W.heap.size W) (by kernel_rfl) (by kernel_rfl) ((Below.refl _ _).drew) ?_
  refine q_op rfl (fun w' hw' => (by have z3 := cellBelow hw' K3.out; go_simp <;> rfl)) (fun K hK => ?_); go_simp; refine hK _ ?_; clear hK K
  refine q_op rfl (fun w' hw' => (by have z0 := cellBelow hw' Q0.out; have z1 := cellBelow hw' Q1.out; have z2 := cellBelow hw' Q2.out; have z3 := cellBelow hw' Q3.out; go_simp <;> rfl)) (fun K hK => ?_); go_simp; refine hK _ ?_; clear hK K
  refine q_call rfl (fun w' hw' => (by go_simp; exact run_endFn b _ _)) (fun w' hw' => ((HE.out y w').mono (fun e w'' h => ⟨h.1, hw'.trans (h.2.mono hw'.size)⟩))) (fun K hK => ?_); go_simp; refine hK _ ?_; clear hK K
  refine q_op rfl (fun w' hw' => (by have z4 := cellBelow hw' K4.out; go_simp <;> rfl)) (fun K hK => ?_); go_simp; refine hK _ ?_; clear hK K
  iterate 2 (refine q_op rfl (fun w' hw' => (by go_simp <;> rfl)) (fun K hK => ?_); go_simp; refine hK _ ?_; clear hK K)
  refine wpQuiet_nil ?_
  intro w4 hw4
  have HW4 := Lib.hid hw4
  clear hw4
  go_wp2
  go_ret
  refine HS2.out _ _ HW4.out ?_
  simp
def Rise (b : Bool) (es : List Edg) : Prop := ∀ (i j : Nat) (x y : Edg), es[i]? = some x → es[j]? = some y → i ≤ j → end1 b x ≤ end1 b y
def Split (b : Bool) (v : Nat) (es : List Edg) (lo hi : Nat) : Prop := (∀ (j : Nat) (x : Edg), es[j]? = some x → j < lo → end1 b x < v) ∧ (∀ (j : Nat) (x : Edg), es[j]? = some x → hi ≤ j → v ≤ end1 b x)
theorem Split.up {b : Bool} {v : Nat} {es : List Edg} {lo hi m : Nat} {x : Edg} (h : Split b v es lo hi) (hr : Rise b es) (hm : es[m]? = some x) (hx : end1 b x < v) : Split b v es (m + 1) hi :=
 ⟨fun j y hy hj => Nat.lt_of_le_of_lt (hr j m y x hy hm (by omega)) hx, h.2⟩
theorem Split.down {b : Bool} {v : Nat} {es : List Edg} {lo hi m : Nat} {x : Edg} (h : Split b v es lo hi) (hr : Rise b es) (hm : es[m]? = some x) (hx : v ≤ end1 b x) : Split b v es lo m :=
 ⟨h.1, fun j y hy hj => Nat.le_trans hx (hr m j x y hm hy hj)⟩
theorem Err.more {d d' d'' : Dsk} {L : Logic} {c : Nat} (h : Err d d' L c) (ho : Onward d' d'') : Err d d'' L c := h.imp id (fun ⟨h1, h2⟩ => ⟨h1, ho.dead h2⟩)
def SearchPost (n pb db : Nat) (w : World) (o : Owner) (d : Dsk) (L : Logic) (xb kb fb vb sb : Nat) (b : Bool) (v : Nat) (es : List Edg) (e : Ending) (w' : World) : Prop :=
 ∃ k c d' o', e = .returned (.int .i64 ((k : Nat) : Int)) ∧ k ≤ es.length ∧ Moved (· = kb) n pb db w o d w' o' d' L ∧ OfMem w' o' xb kb fb vb sb b v c ∧ ((c = 0 ∧ Split b v es k k) ∨ Err d d' L c)
set_option maxRecDepth 100000 in
set_option maxHeartbeats 4000000 in
theorem search_any (HW : WriteSaid) (h : PoolAt w pb db n o d L) (hst : StreamAt w sb pb name 20) (ho : o sb = none) {es : List Edg} {fl : Bool} (hL : mget L name = some (edgeFile es fl)) (hk : sb ≠ kb) (hm : OfMem w o xb kb fb vb sb b v 0) (hr : Rise b es) (hN : es.length < 1000000) :
 Calls Tryz.prog 101 #[.int .i64 (es.length : Int), .func (.func 102) #[] #[.pointer (some ⟨xb, 0, none⟩), .pointer (some ⟨kb, 0, none⟩), .pointer (some ⟨fb, 0, none⟩), .pointer (some ⟨vb, 0, none⟩)]] w (SearchPost n pb db w o d L xb kb fb vb sb b v es) := by
 have htest : Hid (∀ W o' d' c (m : Nat) x, PoolAt W pb db n o' d' L → StreamAt W sb pb name 20 → o' sb = none → OfMem W o' xb kb fb vb sb b v c → es[m]? = some x → Calls Tryz.prog 102 #[.int .i64 (m : Int), .pointer (some ⟨xb, 0, none⟩), .pointer (some ⟨kb, 0, none⟩), .pointer (some ⟨fb, 0, none⟩), .pointer (some ⟨vb, 0, none⟩)] W (TestPost n pb db W o' d' L xb kb fb vb sb b v c x)) := Lib.hid (fun W o' d' c m x a1 a2 a3 a4 a5 => ofTest_any HW a1 a2 a3 hL a4 a5)
 have H := Lib.hid h
 have HST := Lib.hid hst
 have HOS := Lib.hid ho
 have HM := Lib.hid hm
 have HR := Lib.hid hr
 have HES : Hid (∀ m, m < es.length → ∃ x, es[m]? = some x) := Lib.hid (fun m hm => ⟨_, List.getElem?_eq_getElem hm⟩)
 have hsp : Hid (Split b v es 0 es.length) := Lib.hid ⟨fun j x _ hj => absurd hj (Nat.not_lt_zero _), fun j x hx hj => absurd (lt_of_get hx) (by omega)⟩
 obtain ⟨N, hNe⟩ : ∃ N, N = es.length := ⟨_, rfl⟩
 rw [← hNe] at HES hsp hN ⊢
 have HNE := Lib.hid hNe
 clear h hst ho hL hm hr hNe
 go_enter Tryz.func101, Tryz.ntmps101
 go_wp2
 go_loopw [5, 6] (fun i j wr => ∃ (lo hi c : Nat) (d' : Dsk) (o' : Owner), lo ≤ hi ∧ hi ≤ N ∧ i = .int .i64 (lo : Int) ∧ j = .int .i64 (hi : Int) ∧ Moved (· = kb) n pb db w o d wr o' d' L ∧ OfMem wr o' xb kb fb vb sb b v c ∧ ((c = 0 ∧ Split b v es lo hi) ∨ Err d d' L c)) (fun i j _ => (intOf j).toNat - (intOf i).toNat)
 case atStart => exact ⟨0, N, 0, d, o, Nat.zero_le _, Nat.le_refl _, rfl, rfl, Moved.refl _ H.out, HM.out, .inl ⟨rfl, hsp.out⟩⟩
 case round =>
  obtain ⟨lo, hi, c, d1, o1, hlh, hhN, rfl, rfl, hm1, hof1, hs1⟩ := hrel
  have HM1 := Lib.hid hm1
  have HO1 := Lib.hid hof1
  have HS1 := Lib.hid hs1
  clear hm1 hof1 hs1
  by_cases hlt : lo < hi
  ·obtain ⟨m, hme⟩ : ∃ m, m = (lo + hi) / 2 := ⟨_, rfl⟩
   have hm1 : lo ≤ m := by omega
   have hm2 : m < hi := by omega
   have hmi : ((lo : Int) + (hi : Int)) / 2 = (m : Int) := by omega
   clear hme
   obtain ⟨x, hx⟩ := HES.out m (by omega)
   have hca := Lib.hid (htest.out wr o1 d1 c m _ HM1.out.pool (HST.out.moved HM1.out HOS.out hk) (HM1.out.free HST.out.lt HOS.out) HO1.out hx)
   have HX := Lib.hid hx
   clear hx
   go_wp2_with fail
   clear hmi
   refine hca.out.mono ?_
   rintro e w2 ⟨r, c2, d2, o2, rfl, hm3, hof3, hs3⟩
   have HM3 : Hid (Moved (· = kb) n pb db w o d w2 o2 d2 L) := Lib.hid (HM1.out.trans hm3 (fun _ _ h => h))
   have HO3 := Lib.hid hof3
   have HS3 : Hid ((c2 = 0 ∧ (r = true → Split b v es lo m) ∧ (r = false → Split b v es (m + 1) hi)) ∨ Err d d2 L c2) := Lib.hid (by
    rcases hs3 with ⟨h1, h2⟩ | h2
    ·rcases HS1.out with ⟨h3, h4⟩ | h4
     ·refine .inl ⟨h1.trans h3, fun hr => ?_, fun hr => ?_⟩
      ·rw [hr] at h2
       exact h4.down HR.out HX.out (of_decide_eq_true h2.symm)
      ·rw [hr] at h2
       exact h4.up HR.out HX.out (Nat.lt_of_not_le (of_decide_eq_false h2.symm))
     ·rw [h1]
      exact .inr (h4.more hm3.on)
    ·exact .inr (h2.later HM1.out.on.quota))
   clear hm3 hof3 hs3 hca
   cases r with
   | false =>
     have HS4 : Hid (c2 = 0 ∧ Split b v es (m + 1) hi ∨ Err d d2 L c2) := Lib.hid (HS3.out.imp (fun h => ⟨h.1, h.2.2 rfl⟩) id)
     clear HS3
     go_wp2
     go_roundw
     case rel => exact ⟨m + 1, hi, c2, d2, o2, by omega, hhN, by go_num, rfl, HM3.out, HO3.out, HS4.out⟩
     case measure => simp [intOf]; omega
   | true =>
     have HS4 : Hid (c2 = 0 ∧ Split b v es lo m ∨ Err d d2 L c2) := Lib.hid (HS3.out.imp (fun h => ⟨h.1, h.2.1 rfl⟩) id)
     clear HS3
     go_wp2
     go_roundw
     case rel => exact ⟨lo, m, c2, d2, o2, by omega, by omega, rfl, rfl, HM3.out, HO3.out, HS4.out⟩
     case measure => simp [intOf]; omega
  ·obtain rfl : lo = hi := by omega
   go_wp2
   go_ret
   exact ⟨lo, c, d1, o1, rfl, by rw [← HNE.out]; exact hhN, HM1.out, HO1.out, HS1.out⟩
end
end Go.Proofs.YtolieljpnafbhaaGreatDoor
namespace Go.Proofs.YtolieljpnafbhaaGreatDoor
open Go.RowKit Go.Maps Go.MapKept
section
variable {w w' : World} {pb db n sb gb gen N ob ib vb' v : Nat} {b : Bool} {name : Name} {o o' : Owner} {d d' : Dsk} {L L' : Logic}
def ofL (b : Bool) (v : Nat) (es : List Edg) : List Edg := es.filter fun x => end1 b x = v
theorem ofL_parts {es : List Edg} {k j : Nat} (hr : Rise b es) (hs : Split b v es k k) (hm : ∀ x ∈ (es.drop k).take j, end1 b x = v) (hl : ∀ x, es[k + j]? = some x → end1 b x ≠ v) : (es.drop k).take j = ofL b v es := by
 unfold ofL
 have e : es = es.take k ++ ((es.drop k).take j ++ (es.drop k).drop j) := by rw [List.take_append_drop, List.take_append_drop]
 conv => rhs; rw [e]
 rw [List.filter_append, List.filter_append]
 have h1 : (es.take k).filter (fun x => decide (end1 b x = v)) = [] := by
  rw [List.filter_eq_nil_iff]
  intro x hx
  obtain ⟨i, hi⟩ := List.mem_iff_getElem?.1 hx
  have hik : i < k := by have := lt_of_get hi; rw [List.length_take] at this; omega
  rw [List.getElem?_take, if_pos hik] at hi
  have := hs.1 i x hi hik
  simp; omega
 have h2 : ((es.drop k).take j).filter (fun x => decide (end1 b x = v)) = (es.drop k).take j := by
  rw [List.filter_eq_self]
  intro x hx
  simpa using hm x hx
 have h3 : ((es.drop k).drop j).filter (fun x => decide (end1 b x = v)) = [] := by
  rw [List.filter_eq_nil_iff]
  intro x hx
  obtain ⟨i, hi⟩ := List.mem_iff_getElem?.1 hx
  rw [List.drop_drop, List.getElem?_drop] at hi
  have hlt := lt_of_get hi
  have hy : es[k + j]? = some es[k + j] := List.getElem?_eq_getElem (by omega)
  have h4 := hl _ hy
  have h5 := hs.2 _ _ hy (by omega)
  have h6 := hr _ _ _ _ hy hi (by omega)
  simp; omega
 rw [h1, h2, h3]
 simp
def OfPost (n pb db : Nat) (w : World) (o : Owner) (d : Dsk) (L : Logic) (ts : List Edg) (e : Ending) (w' : World) : Prop :=
 ∃ v c d' o', e = .returned (.tuple #[v, .int .i64 ((c : Nat) : Int)]) ∧ Moved (fun _ => False) n pb db w o d w' o' d' L ∧ (c = 0 ∨ Err d d' L c) ∧ (c = 0 → ownsEdges w' w.heap.size v ts ∧ ∀ x, v.ownBlock = some x → o' x = none) ∧ (c ≠ 0 → v = .slice none 0 0)
theorem three_boxes (w : World) (x y z : Value) (t1 t2 t3 : TypeId) :
 Below w.heap.size w (((w.alloc (.cells #[x] t1)).alloc (.cells #[y] t2)).alloc (.cells #[z] t3)) ∧ (((w.alloc (.cells #[x] t1)).alloc (.cells #[y] t2)).alloc (.cells #[z] t3)).heap[w.heap.size]? = some (.cells #[x] t1) ∧ (((w.alloc (.cells #[x] t1)).alloc (.cells #[y] t2)).alloc (.cells #[z] t3)).heap[w.heap.size + 1]? = some (.cells #[y] t2) ∧ (((w.alloc (.cells #[x] t1)).alloc (.cells #[y] t2)).alloc (.cells #[z] t3)).heap[w.heap.size + 2]? = some (.cells #[z] t3) := by
 have a1 := heap_alloc_new w (.cells #[x] t1)
 have a2 := heap_alloc_new (w.alloc (.cells #[x] t1)) (.cells #[y] t2)
 have a3 := heap_alloc_new ((w.alloc (.cells #[x] t1)).alloc (.cells #[y] t2)) (.cells #[z] t3)
 simp only [World.size_alloc, Nat.add_assoc] at a2 a3
 refine ⟨(((Below.refl _ _).alloc (Nat.le_refl _) _).alloc (by simp) _).alloc (by simp; omega) _, ?_, ?_, a3⟩
 ·rw [(MapKept.heap_alloc _ _).2 _ (by simp; omega), (MapKept.heap_alloc _ _).2 _ (by simp)]
  exact a1
 ·rw [(MapKept.heap_alloc _ _).2 _ (by simp)]
  exact a2
theorem OfMem.kept {xb kb fb vb bc : Nat} (h : OfMem w o xb kb fb vb sb b v bc) (e : ∀ x, x = xb ∨ x = kb ∨ x = fb ∨ x = vb → w'.heap[x]? = w.heap[x]?) : OfMem w' o xb kb fb vb sb b v bc := by
 obtain ⟨t1, h1⟩ := h.xs
 obtain ⟨t2, h2⟩ := h.bad
 obtain ⟨t3, h3⟩ := h.fn
 obtain ⟨t4, h4⟩ := h.vtx
 exact ⟨⟨t1, (e xb (.inl rfl)).trans h1⟩, ⟨t2, (e kb (.inr (.inl rfl))).trans h2⟩, ⟨t3, (e fb (.inr (.inr (.inl rfl)))).trans h3⟩, ⟨t4, (e vb (.inr (.inr (.inr rfl)))).trans h4⟩, h.oxb, h.okb, h.ofb, h.ovb, h.xk, h.fk, h.vk⟩
set_option maxRecDepth 100000 in
set_option maxHeartbeats 8000000 in
theorem of_any (HW : WriteSaid) (h : PoolAt w pb db n o d L) (hst : StreamAt w sb pb name 20) (ho : o sb = none) {x1 x2 x3 : Value} (hg : GraphRaw w gb x1 x2 x3 (.int .i64 (N : Int))) {es : List Edg} {fl : Bool} (hL : mget L name = some (edgeFile es fl)) (hr : Rise b es) (hN : es.length < 65536) (hv : v < N) (hv' : v < 4294967296) :
 Calls Tryz.prog 66 #[ptrTo gb, ptrTo sb, .int .u32 (v : Int), .func (.func (endFn b)) #[] #[]] w (OfPost n pb db w o d L (ofL b v es)) := by
 have hlen : Hid (∀ W, Below w.heap.size w W → Calls Tryz.prog 30 #[ptrTo sb] W (Stays n pb db W o d L (numIs es.length))) := Lib.hid (fun W hW => by
  have := streamLen_any HW (h.below hW) (hst.below hW) ho (by decide) (by decide) hL (sized_edges es)
  rw [List.length_map] at this
  exact this)
 have hsearch : Hid (∀ W o' d' xb kb fb vb, PoolAt W pb db n o' d' L → StreamAt W sb pb name 20 → o' sb = none → sb ≠ kb → OfMem W o' xb kb fb vb sb b v 0 → Calls Tryz.prog 101 #[.int .i64 (es.length : Int), .func (.func 102) #[] #[.pointer (some ⟨xb, 0, none⟩), .pointer (some ⟨kb, 0, none⟩), .pointer (some ⟨fb, 0, none⟩), .pointer (some ⟨vb, 0, none⟩)]] W (SearchPost n pb db W o' d' L xb kb fb vb sb b v es)) := Lib.hid (fun W o' d' xb kb fb vb a1 a2 a3 a4 a5 => search_any HW a1 a2 a3 hL a4 a5 hr (by omega))
 have hread : Hid (∀ W o' d' (i : Nat) x, PoolAt W pb db n o' d' L → StreamAt W sb pb name 20 → o' sb = none → es[i]? = some x → Calls Tryz.prog 69 #[ptrTo sb, .int .i64 (i : Int)] W (ReadEPost n pb db W o' d' L x)) := Lib.hid (fun W o' d' i x a1 a2 a3 a4 => storeRead_in HW a1 a2 a3 hL a4)
 have HE : Hid (∀ (y : Edg) (W : World), Calls Tryz.prog (endFn b) #[.agg #[.int .u32 (y.t.toNat : Int), .int .u32 (y.h.toNat : Int), .int .u64 (y.x.toNat : Int), .int .u32 (y.m.toNat : Int)]] W fun e w' => e = .returned (.int .u32 (end1 b y : Int)) ∧ Below W.heap.size W w') := Lib.hid (fun y W => end_any b y W)
 have hparts := Lib.hid (fun k j hs hm hl => ofL_parts (b := b) (v := v) (es := es) (k := k) (j := j) hr hs hm hl)
 obtain ⟨-, -, -, g3, -⟩ := hg.cells
 have hgl := hg.lt
 have hsl := hst.lt
 have H := Lib.hid h
 have HST := Lib.hid hst
 have HOS := Lib.hid ho
 have hge : ¬ ((v : Int) ≥ (N : Int)) := by omega
 have hge2 : ¬ ((N : Int) ≤ (v : Int)) := by omega
 generalize ofL b v es = ts at *
 have HT := Lib.hid (three_boxes w (ptrTo sb) (.int .u32 (v : Int)) (.func (.func (endFn b)) #[] #[]) 54 23 118)
 clear h hst ho hg hL hr
 unfold ptrTo at *
 go_enter Tryz.func66, Tryz.ntmps66
 go_wp2_with fail
 obtain ⟨b1, b2, b3, b4⟩ := HT.out
 have HB1 := Lib.hid b1
 have HX1 := Lib.hid b2
 have HX2 := Lib.hid b3
 have HX3 := Lib.hid b4
 clear b1 b2 b3 b4 HT
 unfold ptrTo at *
 generalize ((w.alloc (.cells #[.pointer (some ⟨sb, 0, none⟩)] 54)).alloc (.cells #[.int .u32 (v : Int)] 23)).alloc (.cells #[.func (.func (endFn b)) #[] #[]] 118) = W1 at *
 have HVB : Hid (w.heap.size + 1 < W1.heap.size ∧ w.heap.size + 2 < W1.heap.size ∧ w.heap.size < W1.heap.size) := Lib.hid ⟨lt_heap HX2.out, lt_heap HX3.out, lt_heap HX1.out⟩
 have HGE : Hid (w.heap.size ≤ w.heap.size + 1 ∧ w.heap.size ≤ w.heap.size + 2) := Lib.hid ⟨by omega, by omega⟩
 rw [show w.heap.size + 1 + 1 = w.heap.size + 2 from rfl]
 generalize w.heap.size + 2 = fb at *
 generalize w.heap.size + 1 = vb at *
 have K2 : Hid (W1.cell? ⟨vb, 0, none⟩ = some (.int .u32 (v : Int))) := Lib.hid (by rw [cells_cell HX2.out]; rfl)
 have K4 : Hid (W1.cell? ⟨gb, 3, none⟩ = some (.int .i64 (N : Int))) := Lib.hid (by rw [HB1.out.cell hgl]; exact g3)
 have hwv : IntKind.i64.wrap (v : Int) = (v : Int) := by rw [wrap_in] <;> omega
 clear g3
 refine wp_region_quiet_in (Below W1.heap.size W1) (by kernel_rfl) (by kernel_rfl) ((Below.refl _ _).drew) ?_
 refine q_op rfl (fun w' hw' => (by have z := cellBelow hw' K2.out; go_simp <;> rfl)) (fun K hK => ?_); go_simp; refine hK _ ?_; clear hK K
 iterate 4 (refine q_op rfl (fun w' hw' => (by go_simp <;> rfl)) (fun K hK => ?_); go_simp; refine hK _ ?_; clear hK K)
 refine q_op rfl (fun w' hw' => (by have z := cellBelow hw' K4.out; go_simp <;> rfl)) (fun K hK => ?_); go_simp; refine hK _ ?_; clear hK K
 refine q_op rfl (fun w' hw' => (by go_simp <;> rfl)) (fun K hK => ?_); go_simp; refine hK _ ?_; clear hK K
 refine wpQuiet_nil ?_
 intro W2 hw2
 have HB2 := Lib.hid (HB1.out.trans (hw2.mono HB1.out.size))
 have HY1 : Hid (W2.heap[w.heap.size]? = _) := Lib.hid ((hw2.block _ HVB.out.2.2).trans HX1.out)
 have HY2 : Hid (W2.heap[vb]? = _) := Lib.hid ((hw2.block _ HVB.out.1).trans HX2.out)
 have HY3 : Hid (W2.heap[fb]? = _) := Lib.hid ((hw2.block _ HVB.out.2.1).trans HX3.out)
 have k1 : W2.cell? ⟨w.heap.size, 0, none⟩ = some (.pointer (some ⟨sb, 0, none⟩)) := by rw [cells_cell HY1.out]; rfl
 clear hw2 HX1 HX2 HX3 HB1 HVB K2 K4 W1
 go_wp2_with fail
 refine (hlen.out W2 HB2.out).mono ?_
 rintro e w3 ⟨c3, d3, o3, ⟨x3', rfl, hx3⟩, hm3, he3⟩
 have HM3 : Hid (Moved (fun _ => False) n pb db w o d w3 o3 d3 L) := Lib.hid ((Moved.ofBelow H.out HB2.out).trans hm3 (fun _ _ h => h))
 have HFR : Hid (∀ x, w.heap.size ≤ x → o x = none) := Lib.hid (fun x hx => H.out.fresh hx)
 have HST3 : Hid (StreamAt w3 sb pb name 20) := Lib.hid (HST.out.moved HM3.out HOS.out (fun h => h))
 have HOS3 : Hid (o3 sb = none) := Lib.hid (HM3.out.free hsl HOS.out)
 have HOF3 : Hid (∀ kb (w4 : World), w3.heap.size ≤ kb → Below w3.heap.size w3 w4 → (∃ t, w4.heap[kb]? = some (.cells #[.int .i64 0] t)) → OfMem w4 o3 w.heap.size kb fb vb sb b v 0) := Lib.hid (fun kb w4 hkb hb4 hc => by
  have q1 := hm3.heap HY1.out (HFR.out _ (Nat.le_refl _)) (fun h => h)
  have q2 := hm3.heap HY2.out (HFR.out _ HGE.out.1) (fun h => h)
  have q3 := hm3.heap HY3.out (HFR.out _ HGE.out.2) (fun h => h)
  exact ⟨⟨_, (hb4.block _ (lt_heap q1)).trans q1⟩, hc, ⟨_, (hb4.block _ (lt_heap q3)).trans q3⟩, ⟨_, (hb4.block _ (lt_heap q2)).trans q2⟩, hm3.free (lt_heap HY1.out) (HFR.out _ (Nat.le_refl _)), hm3.pool.fresh hkb, hm3.free (lt_heap HY3.out) (HFR.out _ HGE.out.2), hm3.free (lt_heap HY2.out) (HFR.out _ HGE.out.1), fun e => by have := lt_heap q1; omega, fun e => by have := lt_heap q3; omega, fun e => by have := lt_heap q2; omega⟩)
 have HE3 := Lib.hid he3
 have HX3 := Lib.hid hx3
 clear hm3 he3 hx3 HY1 HY2 HY3 k1 HB2 W2
 by_cases hc3 : c3 = 0
 ·subst hc3
  obtain rfl := HX3.out rfl
  clear HX3 HE3
  have HB4 : Hid (Below w3.heap.size w3 (w3.alloc (.cells #[.int .i64 0] 29))) := Lib.hid ((Below.refl _ _).alloc (Nat.le_refl _) _)
  have HO4 := Lib.hid (HOF3.out w3.heap.size _ (Nat.le_refl _) HB4.out ⟨_, heap_alloc_new w3 _⟩)
  have HM4 := Lib.hid (HM3.out.below HB4.out)
  have HST4 := Lib.hid (HST3.out.below HB4.out)
  have hsl3 := HST3.out.lt
  clear HOF3
  have hcs := Lib.hid (hsearch.out _ o3 d3 w.heap.size w3.heap.size fb vb HM4.out.pool HST4.out HOS3.out (by omega) HO4.out)
  clear hsl3
  go_wp2_with fail
  refine hcs.out.mono ?_
  rintro e w5 ⟨k5, c5, d5, o5, rfl, hk5, hm5, hof5, hs5⟩
  have hw34 : w.heap.size ≤ w3.heap.size := HM3.out.size
  have HM5 : Hid (Moved (fun _ => False) n pb db w o d w5 o5 d5 L) := Lib.hid (HM4.out.trans hm5 (fun x hx e => by omega))
  have HST5 : Hid (StreamAt w5 sb pb name 20) := Lib.hid (HST.out.moved HM5.out HOS.out (fun h => h))
  have HOS5 : Hid (o5 sb = none) := Lib.hid (HM5.out.free hsl HOS.out)
  have HO5 := Lib.hid hof5
  have hk3 := hof5.cells.2.1
  have HS5 : Hid (c5 = 0 ∧ Split b v es k5 k5 ∨ Err d d5 L c5) := Lib.hid (hs5.imp id (fun h => h.later HM4.out.on.quota))
  clear hm5 hof5 hs5 hcs HO4 HM4 HST4 HB4 HM3 HST3 HOS3
  generalize w3.heap.size = kb at *
  by_cases hc5 : c5 = 0
  ·subst hc5
   have HSP : Hid (Split b v es k5 k5) := Lib.hid (HS5.out.elim (fun h => h.2) (fun h => absurd rfl h.ne))
   clear HS5
   obtain ⟨M, hM⟩ : ∃ M, M = es.length := ⟨_, rfl⟩
   have HES : Hid (∀ m, m < M → ∃ x, es[m]? = some x) := Lib.hid (fun m hm => ⟨_, List.getElem?_eq_getElem (by omega)⟩)
   rw [← hM] at hk5 hN ⊢
   have HME := Lib.hid hM
   clear hM
   have hk3' : w5.cell? ⟨kb, 0, none⟩ = some (.int .i64 0) := hk3
   clear hk3
   go_wp2
   go_loopw [13, 14] (fun i l wr => ∃ (j : Nat) (d' : Dsk) (o' : Owner), k5 + j ≤ M ∧ i = .int .i64 ((k5 + j : Nat) : Int) ∧ Moved (fun _ => False) n pb db w o d wr o' d' L ∧ w5.heap.size ≤ wr.heap.size ∧ OfMem wr o' w.heap.size kb fb vb sb b v 0 ∧ ownsEdges wr w5.heap.size l ((es.drop k5).take j) ∧ (∀ x, l.ownBlock = some x → o' x = none) ∧ (∀ x ∈ (es.drop k5).take j, end1 b x = v)) (fun i _ _ => M - (intOf i).toNat)
   case atStart => exact ⟨0, d5, o5, hk5, rfl, HM5.out, Nat.le_refl _, HO5.out, World.ownsRow_nil _ _ _ 4, (fun x hx => by cases hx), by simp⟩
   case round =>
    obtain ⟨j, d6, o6, hj, rfl, hm6, hz6, hof6, hl6, hlf6, hal6⟩ := hrel
    have HM6 := Lib.hid hm6
    have HO6 := Lib.hid hof6
    have HL6 := Lib.hid hl6
    have HLF6 := Lib.hid hlf6
    have HAL6 := Lib.hid hal6
    have HZ6 := Lib.hid hz6
    obtain ⟨la, lc, rfl⟩ := ownsRow_slice hl6
    have hjl : ((es.drop k5).take j).length = j := by rw [List.length_take, List.length_drop, ← HME.out]; omega
    rw [hjl] at HL6 HLF6
    simp only [hjl]
    have HJL := Lib.hid hjl
    have k1 := hof6.cells.1
    unfold ptrTo at k1
    clear hm6 hof6 hl6 hlf6 hal6 hjl hz6
    by_cases hlt : k5 + j < M
    ·obtain ⟨x, hx⟩ := HES.out _ hlt
     have hrd := Lib.hid (hread.out wr o6 d6 (k5 + j) x HM6.out.pool (HST.out.moved HM6.out HOS.out (fun h => h)) (HM6.out.free hsl HOS.out) hx)
     have HX := Lib.hid hx
     clear hx
     go_wp2_with fail
     refine hrd.out.mono ?_
     rintro e w7 ⟨c7, d7, o7, y, rfl, hm7, he7, hy7⟩
     have HM7 : Hid (Moved (fun _ => False) n pb db w o d w7 o7 d7 L) := Lib.hid (HM6.out.trans hm7 (fun _ _ h => h))
     have HZ7 : Hid (w5.heap.size ≤ w7.heap.size) := Lib.hid (Nat.le_trans HZ6.out hm7.size)
     have HO7 := Lib.hid (HO6.out.moved hm7)
     have HL7 : Hid (ownsEdges w7 w5.heap.size (.slice la j lc) ((es.drop k5).take j)) := Lib.hid (hm7.ownsRow HL6.out (fun b hb => ⟨HLF6.out b hb, fun h => h⟩))
     have HLF7 : Hid (∀ x, (Value.slice la j lc).ownBlock = some x → o7 x = none) := Lib.hid (fun x hx => hm7.free (ownBlock_old HL6.out x hx).1 (HLF6.out x hx))
     have HE7 := Lib.hid he7
     have HY7 := Lib.hid hy7
     clear hm7 he7 hy7 hrd k1
     have HBA : Hid (Below w7.heap.size w7 (w7.alloc (.cells #[.int .u32 (y.t.toNat : Int), .int .u32 (y.h.toNat : Int), .int .u64 (y.x.toNat : Int), .int .u32 (y.m.toNat : Int)] 47))) := Lib.hid ((Below.refl _ _).alloc (Nat.le_refl _) _)
     by_cases hc7 : c7 = 0
     ·subst hc7
      obtain rfl := HY7.out rfl
      clear HY7 HE7
      have HXA : Hid ((w7.alloc (.cells #[.int .u32 (y.t.toNat : Int), .int .u32 (y.h.toNat : Int), .int .u64 (y.x.toNat : Int), .int .u32 (y.m.toNat : Int)] 47)).heap[w7.heap.size]? = some (.cells #[.int .u32 (y.t.toNat : Int), .int .u32 (y.h.toNat : Int), .int .u64 (y.x.toNat : Int), .int .u32 (y.m.toNat : Int)] 47)) := Lib.hid (heap_alloc_new w7 _)
      have HMA := Lib.hid (HM7.out.below HBA.out)
      have HOA := Lib.hid (HO7.out.below HBA.out)
      have HLA : Hid (ownsEdges (w7.alloc (.cells #[.int .u32 (y.t.toNat : Int), .int .u32 (y.h.toNat : Int), .int .u64 (y.x.toNat : Int), .int .u32 (y.m.toNat : Int)] 47)) w5.heap.size (.slice la j lc) ((es.drop k5).take j)) := Lib.hid (World.ownsRow.alloc HL7.out _)
      have HZA : Hid (w5.heap.size ≤ (w7.alloc (.cells #[.int .u32 (y.t.toNat : Int), .int .u32 (y.h.toNat : Int), .int .u64 (y.x.toNat : Int), .int .u32 (y.m.toNat : Int)] 47)).heap.size) := Lib.hid (Nat.le_trans HZ7.out HBA.out.size)
      go_wp2
      generalize w7.alloc (.cells #[.int .u32 (y.t.toNat : Int), .int .u32 (y.h.toNat : Int), .int .u64 (y.x.toNat : Int), .int .u32 (y.m.toNat : Int)] 47) = W at *
      generalize w7.heap.size = ab at *
      have Q0 : Hid (W.cell? ⟨ab, 0, none⟩ = some (.int .u32 (y.t.toNat : Int))) := Lib.hid (by rw [cells_cell HXA.out]; rfl)
      have Q1 : Hid (W.cell? ⟨ab, 1, none⟩ = some (.int .u32 (y.h.toNat : Int))) := Lib.hid (by rw [cells_cell HXA.out]; rfl)
      have Q2 : Hid (W.cell? ⟨ab, 2, none⟩ = some (.int .u64 (y.x.toNat : Int))) := Lib.hid (by rw [cells_cell HXA.out]; rfl)
      have Q3 : Hid (W.cell? ⟨ab, 3, none⟩ = some (.int .u32 (y.m.toNat : Int))) := Lib.hid (by rw [cells_cell HXA.out]; rfl)
      have K3 := Lib.hid HOA.out.cells.2.2.1
      have K4 := Lib.hid HOA.out.cells.2.2.2.1
      refine wp_region_quiet_in (Below W.heap.size W) (by kernel_rfl) (by kernel_rfl) ((Below.refl _ _).drew) ?_
      refine q_op rfl (fun w' hw' => (by have z3 := cellBelow hw' K3.out; go_simp <;> rfl)) (fun K hK => ?_); go_simp; refine hK _ ?_; clear hK K
      refine q_op rfl (fun w' hw' => (by have z0 := cellBelow hw' Q0.out; have z1 := cellBelow hw' Q1.out; have z2 := cellBelow hw' Q2.out; have z3 := cellBelow hw' Q3.out; go_simp <;> rfl)) (fun K hK => ?_); go_simp; refine hK _ ?_; clear hK K
      refine q_call rfl (fun w' hw' => (by go_simp; exact run_endFn b _ _)) (fun w' hw' => ((HE.out y w').mono (fun e w'' h => ⟨h.1, hw'.trans (h.2.mono hw'.size)⟩))) (fun K hK => ?_); go_simp; refine hK _ ?_; clear hK K
      refine q_op rfl (fun w' hw' => (by have z4 := cellBelow hw' K4.out; go_simp <;> rfl)) (fun K hK => ?_); go_simp; refine hK _ ?_; clear hK K
      refine q_op rfl (fun w' hw' => (by go_simp <;> rfl)) (fun K hK => ?_); go_simp; refine hK _ ?_; clear hK K
      refine wpQuiet_nil ?_
      intro W8 hw8
      have HM8 := Lib.hid (HMA.out.below hw8)
      have HO8 := Lib.hid (HOA.out.below hw8)
      have HL8 : Hid (ownsEdges W8 w5.heap.size (.slice la j lc) ((es.drop k5).take j)) := Lib.hid ((Moved.ofBelow HMA.out.pool hw8 (S := fun _ => False)).ownsRow HLA.out (fun b hb => ⟨HLF7.out b hb, fun h => h⟩))
      have HZ8 : Hid (w5.heap.size ≤ W8.heap.size) := Lib.hid (Nat.le_trans HZA.out hw8.size)
      have z0 := cellBelow hw8 Q0.out
      have z1 := cellBelow hw8 Q1.out
      have z2 := cellBelow hw8 Q2.out
      have z3 := cellBelow hw8 Q3.out
      clear hw8 HMA HOA HLA HZA HXA HBA K3 K4 Q0 Q1 Q2 Q3 HM7 HO7 HL7 HZ7 W
      by_cases hev : end1 b y = v
      ·have hkl : ((es.drop k5).take j).length ≤ 100000 := by rw [HJL.out]; omega
       have HTK : Hid ((es.drop k5).take (j + 1) = (es.drop k5).take j ++ [y]) := Lib.hid (by
        rw [List.take_add_one, List.getElem?_drop, HX.out]
        rfl)
       have hz8 := HZ8.out
       have hev' : (end1 b y : Int) = (v : Int) := by omega
       have HEV := Lib.hid hev
       clear hev
       go_wp2_with (at_builtin; refine wpList_append_edge rfl _ _ rfl w5.heap.size _ _ rfl HL8.out y 1 rfl hkl hz8 ?_)
       intro l4 w4 hl4 ha4
       obtain ⟨hm4, hlf4, hh4, hz4⟩ := ha4.moved HM8.out (fun x hx => ⟨HLF7.out x hx, Nat.le_trans HM5.out.size (ownsRow_block HL8.out x hx)⟩)
       have HM9 := Lib.hid hm4
       have HO9 : Hid (OfMem w4 o7 w.heap.size kb fb vb sb b v 0) := Lib.hid (HO8.out.kept (fun x hx => by
        have hx5 : x < w5.heap.size := by
         obtain ⟨g1, g2, g3, g4⟩ := HO5.out.lts
         rcases hx with h | h | h | h <;> omega
        exact hh4 x (by omega) (fun e => by have := ownsRow_block HL8.out x e; omega)))
       have HZ9 : Hid (w5.heap.size ≤ w4.heap.size) := Lib.hid (Nat.le_trans hz8 hz4)
       rw [← HTK.out] at hl4
       have HL9 := Lib.hid hl4
       have HLF9 := Lib.hid hlf4
       clear hm4 hlf4 hh4 hz4 ha4 hl4 z0 z1 z2 z3 hz8
       go_wp2
       go_roundw
       case rel => exact ⟨j + 1, d7, o7, by omega, by go_num, HM9.out, HZ9.out, HO9.out, HL9.out, fun x hx => (HLF9.out x hx).1, by rw [HTK.out]; intro x hx; rcases List.mem_append.1 hx with h | h; exact HAL6.out x h; rw [List.mem_singleton.1 h]; exact HEV.out⟩
       case measure => simp [intOf]; omega
      ·have hev' : ¬ (end1 b y : Int) = (v : Int) := by omega
       have hfin : (es.drop k5).take j = ts := hparts.out k5 j HSP.out HAL6.out (fun x hx => by rw [HX.out] at hx; cases hx; exact hev)
       have HF := Lib.hid hfin
       clear hfin hev
       go_wp2
       go_ret2
       exact ⟨_, 0, d7, o7, rfl, HM8.out, .inl rfl, fun _ => ⟨HF.out ▸ ownsRow_base HL8.out HM5.out.size, HLF7.out⟩, fun h => absurd rfl h⟩
     ·have hc7' : ¬ (c7 : Int) = 0 := by omega
      have HC7 := Lib.hid hc7
      have HE7' := Lib.hid ((HE7.out.resolve_left hc7).later HM6.out.on.quota)
      have HMA := Lib.hid (HM7.out.below HBA.out)
      clear hc7
      go_wp2
      go_ret2
      exact ⟨_, c7, d7, o7, rfl, HMA.out, .inr HE7'.out, fun h => absurd h HC7.out, fun _ => rfl⟩
    ·go_wp2
     go_ret2
     have hjM : k5 + j = M := by omega
     have hfin : (es.drop k5).take j = ts := hparts.out k5 j HSP.out HAL6.out (fun x hx => by have := lt_of_get hx; rw [← HME.out] at this; omega)
     exact ⟨_, 0, d6, o6, rfl, HM6.out, .inl rfl, fun _ => ⟨hfin ▸ ownsRow_base HL6.out HM5.out.size, HLF6.out⟩, fun h => absurd rfl h⟩
  ·have hc5' : ¬ (c5 : Int) = 0 := by omega
   have HE5 : Hid (Err d d5 L c5) := Lib.hid (HS5.out.elim (fun h => absurd h.1 hc5) id)
   have HC5 := Lib.hid hc5
   clear hc5 HS5
   go_wp2
   go_quiet (fail)
   go_wp2
   go_ret2
   exact ⟨_, c5, d5, o5, rfl, HM5.out.below (below_drewN (Below.refl _ _) _), .inr HE5.out, fun h => absurd h HC5.out, fun _ => rfl⟩
 ·have hc3' : ¬ (c3 : Int) = 0 := by omega
  have HC3 := Lib.hid hc3
  clear hc3
  go_wp2
  go_ret2
  exact ⟨_, c3, d3, o3, rfl, HM3.out, HE3.out, fun h => absurd h HC3.out, fun _ => rfl⟩
end
end Go.Proofs.YtolieljpnafbhaaGreatDoor
namespace Go.Proofs.YtolieljpnafbhaaGreatDoor
open Go.RowKit Go.Maps Go.MapKept
section
variable {w w' : World} {pb db n sb gb gen N ob ib vb v : Nat} {b : Bool} {name : Name} {o o' : Owner} {d d' : Dsk} {L L' : Logic}
set_option maxRecDepth 100000 in
set_option maxHeartbeats 2000000 in
theorem graphOut_in (HW : WriteSaid) (h : PoolAt w pb db n o d L) (hg : GraphAt w o gb pb gen N ob ib vb) {es : List Edg} {fl : Bool} (hL : mget L (sName 101 gen) = some (edgeFile es fl)) (hr : Rise false es) (hN : es.length < 65536) (hv : v < N) (hv' : v < 4294967296) :
 Calls Tryz.prog 21 #[ptrTo gb, .int .u32 (v : Int)] w (OfPost n pb db w o d L (ofL false v es)) := by
 have hof := Lib.hid (of_any HW h hg.out hg.oob hg.raw hL hr hN hv hv')
 obtain ⟨g0, -, -, -, -⟩ := hg.raw.cells
 clear h hg hL hr hN hv hv'
 unfold ptrTo endFn at *
 go_enter Tryz.func21, Tryz.ntmps21
 go_wp2_with fail
 refine hof.out.mono ?_
 rintro e w1 ⟨v1, c1, d1, o1, rfl, hm1, he1, hx1, hy1⟩
 have hh := Lib.hid (And.intro hm1 (And.intro he1 (And.intro hx1 hy1)))
 clear hm1 he1 hx1 hy1 hof
 go_wp2
 go_ret2
 exact ⟨v1, c1, d1, o1, rfl, hh.out.1, hh.out.2.1, hh.out.2.2.1, hh.out.2.2.2⟩
set_option maxRecDepth 100000 in
set_option maxHeartbeats 2000000 in
theorem graphIn_in (HW : WriteSaid) (h : PoolAt w pb db n o d L) (hg : GraphAt w o gb pb gen N ob ib vb) {es : List Edg} {fl : Bool} (hL : mget L (sName 114 gen) = some (edgeFile es fl)) (hr : Rise true es) (hN : es.length < 65536) (hv : v < N) (hv' : v < 4294967296) :
 Calls Tryz.prog 22 #[ptrTo gb, .int .u32 (v : Int)] w (OfPost n pb db w o d L (ofL true v es)) := by
 have hof := Lib.hid (of_any HW h hg.inn hg.oib hg.raw hL hr hN hv hv')
 obtain ⟨-, g1, -, -, -⟩ := hg.raw.cells
 clear h hg hL hr hN hv hv'
 unfold ptrTo endFn at *
 go_enter Tryz.func22, Tryz.ntmps22
 go_wp2_with fail
 refine hof.out.mono ?_
 rintro e w1 ⟨v1, c1, d1, o1, rfl, hm1, he1, hx1, hy1⟩
 have hh := Lib.hid (And.intro hm1 (And.intro he1 (And.intro hx1 hy1)))
 clear hm1 he1 hx1 hy1 hof
 go_wp2
 go_ret2
 exact ⟨v1, c1, d1, o1, rfl, hh.out.1, hh.out.2.1, hh.out.2.2.1, hh.out.2.2.2⟩
set_option maxRecDepth 100000 in
set_option maxHeartbeats 2000000 in
theorem graphEdges_any (HW : WriteSaid) (h : PoolAt w pb db n o d L) (hg : GraphAt w o gb pb gen N ob ib vb) {es : List Edg} {fl : Bool} (hL : mget L (sName 101 gen) = some (edgeFile es fl)) :
 Calls Tryz.prog 23 #[ptrTo gb] w (Stays n pb db w o d L (numIs es.length)) := by
 have hlen : Hid (Calls Tryz.prog 30 #[ptrTo ob] w (Stays n pb db w o d L (numIs es.length))) := Lib.hid (by
  have := streamLen_any HW h hg.out hg.oob (by decide) (by decide) hL (sized_edges es)
  rw [List.length_map] at this
  exact this)
 obtain ⟨g0, -, -, -, -⟩ := hg.raw.cells
 clear h hg hL
 unfold ptrTo at *
 go_enter Tryz.func23, Tryz.ntmps23
 go_wp2_with fail
 refine hlen.out.mono ?_
 rintro e w1 ⟨c1, d1, o1, ⟨x, rfl, hx⟩, hm1, he1⟩
 have hh := Lib.hid (And.intro hm1 (And.intro he1 hx))
 clear hm1 he1 hx hlen
 go_wp2
 go_ret2
 exact ⟨c1, d1, o1, ⟨x, rfl, hh.out.2.2⟩, hh.out.1, hh.out.2.1⟩
end
end Go.Proofs.YtolieljpnafbhaaGreatDoor
namespace Go.Proofs.YtolieljpnafbhaaGreatDoor
open Go.RowKit
def BytesT (w : World) (base : Nat) (v : Value) (bs : List UInt8) : Prop :=
 (v = .slice none 0 0 ∧ bs = []) ∨
 ∃ g cap cur fz, v = .slice (some ⟨g, 0, none⟩) bs.length cap ∧ base ≤ g ∧ w.heap[g]? = some (.cells cur 5 fz) ∧ (fz.2 = 0 ∨ cur.size ≤ fz.1) ∧ bs.length ≤ cap ∧ cap ≤ maxLen ∧ cur.size = cap ∧ cur.toList.take bs.length = bs.map bv
theorem BytesT.nil (w : World) (base : Nat) : BytesT w base (.slice none 0 0) [] := .inl ⟨rfl, rfl⟩
theorem BytesT.of {w : World} {base : Nat} {v : Value} {bs : List UInt8} (h : w.ownsRow base 5 1 v bs.length (bs.map bv)) : BytesT w base v bs := by
 obtain ⟨h0, ⟨rfl, h1⟩ | ⟨g, cap, cur, rfl, h1, h2, h3, h4, h5, h6⟩⟩ := h
 ·exact .inl ⟨rfl, List.length_eq_zero_iff.1 h1⟩
 ·exact .inr ⟨g, cap, cur, (0, 0), rfl, h1, h2, .inl rfl, h3, h4, by omega, by rw [Nat.mul_one] at h6; exact h6⟩
theorem BytesT.base {w : World} {base base' : Nat} {v : Value} {bs : List UInt8} (h : BytesT w base v bs) (hb : base' ≤ base) : BytesT w base' v bs := by
 rcases h with h | ⟨g, cap, cur, fz, h1, h2, h3⟩
 ·exact .inl h
 ·exact .inr ⟨g, cap, cur, fz, h1, Nat.le_trans hb h2, h3⟩
theorem BytesT.lt {w : World} {base : Nat} {v : Value} {bs : List UInt8} (h : BytesT w base v bs) : ∀ k, v.ownBlock = some k → base ≤ k ∧ k < w.heap.size := by
 intro k hk
 rcases h with ⟨rfl, _⟩ | ⟨g, cap, cur, fz, rfl, h1, h2, _⟩
 ·cases hk
 ·cases hk
  exact ⟨h1, (Array.getElem?_eq_some_iff.1 h2).1⟩
theorem BytesT.kept {w w' : World} {base : Nat} {v : Value} {bs : List UInt8} (h : BytesT w base v bs) (hk : ∀ k, v.ownBlock = some k → w'.heap[k]? = w.heap[k]?) : BytesT w' base v bs := by
 rcases h with h | ⟨g, cap, cur, fz, rfl, h1, h2, h3⟩
 ·exact .inl h
 ·exact .inr ⟨g, cap, cur, fz, rfl, h1, (hk g rfl).trans h2, h3⟩
theorem BytesT.cells {w : World} {base g cap n : Nat} {bs : List UInt8} (h : BytesT w base (.slice (some ⟨g, 0, none⟩) n cap) bs) {j : Nat} (hj : j < bs.length) : w.cell? ⟨g, j, none⟩ = some (bv bs[j]) := by
 rcases h with ⟨h, _⟩ | ⟨g', cap', cur, fz, h, h1, h2, h3, h4, h5, h6, h7⟩
 ·cases h
 ·cases h
  rw [cell_of_row w g j cur _ fz h2]
  have : (cur.toList.take bs.length)[j]? = (bs.map bv)[j]? := by rw [h7]
  rw [List.getElem?_take, if_pos hj, List.getElem?_map, List.getElem?_eq_getElem hj] at this
  simpa using this
theorem BytesT.rd {w : World} {base : Nat} {v : Value} {bs : List UInt8} (h : BytesT w base v bs) : Rd w v bs := by
 rcases h with ⟨rfl, rfl⟩ | ⟨g, cap, cur, fz, rfl, h1, h2, h3, h4, h5, h6, h7⟩
 ·exact ⟨none, 0, rfl, Nat.le_refl _, Nat.zero_le _, .inl rfl⟩
 ·refine ⟨some ⟨g, 0, none⟩, cap, rfl, h4, h5, .inr ⟨g, 0, rfl, fun j hj => ?_⟩⟩
  rw [Nat.zero_add]
  exact BytesT.cells (.inr ⟨g, cap, cur, fz, rfl, h1, h2, h3, h4, h5, h6, h7⟩) hj
theorem run_append_byteT {w : World} (base ty : Nat) (v : Value) (bs : List UInt8) (h : BytesT w base v bs) (b c : Nat) (y : UInt8) (hb : w.cell? ⟨b, 0, none⟩ = some (bv y)) (hl : bs.length ≤ 100000) (hbase : base ≤ w.heap.size) :
 ∃ v' w', (Builtin.append_ #[57, 57] ty #[v, .slice (some ⟨b, 0, none⟩) 1 c]).run Tryz.prog w = .ok v' w' ∧ BytesT w' base v' (bs ++ [y]) ∧ w.grownBy w' v.ownBlock ∧ (v'.ownBlock = v.ownBlock ∨ v'.ownBlock = some w.heap.size) := by
 obtain ⟨i0, hi, hz0, hz1, hz2⟩ := info_parts info_u8
 have hnews : ∀ (j : Nat) (u : Value), [bv y][j]? = some u → w.cell? ((⟨b, 0, none⟩ : Addr).add j) = some u := by
  intro j u hj
  rw [Addr_add, Nat.zero_add]
  match j, hj with
  | 0, hj => cases hj; exact hb
  | j + 1, hj => cases hj
 have hold : ∀ g n cap, v = .slice (some ⟨g, 0, none⟩) n cap → ∀ (j : Nat) (u : Value), (bs.map bv)[j]? = some u → w.cell? ((⟨g, 0, none⟩ : Addr).add j) = some u := by
  rintro g n cap rfl j u hj
  rw [Addr_add, Nat.zero_add]
  have hjl : j < bs.length := by have := lt_of_get hj; rwa [List.length_map] at this
  rw [List.getElem?_map, List.getElem?_eq_getElem hjl] at hj
  rw [h.cells hjl]
  simpa using hj
 rcases h with ⟨rfl, rfl⟩ | ⟨g, cap, cur, fz, rfl, h1, h2, h3, h4, h5, h6, h7⟩
 ·obtain ⟨v', w', r1, r2, r3, -, r5⟩ := run_append_own_at (P := Tryz.prog) w base 57 ty 5 i0 (.int .u8 0) 1 1 Tryz.underlying57 hi hz0 hz1 hz2 rfl (by decide) (.slice none 0 0) 0 [] (World.ownsRow_nil _ _ _ _) ⟨b, 0, none⟩ 1 c [bv y] rfl hnews (by simp [bv_oneCell]) (by unfold maxLen; omega) (by omega) hbase
  exact ⟨v', w', r1, BytesT.of r2, r3, r5⟩
 ·have hgl : g < w.heap.size := (Array.getElem?_eq_some_iff.1 h2).1
  by_cases hroom : bs.length + 1 ≤ cap
  ·have hf := run_firstCells_some (P := Tryz.prog) w 1 1 ⟨b, 0, none⟩ 1 c [bv y] rfl hnews
   have hcell : w.cell? ⟨g, bs.length, none⟩ = some cur[bs.length] := by
    rw [cell_of_row w g bs.length cur _ fz h2]
    exact Array.getElem?_eq_getElem _
   have hfro : w.frozen? ⟨g, bs.length, none⟩ = false := by
    obtain ⟨lo, hi'⟩ := fz
    simp only [World.frozen?, h2, Bool.and_eq_false_iff, decide_eq_false_iff_not]
    simp only at h3
    omega
   have hst : (storeCells ⟨g, bs.length, none⟩ [bv y] 0).run Tryz.prog w = .ok () (w.setRow g (cur.setIfInBounds bs.length (bv y))) := by
    have hs : (store ⟨g, bs.length, none⟩ (bv y)).run Tryz.prog w = .ok () (w.setRow g (cur.setIfInBounds bs.length (bv y))) := by
     rw [run_store Tryz.prog w _ (bv y) _ (bv_oneCell y), hcell]
     simp [hfro, setCell_eq_setRow w g bs.length cur _ fz (bv y) h2]
    have hadd : (⟨g, bs.length, none⟩ : Addr).add 0 = ⟨g, bs.length, none⟩ := by rw [Addr_add, Nat.add_zero]
    simp only [storeCells, Sem.run_bind, hadd, hs, Result.andThen_ok, Sem.run_pure]
   have hlen : (bs ++ [y]).length = bs.length + 1 := by simp
   have hbl : bs.length < cur.toList.length := by have := Array.length_toList (xs := cur); omega
   refine ⟨.slice (some ⟨g, 0, none⟩) (bs.length + 1) cap, w.setRow g (cur.setIfInBounds bs.length (bv y)), ?_, .inr ⟨g, cap, cur.setIfInBounds bs.length (bv y), fz, by rw [hlen], h1, setRow_heap w g cur _ _ fz h2, by rw [Array.size_setIfInBounds]; exact h3, by omega, h5, by rw [Array.size_setIfInBounds]; exact h6, ?_⟩, ⟨rfl, rfl, rfl, by simp, fun k _ hk => setRow_other w g k _ (fun e => hk (by simp [Value.ownBlock, e]))⟩, .inl rfl⟩
   ·simp [Builtin.append_, run_underlying Tryz.underlying57, sizeOf, typeInfo, hi, hz1, Builtin.lenOf, hroom, hf, Addr_add, hst]
   ·rw [hlen, Array.toList_setIfInBounds, List.map_append, ← h7]
    rw [List.take_add_one, List.take_set_of_le (Nat.le_refl _), List.getElem?_set_self hbl]
    rfl
  ·have hr := run_append_grow (P := Tryz.prog) w 57 ty 5 i0 (.int .u8 0) Tryz.underlying57 hi hz0 ⟨g, 0, none⟩ bs.length cap (bs.map bv) (by rw [hz1]; simp) (hold g _ _ rfl) ⟨b, 0, none⟩ 1 c [bv y] (by rw [hz1]; rfl) hnews (by omega) (by omega) (growslice_fits (by omega) (by rw [hz2]; omega))
   have hge := grownCap_ge w (bs.length + 1) cap 5
   have hcm : grownCap w (bs.length + 1) cap 5 ≤ maxLen := grownCap_le_maxLen w (bs.length + 1) cap 5 (by unfold maxLen; omega)
   refine ⟨_, _, hr, .inr ⟨w.heap.size, _, _, (0, 0), ?_, hbase, heap_alloc_new w.drew _, .inl rfl, ?_, hcm, ?_, ?_⟩, ⟨rfl, rfl, rfl, by simp, fun k hk _ => (MapKept.heap_alloc w.drew _).2 k hk⟩, .inr rfl⟩
   ·simp
   ·simpa using hge
   ·simp only [Array.size_append, List.size_toArray, size_zeroCells, List.length_map, List.length_cons, List.length_nil]
    have hz : (Value.int IntKind.u8 0).cells.size = 1 := rfl
    rw [hz]
    omega
   ·simp only [Array.toList_append, List.append_assoc]
    rw [← List.append_assoc, show (bs ++ [y]).length = (bs.map bv ++ [bv y]).length by simp, List.take_left]
    simp
end Go.Proofs.YtolieljpnafbhaaGreatDoor
namespace Go.Proofs.YtolieljpnafbhaaGreatDoor
open Go.RowKit
section
variable {w : World} {ops : Array Oper} {rest : List Oper} {op : Oper} {a : Act} {Q : Exit → Act → World → Prop}
theorem wpList_append_byteT (hgd : op.guard = none) (s x : Operand) (ho : op.op = .call { callee := .builtin .append, args := #[s, x], argTypes := #[57, 57] }) (base : Nat) (v : Value) (bs : List UInt8) (hs : a.eval s = v) (h : BytesT w base v bs)
 (y : UInt8) (b c : Nat) (hx : a.eval x = .slice (some ⟨b, 0, none⟩) 1 c) (hb : w.cell? ⟨b, 0, none⟩ = some (bv y)) (hl : bs.length ≤ 100000) (hbase : base ≤ w.heap.size)
 (k : ∀ v' w', BytesT w' base v' (bs ++ [y]) → w.grownBy w' v.ownBlock → wpList Tryz.prog ops Q rest (a.put op.dst v') w') :
 wpList Tryz.prog ops Q (op :: rest) a w := by
 refine wpList_plain hgd fun K hK => ?_
 obtain ⟨v', w', g1, g2, g3, g4⟩ := run_append_byteT base op.type v bs h b c y hb hl hbase
 unfold Oper.wp execOp
 simp only [ho, resolve, invoke, builtin, Sem.run_bind, Sem.run_pure, Result.andThen_ok, List.map_toArray, List.map_cons, List.map_nil, hs, hx, g1]
 exact hK _ _ (k v' w' g2 g3)
theorem BytesT.alloc {base : Nat} {v : Value} {bs : List UInt8} (h : BytesT w base v bs) (ob : Obj) : BytesT (w.alloc ob) base v bs := h.kept (fun k hk => (MapKept.heap_alloc w _).2 k (h.lt k hk).2)
end
def NewBytesT (w : World) (bs : List UInt8) (e : Ending) (w' : World) : Prop :=
 ∃ v', e = .returned v' ∧ BytesT w' w.heap.size v' bs ∧ Below w.heap.size w w'
theorem bytesT_world (w : World) (s : ByteArray) (hs : s.size ≤ 100000) : BytesT (Lib.bytesWorld w 5 s) w.heap.size (.slice (some ⟨w.heap.size, 0, none⟩) s.size (grownCap w s.size 0 5)) s.data.toList := by
 have hlen : s.data.toList.length = s.size := by rw [Array.length_toList]; rfl
 have hge := grownCap_ge w s.size 0 5
 have hcm := grownCap_le_maxLen w s.size 0 5 (by unfold maxLen; omega)
 have hsz : (Lib.bytesCells w 5 s).size = grownCap w s.size 0 5 := by
  unfold Lib.bytesCells
  rw [Array.size_append, Array.size_map, Array.size_replicate]
  have : s.data.size = s.size := rfl
  omega
 have hh : (Lib.bytesWorld w 5 s).heap[w.heap.size]? = some (.cells (Lib.bytesCells w 5 s) 5 ((Lib.bytesCells w 5 s).size, (Lib.bytesCells w 5 s).size + 1)) := by
  unfold Lib.bytesWorld World.freeze
  rw [if_neg (by decide)]
  have h1 := heap_alloc_new w.drew (.cells (Lib.bytesCells w 5 s) 5)
  rw [World.size_drew] at h1
  dsimp only
  rw [Array.getElem?_modify, if_pos rfl, h1]
  simp
 refine .inr ⟨w.heap.size, _, _, _, by rw [hlen], Nat.le_refl _, hh, .inr (Nat.le_refl _), by omega, hcm, hsz, ?_⟩
 unfold Lib.bytesCells
 rw [Array.toList_append, List.take_append_of_le_length (by simp), Array.toList_map, List.take_of_length_le (by simp)]
 rfl
set_option maxRecDepth 100000 in
set_option maxHeartbeats 1000000 in
theorem copyBytes_any (v : Value) (bs : List UInt8) (w : World) (hv : Rd w v bs) (hl : bs.length ≤ 1000) :
 Calls Tryz.prog 126 #[v] w (NewBytesT w bs) := by
 obtain ⟨a, cap, rfl, hlc, hcm, hc⟩ := hv
 by_cases h0 : bs.length = 0
 ·have hb : bs = [] := List.length_eq_zero_iff.1 h0
  subst hb
  clear hc hlc hcm
  go_enter Tryz.func126, Tryz.ntmps126
  go_wp2
  go_ret
  exact ⟨_, rfl, BytesT.nil _ _, Below.refl _ _⟩
 ·obtain ⟨b, off, rfl, hcell⟩ := hc.resolve_left h0
  have hcv : Sem.run Tryz.prog (convert 57 9 (.slice (some ⟨b, off, none⟩) bs.length cap)) w = .ok (.string ⟨bs.toArray⟩) w :=
   run_convert_bytes_back (P := Tryz.prog) w 57 9 5 ⟨b, off, none⟩ cap bs Tryz.underlying57 Tryz.underlying5 Tryz.underlying9 (fun j hj => by
    rw [Addr_add]
    exact hcell j hj)
  have hcv2 := Lib.run_convert_string_bytes (P := Tryz.prog) w 9 57 5 ⟨bs.toArray⟩ Tryz.underlying9 Tryz.underlying57 Tryz.underlying5
  have h1 := Lib.hid (bytesT_world w ⟨bs.toArray⟩ (by show bs.toArray.size ≤ _; simp; omega))
  have hb := Lib.hid (Joins.below_bytesWorld w.heap.size w 5 ⟨bs.toArray⟩ (Nat.le_refl _))
  have h0' : ¬ (bs.length : Int) = 0 := by omega
  clear hcell hc hlc hcm
  go_enter Tryz.func126, Tryz.ntmps126
  go_wp2
  go_ret
  exact ⟨_, rfl, h1.out, hb.out⟩
set_option maxHeartbeats 1000000 in
theorem sized_4 (w : World) : Calls Tryz.prog 127 #[.int .i64 4] w fun e w' => e = .returned (.bool true) ∧ w = w' := by
 go_enter Tryz.func127, Tryz.ntmps127
 go_wp2
 go_ret
 exact ⟨rfl, rfl⟩
set_option maxHeartbeats 1000000 in
theorem sized_8 (w : World) : Calls Tryz.prog 127 #[.int .i64 8] w fun e w' => e = .returned (.bool true) ∧ w = w' := by
 go_enter Tryz.func127, Tryz.ntmps127
 go_wp2
 go_ret
 exact ⟨rfl, rfl⟩
theorem sized_any (size : Nat) (hs : size = 4 ∨ size = 8) (w : World) : Calls Tryz.prog 127 #[.int .i64 (size : Int)] w fun e w' => e = .returned (.bool true) ∧ w = w' := by
 rcases hs with rfl | rfl
 ·exact sized_4 w
 ·exact sized_8 w
set_option maxRecDepth 100000 in
set_option maxHeartbeats 2000000 in
theorem refPut_any (v : Value) (bs : List UInt8) (x size : Nat) (w : World) (hs : size = 4 ∨ size = 8) (hx : x < 18446744073709551616) (hv : Rd w v bs) (hl : bs.length ≤ 900) :
 Calls Tryz.prog 96 #[v, .int .u64 (x : Int), .int .i64 (size : Int)] w (NewBytesT w (bs ++ le x size)) := by
 have hcopy := Lib.hid (copyBytes_any v bs w hv (by omega))
 have hsz := Lib.hid (sized_any size hs)
 have hs8 : size ≤ 8 := by omega
 clear hv hs
 go_enter Tryz.func96, Tryz.ntmps96
 go_wp2_with fail
 refine hcopy.out.mono ?_
 rintro e w1 ⟨v1, rfl, hb1, hB1⟩
 have HB1 := Lib.hid hb1
 have HBe := Lib.hid hB1
 clear hb1 hB1 hcopy
 go_wp2
 go_loopw [1, 7, 8] (fun y out i wr => ∃ k : Nat, k ≤ size ∧ y = .int .u64 ((x / 256 ^ k : Nat) : Int) ∧ i = .int .i64 (k : Int) ∧ BytesT wr w.heap.size out (bs ++ le x k) ∧ Below w.heap.size w wr) (fun _ _ i _ => size - (intOf i).toNat)
 case atStart => exact ⟨0, Nat.zero_le _, by simp, rfl, by simpa [le] using HB1.out, HBe.out⟩
 case round =>
  obtain ⟨k, hk, rfl, rfl, hb2, hB2⟩ := hrel
  have HB2 := Lib.hid hb2
  have HBe2 := Lib.hid hB2
  clear hb2 hB2
  by_cases hlt : k < size
  ·have hz : x / 256 ^ k < 18446744073709551616 := Nat.lt_of_le_of_lt (Nat.div_le_self _ _) hx
   have hzn : x / 256 ^ (k + 1) = x / 256 ^ k / 256 := by rw [Nat.pow_succ, Nat.div_div_eq_div_mul]
   have HZ : Hid (le x (k + 1) = le x k ++ [UInt8.ofNat (x / 256 ^ k)]) := Lib.hid rfl
   have HZN := Lib.hid hzn
   have hlen : (bs ++ le x k).length ≤ 100000 := by rw [List.length_append, le_length]; omega
   have hsize : w.heap.size ≤ wr.heap.size := HBe2.out.size
   clear hzn
   generalize x / 256 ^ k = z at *
   go_wp2_with fail
   refine (hsz.out wr).mono ?_
   rintro e w' ⟨rfl, rfl⟩
   have hby : Hid (bv (UInt8.ofNat z) = .int .u8 ((z % 256 : Nat) : Int)) := Lib.hid (by unfold bv; simp)
   go_wp2_with (at_builtin; refine wpList_append_byteT rfl _ _ rfl w.heap.size _ _ rfl (HB2.out.alloc _) (UInt8.ofNat z) wr.heap.size 1 rfl ?c1 hlen ?c2 ?_)
   case c1 => rw [hby.out]; simp
   case c2 => simp; omega
   intro v4 w4 hb4 hg4
   have HB4 : Hid (BytesT w4 w.heap.size v4 (bs ++ le x (k + 1))) := Lib.hid (by rw [HZ.out, ← List.append_assoc]; simpa using hb4)
   have HBe4 : Hid (Below w.heap.size w w4) := Lib.hid ((HBe2.out.alloc hsize _).grown hg4 (by simp; omega) (fun k hk => (HB2.out.lt k hk).1))
   clear hb4 hg4
   go_wp2
   go_roundw
   case rel => exact ⟨k + 1, by omega, by rw [HZN.out]; rfl, by go_num, HB4.out, HBe4.out⟩
   case measure => simp [intOf]; omega
  ·go_wp2
   obtain rfl : k = size := by omega
   go_ret
   exact ⟨_, rfl, HB2.out, HBe2.out⟩
set_option maxRecDepth 100000 in
set_option maxHeartbeats 2000000 in
theorem refEdge_any (e : Edg) (w : World) : Calls Tryz.prog 61 #[.agg #[.int .u32 (e.t.toNat : Int), .int .u32 (e.h.toNat : Int), .int .u64 (e.x.toNat : Int), .int .u32 (e.m.toNat : Int)]] w (NewBytesT w e.bytes) := by
 have hput := Lib.hid refPut_any
 have h1 := e.t.toNat_lt
 have h2 := e.h.toNat_lt
 have h3 := e.x.toNat_lt
 have h4 := e.m.toNat_lt
 have HBY : Hid (e.bytes = le e.t.toNat 4 ++ le e.h.toNat 4 ++ le e.x.toNat 8 ++ le e.m.toNat 4) := Lib.hid rfl
 generalize e.bytes = bs at *
 generalize e.t.toNat = et at *
 generalize e.h.toNat = eh at *
 generalize e.x.toNat = ex at *
 generalize e.m.toNat = em at *
 go_enter Tryz.func61, Tryz.ntmps61
 have HB0 : Hid (Below w.heap.size w (w.alloc (.cells #[.int .u32 (et : Int), .int .u32 (eh : Int), .int .u64 (ex : Int), .int .u32 (em : Int)] 47))) := Lib.hid ((Below.refl _ _).alloc (Nat.le_refl _) _)
 have HX0 : Hid ((w.alloc (.cells #[.int .u32 (et : Int), .int .u32 (eh : Int), .int .u64 (ex : Int), .int .u32 (em : Int)] 47)).heap[w.heap.size]? = some (.cells #[.int .u32 (et : Int), .int .u32 (eh : Int), .int .u64 (ex : Int), .int .u32 (em : Int)] 47)) := Lib.hid (heap_alloc_new w _)
 have hr0 := Lib.hid (BytesT.nil (w.alloc (.cells #[.int .u32 (et : Int), .int .u32 (eh : Int), .int .u64 (ex : Int), .int .u32 (em : Int)] 47)) w.heap.size).rd
 go_wp2_with fail
 generalize w.alloc (.cells #[.int .u32 (et : Int), .int .u32 (eh : Int), .int .u64 (ex : Int), .int .u32 (em : Int)] 47) = w0 at *
 have cellsOf : Hid (∀ W, Below w0.heap.size w0 W → W.cell? ⟨w.heap.size, 0, none⟩ = some (.int .u32 (et : Int)) ∧ W.cell? ⟨w.heap.size, 1, none⟩ = some (.int .u32 (eh : Int)) ∧ W.cell? ⟨w.heap.size, 2, none⟩ = some (.int .u64 (ex : Int)) ∧ W.cell? ⟨w.heap.size, 3, none⟩ = some (.int .u32 (em : Int))) := Lib.hid (fun W hW => by
  have hx := (hW.block _ (lt_heap HX0.out)).trans HX0.out
  refine ⟨?_, ?_, ?_, ?_⟩ <;> rw [cells_cell hx] <;> rfl)
 refine (hput.out (.slice none 0 0) [] et 4 w0 (.inl rfl) (by omega) hr0.out (by decide)).mono ?_
 rintro e1 w1 ⟨v1, rfl, hb1, hB1⟩
 have HE1 := Lib.hid hB1
 have HR1 := Lib.hid hb1
 obtain ⟨-, k1, -, -⟩ := cellsOf.out w1 HE1.out
 clear hb1 hB1
 go_wp2_with fail
 refine (hput.out v1 (le et 4) eh 4 w1 (.inl rfl) (by omega) HR1.out.rd (by rw [le_length]; omega)).mono ?_
 rintro e2 w2 ⟨v2, rfl, hb2, hB2⟩
 have HE2 := Lib.hid (HE1.out.trans (hB2.mono HE1.out.size))
 have HR2 := Lib.hid hb2
 obtain ⟨-, -, k2, -⟩ := cellsOf.out w2 HE2.out
 clear hb2 hB2 k1
 go_wp2_with fail
 refine (hput.out v2 (le et 4 ++ le eh 4) ex 8 w2 (.inr rfl) (by omega) HR2.out.rd (by rw [List.length_append, le_length, le_length]; omega)).mono ?_
 rintro e3 w3 ⟨v3, rfl, hb3, hB3⟩
 have HE3 := Lib.hid (HE2.out.trans (hB3.mono HE2.out.size))
 have HR3 := Lib.hid hb3
 obtain ⟨-, -, -, k3⟩ := cellsOf.out w3 HE3.out
 clear hb3 hB3 k2
 go_wp2_with fail
 refine (hput.out v3 (le et 4 ++ le eh 4 ++ le ex 8) em 4 w3 (.inl rfl) (by omega) HR3.out.rd (by simp only [List.length_append, le_length]; omega)).mono ?_
 rintro e4 w4 ⟨v4, rfl, hb4, hB4⟩
 have HE4 := Lib.hid (HE3.out.trans (hB4.mono HE3.out.size))
 have HR4 : Hid (BytesT w4 w.heap.size v4 bs) := Lib.hid (by rw [HBY.out]; exact hb4.base (Nat.le_trans HB0.out.size HE3.out.size))
 clear hb4 hB4 k3
 go_wp2
 go_ret
 exact ⟨_, rfl, HR4.out, HB0.out.trans (HE4.out.mono HB0.out.size)⟩
end Go.Proofs.YtolieljpnafbhaaGreatDoor
namespace Go.Proofs.YtolieljpnafbhaaGreatDoor
open Go.RowKit Go.Maps
structure Held (w0 w : World) (pb db n : Nat) (o : Owner) (d : Dsk) (L : Logic) : Prop where
 pool : PoolAt w pb db n o d L
 new : ∀ x t, o x = some t → w0.heap.size ≤ x
 below : Below w0.heap.size w0 w
 armed : d.armed = 0
 dead : d.dead = false
 quota : d.quota = 131072
section
variable {S : Nat → Prop} {w0 w w' : World} {pb db n : Nat} {o o' : Owner} {d d' : Dsk} {L L' L'' : Logic}
theorem Held.moved (h : Held w0 w pb db n o d L) (hm : Moved S n pb db w o d w' o' d' L') (hs : ∀ x, S x → w0.heap.size ≤ x) : Held w0 w' pb db n o' d' L' := by
 have hz := h.below.size
 refine ⟨hm.pool, fun x t hx => ?_, ?_, (hm.on.calm h.armed).1, (hm.on.calm h.armed).2 h.dead, hm.on.quota.trans h.quota⟩
 ·rcases Nat.lt_or_ge x w.heap.size with hl | hg
  ·rw [hm.grow x hl] at hx
   exact h.new x t hx
  ·omega
 ·refine h.below.trans ⟨hm.turn.os, hm.turn.tape, hm.turn.output, hm.size, fun k hk => hm.turn.block k (by omega) ?_⟩
  rintro (⟨t, h1, h2⟩ | h1)
  ·have := h.new k t h1; omega
  ·have := hs k h1; omega
theorem Held.later (h : Held w0 w pb db n o d L) (hb : Below w.heap.size w w') : Held w0 w' pb db n o d L := ⟨h.pool.below hb, h.new, h.below.trans (hb.mono h.below.size), h.armed, h.dead, h.quota⟩
theorem Held.fine (h : Held w0 w pb db n o d L) (hm : Moved S n pb db w o d w' o' d' L') {B c : Nat} (he : c = 0 ∨ ErrN d d' B c) (hn : B ≤ 131072) : c = 0 := by
 refine he.elim id fun he => ?_
 rcases he with ⟨_, h1⟩ | ⟨_, h1⟩
 ·rw [h.quota] at h1; omega
 ·rw [(hm.on.calm h.armed).2 h.dead] at h1; cases h1
theorem Held.fine' (h : Held w0 w pb db n o d L) (hm : Moved S n pb db w o d w' o' d' L') {c : Nat} (he : c = 0 ∨ Err d d' L'' c) (hn : need L'' ≤ 131072) : c = 0 :=
 h.fine hm (he.imp id fun e => e.num hn) (Nat.le_refl _)
theorem sound_new (q n : Nat) : Sound (Dsk.new q) (List.replicate n Frm.none) [] := by
 have hb : ∀ fr ∈ List.replicate n Frm.none, fr = Frm.none := fun fr h => (List.mem_replicate.1 h).2
 refine ⟨by simp, by simp [Dsk.new], fun x => rfl, fun x h => by simp [mget] at h, fun x ps fl h => by simp [mget] at h, fun x f ls h => by simp [mget] at h, fun fr h hf => ?_, fun fr h _ => hb fr h, fun i j fi fj h1 h2 hf => ?_, fun x s h => by simp [Dsk.new] at h⟩
 ·rw [hb fr h] at hf; cases hf
 ·rw [hb fi (List.mem_of_getElem? h1)] at hf; cases hf
def RdE (w : World) (v : Value) (es : List Edg) : Prop :=
 ∃ a cap, v = .slice a es.length cap ∧ (es.length = 0 ∨ ∃ b off, a = some ⟨b, off, none⟩ ∧ ∀ (j : Nat) (x : Edg), es[j]? = some x → w.cell? ⟨b, off + j * 4, none⟩ = some (.int .u32 (x.t.toNat : Int)) ∧ w.cell? ⟨b, off + j * 4 + 1, none⟩ = some (.int .u32 (x.h.toNat : Int)) ∧ w.cell? ⟨b, off + j * 4 + 2, none⟩ = some (.int .u64 (x.x.toNat : Int)) ∧ w.cell? ⟨b, off + j * 4 + 3, none⟩ = some (.int .u32 (x.m.toNat : Int)))
theorem RdE.below {w w' : World} {v : Value} {es : List Edg} (h : RdE w v es) (hb : Below w.heap.size w w') : RdE w' v es := by
 obtain ⟨a, cap, rfl, h | ⟨b, off, rfl, hc⟩⟩ := h
 ·exact ⟨a, cap, rfl, .inl h⟩
 ·refine ⟨_, cap, rfl, .inr ⟨b, off, rfl, fun j x hx => ?_⟩⟩
  obtain ⟨h1, h2, h3, h4⟩ := hc j x hx
  exact ⟨cellBelow hb h1, cellBelow hb h2, cellBelow hb h3, cellBelow hb h4⟩
end
end Go.Proofs.YtolieljpnafbhaaGreatDoor
namespace Go.Proofs.YtolieljpnafbhaaGreatDoor
open Go.RowKit Go.Maps
structure Kept (q : Nat) (w0 w : World) (pb db n : Nat) (o : Owner) (d : Dsk) (L : Logic) : Prop where
 pool : PoolAt w pb db n o d L
 new : ∀ x t, o x = some t → w0.heap.size ≤ x
 below : Below w0.heap.size w0 w
 armed : d.armed = 0
 dead : d.dead = false
 quota : d.quota = q
section
variable {S : Nat → Prop} {q : Nat} {w0 w w' : World} {pb db n : Nat} {o o' : Owner} {d d' : Dsk} {L L' L'' : Logic}
theorem Kept.later (h : Kept q w0 w pb db n o d L) (hb : Below w.heap.size w w') : Kept q w0 w' pb db n o d L := ⟨h.pool.below hb, h.new, h.below.trans (hb.mono h.below.size), h.armed, h.dead, h.quota⟩
theorem Kept.count (h : Kept q w0 w pb db n o d L) : d.files.length = L.length := by
 obtain ⟨_, _, _, _, _, _, _, g⟩ := h.pool
 have hp : (d.files.map (·.1)).Perm (L.map (·.1)) := by
  rw [List.perm_ext_iff_of_nodup g.dkeys g.keys]
  intro x
  rw [mem_keys, mem_keys, g.names x]
 have := hp.length_eq
 simpa using this
end
end Go.Proofs.YtolieljpnafbhaaGreatDoor
namespace Go.Proofs.YtolieljpnafbhaaGreatDoor
open Go.RowKit Go.Maps
def nmX : Name := ⟨#[120]⟩
def RawL (es : List Edg) (L : Logic) : Prop := (∃ fl, mget L nmX = some (edgeFile es fl)) ∧ (∀ y, y ≠ nmX → mget L y = none) ∧ need L ≤ 4 * es.length
theorem only_mput {L : Logic} {nm : Name} {f : LFile} (h : ∀ y, y ≠ nm → mget L y = none) : mput L nm f = [(nm, f)] := by
 unfold mput
 have : mdel L nm = [] := by
  rw [List.eq_nil_iff_forall_not_mem]
  rintro ⟨y, g⟩ hy
  have h1 : y ∈ (mdel L nm).map (·.1) := List.mem_map.2 ⟨_, hy, rfl⟩
  rw [mem_keys, mget_mdel] at h1
  split at h1
  ·cases h1
  ·rename_i hne
   rw [h y (by first | exact hne | exact fun e => hne e.symm)] at h1
   cases h1
 rw [this]
theorem RawL.add {es : List Edg} {x : Edg} {L : Logic} (h : RawL es L) : RawL (es ++ [x]) (mput L nmX (edgeFile (es ++ [x]) false)) := by
 refine ⟨⟨false, by rw [mget_mput, if_pos rfl]⟩, fun y hy => by rw [only_mput h.2.1]; rw [← only_mput (L := []) (fun _ _ => rfl), mget_mput, if_neg hy]; rfl, ?_⟩
 rw [only_mput h.2.1, need_cons]
 have := edgeFile_need (es ++ [x]) false
 show _ + 0 ≤ _
 omega
def RawPost (w : World) (n : Nat) (es : List Edg) (e : Ending) (w' : World) : Prop :=
 ∃ db pb o d L, e = .returned (.tuple #[ptrTo db, ptrTo pb]) ∧ Held w w' pb db n o d L ∧ RawL es L
set_option maxRecDepth 100000 in
set_option maxHeartbeats 4000000 in
theorem raw_any (HW : WriteSaid) (n : Nat) (h1 : 1 ≤ n) (h2 : n ≤ 4096) (v : Value) (es : List Edg) (w : World) (hv : RdE w v es) (hl : es.length ≤ 10000) :
 Calls Tryz.prog 16 #[.int .i64 (n : Int), v] w (RawPost w n es) := by
 have hnd : Hid (Calls Tryz.prog 57 #[.int .i64 131072] w fun e w' => ∃ db o, e = .returned (.tuple #[ptrTo db, .int .i64 0]) ∧ DiskAt w' db o (Dsk.new 131072) ∧ Below w.heap.size w w' ∧ ∀ x t, o x = some t → w.heap.size ≤ x) := Lib.hid (newDisk_any 131072 (by decide) w)
 have hnp : Hid (∀ W db o, DiskAt W db o (Dsk.new 131072) → Calls Tryz.prog 58 #[ptrTo db, .int .i64 (n : Int)] W (NewPoolPost W db n o (Dsk.new 131072) [])) := Lib.hid (fun W db o h => newPool_any h n h1 h2 (sound_new _ n))
 have HV := Lib.hid hv
 obtain ⟨a, cap, rfl, -⟩ := hv
 unfold ptrTo at *
 go_enter Tryz.func16, Tryz.ntmps16
 go_wp2_with fail
 refine hnd.out.mono ?_
 rintro e w1 ⟨db, o1, rfl, hd1, hb1, hn1⟩
 have hcp := Lib.hid (hnp.out w1 db o1 hd1)
 have HB1 := Lib.hid hb1
 have HN1 := Lib.hid hn1
 clear hd1 hb1 hn1 hnd hnp
 unfold ptrTo at *
 go_wp2_with fail
 refine hcp.out.mono ?_
 rintro e w2 ⟨pb, o2, rfl, hp2, hb2, hg2, hpb⟩
 have HH2 : Hid (Held w w2 pb db n o2 (Dsk.new 131072) []) := Lib.hid ⟨hp2, fun x t hx => by
  rcases Nat.lt_or_ge x w1.heap.size with hl | hg
  ·rw [hg2 x hl] at hx; exact HN1.out x t hx
  ·exact Nat.le_trans HB1.out.size hg, HB1.out.trans (hb2.mono HB1.out.size), rfl, rfl, rfl⟩
 clear hp2 hb2 hg2 hpb hcp
 have hc0 : createCode (Dsk.new 131072) [] nmX = 0 := by decide
 have hcr := Lib.hid (create_pool HH2.out.pool nmX (by decide))
 unfold CreatePost at hcr
 rw [hc0] at hcr
 simp only [if_true] at hcr
 clear hc0
 have HOP : Hid (∀ W o' d' L', PoolAt W pb db n o' d' L' → d'.dead = false → RawL [] L' → Calls Tryz.prog 29 #[ptrTo pb, .string nmX, .int .i64 20] W (StreamOpenPost W pb nmX 20 0)) := Lib.hid (fun W o' d' L' hp hd hr => by
  have h3 := streamOpen_any (sz := 20) hp nmX (by decide) (by decide) (by decide)
  obtain ⟨fl, hfl⟩ := hr.1
  rw [pfOpen_paged hp hfl, hd] at h3
  exact h3)
 have HADD : Hid (∀ W o' d' L' sb rv (x : Edg) (k : Nat), PoolAt W pb db n o' d' L' → StreamAt W sb pb nmX 20 → o' sb = none → RawL (es.take k) L' → Rd W rv x.bytes → (∀ y, rv.ownBlock = some y → o' y = none) → Calls Tryz.prog 60 #[ptrTo sb, rv] W (LaidPost (fun _ => False) n pb db W o' d' L' (mput L' nmX (edgeFile (es.take k ++ [x]) false)))) := Lib.hid (fun W o' d' L' sb rv x k hp hst ho hr hrd hro => by
  obtain ⟨fl, hfl⟩ := hr.1
  have h3 := streamAdd_any HW hp hst ho (by decide) (by decide) hfl (sized_edges _) (by rw [List.length_map, List.length_take]; omega) hrd x.bytes_length hro
  unfold edgeFile
  rw [List.map_append]
  exact h3)
 have hraw0 : Hid (RawL [] (mput [] nmX (.inl (([] : List Pg), true)))) := Lib.hid ⟨⟨true, by rw [mget_mput, if_pos rfl]; rfl⟩, fun y hy => by rw [mget_mput, if_neg hy]; rfl, Nat.le_refl _⟩
 unfold ptrTo nmX at *
 go_wp2_with fail
 refine hcr.out.mono ?_
 rintro e w3 ⟨d3, o3, rfl, hm3, hx3, -⟩
 have HD3 := Lib.hid (hx3 trivial)
 have HH3 := Lib.hid (HH2.out.moved hm3 (fun _ h => h.elim))
 clear hm3 hx3 hcr
 have hop := Lib.hid (HOP.out w3 o3 d3 _ HH3.out.pool HD3.out hraw0.out)
 go_wp2_with fail
 refine hop.out.mono ?_
 rintro e w4 ⟨v4, rfl, hb4, hs4, -⟩
 obtain ⟨sb, rfl, hst4, hsb⟩ := hs4 rfl
 have HST4 := Lib.hid hst4
 have HOS4 : Hid (o3 sb = none) := Lib.hid (HH3.out.pool.fresh hsb)
 have HH4 := Lib.hid (HH3.out.later hb4)
 clear hs4 hst4 hsb hb4 hop
 unfold ptrTo at *
 obtain ⟨M, hM⟩ : ∃ M, M = es.length := ⟨_, rfl⟩
 rw [← hM] at hl
 have HV' := HV
 rw [← hM] at HV' ⊢
 have HME := Lib.hid hM
 clear hM HV
 go_wp2
 go_loopw [10] (fun i wr => ∃ (k : Nat) (d' : Dsk) (o' : Owner) (L' : Logic), k ≤ M ∧ i = .int .i64 (k : Int) ∧ Held w wr pb db n o' d' L' ∧ RawL (es.take k) L' ∧ StreamAt wr sb pb ⟨#[120]⟩ 20 ∧ o' sb = none) (fun i _ => M - (intOf i).toNat)
 case atStart => exact ⟨0, d3, o3, _, Nat.zero_le _, rfl, HH4.out, hraw0.out, HST4.out, HOS4.out⟩
 case round =>
  obtain ⟨k, d5, o5, L5, hk, rfl, hh5, hr5, hst5, hos5⟩ := hrel
  have HH5 := Lib.hid hh5
  have HR5 := Lib.hid hr5
  have HST5 := Lib.hid hst5
  have HOS5 := Lib.hid hos5
  clear hh5 hr5 hst5 hos5
  by_cases hlt : k < M
  ·have hkl : k < es.length := by rw [← HME.out]; exact hlt
   have hx : es[k]? = some es[k] := List.getElem?_eq_getElem hkl
   have HTK : Hid (es.take (k + 1) = es.take k ++ [es[k]]) := Lib.hid (List.take_succ_eq_append_getElem hkl)
   obtain ⟨a', cap', hve, hce⟩ := HV'.out
   obtain ⟨rfl, -, rfl⟩ : a = a' ∧ M = es.length ∧ cap = cap' := by simpa using hve
   obtain ⟨b, off, rfl, hcf⟩ := hce.resolve_left (by omega)
   obtain ⟨q0, q1, q2, q3⟩ := hcf k _ hx
   generalize es[k] = x at *
   clear hce hcf hve hx hkl
   have z0 := cellBelow HH5.out.below q0
   have z1 := cellBelow HH5.out.below q1
   have z2 := cellBelow HH5.out.below q2
   have z3 := cellBelow HH5.out.below q3
   clear q0 q1 q2 q3
   have hre := Lib.hid (refEdge_any x wr)
   go_wp2_with fail
   refine hre.out.mono ?_
   rintro e w6 ⟨v6, rfl, hb6, hB6⟩
   have hadd := Lib.hid (HADD.out w6 o5 d5 L5 sb v6 x k (HH5.out.pool.below hB6) (HST5.out.below hB6) HOS5.out HR5.out hb6.rd (fun y hy => HH5.out.pool.fresh (hb6.lt y hy).1))
   have HH6 := Lib.hid (HH5.out.later hB6)
   have HST6 := Lib.hid (HST5.out.below hB6)
   clear hb6 hB6 hre z0 z1 z2 z3
   go_wp2_with fail
   refine hadd.out.mono ?_
   rintro e w7 ⟨c7, d7, o7, rfl, hm7, he7⟩
   have hra := HR5.out.add (x := x)
   have hc7 : c7 = 0 := HH6.out.fine' hm7 he7 (by
    have := HR5.out.2.2
    rw [List.length_take] at this
    omega)
   subst hc7
   rw [if_pos rfl] at hm7
   rw [← HTK.out] at hra hm7
   have HH7 := Lib.hid (HH6.out.moved hm7 (fun _ h => h.elim))
   have HR7 := Lib.hid hra
   have HST7 := Lib.hid (HST6.out.moved hm7 HOS5.out (fun h => h))
   have HOS7 := Lib.hid (hm7.free HST6.out.lt HOS5.out)
   clear hm7 he7 hra hadd HH6 HST6
   go_wp2
   go_roundw
   case rel => exact ⟨k + 1, d7, o7, _, by omega, by go_num, HH7.out, HR7.out, HST7.out, HOS7.out⟩
   case measure => simp [intOf]; omega
  ·go_wp2
   go_returns
   have hkM : k = es.length := by rw [← HME.out]; omega
   exact ⟨db, pb, o5, d5, L5, rfl, HH5.out, by have := HR5.out; rwa [List.take_of_length_le (by omega)] at this⟩
end Go.Proofs.YtolieljpnafbhaaGreatDoor
namespace Go.Proofs
open Go.Shelf
def Tryz.sortStrs_ren : Go.Shelf.Ren := ⟨fun | 190 => 79 | 125 => 110 | 258 => 109 | 128 => 152 | 129 => 153 | 302 => 143 | 303 => 144 | 304 => 145 | 305 => 146 | 306 => 147 | 307 => 148 | 308 => 149 | 309 => 150 | 310 => 151 | 333 => 178 | 329 => 179 | 330 => 180 | 334 => 181 | 335 => 182 | 336 => 183 | 344 => 212 | n => n, fun | 31 => 63 | 9 => 9 | 3 => 3 | 46 => 61 | 0 => 0 | 51 => 23 | 53 => 45 | 4 => 4 | 183 => 216 | 182 => 215 | 131 => 188 | 5 => 5 | 218 => 240 | 222 => 244 | 228 => 269 | 229 => 82 | n => n, fun | n => n⟩
theorem Tryz.sortStrs : Go.Proofs.Lays.n190 Tryz.prog Tryz.sortStrs_ren := {
 mixed := by kernel_rfl
 f125 := Tryz.func110.trans (congrArg some (by kernel_rfl))
 f128 := Tryz.func152.trans (congrArg some (by kernel_rfl))
 f129 := Tryz.func153.trans (congrArg some (by kernel_rfl))
 f190 := Tryz.func79.trans (congrArg some (by kernel_rfl))
 f258 := Tryz.func109.trans (congrArg some (by kernel_rfl))
 f302 := Tryz.func143.trans (congrArg some (by kernel_rfl))
 f303 := Tryz.func144.trans (congrArg some (by kernel_rfl))
 f304 := Tryz.func145.trans (congrArg some (by kernel_rfl))
 f305 := Tryz.func146.trans (congrArg some (by kernel_rfl))
 f306 := Tryz.func147.trans (congrArg some (by kernel_rfl))
 f307 := Tryz.func148.trans (congrArg some (by kernel_rfl))
 f308 := Tryz.func149.trans (congrArg some (by kernel_rfl))
 f309 := Tryz.func150.trans (congrArg some (by kernel_rfl))
 f310 := Tryz.func151.trans (congrArg some (by kernel_rfl))
 f329 := Tryz.func179.trans (congrArg some (by kernel_rfl))
 f330 := Tryz.func180.trans (congrArg some (by kernel_rfl))
 f333 := Tryz.func178.trans (congrArg some (by kernel_rfl))
 f334 := Tryz.func181.trans (congrArg some (by kernel_rfl))
 f335 := Tryz.func182.trans (congrArg some (by kernel_rfl))
 f336 := Tryz.func183.trans (congrArg some (by kernel_rfl))
 f344 := Tryz.func212.trans (congrArg some (by kernel_rfl))
 t0 := Tryz.underlying0
 a0 := Tryz.isAgg0
 z0 := Tryz.sizeOf0
 v0 := Tryz.zeroValue0
 t3 := Tryz.underlying3
 a3 := Tryz.isAgg3
 z3 := Tryz.sizeOf3
 v3 := Tryz.zeroValue3
 t4 := Tryz.underlying4
 a4 := Tryz.isAgg4
 z4 := Tryz.sizeOf4
 v4 := Tryz.zeroValue4
 t5 := Tryz.underlying5
 a5 := Tryz.isAgg5
 z5 := Tryz.sizeOf5
 v5 := Tryz.zeroValue5
 t9 := Tryz.underlying9
 a9 := Tryz.isAgg9
 z9 := Tryz.sizeOf9
 v9 := Tryz.zeroValue9
 t31 := Tryz.underlying63
 a31 := Tryz.isAgg63
 z31 := Tryz.sizeOf63
 v31 := Tryz.zeroValue63
 t46 := Tryz.underlying61
 a46 := Tryz.isAgg61
 z46 := Tryz.sizeOf61
 v46 := Tryz.zeroValue61
 t51 := Tryz.underlying23
 a51 := Tryz.isAgg23
 z51 := Tryz.sizeOf23
 v51 := Tryz.zeroValue23
 t53 := Tryz.underlying45
 a53 := Tryz.isAgg45
 z53 := Tryz.sizeOf45
 v53 := Tryz.zeroValue45
 t131 := Tryz.underlying188
 a131 := Tryz.isAgg188
 z131 := Tryz.sizeOf188
 v131 := Tryz.zeroValue188
 t182 := Tryz.underlying215
 a182 := Tryz.isAgg215
 z182 := Tryz.sizeOf215
 v182 := Tryz.zeroValue215
 t183 := Tryz.underlying216
 a183 := Tryz.isAgg216
 z183 := Tryz.sizeOf216
 v183 := Tryz.zeroValue216
 t218 := Tryz.underlying240
 a218 := Tryz.isAgg240
 z218 := Tryz.sizeOf240
 v218 := Tryz.zeroValue240
 t222 := Tryz.underlying244
 a222 := Tryz.isAgg244
 z222 := Tryz.sizeOf244
 v222 := Tryz.zeroValue244
 t228 := Tryz.underlying269
 a228 := Tryz.isAgg269
 z228 := Tryz.sizeOf269
 v228 := Tryz.zeroValue269
 t229 := Tryz.underlying82
 a229 := Tryz.isAgg82
 z229 := Tryz.sizeOf82
 v229 := Tryz.zeroValue82 }
end Go.Proofs
namespace Go.Proofs.YtolieljpnafbhaaGreatDoor
open Go.RowKit Go.Maps Go.ChangeMaps
theorem encStr_name (l : List Name) : (l.map (fun x : Name => x.data.toList)).map Go.Proofs.encStr = l.map Value.string := by
 rw [List.map_map]
 congr 1
def SortStrPost (w : World) (base g len cap : Nat) (ns : List Name) (e : Ending) (w' : World) : Prop :=
 ∃ ts : List Name, e = .returned (.tuple #[]) ∧ ts.Perm ns ∧ w'.ownsRow base 9 1 (.slice (some ⟨g, 0, none⟩) len cap) len (ts.map Value.string) ∧ Turn (· = g) w w'
theorem names_of (l : List (List UInt8)) : (l.map fun b => (⟨b.toArray⟩ : Name)).map (fun x : Name => x.data.toList) = l := by
 rw [List.map_map]
 conv => rhs; rw [← List.map_id l]
 congr 1
theorem sortStrs_any {w : World} {base g len cap : Nat} {ns : List Name} (hl : ns.length = len) (hbig : len < 4611686018427387904) (hown : w.ownsRow base 9 1 (.slice (some ⟨g, 0, none⟩) len cap) len (ns.map Value.string)) :
 Calls Tryz.prog 79 #[.slice (some ⟨g, 0, none⟩) len cap] w (SortStrPost w base g len cap ns) := by
 obtain ⟨hlen, ⟨h0, _⟩ | ⟨g', cap', cur, hv, hg, hh, hn, hm, hcs, hx⟩⟩ := hown
 ·cases h0
 cases hv
 rw [Nat.mul_one] at hx
 have hH := holds_of_block Go.Proofs.encStr (ss := ns.map fun x : Name => x.data.toList) hh (by rw [encStr_name, List.length_map, hl]; exact hx)
 have hcon := Any.slices_Sort_string Tryz.sortStrs g 0 cap (ns.map fun x : Name => x.data.toList) w hH (Array.getElem?_eq_some_iff.1 hh).1 (by rw [List.length_map, hl]; exact hbig)
 rw [List.length_map, hl] at hcon
 refine hcon.mono ?_
 rintro e w' ⟨rfl, n, os, rfl⟩
 have hp : ((ns.map fun x : Name => x.data.toList).mergeSort fun x y => decide (x ≤ y)).Perm (ns.map fun x : Name => x.data.toList) := List.mergeSort_perm _ _
 generalize ((ns.map fun x : Name => x.data.toList).mergeSort fun x y => decide (x ≤ y)) = ts at *
 refine ⟨ts.map fun b => (⟨b.toArray⟩ : Name), rfl, ?_, ?_, turn_sorted Go.Proofs.encStr _⟩
 ·have h1 := hp.map (fun b => (⟨b.toArray⟩ : Name))
  rw [List.map_map] at h1
  have : ((fun b => (⟨b.toArray⟩ : Name)) ∘ fun x : Name => x.data.toList) = id := by
   funext x
   simp
  rw [this, List.map_id] at h1
  exact h1
 ·have h2 := ownsRow_sorted (base := base) (g := g) (cap := cap) (n := n) (e := 9) (os := os) Go.Proofs.encStr (ss := ns.map fun x : Name => x.data.toList) (ts := ts) hp.length_eq hg hh (by rw [List.length_map, hl]; exact hn) hm hcs
  rw [List.length_map, hl, ← names_of ts, encStr_name, names_of] at h2
  exact h2
def NamesPost (w : World) (d : Dsk) (e : Ending) (w' : World) : Prop :=
 ∃ (v : Value) (ns : List Name), e = .returned v ∧ ns.Perm (d.files.map (·.1)) ∧ w'.ownsRow (w.heap.size + 1) 9 1 v ns.length (ns.map Value.string) ∧ Below w.heap.size w w'
set_option maxRecDepth 100000 in
set_option maxHeartbeats 2000000 in
theorem names_any {w : World} {db : Nat} {o : Owner} {d : Dsk} (h : DiskAt w db o d) (hn : d.files.length ≤ 1000) :
 Calls Tryz.prog 33 #[ptrTo db] w (NamesPost w d) := by
 obtain ⟨mf, ml, l, h⟩ := h
 have HD := Lib.hid h
 have hstrip : d.files.map (·.1) = l.map (·.1) := by rw [← h.strip, List.map_map]; rfl
 have HN : Hid (l.length ≤ 1000) := Lib.hid (by rw [← h.strip, List.length_map] at hn; exact hn)
 unfold NamesPost
 rw [hstrip]
 obtain ⟨⟨hc0, hc1, hc2, hc3, hc4⟩, hf2, hf3, hf4⟩ := h.head.cells
 clear h hc1 hc2 hc3 hc4 hf2 hf3 hf4 hstrip hn
 unfold ptrTo
 go_enter Tryz.func33, Tryz.ntmps33
 go_wp2_with (at_range; refine wpList_rng _ rfl _ _ rfl 157 Tryz.underlying137 mf l rfl HD.out.files ?_; intro ob hi0)
 go_frame
 have hmf := HD.out.owned _ _ HD.out.omf
 go_loopw [3] (fun v wr => ∃ (todo : List (Name × (Nat × DFile))) (acc : List Name), wr.ownsRow (w.heap.size + 1) 9 1 v acc.length (acc.map Value.string) ∧ IterAt Tryz.prog 9 Value.string (fun x : Nat × DFile => ptrTo x.1) wr mf w.heap.size l todo ∧ Below w.heap.size w wr ∧ Hid ((acc ++ todo.map (·.1)).Perm (l.map (·.1)))) (fun _ wr => wr.rangeLeft mf w.heap.size)
 case atStart => exact ⟨_, [], ⟨rfl, .inl ⟨rfl, rfl⟩⟩, hi0, (Below.refl _ _).alloc (Nat.le_refl _) _, Lib.hid (List.Perm.refl _)⟩
 case round =>
  generalize u3 = v at *
  obtain ⟨todo, acc, hr, hi, hb, hk⟩ := hrel
  have HB := Lib.hid hb
  have HR := Lib.hid hr
  clear hb hr hi0
  go_wp2_with (at_next; refine wpList_nxt _ rfl _ rfl mf w.heap.size l todo rfl hi ?_ ?_)
  ·rintro rfl
   have HK : Hid (acc.Perm (l.map (·.1))) := Lib.hid (by simpa using hk.out)
   have HL : Hid (acc.length ≤ 1000) := Lib.hid (by
    have h1 := HK.out.length_eq
    have h2 := HN.out
    rw [List.length_map] at h1
    omega)
   clear hk hi
   obtain ⟨hlen, ⟨rfl, h0⟩ | ⟨g, cap, cur, rfl, hg, hh, hnc, hcm, hcs, hx⟩⟩ := HR.out
   ·have HC := Lib.hid (Any.slices_Sort_string_none Tryz.sortStrs none 0 wr)
    go_wp2_with fail
    refine HC.out.mono ?_
    rintro e w2 ⟨rfl, rfl⟩
    go_wp2
    go_ret
    exact ⟨_, acc, rfl, HK.out, HR.out, HB.out⟩
   ·have HC := Lib.hid (sortStrs_any rfl (by have := HL.out; omega) HR.out)
    clear hlen hh hcs hx
    go_wp2_with fail
    refine HC.out.mono ?_
    rintro e w2 ⟨ts, rfl, hp, hr2, ht⟩
    have HP2 := Lib.hid hp
    have HR2 := Lib.hid hr2
    have HT2 := Lib.hid ht
    clear hp hr2 ht HC
    go_wp2
    go_ret
    refine ⟨_, ts, rfl, HP2.out.trans HK.out, by rw [HP2.out.length_eq]; exact HR2.out, ?_⟩
    have h0 : Turn (fun x => w.heap.size ≤ x) w wr := Turn.ofBelow HB.out
    exact (h0.trans HT2.out (fun x hx e => by omega)).below (Nat.le_refl _) (fun _ h => h)
  ·intro nm pf f rs w1 ob1 hp hal hi1 hen
   have hb1 : Below w.heap.size w (setBlock w1 w.heap.size ob1) := by
    have : Turn (fun x => w.heap.size ≤ x) w (setBlock w1 w.heap.size ob1) := by
     have h0 : Turn (fun x => w.heap.size ≤ x) w wr := Turn.ofBelow HB.out
     rcases hal with rfl | rfl
     ·exact h0.setBlock _ _ (.inl (Nat.le_refl _))
     ·exact h0.drew.setBlock _ _ (.inl (Nat.le_refl _))
    exact this.below (Nat.le_refl _) (fun _ h => h)
   have hr1 : (setBlock w1 w.heap.size ob1).ownsRow (w.heap.size + 1) 9 1 v acc.length (acc.map Value.string) := by
    refine ownsRow_heap HR.out (fun x hx => ?_)
    have := ownsRow_block HR.out x hx
    have hne : x ≠ w.heap.size := by omega
    rcases hal with rfl | rfl
    ·exact heap_setBlock_none _ hne
    ·exact heap_setBlock_none _ hne
   have HP := Lib.hid hp
   have HI := Lib.hid hi
   have HR1 := Lib.hid hr1
   have HB1 := Lib.hid hb1
   have HLE : Hid (acc.length ≤ 1000 ∧ w.heap.size + 1 ≤ (setBlock w1 w.heap.size ob1).heap.size) := Lib.hid ⟨by
    have h1 := hk.out.length_eq
    have h2 := HN.out
    simp only [List.length_append, List.length_map] at h1
    omega, hi1.lt⟩
   clear hp hi hb1 hr1
   unfold ptrTo at hen
   generalize hW : setBlock w1 w.heap.size ob1 = W at hen HR1 HB1 hi1 HLE ⊢
   clear hW
   have HI1 := Lib.hid hi1
   clear hi1
   go_wp2_with (refine wpList_append_str rfl _ _ rfl (w.heap.size + 1) _ acc rfl HR1.out nm 1 rfl (by have := HLE.out; omega) HLE.out.2 (fun v2 w2 h2 ha => ?_))
   obtain ⟨⟨q1, q2, q3, q4, q5⟩, -⟩ := ha
   have hsz : (W.alloc (.cells #[.string nm] 9)).heap.size = W.heap.size + 1 := by simp
   have hlt := HLE.out.2
   have hblk : ∀ x, x ≤ w.heap.size → w2.heap[x]? = W.heap[x]? := fun x hx => by
    rw [q5 x (by rw [hsz]; omega) (fun e => by have := ownsRow_block HR1.out x (by first | exact e | exact e.symm); omega)]
    exact (MapKept.heap_alloc W _).2 _ (by omega)
   have hi2 : IterAt Tryz.prog 9 Value.string (fun x : Nat × DFile => ptrTo x.1) w2 mf w.heap.size l rs := HI1.out.kept (hblk _ (by omega)) (hblk _ (Nat.le_refl _))
   refine ⟨⟨rs, acc ++ [nm], h2, hi2, ?_, Lib.hid ?_⟩, ?_⟩
   ·refine HB1.out.trans ⟨by rw [q1]; rfl, by rw [q2]; rfl, by rw [q3]; rfl, by rw [hsz] at q4; omega, fun k hk => hblk k (by omega)⟩
   ·have h1 := (HP.out.map (·.1)).append_left acc
    simp only [List.map_cons] at h1
    rw [List.append_assoc]
    exact h1.symm.trans hk.out
   ·have e2 := HP.out.length_eq
    rw [List.length_cons] at e2
    rw [hi2.left, HI.out.left]
    omega
end Go.Proofs.YtolieljpnafbhaaGreatDoor
namespace Go.Proofs.YtolieljpnafbhaaGreatDoor
open Go.RowKit Go.Maps
theorem names_kept {q : Nat} {w0 w : World} {pb db n : Nat} {o : Owner} {d : Dsk} {L : Logic} (h : Kept q w0 w pb db n o d L) (hl : L.length ≤ 1000) :
 Calls Tryz.prog 33 #[ptrTo db] w fun e w' => ∃ a cap, e = .returned (.slice a L.length cap) ∧ Kept q w0 w' pb db n o d L := by
 have hc := h.count
 have hd : DiskAt w db o d := by
  obtain ⟨_, _, _, _, _, g, _, _⟩ := h.pool
  exact g.disk
 refine (names_any hd (by omega)).mono ?_
 rintro e w' ⟨v, ns, rfl, hp, hr, hb⟩
 have hlen : ns.length = L.length := by
  have := hp.length_eq
  rw [List.length_map] at this
  omega
 rw [hlen] at hr
 obtain ⟨a, cap, rfl⟩ := ownsRow_slice hr
 exact ⟨a, cap, rfl, h.later hb⟩
end Go.Proofs.YtolieljpnafbhaaGreatDoor
