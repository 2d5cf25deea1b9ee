/-
  Joined, in build order: Law13d, Law13e.
-/
import Derived.Test.YtolieljpnafbhaaGreatDoorG13
/-
  store: without a pool, without a graph.
-/
namespace Go.Proofs.YtolieljpnafbhaaGreatDoor
open Go.RowKit Go.Maps

set_option maxRecDepth 100000 in
set_option maxHeartbeats 1000000 in
theorem nilMake (g v : Value) (w : World) : Calls Tryz.prog 17 #[.pointer none, .string ⟨#[120]⟩, g, v] w fun e w' => e = .returned (.int .i64 2) ∧ Below w.heap.size w w' := by
  go_enter Tryz.func17, Tryz.ntmps17
  go_wp2
  go_ret
  exact ⟨rfl, Below.refl _ _⟩

set_option maxRecDepth 100000 in
set_option maxHeartbeats 1000000 in
theorem nilOpen (g : Value) (w : World) : Calls Tryz.prog 18 #[.pointer none, g] w fun e w' => e = .returned (.tuple #[.pointer none, .int .i64 2]) ∧ Below w.heap.size w w' := by
  go_enter Tryz.func18, Tryz.ntmps18
  go_wp2
  go_returns
  exact ⟨rfl, Below.refl _ _⟩

set_option maxRecDepth 100000 in
set_option maxHeartbeats 1000000 in
theorem nilOut (g : Value) (w : World) : Calls Tryz.prog 21 #[.pointer none, g] w fun e w' => e = .returned (.tuple #[.slice none 0 0, .int .i64 2]) ∧ Below w.heap.size w w' := by
  go_enter Tryz.func21, Tryz.ntmps21
  go_wp2
  go_returns
  exact ⟨rfl, Below.refl _ _⟩

set_option maxRecDepth 100000 in
set_option maxHeartbeats 1000000 in
theorem nilIn (g : Value) (w : World) : Calls Tryz.prog 22 #[.pointer none, g] w fun e w' => e = .returned (.tuple #[.slice none 0 0, .int .i64 2]) ∧ Below w.heap.size w w' := by
  go_enter Tryz.func22, Tryz.ntmps22
  go_wp2
  go_returns
  exact ⟨rfl, Below.refl _ _⟩

set_option maxRecDepth 100000 in
set_option maxHeartbeats 1000000 in
theorem nilVert (g : Value) (w : World) : Calls Tryz.prog 20 #[.pointer none, g] w fun e w' => e = .returned (.tuple #[.agg #[.int .u32 0, .int .u32 0, .int .u32 0], .int .i64 2]) ∧ Below w.heap.size w w' := by
  go_enter Tryz.func20, Tryz.ntmps20
  go_wp2
  go_returns
  exact ⟨rfl, (Below.refl _ _).alloc (Nat.le_refl _) _⟩

set_option maxRecDepth 100000 in
set_option maxHeartbeats 1000000 in
theorem nilEdges (w : World) : Calls Tryz.prog 23 #[.pointer none] w fun e w' => e = .returned (.tuple #[.int .i64 0, .int .i64 2]) ∧ Below w.heap.size w w' := by
  go_enter Tryz.func23, Tryz.ntmps23
  go_wp2
  go_returns
  exact ⟨rfl, Below.refl _ _⟩

set_option maxRecDepth 100000 in
set_option maxHeartbeats 1000000 in
theorem nilEdge (g : Value) (w : World) : Calls Tryz.prog 24 #[.pointer none, g] w fun e w' => e = .returned (.tuple #[.agg #[.int .u32 0, .int .u32 0, .int .u64 0, .int .u32 0], .int .i64 2]) ∧ Below w.heap.size w w' := by
  go_enter Tryz.func24, Tryz.ntmps24
  go_wp2
  go_returns
  exact ⟨rfl, (Below.refl _ _).alloc (Nat.le_refl _) _⟩

set_option maxRecDepth 100000 in
set_option maxHeartbeats 1000000 in
theorem nilSize (w : World) : Calls Tryz.prog 19 #[.pointer none] w fun e w' => e = .returned (.int .i64 0) ∧ Below w.heap.size w w' := by
  go_enter Tryz.func19, Tryz.ntmps19
  go_wp2
  go_ret
  exact ⟨rfl, Below.refl _ _⟩
end Go.Proofs.YtolieljpnafbhaaGreatDoor
/-
  milepostlaw13.StoreNil.
-/
namespace Go.Proofs.YtolieljpnafbhaaGreatDoor
open Go.RowKit Go.Maps

set_option maxRecDepth 100000 in
set_option maxHeartbeats 8000000 in
theorem storeNil_any (HW : WriteSaid) {m : Nat} (HJS : JobSortSaid m) (hm : 1 ≤ m) (v i g : Int) (w : World) :
    Calls Tryz.prog 4 #[.int .u32 v, .int .i64 i, .int .i64 g] w fun e w' => e = .returned (.bool true) ∧ Below w.heap.size w w' := by
  go_enter Tryz.func4, Tryz.ntmps4
  go_wp2_with fail
  refine (nilMake _ _ _).mono ?_
  rintro e w1 ⟨rfl, h1⟩
  have H1 := Lib.hid h1
  clear h1
  go_wp2_with fail
  refine (nilOpen _ _).mono ?_
  rintro e w2 ⟨rfl, h2⟩
  have H2 := Lib.hid (H1.out.trans (h2.mono H1.out.size))
  clear h2 H1
  go_wp2_with fail
  refine (nilOut _ _).mono ?_
  rintro e w3 ⟨rfl, h3⟩
  have H3 := Lib.hid (H2.out.trans (h3.mono H2.out.size))
  clear h3 H2
  go_wp2_with fail
  refine (nilIn _ _).mono ?_
  rintro e w4 ⟨rfl, h4⟩
  have H4 := Lib.hid (H3.out.trans (h4.mono H3.out.size))
  clear h4 H3
  go_wp2_with fail
  refine (nilVert _ _).mono ?_
  rintro e w5 ⟨rfl, h5⟩
  have H5 := Lib.hid (H4.out.trans (h5.mono H4.out.size))
  clear h5 H4
  have H5a : Hid (Below w.heap.size w (w5.alloc (.cells #[.int .u32 0, .int .u32 0, .int .u32 0] 36))) := Lib.hid (H5.out.alloc H5.out.size _)
  have HX5 : Hid ((w5.alloc (.cells #[.int .u32 0, .int .u32 0, .int .u32 0] 36)).heap[w5.heap.size]? = some (.cells #[.int .u32 0, .int .u32 0, .int .u32 0] 36)) := Lib.hid (heap_alloc_new w5 _)
  go_wp2_with fail
  generalize w5.alloc (.cells #[.int .u32 0, .int .u32 0, .int .u32 0] 36) = W5 at *
  refine (nilEdges _).mono ?_
  rintro e w6 ⟨rfl, h6⟩
  have H6 := Lib.hid (H5a.out.trans (h6.mono H5a.out.size))
  have HX6 := Lib.hid ((h6.block _ (lt_heap HX5.out)).trans HX5.out)
  clear h6 H5a HX5 H5
  go_wp2_with fail
  refine (nilEdge _ _).mono ?_
  rintro e w7 ⟨rfl, h7⟩
  have H7 := Lib.hid (H6.out.trans (h7.mono H6.out.size))
  have HX7 := Lib.hid ((h7.block _ (lt_heap HX6.out)).trans HX6.out)
  clear h7 H6 HX6
  generalize w5.heap.size = q5 at *
  have H7a : Hid (Below w.heap.size w (w7.alloc (.cells #[.int .u32 0, .int .u32 0, .int .u64 0, .int .u32 0] 47))) := Lib.hid (H7.out.alloc H7.out.size _)
  have HY7 : Hid ((w7.alloc (.cells #[.int .u32 0, .int .u32 0, .int .u64 0, .int .u32 0] 47)).heap[w7.heap.size]? = some (.cells #[.int .u32 0, .int .u32 0, .int .u64 0, .int .u32 0] 47)) := Lib.hid (heap_alloc_new w7 _)
  have HX7a : Hid ((w7.alloc (.cells #[.int .u32 0, .int .u32 0, .int .u64 0, .int .u32 0] 47)).heap[q5]? = some (.cells #[.int .u32 0, .int .u32 0, .int .u32 0] 36)) := Lib.hid (((MapKept.heap_alloc w7 _).2 _ (lt_heap HX7.out)).trans HX7.out)
  go_wp2_with fail
  generalize w7.alloc (.cells #[.int .u32 0, .int .u32 0, .int .u64 0, .int .u32 0] 47) = W8 at *
  generalize w7.heap.size = q7 at *
  clear H7 HX7
  refine (nilSize _).mono ?_
  rintro e w9 ⟨rfl, h9⟩
  have H9 := Lib.hid (H7a.out.trans (h9.mono H7a.out.size))
  have HX9 := Lib.hid ((h9.block _ (lt_heap HX7a.out)).trans HX7a.out)
  have HY9 := Lib.hid ((h9.block _ (lt_heap HY7.out)).trans HY7.out)
  clear h9 H7a HX7a HY7
  have q0 : w9.cell? ⟨q5, 0, none⟩ = some (.int .u32 0) := by rw [cells_cell HX9.out]; rfl
  have q1 : w9.cell? ⟨q5, 1, none⟩ = some (.int .u32 0) := by rw [cells_cell HX9.out]; rfl
  have q2 : w9.cell? ⟨q5, 2, none⟩ = some (.int .u32 0) := by rw [cells_cell HX9.out]; rfl
  have r0 : w9.cell? ⟨q7, 0, none⟩ = some (.int .u32 0) := by rw [cells_cell HY9.out]; rfl
  have r1 : w9.cell? ⟨q7, 1, none⟩ = some (.int .u32 0) := by rw [cells_cell HY9.out]; rfl
  have r2 : w9.cell? ⟨q7, 2, none⟩ = some (.int .u64 0) := by rw [cells_cell HY9.out]; rfl
  have r3 : w9.cell? ⟨q7, 3, none⟩ = some (.int .u32 0) := by rw [cells_cell HY9.out]; rfl
  clear HX9 HY9
  go_wp2_with fail
  refine (works13_any HW HJS hm _).mono ?_
  rintro e w10 ⟨rfl, h10⟩
  have H10 := Lib.hid (H9.out.trans (h10.mono H9.out.size))
  clear h10 q0 q1 q2 r0 r1 r2 r3
  go_wp2
  go_ret
  exact ⟨rfl, H10.out⟩
end Go.Proofs.YtolieljpnafbhaaGreatDoor
