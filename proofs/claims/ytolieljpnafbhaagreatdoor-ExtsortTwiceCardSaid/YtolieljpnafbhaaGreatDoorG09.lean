/-
  Joined, in build order: Compare, Names, Ext1, Ext2, ShelfStrs, Ext3, ShelfEdges, SortE.
-/
import Derived.Test.YtolieljpnafbhaaGreatDoorG08
import Derived.Deep.AppendSrc
import Derived.Shelf.Strconv.Itoa3
import Derived.Shelf.Strings.Prefix
import Derived.Shelf.SlicesE.Delete
import Derived.Ground.NamesProg
import Derived.Ground.SlgnProg
import Derived.Shelf.SlGeneric
import Derived.Test.YtolieljpnafbhaaGreatDoorProg
import Derived.Shelf.SlSortCmp.NoneTotal
import Derived.Ground.SlsfProg
/-
  extsort: the order of edges.
-/
namespace Go.Proofs.YtolieljpnafbhaaGreatDoor
open Go.RowKit

/-- The end that counts first, and the other one. -/
def end1 (b : Bool) (e : Edg) : Nat := if b then e.h.toNat else e.t.toNat
def end2 (b : Bool) (e : Edg) : Nat := if b then e.t.toNat else e.h.toNat

theorem pk_ends (b : Bool) (e : Edg) : pk b e = end1 b e * 4294967296 + end2 b e ∧ end1 b e < 4294967296 ∧ end2 b e < 4294967296 := by
  have h1 := e.t.toNat_lt
  have h2 := e.h.toNat_lt
  unfold pk end1 end2
  cases b
  · exact ⟨rfl, h1, h2⟩
  · exact ⟨rfl, h2, h1⟩

def byNum (b : Bool) : Nat := if b then 1 else 0

/-- A sort's own memory. -/
def firstFn (byb : Nat) : Value := .func (.func 71) #[] #[.pointer (some ⟨byb, 0, none⟩)]

structure JobAt (w : World) (jb pb byb made : Nat) (b : Bool) : Prop where
  head : ∃ t, w.heap[jb]? = some (.cells #[ptrTo pb, firstFn byb, .int .i64 (made : Int)] t)
  by' : ∃ t, w.heap[byb]? = some (.cells #[.int .i64 (byNum b : Int)] t)

theorem JobAt.cells {w : World} {jb pb byb made : Nat} {b : Bool} (h : JobAt w jb pb byb made b) :
    w.cell? ⟨jb, 0, none⟩ = some (ptrTo pb) ∧ w.cell? ⟨jb, 1, none⟩ = some (firstFn byb) ∧ w.cell? ⟨jb, 2, none⟩ = some (.int .i64 (made : Int)) ∧ w.cell? ⟨byb, 0, none⟩ = some (.int .i64 (byNum b : Int)) ∧ w.frozen? ⟨jb, 2, none⟩ = false := by
  obtain ⟨⟨t, h1⟩, ⟨t', h2⟩⟩ := h
  refine ⟨?_, ?_, ?_, ?_, cells_frozen h1 _⟩
  · rw [cells_cell h1]; rfl
  · rw [cells_cell h1]; rfl
  · rw [cells_cell h1]; rfl
  · rw [cells_cell h2]; rfl

theorem JobAt.kept {w w' : World} {jb pb byb made : Nat} {b : Bool} (h : JobAt w jb pb byb made b) (h1 : w'.heap[jb]? = w.heap[jb]?) (h2 : w'.heap[byb]? = w.heap[byb]?) : JobAt w' jb pb byb made b := by
  obtain ⟨⟨t, g1⟩, ⟨t', g2⟩⟩ := h
  exact ⟨⟨t, h1.trans g1⟩, ⟨t', h2.trans g2⟩⟩

theorem JobAt.lt {w : World} {jb pb byb made : Nat} {b : Bool} (h : JobAt w jb pb byb made b) : jb < w.heap.size ∧ byb < w.heap.size := by
  obtain ⟨⟨t, g1⟩, ⟨t', g2⟩⟩ := h
  exact ⟨(Array.getElem?_eq_some_iff.1 g1).1, (Array.getElem?_eq_some_iff.1 g2).1⟩

theorem JobAt.below {w w' : World} {jb pb byb made : Nat} {b : Bool} (h : JobAt w jb pb byb made b) (hb : Below w.heap.size w w') : JobAt w' jb pb byb made b := h.kept (hb.block _ h.lt.1) (hb.block _ h.lt.2)

set_option maxRecDepth 100000 in
set_option maxHeartbeats 1000000 in
theorem ends_any (b : Bool) (x : Edg) (byb : Nat) (w : World) (hc : w.cell? ⟨byb, 0, none⟩ = some (.int .i64 (byNum b : Int))) :
    Calls Tryz.prog 71 #[.agg #[.int .u32 (x.t.toNat : Int), .int .u32 (x.h.toNat : Int), .int .u64 (x.x.toNat : Int), .int .u32 (x.m.toNat : Int)], .pointer (some ⟨byb, 0, none⟩)] w
      fun e w' => e = .returned (.tuple #[.int .u32 (end1 b x : Int), .int .u32 (end2 b x : Int)]) ∧ Grew w w' := by
  have hlt := World.block_lt_of_cell? _ _ hc
  dsimp only at hlt
  unfold end1 end2
  cases b with
  | false =>
    have hc' : w.cell? ⟨byb, 0, none⟩ = some (.int .i64 0) := hc
    clear hc
    go_enter Tryz.func71, Tryz.ntmps71
    go_wp2
    go_quiet (fail)
    go_wp2
    go_ret2
    exact ⟨rfl, ((Grew.refl w).alloc _).drewN _⟩
  | true =>
    have hc' : w.cell? ⟨byb, 0, none⟩ = some (.int .i64 1) := hc
    clear hc
    go_enter Tryz.func71, Tryz.ntmps71
    go_wp2
    go_quiet (fail)
    go_wp2
    go_ret2
    exact ⟨rfl, ((Grew.refl w).alloc _).drewN _⟩

set_option maxHeartbeats 1000000 in
theorem order_any (b : Bool) (w : World) : Calls Tryz.prog 175 #[.bool b] w fun e w' => e = .returned (.int .i64 (if b = true then -1 else 1)) ∧ w = w' := by
  cases b
  · go_enter Tryz.func175, Tryz.ntmps175
    go_wp2
    go_ret
    exact ⟨rfl, rfl⟩
  · go_enter Tryz.func175, Tryz.ntmps175
    go_wp2
    go_ret
    exact ⟨rfl, rfl⟩

set_option maxRecDepth 100000 in
set_option maxHeartbeats 4000000 in
theorem compare_any {w : World} {jb pb byb made : Nat} {b : Bool} (h : JobAt w jb pb byb made b) (x y : Edg) :
    Calls Tryz.prog 139 #[ptrTo jb, .agg #[.int .u32 (x.t.toNat : Int), .int .u32 (x.h.toNat : Int), .int .u64 (x.x.toNat : Int), .int .u32 (x.m.toNat : Int)], .agg #[.int .u32 (y.t.toNat : Int), .int .u32 (y.h.toNat : Int), .int .u64 (y.x.toNat : Int), .int .u32 (y.m.toNat : Int)]] w
      fun e w' => e = .returned (.int .i64 (cmpE b x y)) ∧ Grew w w' := by
  have H := Lib.hid h
  have hx := Lib.hid (fun W hW => ends_any b x byb W hW)
  have hy := Lib.hid (fun W hW => ends_any b y byb W hW)
  have hbxy := Lib.hid (fun W => better_any x y W)
  have hbyx := Lib.hid (fun W => better_any y x W)
  obtain ⟨px, px1, px2⟩ := pk_ends b x
  obtain ⟨py, py1, py2⟩ := pk_ends b y
  have hcmp : Hid (cmpE b x y = if end1 b x < end1 b y then -1 else if end1 b y < end1 b x then 1 else if end2 b x < end2 b y then -1 else if end2 b y < end2 b x then 1 else if betterB x y = true then -1 else if betterB y x = true then 1 else 0) := Lib.hid (by
    unfold cmpE betterB
    rw [px, py]
    simp only [decide_eq_true_eq]
    generalize end1 b x = a1 at *
    generalize end2 b x = a2 at *
    generalize end1 b y = b1 at *
    generalize end2 b y = b2 at *
    rcases Nat.lt_trichotomy a1 b1 with g | g | g
    · rw [if_pos (show a1 * 4294967296 + a2 < b1 * 4294967296 + b2 by omega), if_pos g]
    · subst g
      rcases Nat.lt_trichotomy a2 b2 with g | g | g
      · rw [if_pos (show a1 * 4294967296 + a2 < a1 * 4294967296 + b2 by omega), if_neg (Nat.lt_irrefl a1), if_neg (Nat.lt_irrefl a1), if_pos g]
      · subst g
        simp only [Nat.lt_irrefl, if_false]
      · rw [if_neg (show ¬ a1 * 4294967296 + a2 < a1 * 4294967296 + b2 by omega), if_pos (show a1 * 4294967296 + b2 < a1 * 4294967296 + a2 by omega), if_neg (Nat.lt_irrefl a1), if_neg (Nat.lt_irrefl a1), if_neg (show ¬ a2 < b2 by omega), if_pos g]
    · rw [if_neg (show ¬ a1 * 4294967296 + a2 < b1 * 4294967296 + b2 by omega), if_pos (show b1 * 4294967296 + b2 < a1 * 4294967296 + a2 by omega), if_neg (show ¬ a1 < b1 by omega), if_pos g])
  obtain ⟨hc0, hc1, hc2, hc3, -⟩ := h.cells
  obtain ⟨hjl, hbl⟩ := h.lt
  have HC1 := Lib.hid hc1
  have HC3 := Lib.hid hc3
  clear h px py hc0 hc1 hc2 hc3
  unfold ptrTo
  generalize cmpE b x y = R at *
  generalize end1 b x = a1 at *
  generalize end2 b x = a2 at *
  generalize end1 b y = b1 at *
  generalize end2 b y = b2 at *
  generalize betterB x y = q1 at *
  generalize betterB y x = q2 at *
  generalize x.t.toNat = xt at *
  generalize x.h.toNat = xh at *
  generalize x.x.toNat = xx at *
  generalize x.m.toNat = xm at *
  generalize y.t.toNat = yt at *
  generalize y.h.toNat = yh at *
  generalize y.x.toNat = yx at *
  generalize y.m.toNat = ym at *
  go_enter Tryz.func139, Tryz.ntmps139
  have HG : Hid (Grew w ((w.alloc (.cells #[.int .u32 (xt : Int), .int .u32 (xh : Int), .int .u64 (xx : Int), .int .u32 (xm : Int)] 47)).alloc (.cells #[.int .u32 (yt : Int), .int .u32 (yh : Int), .int .u64 (yx : Int), .int .u32 (ym : Int)] 47))) := Lib.hid (((Grew.refl w).alloc _).alloc _)
  have KX : Hid (∀ j v, (#[Value.int .u32 (xt : Int), .int .u32 (xh : Int), .int .u64 (xx : Int), .int .u32 (xm : Int)] : Array Value)[j]? = some v → ((w.alloc (.cells #[.int .u32 (xt : Int), .int .u32 (xh : Int), .int .u64 (xx : Int), .int .u32 (xm : Int)] 47)).alloc (.cells #[.int .u32 (yt : Int), .int .u32 (yh : Int), .int .u64 (yx : Int), .int .u32 (ym : Int)] 47)).cell? ⟨w.heap.size, j, none⟩ = some v) := Lib.hid (fun j v hv => by simpa using hv)
  have KY : Hid (∀ j v, (#[Value.int .u32 (yt : Int), .int .u32 (yh : Int), .int .u64 (yx : Int), .int .u32 (ym : Int)] : Array Value)[j]? = some v → ((w.alloc (.cells #[.int .u32 (xt : Int), .int .u32 (xh : Int), .int .u64 (xx : Int), .int .u32 (xm : Int)] 47)).alloc (.cells #[.int .u32 (yt : Int), .int .u32 (yh : Int), .int .u64 (yx : Int), .int .u32 (ym : Int)] 47)).cell? ⟨w.heap.size + 1, j, none⟩ = some v) := Lib.hid (fun j v hv => by simpa using hv)
  go_wp2
  generalize ((w.alloc (.cells #[.int .u32 (xt : Int), .int .u32 (xh : Int), .int .u64 (xx : Int), .int .u32 (xm : Int)] 47)).alloc (.cells #[.int .u32 (yt : Int), .int .u32 (yh : Int), .int .u64 (yx : Int), .int .u32 (ym : Int)] 47)) = W at *
  have C1 : Hid (W.cell? ⟨jb, 1, none⟩ = some (firstFn byb)) := Lib.hid (HG.out.cell HC1.out)
  have C3 : Hid (W.cell? ⟨byb, 0, none⟩ = some (.int .i64 (byNum b : Int))) := Lib.hid (HG.out.cell HC3.out)
  refine wp_region_quiet_in (Grew W) (by kernel_rfl) (by kernel_rfl) (Grew.refl W).drew ?_
  iterate 3 (refine q_op rfl (fun w' hw' => (by go_simp <;> rfl)) (fun K hK => ?_); go_simp; refine hK _ ?_; clear hK K)
  refine q_op rfl (fun w' hw' => (by have hc := hw'.cell C1.out; unfold firstFn at hc; go_simp <;> rfl)) (fun K hK => ?_); go_simp; refine hK _ ?_; clear hK K
  refine q_op rfl (fun w' hw' => (by have e0 := hw'.cell (KX.out 0 _ rfl); have e1 := hw'.cell (KX.out 1 _ rfl); have e2 := hw'.cell (KX.out 2 _ rfl); have e3 := hw'.cell (KX.out 3 _ rfl); go_simp <;> rfl)) (fun K hK => ?_); go_simp; refine hK _ ?_; clear hK K
  refine q_call rfl (fun w' hw' => (by go_simp <;> rfl)) (fun w' hw' => ((hx.out w' (hw'.cell C3.out)).mono (fun e w'' h => ⟨h.1, hw'.trans h.2⟩))) (fun K hK => ?_); go_simp; refine hK _ ?_; clear hK K
  iterate 5 (refine q_op rfl (fun w' hw' => (by go_simp <;> rfl)) (fun K hK => ?_); go_simp; refine hK _ ?_; clear hK K)
  refine wpQuiet_nil ?_
  intro W1 hW1
  have HW1 := Lib.hid hW1
  clear hW1
  go_wp2
  refine wp_region_quiet_in (Grew W1) (by kernel_rfl) (by kernel_rfl) (Grew.refl W1).drew ?_
  iterate 3 (refine q_op rfl (fun w' hw' => (by go_simp <;> rfl)) (fun K hK => ?_); go_simp; refine hK _ ?_; clear hK K)
  refine q_op rfl (fun w' hw' => (by have hc := hw'.cell (HW1.out.cell C1.out); unfold firstFn at hc; go_simp <;> rfl)) (fun K hK => ?_); go_simp; refine hK _ ?_; clear hK K
  refine q_op rfl (fun w' hw' => (by have e0 := hw'.cell (HW1.out.cell (KY.out 0 _ rfl)); have e1 := hw'.cell (HW1.out.cell (KY.out 1 _ rfl)); have e2 := hw'.cell (HW1.out.cell (KY.out 2 _ rfl)); have e3 := hw'.cell (HW1.out.cell (KY.out 3 _ rfl)); go_simp <;> rfl)) (fun K hK => ?_); go_simp; refine hK _ ?_; clear hK K
  refine q_call rfl (fun w' hw' => (by go_simp <;> rfl)) (fun w' hw' => ((hy.out w' (hw'.cell (HW1.out.cell C3.out))).mono (fun e w'' h => ⟨h.1, hw'.trans h.2⟩))) (fun K hK => ?_); go_simp; refine hK _ ?_; clear hK K
  iterate 5 (refine q_op rfl (fun w' hw' => (by go_simp <;> rfl)) (fun K hK => ?_); go_simp; refine hK _ ?_; clear hK K)
  refine wpQuiet_nil ?_
  intro W2 hW2
  have HW2 := Lib.hid (HW1.out.trans hW2)
  have HG2 := Lib.hid (HG.out.trans HW2.out)
  clear hW2
  have e0 := HW2.out.cell (KX.out 0 _ rfl)
  have e1 := HW2.out.cell (KX.out 1 _ rfl)
  have e2 := HW2.out.cell (KX.out 2 _ rfl)
  have e3 := HW2.out.cell (KX.out 3 _ rfl)
  have f0 := HW2.out.cell (KY.out 0 _ rfl)
  have f1 := HW2.out.cell (KY.out 1 _ rfl)
  have f2 := HW2.out.cell (KY.out 2 _ rfl)
  have f3 := HW2.out.cell (KY.out 3 _ rfl)
  rcases Nat.lt_trichotomy a1 b1 with g | g | g
  · have g' : (a1 : Int) < (b1 : Int) := by omega
    have gn : ¬ (a1 : Int) = (b1 : Int) := by omega
    have hr : Hid (R = -1) := Lib.hid (by rw [hcmp.out, if_pos g])
    go_wp2_with fail
    refine (order_any _ _).mono ?_
    rintro e w' ⟨rfl, rfl⟩
    go_wp2
    go_ret
    exact ⟨by rw [hr.out]; rfl, HG2.out⟩
  · subst g
    rcases Nat.lt_trichotomy a2 b2 with g | g | g
    · have g' : (a2 : Int) < (b2 : Int) := by omega
      have gn : ¬ (a2 : Int) = (b2 : Int) := by omega
      have hr : Hid (R = -1) := Lib.hid (by rw [hcmp.out, if_neg (by omega), if_neg (by omega), if_pos g])
      go_wp2_with fail
      refine (order_any _ _).mono ?_
      rintro e w' ⟨rfl, rfl⟩
      go_wp2
      go_ret
      exact ⟨by rw [hr.out]; rfl, HG2.out⟩
    · subst g
      cases q1 with
      | true =>
        have hr : Hid (R = -1) := Lib.hid (by rw [hcmp.out, if_neg (by omega), if_neg (by omega), if_neg (by omega), if_neg (by omega), if_pos rfl])
        go_wp2_with fail
        refine (hbxy.out _).mono ?_
        rintro e w' ⟨rfl, hw⟩
        go_wp2
        go_ret
        exact ⟨by rw [hr.out]; rfl, HG2.out.trans hw⟩
      | false =>
        go_wp2_with fail
        refine (hbxy.out _).mono ?_
        rintro e W3 ⟨rfl, hw⟩
        have HW3 := Lib.hid hw
        have e0 := hw.cell e0
        have e1 := hw.cell e1
        have e2 := hw.cell e2
        have e3 := hw.cell e3
        have f0 := hw.cell f0
        have f1 := hw.cell f1
        have f2 := hw.cell f2
        have f3 := hw.cell f3
        clear hw
        cases q2 with
        | true =>
          have hr : Hid (R = 1) := Lib.hid (by rw [hcmp.out, if_neg (by omega), if_neg (by omega), if_neg (by omega), if_neg (by omega), if_neg (by decide), if_pos rfl])
          go_wp2_with fail
          refine (hbyx.out _).mono ?_
          rintro e w' ⟨rfl, hw⟩
          go_wp2
          go_ret
          exact ⟨by rw [hr.out]; rfl, (HG2.out.trans HW3.out).trans hw⟩
        | false =>
          have hr : Hid (R = 0) := Lib.hid (by rw [hcmp.out, if_neg (by omega), if_neg (by omega), if_neg (by omega), if_neg (by omega), if_neg (by decide), if_neg (by decide)])
          go_wp2_with fail
          refine (hbyx.out _).mono ?_
          rintro e w' ⟨rfl, hw⟩
          go_wp2
          go_ret
          exact ⟨by rw [hr.out]; rfl, (HG2.out.trans HW3.out).trans hw⟩
    · have g' : ¬ (a2 : Int) < (b2 : Int) := by omega
      have gn : ¬ (a2 : Int) = (b2 : Int) := by omega
      have hr : Hid (R = 1) := Lib.hid (by rw [hcmp.out, if_neg (by omega), if_neg (by omega), if_neg (by omega), if_pos g])
      go_wp2_with fail
      refine (order_any _ _).mono ?_
      rintro e w' ⟨rfl, rfl⟩
      go_wp2
      go_ret
      exact ⟨by rw [hr.out]; rfl, HG2.out⟩
  · have g' : ¬ (a1 : Int) < (b1 : Int) := by omega
    have gn : ¬ (a1 : Int) = (b1 : Int) := by omega
    have hr : Hid (R = 1) := Lib.hid (by rw [hcmp.out, if_neg (by omega), if_pos g])
    go_wp2_with fail
    refine (order_any _ _).mono ?_
    rintro e w' ⟨rfl, rfl⟩
    go_wp2
    go_ret
    exact ⟨by rw [hr.out]; rfl, HG2.out⟩

end Go.Proofs.YtolieljpnafbhaaGreatDoor
/-
  A row of names at any place of a block: the append that goes on behind a reslice.
-/
namespace Go.Proofs.YtolieljpnafbhaaGreatDoor
open Go.RowKit

theorem info_string : (Tryz.prog.info? 9).map (fun i => (i.zero, i.size, i.bytes)) = some (some (.string ByteArray.empty), 1, 16) := by kernel_rfl

/-- A row of names in memory, and room behind it as told by its capacity. -/
def NameRow (w : World) (v : Value) (ns : List Name) : Prop :=
  ∃ g off cap cur, v = .slice (some ⟨g, off, none⟩) ns.length cap ∧ w.heap[g]? = some (.cells cur 9 (0, 0)) ∧ off + cap ≤ cur.size ∧ cap ≤ maxLen ∧ ns.length ≤ cap ∧ ∀ j (h : j < ns.length), cur[off + j]? = some (.string ns[j])

section
variable {S : Nat → Prop} {w w' : World} {v : Value} {ns : List Name}

theorem NameRow.kept (h : NameRow w v ns) (hb : ∀ b, v.ownBlock = some b → w'.heap[b]? = w.heap[b]?) : NameRow w' v ns := by
  obtain ⟨g, off, cap, cur, rfl, hg, r⟩ := h
  exact ⟨g, off, cap, cur, rfl, (hb g rfl).trans hg, r⟩

theorem NameRow.lt (h : NameRow w v ns) : ∀ b, v.ownBlock = some b → b < w.heap.size := by
  obtain ⟨g, off, cap, cur, rfl, hg, r⟩ := h
  intro b hb
  cases hb
  exact (Array.getElem?_eq_some_iff.1 hg).1

theorem NameRow.below (h : NameRow w v ns) (hb : Below w.heap.size w w') : NameRow w' v ns := h.kept fun b hv => hb.block b (h.lt b hv)

theorem NameRow.turn (h : NameRow w v ns) (ht : Turn S w w') (hs : ∀ b, v.ownBlock = some b → ¬ S b) : NameRow w' v ns := h.kept fun b hv => ht.block b (h.lt b hv) (hs b hv)

theorem NameRow.cells {g off cap len : Nat} (h : NameRow w (.slice (some ⟨g, off, none⟩) len cap) ns) : len = ns.length ∧ len ≤ cap ∧ cap ≤ maxLen ∧ ∀ j (h : j < ns.length), w.cell? ⟨g, off + j, none⟩ = some (.string ns[j]) := by
  obtain ⟨g', off', cap', cur, he, hg, h1, h2, h3, h4⟩ := h
  cases he
  exact ⟨rfl, h3, h2, fun j hj => by rw [cells_cell hg]; exact h4 j hj⟩

theorem NameRow.shape (h : NameRow w v ns) : ∃ g off cap, v = .slice (some ⟨g, off, none⟩) ns.length cap := by
  obtain ⟨g, off, cap, cur, rfl, _⟩ := h
  exact ⟨g, off, cap, rfl⟩

theorem NameRow.ofOwn {base : Nat} (hr : w.ownsRow base 9 1 v ns.length (ns.map Value.string)) (hn : ns ≠ []) : NameRow w v ns := by
  obtain ⟨hl, ⟨h1, h2⟩ | ⟨g, cap, cur, rfl, hg, hh, hc, hm, hs, ht⟩⟩ := hr
  · exact absurd (List.eq_nil_of_length_eq_zero h2) hn
  · refine ⟨g, 0, cap, cur, rfl, hh, by omega, hm, hc, fun j hj => ?_⟩
    have h3 : (cur.toList.take (ns.length * 1))[j]? = (ns.map Value.string)[j]? := by rw [ht]
    rw [List.getElem?_take_of_lt (by omega)] at h3
    rw [Nat.zero_add, ← Array.getElem?_toList, h3, List.getElem?_map, List.getElem?_eq_getElem hj]
    rfl

/-- names[:n] -/
theorem NameRow.take {g off cap len : Nat} (h : NameRow w (.slice (some ⟨g, off, none⟩) len cap) ns) {n : Nat} (hn : n ≤ ns.length) : NameRow w (.slice (some ⟨g, off, none⟩) n cap) (ns.take n) := by
  obtain ⟨g', off', cap', cur, he, hg, h1, h2, h3, h4⟩ := h
  cases he
  have hl : (ns.take n).length = n := by rw [List.length_take]; omega
  refine ⟨g, off, cap, cur, by rw [hl], hg, h1, h2, by omega, fun j hj => ?_⟩
  rw [h4 j (by omega), List.getElem_take]

/-- names[n:], n below the capacity -/
theorem NameRow.drop {g off cap len : Nat} (h : NameRow w (.slice (some ⟨g, off, none⟩) len cap) ns) {n : Nat} (hn : n ≤ ns.length) : NameRow w (.slice (some ⟨g, off + n, none⟩) (len - n) (cap - n)) (ns.drop n) := by
  obtain ⟨g', off', cap', cur, he, hg, h1, h2, h3, h4⟩ := h
  cases he
  have hl : (ns.drop n).length = ns.length - n := List.length_drop ..
  refine ⟨g, off + n, cap - n, cur, by rw [hl], hg, by omega, by omega, by omega, fun j hj => ?_⟩
  rw [Nat.add_assoc, h4 (n + j) (by omega), List.getElem_drop]

/-- names[n:], n all there is room for: the old place, without room -/
theorem NameRow.dropAll {g off cap len : Nat} (h : NameRow w (.slice (some ⟨g, off, none⟩) len cap) ns) (hn : len = cap) : NameRow w (.slice (some ⟨g, off, none⟩) 0 0) [] := by
  obtain ⟨g', off', cap', cur, he, hg, h1, h2, h3, h4⟩ := h
  cases he
  exact ⟨g, off, 0, cur, rfl, hg, by omega, by unfold maxLen; omega, Nat.le_refl _, fun j hj => absurd hj (Nat.not_lt_zero _)⟩

def AppendedName (w : World) (v : Value) (ns : List Name) (x : Name) (v' : Value) (w' : World) : Prop :=
  NameRow w' v' (ns ++ [x]) ∧ Turn (fun b => v.ownBlock = some b) w w' ∧ (v'.ownBlock = v.ownBlock ∨ v'.ownBlock = some w.heap.size)

theorem run_append_name (t ty : TypeId) (ht : Tryz.prog.underlying t = some (.slice 9)) (h : NameRow w v ns) (x : Name) (a : Addr) (c : Nat) (hx : w.cell? a = some (.string x)) (hn : ns.length ≤ 100000) :
    ∃ v' w', (Builtin.append_ #[t, t] ty #[v, .slice (some a) 1 c]).run Tryz.prog w = .ok v' w' ∧ AppendedName w v ns x v' w' := by
  obtain ⟨i0, hi, hz0, hz1, hz2⟩ := info_parts info_string
  obtain ⟨g, off, cap, cur, rfl, hg, h1, h2, h3, h4⟩ := h
  have hnews : ∀ j u, [Value.string x][j]? = some u → w.cell? (a.add j) = some u := fun j u hj => by
    match j, hj with
    | 0, hj =>
      cases hj
      rw [show a.add 0 = a by unfold Addr.add; cases a with | mk b o s => cases s <;> simp]
      exact hx
  have hsrc : Src Tryz.prog i0.size t (.slice (some a) 1 c) 1 [Value.string x] w := Src.ofSlice w ht a 1 c _ (by rw [hz1]; rfl) hnews (by simp [Value.oneCell'])
  by_cases hroom : ns.length + 1 ≤ cap
  · have hfit : off + ns.length < cur.size := by omega
    have hr := run_append_room_src (P := Tryz.prog) (w := w) t t ty 9 i0 ht hi g off ns.length cap _ 1 [Value.string x] hsrc hroom (fun j hj => by
      have : j = 0 := by simpa using hj
      subst this
      rw [hz1, cells_cell hg, Nat.mul_one, Nat.add_zero, Array.getElem?_eq_getElem hfit]
      rfl) (fun j hj => cells_frozen hg _)
    refine ⟨_, _, hr, ⟨g, off, cap, cur.setIfInBounds (off + ns.length) (.string x), by rw [List.length_append]; rfl, ?_, by rw [Array.size_setIfInBounds]; exact h1, h2, by rw [List.length_append]; exact hroom, fun j hj => ?_⟩, ?_, .inl rfl⟩
    · show (w.setCell _ _).heap[g]? = _
      rw [hz1, Nat.mul_one]
      exact cells_set hg _ _
    · rw [Array.getElem?_setIfInBounds]
      by_cases e : j = ns.length
      · subst e
        rw [if_pos rfl, if_pos hfit]
        simp
      · rw [List.length_append, List.length_singleton] at hj
        rw [if_neg (by omega), h4 j (by omega), List.getElem_append_left (by omega)]
    · exact (Turn.refl _ w).setCell _ _ (.inl rfl)
  · have hcap : cap = ns.length := by omega
    have holds : ∀ j u, (ns.map Value.string)[j]? = some u → w.drew.cell? ((⟨g, off, none⟩ : Addr).add j) = some u := fun j u hj => by
      rw [List.getElem?_map] at hj
      by_cases hjl : j < ns.length
      · rw [List.getElem?_eq_getElem hjl] at hj
        cases hj
        show w.cell? _ = _
        rw [Addr_add, cells_cell hg]
        exact h4 j hjl
      · rw [List.getElem?_eq_none (by omega)] at hj
        cases hj
    have hfc := run_firstCells_some (P := Tryz.prog) w.drew i0.size ns.length ⟨g, off, none⟩ ns.length cap (ns.map Value.string) (by rw [hz1]; simp) holds
    have hr := run_append_grow_src (P := Tryz.prog) (w := w) t t ty 9 i0 (.string ByteArray.empty) ht hi hz0 (some ⟨g, off, none⟩) ns.length cap (ns.map Value.string) hfc _ 1 [Value.string x] hsrc (by omega) (by omega) (growslice_fits (by omega) (by rw [hz2]; omega))
    have hge := grownCap_ge w (ns.length + 1) cap 9
    have hle := grownCap_le_maxLen w (ns.length + 1) cap 9 (by unfold maxLen; omega)
    refine ⟨_, _, hr, ⟨w.heap.size, 0, grownCap w (ns.length + 1) cap 9, _, by rw [List.length_append]; rfl, heap_alloc_new w.drew _, ?_, hle, by rw [List.length_append]; exact hge, fun j hj => ?_⟩, (Turn.refl _ w).drew.alloc _, .inr rfl⟩
    · simp only [Array.size_append, List.size_toArray, List.length_append, List.length_map, List.length_singleton, size_zeroCells]
      show 0 + _ ≤ _ + _ * 1
      omega
    · rw [Nat.zero_add, Array.getElem?_append_left (by simpa using hj)]
      rw [List.getElem?_toArray]
      have e : ns.map Value.string ++ [Value.string x] = (ns ++ [x]).map Value.string := by simp
      rw [e, List.getElem?_map, List.getElem?_eq_getElem hj]
      rfl

/-- append(names, x), whatever its place. -/
theorem wpList_append_name {ops : Array Oper} {rest : List Oper} {op : Oper} {a : Act} {Q : Exit → Act → World → Prop} (hgd : op.guard = none) (s y : Operand) (t : TypeId)
    (ho : op.op = .call { callee := .builtin .append, args := #[s, y], argTypes := #[t, t] }) (ht : Tryz.prog.underlying t = some (.slice 9)) (hv : a.eval s = v) (h : NameRow w v ns) (x : Name) (ad : Addr) (c : Nat) (hy : a.eval y = .slice (some ad) 1 c) (hx : w.cell? ad = some (.string x)) (hn : ns.length ≤ 100000)
    (k : ∀ v' w', AppendedName w v ns x v' w' → wpList Tryz.prog ops Q rest (a.put op.dst v') w') : wpList Tryz.prog ops Q (op :: rest) a w := by
  refine wpList_plain hgd fun K hK => ?_
  obtain ⟨v', w', h1, h2⟩ := run_append_name t op.type ht h x ad c hx hn
  unfold Oper.wp execOp
  simp only [ho, resolve, invoke, builtin, Sem.run_bind, Sem.run_pure, Result.andThen_ok, List.map_toArray, List.map_cons, List.map_nil, hv, hy, h1]
  exact hK _ _ (k v' w' h2)
end

end Go.Proofs.YtolieljpnafbhaaGreatDoor
/-
  extsort: sources and sinks.
-/
namespace Go.Proofs.YtolieljpnafbhaaGreatDoor
open Go.RowKit Go.Maps Go.MapKept

/-- A file's edges, as its pages. -/
def edgeFile (es : List Edg) (fl : Bool) : LFile := .inl (pagesOf (per 20) (es.map Edg.bytes), fl)

theorem sized_edges (es : List Edg) : Sized 20 (es.map Edg.bytes) := fun r hr => by
  obtain ⟨e, _, rfl⟩ := List.mem_map.1 hr
  exact e.bytes_length

def SourceAt (w : World) (cb sb at' n : Nat) (e : Edg) : Prop := ∃ t, w.heap[cb]? = some (.cells #[ptrTo sb, .int .i64 (at' : Int), .int .i64 (n : Int), .int .u32 (e.t.toNat : Int), .int .u32 (e.h.toNat : Int), .int .u64 (e.x.toNat : Int), .int .u32 (e.m.toNat : Int)] t)

def SinkAt (w : World) (kb sb : Nat) (last : Edg) (any : Bool) : Prop := ∃ t, w.heap[kb]? = some (.cells #[ptrTo sb, .int .u32 (last.t.toNat : Int), .int .u32 (last.h.toNat : Int), .int .u64 (last.x.toNat : Int), .int .u32 (last.m.toNat : Int), .bool any] t)

section
variable {S : Nat → Prop} {w w' : World} {pb db n cb kb sb : Nat} {name : Name} {o o' : Owner} {d d' : Dsk} {L L' : Logic}

theorem SourceAt.kept {i N : Nat} {e : Edg} (h : SourceAt w cb sb i N e) (hb : w'.heap[cb]? = w.heap[cb]?) : SourceAt w' cb sb i N e := by
  obtain ⟨t, h⟩ := h
  exact ⟨t, hb.trans h⟩

theorem SourceAt.lt {i N : Nat} {e : Edg} (h : SourceAt w cb sb i N e) : cb < w.heap.size := by
  obtain ⟨t, h⟩ := h
  exact (Array.getElem?_eq_some_iff.1 h).1

theorem SourceAt.below {i N : Nat} {e : Edg} (h : SourceAt w cb sb i N e) (hb : Below w.heap.size w w') : SourceAt w' cb sb i N e := h.kept (hb.block _ h.lt)

theorem SourceAt.cells {i N : Nat} {e : Edg} (h : SourceAt w cb sb i N e) :
    (w.cell? ⟨cb, 0, none⟩ = some (ptrTo sb) ∧ w.cell? ⟨cb, 1, none⟩ = some (.int .i64 (i : Int)) ∧ w.cell? ⟨cb, 2, none⟩ = some (.int .i64 (N : Int))) ∧
    (w.cell? ⟨cb, 3, none⟩ = some (.int .u32 (e.t.toNat : Int)) ∧ w.cell? ⟨cb, 4, none⟩ = some (.int .u32 (e.h.toNat : Int)) ∧ w.cell? ⟨cb, 5, none⟩ = some (.int .u64 (e.x.toNat : Int)) ∧ w.cell? ⟨cb, 6, none⟩ = some (.int .u32 (e.m.toNat : Int))) ∧
    ∀ j, w.frozen? ⟨cb, j, none⟩ = false := by
  obtain ⟨t, h⟩ := h
  refine ⟨⟨?_, ?_, ?_⟩, ⟨?_, ?_, ?_, ?_⟩, fun j => cells_frozen h j⟩ <;> rw [cells_cell h] <;> rfl

theorem SourceAt.setEdge {i N : Nat} {e e' : Edg} (h : SourceAt w cb sb i N e) :
    SourceAt ((((w.setCell ⟨cb, 3, none⟩ (.int .u32 (e'.t.toNat : Int))).setCell ⟨cb, 4, none⟩ (.int .u32 (e'.h.toNat : Int))).setCell ⟨cb, 5, none⟩ (.int .u64 (e'.x.toNat : Int))).setCell ⟨cb, 6, none⟩ (.int .u32 (e'.m.toNat : Int))) cb sb i N e' := by
  obtain ⟨t, h⟩ := h
  refine ⟨t, ?_⟩
  have h2 := cells_set h 3 (.int .u32 (e'.t.toNat : Int))
  have h3 := cells_set h2 4 (.int .u32 (e'.h.toNat : Int))
  have h4 := cells_set h3 5 (.int .u64 (e'.x.toNat : Int))
  exact cells_set h4 6 (.int .u32 (e'.m.toNat : Int))

theorem SourceAt.setAt {i N i' : Nat} {e : Edg} (h : SourceAt w cb sb i N e) : SourceAt (w.setCell ⟨cb, 1, none⟩ (.int .i64 (i' : Int))) cb sb i' N e := by
  obtain ⟨t, h⟩ := h
  exact ⟨t, cells_set h 1 (.int .i64 (i' : Int))⟩

theorem SinkAt.kept {x : Edg} {a : Bool} (h : SinkAt w kb sb x a) (hb : w'.heap[kb]? = w.heap[kb]?) : SinkAt w' kb sb x a := by
  obtain ⟨t, h⟩ := h
  exact ⟨t, hb.trans h⟩

theorem SinkAt.lt {x : Edg} {a : Bool} (h : SinkAt w kb sb x a) : kb < w.heap.size := by
  obtain ⟨t, h⟩ := h
  exact (Array.getElem?_eq_some_iff.1 h).1

theorem SinkAt.below {x : Edg} {a : Bool} (h : SinkAt w kb sb x a) (hb : Below w.heap.size w w') : SinkAt w' kb sb x a := h.kept (hb.block _ h.lt)

theorem SinkAt.cells {x : Edg} {a : Bool} (h : SinkAt w kb sb x a) :
    w.cell? ⟨kb, 0, none⟩ = some (ptrTo sb) ∧ w.cell? ⟨kb, 1, none⟩ = some (.int .u32 (x.t.toNat : Int)) ∧ w.cell? ⟨kb, 2, none⟩ = some (.int .u32 (x.h.toNat : Int)) ∧ w.cell? ⟨kb, 3, none⟩ = some (.int .u64 (x.x.toNat : Int)) ∧ w.cell? ⟨kb, 4, none⟩ = some (.int .u32 (x.m.toNat : Int)) ∧ w.cell? ⟨kb, 5, none⟩ = some (.bool a) ∧
    ∀ j, w.frozen? ⟨kb, j, none⟩ = false := by
  obtain ⟨t, h⟩ := h
  refine ⟨?_, ?_, ?_, ?_, ?_, ?_, fun j => cells_frozen h j⟩ <;> rw [cells_cell h] <;> rfl

theorem SinkAt.set {x y : Edg} {a : Bool} (h : SinkAt w kb sb x a) :
    SinkAt (((((w.setCell ⟨kb, 1, none⟩ (.int .u32 (y.t.toNat : Int))).setCell ⟨kb, 2, none⟩ (.int .u32 (y.h.toNat : Int))).setCell ⟨kb, 3, none⟩ (.int .u64 (y.x.toNat : Int))).setCell ⟨kb, 4, none⟩ (.int .u32 (y.m.toNat : Int))).setCell ⟨kb, 5, none⟩ (.bool true)) kb sb y true := by
  obtain ⟨t, h⟩ := h
  refine ⟨t, ?_⟩
  have h1 := cells_set h 1 (.int .u32 (y.t.toNat : Int))
  have h2 := cells_set h1 2 (.int .u32 (y.h.toNat : Int))
  have h3 := cells_set h2 3 (.int .u64 (y.x.toNat : Int))
  have h4 := cells_set h3 4 (.int .u32 (y.m.toNat : Int))
  exact cells_set h4 5 (.bool true)

/-- What the next edge leaves. -/
def NextPost (n pb db : Nat) (w : World) (o : Owner) (d : Dsk) (L : Logic) (cb sb i N : Nat) (x : Edg) (e : Ending) (w' : World) : Prop :=
  ∃ c d' o', e = .returned (.tuple #[.bool (c == 0), .int .i64 ((c : Nat) : Int)]) ∧ Moved (· = cb) n pb db w o d w' o' d' L ∧ (c = 0 ∨ Err d d' L c) ∧ (c = 0 → SourceAt w' cb sb (i + 1) N x)

set_option maxRecDepth 100000 in
set_option maxHeartbeats 4000000 in
theorem sourceNext_end {i N : Nat} {x0 : Edg} (hsrc : SourceAt w cb sb i N x0) (hi : N ≤ i) :
    Calls Tryz.prog 136 #[ptrTo cb] w fun e w' => e = .returned (.tuple #[.bool false, .int .i64 0]) ∧ ∃ q, w' = w.drewN q := by
  obtain ⟨⟨hc0, hc1, hc2⟩, -, -⟩ := hsrc.cells
  have hge : ((i : Int) ≥ (N : Int)) := by omega
  clear hsrc hc0
  unfold ptrTo
  go_enter Tryz.func136, Tryz.ntmps136
  go_wp2
  go_quiet (fail)
  go_wp2
  go_ret2
  exact ⟨rfl, _, rfl⟩

set_option maxRecDepth 100000 in
set_option maxHeartbeats 4000000 in
theorem sourceNext_in (HW : WriteSaid) (h : PoolAt w pb db n o d L) (hst : StreamAt w sb pb name 20) (ho : o sb = none) {i : Nat} {x0 : Edg} {es : List Edg} {fl : Bool} (hsrc : SourceAt w cb sb i es.length x0) (hoc : o cb = none) (hL : mget L name = some (edgeFile es fl)) (hi : i < es.length) :
    Calls Tryz.prog 136 #[ptrTo cb] w (NextPost n pb db w o d L cb sb i es.length es[i]) := by
  have hmost := (h.paged hL).1
  have hN : es.length ≤ 16777216 := by
    rw [pagesOf_length, List.length_map] at hmost
    have h3 : es.length ≤ per 20 * pagesFor (per 20) es.length := Nat.le_of_not_lt (fun h => Nat.lt_irrefl _ ((pagesFor_lt (by decide)).2 h))
    have h12 : per 20 = 12 := by decide
    rw [h12] at h3 hmost
    omega
  have hget : Hid (∀ W, Below w.heap.size w W → Calls Tryz.prog 31 #[ptrTo sb, .int .i64 (i : Int)] W (RecPost n pb db W o d L es[i].bytes)) := Lib.hid (fun W hW => by
    have := streamGet_in HW (h.below hW) (hst.below hW) ho (by decide) (by decide) hL (sized_edges es) (i := i) (by rw [List.length_map]; exact hi)
    rw [List.getElem_map] at this
    exact this)
  have H := Lib.hid h
  have HS := Lib.hid hsrc
  have HOC := Lib.hid hoc
  have hcl := hsrc.lt
  generalize es[i] = x at *
  generalize es.length = N at *
  have hlt : ¬ ((i : Int) ≥ (N : Int)) := by omega
  obtain ⟨⟨hc0, hc1, hc2⟩, -, -⟩ := hsrc.cells
  have hw1 : IntKind.i64.wrap ((i : Int) + 1) = (i : Int) + 1 := wrap_in (by omega) (by omega)
  clear h hst ho hsrc hoc hL hmost hi hN hc0
  unfold ptrTo at *
  go_enter Tryz.func136, Tryz.ntmps136
  go_wp2
  go_quiet (fail)
  have HB1 : Hid (Below w.heap.size w (w.drewN nq)) := Lib.hid (below_drewN (Below.refl _ _) _)
  have HS1 : Hid (SourceAt (w.drewN nq) cb sb i N x0) := Lib.hid (HS.out.below HB1.out)
  generalize w.drewN nq = w1 at *
  clear hc1 hc2
  go_wp2
  refine wp_region_mid (Below w1.heap.size w1) 8 rfl (by kernel_rfl) (by kernel_rfl) ((Below.refl _ _).drew) ?_; simp only [List.take_succ_cons, List.take_zero]
  iterate 3 (refine q_op rfl (fun w' hw' => (by go_simp <;> rfl)) (fun K hK => ?_); go_simp; refine hK _ ?_; clear hK K)
  refine q_op rfl (fun w' hw' => (by have hc := (HS1.out.below hw').cells.1.1; unfold ptrTo at hc; go_simp <;> rfl)) (fun K hK => ?_); go_simp; refine hK _ ?_; clear hK K
  iterate 3 (refine q_op rfl (fun w' hw' => (by go_simp <;> rfl)) (fun K hK => ?_); go_simp; refine hK _ ?_; clear hK K)
  refine q_op rfl (fun w' hw' => (by have hc := (HS1.out.below hw').cells.1.2.1; go_simp <;> rfl)) (fun K hK => ?_); go_simp; refine hK _ ?_; clear hK K
  refine wpQuiet_nil ?_; intro w2 hw2; refine ⟨_, _, rfl, (by go_simp <;> exact ⟨rfl, rfl⟩), ?_⟩
  have HB2 : Hid (Below w.heap.size w w2) := Lib.hid (HB1.out.trans (hw2.mono HB1.out.size))
  refine (hget.out w2 HB2.out).mono ?_
  rintro e w3 ⟨v3, c3, d3, o3, rfl, hm3, he3, hok3, hbad3⟩
  have HM3 : Hid (Moved (· = cb) n pb db w o d w3 o3 d3 L) := Lib.hid ((Moved.ofBelow H.out HB2.out).trans hm3 (fun _ _ h => h.elim))
  have HS3 : Hid (SourceAt w3 cb sb i N x0) := Lib.hid ((HS.out.below HB2.out).kept (hm3.block (Nat.lt_of_lt_of_le hcl HB2.out.size) HOC.out (fun h => h)))
  have HE3 := Lib.hid he3
  clear hw2 hm3 he3
  by_cases hc3 : c3 = 0
  · subst hc3
    obtain ⟨ho3, hf3⟩ := hok3 rfl
    obtain ⟨a3, k3, rfl⟩ := ownsRow_slice ho3
    have HR3 := Lib.hid (Rd_own ho3)
    have HO3 := Lib.hid ho3
    have hne3 : Hid (∀ b, (Value.slice a3 x.bytes.length k3).ownBlock = some b → b ≠ cb) := Lib.hid (fun b hb e => by
      have := ownsRow_block ho3 b hb
      have := HB2.out.size
      omega)
    clear hok3 hbad3 ho3 hf3
    refine ⟨_, rfl, ?_⟩; go_simp
    iterate 5 (refine q_op rfl (fun w' hw' => (by go_simp <;> rfl)) (fun K hK => ?_); go_simp; refine hK _ ?_; clear hK K)
    refine wpQuiet_nil ?_
    obtain ⟨⟨-, hc1, -⟩, -, hfz⟩ := HS3.out.cells
    have hz1 := hfz 1
    have HRS : Hid (Rd (w3.setCell ⟨cb, 1, none⟩ (.int .i64 ((i : Int) + 1))) (.slice a3 x.bytes.length k3) x.bytes) := Lib.hid (((Turn.refl (· = cb) w3).setCell ⟨cb, 1, none⟩ _ (.inl rfl)).rd HR3.out (fun b hb e => hne3.out b hb e))
    have HS4 : Hid (SourceAt (w3.setCell ⟨cb, 1, none⟩ (.int .i64 ((i : Int) + 1))) cb sb (i + 1) N x0) := Lib.hid (by
      have := HS3.out.setAt (i' := i + 1)
      rwa [show ((i + 1 : Nat) : Int) = (i : Int) + 1 by omega] at this)
    have HM4 : Hid (Moved (· = cb) n pb db w o d (w3.setCell ⟨cb, 1, none⟩ (.int .i64 ((i : Int) + 1))) o3 d3 L) := Lib.hid (HM3.out.setCell _ _ (HM3.out.free hcl HOC.out) (.inl rfl))
    clear hfz
    go_wp2_with fail
    generalize w3.setCell ⟨cb, 1, none⟩ (.int .i64 ((i : Int) + 1)) = w4 at *
    refine (readEdg_any _ x _ HRS.out).mono ?_
    rintro e w5 ⟨rfl, hb5⟩
    have HS5 := Lib.hid (HS4.out.below hb5)
    have HM5 := Lib.hid (HM4.out.below hb5)
    clear hb5 hc1 hz1
    obtain ⟨-, ⟨k3', k4', k5', k6'⟩, hfz⟩ := HS5.out.cells
    have hz3 := hfz 3
    have hz4 := hfz 4
    have hz5 := hfz 5
    have hz6 := hfz 6
    clear hfz
    go_wp2
    go_ret2
    have ho3' := HM3.out.free hcl HOC.out
    exact ⟨0, d3, o3, rfl, (((HM5.out.setCell ⟨cb, 3, none⟩ _ ho3' (.inl rfl)).setCell ⟨cb, 4, none⟩ _ ho3' (.inl rfl)).setCell ⟨cb, 5, none⟩ _ ho3' (.inl rfl)).setCell ⟨cb, 6, none⟩ _ ho3' (.inl rfl), .inl rfl, fun _ => HS5.out.setEdge⟩
  · obtain rfl := hbad3 hc3
    have hc3' : ¬ (c3 : Int) = 0 := by omega
    have HC3 := Lib.hid hc3
    clear hc3 hok3 hbad3
    refine ⟨_, rfl, ?_⟩; go_simp
    iterate 5 (refine q_op rfl (fun w' hw' => (by go_simp <;> rfl)) (fun K hK => ?_); go_simp; refine hK _ ?_; clear hK K)
    refine wpQuiet_nil ?_
    go_wp2
    go_ret2
    exact ⟨c3, d3, o3, by rw [beq_false_of_ne HC3.out]; rfl, HM3.out, HE3.out, fun h => absurd h HC3.out⟩
end

end Go.Proofs.YtolieljpnafbhaaGreatDoor
/-
  extsort: a sink is put an edge.
-/
namespace Go.Proofs.YtolieljpnafbhaaGreatDoor
open Go.RowKit Go.Maps Go.MapKept

section
variable {S : Nat → Prop} {w w' : World} {pb db n kb sb : Nat} {name : Name} {o o' : Owner} {d d' : Dsk} {L L' : Logic}

/-- A sink that has written so much. -/
def SinkOf (w : World) (kb sb : Nat) (out : List Edg) : Prop := (out = [] ∧ ∃ x, SinkAt w kb sb x false) ∨ ∃ x, out.getLast? = some x ∧ SinkAt w kb sb x true

theorem SinkOf.kept {out : List Edg} (h : SinkOf w kb sb out) (hb : w'.heap[kb]? = w.heap[kb]?) : SinkOf w' kb sb out :=
  h.imp (fun ⟨h1, x, h2⟩ => ⟨h1, x, h2.kept hb⟩) (fun ⟨x, h1, h2⟩ => ⟨x, h1, h2.kept hb⟩)

theorem SinkOf.lt {out : List Edg} (h : SinkOf w kb sb out) : kb < w.heap.size := by
  rcases h with ⟨_, x, h⟩ | ⟨x, _, h⟩
  · exact h.lt
  · exact h.lt

theorem SinkOf.below {out : List Edg} (h : SinkOf w kb sb out) (hb : Below w.heap.size w w') : SinkOf w' kb sb out := h.kept (hb.block _ h.lt)

theorem mput_get_same {κ υ : Type} [DecidableEq κ] {m : List (κ × υ)} {k : κ} {v : υ} (h : mget m k = some v) (k' : κ) : mget (mput m k v) k' = mget m k' := by
  rw [mget_mput]
  by_cases e : k' = k
  · rw [if_pos e, e, h]
  · rw [if_neg e]

theorem Moved.same (h : Moved S n pb db w o d w' o' d' L) {f : LFile} (hL : mget L name = some f) : Moved S n pb db w o d w' o' d' (mput L name f) :=
  h.congr (mput_keys h.pool.keys) (fun x => mput_get_same hL x)

def SinkPost (n pb db : Nat) (w : World) (o : Owner) (d : Dsk) (L : Logic) (name : Name) (kb sb : Nat) (out : List Edg) (x : Edg) (e : Ending) (w' : World) : Prop :=
  ∃ c d' o', e = .returned (.int .i64 ((c : Nat) : Int)) ∧ Moved (· = kb) n pb db w o d w' o' d' (if c = 0 then mput L name (edgeFile (put1 out x) false) else L) ∧ (c = 0 ∨ Err d d' L c) ∧ (c = 0 → SinkOf w' kb sb (put1 out x))

/-- The edge that was put last, and whether there was one: is this one to be skipped? -/
def skipsB (last : Edg) (any : Bool) (x : Edg) : Bool := decide (x.t = x.h) || (any && (decide (last.t = x.t) && decide (last.h = x.h)))

theorem u32_ne {a b : UInt32} (h : ¬ a = b) : ¬ ((a.toNat : Int) = (b.toNat : Int)) ∧ ((a.toNat : Int) == (b.toNat : Int)) = false ∧ ¬ a.toNat = b.toNat ∧ decide (a.toNat = b.toNat) = false ∧ decide ((a.toNat : Int) = (b.toNat : Int)) = false := by
  have h1 : ¬ a.toNat = b.toNat := fun e => h (UInt32.toNat_inj.1 e)
  have h2 : ¬ ((a.toNat : Int) = (b.toNat : Int)) := by omega
  exact ⟨h2, by rw [beq_eq_false_iff_ne]; exact h2, h1, decide_eq_false h1, decide_eq_false h2⟩

set_option maxRecDepth 100000 in
set_option maxHeartbeats 4000000 in
theorem put_skip {last x : Edg} {any : Bool} (hk : SinkAt w kb sb last any) (hs : skipsB last any x = true) :
    Calls Tryz.prog 140 #[ptrTo kb, .agg #[.int .u32 (x.t.toNat : Int), .int .u32 (x.h.toNat : Int), .int .u64 (x.x.toNat : Int), .int .u32 (x.m.toNat : Int)]] w fun e w' => e = .returned (.int .i64 0) ∧ Below w.heap.size w w' := by
  obtain ⟨hc0, hc1, hc2, hc3, hc4, hc5, -⟩ := hk.cells
  have hkl := hk.lt
  clear hk hc0 hc3 hc4
  unfold skipsB at hs
  unfold ptrTo
  by_cases h1 : x.t = x.h
  · rw [h1]
    clear hs h1 hc1 hc2 hc5
    go_enter Tryz.func140, Tryz.ntmps140
    go_wp2
    go_quiet (fail)
    go_wp2
    go_ret
    exact ⟨rfl, below_drewN ((Below.refl _ _).alloc (Nat.le_refl _) _) _⟩
  · cases any with
    | false => simp [h1] at hs
    | true =>
      obtain ⟨g1, g2, g3, g4, g5⟩ := u32_ne h1
      simp only [h1, decide_false, Bool.false_or, Bool.true_and, Bool.and_eq_true, decide_eq_true_eq] at hs
      obtain ⟨h2, h3⟩ := hs
      rw [h2] at hc1
      rw [h3] at hc2
      clear h1 h2 h3
      go_enter Tryz.func140, Tryz.ntmps140
      go_wp2
      go_quiet (fail)
      go_wp2
      go_ret
      exact ⟨rfl, below_drewN ((Below.refl _ _).alloc (Nat.le_refl _) _) _⟩

theorem skipsB_out {out : List Edg} {last : Edg} {any : Bool} {x : Edg} (h : (out = [] ∧ any = false) ∨ (out.getLast? = some last ∧ any = true)) : (skipsB last any x = true → put1 out x = out) ∧ (skipsB last any x = false → put1 out x = out ++ [x]) := by
  unfold skipsB
  constructor
  · intro hs
    refine put1_skip ?_
    simp only [Bool.or_eq_true, Bool.and_eq_true, decide_eq_true_eq] at hs
    rcases hs with hs | ⟨h1, h2, h3⟩
    · exact .inl hs
    · rcases h with ⟨_, h⟩ | ⟨h, _⟩
      · rw [h] at h1; cases h1
      · exact .inr ⟨last, h, h2, h3⟩
  · intro hs
    refine put1_lay (fun hk => ?_)
    simp only [Bool.or_eq_false_iff, Bool.and_eq_false_iff, decide_eq_false_iff_not] at hs
    rcases hk with hk | ⟨y, hy, hs1, hs2⟩
    · exact hs.1 hk
    · rcases h with ⟨h, _⟩ | ⟨h, ha⟩
      · rw [h] at hy; cases hy
      · rw [h] at hy
        cases hy
        rcases hs.2 with g | g | g
        · rw [ha] at g; cases g
        · exact g hs1
        · exact g hs2

set_option maxRecDepth 100000 in
set_option maxHeartbeats 8000000 in
theorem put_lay (HW : WriteSaid) (h : PoolAt w pb db n o d L) (hst : StreamAt w sb pb name 20) (ho : o sb = none) (hok : o kb = none) (hne : kb ≠ sb) {out : List Edg} (hL : mget L name = some (edgeFile out false)) (hN : out.length < 65535) {last x : Edg} {any : Bool} (hk : SinkAt w kb sb last any) (hs : skipsB last any x = false) :
    Calls Tryz.prog 140 #[ptrTo kb, .agg #[.int .u32 (x.t.toNat : Int), .int .u32 (x.h.toNat : Int), .int .u64 (x.x.toNat : Int), .int .u32 (x.m.toNat : Int)]] w fun e w' =>
      ∃ c d' o', e = .returned (.int .i64 ((c : Nat) : Int)) ∧ Moved (· = kb) n pb db w o d w' o' d' (if c = 0 then mput L name (edgeFile (out ++ [x]) false) else L) ∧ (c = 0 ∨ Err d d' L c) ∧ SinkAt w' kb sb x true := by
  have hadd : Hid (∀ W o' d', PoolAt W pb db n o' d' L → StreamAt W sb pb name 20 → o' sb = none → ∀ rv, Rd W rv x.bytes → (∀ b, rv.ownBlock = some b → o' b = none) →
      Calls Tryz.prog 60 #[ptrTo sb, rv] W (LaidPost (fun _ => False) n pb db W o' d' L (mput L name (edgeFile (out ++ [x]) false)))) := Lib.hid (fun W o' d' hW hst' ho' rv hr hro => by
    have := streamAdd_any HW hW hst' ho' (by decide) (by decide) hL (sized_edges out) (by rw [List.length_map]; exact hN) hr x.bytes_length hro
    unfold edgeFile
    rw [List.map_append]
    exact this)
  have hedge := Lib.hid (fun W => edgBytes_any x W)
  have H := Lib.hid h
  have HST := Lib.hid hst
  have HO := Lib.hid ho
  have HOK := Lib.hid hok
  have HK := Lib.hid hk
  have HNE := Lib.hid hne
  obtain ⟨-, hc1, hc2, -, -, hc5, -⟩ := hk.cells
  have hkl := hk.lt
  have hsl := hst.lt
  have HSET : Hid (∀ W, SinkAt W kb sb last any → SinkAt (((((W.setCell ⟨kb, 1, none⟩ (.int .u32 (x.t.toNat : Int))).setCell ⟨kb, 2, none⟩ (.int .u32 (x.h.toNat : Int))).setCell ⟨kb, 3, none⟩ (.int .u64 (x.x.toNat : Int))).setCell ⟨kb, 4, none⟩ (.int .u32 (x.m.toNat : Int))).setCell ⟨kb, 5, none⟩ (.bool true)) kb sb x true) := Lib.hid (fun W h => h.set)
  clear h hst ho hok hk hne hL hN
  unfold skipsB at hs
  simp only [Bool.or_eq_false_iff, Bool.and_eq_false_iff, decide_eq_false_iff_not] at hs
  obtain ⟨hs1, hs2⟩ := hs
  obtain ⟨a1, a2, a3, a4, a5⟩ := u32_ne hs1
  clear hs1
  have hcase : any = false ∨ (any = true ∧ ¬ last.t = x.t) ∨ (any = true ∧ last.t = x.t ∧ ¬ last.h = x.h) := by
    cases any with
    | false => exact .inl rfl
    | true =>
      rcases hs2 with g | g | g
      · cases g
      · exact .inr (.inl ⟨rfl, g⟩)
      · by_cases e : last.t = x.t
        · exact .inr (.inr ⟨rfl, e, g⟩)
        · exact .inr (.inl ⟨rfl, e⟩)
  clear hs2
  unfold ptrTo at *
  rcases hcase with rfl | ⟨rfl, g⟩ | ⟨rfl, g, g'⟩
  case' inr.inl =>
    obtain ⟨b1, b2, b3, b4, b5⟩ := u32_ne g
    clear g
  case' inr.inr =>
    obtain ⟨b1, b2, b3, b4, b5⟩ := u32_ne g'
    rw [g] at hc1
    clear g g'
  all_goals
    go_enter Tryz.func140, Tryz.ntmps140
    go_wp2
    go_quiet (fail)
    have HB1 : Hid (Below w.heap.size w ((w.alloc (.cells #[.int .u32 (x.t.toNat : Int), .int .u32 (x.h.toNat : Int), .int .u64 (x.x.toNat : Int), .int .u32 (x.m.toNat : Int)] 47)).drewN nq)) := Lib.hid (below_drewN ((Below.refl _ _).alloc (Nat.le_refl _) _) _)
    have e0 : ((w.alloc (.cells #[.int .u32 (x.t.toNat : Int), .int .u32 (x.h.toNat : Int), .int .u64 (x.x.toNat : Int), .int .u32 (x.m.toNat : Int)] 47)).drewN nq).cell? ⟨w.heap.size, 0, none⟩ = some (.int .u32 (x.t.toNat : Int)) := by simp
    have e1 : ((w.alloc (.cells #[.int .u32 (x.t.toNat : Int), .int .u32 (x.h.toNat : Int), .int .u64 (x.x.toNat : Int), .int .u32 (x.m.toNat : Int)] 47)).drewN nq).cell? ⟨w.heap.size, 1, none⟩ = some (.int .u32 (x.h.toNat : Int)) := by simp
    have e2 : ((w.alloc (.cells #[.int .u32 (x.t.toNat : Int), .int .u32 (x.h.toNat : Int), .int .u64 (x.x.toNat : Int), .int .u32 (x.m.toNat : Int)] 47)).drewN nq).cell? ⟨w.heap.size, 2, none⟩ = some (.int .u64 (x.x.toNat : Int)) := by simp
    have e3 : ((w.alloc (.cells #[.int .u32 (x.t.toNat : Int), .int .u32 (x.h.toNat : Int), .int .u64 (x.x.toNat : Int), .int .u32 (x.m.toNat : Int)] 47)).drewN nq).cell? ⟨w.heap.size, 3, none⟩ = some (.int .u32 (x.m.toNat : Int)) := by simp
    have hxl : w.heap.size < ((w.alloc (.cells #[.int .u32 (x.t.toNat : Int), .int .u32 (x.h.toNat : Int), .int .u64 (x.x.toNat : Int), .int .u32 (x.m.toNat : Int)] 47)).drewN nq).heap.size := by simp [World.drewN]
    generalize (w.alloc (.cells #[.int .u32 (x.t.toNat : Int), .int .u32 (x.h.toNat : Int), .int .u64 (x.x.toNat : Int), .int .u32 (x.m.toNat : Int)] 47)).drewN nq = w1 at *
    clear hc1 hc2 hc5
    have HK1 := Lib.hid (HK.out.below HB1.out)
    obtain ⟨k0, k1, k2, k3, k4, k5, hfz⟩ := HK1.out.cells
    have z1 := hfz 1
    have z2 := hfz 2
    have z3 := hfz 3
    have z4 := hfz 4
    have z5 := hfz 5
    have hnb : ¬ w.heap.size = kb := by omega
    clear hfz
    go_wp2
    have hsink := HSET.out w1 HK1.out
    have hm2 : Moved (· = kb) n pb db w o d (((((w1.setCell ⟨kb, 1, none⟩ (.int .u32 (x.t.toNat : Int))).setCell ⟨kb, 2, none⟩ (.int .u32 (x.h.toNat : Int))).setCell ⟨kb, 3, none⟩ (.int .u64 (x.x.toNat : Int))).setCell ⟨kb, 4, none⟩ (.int .u32 (x.m.toNat : Int))).setCell ⟨kb, 5, none⟩ (.bool true)) o d L :=
      (((((Moved.ofBelow (S := (· = kb)) H.out HB1.out).setCell ⟨kb, 1, none⟩ _ HOK.out (.inl rfl)).setCell ⟨kb, 2, none⟩ _ HOK.out (.inl rfl)).setCell ⟨kb, 3, none⟩ _ HOK.out (.inl rfl)).setCell ⟨kb, 4, none⟩ _ HOK.out (.inl rfl)).setCell ⟨kb, 5, none⟩ _ HOK.out (.inl rfl)
    have hxl2 : w.heap.size < (((((w1.setCell ⟨kb, 1, none⟩ (.int .u32 (x.t.toNat : Int))).setCell ⟨kb, 2, none⟩ (.int .u32 (x.h.toNat : Int))).setCell ⟨kb, 3, none⟩ (.int .u64 (x.x.toNat : Int))).setCell ⟨kb, 4, none⟩ (.int .u32 (x.m.toNat : Int))).setCell ⟨kb, 5, none⟩ (.bool true)).heap.size := by simpa using hxl
    have f : ∀ (j : Nat) (v : Value), w1.cell? ⟨w.heap.size, j, none⟩ = some v → (((((w1.setCell ⟨kb, 1, none⟩ (.int .u32 (x.t.toNat : Int))).setCell ⟨kb, 2, none⟩ (.int .u32 (x.h.toNat : Int))).setCell ⟨kb, 3, none⟩ (.int .u64 (x.x.toNat : Int))).setCell ⟨kb, 4, none⟩ (.int .u32 (x.m.toNat : Int))).setCell ⟨kb, 5, none⟩ (.bool true)).cell? ⟨w.heap.size, j, none⟩ = some v := fun j v hv =>
      ((((((Turn.refl (· = kb) w1).setCell ⟨kb, 1, none⟩ (.int .u32 (x.t.toNat : Int)) (.inl rfl)).setCell ⟨kb, 2, none⟩ (.int .u32 (x.h.toNat : Int)) (.inl rfl)).setCell ⟨kb, 3, none⟩ (.int .u64 (x.x.toNat : Int)) (.inl rfl)).setCell ⟨kb, 4, none⟩ (.int .u32 (x.m.toNat : Int)) (.inl rfl)).setCell ⟨kb, 5, none⟩ (.bool true) (.inl rfl)).cell hv hnb
    have f0 := f 0 _ e0
    have f1 := f 1 _ e1
    have f2 := f 2 _ e2
    have f3 := f 3 _ e3
    have HSINK := Lib.hid hsink
    have HM2 := Lib.hid hm2
    have q0 := hsink.cells.1
    unfold ptrTo at q0
    clear f hsink hm2 e0 e1 e2 e3 k0 k1 k2 k3 k4 k5 z1 z2 z3 z4 z5 HK1
    generalize (((((w1.setCell ⟨kb, 1, none⟩ (.int .u32 (x.t.toNat : Int))).setCell ⟨kb, 2, none⟩ (.int .u32 (x.h.toNat : Int))).setCell ⟨kb, 3, none⟩ (.int .u64 (x.x.toNat : Int))).setCell ⟨kb, 4, none⟩ (.int .u32 (x.m.toNat : Int))).setCell ⟨kb, 5, none⟩ (.bool true)) = w2 at *
    have hw2l : w.heap.size ≤ w2.heap.size := Nat.le_of_lt hxl2
    have hk1 : Hid (∀ w3 v3, w3.ownsRow w2.drew.heap.size 5 1 v3 x.bytes.length (x.bytes.map bv) → Below w2.drew.heap.size w2.drew w3 → (w3.cell? ⟨kb, 0, none⟩ = some (.pointer (some ⟨sb, 0, none⟩)) ∧ w3.cell? ⟨w.heap.size, 0, none⟩ = some (.int .u32 (x.t.toNat : Int)) ∧ w3.cell? ⟨w.heap.size, 1, none⟩ = some (.int .u32 (x.h.toNat : Int)) ∧ w3.cell? ⟨w.heap.size, 2, none⟩ = some (.int .u64 (x.x.toNat : Int)) ∧ w3.cell? ⟨w.heap.size, 3, none⟩ = some (.int .u32 (x.m.toNat : Int))) ∧
        Moved (· = kb) n pb db w o d w3 o d L ∧ StreamAt w3 sb pb name 20 ∧ Rd w3 v3 x.bytes ∧ (∀ b, v3.ownBlock = some b → o b = none) ∧ SinkAt w3 kb sb x true) := Lib.hid (fun w3 v3 ho3 hb3 => by
      have hm3 := HM2.out.drew.below hb3
      have hs3 : SinkAt w3 kb sb x true := HSINK.out.kept (hb3.block kb HSINK.out.lt)
      have g := fun (j : Nat) (v : Value) (hv : w2.cell? ⟨w.heap.size, j, none⟩ = some v) => (show w3.cell? ⟨w.heap.size, j, none⟩ = some v by rw [hb3.cell (p := ⟨w.heap.size, j, none⟩) hxl2]; exact hv)
      refine ⟨⟨hs3.cells.1, g 0 _ f0, g 1 _ f1, g 2 _ f2, g 3 _ f3⟩, hm3, ?_, Rd_own ho3, fun b hb => H.out.fresh (Nat.le_trans hw2l (ownsRow_block ho3 b hb)), hs3⟩
      exact HST.out.moved hm3 HO.out (fun e => HNE.out e.symm))
    have hk2 : Hid (∀ w3 w4 d4 o4 L4, Moved (· = kb) n pb db w o d w3 o d L → SinkAt w3 kb sb x true → w3.cell? ⟨w.heap.size, 0, none⟩ = some (.int .u32 (x.t.toNat : Int)) ∧ w3.cell? ⟨w.heap.size, 1, none⟩ = some (.int .u32 (x.h.toNat : Int)) ∧ w3.cell? ⟨w.heap.size, 2, none⟩ = some (.int .u64 (x.x.toNat : Int)) ∧ w3.cell? ⟨w.heap.size, 3, none⟩ = some (.int .u32 (x.m.toNat : Int)) → Moved (fun _ => False) n pb db w3 o d w4 o4 d4 L4 →
        (w4.cell? ⟨kb, 0, none⟩ = some (.pointer (some ⟨sb, 0, none⟩)) ∧ w4.cell? ⟨w.heap.size, 0, none⟩ = some (.int .u32 (x.t.toNat : Int)) ∧ w4.cell? ⟨w.heap.size, 1, none⟩ = some (.int .u32 (x.h.toNat : Int)) ∧ w4.cell? ⟨w.heap.size, 2, none⟩ = some (.int .u64 (x.x.toNat : Int)) ∧ w4.cell? ⟨w.heap.size, 3, none⟩ = some (.int .u32 (x.m.toNat : Int))) ∧
        Moved (· = kb) n pb db w o d w4 o4 d4 L4 ∧ SinkAt w4 kb sb x true) := Lib.hid (fun w3 w4 d4 o4 L4 hm3 hs3 ⟨g0, g1, g2, g3⟩ hm4 => by
      have hs4 : SinkAt w4 kb sb x true := hs3.kept (hm4.block hs3.lt HOK.out (fun h => h))
      have hx : o w.heap.size = none := H.out.fresh (Nat.le_refl _)
      exact ⟨⟨hs4.cells.1, hm4.cell g0 hx (fun h => h), hm4.cell g1 hx (fun h => h), hm4.cell g2 hx (fun h => h), hm4.cell g3 hx (fun h => h)⟩, hm3.trans hm4 (fun _ _ h => h.elim), hs4⟩)
    go_region_held3 (fun w' => w'.cell? ⟨kb, 0, none⟩ = some (.pointer (some ⟨sb, 0, none⟩)) ∧ w'.cell? ⟨w.heap.size, 0, none⟩ = some (.int .u32 (x.t.toNat : Int)) ∧ w'.cell? ⟨w.heap.size, 1, none⟩ = some (.int .u32 (x.h.toNat : Int)) ∧ w'.cell? ⟨w.heap.size, 2, none⟩ = some (.int .u64 (x.x.toNat : Int)) ∧ w'.cell? ⟨w.heap.size, 3, none⟩ = some (.int .u32 (x.m.toNat : Int))) (first | exact ⟨q0, f0, f1, f2, f3⟩ | exact q1 | exact q2)
      (first
        | (go_at_call 177; refine (hedge.out _).mono ?_; rintro e w3 ⟨v3, rfl, ho3, hb3⟩; obtain ⟨q1, hm3, hst3, hr3, hf3, hs3⟩ := hk1.out w3 v3 ho3 hb3)
        | (go_at_call 60; refine (hadd.out w3 o d hm3.pool hst3 HO.out v3 hr3 hf3).mono ?_; rintro e w4 ⟨c4, d4, o4, rfl, hm4, he4⟩; obtain ⟨q2, hm5, hs5⟩ := hk2.out w3 w4 d4 o4 _ hm3 hs3 q1.2 hm4))
    have HM5 := Lib.hid hm5
    have HS5 := Lib.hid hs5
    have HE4 := Lib.hid he4
    clear hm5 hs5 he4 hm4 hm3 hst3 hr3 hf3 hs3 ho3 hb3 q1 q2 q0 f0 f1 f2 f3
    go_wp2
    go_ret
    exact ⟨c4, d4, o4, rfl, HM5.out, HE4.out, HS5.out⟩

theorem sinkPut_any (HW : WriteSaid) (h : PoolAt w pb db n o d L) (hst : StreamAt w sb pb name 20) (ho : o sb = none) (hok : o kb = none) (hne : kb ≠ sb) {out : List Edg} (hL : mget L name = some (edgeFile out false)) (hN : out.length < 65535) (hk : SinkOf w kb sb out) (x : Edg) :
    Calls Tryz.prog 140 #[ptrTo kb, .agg #[.int .u32 (x.t.toNat : Int), .int .u32 (x.h.toNat : Int), .int .u64 (x.x.toNat : Int), .int .u32 (x.m.toNat : Int)]] w (SinkPost n pb db w o d L name kb sb out x) := by
  obtain ⟨last, any, hsk, hcase⟩ : ∃ last any, SinkAt w kb sb last any ∧ ((out = [] ∧ any = false) ∨ (out.getLast? = some last ∧ any = true)) := by
    rcases hk with ⟨h1, y, h2⟩ | ⟨y, h1, h2⟩
    · exact ⟨y, false, h2, .inl ⟨h1, rfl⟩⟩
    · exact ⟨y, true, h2, .inr ⟨h1, rfl⟩⟩
  obtain ⟨p1, p2⟩ := skipsB_out (x := x) hcase
  cases hs : skipsB last any x with
  | true =>
    refine (put_skip hsk hs).mono ?_
    rintro e w' ⟨rfl, hb⟩
    refine ⟨0, d, o, rfl, ?_, .inl rfl, fun _ => ?_⟩
    · rw [if_pos rfl, p1 hs]
      exact (Moved.ofBelow h hb).same hL
    · rw [p1 hs]
      exact hk.below hb
  | false =>
    refine (put_lay HW h hst ho hok hne hL hN hsk hs).mono ?_
    rintro e w' ⟨c, d', o', rfl, hm, he, hs'⟩
    refine ⟨c, d', o', rfl, by rw [p2 hs]; exact hm, he, fun _ => ?_⟩
    rw [p2 hs]
    exact .inr ⟨x, by simp, hs'⟩
end

end Go.Proofs.YtolieljpnafbhaaGreatDoor
/-
  DERIVED: THE SHELF's CONTRACTS AT THIS DUMP, IN PLAIN WORDS (tools/lay-plain.mjs out of 'YtolieljpnafbhaaGreatDoorShelfTwo.lean', which tools/lay-shelf.mjs wrote): THE SAME DECLARATIONS UNDER THE SAME NAMES: 'import', 'namespace', 'open', 'def', 'theorem' AND NOTHING ELSE: no command of the shelf's: FOR A HAND-IN. Each laying: the table of numbers ('.._ren') and one theorem, a field a fact of the dump's own or the kernel's comparison; each contract: ONE APPLICATION.
-/
namespace Go.Proofs
open Go.Shelf
def Tryz.itoa_ren : Go.Shelf.Ren := ⟨fun | 171 => 92 | 243 => 122 | 246 => 168 | 283 => 193 | 284 => 194 | 285 => 195 | 286 => 196 | 129 => 153 | 317 => 217 | 318 => 218 | 319 => 219 | 320 => 220 | 337 => 236 | 338 => 237 | n => n, fun | 3 => 3 | 9 => 9 | 2 => 2 | 4 => 4 | 171 => 255 | 0 => 0 | 53 => 45 | 37 => 57 | 5 => 5 | 173 => 257 | 212 => 275 | 51 => 23 | 20 => 20 | 213 => 276 | 46 => 61 | 232 => 293 | 233 => 294 | n => n, fun | 17 => 0 | 18 => 1 | 19 => 2 | n => n⟩
theorem Tryz.itoa : Go.Proofs.Lays.n171 Tryz.prog Tryz.itoa_ren := {
  mixed := by kernel_rfl
  f129 := Tryz.func153.trans (congrArg some (by kernel_rfl))
  f171 := Tryz.func92.trans (congrArg some (by kernel_rfl))
  f243 := Tryz.func122.trans (congrArg some (by kernel_rfl))
  f246 := Tryz.func168.trans (congrArg some (by kernel_rfl))
  f283 := Tryz.func193.trans (congrArg some (by kernel_rfl))
  f284 := Tryz.func194.trans (congrArg some (by kernel_rfl))
  f285 := Tryz.func195.trans (congrArg some (by kernel_rfl))
  f286 := Tryz.func196.trans (congrArg some (by kernel_rfl))
  f317 := Tryz.func217.trans (congrArg some (by kernel_rfl))
  f318 := Tryz.func218.trans (congrArg some (by kernel_rfl))
  f319 := Tryz.func219.trans (congrArg some (by kernel_rfl))
  f320 := Tryz.func220.trans (congrArg some (by kernel_rfl))
  f337 := Tryz.func236.trans (congrArg some (by kernel_rfl))
  f338 := Tryz.func237.trans (congrArg some (by kernel_rfl))
  t0 := Tryz.underlying0
  a0 := Tryz.isAgg0
  z0 := Tryz.sizeOf0
  v0 := Tryz.zeroValue0
  t2 := Tryz.underlying2
  a2 := Tryz.isAgg2
  z2 := Tryz.sizeOf2
  v2 := Tryz.zeroValue2
  t3 := Tryz.underlying3
  a3 := Tryz.isAgg3
  z3 := Tryz.sizeOf3
  v3 := Tryz.zeroValue3
  t4 := Tryz.underlying4
  a4 := Tryz.isAgg4
  z4 := Tryz.sizeOf4
  v4 := Tryz.zeroValue4
  t5 := Tryz.underlying5
  a5 := Tryz.isAgg5
  z5 := Tryz.sizeOf5
  v5 := Tryz.zeroValue5
  t9 := Tryz.underlying9
  a9 := Tryz.isAgg9
  z9 := Tryz.sizeOf9
  v9 := Tryz.zeroValue9
  t20 := Tryz.underlying20
  a20 := Tryz.isAgg20
  z20 := Tryz.sizeOf20
  v20 := Tryz.zeroValue20
  t37 := Tryz.underlying57
  a37 := Tryz.isAgg57
  z37 := Tryz.sizeOf57
  v37 := Tryz.zeroValue57
  t46 := Tryz.underlying61
  a46 := Tryz.isAgg61
  z46 := Tryz.sizeOf61
  v46 := Tryz.zeroValue61
  t51 := Tryz.underlying23
  a51 := Tryz.isAgg23
  z51 := Tryz.sizeOf23
  v51 := Tryz.zeroValue23
  t53 := Tryz.underlying45
  a53 := Tryz.isAgg45
  z53 := Tryz.sizeOf45
  v53 := Tryz.zeroValue45
  t171 := Tryz.underlying255
  a171 := Tryz.isAgg255
  z171 := Tryz.sizeOf255
  v171 := Tryz.zeroValue255
  t173 := Tryz.underlying257
  a173 := Tryz.isAgg257
  z173 := Tryz.sizeOf257
  v173 := Tryz.zeroValue257
  t212 := Tryz.underlying275
  a212 := Tryz.isAgg275
  z212 := Tryz.sizeOf275
  v212 := Tryz.zeroValue275
  t213 := Tryz.underlying276
  a213 := Tryz.isAgg276
  z213 := Tryz.sizeOf276
  t232 := Tryz.underlying293
  a232 := Tryz.isAgg293
  z232 := Tryz.sizeOf293
  v232 := Tryz.zeroValue293
  t233 := Tryz.underlying294
  a233 := Tryz.isAgg294
  z233 := Tryz.sizeOf294
  v233 := Tryz.zeroValue294
  g17 := by kernel_rfl
  g18 := by kernel_rfl
  g19 := by kernel_rfl }
def Tryz.hasPre_ren : Go.Shelf.Ren := ⟨fun | 99 => 70 | 206 => 103 | n => n, fun | 9 => 9 | 4 => 4 | 3 => 3 | n => n, fun | n => n⟩
theorem Tryz.hasPre : Go.Proofs.Lays.n99 Tryz.prog Tryz.hasPre_ren := {
  mixed := by kernel_rfl
  f99 := Tryz.func70.trans (congrArg some (by kernel_rfl))
  f206 := Tryz.func103.trans (congrArg some (by kernel_rfl))
  t3 := Tryz.underlying3
  a3 := Tryz.isAgg3
  z3 := Tryz.sizeOf3
  v3 := Tryz.zeroValue3
  t4 := Tryz.underlying4
  a4 := Tryz.isAgg4
  z4 := Tryz.sizeOf4
  v4 := Tryz.zeroValue4
  t9 := Tryz.underlying9
  a9 := Tryz.isAgg9
  z9 := Tryz.sizeOf9
  v9 := Tryz.zeroValue9 }
def Tryz.delSrc_ren : Go.Shelf.Ren := ⟨fun | 45 => 141 | n => n, fun | 22 => 206 | 23 => 125 | 3 => 3 | 4 => 4 | 0 => 0 | n => n, fun | n => n⟩
theorem Tryz.delSrc : Go.Proofs.SlLaysE.n45 Tryz.prog Tryz.delSrc_ren := {
  mixed := by kernel_rfl
  f45 := ⟨Tryz.f141.name, by decide, Tryz.func141.trans (congrArg some (by kernel_rfl))⟩
  t0 := Tryz.underlying0
  a0 := Tryz.isAgg0
  z0 := Tryz.sizeOf0
  v0 := Tryz.zeroValue0
  t3 := Tryz.underlying3
  a3 := Tryz.isAgg3
  z3 := Tryz.sizeOf3
  v3 := Tryz.zeroValue3
  t4 := Tryz.underlying4
  a4 := Tryz.isAgg4
  z4 := Tryz.sizeOf4
  v4 := Tryz.zeroValue4
  t22 := Tryz.underlying206
  a22 := Tryz.isAgg206
  z22 := Tryz.sizeOf206
  v22 := Tryz.zeroValue206
  a23 := Tryz.isAgg125
  z23 := Tryz.sizeOf125 }
end Go.Proofs
/-
  extsort: open, create, fresh, drop.
-/
namespace Go.Proofs.YtolieljpnafbhaaGreatDoor
open Go.RowKit Go.Maps Go.MapKept

section
variable {S : Nat → Prop} {w w' : World} {pb db n cb kb sb jb byb made : Nat} {by' : Bool} {name : Name} {o o' : Owner} {d d' : Dsk} {L L' : Logic}

theorem JobAt.moved (h : JobAt w jb pb byb made by') (hm : Moved S n pb db w o d w' o' d' L') (h1 : o jb = none) (h2 : o byb = none) (h3 : ¬ S jb) (h4 : ¬ S byb) : JobAt w' jb pb byb made by' :=
  h.kept (hm.block h.lt.1 h1 h3) (hm.block h.lt.2 h2 h4)

theorem Sound.weaken {fs : List Frm} (h : Sound d fs L) {ps : List Pg} {fl : Bool} (hL : mget L name = some (.inl (ps, fl))) : Sound d fs (mput L name (.inl (ps, false))) where
  keys := mput_keys h.keys
  dkeys := h.dkeys
  names := fun x => by
    rw [isSome_mput, h.names]
    by_cases e : x = name
    · subst e; simp [hL]
    · simp [e]
  ok := fun x hx => by
    rw [isSome_mput] at hx
    by_cases e : x = name
    · subst e; exact h.ok x (by rw [hL]; rfl)
    · exact h.ok x (by simpa [e] using hx)
  paged := fun x ps' fl' hg => by
    rw [mget_mput] at hg
    by_cases e : x = name
    · rw [if_pos e] at hg
      cases hg
      subst e
      obtain ⟨f, dp, q⟩ := h.paged _ _ _ hL
      exact ⟨f, dp, q.get, q.now, q.le, q.most, q.short, q.sdp, q.each, fun e => by cases e⟩
    · rw [if_neg e] at hg
      exact h.paged x ps' fl' hg
  raws := fun x f' ls hg => by
    rw [mget_mput] at hg
    by_cases e : x = name
    · rw [if_pos e] at hg; cases hg
    · rw [if_neg e] at hg; exact h.raws x f' ls hg
  frames := fun fr hfr hf => by
    obtain ⟨ps', fl', h1, h2⟩ := h.frames fr hfr hf
    rw [mget_mput]
    by_cases e : fr.name = name
    · rw [if_pos e]
      rw [e, hL] at h1
      cases h1
      exact ⟨ps, false, rfl, h2⟩
    · rw [if_neg e]
      exact ⟨ps', fl', h1, h2⟩
  blank := h.blank
  once := h.once
  looseIn := fun x s hs => by
    rw [isSome_mput, h.looseIn x s hs]
    simp

theorem PoolAt.weaken (h : PoolAt w pb db n o d L) {ps : List Pg} {fl : Bool} (hL : mget L name = some (.inl (ps, fl))) : PoolAt w pb db n o d (mput L name (.inl (ps, false))) := by
  obtain ⟨fb, mb, l, hand, mf, h, hl, g⟩ := h
  exact ⟨fb, mb, l, hand, mf, h, hl, g.weaken hL⟩

theorem edgeFile_nil (fl : Bool) : edgeFile [] fl = .inl ([], fl) := rfl

/-- What is answered to Create. -/
def createCode (d : Dsk) (L : Logic) (name : Name) : Nat := if d.tick.dead = true then 6 else if okName name = false then 1 else if (mget L name).isSome = true then 4 else 0

def CreatePost (n pb db : Nat) (w : World) (o : Owner) (d : Dsk) (L : Logic) (name : Name) (e : Ending) (w' : World) : Prop :=
  ∃ d' o', e = .returned (.int .i64 (createCode d L name : Int)) ∧ Moved (fun _ => False) n pb db w o d w' o' d' (if createCode d L name = 0 then mput L name (.inl ([], true)) else L) ∧ (createCode d L name = 0 → d'.dead = false) ∧ (d.tick.dead = true → d'.dead = true)

theorem create_pool (h : PoolAt w pb db n o d L) (name : Name) (hs : name.size ≤ 1000) : Calls Tryz.prog 59 #[ptrTo pb, .string name] w (CreatePost n pb db w o d L name) := by
  obtain ⟨fb, mb, l, hand, mf, hp, hl, g⟩ := h
  refine (poolCreate_any hp name hs).mono ?_
  rintro e w' ⟨rfl, o', hd, ht, hg⟩
  have hp' := hp.reDisk hd ht hg
  have hcode : (d.create name).2 = createCode d L name := by
    unfold Dsk.create createCode
    rw [← g.names]
    split
    · rfl
    · split
      · rfl
      · split <;> rfl
  refine ⟨(d.create name).1, o', by rw [hcode], ⟨⟨fb, mb, l, hand, mf, hp', hl, ?_⟩, (Turn.pool ht).mono (fun _ _ h => .inl h), hg, ?_⟩, ?_, ?_⟩
  · unfold createCode Dsk.create
    rw [← g.names]
    split
    · exact g.tick
    · rename_i hdd
      split
      · exact g.tick
      · rename_i hok
        split
        · exact g.tick
        · rename_i hno
          rw [if_pos rfl]
          refine g.create (by simpa using hok) ?_ rfl (Dsk.tick_loose d)
          have := g.names name
          rw [Bool.not_eq_true] at hno
          rw [hno] at this
          exact Option.not_isSome_iff_eq_none.1 (by rw [← this]; simp)
  · unfold Dsk.create
    split
    · exact Onward.tick d
    · split
      · exact Onward.tick d
      · split
        · exact Onward.tick d
        · exact (Onward.tick d).of rfl rfl rfl
  · intro h0
    rw [← hcode] at h0
    unfold Dsk.create at h0 ⊢
    by_cases hdd : d.tick.dead = true
    · rw [if_pos hdd] at h0; cases h0
    · rw [if_neg hdd] at h0 ⊢
      have hdf : d.tick.dead = false := by simpa using hdd
      split
      · exact hdf
      · split <;> exact hdf
  · intro hdd
    unfold Dsk.create
    rw [if_pos hdd]
    exact hdd

/-! ### fresh -/
def tName (k : Nat) : Name := ⟨([116, 46] ++ Lib.decDigits k).toArray⟩

set_option maxRecDepth 100000 in
set_option maxHeartbeats 2000000 in
theorem fresh_any (hj : JobAt w jb pb byb made by') (hm : made < 100) (hne : byb ≠ jb) :
    Calls Tryz.prog 107 #[ptrTo jb] w fun e w' => e = .returned (.string (tName made)) ∧ JobAt w' jb pb byb (made + 1) by' ∧ Turn (· = jb) w w' := by
  obtain ⟨-, -, hc2, -, hz⟩ := hj.cells
  have HJ := Lib.hid hj
  have hit := Lib.hid (fun W => Any.strconv_Itoa_small (P := Tryz.prog) (ρ := Tryz.itoa_ren) { Tryz.itoa with } made hm W)
  have hjl := hj.lt
  have hw1 : IntKind.i64.wrap ((made : Int) + 1) = (made : Int) + 1 := wrap_in (by omega) (by omega)
  have hw2 : IntKind.i64.wrap ((made : Int) + 1 - 1) = (made : Int) := by rw [wrap_in (by omega) (by omega)]; omega
  clear hj
  have hdl : (Lib.decDigits made).length ≤ 2 := by
    by_cases h : made < 10
    · rw [Lib.decDigits_one h]; simp
    · rw [Lib.decDigits_two h hm]; simp
  have HT : Hid ((⟨#[116, 46]⟩ : ByteArray) ++ ⟨(Lib.decDigits made).toArray⟩ = tName made) := Lib.hid (by
    unfold tName
    apply ByteArray.ext
    simp)
  generalize Lib.decDigits made = dg at *
  unfold ptrTo
  go_enter Tryz.func107, Tryz.ntmps107
  go_wp2_with fail
  refine (hit.out _).mono ?_
  rintro e w' ⟨rfl, rfl⟩
  go_wp2
  go_ret
  refine ⟨by rw [← HT.out]; rfl, ?_, (Turn.refl _ w).setCell _ _ (.inl rfl)⟩
  obtain ⟨⟨t, h1⟩, ⟨t', h2⟩⟩ := HJ.out
  refine ⟨⟨t, ?_⟩, ⟨t', ?_⟩⟩
  · have := cells_set h1 2 (.int .i64 ((made : Int) + 1))
    rw [this]
    rfl
  · rw [Below.heap_setCell _ _ _ _ hne]
    exact h2

/-! ### drop -/
theorem mget_dels {κ υ : Type} [DecidableEq κ] (ns : List κ) : ∀ (L : List (κ × υ)) (x : κ), mget (ns.foldl mdel L) x = if x ∈ ns then none else mget L x := by
  induction ns with
  | nil => intro L x; simp
  | cons k ns ih =>
    intro L x
    rw [List.foldl_cons, ih, mget_mdel]
    by_cases e : x = k
    · subst e; simp
    · simp [e]

theorem keys_dels {κ υ : Type} [DecidableEq κ] (ns : List κ) : ∀ (L : List (κ × υ)), (L.map (·.1)).Nodup → ((ns.foldl mdel L).map (·.1)).Nodup := by
  induction ns with
  | nil => intro L h; exact h
  | cons k ns ih =>
    intro L h
    rw [List.foldl_cons]
    exact ih _ ((List.filter_sublist.map _).nodup h)

def DropAllPost (n pb db : Nat) (w : World) (o : Owner) (d : Dsk) (L : Logic) (ns : List Name) (e : Ending) (w' : World) : Prop :=
  ∃ c d' o' L', e = .returned (.int .i64 ((c : Nat) : Int)) ∧ Moved (fun _ => False) n pb db w o d w' o' d' L' ∧ ((c = 0 ∧ L' = ns.foldl mdel L) ∨ (c = 6 ∧ d'.dead = true ∧ ∀ x, x ∉ ns → mget L' x = mget L x))

set_option maxRecDepth 100000 in
set_option maxHeartbeats 4000000 in
theorem jobDrop_any (h : PoolAt w pb db n o d L) (hj : JobAt w jb pb byb made by') (hoj : o jb = none) {v : Value} {ns : List Name} (hv : NameRow w v ns) (hvo : ∀ b, v.ownBlock = some b → o b = none) (hL : ∀ x ∈ ns, ∃ ps fl, mget L x = some (.inl (ps, fl))) (hnd : ns.Nodup) (hlen : ns.length ≤ 100000) :
    Calls Tryz.prog 142 #[ptrTo jb, v] w (DropAllPost n pb db w o d L ns) := by
  have H := Lib.hid h
  have HJ := Lib.hid hj
  have HOJ := Lib.hid hoj
  have HV := Lib.hid hv
  have HVO := Lib.hid hvo
  have HL := Lib.hid hL
  have HND := Lib.hid hnd
  have hjl := hj.lt.1
  obtain ⟨g, off, cap, rfl⟩ := hv.shape
  obtain ⟨hl1, hl2, hl3, -⟩ := hv.cells
  unfold maxLen at hl3
  clear h hj hoj hv hvo hL hnd hl1
  generalize hN : ns.length = N at *
  have HN := Lib.hid hN
  clear hN
  unfold ptrTo
  go_enter Tryz.func142, Tryz.ntmps142
  go_wp2
  go_loopw [10] (fun i wr => ∃ (k : Nat) (d' : Dsk) (o' : Owner), k ≤ N ∧ i = .int .i64 (k : Int) ∧ Moved (fun _ => False) n pb db w o d wr o' d' ((ns.take k).foldl mdel L)) (fun i _ => N - (intOf i).toNat)
  case atStart => exact ⟨0, d, o, Nat.zero_le _, rfl, by simpa using Moved.refl _ H.out⟩
  case round =>
    obtain ⟨k, d1, o1, hk, rfl, hm⟩ := hrel
    by_cases hlt : k < N
    · have hkn : k < ns.length := by rw [HN.out]; exact hlt
      have hcell : wr.cell? ⟨g, off + k, none⟩ = some (.string ns[k]) := by
        have hv' := HV.out.kept (fun b hb => hm.block (HV.out.lt b hb) (HVO.out b hb) (fun h => h))
        rw [← HN.out] at hv'
        exact hv'.cells.2.2.2 k hkn
      have hjc : wr.cell? ⟨jb, 0, none⟩ = some (ptrTo pb) := hm.cell (HJ.out.cells.1) HOJ.out (fun h => h)
      unfold ptrTo at hjc
      obtain ⟨ps, fl, hLk⟩ := HL.out ns[k] (List.getElem_mem hkn)
      have hnot : ns[k] ∉ ns.take k := fun hmem => by
        obtain ⟨j, hj, he⟩ := List.getElem_of_mem hmem
        rw [List.getElem_take] at he
        rw [List.length_take] at hj
        have := (List.getElem_inj HND.out).1 he
        omega
      have hLk' : mget ((ns.take k).foldl mdel L) ns[k] = some (.inl (ps, fl)) := by rw [mget_dels, if_neg hnot, hLk]
      have hcall := Lib.hid (drop_any hm.pool hLk')
      have HM := Lib.hid hm
      have HSN : Hid (∀ L', L' = mdel ((ns.take k).foldl mdel L) ns[k] → L' = (ns.take (k + 1)).foldl mdel L) := Lib.hid (fun L' e => by rw [e, List.take_succ_eq_append_getElem hkn, List.foldl_append]; rfl)
      have HERR : Hid (∀ (L' : Logic) (dp : List Pg), L' = mput ((ns.take k).foldl mdel L) ns[k] (.inl (dp, false)) → ∀ x, x ∉ ns → mget L' x = mget L x) := Lib.hid (fun L' dp e x hx => by
        have hxk : x ≠ ns[k] := fun e' => hx (by rw [e']; exact List.getElem_mem hkn)
        rw [e, mget_mput, if_neg hxk, mget_dels, if_neg (fun h => hx (List.mem_of_mem_take h))])
      clear hm hLk hLk' hnot
      generalize ns[k] = nm at *
      unfold ptrTo at hcall
      go_wp2_with fail
      refine hcall.out.mono ?_
      rintro e w2 ⟨c2, d2, o2, L2, rfl, hp2, ht2, hg2, hon2, hdr2⟩
      have HM2 : Hid (Moved (fun _ => False) n pb db w o d w2 o2 d2 L2) := Lib.hid (HM.out.trans (moved_of (S := fun _ => False) hp2 ht2 hg2 hon2) (fun _ _ h => h))
      clear hp2 ht2 hg2 hon2 hcell hjc
      rcases hdr2 with ⟨rfl, he⟩ | ⟨rfl, hdd, dp, he⟩
      · have HE := Lib.hid (HSN.out L2 he)
        clear he
        go_wp2
        go_roundw
        case rel => exact ⟨k + 1, d2, o2, by omega, by go_num, by rw [← HE.out]; exact HM2.out⟩
        case measure => simp [intOf]; omega
      · have HE := Lib.hid (HERR.out L2 dp he)
        have HDD := Lib.hid hdd
        clear he hdd
        go_wp2
        go_ret
        exact ⟨6, d2, o2, L2, rfl, HM2.out, .inr ⟨rfl, HDD.out, HE.out⟩⟩
    · obtain rfl : k = N := by omega
      have HM := Lib.hid hm
      clear hm
      go_wp2
      go_ret
      refine ⟨0, d1, o1, _, rfl, HM.out, .inl ⟨rfl, ?_⟩⟩
      rw [List.take_of_length_le (by rw [HN.out]; exact Nat.le_refl _)]

/-! ### open, create -/
def edg0 : Edg := ⟨0, 0, 0, 0⟩

def OpenSrcPost (n pb db : Nat) (w : World) (o : Owner) (d : Dsk) (L : Logic) (name : Name) (N : Nat) (e : Ending) (w' : World) : Prop :=
  ∃ v c d' o', e = .returned (.tuple #[v, .int .i64 ((c : Nat) : Int)]) ∧ Moved (fun _ => False) n pb db w o d w' o' d' L ∧ (c = 0 ∨ Err d d' L c) ∧
    (c = 0 → ∃ cb sb, v = ptrTo cb ∧ SourceAt w' cb sb 0 N edg0 ∧ StreamAt w' sb pb name 20 ∧ o' cb = none ∧ o' sb = none ∧ w.heap.size ≤ cb ∧ w.heap.size ≤ sb)

set_option maxRecDepth 100000 in
set_option maxHeartbeats 4000000 in
theorem jobOpen_any (HW : WriteSaid) (h : PoolAt w pb db n o d L) (hj : JobAt w jb pb byb made by') {es : List Edg} {fl : Bool} (hL : mget L name = some (edgeFile es fl)) :
    Calls Tryz.prog 72 #[ptrTo jb, .string name] w (OpenSrcPost n pb db w o d L name es.length) := by
  have hs := okName_1000 (h.ok hL)
  have hopen := Lib.hid (streamOpen_any (sz := 20) h name hs (by decide) (by decide))
  have hlen : Hid (∀ W o' d' sb, PoolAt W pb db n o' d' L → StreamAt W sb pb name 20 → o' sb = none → Calls Tryz.prog 30 #[ptrTo sb] W (Stays n pb db W o' d' L (numIs es.length))) := Lib.hid (fun W o' d' sb hW hst ho' => by
    have := streamLen_any HW hW hst ho' (by decide) (by decide) hL (sized_edges es)
    rw [List.length_map] at this
    exact this)
  have hpf := pfOpen_paged h hL
  have H := Lib.hid h
  have hc0 := hj.cells.1
  clear h hj hL
  unfold ptrTo at *
  generalize es.length = N at *
  cases hd : d.dead with
  | true =>
    rw [hd, if_pos rfl] at hpf
    rw [hpf] at hopen
    have HD := Lib.hid hd
    clear hd hpf
    go_enter Tryz.func72, Tryz.ntmps72
    go_wp2_with fail
    refine hopen.out.mono ?_
    rintro e w1 ⟨v1, rfl, hb1, -, hbad⟩
    obtain rfl := hbad (by decide)
    have HB := Lib.hid hb1
    clear hb1 hbad
    go_wp2
    go_ret2
    exact ⟨_, 6, d, o, rfl, Moved.ofBelow H.out HB.out, .inr (.inr ⟨rfl, HD.out⟩), fun h => absurd h (by decide)⟩
  | false =>
    rw [hd, if_neg (by simp)] at hpf
    rw [hpf] at hopen
    clear hd hpf
    go_enter Tryz.func72, Tryz.ntmps72
    go_wp2_with fail
    refine hopen.out.mono ?_
    rintro e w1 ⟨v1, rfl, hb1, hok, -⟩
    obtain ⟨sb, rfl, hst1, hsb⟩ := hok rfl
    have HB := Lib.hid hb1
    have HST1 := Lib.hid hst1
    have hfree : o sb = none := H.out.fresh hsb
    have HF := Lib.hid hfree
    have hcall := Lib.hid (hlen.out w1 o d sb (H.out.below hb1) hst1 hfree)
    clear hb1 hst1 hok hfree
    unfold ptrTo at *
    go_wp2_with fail
    refine hcall.out.mono ?_
    rintro e w2 ⟨c2, d2, o2, ⟨x, rfl, hx⟩, hm2, he2⟩
    have HX := Lib.hid hx
    have HM2 := Lib.hid ((Moved.ofBelow H.out HB.out).trans hm2 (fun _ _ h => h))
    have HST2 := Lib.hid (HST1.out.moved hm2 HF.out (fun h => h))
    have HE2 := Lib.hid he2
    have hsb1 := HST1.out.lt
    have hs2 : w.heap.size ≤ w2.heap.size := HM2.out.size
    have HF2 : Hid (o2 sb = none) := Lib.hid (hm2.free hsb1 HF.out)
    clear hx hm2 he2
    go_wp2
    go_ret2
    refine ⟨_, c2, d2, o2, rfl, HM2.out.alloc _, HE2.out, fun h0 => ⟨w2.heap.size, sb, rfl, ⟨180, ?_⟩, HST2.out.below ((Below.refl _ _).alloc (Nat.le_refl _) _), HM2.out.pool.fresh (Nat.le_refl _), HF2.out, hs2, hsb⟩⟩
    rw [heap_alloc_new, HX.out h0]
    rfl

def CreateSinkPost (n pb db : Nat) (w : World) (o : Owner) (d : Dsk) (L : Logic) (name : Name) (e : Ending) (w' : World) : Prop :=
  ∃ v c d' o', e = .returned (.tuple #[v, .int .i64 ((c : Nat) : Int)]) ∧ Moved (fun _ => False) n pb db w o d w' o' d' (if c = 0 then mput L name (edgeFile [] false) else L) ∧ (c = 0 ∨ c = 6 ∧ d'.dead = true) ∧
    (c = 0 → ∃ kb sb, v = ptrTo kb ∧ SinkOf w' kb sb [] ∧ StreamAt w' sb pb name 20 ∧ o' kb = none ∧ o' sb = none ∧ kb ≠ sb ∧ w.heap.size ≤ kb ∧ w.heap.size ≤ sb)

set_option maxRecDepth 100000 in
set_option maxHeartbeats 4000000 in
theorem jobCreate_any (h : PoolAt w pb db n o d L) (hj : JobAt w jb pb byb made by') (hoj : o jb = none) (hok : okName name = true) (hno : mget L name = none) :
    Calls Tryz.prog 138 #[ptrTo jb, .string name] w (CreateSinkPost n pb db w o d L name) := by
  have hs := okName_1000 hok
  have hcr := Lib.hid (create_pool h name hs)
  have hcode : createCode d L name = if d.tick.dead = true then 6 else 0 := by
    unfold createCode
    rw [hok, hno]
    rfl
  have hopen : Hid (∀ W o' d' L', PoolAt W pb db n o' d' L' → Calls Tryz.prog 29 #[ptrTo pb, .string name, .int .i64 20] W (StreamOpenPost W pb name 20 (pfOpen d' name))) := Lib.hid (fun W o' d' L' hW => streamOpen_any (sz := 20) hW name hs (by decide) (by decide))
  have hjl := hj.lt.1
  have HJ := Lib.hid hj
  have HOJ := Lib.hid hoj
  have hc0 := hj.cells.1
  have HKEYS := Lib.hid h.keys
  clear h hj hoj hok hno
  unfold ptrTo at *
  cases hd : d.tick.dead with
  | true =>
    rw [hd, if_pos rfl] at hcode
    unfold CreatePost at hcr
    rw [hcode] at hcr
    have HD := Lib.hid hd
    clear hd hcode
    go_enter Tryz.func138, Tryz.ntmps138
    go_wp2_with fail
    refine hcr.out.mono ?_
    rintro e w1 ⟨d1, o1, rfl, hm1, -, hdd⟩
    rw [if_neg (by decide)] at hm1
    have HM := Lib.hid hm1
    have HDD := Lib.hid (hdd HD.out)
    clear hm1 hdd
    go_wp2
    go_ret2
    exact ⟨_, 6, d1, o1, rfl, HM.out, .inr ⟨rfl, HDD.out⟩, fun h => absurd h (by decide)⟩
  | false =>
    rw [hd, if_neg (by simp)] at hcode
    unfold CreatePost at hcr
    rw [hcode] at hcr
    clear hd hcode
    go_enter Tryz.func138, Tryz.ntmps138
    go_wp2_with fail
    refine hcr.out.mono ?_
    rintro e w1 ⟨d1, o1, rfl, hm1, hdd, -⟩
    simp only [if_true] at hm1
    have hget : mget (mput L name (.inl (([] : List Pg), true))) name = some (.inl (([] : List Pg), true)) := by rw [mget_mput, if_pos rfl]
    have hpf : pfOpen d1 name = 0 := by
      rw [pfOpen_paged hm1.pool hget, hdd trivial]
      rfl
    have hj1 : w1.cell? ⟨jb, 0, none⟩ = some (.pointer (some ⟨pb, 0, none⟩)) := hm1.cell hc0 HOJ.out (fun h => h)
    have hcall := Lib.hid (hopen.out w1 o1 d1 _ hm1.pool)
    rw [hpf] at hcall
    have hm1' : Moved (fun _ => False) n pb db w o d w1 o1 d1 (mput L name (edgeFile [] false)) :=
      ⟨(hm1.pool.weaken hget).congr (mput_keys HKEYS.out) (fun x => by
        rw [edgeFile_nil, mget_mput, mget_mput, mget_mput]
        by_cases e : x = name
        · rw [if_pos e, if_pos e]
        · rw [if_neg e, if_neg e, if_neg e]), hm1.turn, hm1.grow, hm1.on⟩
    have HM := Lib.hid hm1'
    have HF := Lib.hid (fun x (hx : w1.heap.size ≤ x) => hm1.pool.fresh hx)
    have hs1 : w.heap.size ≤ w1.heap.size := hm1.size
    clear hm1 hm1' hdd hpf hget
    go_wp2_with fail
    refine hcall.out.mono ?_
    rintro e w2 ⟨v2, rfl, hb2, hok2, -⟩
    obtain ⟨sb, rfl, hst2, hsb⟩ := hok2 rfl
    have HB2 := Lib.hid hb2
    have HST2 := Lib.hid hst2
    have hsb2 := hst2.lt
    have hs2 : w1.heap.size ≤ w2.heap.size := hb2.size
    clear hb2 hst2 hok2
    unfold ptrTo
    go_wp2
    go_ret2
    refine ⟨_, 0, d1, o1, rfl, by rw [if_pos rfl]; exact (HM.out.below HB2.out).alloc _, .inl rfl, fun _ => ⟨w2.heap.size, sb, rfl, .inl ⟨rfl, edg0, ⟨237, ?_⟩⟩, HST2.out.below ((Below.refl _ _).alloc (Nat.le_refl _) _), HF.out _ hs2, HF.out _ hsb, by omega, by omega, by omega⟩⟩
    rw [heap_alloc_new]
    rfl
end

end Go.Proofs.YtolieljpnafbhaaGreatDoor
/-
  DERIVED: THE SHELF's CONTRACTS AT THIS DUMP, IN PLAIN WORDS (tools/lay-plain.mjs out of 'YtolieljpnafbhaaGreatDoorShelfThree.lean', which tools/lay-shelf.mjs wrote): THE SAME DECLARATIONS UNDER THE SAME NAMES: 'import', 'namespace', 'open', 'def', 'theorem' AND NOTHING ELSE: no command of the shelf's: FOR A HAND-IN. Each laying: the table of numbers ('.._ren') and one theorem, a field a fact of the dump's own or the kernel's comparison; each contract: ONE APPLICATION.
-/
namespace Go.Proofs
open Go.Shelf
def Tryz.sortEdges_ren : Go.Shelf.Ren := ⟨fun | 6 => 174 | 15 => 110 | 14 => 207 | 28 => 152 | 29 => 153 | 20 => 225 | 21 => 226 | 22 => 227 | 23 => 228 | 24 => 229 | 25 => 230 | 26 => 231 | 27 => 232 | 46 => 240 | 47 => 179 | 48 => 180 | 49 => 241 | 50 => 242 | 57 => 244 | n => n, fun | 22 => 40 | 24 => 47 | 25 => 210 | 3 => 3 | 39 => 61 | 0 => 0 | 53 => 23 | 55 => 45 | 4 => 4 | 46 => 216 | 45 => 215 | 50 => 188 | 5 => 5 | 9 => 9 | 66 => 240 | 70 => 244 | 76 => 269 | 77 => 82 | n => n, fun | n => n⟩
theorem Tryz.sortEdges : Go.Proofs.SlLaysF0.n6 Tryz.prog Tryz.sortEdges_ren := {
  mixed := by kernel_rfl
  f6 := ⟨Tryz.f174.name, by decide, Tryz.func174.trans (congrArg some (by kernel_rfl))⟩
  f14 := ⟨Tryz.f207.name, by decide, Tryz.func207.trans (congrArg some (by kernel_rfl))⟩
  f15 := Tryz.func110.trans (congrArg some (by kernel_rfl))
  f20 := ⟨Tryz.f225.name, by decide, Tryz.func225.trans (congrArg some (by kernel_rfl))⟩
  f21 := ⟨Tryz.f226.name, by decide, Tryz.func226.trans (congrArg some (by kernel_rfl))⟩
  f22 := ⟨Tryz.f227.name, by decide, Tryz.func227.trans (congrArg some (by kernel_rfl))⟩
  f23 := ⟨Tryz.f228.name, by decide, Tryz.func228.trans (congrArg some (by kernel_rfl))⟩
  f24 := ⟨Tryz.f229.name, by decide, Tryz.func229.trans (congrArg some (by kernel_rfl))⟩
  f25 := ⟨Tryz.f230.name, by decide, Tryz.func230.trans (congrArg some (by kernel_rfl))⟩
  f26 := ⟨Tryz.f231.name, by decide, Tryz.func231.trans (congrArg some (by kernel_rfl))⟩
  f27 := ⟨Tryz.f232.name, by decide, Tryz.func232.trans (congrArg some (by kernel_rfl))⟩
  f28 := Tryz.func152.trans (congrArg some (by kernel_rfl))
  f29 := Tryz.func153.trans (congrArg some (by kernel_rfl))
  f46 := ⟨Tryz.f240.name, by decide, Tryz.func240.trans (congrArg some (by kernel_rfl))⟩
  f47 := Tryz.func179.trans (congrArg some (by kernel_rfl))
  f48 := Tryz.func180.trans (congrArg some (by kernel_rfl))
  f49 := ⟨Tryz.f241.name, by decide, Tryz.func241.trans (congrArg some (by kernel_rfl))⟩
  f50 := ⟨Tryz.f242.name, by decide, Tryz.func242.trans (congrArg some (by kernel_rfl))⟩
  f57 := ⟨Tryz.f244.name, by decide, Tryz.func244.trans (congrArg some (by kernel_rfl))⟩
  t0 := Tryz.underlying0
  a0 := Tryz.isAgg0
  z0 := Tryz.sizeOf0
  v0 := Tryz.zeroValue0
  t3 := Tryz.underlying3
  a3 := Tryz.isAgg3
  z3 := Tryz.sizeOf3
  v3 := Tryz.zeroValue3
  t4 := Tryz.underlying4
  a4 := Tryz.isAgg4
  z4 := Tryz.sizeOf4
  v4 := Tryz.zeroValue4
  t5 := Tryz.underlying5
  a5 := Tryz.isAgg5
  z5 := Tryz.sizeOf5
  v5 := Tryz.zeroValue5
  t9 := Tryz.underlying9
  a9 := Tryz.isAgg9
  z9 := Tryz.sizeOf9
  v9 := Tryz.zeroValue9
  t22 := Tryz.underlying40
  a22 := Tryz.isAgg40
  z22 := Tryz.sizeOf40
  v22 := Tryz.zeroValue40
  t25 := Tryz.underlying210
  a25 := Tryz.isAgg210
  z25 := Tryz.sizeOf210
  v25 := Tryz.zeroValue210
  t39 := Tryz.underlying61
  a39 := Tryz.isAgg61
  z39 := Tryz.sizeOf61
  v39 := Tryz.zeroValue61
  t45 := Tryz.underlying215
  a45 := Tryz.isAgg215
  z45 := Tryz.sizeOf215
  v45 := Tryz.zeroValue215
  t46 := Tryz.underlying216
  a46 := Tryz.isAgg216
  z46 := Tryz.sizeOf216
  v46 := Tryz.zeroValue216
  t50 := Tryz.underlying188
  a50 := Tryz.isAgg188
  z50 := Tryz.sizeOf188
  v50 := Tryz.zeroValue188
  t53 := Tryz.underlying23
  a53 := Tryz.isAgg23
  z53 := Tryz.sizeOf23
  v53 := Tryz.zeroValue23
  t55 := Tryz.underlying45
  a55 := Tryz.isAgg45
  z55 := Tryz.sizeOf45
  v55 := Tryz.zeroValue45
  t66 := Tryz.underlying240
  a66 := Tryz.isAgg240
  z66 := Tryz.sizeOf240
  v66 := Tryz.zeroValue240
  t70 := Tryz.underlying244
  a70 := Tryz.isAgg244
  z70 := Tryz.sizeOf244
  v70 := Tryz.zeroValue244
  t76 := Tryz.underlying269
  a76 := Tryz.isAgg269
  z76 := Tryz.sizeOf269
  v76 := Tryz.zeroValue269
  t77 := Tryz.underlying82
  a77 := Tryz.isAgg82
  z77 := Tryz.sizeOf82
  v77 := Tryz.zeroValue82 }
end Go.Proofs
/-
  A row of edges, and what sorting it says; at none and at one.
-/
namespace Go.Proofs.YtolieljpnafbhaaGreatDoor
open Go.RowKit Go.Maps Go.MapKept

def edgRow : List Edg → List Value
  | [] => []
  | e :: l => e.cells ++ edgRow l

theorem edgRow_length (l : List Edg) : (edgRow l).length = l.length * 4 := by
  induction l with
  | nil => rfl
  | cons e l ih => rw [edgRow, List.length_append, ih, List.length_cons]; simp; omega

theorem edgRow_append (a b : List Edg) : edgRow (a ++ b) = edgRow a ++ edgRow b := by
  induction a with
  | nil => rfl
  | cons e a ih => rw [List.cons_append, edgRow, edgRow, ih, List.append_assoc]

theorem edgRow_get {l : List Edg} {i : Nat} {e : Edg} (h : l[i]? = some e) {j : Nat} (hj : j < 4) : (edgRow l)[i * 4 + j]? = e.cells[j]? := by
  induction l generalizing i with
  | nil => cases h
  | cons q l ih =>
    rw [edgRow]
    cases i with
    | zero =>
      cases h
      rw [List.getElem?_append_left (by simp [Edg.cells]; omega)]
      simp
    | succ i =>
      rw [List.getElem?_append_right (by simp [Edg.cells]; omega), ← ih (i := i) (by simpa using h)]
      congr 1
      simp [Edg.cells]
      omega

abbrev ownsEdges (w : World) (base : Nat) (v : Value) (l : List Edg) : Prop := w.ownsRow base 47 4 v l.length (edgRow l)

theorem ownsEdges_cells {w : World} {base g cap : Nat} {l : List Edg} (h : ownsEdges w base (.slice (some ⟨g, 0, none⟩) l.length cap) l) {i : Nat} {e : Edg} (hi : l[i]? = some e) :
    w.cell? ⟨g, i * 4, none⟩ = some (.int .u32 (e.t.toNat : Int)) ∧ w.cell? ⟨g, i * 4 + 1, none⟩ = some (.int .u32 (e.h.toNat : Int)) ∧ w.cell? ⟨g, i * 4 + 2, none⟩ = some (.int .u64 (e.x.toNat : Int)) ∧ w.cell? ⟨g, i * 4 + 3, none⟩ = some (.int .u32 (e.m.toNat : Int)) := by
  have hc : ∀ (j : Nat) (u : Value), (edgRow l)[j]? = some u → w.cell? ⟨g, j, none⟩ = some u := fun j u hj => by
    have := World.ownsRow.cells h (g := g) rfl j u hj
    rwa [Addr_add, Nat.zero_add] at this
  refine ⟨hc _ _ ?_, hc _ _ ?_, hc _ _ ?_, hc _ _ ?_⟩
  · have := edgRow_get hi (j := 0) (by decide); rw [Nat.add_zero] at this; rw [this]; rfl
  · rw [edgRow_get hi (by decide)]; rfl
  · rw [edgRow_get hi (by decide)]; rfl
  · rw [edgRow_get hi (by decide)]; rfl

theorem ownsEdges_shape {w : World} {base : Nat} {v : Value} {l : List Edg} (h : ownsEdges w base v l) : (l = [] ∧ v = .slice none 0 0) ∨ ∃ g cap, v = .slice (some ⟨g, 0, none⟩) l.length cap ∧ base ≤ g ∧ l.length ≤ cap ∧ cap ≤ maxLen := by
  obtain ⟨_, ⟨h1, h2⟩ | ⟨g, cap, cur, h1, h2, h3, h4, h5, _⟩⟩ := h
  · exact .inl ⟨List.eq_nil_of_length_eq_zero h2, h1⟩
  · exact .inr ⟨g, cap, h1, h2, h4, h5⟩

theorem info_edge : (Tryz.prog.info? 47).map (fun i => (i.zero, i.size, i.bytes)) = some (some (.agg #[.int .u32 0, .int .u32 0, .int .u64 0, .int .u32 0]), 4, 24) := by kernel_rfl

def cmpFn (jb : Nat) : Value := .func (.func 139) #[ptrTo jb] #[]

/-- What sorting a row of edges leaves. -/
def SortedPost (b : Bool) (w : World) (base g cap : Nat) (es : List Edg) (e : Ending) (w' : World) : Prop :=
  ∃ ts, e = .returned (.tuple #[]) ∧ ts.Perm es ∧ ts.Pairwise (Ahead b) ∧ ownsEdges w' base (.slice (some ⟨g, 0, none⟩) es.length cap) ts ∧ Turn (· = g) w w'

/-- slices.SortFunc over edges, so many of them at the most. -/
def SortSaid (m : Nat) : Prop := ∀ {w : World} {jb pb byb made : Nat} {b : Bool}, JobAt w jb pb byb made b → ∀ {base g cap : Nat} (es : List Edg), es.length ≤ m → ownsEdges w base (.slice (some ⟨g, 0, none⟩) es.length cap) es → g ≠ jb → g ≠ byb →
  Calls Tryz.prog 174 #[.slice (some ⟨g, 0, none⟩) es.length cap, cmpFn jb] w (SortedPost b w base g cap es)

theorem sortNone_any (p : Option Addr) (cap : Nat) (fv : Value) (w : World) : Calls Tryz.prog 174 #[.slice p 0 cap, fv] w fun e w' => e = .returned (.tuple #[]) ∧ w = w' :=
  (AnyF.slices_SortFunc_none (P := Tryz.prog) (ρ := Tryz.sortEdges_ren) { Tryz.sortEdges with } p cap fv w).mono fun _ _ ⟨h1, h2⟩ => ⟨h1, h2.symm⟩

set_option maxRecDepth 100000 in
set_option maxHeartbeats 1000000 in
theorem insertOne_any (v fv : Value) (w : World) : Calls Tryz.prog 225 #[v, .int .i64 0, .int .i64 1, fv] w fun e w' => e = .returned (.tuple #[]) ∧ w = w' := by
  go_enter Tryz.func225, Tryz.ntmps225
  go_wp2
  refine wp_loop_rounds 1 ?_
  iterate 1 (rw [rounds_succ]; go_wp2)
  go_returns
  exact ⟨rfl, rfl⟩

set_option maxRecDepth 100000 in
set_option maxHeartbeats 1000000 in
theorem pdqOne_any (v fv : Value) (lim : Int) (w : World) : Calls Tryz.prog 207 #[v, .int .i64 0, .int .i64 1, .int .i64 lim, fv] w fun e w' => e = .returned (.tuple #[]) ∧ w = w' := by
  go_enter Tryz.func207, Tryz.ntmps207
  go_wp2
  refine wp_loop_rounds 1 ?_
  rw [rounds_succ]
  go_wp2_with fail
  refine (insertOne_any _ _ _).mono ?_
  rintro e w' ⟨rfl, rfl⟩
  go_wp2
  go_returns
  exact ⟨rfl, rfl⟩

set_option maxRecDepth 100000 in
set_option maxHeartbeats 1000000 in
theorem sortOne_any (g cap : Nat) (fv : Value) (w : World) : Calls Tryz.prog 174 #[.slice (some ⟨g, 0, none⟩) 1 cap, fv] w fun e w' => e = .returned (.tuple #[]) ∧ w = w' := by
  have hl : Calls Tryz.prog 110 #[.int .u64 1] w fun e w' => e = .returned (.int .i64 (Lib.bitLen 1 : Nat)) ∧ w' = w :=
    Any.bits_Len (SlLaysF0.n15.bits (P := Tryz.prog) (ρ := Tryz.sortEdges_ren) { Tryz.sortEdges with }) 1 w (by omega) (by omega)
  have HL := Lib.hid hl
  clear hl
  go_enter Tryz.func174, Tryz.ntmps174
  go_wp2_with fail
  refine HL.out.mono ?_
  rintro e w' ⟨rfl, rfl⟩
  go_wp2_with fail
  refine (pdqOne_any _ _ _ _).mono ?_
  rintro e w' ⟨rfl, rfl⟩
  go_wp2
  go_returns
  exact ⟨rfl, rfl⟩

theorem sortSaid_one : SortSaid 1 := by
  intro w jb pb byb made b hj base g cap es hm ho _ _
  match es, hm with
  | [], _ =>
    refine (sortNone_any _ _ _ _).mono ?_
    rintro e w' ⟨rfl, rfl⟩
    exact ⟨[], rfl, List.Perm.refl _, List.Pairwise.nil, ho, Turn.refl _ _⟩
  | [x], _ =>
    refine (sortOne_any _ _ _ _).mono ?_
    rintro e w' ⟨rfl, rfl⟩
    exact ⟨[x], rfl, List.Perm.refl _, List.pairwise_singleton _ _, ho, Turn.refl _ _⟩

end Go.Proofs.YtolieljpnafbhaaGreatDoor
