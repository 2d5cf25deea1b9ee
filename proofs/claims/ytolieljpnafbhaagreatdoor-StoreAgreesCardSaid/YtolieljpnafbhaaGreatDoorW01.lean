/-
  Joined, in build order, what is needed of: Law13k, Law13l.
-/
import Derived.Test.YtolieljpnafbhaaGreatDoorV16
import Derived.Test.YtolieljpnafbhaaGreatDoorCards
import Derived.Test.YtolieljpnafbhaaGreatDoorTie
import Derived.WalkKit
import Derived.ProofKit
import Derived.OpenShut
import Derived.Deep.DeepHandedRow
import Derived.Lib.LaidTab
import Derived.Lib.SmallJoins
import Derived.Maps.OwnSet
import Derived.Maps.RangeWalk
import Derived.StillTail
import Derived.Deep.Quiet
import Derived.Deep.QuietTactic
import Derived.BigQuiet
import Derived.Test.YtolieljpnafbhaaGreatDoorRows
import Derived.WalkSpells
import Derived.WalkLawsBesides
import Derived.Lib.Hide
import Derived.Handy
import Derived.IntWalk
import Derived.Deep.LoopGhost
import Derived.Deep.RegionHeld3
import Derived.Deep.DeepCutAuto
import Derived.Laws.Tables
import Derived.Deep.WholeRow
import Derived.Lib.AppendZerosOnto
import Derived.Maps.AppendAt
import Derived.Deep.MidRow
import Derived.Lib.ConvBytes
import Derived.DeepKeys4
import Derived.Laws.CopyOwn
import Derived.Orders
import Derived.StillTailTactics
import Derived.Shelf.SlSortCmp.Whole1
import Derived.Ground.SlsfProg
import Derived.Shelf.SlGeneric
import Derived.Test.YtolieljpnafbhaaGreatDoorProg
import Derived.Sort.OwnSortedInts
import Derived.Shelf.SlSortCmp.NoneTotal
import Derived.Shelf.SlSortCmp.Insertion
import Derived.Sort.Grow
import Derived.Deep.AppendSrc
import Derived.Shelf.Strconv.Itoa3
import Derived.Shelf.Strings.Prefix
import Derived.Shelf.SlicesE.Delete
import Derived.Ground.NamesProg
import Derived.Ground.SlgnProg
import Derived.Shelf.LaysM
import Derived.Sort.WalkA
import Derived.Shelf.SlicesQ.Load
import Derived.Shelf.SlicesQ.Reverse
import Derived.Shelf.RegionOpenPlain
import Derived.Sort.WalkB3
import Derived.Sort.LotD5
import Derived.Sort.Walk7
import Derived.Deep.CutBlock
import Derived.Sort.WalkC
import Derived.Sort.WalkA6
import Derived.Sort.AssemblyPlain
import Derived.Sort.Walk13a
import Derived.Below
import Derived.Deep.RegionWith
import Derived.Laws.IdiomStrings
import Derived.Shelf.Sort.Plain
import Derived.Shelf.Slices.In.SortNone
import Derived.Laws.BytesArg
import Derived.Laws.OwnMore
namespace Go.Proofs.YtolieljpnafbhaaGreatDoor
open Go.RowKit Go.Maps
section
variable {S : Nat → Prop} {w0 w w' : World} {pb db n gb gen N ob ib vb : Nat} {o o' : Owner} {d d' : Dsk} {L L' : Logic}
theorem GraphAt.movedS (h : GraphAt w o gb pb gen N ob ib vb) (hm : Moved S n pb db w o d w' o' d' L') (hs : ∀ x, x < w.heap.size → ¬ S x) : GraphAt w' o' gb pb gen N ob ib vb :=
 ⟨h.raw.moved hm h.ogb (hs _ h.raw.lt), h.out.moved hm h.oob (hs _ h.out.lt), h.inn.moved hm h.oib (hs _ h.inn.lt), h.verts.moved hm h.ovb (hs _ h.verts.lt), hm.free h.raw.lt h.ogb, hm.free h.out.lt h.oob, hm.free h.inn.lt h.oib, hm.free h.verts.lt h.ovb⟩
def edgVal (x : Edg) : Value := .agg #[.int .u32 (x.t.toNat : Int), .int .u32 (x.h.toNat : Int), .int .u64 (x.x.toNat : Int), .int .u32 (x.m.toNat : Int)]
theorem held_edges (HW : WriteSaid) (h : Held w0 w pb db n o d L) (hq : need L ≤ 131072) (hg : GraphAt w o gb pb gen N ob ib vb) {es : List Edg} {fl : Bool} (hL : mget L (sName 101 gen) = some (edgeFile es fl)) :
 Calls Tryz.prog 23 #[ptrTo gb] w fun e w' => ∃ d' o', e = .returned (.tuple #[.int .i64 (es.length : Int), .int .i64 0]) ∧ Moved (fun _ => False) n pb db w o d w' o' d' L := by
 refine (graphEdges_any HW h.pool hg hL).mono ?_
 rintro e w' ⟨c, d', o', ⟨x, rfl, hx⟩, hm, he⟩
 have h0 : c = 0 := h.fine' hm he hq
 subst h0
 rw [hx rfl]
 exact ⟨d', o', rfl, hm⟩
theorem held_edge (HW : WriteSaid) (h : Held w0 w pb db n o d L) (hq : need L ≤ 131072) (hg : GraphAt w o gb pb gen N ob ib vb) {es : List Edg} {fl : Bool} (hL : mget L (sName 101 gen) = some (edgeFile es fl)) {i : Nat} {x : Edg} (hi : es[i]? = some x) :
 Calls Tryz.prog 24 #[ptrTo gb, .int .i64 (i : Int)] w fun e w' => ∃ d' o', e = .returned (.tuple #[edgVal x, .int .i64 0]) ∧ Moved (fun _ => False) n pb db w o d w' o' d' L := by
 refine (graphEdge_in HW h.pool hg hL hi).mono ?_
 rintro e w' ⟨c, d', o', y, rfl, hm, he, hy, -⟩
 have h0 : c = 0 := h.fine' hm he hq
 subst h0
 rw [hy rfl]
 exact ⟨d', o', rfl, hm⟩
def HeldOf (n pb db : Nat) (w : World) (o : Owner) (d : Dsk) (L : Logic) (ts : List Edg) (e : Ending) (w' : World) : Prop :=
 ∃ v d' o', e = .returned (.tuple #[v, .int .i64 0]) ∧ Moved (fun _ => False) n pb db w o d w' o' d' L ∧ ownsEdges w' w.heap.size v ts ∧ ∀ x, v.ownBlock = some x → o' x = none
theorem held_out (HW : WriteSaid) (h : Held w0 w pb db n o d L) (hq : need L ≤ 131072) (hg : GraphAt w o gb pb gen N ob ib vb) {es : List Edg} (hL : mget L (sName 101 gen) = some (edgeFile (bestOf false es) true)) (hl : es.length ≤ 1000) {v : Nat} (hv : v < N) (hN : N ≤ 1000) :
 Calls Tryz.prog 21 #[ptrTo gb, .int .u32 (v : Int)] w (HeldOf n pb db w o d L (ofL false v (bestOf false es))) := by
 refine (graphOut_in HW h.pool hg hL (rise_bestOf false es) (by have := bestOf_length false es; omega) hv (by omega)).mono ?_
 rintro e w' ⟨v', c, d', o', rfl, hm, he, hv', -⟩
 have h0 : c = 0 := h.fine' hm he hq
 subst h0
 obtain ⟨h1, h2⟩ := hv' rfl
 exact ⟨v', d', o', rfl, hm, h1, h2⟩
theorem held_in (HW : WriteSaid) (h : Held w0 w pb db n o d L) (hq : need L ≤ 131072) (hg : GraphAt w o gb pb gen N ob ib vb) {es : List Edg} (hL : mget L (sName 114 gen) = some (edgeFile (bestOf true es) true)) (hl : es.length ≤ 1000) {v : Nat} (hv : v < N) (hN : N ≤ 1000) :
 Calls Tryz.prog 22 #[ptrTo gb, .int .u32 (v : Int)] w (HeldOf n pb db w o d L (ofL true v (bestOf true es))) := by
 refine (graphIn_in HW h.pool hg hL (rise_bestOf true es) (by have := bestOf_length true es; omega) hv (by omega)).mono ?_
 rintro e w' ⟨v', c, d', o', rfl, hm, he, hv', -⟩
 have h0 : c = 0 := h.fine' hm he hq
 subst h0
 obtain ⟨h1, h2⟩ := hv' rfl
 exact ⟨v', d', o', rfl, hm, h1, h2⟩
end
end Go.Proofs.YtolieljpnafbhaaGreatDoor
namespace Go.Proofs.YtolieljpnafbhaaGreatDoor
open Go.RowKit Go.Maps
set_option maxRecDepth 100000 in
set_option maxHeartbeats 16000000 in
theorem storeAgrees_any (HW : WriteSaid) {m : Nat} (HJS : JobSortSaid m) (hm : 300 ≤ m) {ev vv : Value} {es : List Edg} {vs : List Vrt} (gen : Int) (fr : Nat) (w : World) (he : RdE w ev es) (hv : RdV w vv vs) (hf : fr < 256) (hp : PowAt w) :
 Calls Tryz.prog 12 #[.agg #[ev, vv, .int .i64 gen, .int .u8 (fr : Int)]] w fun e w' => e = .returned (.bool true) ∧ Below w.heap.size w w' := by
 have hworks := Lib.hid (works13_any HW HJS (Nat.le_trans (by decide) hm))
 have HE := Lib.hid he
 have HV := Lib.hid hv
 have HP := Lib.hid hp
 have HB0 : Hid (Below w.heap.size w (w.alloc (.cells #[ev, vv, .int .i64 gen, .int .u8 (fr : Int)] 87))) := Lib.hid ((Below.refl _ _).alloc (Nat.le_refl _) _)
 have HQ0 : Hid ((w.alloc (.cells #[ev, vv, .int .i64 gen, .int .u8 (fr : Int)] 87)).heap[w.heap.size]? = some (.cells #[ev, vv, .int .i64 gen, .int .u8 (fr : Int)] 87)) := Lib.hid (heap_alloc_new w _)
 by_cases hvast : es.length ≤ 300 ∧ vs.length ≤ 100
 ·obtain ⟨h1, h2⟩ := hvast
  have HVAST : Hid (∀ W, Below w.heap.size w W → Calls Tryz.prog 47 #[.agg #[ev, vv, .int .i64 gen, .int .u8 (fr : Int)]] W fun e w' => e = .returned (.bool false) ∧ Below W.heap.size W w') := Lib.hid (fun W hW => vast_no gen fr (HE.out.below hW) (HV.out.below hW) h1 h2)
  have HMADE : Hid (∀ W, Below w.heap.size w W → ∀ g0 : Nat, gen = (g0 : Int) → g0 ≤ 1048576 → Calls Tryz.prog 48 #[.agg #[ev, vv, .int .i64 gen, .int .u8 (fr : Int)]] W (NetMade W (8 + fr % 40) g0 es vs)) := Lib.hid (fun W hW g0 hg hg' => by
   rw [hg]
   exact madeNet_any HW HJS hm g0 fr (HE.out.below hW) (HV.out.below hW) h1 h2 hg' hf (HP.out.kept (hW.block _ HP.out.lt)))
  have HMOUT : Hid (∀ W, Below w.heap.size w W → gen < 0 ∨ 1048576 < gen → Calls Tryz.prog 48 #[.agg #[ev, vv, .int .i64 gen, .int .u8 (fr : Int)]] W fun e w' => e = .returned (.tuple #[.pointer none, .pointer none, .bool false]) ∧ Below W.heap.size W w') := Lib.hid (fun W hW hg => madeNet_out HW gen fr (HE.out.below hW) (HV.out.below hW) h1 h2 hg hf)
  obtain ⟨E, hE⟩ : ∃ E, E = es.length := ⟨_, rfl⟩
  obtain ⟨V, hV⟩ : ∃ V, V = vs.length := ⟨_, rfl⟩
  have HEL := Lib.hid hE
  have HVL := Lib.hid hV
  rw [← hE] at h1
  rw [← hV] at h2
  obtain ⟨ea, ec, hev, -⟩ := he
  obtain ⟨va, vc, hvv, -⟩ := hv
  rw [← hE] at hev
  rw [← hV] at hvv
  subst hev
  subst hvv
  obtain ⟨-, hecells⟩ := rdE_cells HE.out
  have HEC := Lib.hid hecells
  clear hE hV hecells hp
  go_enter Tryz.func12, Tryz.ntmps12
  go_wp2_with fail
  generalize w.alloc (.cells #[.slice ea E ec, .slice va V vc, .int .i64 gen, .int .u8 (fr : Int)] 87) = W0 at *
  have HK : Hid (∀ W, Below W0.heap.size W0 W → W.cell? ⟨w.heap.size, 0, none⟩ = some (.slice ea E ec) ∧ W.cell? ⟨w.heap.size, 1, none⟩ = some (.slice va V vc) ∧ W.cell? ⟨w.heap.size, 2, none⟩ = some (.int .i64 gen) ∧ W.cell? ⟨w.heap.size, 3, none⟩ = some (.int .u8 (fr : Int))) := Lib.hid (fun W hW => by
   have hx := (hW.block _ (lt_heap HQ0.out)).trans HQ0.out
   refine ⟨?_, ?_, ?_, ?_⟩ <;> rw [cells_cell hx] <;> rfl)
  obtain ⟨bb, hbb⟩ : ∃ bb, bb = w.heap.size := ⟨_, rfl⟩
  rw [← hbb] at HK ⊢
  clear hbb
  refine (HVAST.out W0 HB0.out).mono ?_
  rintro e w1 ⟨rfl, hb1⟩
  have HB1 := Lib.hid hb1
  clear hb1
  go_wp2
  go_loopw [3] (fun iv W => ∃ i : Nat, i ≤ E ∧ iv = .int .i64 (i : Int) ∧ (∀ (j : Nat) (x : Edg), j < i → es[j]? = some x → x.t.toNat < V ∧ x.h.toNat < V) ∧ Below W0.heap.size W0 W) (fun iv _ => E - (intOf iv).toNat)
  case atStart => exact ⟨0, Nat.zero_le _, rfl, (fun j x hj => absurd hj (Nat.not_lt_zero _)), HB1.out⟩
  case round =>
   generalize wr = W1 at *
   obtain ⟨i, hi, rfl, hall, hbw⟩ := hrel
   have HALLI := Lib.hid hall
   have HBW := Lib.hid hbw
   clear hall hbw
   obtain ⟨c0, c1, c2, c3⟩ := HK.out W1 HBW.out
   by_cases hlt : i < E
   ·obtain ⟨x, hx⟩ : ∃ x, es[i]? = some x := ⟨_, List.getElem?_eq_getElem (by rw [← HEL.out]; exact hlt)⟩
    have HX := Lib.hid hx
    obtain ⟨xb, xo, rfl, e0, e1, -, -⟩ := HEC.out W1 (HB0.out.trans (HBW.out.mono HB0.out.size)) i x hx
    have hwt : IntKind.i64.wrap (x.t.toNat : Int) = (x.t.toNat : Int) := wrap_in (by omega) (by have := x.t.toNat_lt; omega)
    have hwh : IntKind.i64.wrap (x.h.toNat : Int) = (x.h.toNat : Int) := wrap_in (by omega) (by have := x.h.toNat_lt; omega)
    clear hx
    by_cases ht : x.t.toNat < V
    ·have hd : decide ((x.t.toNat : Int) ≥ (V : Int)) = false := decide_eq_false (by omega)
     have hd' : decide ((V : Int) ≤ (x.t.toNat : Int)) = false := decide_eq_false (by omega)
     have hdn : decide (V ≤ x.t.toNat) = false := decide_eq_false (by omega)
     by_cases hh : x.h.toNat < V
     ·have hk : decide ((x.h.toNat : Int) ≥ (V : Int)) = false := decide_eq_false (by omega)
      have hk' : decide ((V : Int) ≤ (x.h.toNat : Int)) = false := decide_eq_false (by omega)
      have hkn : decide (V ≤ x.h.toNat) = false := decide_eq_false (by omega)
      have HNX : Hid (∀ (j : Nat) (y : Edg), j < i + 1 → es[j]? = some y → y.t.toNat < V ∧ y.h.toNat < V) := Lib.hid (fun j y hj hy => by
       rcases Nat.lt_or_ge j i with hji | hji
       ·exact HALLI.out j y hji hy
       ·obtain rfl : j = i := by omega
        rw [HX.out] at hy
        rw [← Option.some.inj hy]
        exact ⟨ht, hh⟩)
      clear ht hh
      go_wp2_with fail
      go_quiet (fail)
      have HB3 := Lib.hid (HBW.out.trans ((below_drewN (Below.refl _ _) nq : Below W1.heap.size W1 (W1.drewN nq)).mono HBW.out.size))
      clear e0 e1 c0 c1 c2 c3 hd hd' hdn hk hk' hkn
      generalize W1.drewN nq = W3 at *
      go_wp2
      go_roundw
      case rel => exact ⟨i + 1, by omega, by go_num, HNX.out, HB3.out⟩
      case measure => simp [intOf]; omega
     ·have hk : decide ((x.h.toNat : Int) ≥ (V : Int)) = true := decide_eq_true (by omega)
      have hk' : decide ((V : Int) ≤ (x.h.toNat : Int)) = true := decide_eq_true (by omega)
      have hkn : decide (V ≤ x.h.toNat) = true := decide_eq_true (by omega)
      clear ht hh
      go_wp2_with fail
      go_quiet (fail)
      have HB3 := Lib.hid (HBW.out.trans ((below_drewN (Below.refl _ _) nq : Below W1.heap.size W1 (W1.drewN nq)).mono HBW.out.size))
      clear e0 e1 c0 c1 c2 c3 hd hd' hdn hk hk' hkn
      generalize W1.drewN nq = W3 at *
      go_wp2_with fail
      refine (hworks.out _).mono ?_
      rintro e w4 ⟨rfl, hb4⟩
      have HB4 := Lib.hid (HB0.out.trans ((HB3.out.trans (hb4.mono HB3.out.size)).mono HB0.out.size))
      clear hb4
      go_wp2
      go_ret
      exact ⟨rfl, HB4.out⟩
    ·have hd : decide ((x.t.toNat : Int) ≥ (V : Int)) = true := decide_eq_true (by omega)
     have hd' : decide ((V : Int) ≤ (x.t.toNat : Int)) = true := decide_eq_true (by omega)
     have hdn : decide (V ≤ x.t.toNat) = true := decide_eq_true (by omega)
     clear ht
     go_wp2_with fail
     go_quiet (fail)
     have HB3 := Lib.hid (HBW.out.trans ((below_drewN (Below.refl _ _) nq : Below W1.heap.size W1 (W1.drewN nq)).mono HBW.out.size))
     clear e0 e1 c0 c1 c2 c3 hd hd' hdn
     generalize W1.drewN nq = W3 at *
     go_wp2_with fail
     refine (hworks.out _).mono ?_
     rintro e w4 ⟨rfl, hb4⟩
     have HB4 := Lib.hid (HB0.out.trans ((HB3.out.trans (hb4.mono HB3.out.size)).mono HB0.out.size))
     clear hb4
     go_wp2
     go_ret
     exact ⟨rfl, HB4.out⟩
   ·obtain rfl : E = i := by omega
    clear hlt hi
    have HW1 := Lib.hid (HB0.out.trans (HBW.out.mono HB0.out.size))
    by_cases hgen : gen < 0 ∨ 1048576 < gen
    ·have hmo := Lib.hid (HMOUT.out W1 HW1.out hgen)
     clear hgen
     go_wp2_with fail
     refine hmo.out.mono ?_
     rintro e w3 ⟨rfl, hb3⟩
     have HB3 := Lib.hid (HW1.out.trans (hb3.mono HW1.out.size))
     clear hb3 hmo c0 c1 c2 c3
     go_wp2_with fail
     refine (hworks.out _).mono ?_
     rintro e w4 ⟨rfl, hb4⟩
     have HB4 := Lib.hid (HB3.out.trans (hb4.mono HB3.out.size))
     clear hb4
     go_wp2
     go_ret
     exact ⟨rfl, HB4.out⟩
    ·obtain ⟨g0, hg0⟩ : ∃ g0 : Nat, gen = (g0 : Int) := ⟨gen.toNat, by omega⟩
     have hg1 : g0 ≤ 1048576 := by omega
     have hma := Lib.hid (HMADE.out W1 HW1.out g0 hg0 hg1)
     clear hgen hg0
     go_wp2_with fail
     refine hma.out.mono ?_
     rintro e w4 ⟨db, pb, gb, ob, ib, vb, d4, o4, L4, rfl, hh4, hr4, hg4⟩
     obtain ⟨n, hn⟩ : ∃ n, n = 8 + fr % 40 := ⟨_, rfl⟩
     rw [← hn] at hh4
     clear hn
     have HH4 := Lib.hid (hh4.rebase HW1.out)
     rw [← HVL.out] at hg4
     have HG4 := Lib.hid hg4
     obtain ⟨f1, f2, -⟩ := makeL_files L4 g0 es vs
     have HNEED : Hid (need (makeL L4 g0 es vs) ≤ 131072) := Lib.hid (Nat.le_trans (makeL_need _ _ _ _) (by have := hr4.2.2; have := HEL.out; have := HVL.out; omega))
     obtain ⟨LL, hLL⟩ : ∃ LL, LL = makeL L4 g0 es vs := ⟨_, rfl⟩
     rw [← hLL] at HNEED f1 f2 HH4
     obtain ⟨B0, hB0⟩ : ∃ B, B = bestOf false es := ⟨_, rfl⟩
     obtain ⟨B1, hB1⟩ : ∃ B, B = bestOf true es := ⟨_, rfl⟩
     have HES : es.length ≤ 1000 := by have := HEL.out; omega
     have HEDGE : Hid (∀ W o' d' (i : Nat) (x : Edg), Moved (fun x => w4.heap.size ≤ x) n pb db w4 o4 d4 W o' d' LL → B0[i]? = some x → Calls Tryz.prog 24 #[ptrTo gb, .int .i64 (i : Int)] W fun e w' => ∃ d'' o'', e = .returned (.tuple #[edgVal x, .int .i64 0]) ∧ Moved (fun _ => False) n pb db W o' d' w' o'' d'' LL) := Lib.hid (fun W o' d' i x hm hx =>
      held_edge HW (HH4.out.moved hm (fun x hx => Nat.le_trans HH4.out.below.size hx)) HNEED.out (HG4.out.movedS hm (fun x hx h => absurd h (by omega))) f1 (by rw [← hB0]; exact hx))
     have HOUT : Hid (∀ W o' d' (k : Nat), Moved (fun x => w4.heap.size ≤ x) n pb db w4 o4 d4 W o' d' LL → k < V → Calls Tryz.prog 21 #[ptrTo gb, .int .u32 (k : Int)] W (HeldOf n pb db W o' d' LL (ofL false k B0))) := Lib.hid (fun W o' d' k hm hk => by
      rw [hB0]
      exact held_out HW (HH4.out.moved hm (fun x hx => Nat.le_trans HH4.out.below.size hx)) HNEED.out (HG4.out.movedS hm (fun x hx h => absurd h (by omega))) f1 HES hk (by omega))
     have HIN : Hid (∀ W o' d' (k : Nat), Moved (fun x => w4.heap.size ≤ x) n pb db w4 o4 d4 W o' d' LL → k < V → Calls Tryz.prog 22 #[ptrTo gb, .int .u32 (k : Int)] W (HeldOf n pb db W o' d' LL (ofL true k B1))) := Lib.hid (fun W o' d' k hm hk => by
      rw [hB1]
      exact held_in HW (HH4.out.moved hm (fun x hx => Nat.le_trans HH4.out.below.size hx)) HNEED.out (HG4.out.movedS hm (fun x hx h => absurd h (by omega))) f2 HES hk (by omega))
     have HSIZE : Hid (∀ W o' d', Moved (fun x => w4.heap.size ≤ x) n pb db w4 o4 d4 W o' d' LL → Calls Tryz.prog 19 #[ptrTo gb] W fun e w' => e = .returned (.int .i64 (V : Int)) ∧ W = w') := Lib.hid (fun W o' d' hm => graphSize_any (HG4.out.movedS hm (fun x hx h => absurd h (by omega))))
     obtain ⟨N, hN⟩ : ∃ N, N = B0.length := ⟨_, rfl⟩
     have hed := Lib.hid (held_edges HW HH4.out HNEED.out HG4.out f1)
     rw [← hB0, ← hN] at hed
     have HNL := Lib.hid hN
     have B0DEF := Lib.hid hB0
     have B1DEF := Lib.hid hB1
     have B0LEN : Hid (B0.length ≤ 300) := Lib.hid (by rw [hB0]; have := bestOf_length false es; have := HEL.out; omega)
     have B1LEN : Hid (B1.length ≤ 300) := Lib.hid (by rw [hB1]; have := bestOf_length true es; have := HEL.out; omega)
     have hNl : N ≤ 300 := by rw [hN]; exact B0LEN.out
     have HNDP : Hid (B0.Nodup) := Lib.hid (by rw [hB0]; exact best_nodup _ _)
     have HM10 : Hid (∀ x, x ∈ B1 → x ∈ B0) := Lib.hid (fun x hx => by rw [hB1] at hx; rw [hB0]; exact mem_best hx)
     have HUP0 : Hid (upTo false V B0 = N) := Lib.hid (by
      rw [hN, hB0]
      refine upTo_all (best_ends fun x hx => ?_)
      obtain ⟨j, hj⟩ := List.mem_iff_getElem?.1 hx
      exact (HALLI.out j x (by rw [HEL.out]; exact lt_of_get hj) hj).1)
     have HUP1 : Hid (upTo true V B1 = N) := Lib.hid (by
      rw [hN, hB0, best_len false true, hB1]
      refine upTo_all (best_ends fun x hx => ?_)
      obtain ⟨j, hj⟩ := List.mem_iff_getElem?.1 hx
      exact (HALLI.out j x (by rw [HEL.out]; exact lt_of_get hj) hj).2)
     have HTAKE : Hid (B0.take N = B0) := Lib.hid (by rw [hN]; exact List.take_length)
     have HTK : Hid (∀ j x, B0[j]? = some x → B0.take (j + 1) = B0.take j ++ [x]) := Lib.hid (fun j x hx => take_snoc hx)
     have HGET : Hid (∀ j, j < N → ∃ x, B0[j]? = some x) := Lib.hid (fun j hj => ⟨_, List.getElem?_eq_getElem (by rw [← hN]; exact hj)⟩)
     clear hN hB0 hB1 hLL f1 f2 hh4 hr4 hg4 hma c0 c1 c2 c3 HES
     unfold ptrTo edgVal at *
     go_wp2_with fail
     refine hed.out.mono ?_
     rintro e w5 ⟨d5, o5, rfl, hm5⟩
     have HM5 := Lib.hid (hm5.mono (S' := fun x => w4.heap.size ≤ x) (fun _ _ h => h.elim))
     clear hm5 hed
     go_wp2
     go_loopw [9, 10] (fun v iv wr => ∃ (j : Nat) (d' : Dsk) (o' : Owner), j ≤ N ∧ iv = .int .i64 (j : Int) ∧ ownsEdges wr w4.heap.size v (B0.take j) ∧ (∀ x, v.ownBlock = some x → o' x = none) ∧ Moved (fun x => w4.heap.size ≤ x) n pb db w4 o4 d4 wr o' d' LL) (fun _ iv _ => N - (intOf iv).toNat)
     case atStart => exact ⟨0, d5, o5, Nat.zero_le _, rfl, World.ownsRow_nil _ _ _ _, (fun x hx => by cases hx), HM5.out⟩
     case round =>
      generalize u9 = v at *
      obtain ⟨j, d6, o6, hj, rfl, hv6, hvf6, hm6⟩ := hrel
      have HV6 := Lib.hid hv6
      have HVF6 := Lib.hid hvf6
      have HM6 := Lib.hid hm6
      clear hv6 hvf6 hm6 HM5
      by_cases hlt : j < N
      ·obtain ⟨x, hx⟩ := HGET.out j hlt
       have hedge := Lib.hid (HEDGE.out wr o6 d6 j x HM6.out hx)
       have HTX := Lib.hid (HTK.out j x hx)
       have hlv : (B0.take j).length ≤ 100000 := by have := B0LEN.out; rw [List.length_take]; omega
       clear hx
       go_wp2_with fail
       refine hedge.out.mono ?_
       rintro e w7 ⟨d7, o7, rfl, hm7⟩
       have HM7 := Lib.hid (HM6.out.trans hm7 (fun _ _ h => h.elim))
       have HV7 : Hid (ownsEdges w7 w4.heap.size v (B0.take j)) := Lib.hid (hm7.ownsRow HV6.out (fun y hy => ⟨HVF6.out y hy, fun h => h⟩))
       have HVF7 : Hid (∀ y, v.ownBlock = some y → o7 y = none) := Lib.hid (fun y hy => hm7.free (ownBlock_old HV6.out y hy).1 (HVF6.out y hy))
       clear hm7 hedge HV6 HVF6 HM6
       go_upto_region 21 with (fail)
       have HB8 : Hid (Below w7.heap.size w7 (w7.alloc (.cells #[.int .u32 (x.t.toNat : Int), .int .u32 (x.h.toNat : Int), .int .u64 (x.x.toNat : Int), .int .u32 (x.m.toNat : Int)] 47))) := Lib.hid ((Below.refl _ _).alloc (Nat.le_refl _) _)
       have HQ8 : Hid ((w7.alloc (.cells #[.int .u32 (x.t.toNat : Int), .int .u32 (x.h.toNat : Int), .int .u64 (x.x.toNat : Int), .int .u32 (x.m.toNat : Int)] 47)).heap[w7.heap.size]? = some (.cells #[.int .u32 (x.t.toNat : Int), .int .u32 (x.h.toNat : Int), .int .u64 (x.x.toNat : Int), .int .u32 (x.m.toNat : Int)] 47)) := Lib.hid (heap_alloc_new w7 _)
       generalize w7.alloc (.cells #[.int .u32 (x.t.toNat : Int), .int .u32 (x.h.toNat : Int), .int .u64 (x.x.toNat : Int), .int .u32 (x.m.toNat : Int)] 47) = W8 at *
       have HV8 : Hid (ownsEdges W8 w4.heap.size v (B0.take j)) := Lib.hid (ownsRow_below HV7.out HB8.out)
       have HM8 := Lib.hid (HM7.out.below HB8.out)
       have c0 : W8.cell? ⟨w7.heap.size, 0, none⟩ = some (.int .u32 (x.t.toNat : Int)) := by rw [cells_cell HQ8.out]; rfl
       have c1 : W8.cell? ⟨w7.heap.size, 1, none⟩ = some (.int .u32 (x.h.toNat : Int)) := by rw [cells_cell HQ8.out]; rfl
       have c2 : W8.cell? ⟨w7.heap.size, 2, none⟩ = some (.int .u64 (x.x.toNat : Int)) := by rw [cells_cell HQ8.out]; rfl
       have c3 : W8.cell? ⟨w7.heap.size, 3, none⟩ = some (.int .u32 (x.m.toNat : Int)) := by rw [cells_cell HQ8.out]; rfl
       have hs8' : w4.heap.size ≤ W8.heap.size := HM8.out.size
       generalize w7.heap.size = q7 at *
       go_wp2_with (at_builtin; refine wpList_append_edge rfl _ _ rfl w4.heap.size _ _ rfl HV8.out x 1 rfl hlv hs8' ?_)
       intro v9 w9 hv9 ha9
       obtain ⟨g1, g2, -, -⟩ := ha9.moved HM8.out (fun y hy => ⟨HVF7.out y hy, (ownBlock_old HV8.out y hy).2⟩)
       rw [← HTX.out] at hv9
       have HM9 := Lib.hid g1
       have HVF9 := Lib.hid (fun y hy => (g2 y hy).1)
       have HV9 := Lib.hid hv9
       clear ha9 hv9 g1 g2
       go_wp2
       go_roundw
       case rel => exact ⟨j + 1, d7, o7, by omega, by go_num, HV9.out, HVF9.out, HM9.out⟩
       case measure => simp [intOf]; omega
      ·obtain rfl : N = j := by omega
       clear hlt hj
       have HV7 : Hid (ownsEdges wr w4.heap.size v B0) := Lib.hid (by have := HV6.out; rwa [HTAKE.out] at this)
       clear HV6
       go_wp2
       go_loopw [13, 14, 15] (fun a b c wr => ∃ (k : Nat) (d' : Dsk) (o' : Owner), k ≤ V ∧ a = .int .i64 ((upTo false k B0 : Nat) : Int) ∧ b = .int .i64 ((upTo true k B1 : Nat) : Int) ∧ c = .int .i64 (k : Int) ∧ ownsEdges wr w4.heap.size v B0 ∧ (∀ x, v.ownBlock = some x → o' x = none) ∧ Moved (fun x => w4.heap.size ≤ x) n pb db w4 o4 d4 wr o' d' LL) (fun _ _ c _ => V - (intOf c).toNat)
       case atStart => exact ⟨0, d6, o6, Nat.zero_le _, by rw [upTo_zero]; rfl, by rw [upTo_zero]; rfl, rfl, HV7.out, HVF6.out, HM6.out⟩
       case round =>
        generalize wr = w8 at *
        obtain ⟨k0, d8, o8, hk, rfl, rfl, rfl, hv8, hvf8, hm8⟩ := hrel
        have HV8 := Lib.hid hv8
        have HVF8 := Lib.hid hvf8
        have HM8 := Lib.hid hm8
        have hsz := Lib.hid (HSIZE.out w8 o8 d8 hm8)
        clear hv8 hvf8 hm8 HM6 HVF6 HV7
        by_cases hkV : k0 < V
        ·have hwk : IntKind.u32.wrap (k0 : Int) = (k0 : Int) := wraps_u32 _ (by omega) (by omega)
         have hout := Lib.hid (HOUT.out w8 o8 d8 k0 HM8.out hkV)
         go_wp2_with fail
         refine hsz.out.mono ?_
         rintro e w' ⟨rfl, rfl⟩
         go_wp2_with fail
         refine hout.out.mono ?_
         rintro e w9 ⟨vo, d9, o9, rfl, hm9, hv9, hvf9⟩
         have HM9 := Lib.hid (HM8.out.trans hm9 (fun _ _ h => h.elim))
         have HV9 : Hid (ownsEdges w9 w4.heap.size v B0) := Lib.hid (hm9.ownsRow HV8.out (fun y hy => ⟨HVF8.out y hy, fun h => h⟩))
         have HVF9 : Hid (∀ y, v.ownBlock = some y → o9 y = none) := Lib.hid (fun y hy => hm9.free (ownBlock_old HV8.out y hy).1 (HVF8.out y hy))
         have HO9 := Lib.hid hv9
         have HOF9 := Lib.hid hvf9
         have hin := Lib.hid (HIN.out w9 o9 d9 k0 HM9.out hkV)
         clear hm9 hv9 hvf9 hout hsz HM8 HV8 HVF8
         go_wp2_with fail
         refine hin.out.mono ?_
         rintro e W5 ⟨vi, dA, oA, rfl, hmA, hvA, -⟩
         have HMA := Lib.hid (HM9.out.trans hmA (fun _ _ h => h.elim))
         have HVA : Hid (ownsEdges W5 w4.heap.size v B0) := Lib.hid (hmA.ownsRow HV9.out (fun y hy => ⟨HVF9.out y hy, fun h => h⟩))
         have HVFA : Hid (∀ y, v.ownBlock = some y → oA y = none) := Lib.hid (fun y hy => hmA.free (ownBlock_old HV9.out y hy).1 (HVF9.out y hy))
         have HOrow : Hid (RdE W5 vo (ofL false k0 B0)) := Lib.hid (rdE_own (hmA.ownsRow HO9.out (fun y hy => ⟨HOF9.out y hy, fun h => h⟩)))
         have HIrow : Hid (RdE W5 vi (ofL true k0 B1)) := Lib.hid (rdE_own hvA)
         have HALL5 := Lib.hid (rdE_own HVA.out)
         clear hmA hvA hin HM9 HV9 HVF9 HO9 HOF9
         obtain ⟨HOn, HOhn⟩ : ∃ k : Nat, k = (ofL false k0 B0).length := ⟨_, rfl⟩
         have HOLEN := Lib.hid HOhn
         have HO9 := Lib.hid HOrow.out
         obtain ⟨HOa, HOc, HOe, -⟩ := HO9.out
         rw [← HOhn] at HOe
         subst HOe
         obtain ⟨-, HOcells⟩ := rdE_cells HO9.out
         have HOC := Lib.hid HOcells
         have HOm : HOn ≤ 300 := by
          have h1 : (ofL false k0 B0).length ≤ B0.length := List.length_filter_le _ _
          have := B0LEN.out
          omega
         clear HOhn HOcells
         go_wp2
         go_loopw [20] (fun iv W => ∃ i : Nat, i ≤ HOn ∧ iv = .int .i64 (i : Int) ∧ Below W5.heap.size W5 W) (fun iv _ => HOn - (intOf iv).toNat)
         case atStart => exact ⟨0, Nat.zero_le _, rfl, Below.refl _ _⟩
         case round =>
          generalize wr = W at *
          obtain ⟨i, hi, rfl, hbw⟩ := hrel
          have HBW := Lib.hid hbw
          clear hbw
          by_cases hlt : i < HOn
          ·(try clear hworks); (try clear HE); (try clear HV); (try clear HP); (try clear HVAST); (try clear HMADE); (try clear HMOUT); (try clear HEC); (try clear HK); (try clear HALLI); (try clear HEDGE); (try clear HOUT); (try clear HIN); (try clear HSIZE); (try clear HTK); (try clear HGET); (try clear HTAKE); (try clear HUP0); (try clear HUP1); (try clear HB0); (try clear HQ0); (try clear HW1); (try clear HH4); (try clear HG4); (try clear HNEED); (try clear HEL); (try clear HVL); (try clear HMA); (try clear HVA); (try clear HVFA); (try clear HNL); (try clear HBW1)
           obtain ⟨x, hx⟩ : ∃ x, (ofL false k0 B0)[i]? = some x := ⟨_, List.getElem?_eq_getElem (by rw [← HOLEN.out]; exact hlt)⟩
           have HX := Lib.hid hx
           have hxm := ofL_mem (List.mem_of_getElem? hx)
           have hxe : x.t.toNat = k0 := hxm.2
           have hcnt : cntE x B0 = 1 := cntE_one HNDP.out ( hxm.1)
           have hcount := Lib.hid (fun W' (hW' : Below W.heap.size W W') => count_any _ B0 x W' (HALL5.out.below (HBW.out.trans (hW'.mono HBW.out.size))) (by have := B0LEN.out; omega))
           rw [hcnt] at hcount
           rw [hxe] at hcount
           obtain ⟨xb, xo, rfl, -⟩ := HOC.out W HBW.out i x hx
           have HXC : Hid (∀ W', Below W.heap.size W W' → W'.cell? ⟨xb, xo + i * 4, none⟩ = some (.int .u32 (x.t.toNat : Int)) ∧ W'.cell? ⟨xb, xo + i * 4 + 1, none⟩ = some (.int .u32 (x.h.toNat : Int)) ∧ W'.cell? ⟨xb, xo + i * 4 + 2, none⟩ = some (.int .u64 (x.x.toNat : Int)) ∧ W'.cell? ⟨xb, xo + i * 4 + 3, none⟩ = some (.int .u32 (x.m.toNat : Int))) := Lib.hid (fun W' hW' => by
            obtain ⟨b', o', e, g⟩ := HOC.out W' (HBW.out.trans (hW'.mono HBW.out.size)) i x HX.out
            cases e
            exact g)
           have hwk : IntKind.u32.wrap (k0 : Int) = (k0 : Int) := wraps_u32 _ (by omega) (by omega)
           clear hx hxm hcnt
           rw [hxe] at HXC
           by_cases hi0 : i = 0
           ·subst hi0
            have HXC0 : Hid (∀ W', Below W.heap.size W W' → W'.cell? ⟨xb, xo, none⟩ = some (.int .u32 ((k0 : Nat) : Int)) ∧ W'.cell? ⟨xb, xo + 1, none⟩ = some (.int .u32 ((x.h.toNat : Nat) : Int)) ∧ W'.cell? ⟨xb, xo + 2, none⟩ = some (.int .u64 (x.x.toNat : Int)) ∧ W'.cell? ⟨xb, xo + 3, none⟩ = some (.int .u32 (x.m.toNat : Int))) := Lib.hid (fun W' hW' => by
             obtain ⟨e0, e1, e2, e3⟩ := HXC.out W' hW'
             simp only [Nat.zero_mul, Nat.add_zero] at e0 e1 e2 e3
             exact ⟨e0, e1, e2, e3⟩)
            clear HXC
            go_wp2_with fail
            refine wp_region_quiet_in (Below W.heap.size W) (by kernel_rfl) (by kernel_rfl) ((Below.refl _ _).drew) ?_
            iterate 4 (refine q_op rfl (fun w' hw' => (by go_simp <;> rfl)) (fun K hK => ?_); go_simp; refine hK _ ?_; clear hK K)
            refine q_op rfl (fun w' hw' => (by obtain ⟨e0, e1, e2, e3⟩ := HXC0.out w' hw'; go_simp <;> rfl)) (fun K hK => ?_); go_simp; refine hK _ ?_; clear hK K
            refine q_op rfl (fun w' hw' => (by go_simp <;> rfl)) (fun K hK => ?_); go_simp; refine hK _ ?_; clear hK K
            refine q_op rfl (fun w' hw' => (by have z := hwk; go_simp <;> rfl)) (fun K hK => ?_); go_simp; refine hK _ ?_; clear hK K
            iterate 6 (refine q_op rfl (fun w' hw' => (by go_simp <;> rfl)) (fun K hK => ?_); go_simp; refine hK _ ?_; clear hK K)
            refine q_op rfl (fun w' hw' => (by obtain ⟨e0, e1, e2, e3⟩ := HXC0.out w' hw'; go_simp <;> rfl)) (fun K hK => ?_); go_simp; refine hK _ ?_; clear hK K
            refine q_call rfl (fun w' hw' => (by go_simp <;> rfl)) (fun w' hw' => ((hcount.out w' hw').mono (fun e w'' h => ⟨h.1, hw'.trans (h.2.mono hw'.size)⟩))) (fun K hK => ?_); go_simp; refine hK _ ?_; clear hK K
            iterate 6 (refine q_op rfl (fun w' hw' => (by go_simp <;> rfl)) (fun K hK => ?_); go_simp; refine hK _ ?_; clear hK K)
            iterate 12 go_big_quiet_skip
            iterate 2 (refine q_op rfl (fun w' hw' => (by go_simp <;> rfl)) (fun K hK => ?_); go_simp; refine hK _ ?_; clear hK K)
            refine wpQuiet_nil ?_
            intro W3 hb3
            have HB3 := Lib.hid (HBW.out.trans (hb3.mono HBW.out.size))
            clear hb3
            go_wp2
            go_roundw
            case rel => exact ⟨1, by omega, by go_num, HB3.out⟩
            case measure => simp [intOf]; omega
           ·obtain ⟨q, hq⟩ : ∃ q : Nat, (q : Int) = (i : Int) - 1 := ⟨i - 1, by omega⟩
            have hwq : IntKind.i64.wrap ((i : Int) - 1) = (q : Int) := by rw [wrap_in (by omega) (by omega), hq]
            have hqi : q < i := by omega
            obtain ⟨p, hp⟩ : ∃ p, (ofL false k0 B0)[q]? = some p := ⟨_, List.getElem?_eq_getElem (by rw [← HOLEN.out]; omega)⟩
            have hpx : p.h.toNat < x.h.toNat := by
             have hp' := hp
             have hx' := HX.out
             rw [B0DEF.out] at hp' hx'
             exact ofL_rise (b := false) hqi hp' hx'
            have HPC : Hid (∀ W', Below W.heap.size W W' → W'.cell? ⟨xb, xo + q * 4, none⟩ = some (.int .u32 (p.t.toNat : Int)) ∧ W'.cell? ⟨xb, xo + q * 4 + 1, none⟩ = some (.int .u32 (p.h.toNat : Int))) := Lib.hid (fun W' hW' => by
             obtain ⟨b', o', e, g⟩ := HOC.out W' (HBW.out.trans (hW'.mono HBW.out.size)) q p hp
             cases e
             exact ⟨g.1, g.2.1⟩)
            have HQ := Lib.hid hwq
            have hql : (q : Int) < (HOn : Int) := by omega
            have Z3 : Hid (decide (0 < i) = true) := Lib.hid (decide_eq_true (by omega))
            have HLE3 : Hid (decide (x.h.toNat ≤ p.h.toNat) = false) := Lib.hid (decide_eq_false (by omega))
            clear hpx
            clear hq hwq hp
            go_wp2_with fail
            refine wp_region_quiet_in (Below W.heap.size W) (by kernel_rfl) (by kernel_rfl) ((Below.refl _ _).drew) ?_
            iterate 4 (refine q_op rfl (fun w' hw' => (by go_simp <;> rfl)) (fun K hK => ?_); go_simp; refine hK _ ?_; clear hK K)
            refine q_op rfl (fun w' hw' => (by obtain ⟨e0, e1, e2, e3⟩ := HXC.out w' hw'; go_simp <;> rfl)) (fun K hK => ?_); go_simp; refine hK _ ?_; clear hK K
            refine q_op rfl (fun w' hw' => (by go_simp <;> rfl)) (fun K hK => ?_); go_simp; refine hK _ ?_; clear hK K
            refine q_op rfl (fun w' hw' => (by have z := hwk; go_simp <;> rfl)) (fun K hK => ?_); go_simp; refine hK _ ?_; clear hK K
            iterate 6 (refine q_op rfl (fun w' hw' => (by go_simp <;> rfl)) (fun K hK => ?_); go_simp; refine hK _ ?_; clear hK K)
            refine q_op rfl (fun w' hw' => (by obtain ⟨e0, e1, e2, e3⟩ := HXC.out w' hw'; go_simp <;> rfl)) (fun K hK => ?_); go_simp; refine hK _ ?_; clear hK K
            refine q_call rfl (fun w' hw' => (by go_simp <;> rfl)) (fun w' hw' => ((hcount.out w' hw').mono (fun e w'' h => ⟨h.1, hw'.trans (h.2.mono hw'.size)⟩))) (fun K hK => ?_); go_simp; refine hK _ ?_; clear hK K
            iterate 4 (refine q_op rfl (fun w' hw' => (by go_simp <;> rfl)) (fun K hK => ?_); go_simp; refine hK _ ?_; clear hK K)
            refine q_op rfl (fun w' hw' => (by have y3 := Z3.out; go_simp <;> rfl)) (fun K hK => ?_); go_simp; refine hK _ ?_; clear hK K
            iterate 5 (refine q_op rfl (fun w' hw' => (by go_simp <;> rfl)) (fun K hK => ?_); go_simp; refine hK _ ?_; clear hK K)
            refine q_op rfl (fun w' hw' => (by obtain ⟨e0, e1, e2, e3⟩ := HXC.out w' hw'; go_simp <;> rfl)) (fun K hK => ?_); go_simp; refine hK _ ?_; clear hK K
            iterate 2 (refine q_op rfl (fun w' hw' => (by go_simp <;> rfl)) (fun K hK => ?_); go_simp; refine hK _ ?_; clear hK K)
            refine q_op rfl (fun w' hw' => (by have z := HQ.out; go_simp <;> rfl)) (fun K hK => ?_); go_simp; refine hK _ ?_; clear hK K
            iterate 2 (refine q_op rfl (fun w' hw' => (by go_simp <;> rfl)) (fun K hK => ?_); go_simp; refine hK _ ?_; clear hK K)
            refine q_op rfl (fun w' hw' => (by obtain ⟨p0, p1⟩ := HPC.out w' hw'; go_simp <;> rfl)) (fun K hK => ?_); go_simp; refine hK _ ?_; clear hK K
            refine q_op rfl (fun w' hw' => (by have y3 := HLE3.out; go_simp <;> rfl)) (fun K hK => ?_); go_simp; refine hK _ ?_; clear hK K
            iterate 2 (refine q_op rfl (fun w' hw' => (by go_simp <;> rfl)) (fun K hK => ?_); go_simp; refine hK _ ?_; clear hK K)
            refine wpQuiet_nil ?_
            intro W3 hb3
            have HB3 := Lib.hid (HBW.out.trans (hb3.mono HBW.out.size))
            clear hb3
            go_wp2
            go_roundw
            case rel => exact ⟨i + 1, by omega, by go_num, HB3.out⟩
            case measure => simp [intOf]; omega
          ·obtain rfl : HOn = i := by omega
           clear hlt hi
           have HBW1 := Lib.hid HBW.out
           clear HBW
           obtain ⟨HIn, HIhn⟩ : ∃ k : Nat, k = (ofL true k0 B1).length := ⟨_, rfl⟩
           have HILEN := Lib.hid HIhn
           have HI9 := Lib.hid HIrow.out
           obtain ⟨HIa, HIc, HIe, -⟩ := HI9.out
           rw [← HIhn] at HIe
           subst HIe
           obtain ⟨-, HIcells⟩ := rdE_cells HI9.out
           have HIC := Lib.hid HIcells
           have HIm : HIn ≤ 300 := by
            have h1 : (ofL true k0 B1).length ≤ B1.length := List.length_filter_le _ _
            have := B1LEN.out
            omega
           clear HIhn HIcells
           go_wp2
           go_loopw [21] (fun iv W => ∃ i : Nat, i ≤ HIn ∧ iv = .int .i64 (i : Int) ∧ Below W5.heap.size W5 W) (fun iv _ => HIn - (intOf iv).toNat)
           case atStart => exact ⟨0, Nat.zero_le _, rfl, HBW1.out⟩
           case round =>
            generalize wr = W at *
            obtain ⟨i, hi, rfl, hbw⟩ := hrel
            have HBW := Lib.hid hbw
            clear hbw
            by_cases hlt : i < HIn
            ·(try clear hworks); (try clear HE); (try clear HV); (try clear HP); (try clear HVAST); (try clear HMADE); (try clear HMOUT); (try clear HEC); (try clear HK); (try clear HALLI); (try clear HEDGE); (try clear HOUT); (try clear HIN); (try clear HSIZE); (try clear HTK); (try clear HGET); (try clear HTAKE); (try clear HUP0); (try clear HUP1); (try clear HB0); (try clear HQ0); (try clear HW1); (try clear HH4); (try clear HG4); (try clear HNEED); (try clear HEL); (try clear HVL); (try clear HMA); (try clear HVA); (try clear HVFA); (try clear HNL); (try clear HBW1)
             obtain ⟨x, hx⟩ : ∃ x, (ofL true k0 B1)[i]? = some x := ⟨_, List.getElem?_eq_getElem (by rw [← HILEN.out]; exact hlt)⟩
             have HX := Lib.hid hx
             have hxm := ofL_mem (List.mem_of_getElem? hx)
             have hxe : x.h.toNat = k0 := hxm.2
             have hcnt : cntE x B0 = 1 := cntE_one HNDP.out (HM10.out _ hxm.1)
             have hcount := Lib.hid (fun W' (hW' : Below W.heap.size W W') => count_any _ B0 x W' (HALL5.out.below (HBW.out.trans (hW'.mono HBW.out.size))) (by have := B0LEN.out; omega))
             rw [hcnt] at hcount
             rw [hxe] at hcount
             obtain ⟨xb, xo, rfl, -⟩ := HIC.out W HBW.out i x hx
             have HXC : Hid (∀ W', Below W.heap.size W W' → W'.cell? ⟨xb, xo + i * 4, none⟩ = some (.int .u32 (x.t.toNat : Int)) ∧ W'.cell? ⟨xb, xo + i * 4 + 1, none⟩ = some (.int .u32 (x.h.toNat : Int)) ∧ W'.cell? ⟨xb, xo + i * 4 + 2, none⟩ = some (.int .u64 (x.x.toNat : Int)) ∧ W'.cell? ⟨xb, xo + i * 4 + 3, none⟩ = some (.int .u32 (x.m.toNat : Int))) := Lib.hid (fun W' hW' => by
              obtain ⟨b', o', e, g⟩ := HIC.out W' (HBW.out.trans (hW'.mono HBW.out.size)) i x HX.out
              cases e
              exact g)
             have hwk : IntKind.u32.wrap (k0 : Int) = (k0 : Int) := wraps_u32 _ (by omega) (by omega)
             clear hx hxm hcnt
             rw [hxe] at HXC
             by_cases hi0 : i = 0
             ·subst hi0
              have HXC0 : Hid (∀ W', Below W.heap.size W W' → W'.cell? ⟨xb, xo, none⟩ = some (.int .u32 ((x.t.toNat : Nat) : Int)) ∧ W'.cell? ⟨xb, xo + 1, none⟩ = some (.int .u32 ((k0 : Nat) : Int)) ∧ W'.cell? ⟨xb, xo + 2, none⟩ = some (.int .u64 (x.x.toNat : Int)) ∧ W'.cell? ⟨xb, xo + 3, none⟩ = some (.int .u32 (x.m.toNat : Int))) := Lib.hid (fun W' hW' => by
               obtain ⟨e0, e1, e2, e3⟩ := HXC.out W' hW'
               simp only [Nat.zero_mul, Nat.add_zero] at e0 e1 e2 e3
               exact ⟨e0, e1, e2, e3⟩)
              clear HXC
              go_wp2_with fail
              refine wp_region_quiet_in (Below W.heap.size W) (by kernel_rfl) (by kernel_rfl) ((Below.refl _ _).drew) ?_
              iterate 4 (refine q_op rfl (fun w' hw' => (by go_simp <;> rfl)) (fun K hK => ?_); go_simp; refine hK _ ?_; clear hK K)
              refine q_op rfl (fun w' hw' => (by obtain ⟨e0, e1, e2, e3⟩ := HXC0.out w' hw'; go_simp <;> rfl)) (fun K hK => ?_); go_simp; refine hK _ ?_; clear hK K
              refine q_op rfl (fun w' hw' => (by go_simp <;> rfl)) (fun K hK => ?_); go_simp; refine hK _ ?_; clear hK K
              refine q_op rfl (fun w' hw' => (by have z := hwk; go_simp <;> rfl)) (fun K hK => ?_); go_simp; refine hK _ ?_; clear hK K
              iterate 6 (refine q_op rfl (fun w' hw' => (by go_simp <;> rfl)) (fun K hK => ?_); go_simp; refine hK _ ?_; clear hK K)
              refine q_op rfl (fun w' hw' => (by obtain ⟨e0, e1, e2, e3⟩ := HXC0.out w' hw'; go_simp <;> rfl)) (fun K hK => ?_); go_simp; refine hK _ ?_; clear hK K
              refine q_call rfl (fun w' hw' => (by go_simp <;> rfl)) (fun w' hw' => ((hcount.out w' hw').mono (fun e w'' h => ⟨h.1, hw'.trans (h.2.mono hw'.size)⟩))) (fun K hK => ?_); go_simp; refine hK _ ?_; clear hK K
              iterate 6 (refine q_op rfl (fun w' hw' => (by go_simp <;> rfl)) (fun K hK => ?_); go_simp; refine hK _ ?_; clear hK K)
              iterate 12 go_big_quiet_skip
              iterate 2 (refine q_op rfl (fun w' hw' => (by go_simp <;> rfl)) (fun K hK => ?_); go_simp; refine hK _ ?_; clear hK K)
              refine wpQuiet_nil ?_
              intro W3 hb3
              have HB3 := Lib.hid (HBW.out.trans (hb3.mono HBW.out.size))
              clear hb3
              go_wp2
              go_roundw
              case rel => exact ⟨1, by omega, by go_num, HB3.out⟩
              case measure => simp [intOf]; omega
             ·obtain ⟨q, hq⟩ : ∃ q : Nat, (q : Int) = (i : Int) - 1 := ⟨i - 1, by omega⟩
              have hwq : IntKind.i64.wrap ((i : Int) - 1) = (q : Int) := by rw [wrap_in (by omega) (by omega), hq]
              have hqi : q < i := by omega
              obtain ⟨p, hp⟩ : ∃ p, (ofL true k0 B1)[q]? = some p := ⟨_, List.getElem?_eq_getElem (by rw [← HILEN.out]; omega)⟩
              have hpx : p.t.toNat < x.t.toNat := by
               have hp' := hp
               have hx' := HX.out
               rw [B1DEF.out] at hp' hx'
               exact ofL_rise (b := true) hqi hp' hx'
              have HPC : Hid (∀ W', Below W.heap.size W W' → W'.cell? ⟨xb, xo + q * 4, none⟩ = some (.int .u32 (p.t.toNat : Int)) ∧ W'.cell? ⟨xb, xo + q * 4 + 1, none⟩ = some (.int .u32 (p.h.toNat : Int))) := Lib.hid (fun W' hW' => by
               obtain ⟨b', o', e, g⟩ := HIC.out W' (HBW.out.trans (hW'.mono HBW.out.size)) q p hp
               cases e
               exact ⟨g.1, g.2.1⟩)
              have HQ := Lib.hid hwq
              have hql : (q : Int) < (HIn : Int) := by omega
              have Z3 : Hid (decide (0 < i) = true) := Lib.hid (decide_eq_true (by omega))
              have HLE3 : Hid (decide (x.t.toNat ≤ p.t.toNat) = false) := Lib.hid (decide_eq_false (by omega))
              clear hpx
              clear hq hwq hp
              go_wp2_with fail
              refine wp_region_quiet_in (Below W.heap.size W) (by kernel_rfl) (by kernel_rfl) ((Below.refl _ _).drew) ?_
              iterate 4 (refine q_op rfl (fun w' hw' => (by go_simp <;> rfl)) (fun K hK => ?_); go_simp; refine hK _ ?_; clear hK K)
              refine q_op rfl (fun w' hw' => (by obtain ⟨e0, e1, e2, e3⟩ := HXC.out w' hw'; go_simp <;> rfl)) (fun K hK => ?_); go_simp; refine hK _ ?_; clear hK K
              refine q_op rfl (fun w' hw' => (by go_simp <;> rfl)) (fun K hK => ?_); go_simp; refine hK _ ?_; clear hK K
              refine q_op rfl (fun w' hw' => (by have z := hwk; go_simp <;> rfl)) (fun K hK => ?_); go_simp; refine hK _ ?_; clear hK K
              iterate 6 (refine q_op rfl (fun w' hw' => (by go_simp <;> rfl)) (fun K hK => ?_); go_simp; refine hK _ ?_; clear hK K)
              refine q_op rfl (fun w' hw' => (by obtain ⟨e0, e1, e2, e3⟩ := HXC.out w' hw'; go_simp <;> rfl)) (fun K hK => ?_); go_simp; refine hK _ ?_; clear hK K
              refine q_call rfl (fun w' hw' => (by go_simp <;> rfl)) (fun w' hw' => ((hcount.out w' hw').mono (fun e w'' h => ⟨h.1, hw'.trans (h.2.mono hw'.size)⟩))) (fun K hK => ?_); go_simp; refine hK _ ?_; clear hK K
              iterate 4 (refine q_op rfl (fun w' hw' => (by go_simp <;> rfl)) (fun K hK => ?_); go_simp; refine hK _ ?_; clear hK K)
              refine q_op rfl (fun w' hw' => (by have y3 := Z3.out; go_simp <;> rfl)) (fun K hK => ?_); go_simp; refine hK _ ?_; clear hK K
              iterate 5 (refine q_op rfl (fun w' hw' => (by go_simp <;> rfl)) (fun K hK => ?_); go_simp; refine hK _ ?_; clear hK K)
              refine q_op rfl (fun w' hw' => (by obtain ⟨e0, e1, e2, e3⟩ := HXC.out w' hw'; go_simp <;> rfl)) (fun K hK => ?_); go_simp; refine hK _ ?_; clear hK K
              iterate 2 (refine q_op rfl (fun w' hw' => (by go_simp <;> rfl)) (fun K hK => ?_); go_simp; refine hK _ ?_; clear hK K)
              refine q_op rfl (fun w' hw' => (by have z := HQ.out; go_simp <;> rfl)) (fun K hK => ?_); go_simp; refine hK _ ?_; clear hK K
              iterate 2 (refine q_op rfl (fun w' hw' => (by go_simp <;> rfl)) (fun K hK => ?_); go_simp; refine hK _ ?_; clear hK K)
              refine q_op rfl (fun w' hw' => (by obtain ⟨p0, p1⟩ := HPC.out w' hw'; go_simp <;> rfl)) (fun K hK => ?_); go_simp; refine hK _ ?_; clear hK K
              refine q_op rfl (fun w' hw' => (by have y3 := HLE3.out; go_simp <;> rfl)) (fun K hK => ?_); go_simp; refine hK _ ?_; clear hK K
              iterate 2 (refine q_op rfl (fun w' hw' => (by go_simp <;> rfl)) (fun K hK => ?_); go_simp; refine hK _ ?_; clear hK K)
              refine wpQuiet_nil ?_
              intro W3 hb3
              have HB3 := Lib.hid (HBW.out.trans (hb3.mono HBW.out.size))
              clear hb3
              go_wp2
              go_roundw
              case rel => exact ⟨i + 1, by omega, by go_num, HB3.out⟩
              case measure => simp [intOf]; omega
            ·obtain rfl : HIn = i := by omega
             clear hlt hi
             have HMF := Lib.hid (HMA.out.below HBW.out)
             have HVF : Hid (ownsEdges W w4.heap.size v B0) := Lib.hid (ownsRow_below HVA.out HBW.out)
             obtain ⟨uo, huo⟩ : ∃ u : Nat, u = upTo false k0 B0 := ⟨_, rfl⟩
             obtain ⟨ui, hui⟩ : ∃ u : Nat, u = upTo true k0 B1 := ⟨_, rfl⟩
             obtain ⟨so, hso⟩ : ∃ u : Nat, u = upTo false (k0 + 1) B0 := ⟨_, rfl⟩
             obtain ⟨si, hsi⟩ : ∃ u : Nat, u = upTo true (k0 + 1) B1 := ⟨_, rfl⟩
             have hwso : IntKind.i64.wrap ((uo : Int) + (HOn : Int)) = (so : Int) := by
              have h1 := upTo_succ false k0 B0
              rw [← HOLEN.out, ← huo, ← hso] at h1
              have h2 := upTo_le false (k0 + 1) B0
              rw [← hso] at h2
              have h3 := B0LEN.out
              rw [wrap_in (by omega) (by omega)]
              omega
             have hwsi : IntKind.i64.wrap ((ui : Int) + (HIn : Int)) = (si : Int) := by
              have h1 := upTo_succ true k0 B1
              rw [← HILEN.out, ← hui, ← hsi] at h1
              have h2 := upTo_le true (k0 + 1) B1
              rw [← hsi] at h2
              have h3 := B1LEN.out
              rw [wrap_in (by omega) (by omega)]
              omega
             rw [← huo, ← hui]
             have HSO := Lib.hid hso
             have HSI := Lib.hid hsi
             clear huo hui hso hsi
             go_wp2
             go_roundw
             case rel => exact ⟨k0 + 1, dA, oA, by omega, by rw [HSO.out], by rw [HSI.out], by go_num, HVF.out, HVFA.out, HMF.out⟩
             case measure => simp [intOf]; omega
        ·obtain rfl : V = k0 := by omega
         have HF := Lib.hid ((HH4.out.moved HM8.out (fun x hx => Nat.le_trans HH4.out.below.size hx)).below)
         clear hkV hk
         rw [HUP0.out, HUP1.out]
         go_wp2_with fail
         refine hsz.out.mono ?_
         rintro e w' ⟨rfl, rfl⟩
         go_wp2_with fail
         refine (hworks.out _).mono ?_
         rintro e w9 ⟨rfl, hb9⟩
         have HB9 := Lib.hid (HF.out.trans (hb9.mono HF.out.size))
         clear hb9
         go_wp2
         go_ret
         exact ⟨rfl, HB9.out⟩
 ·have HVAST := Lib.hid (vast_yes gen fr (he.below HB0.out) (hv.below HB0.out) (by omega))
  clear hvast he hv hp
  go_enter Tryz.func12, Tryz.ntmps12
  go_wp2_with fail
  refine HVAST.out.mono ?_
  rintro e w1 ⟨rfl, hb1⟩
  have HB1 := Lib.hid (HB0.out.trans (hb1.mono HB0.out.size))
  clear hb1
  go_wp2_with fail
  refine (hworks.out _).mono ?_
  rintro e w2 ⟨rfl, hb2⟩
  have HB2 := Lib.hid (HB1.out.trans (hb2.mono HB1.out.size))
  clear hb2
  go_wp2
  go_ret
  exact ⟨rfl, HB2.out⟩
end Go.Proofs.YtolieljpnafbhaaGreatDoor
