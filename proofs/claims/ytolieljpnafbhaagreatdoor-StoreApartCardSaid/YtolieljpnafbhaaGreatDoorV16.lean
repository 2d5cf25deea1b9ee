/-
  Joined, in build order, what is needed of: CardE, Law13b, Law13c, Law13f, CardV, CardN, Store9, Law12e, RefC, RefD, Law13h, Law13i, QRel2, Law13j, Law12k.
-/
import Derived.Test.YtolieljpnafbhaaGreatDoorV15
import Derived.Laws.BytesArg
import Derived.Laws.OwnMore
import Derived.Deep.AppendSrc
namespace Go.Proofs.YtolieljpnafbhaaGreatDoor
open Go.ChangeShapes Go.WideShapes Go.ChangeAt Go.RowKit Go.Joins
theorem laidOutE : laidOutB Tryz.prog = true := by kernel_rfl
theorem spot_noneE {w : World} {a : Addr} {v : Value} (h : w.cell? a = some v) : a.spot = none := by
 obtain ⟨b, o, s⟩ := a
 cases s with
 | none => rfl
 | some s =>
   unfold World.cell? at h
   simp at h
   split at h <;> cases h
theorem u32_ofE {z : Int} (h : (Lit.int .u32 z).wf = true) : z = ((UInt32.ofNat z.toNat).toNat : Int) := by
 simp [Lit.wf] at h
 have h0 : IntKind.u32.min = 0 := rfl
 have h1 : IntKind.u32.max = 4294967295 := rfl
 rw [h0, h1] at h
 rw [UInt32.toNat_ofNat']
 omega
theorem u64_ofE {z : Int} (h : (Lit.int .u64 z).wf = true) : z = ((UInt64.ofNat z.toNat).toNat : Int) := by
 simp [Lit.wf] at h
 have h0 : IntKind.u64.min = 0 := rfl
 have h1 : IntKind.u64.max = 18446744073709551615 := rfl
 rw [h0, h1] at h
 rw [UInt64.toNat_ofNat']
 omega
theorem u8_ofE {z : Int} (h : (Lit.int .u8 z).wf = true) : ∃ k : Nat, k < 256 ∧ z = (k : Int) := by
 simp [Lit.wf] at h
 have h0 : IntKind.u8.min = 0 := rfl
 have h1 : IntKind.u8.max = 255 := rfl
 rw [h0, h1] at h
 exact ⟨z.toNat, by omega, by omega⟩
theorem cellsEdge : Tryz.prog.cellsOf 47 = 4 := by kernel_rfl
theorem cellsU32e : Tryz.prog.cellsOf 23 = 1 := by kernel_rfl
theorem cellsU64e : Tryz.prog.cellsOf 45 = 1 := by kernel_rfl
set_option maxRecDepth 100000 in
theorem opened_edges {H : Type} {enc : TypeId × Value → H} {W : World} {sp : Nat → Bool} {a : Option Addr} {len cap : Nat} {d : DataW H} {p : List MemPlace} (h : DataW.Trod enc Tryz.prog W 0 sp true 40 (.slice a len cap) d p) :
 ∃ vs, RdE W (.slice a len cap) vs := by
 obtain ⟨fuel, hf⟩ := h
 rcases Deep.open_slice Tryz.underlying40 hf with ⟨hcs, -⟩ | ⟨a', len', cap', m, n, D, Pl, hcs, -, hl, -, hm, -, hx⟩
 ·simp [Value.cells] at hcs
  obtain ⟨rfl, rfl, rfl⟩ := hcs
  exact ⟨[], none, 0, rfl, .inl rfl⟩
 ·simp [Value.cells] at hcs
  obtain ⟨rfl, rfl, rfl⟩ := hcs
  have hlm : len ≤ m := by rw [hm]; split <;> omega
  rw [cellsEdge] at hx
  have each : ∀ i, i < len → ∃ x : Edg, W.cell? (a'.add (i * 4)) = some (.int .u32 (x.t.toNat : Int)) ∧ W.cell? (a'.add (i * 4 + 1)) = some (.int .u32 (x.h.toNat : Int)) ∧ W.cell? (a'.add (i * 4 + 2)) = some (.int .u64 (x.x.toNat : Int)) ∧ W.cell? (a'.add (i * 4 + 3)) = some (.int .u32 (x.m.toNat : Int)) := by
   intro i hi
   obtain ⟨cs', h1, h2⟩ := hx i (by omega)
   obtain ⟨_, hlen, hcell⟩ := World.cells?_some h1
   obtain ⟨xs, k, hk, hxy, _, hxl, hf⟩ := DataW.trod_struct Tryz.underlying47 h2
   match xs, hxl, cs', hlen with
   | [y0, y1, y2, y3], _, [v0, v1, v2, v3], _ =>
     have g0 := hf 0 _ rfl
     have g1 := hf 1 _ rfl
     have g2 := hf 2 _ rfl
     have g3 := hf 3 _ rfl
     simp [cellsU32e, cellsU64e] at g0 g1 g2 g3
     obtain ⟨n0, q0, -, w0⟩ := DataW.trod_int Tryz.underlying23 g0
     obtain ⟨n1, q1, -, w1⟩ := DataW.trod_int Tryz.underlying23 g1
     obtain ⟨n2, q2, -, w2⟩ := DataW.trod_int Tryz.underlying45 g2
     obtain ⟨n3, q3, -, w3⟩ := DataW.trod_int Tryz.underlying23 g3
     obtain ⟨rfl⟩ := q0
     obtain ⟨rfl⟩ := q1
     obtain ⟨rfl⟩ := q2
     obtain ⟨rfl⟩ := q3
     have e0 := hcell 0 (by omega)
     have e1 := hcell 1 (by omega)
     have e2 := hcell 2 (by omega)
     have e3 := hcell 3 (by omega)
     rw [Deep.add_add] at e0 e1 e2 e3
     exact ⟨⟨UInt32.ofNat n0.toNat, UInt32.ofNat n1.toNat, UInt64.ofNat n2.toNat, UInt32.ofNat n3.toNat⟩, by rw [← u32_ofE w0]; simpa using e0, by rw [← u32_ofE w1]; simpa using e1, by rw [← u64_ofE w2]; simpa using e2, by rw [← u32_ofE w3]; simpa using e3⟩
  have hv : ∃ vs : List Edg, vs.length = len ∧ ∀ (j : Nat) (x : Edg), vs[j]? = some x → W.cell? (a'.add (j * 4)) = some (.int .u32 (x.t.toNat : Int)) ∧ W.cell? (a'.add (j * 4 + 1)) = some (.int .u32 (x.h.toNat : Int)) ∧ W.cell? (a'.add (j * 4 + 2)) = some (.int .u64 (x.x.toNat : Int)) ∧ W.cell? (a'.add (j * 4 + 3)) = some (.int .u32 (x.m.toNat : Int)) := by
   clear hx hf
   generalize len = N at *
   clear hl hm hlm
   induction N with
   | zero => exact ⟨[], rfl, fun j x hj => by cases hj⟩
   | succ N ih =>
     obtain ⟨vs, h1, h2⟩ := ih (fun i hi => each i (by omega))
     obtain ⟨x, hx⟩ := each N (by omega)
     refine ⟨vs ++ [x], by simp [h1], fun j y hj => ?_⟩
     rcases Nat.lt_or_ge j vs.length with hlt | hge
     ·rw [List.getElem?_append_left hlt] at hj
      exact h2 j y hj
     ·rw [List.getElem?_append_right hge] at hj
      have : j - vs.length = 0 := by
       rcases Nat.eq_zero_or_pos (j - vs.length) with h | h
       ·exact h
       ·rw [List.getElem?_eq_none (by simp; omega)] at hj; cases hj
      rw [this] at hj
      cases hj
      rw [show j = N by omega]
      exact hx
  obtain ⟨vs, h1, h2⟩ := hv
  subst h1
  refine ⟨vs, some a', cap, rfl, ?_⟩
  rcases Nat.eq_zero_or_pos vs.length with h0 | h0
  ·exact .inl h0
  ·refine .inr ⟨a'.block, a'.off, ?_, ?_⟩
   ·have h3 := (h2 0 vs[0] (List.getElem?_eq_getElem h0)).1
    have h4 := spot_noneE (a := a') (by simpa [Addr.add] using h3)
    obtain ⟨b, o, s⟩ := a'
    cases h4
    rfl
   ·have h3 := (h2 0 vs[0] (List.getElem?_eq_getElem h0)).1
    have h4 := spot_noneE (a := a') (by simpa [Addr.add] using h3)
    intro j x hj
    have h5 := h2 j x hj
    obtain ⟨b, o, s⟩ := a'
    cases h4
    simp only [Addr_add] at h5
    exact ⟨h5.1, by rw [Nat.add_assoc]; exact h5.2.1, by rw [Nat.add_assoc]; exact h5.2.2.1, by rw [Nat.add_assoc]; exact h5.2.2.2⟩
end Go.Proofs.YtolieljpnafbhaaGreatDoor
namespace Go.Proofs.YtolieljpnafbhaaGreatDoor
open Go.RowKit Go.Maps
section
variable {w0 w w' : World} {pb db n : Nat} {o o' : Owner} {d d' : Dsk} {L L' : Logic}
theorem nmX_ne (c : UInt8) (k : Nat) : sName c k ≠ nmX := by
 intro e
 have := congrArg ByteArray.size e
 unfold sName nmX at this
 have h2 : ([c, 46] ++ Lib.decDigits k).toArray.size = 1 := this
 simp at h2
theorem nmX_t (k : Nat) : tName k ≠ nmX := by
 intro e
 have := ownName_t k
 rw [e] at this
 revert this
 decide
def HeldMake (w0 : World) (pb db n : Nat) (gen : Nat) (es : List Edg) (vs : List Vrt) (L : Logic) (e : Ending) (w' : World) : Prop :=
 ∃ d' o', e = .returned (.int .i64 0) ∧ Held w0 w' pb db n o' d' (makeL L gen es vs)
theorem held_make (HW : WriteSaid) {m : Nat} (HJS : JobSortSaid m) (h : Held w0 w pb db n o d L) (hn : 8 ≤ n) {es : List Edg} (hr : RawL es L) {gen : Nat} (hg : GenAt w o gen) (hm : es.length ≤ m) (hes : es.length ≤ 1000) {v : Value} {vs : List Vrt} (hvs : VertsAt w v vs) (hvo : ∀ x, v.ownBlock = some x → o x = none) (hvl : vs.length ≤ 1000) :
 Calls Tryz.prog 17 #[ptrTo pb, .string nmX, .int .i64 (gen : Int), v] w (HeldMake w0 pb db n gen es vs L) := by
 obtain ⟨fl, hfl⟩ := hr.1
 refine (storeMake_any HW HJS h.pool hn hg hfl (by decide) hm (hr.2.1 _ (nmX_ne _ _)) (hr.2.1 _ (nmX_ne _ _)) (hr.2.1 _ (nmX_ne _ _)) (fun k => hr.2.1 _ (nmX_t k)) hvs hvo (by omega)).mono ?_
 rintro e w' ⟨c, d', o', L', rfl, hmv, -, hc⟩
 have hneed := hr.2.2
 have h0 : c = 0 := h.fine hmv (hc.imp (fun h => h.1) id) (by omega)
 subst h0
 rcases hc with ⟨_, rfl⟩ | hc
 ·exact ⟨d', o', rfl, h.moved hmv (fun _ h => h.elim)⟩
 ·exact absurd rfl hc.ne
def HeldOpen (w0 : World) (pb db n : Nat) (L : Logic) (gen N : Nat) (e : Ending) (w' : World) : Prop :=
 ∃ gb ob ib vb d' o', e = .returned (.tuple #[ptrTo gb, .int .i64 0]) ∧ Held w0 w' pb db n o' d' L ∧ GraphAt w' o' gb pb gen N ob ib vb
theorem held_open (HW : WriteSaid) (h : Held w0 w pb db n o d L) (hq : need L ≤ 131072) {gen : Nat} (hg : GenAt w o gen) {vs : List Vrt} {es1 es2 : List Edg} {fl0 fl1 fl2 : Bool} (hv : mget L (sName 118 gen) = some (vertFile vs fl0)) (he : mget L (sName 101 gen) = some (edgeFile es1 fl1)) (hr : mget L (sName 114 gen) = some (edgeFile es2 fl2)) :
 Calls Tryz.prog 18 #[ptrTo pb, .int .i64 (gen : Int)] w (HeldOpen w0 pb db n L gen vs.length) := by
 refine (storeOpen_any HW h.pool hg hv he hr).mono ?_
 rintro e w' ⟨v, c, d', o', rfl, hm, hc, h1, -⟩
 have h0 : c = 0 := h.fine' hm hc hq
 subst h0
 obtain ⟨gb, ob, ib, vb, rfl, hga⟩ := h1 rfl
 exact ⟨gb, ob, ib, vb, d', o', rfl, h.moved hm (fun _ h => h.elim), hga⟩
theorem rise_best {b : Bool} {l out : List Edg} (h : Best b l out) : Rise b out := by
 intro i j x y hi hj hij
 rcases Nat.lt_or_ge i j with hlt | hge
 ·have hil := lt_of_get hi
  have hjl := lt_of_get hj
  rw [List.getElem?_eq_getElem hil] at hi
  rw [List.getElem?_eq_getElem hjl] at hj
  have h1 := List.pairwise_iff_getElem.1 h.rise i j hil hjl hlt
  rw [Option.some.inj hi, Option.some.inj hj] at h1
  obtain ⟨p1, p2, p3⟩ := pk_ends b x
  obtain ⟨q1, q2, q3⟩ := pk_ends b y
  omega
 ·obtain rfl : i = j := by omega
  rw [hi] at hj
  cases hj
  exact Nat.le_refl _
theorem rise_bestOf (b : Bool) (l : List Edg) : Rise b (bestOf b l) := rise_best (best_bestOf b l)
theorem makeL_files (L : Logic) (gen : Nat) (es : List Edg) (vs : List Vrt) :
 mget (makeL L gen es vs) (sName 101 gen) = some (edgeFile (bestOf false es) true) ∧ mget (makeL L gen es vs) (sName 114 gen) = some (edgeFile (bestOf true es) true) ∧ mget (makeL L gen es vs) (sName 118 gen) = some (vertFile vs true) := by
 have n1 : sName 101 gen ≠ sName 114 gen := sName_ne (by decide) _ _
 have n2 : sName 101 gen ≠ sName 118 gen := sName_ne (by decide) _ _
 have n3 : sName 114 gen ≠ sName 118 gen := sName_ne (by decide) _ _
 unfold makeL
 refine ⟨?_, ?_, ?_⟩
 ·rw [mget_mput, if_neg n2, mget_mput, if_neg n1, mget_mput, if_pos rfl]
 ·rw [mget_mput, if_neg n3, mget_mput, if_pos rfl]
 ·rw [mget_mput, if_pos rfl]
theorem makeL_need (L : Logic) (gen : Nat) (es : List Edg) (vs : List Vrt) : need (makeL L gen es vs) ≤ need L + 8 * es.length + 4 * vs.length := by
 unfold makeL
 have h1 := need_mput_le (mput (mput L (sName 101 gen) (edgeFile (bestOf false es) true)) (sName 114 gen) (edgeFile (bestOf true es) true)) (sName 118 gen) (vertFile vs true)
 have h2 := need_mput_le (mput L (sName 101 gen) (edgeFile (bestOf false es) true)) (sName 114 gen) (edgeFile (bestOf true es) true)
 have h3 := need_mput_le L (sName 101 gen) (edgeFile (bestOf false es) true)
 have h4 := vertFile_need vs true
 have h5 := edgeFile_need (bestOf true es) true
 have h6 := edgeFile_need (bestOf false es) true
 have h7 := bestOf_length true es
 have h8 := bestOf_length false es
 omega
end
end Go.Proofs.YtolieljpnafbhaaGreatDoor
namespace Go.Proofs.YtolieljpnafbhaaGreatDoor
open Go.RowKit Go.Maps
def eOne : Edg := ⟨0, 1, 5, 4294967295⟩
def vOne : Vrt := ⟨4294967295, 0, 0⟩
theorem best_one : bestOf false [eOne] = [eOne] := by
 refine (Best.eq (b := false) ⟨List.pairwise_singleton _ _, fun e he => ?_, fun x hx hn => ?_⟩).symm
 ·rw [List.mem_singleton] at he
  subst he
  refine ⟨List.mem_singleton_self _, by decide, fun x hx _ => ?_⟩
  rw [List.mem_singleton] at hx
  subst hx
  exact Nat.le_refl _
 ·rw [List.mem_singleton] at hx
  subst hx
  exact ⟨_, List.mem_singleton_self _, ⟨rfl, rfl⟩⟩
theorem of_one : ofL false 0 [eOne] = [eOne] := rfl
set_option maxRecDepth 100000 in
set_option maxHeartbeats 4000000 in
theorem works13_any (HW : WriteSaid) {m : Nat} (HJS : JobSortSaid m) (hm : 1 ≤ m) (w : World) :
 Calls Tryz.prog 15 #[] w fun e w' => e = .returned (.bool true) ∧ Below w.heap.size w w' := by
 go_enter Tryz.func15, Tryz.ntmps15
 have HB0 : Hid (Below w.heap.size w (w.alloc (.cells #[.int .u32 0, .int .u32 1, .int .u64 5, .int .u32 4294967295] 47))) := Lib.hid ((Below.refl _ _).alloc (Nat.le_refl _) _)
 have HR0 : Hid (RdE (w.alloc (.cells #[.int .u32 0, .int .u32 1, .int .u64 5, .int .u32 4294967295] 47)) (.slice (some ⟨w.heap.size, 0, none⟩) 1 1) [eOne]) := Lib.hid ⟨_, 1, rfl, .inr ⟨w.heap.size, 0, rfl, fun j x hx => by
  match j, hx with
  | 0, hx => cases hx; simp [eOne]
  | j + 1, hx => cases hx⟩⟩
 go_wp2_with fail
 generalize w.alloc (.cells #[.int .u32 0, .int .u32 1, .int .u64 5, .int .u32 4294967295] 47) = W0 at *
 refine (raw_any HW 8 (by decide) (by decide) _ [eOne] W0 HR0.out (by decide)).mono ?_
 rintro e w1 ⟨db, pb, o1, d1, L1, rfl, hh1, hr1⟩
 have HH1 := Lib.hid hh1
 have HR1 := Lib.hid hr1
 clear hh1 hr1
 have HBv : Hid (Below w1.heap.size w1 (w1.alloc (.cells #[.int .u32 4294967295, .int .u32 0, .int .u32 0, .int .u32 4294967295, .int .u32 0, .int .u32 0] 36))) := Lib.hid ((Below.refl _ _).alloc (Nat.le_refl _) _)
 have HVs : Hid (VertsAt (w1.alloc (.cells #[.int .u32 4294967295, .int .u32 0, .int .u32 0, .int .u32 4294967295, .int .u32 0, .int .u32 0] 36)) (.slice (some ⟨w1.heap.size, 0, none⟩) 2 2) [vOne, vOne]) := Lib.hid ⟨_, 2, rfl, by decide, by decide, .inr ⟨w1.heap.size, 0, rfl, fun i hi => by
  match i, hi with
  | 0, _ => simp [vOne]
  | 1, _ => simp [vOne]⟩⟩
 unfold ptrTo at *
 go_wp2_with fail
 generalize w1.alloc (.cells #[.int .u32 4294967295, .int .u32 0, .int .u32 0, .int .u32 4294967295, .int .u32 0, .int .u32 0] 36) = W1 at *
 refine (held_make HW HJS (HH1.out.later HBv.out) (by decide) HR1.out (gen := 0) (.inl (by decide)) hm (by decide) HVs.out (fun x hx => by cases hx; exact HH1.out.pool.fresh (Nat.le_refl _)) (by decide)).mono ?_
 rintro e w2 ⟨d2, o2, rfl, hh2⟩
 have HH2 := Lib.hid hh2
 obtain ⟨f1, f2, f3⟩ := makeL_files L1 0 [eOne] [vOne, vOne]
 have HF1 := Lib.hid f1
 have hnd : need (makeL L1 0 [eOne] [vOne, vOne]) ≤ 131072 := Nat.le_trans (makeL_need _ _ _ _) (by have := HR1.out.2.2; simp at this ⊢; omega)
 have hop := Lib.hid (held_open HW HH2.out hnd (.inl (by decide)) f3 f1 f2)
 have need_one : Hid (need L1 + 16 = need L1 + 16 ∧ need L1 ≤ 4) := Lib.hid ⟨rfl, by have := HR1.out.2.2; simpa using this⟩
 clear hh2 f1 f2 f3 hnd HH1 HR1 HVs
 go_wp2_with fail
 refine hop.out.mono ?_
 rintro e w3 ⟨gb, ob, ib, vb, d3, o3, rfl, hh3, hg3⟩
 have HH3 := Lib.hid hh3
 have HG3 := Lib.hid hg3
 have hout := Lib.hid (graphOut_in HW hh3.pool hg3 HF1.out (rise_bestOf false _) (by rw [best_one]; decide) (v := 0) (by decide) (by decide))
 rw [best_one, of_one] at hout
 clear hh3 hg3 hop HH2
 unfold ptrTo at *
 go_wp2_with fail
 refine hout.out.mono ?_
 rintro e w4 ⟨v4, c4, d4, o4, rfl, hm4, he4, hv4, -⟩
 have hc4 : c4 = 0 := HH3.out.fine' hm4 he4 (Nat.le_trans (makeL_need _ _ _ _) (by have := need_one.out.2; simp; omega))
 subst hc4
 obtain ⟨hl4, -⟩ := hv4 rfl
 have HH4 := Lib.hid (HH3.out.moved hm4 (fun _ h => h.elim))
 have HG4 := Lib.hid (HG3.out.moved hm4)
 obtain ⟨g, cap, rfl, -⟩ : ∃ g cap, v4 = .slice (some ⟨g, 0, none⟩) 1 cap ∧ True := by
  rcases ownsEdges_shape hl4 with ⟨h1, _⟩ | ⟨g, cap, h1, _⟩
  ·cases h1
  ·exact ⟨g, cap, h1, trivial⟩
 obtain ⟨e0, e1, e2, e3⟩ := ownsEdges_cells (l := [eOne]) hl4 (i := 0) rfl
 have hsz := Lib.hid (graphSize_any HG4.out)
 clear hm4 he4 hv4 hl4 hout HH3 HG3
 simp only [eOne] at e0 e1 e2 e3
 unfold ptrTo at *
 have e2' : w4.cell? ⟨g, 2, none⟩ = some (.int .u64 5) := e2
 have hgl : g < w4.heap.size := World.block_lt_of_cell? _ _ e2'
 have hsz' : Hid (Calls Tryz.prog 19 #[.pointer (some ⟨gb, 0, none⟩)] w4 fun e w' => e = .returned (.int .i64 2) ∧ w4 = w') := hsz
 clear e0 e1 e2 e3 hsz
 go_wp2_with fail
 refine hsz'.out.mono ?_
 rintro e w' ⟨rfl, rfl⟩
 go_wp2
 go_ret
 exact ⟨rfl, HB0.out.trans (HH4.out.below.mono HB0.out.size)⟩
end Go.Proofs.YtolieljpnafbhaaGreatDoor
namespace Go.Proofs.YtolieljpnafbhaaGreatDoor
open Go.RowKit Go.Maps
def RdV (w : World) (v : Value) (vs : List Vrt) : Prop :=
 ∃ a cap, v = .slice a vs.length cap ∧ (vs.length = 0 ∨ ∃ b off, a = some ⟨b, off, none⟩ ∧ ∀ (j : Nat) (x : Vrt), vs[j]? = some x → w.cell? ⟨b, off + j * 3, none⟩ = some (.int .u32 (x.r.toNat : Int)) ∧ w.cell? ⟨b, off + j * 3 + 1, none⟩ = some (.int .u32 (x.l.toNat : Int)) ∧ w.cell? ⟨b, off + j * 3 + 2, none⟩ = some (.int .u32 (x.g.toNat : Int)))
theorem RdV.below {w w' : World} {v : Value} {vs : List Vrt} (h : RdV w v vs) (hb : Below w.heap.size w w') : RdV w' v vs := by
 obtain ⟨a, cap, rfl, h | ⟨b, off, rfl, hc⟩⟩ := h
 ·exact ⟨a, cap, rfl, .inl h⟩
 ·refine ⟨_, cap, rfl, .inr ⟨b, off, rfl, fun j x hx => ?_⟩⟩
  obtain ⟨h1, h2, h3⟩ := hc j x hx
  exact ⟨cellBelow hb h1, cellBelow hb h2, cellBelow hb h3⟩
def vrtRow : List Vrt → List Value
 | [] => []
 | x :: l => [.int .u32 (x.r.toNat : Int), .int .u32 (x.l.toNat : Int), .int .u32 (x.g.toNat : Int)] ++ vrtRow l
theorem vrtRow_length (l : List Vrt) : (vrtRow l).length = l.length * 3 := by
 induction l with
 | nil => rfl
 | cons e l ih => rw [vrtRow, List.length_append, ih, List.length_cons]; simp; omega
theorem vrtRow_get {l : List Vrt} {i : Nat} {x : Vrt} (h : l[i]? = some x) {j : Nat} (hj : j < 3) : (vrtRow l)[i * 3 + j]? = [Value.int .u32 (x.r.toNat : Int), .int .u32 (x.l.toNat : Int), .int .u32 (x.g.toNat : Int)][j]? := by
 induction l generalizing i with
 | nil => cases h
 | cons q l ih =>
   rw [vrtRow]
   cases i with
   | zero =>
     cases h
     rw [List.getElem?_append_left (by simp; omega)]
     simp
   | succ i =>
     rw [List.getElem?_append_right (by simp; omega), ← ih (i := i) (by simpa using h)]
     congr 1
     simp
     omega
theorem vrtRow_one (l : List Vrt) : ∀ u ∈ vrtRow l, u.oneCell' = true := by
 induction l with
 | nil => intro u hu; cases hu
 | cons x l ih =>
   intro u hu
   rw [vrtRow, List.mem_append] at hu
   rcases hu with hu | hu
   ·simp at hu
    rcases hu with rfl | rfl | rfl <;> rfl
   ·exact ih u hu
theorem RdV.cells {w : World} {v : Value} {vs : List Vrt} {b off n cap : Nat} (h : RdV w v vs) (hv : v = .slice (some ⟨b, off, none⟩) n cap) : ∀ j u, (vrtRow vs)[j]? = some u → w.cell? ((⟨b, off, none⟩ : Addr).add j) = some u := by
 intro j u hj
 obtain ⟨a, cap', hve, hc⟩ := h
 have hjl := lt_of_get hj
 rw [vrtRow_length] at hjl
 rcases hc with h0 | ⟨b', off', rfl, hc⟩
 ·omega
 ·rw [hv] at hve
  obtain ⟨⟨rfl, rfl⟩, -, -⟩ : (b = b' ∧ off = off') ∧ n = vs.length ∧ cap = cap' := by simpa using hve
  have hi : j / 3 < vs.length := by omega
  obtain ⟨h1, h2, h3⟩ := hc (j / 3) vs[j / 3] (List.getElem?_eq_getElem hi)
  have hg := vrtRow_get (List.getElem?_eq_getElem hi) (j := j % 3) (by omega)
  rw [show j / 3 * 3 + j % 3 = j by omega, hj] at hg
  rw [Addr_add]
  have h012 : j % 3 = 0 ∨ j % 3 = 1 ∨ j % 3 = 2 := by omega
  rcases h012 with e | e | e
  ·rw [e] at hg
   cases hg
   rw [show off + j = off + j / 3 * 3 by omega]
   exact h1
  ·rw [e] at hg
   cases hg
   rw [show off + j = off + j / 3 * 3 + 1 by omega]
   exact h2
  ·rw [e] at hg
   cases hg
   rw [show off + j = off + j / 3 * 3 + 2 by omega]
   exact h3
theorem info_vert : (Tryz.prog.info? 36).map (fun i => (i.zero, i.size, i.bytes)) = some (some (.agg #[.int .u32 0, .int .u32 0, .int .u32 0]), 3, 12) := by kernel_rfl
end Go.Proofs.YtolieljpnafbhaaGreatDoor
namespace Go.Proofs.YtolieljpnafbhaaGreatDoor
open Go.ChangeShapes Go.WideShapes Go.ChangeAt Go.RowKit Go.Joins
theorem spot_none {w : World} {a : Addr} {v : Value} (h : w.cell? a = some v) : a.spot = none := by
 obtain ⟨b, o, s⟩ := a
 cases s with
 | none => rfl
 | some s =>
   unfold World.cell? at h
   simp at h
   split at h <;> cases h
theorem u32_of {z : Int} (h : (Lit.int .u32 z).wf = true) : z = ((UInt32.ofNat z.toNat).toNat : Int) := by
 simp [Lit.wf] at h
 have h0 : IntKind.u32.min = 0 := rfl
 have h1 : IntKind.u32.max = 4294967295 := rfl
 rw [h0, h1] at h
 rw [UInt32.toNat_ofNat']
 omega
theorem cellsVert : Tryz.prog.cellsOf 36 = 3 := by kernel_rfl
theorem cellsU32 : Tryz.prog.cellsOf 23 = 1 := by kernel_rfl
set_option maxRecDepth 100000 in
theorem opened_verts {H : Type} {enc : TypeId × Value → H} {W : World} {sp : Nat → Bool} {a : Option Addr} {len cap : Nat} {d : DataW H} {p : List MemPlace} (h : DataW.Trod enc Tryz.prog W 0 sp true 22 (.slice a len cap) d p) :
 ∃ vs, RdV W (.slice a len cap) vs := by
 obtain ⟨fuel, hf⟩ := h
 rcases Deep.open_slice Tryz.underlying22 hf with ⟨hcs, -⟩ | ⟨a', len', cap', m, n, D, Pl, hcs, -, hl, -, hm, -, hx⟩
 ·simp [Value.cells] at hcs
  obtain ⟨rfl, rfl, rfl⟩ := hcs
  exact ⟨[], none, 0, rfl, .inl rfl⟩
 ·simp [Value.cells] at hcs
  obtain ⟨rfl, rfl, rfl⟩ := hcs
  have hlm : len ≤ m := by rw [hm]; split <;> omega
  rw [cellsVert] at hx
  have each : ∀ i, i < len → ∃ x : Vrt, W.cell? (a'.add (i * 3)) = some (.int .u32 (x.r.toNat : Int)) ∧ W.cell? (a'.add (i * 3 + 1)) = some (.int .u32 (x.l.toNat : Int)) ∧ W.cell? (a'.add (i * 3 + 2)) = some (.int .u32 (x.g.toNat : Int)) := by
   intro i hi
   obtain ⟨cs', h1, h2⟩ := hx i (by omega)
   obtain ⟨_, hlen, hcell⟩ := World.cells?_some h1
   obtain ⟨xs, k, hk, hxy, _, hxl, hf⟩ := DataW.trod_struct Tryz.underlying36 h2
   match xs, hxl, cs', hlen with
   | [y0, y1, y2], _, [v0, v1, v2], _ =>
     have g0 := hf 0 _ rfl
     have g1 := hf 1 _ rfl
     have g2 := hf 2 _ rfl
     simp [cellsU32] at g0 g1 g2
     obtain ⟨n0, q0, -, w0⟩ := DataW.trod_int Tryz.underlying23 g0
     obtain ⟨n1, q1, -, w1⟩ := DataW.trod_int Tryz.underlying23 g1
     obtain ⟨n2, q2, -, w2⟩ := DataW.trod_int Tryz.underlying23 g2
     obtain ⟨rfl⟩ := q0
     obtain ⟨rfl⟩ := q1
     obtain ⟨rfl⟩ := q2
     have e0 := hcell 0 (by omega)
     have e1 := hcell 1 (by omega)
     have e2 := hcell 2 (by omega)
     rw [Deep.add_add] at e0 e1 e2
     exact ⟨⟨UInt32.ofNat n0.toNat, UInt32.ofNat n1.toNat, UInt32.ofNat n2.toNat⟩, by rw [← u32_of w0]; simpa using e0, by rw [← u32_of w1]; simpa using e1, by rw [← u32_of w2]; simpa using e2⟩
  have hv : ∃ vs : List Vrt, vs.length = len ∧ ∀ (j : Nat) (x : Vrt), vs[j]? = some x → W.cell? (a'.add (j * 3)) = some (.int .u32 (x.r.toNat : Int)) ∧ W.cell? (a'.add (j * 3 + 1)) = some (.int .u32 (x.l.toNat : Int)) ∧ W.cell? (a'.add (j * 3 + 2)) = some (.int .u32 (x.g.toNat : Int)) := by
   clear hx hf
   generalize len = N at *
   clear hl hm hlm
   induction N with
   | zero => exact ⟨[], rfl, fun j x hj => by cases hj⟩
   | succ N ih =>
     obtain ⟨vs, h1, h2⟩ := ih (fun i hi => each i (by omega))
     obtain ⟨x, hx⟩ := each N (by omega)
     refine ⟨vs ++ [x], by simp [h1], fun j y hj => ?_⟩
     rcases Nat.lt_or_ge j vs.length with hlt | hge
     ·rw [List.getElem?_append_left hlt] at hj
      exact h2 j y hj
     ·rw [List.getElem?_append_right hge] at hj
      have : j - vs.length = 0 := by
       rcases Nat.eq_zero_or_pos (j - vs.length) with h | h
       ·exact h
       ·rw [List.getElem?_eq_none (by simp; omega)] at hj; cases hj
      rw [this] at hj
      cases hj
      rw [show j = N by omega]
      exact hx
  obtain ⟨vs, h1, h2⟩ := hv
  subst h1
  refine ⟨vs, some a', cap, rfl, ?_⟩
  rcases Nat.eq_zero_or_pos vs.length with h0 | h0
  ·exact .inl h0
  ·refine .inr ⟨a'.block, a'.off, ?_, ?_⟩
   ·have h3 := (h2 0 vs[0] (List.getElem?_eq_getElem h0)).1
    have h4 := spot_none (a := a') (by simpa [Addr.add] using h3)
    obtain ⟨b, o, s⟩ := a'
    cases h4
    rfl
   ·have h3 := (h2 0 vs[0] (List.getElem?_eq_getElem h0)).1
    have h4 := spot_none (a := a') (by simpa [Addr.add] using h3)
    intro j x hj
    have h5 := h2 j x hj
    obtain ⟨b, o, s⟩ := a'
    cases h4
    simp only [Addr_add] at h5
    exact ⟨h5.1, by rw [Nat.add_assoc]; exact h5.2.1, by rw [Nat.add_assoc]; exact h5.2.2⟩
end Go.Proofs.YtolieljpnafbhaaGreatDoor
namespace Go.Proofs.YtolieljpnafbhaaGreatDoor
open Go.ChangeShapes Go.WideShapes Go.ChangeAt Go.RowKit Go.Joins
theorem cellsNet : Tryz.prog.cellsOf 87 = 4 := by kernel_rfl
theorem cellsEdges : Tryz.prog.cellsOf 40 = 1 := by kernel_rfl
theorem cellsVerts : Tryz.prog.cellsOf 22 = 1 := by kernel_rfl
theorem cellsInt : Tryz.prog.cellsOf 3 = 1 := by kernel_rfl
theorem cellsU8 : Tryz.prog.cellsOf 5 = 1 := by kernel_rfl
theorem i64_of {z : Int} (h : (Lit.int .i64 z).wf = true) : -9223372036854775808 ≤ z ∧ z < 9223372036854775808 := by
 simp [Lit.wf] at h
 have h0 : IntKind.i64.min = -9223372036854775808 := rfl
 have h1 : IntKind.i64.max = 9223372036854775807 := rfl
 omega
theorem slice_cell {H : Type} {enc : TypeId × Value → H} {W : World} {sp : Nat → Bool} {n : Nat} {t e : TypeId} {v : Value} {y : DataW H × List MemPlace} (ht : Tryz.prog.underlying t = some (.slice e)) (h : DataW.trod enc Tryz.prog W 0 sp true n t [v] = some y) :
 ∃ a len cap, v = .slice a len cap := by
 rcases Deep.open_slice ht h with ⟨hcs, -⟩ | ⟨a', len', cap', m, n, D, Pl, hcs, -⟩
 ·simp at hcs
  exact ⟨_, _, _, hcs⟩
 ·simp at hcs
  exact ⟨_, _, _, hcs⟩
set_option maxRecDepth 100000 in
theorem opened_net {H : Type} {enc : TypeId × Value → H} {W : World} {sp : Nat → Bool} {r : Reach} {b0 : Nat} {v : Value} {d : DataW H} {p : List MemPlace} (hval : Value.okWide Tryz.prog W r b0 87 v) (h : DataW.Trod enc Tryz.prog W 0 sp true 87 v d p) :
 ∃ (ev vv : Value) (es : List Edg) (vs : List Vrt) (g : Int) (fr : Nat), v = .agg #[ev, vv, .int .i64 g, .int .u8 (fr : Int)] ∧ RdE W ev es ∧ RdV W vv vs ∧ (-9223372036854775808 ≤ g ∧ g < 9223372036854775808) ∧ fr < 256 := by
 obtain ⟨cs, rfl, hsz⟩ := okWide_struct Tryz.underlying87 hval
 obtain ⟨fuel, hf⟩ := h
 obtain ⟨xs, k, hk, hxy, hl, hxl, hff⟩ := DataW.trod_struct Tryz.underlying87 hf
 rw [cellsNet] at hsz
 obtain ⟨cs⟩ := cs
 match xs, hxl, cs, hsz with
 | [y0, y1, y2, y3], _, [v0, v1, v2, v3], _ =>
   have g0 := hff 0 _ rfl
   have g1 := hff 1 _ rfl
   have g2 := hff 2 _ rfl
   have g3 := hff 3 _ rfl
   simp [cellsEdges, cellsVerts, cellsInt, cellsU8, Value.cells] at g0 g1 g2 g3
   obtain ⟨a0, l0, c0, rfl⟩ := slice_cell Tryz.underlying40 g0
   obtain ⟨a1, l1, c1, rfl⟩ := slice_cell Tryz.underlying22 g1
   obtain ⟨n2, q2, -, w2⟩ := DataW.trod_int Tryz.underlying3 g2
   obtain ⟨n3, q3, -, w3⟩ := DataW.trod_int Tryz.underlying5 g3
   obtain ⟨rfl⟩ := q2
   obtain ⟨rfl⟩ := q3
   obtain ⟨es, hes⟩ := opened_edges (d := y0.1) (p := y0.2) ⟨_, g0⟩
   obtain ⟨vs, hvs⟩ := opened_verts (d := y1.1) (p := y1.2) ⟨_, g1⟩
   obtain ⟨fr, hfr, rfl⟩ := u8_ofE w3
   exact ⟨_, _, es, vs, n2, fr, rfl, hes, hvs, i64_of w2, hfr⟩
theorem tabIs_third {P : Program} {W : World} {n1 n2 name : String} {d1 d2 : DataW Unit} {k : IntKind} {zs : List Int} {rest : List (String × DataW Unit)} {g : Nat} {t e : TypeId} {n : Nat}
 (hg : P.globalNamed name = some g) (hty : (P.globals[g]?).map (·.type) = some t) (ht : P.underlying t = some (.array n e)) (he : P.underlying e = some (.int k)) (hce : P.cellsOf e = 1) (hct : P.cellsOf t = n)
 (h : laidMet P ((n1, d1) :: (n2, d2) :: (name, Lib.tabData k zs) :: rest) W) : Lib.TabIs P W name k zs := by
 obtain ⟨ps, ⟨_, _, _, _, _, _, _, _, _, _, ⟨_, _, _, _, _, _, _, _, _, _, ⟨g', t', cs, fuel, p, q, hg', ht', hvar, hd, _, _⟩, _⟩, _⟩, _⟩ := h
 obtain rfl := Option.some.inj (hg.symm.trans hg')
 obtain rfl := Option.some.inj (hty.symm.trans ht')
 unfold Lib.TabIs
 rw [hvar, ← Lib.cells_of_tab ht he hce hct hd]
set_option maxRecDepth 100000 in
theorem pow_of_laid {W : World} (h : laidMetH Tryz.prog Rows.storeAgreesRow.laid W) : PowAt W := by
 have h1 : laidMet Tryz.prog [("math/bits.deBruijn32tab", Rows.laid_math_bits_deBruijn32tab), ("math/bits.deBruijn64tab", Rows.laid_math_bits_deBruijn64tab), ("internal/strconv.uint64pow10", Lib.tabData .u64 Lib.pow10Tab)] W := h
 exact tabIs_third powName (by kernel_rfl) Tryz.underlying275 Tryz.underlying45 (by kernel_rfl) (by kernel_rfl) h1
end Go.Proofs.YtolieljpnafbhaaGreatDoor
namespace Go.Proofs.YtolieljpnafbhaaGreatDoor
open Go.RowKit Go.Maps Go.MapKept
section
variable {w w' : World} {pb db n sb gb gen N ob ib vb v : Nat} {name : Name} {o o' : Owner} {d d' : Dsk} {L L' : Logic}
set_option maxHeartbeats 1000000 in
theorem storeRight_no (k : Int) (hk : k < 0 ∨ 1048576 < k) (w : World) : Calls Tryz.prog 62 #[.int .i64 k] w fun e w' => e = .returned (.bool false) ∧ w = w' := by
 rcases hk with h | h
 ·have h2 : ¬ k ≥ 0 := by omega
  go_enter Tryz.func62, Tryz.ntmps62
  go_wp2
  go_ret
  exact ⟨rfl, rfl⟩
 ·have h1 : ¬ k ≤ 1048576 := by omega
  have h2 : k ≥ 0 := by omega
  go_enter Tryz.func62, Tryz.ntmps62
  go_wp2
  go_ret
  exact ⟨rfl, rfl⟩
set_option maxRecDepth 100000 in
set_option maxHeartbeats 1000000 in
theorem storeMake_no (pb : Nat) (s v : Value) (k : Int) (hk : k < 0 ∨ 1048576 < k) (w : World) : Calls Tryz.prog 17 #[ptrTo pb, s, .int .i64 k, v] w fun e w' => e = .returned (.int .i64 1) ∧ w = w' := by
 have hr := Lib.hid (storeRight_no k hk)
 clear hk
 unfold ptrTo
 go_enter Tryz.func17, Tryz.ntmps17
 go_wp2_with fail
 refine (hr.out _).mono ?_
 rintro e w' ⟨rfl, rfl⟩
 go_wp2
 go_ret
 exact ⟨rfl, rfl⟩
set_option maxRecDepth 100000 in
set_option maxHeartbeats 1000000 in
theorem storeOpen_no (pb : Nat) (k : Int) (hk : k < 0 ∨ 1048576 < k) (w : World) : Calls Tryz.prog 18 #[ptrTo pb, .int .i64 k] w fun e w' => e = .returned (.tuple #[.pointer none, .int .i64 1]) ∧ w = w' := by
 have hr := Lib.hid (storeRight_no k hk)
 clear hk
 unfold ptrTo
 go_enter Tryz.func18, Tryz.ntmps18
 go_wp2_with fail
 refine (hr.out _).mono ?_
 rintro e w' ⟨rfl, rfl⟩
 go_wp2
 go_ret2
 exact ⟨rfl, rfl⟩
set_option maxRecDepth 100000 in
set_option maxHeartbeats 4000000 in
theorem graphEdge_gen (E : Nat → Dsk → Prop) (h : PoolAt w pb db n o d L) (hg : GraphAt w o gb pb gen N ob ib vb) {i : Int} {x : Edg} (hget0 : ∀ W, Below w.heap.size w W → Calls Tryz.prog 31 #[ptrTo ob, .int .i64 i] W (RecPostE E n pb db W o d L x.bytes)) :
 Calls Tryz.prog 24 #[ptrTo gb, .int .i64 i] w (ReadEPostE E n pb db w o d L x) := by
 have hrd : Hid (∀ W, Below w.heap.size w W → Calls Tryz.prog 69 #[ptrTo ob, .int .i64 i] W (ReadEPostE E n pb db W o d L x)) := Lib.hid (fun W hW => storeRead_gen E (h.below hW) (fun W' hW' => hget0 W' (hW.trans (hW'.mono hW.size))))
 obtain ⟨g0, -, -, -, -⟩ := hg.raw.cells
 have hgl := hg.raw.lt
 have H := Lib.hid h
 clear h hg hget0
 unfold ptrTo at *
 have HB0 : Hid (Below w.heap.size w (w.alloc (.cells #[.int .u32 0, .int .u32 0, .int .u64 0, .int .u32 0] 47))) := Lib.hid ((Below.refl _ _).alloc (Nat.le_refl _) _)
 have HBX : Hid ((w.alloc (.cells #[.int .u32 0, .int .u32 0, .int .u64 0, .int .u32 0] 47)).heap[w.heap.size]? = some (.cells #[.int .u32 0, .int .u32 0, .int .u64 0, .int .u32 0] 47)) := Lib.hid (heap_alloc_new w _)
 have HOX : Hid (o w.heap.size = none) := Lib.hid (H.out.fresh (Nat.le_refl _))
 go_enter Tryz.func24, Tryz.ntmps24
 go_wp2_with fail
 generalize w.alloc (.cells #[.int .u32 0, .int .u32 0, .int .u64 0, .int .u32 0] 47) = W0 at *
 refine (hrd.out W0 HB0.out).mono ?_
 rintro e w1 ⟨c1, d1, o1, y, rfl, hm1, he1, hy1, hz1⟩
 have hbl : w.heap.size < W0.heap.size := (Array.getElem?_eq_some_iff.1 HBX.out).1
 have HM1 := Lib.hid ((Moved.ofBelow H.out HB0.out).trans hm1 (fun _ _ h => h))
 have HX1 := Lib.hid (hm1.heap HBX.out HOX.out (fun h => h))
 have HE1 := Lib.hid he1
 have HY1 := Lib.hid hy1
 have HZ1 := Lib.hid hz1
 have HOX1 : Hid (o1 w.heap.size = none) := Lib.hid (hm1.free hbl HOX.out)
 clear hm1 he1 hy1 hz1
 have hset : Hid (∀ (w2 : World) (a b c e : Value), w2.heap[w.heap.size]? = some (.cells #[.int .u32 0, .int .u32 0, .int .u64 0, .int .u32 0] 47) → ((((w2.setCell ⟨w.heap.size, 0, none⟩ a).setCell ⟨w.heap.size, 1, none⟩ b).setCell ⟨w.heap.size, 2, none⟩ c).setCell ⟨w.heap.size, 3, none⟩ e).heap[w.heap.size]? = some (.cells #[a, b, c, e] 47)) := Lib.hid (fun w2 a b c e h0 => by
  rw [cells_set (cells_set (cells_set (cells_set h0 0 a) 1 b) 2 c) 3 e]
  rfl)
 have k0 : w1.cell? ⟨w.heap.size, 0, none⟩ = some (.int .u32 0) := by rw [cells_cell HX1.out]; rfl
 have k1' : w1.cell? ⟨w.heap.size, 1, none⟩ = some (.int .u32 0) := by rw [cells_cell HX1.out]; rfl
 have k2' : w1.cell? ⟨w.heap.size, 2, none⟩ = some (.int .u64 0) := by rw [cells_cell HX1.out]; rfl
 have k3' : w1.cell? ⟨w.heap.size, 3, none⟩ = some (.int .u32 0) := by rw [cells_cell HX1.out]; rfl
 have z0 := cells_frozen HX1.out 0
 have z1 := cells_frozen HX1.out 1
 have z2 := cells_frozen HX1.out 2
 have z3 := cells_frozen HX1.out 3
 have hbl1 : w.heap.size < w1.heap.size := (Array.getElem?_eq_some_iff.1 HX1.out).1
 have HX3 := Lib.hid (hset.out w1 (.int .u32 (y.t.toNat : Int)) (.int .u32 (y.h.toNat : Int)) (.int .u64 (y.x.toNat : Int)) (.int .u32 (y.m.toNat : Int)) HX1.out)
 have HM3 : Hid (Moved (fun _ => False) n pb db w o d ((((w1.setCell ⟨w.heap.size, 0, none⟩ (.int .u32 (y.t.toNat : Int))).setCell ⟨w.heap.size, 1, none⟩ (.int .u32 (y.h.toNat : Int))).setCell ⟨w.heap.size, 2, none⟩ (.int .u64 (y.x.toNat : Int))).setCell ⟨w.heap.size, 3, none⟩ (.int .u32 (y.m.toNat : Int))) o1 d1 L) := Lib.hid ((((HM1.out.setCell _ _ HOX1.out (.inr (Nat.le_refl _))).setCell _ _ HOX1.out (.inr (Nat.le_refl _))).setCell _ _ HOX1.out (.inr (Nat.le_refl _))).setCell _ _ HOX1.out (.inr (Nat.le_refl _)))
 go_wp2
 generalize ((((w1.setCell ⟨w.heap.size, 0, none⟩ (.int .u32 (y.t.toNat : Int))).setCell ⟨w.heap.size, 1, none⟩ (.int .u32 (y.h.toNat : Int))).setCell ⟨w.heap.size, 2, none⟩ (.int .u64 (y.x.toNat : Int))).setCell ⟨w.heap.size, 3, none⟩ (.int .u32 (y.m.toNat : Int))) = w3 at *
 have q0 : w3.cell? ⟨w.heap.size, 0, none⟩ = some (.int .u32 (y.t.toNat : Int)) := by rw [cells_cell HX3.out]; rfl
 have q1 : w3.cell? ⟨w.heap.size, 1, none⟩ = some (.int .u32 (y.h.toNat : Int)) := by rw [cells_cell HX3.out]; rfl
 have q2 : w3.cell? ⟨w.heap.size, 2, none⟩ = some (.int .u64 (y.x.toNat : Int)) := by rw [cells_cell HX3.out]; rfl
 have q3 : w3.cell? ⟨w.heap.size, 3, none⟩ = some (.int .u32 (y.m.toNat : Int)) := by rw [cells_cell HX3.out]; rfl
 clear k0 k1' k2' k3' z0 z1 z2 z3
 exact bodyPost_ret (v := .tuple #[.agg #[.int .u32 (y.t.toNat : Int), .int .u32 (y.h.toNat : Int), .int .u64 (y.x.toNat : Int), .int .u32 (y.m.toNat : Int)], .int .i64 (c1 : Int)]) (by simp [results, Tryz.results24, go_sem, q0, q1, q2, q3]) rfl ⟨c1, d1, o1, y, rfl, HM3.out, HE1.out, HY1.out, HZ1.out⟩
theorem graphEdge_in (HW : WriteSaid) (h : PoolAt w pb db n o d L) (hg : GraphAt w o gb pb gen N ob ib vb) {es : List Edg} {fl : Bool} (hL : mget L (sName 101 gen) = some (edgeFile es fl)) {i : Nat} {x : Edg} (hi : es[i]? = some x) :
 Calls Tryz.prog 24 #[ptrTo gb, .int .i64 (i : Int)] w (ReadEPostE (fun c d' => c = 0 ∨ Err d d' L c) n pb db w o d L x) := by
 have hil := lt_of_get hi
 refine graphEdge_gen _ h hg (fun W hW => ?_)
 have := streamGet_in HW (h.below hW) (hg.out.below hW) hg.oob (by decide) (by decide) hL (sized_edges es) (i := i) (by rw [List.length_map]; exact hil)
 rw [List.getElem_map] at this
 rw [List.getElem?_eq_getElem hil] at hi
 rw [Option.some.inj hi] at this
 exact this
end
end Go.Proofs.YtolieljpnafbhaaGreatDoor
namespace Go.Proofs.YtolieljpnafbhaaGreatDoor
open Go.RowKit Go.Maps
theorem Best.turn {b b' : Bool} {l : List Edg} {out : List Edg} (h : Best b (bestOf b' l) out) : Best b l out := by
 have k := best_bestOf b' l
 refine ⟨h.rise, fun e he => ?_, fun x hx hn => ?_⟩
 ·obtain ⟨h1, h2, h3⟩ := h.mem e he
  exact ⟨(k.mem e h1).1, h2, (k.mem e h1).2.2⟩
 ·obtain ⟨y, hy, hs⟩ := k.all x hx hn
  obtain ⟨e, he, hs'⟩ := h.all y hy (hs.symm.loop hn)
  exact ⟨e, he, hs'.trans hs⟩
theorem bestOf_turn (b b' : Bool) (l : List Edg) : bestOf b (bestOf b' l) = bestOf b l := (best_bestOf b (bestOf b' l)).turn.eq
end Go.Proofs.YtolieljpnafbhaaGreatDoor
namespace Go.Proofs.YtolieljpnafbhaaGreatDoor
open Go.RowKit
theorem pairwise_get {b : Bool} {out : List Edg} (h : out.Pairwise (fun x y => pk b x < pk b y)) {i j : Nat} (hij : i < j) {x y : Edg} (hx : out[i]? = some x) (hy : out[j]? = some y) : pk b x < pk b y := by
 have hi := (List.getElem?_eq_some_iff.1 hx).1
 have hj := (List.getElem?_eq_some_iff.1 hy).1
 have := List.pairwise_iff_getElem.1 h i j hi hj hij
 rw [List.getElem?_eq_getElem hi] at hx
 rw [List.getElem?_eq_getElem hj] at hy
 rw [Option.some.inj hx, Option.some.inj hy] at this
 exact this
end Go.Proofs.YtolieljpnafbhaaGreatDoor
namespace Go.Proofs.YtolieljpnafbhaaGreatDoor
open Go.RowKit Go.Maps
theorem rdE_cells {w : World} {a : Option Addr} {n cap : Nat} {es : List Edg} (h : RdE w (.slice a n cap) es) : n = es.length ∧ ∀ W, Below w.heap.size w W → ∀ (i : Nat) (x : Edg), es[i]? = some x → ∃ b off, a = some ⟨b, off, none⟩ ∧ W.cell? ⟨b, off + i * 4, none⟩ = some (.int .u32 (x.t.toNat : Int)) ∧ W.cell? ⟨b, off + i * 4 + 1, none⟩ = some (.int .u32 (x.h.toNat : Int)) ∧ W.cell? ⟨b, off + i * 4 + 2, none⟩ = some (.int .u64 (x.x.toNat : Int)) ∧ W.cell? ⟨b, off + i * 4 + 3, none⟩ = some (.int .u32 (x.m.toNat : Int)) := by
 have hn : n = es.length := by
  obtain ⟨a', cap', he, _⟩ := h
  cases he
  rfl
 refine ⟨hn, fun W hB i x hx => ?_⟩
 obtain ⟨a', cap', hve, hce⟩ := h.below hB
 cases hve
 rcases hce with h0 | ⟨b, off, h1, hc⟩
 ·have := lt_of_get hx
  omega
 ·exact ⟨b, off, h1, hc i x hx⟩
theorem take_snoc {es : List Edg} {i : Nat} {x : Edg} (h : es[i]? = some x) : es.take (i + 1) = es.take i ++ [x] := by
 have hl := lt_of_get h
 rw [List.take_succ_eq_append_getElem hl]
 rw [List.getElem?_eq_getElem hl] at h
 rw [Option.some.inj h]
end Go.Proofs.YtolieljpnafbhaaGreatDoor
namespace Go.Proofs.YtolieljpnafbhaaGreatDoor
open Go.RowKit Go.Maps
set_option maxRecDepth 100000 in
set_option maxHeartbeats 1000000 in
theorem vast_no {w : World} {ev vv : Value} {es : List Edg} {vs : List Vrt} (g fr : Int) (he : RdE w ev es) (hv : RdV w vv vs) (h1 : es.length ≤ 300) (h2 : vs.length ≤ 100) :
 Calls Tryz.prog 47 #[.agg #[ev, vv, .int .i64 g, .int .u8 fr]] w fun e w' => e = .returned (.bool false) ∧ Below w.heap.size w w' := by
 obtain ⟨ea, ec, rfl, -⟩ := he
 obtain ⟨va, vc, rfl, -⟩ := hv
 generalize es.length = E at *
 generalize vs.length = V at *
 have h1' : ¬ (E : Int) > 300 := by omega
 have h2' : ¬ (V : Int) > 100 := by omega
 go_enter Tryz.func47, Tryz.ntmps47
 go_wp2
 go_ret
 exact ⟨rfl, (Below.refl _ _).alloc (Nat.le_refl _) _⟩
set_option maxRecDepth 100000 in
set_option maxHeartbeats 1000000 in
theorem vast_yes {w : World} {ev vv : Value} {es : List Edg} {vs : List Vrt} (g fr : Int) (he : RdE w ev es) (hv : RdV w vv vs) (h : 300 < es.length ∨ 100 < vs.length) :
 Calls Tryz.prog 47 #[.agg #[ev, vv, .int .i64 g, .int .u8 fr]] w fun e w' => e = .returned (.bool true) ∧ Below w.heap.size w w' := by
 obtain ⟨ea, ec, rfl, -⟩ := he
 obtain ⟨va, vc, rfl, -⟩ := hv
 generalize es.length = E at *
 generalize vs.length = V at *
 by_cases h1 : 300 < E
 ·have h1' : (E : Int) > 300 := by omega
  clear h
  go_enter Tryz.func47, Tryz.ntmps47
  go_wp2
  go_ret
  exact ⟨rfl, (Below.refl _ _).alloc (Nat.le_refl _) _⟩
 ·have h1' : ¬ (E : Int) > 300 := by omega
  have h2' : (V : Int) > 100 := by omega
  clear h
  go_enter Tryz.func47, Tryz.ntmps47
  go_wp2
  go_ret
  exact ⟨rfl, (Below.refl _ _).alloc (Nat.le_refl _) _⟩
def cntE (x : Edg) (es : List Edg) : Nat := (es.filter fun y => decide (y.t = x.t ∧ y.h = x.h ∧ y.x = x.x ∧ y.m = x.m)).length
theorem edg_eq {x y : Edg} : (y.t = x.t ∧ y.h = x.h ∧ y.x = x.x ∧ y.m = x.m) ↔ y = x := by
 cases x; cases y
 simp
instance edgDec : DecidableEq Edg := fun y x => decidable_of_iff (y.t = x.t ∧ y.h = x.h ∧ y.x = x.x ∧ y.m = x.m) edg_eq
theorem cntE_snoc (x y : Edg) (l : List Edg) : cntE x (l ++ [y]) = cntE x l + if y = x then 1 else 0 := by
 unfold cntE
 rw [List.filter_append, List.length_append, List.filter_cons, List.filter_nil]
 by_cases h : y = x
 ·rw [if_pos h, decide_eq_true (edg_eq.2 h)]
  rfl
 ·rw [if_neg h, decide_eq_false (fun e => h (edg_eq.1 e))]
  rfl
set_option maxRecDepth 100000 in
set_option maxHeartbeats 4000000 in
theorem count_any (v : Value) (es : List Edg) (x : Edg) (w : World) (hv : RdE w v es) (hl : es.length ≤ 100000) :
 Calls Tryz.prog 49 #[v, .agg #[.int .u32 (x.t.toNat : Int), .int .u32 (x.h.toNat : Int), .int .u64 (x.x.toNat : Int), .int .u32 (x.m.toNat : Int)]] w fun e w' => e = .returned (.int .i64 (cntE x es : Int)) ∧ Below w.heap.size w w' := by
 obtain ⟨a, n, cap, rfl⟩ : ∃ a n cap, v = .slice a n cap := by
  obtain ⟨a, cap, rfl, -⟩ := hv
  exact ⟨a, _, cap, rfl⟩
 obtain ⟨hn, hcells⟩ := rdE_cells hv
 have HC := Lib.hid hcells
 have HX : Hid (∀ i, i < n → ∃ y, es[i]? = some y) := Lib.hid (fun i hi => ⟨_, List.getElem?_eq_getElem (by omega)⟩)
 have HALL : Hid (es.take n = es) := Lib.hid (List.take_of_length_le (by omega))
 have HTK : Hid (∀ i y, es[i]? = some y → cntE x (es.take (i + 1)) = cntE x (es.take i) + if y = x then 1 else 0) := Lib.hid (fun i y hy => by rw [take_snoc hy, cntE_snoc])
 have HLE : Hid (∀ i, cntE x (es.take i) ≤ i) := Lib.hid (fun i => Nat.le_trans (List.length_filter_le _ _) (by rw [List.length_take]; omega))
 have hn1 : n ≤ 100000 := by omega
 clear hv hcells hn hl
 have HB0 : Hid (Below w.heap.size w (w.alloc (.cells #[.int .u32 (x.t.toNat : Int), .int .u32 (x.h.toNat : Int), .int .u64 (x.x.toNat : Int), .int .u32 (x.m.toNat : Int)] 47))) := Lib.hid ((Below.refl _ _).alloc (Nat.le_refl _) _)
 have HQ0 : Hid ((w.alloc (.cells #[.int .u32 (x.t.toNat : Int), .int .u32 (x.h.toNat : Int), .int .u64 (x.x.toNat : Int), .int .u32 (x.m.toNat : Int)] 47)).heap[w.heap.size]? = some (.cells #[.int .u32 (x.t.toNat : Int), .int .u32 (x.h.toNat : Int), .int .u64 (x.x.toNat : Int), .int .u32 (x.m.toNat : Int)] 47)) := Lib.hid (heap_alloc_new w _)
 go_enter Tryz.func49, Tryz.ntmps49
 go_wp2
 generalize w.alloc (.cells #[.int .u32 (x.t.toNat : Int), .int .u32 (x.h.toNat : Int), .int .u64 (x.x.toNat : Int), .int .u32 (x.m.toNat : Int)] 47) = W0 at *
 have HXC : Hid (∀ W, Below W0.heap.size W0 W → W.cell? ⟨w.heap.size, 0, none⟩ = some (.int .u32 (x.t.toNat : Int)) ∧ W.cell? ⟨w.heap.size, 1, none⟩ = some (.int .u32 (x.h.toNat : Int)) ∧ W.cell? ⟨w.heap.size, 2, none⟩ = some (.int .u64 (x.x.toNat : Int)) ∧ W.cell? ⟨w.heap.size, 3, none⟩ = some (.int .u32 (x.m.toNat : Int))) := Lib.hid (fun W hW => by
  have hx := (hW.block _ (lt_heap HQ0.out)).trans HQ0.out
  refine ⟨?_, ?_, ?_, ?_⟩ <;> rw [cells_cell hx] <;> rfl)
 go_loopw [5, 6] (fun nv iv W => ∃ i : Nat, i ≤ n ∧ iv = .int .i64 (i : Int) ∧ nv = .int .i64 ((cntE x (es.take i) : Nat) : Int) ∧ Below W0.heap.size W0 W) (fun _ iv _ => n - (intOf iv).toNat)
 case atStart => exact ⟨0, Nat.zero_le _, rfl, rfl, Below.refl _ _⟩
 case round =>
  generalize wr = W at *
  obtain ⟨i, hi, rfl, rfl, hb⟩ := hrel
  have HB := Lib.hid hb
  clear hb
  by_cases hlt : i < n
  ·obtain ⟨y, hy⟩ := HX.out i hlt
   have HTY := Lib.hid (HTK.out i y hy)
   have hle := HLE.out i
   obtain ⟨be, oe, rfl, -⟩ := HC.out W (HB0.out.trans (HB.out.mono HB0.out.size)) i y hy
   have HCE : Hid (∀ W', Below W.heap.size W W' → W'.cell? ⟨be, oe + i * 4, none⟩ = some (.int .u32 (y.t.toNat : Int)) ∧ W'.cell? ⟨be, oe + i * 4 + 1, none⟩ = some (.int .u32 (y.h.toNat : Int)) ∧ W'.cell? ⟨be, oe + i * 4 + 2, none⟩ = some (.int .u64 (y.x.toNat : Int)) ∧ W'.cell? ⟨be, oe + i * 4 + 3, none⟩ = some (.int .u32 (y.m.toNat : Int))) := Lib.hid (fun W' hW' => by
    obtain ⟨b', o', e, g⟩ := HC.out W' (HB0.out.trans ((HB.out.trans (hW'.mono HB.out.size)).mono HB0.out.size)) i y hy
    cases e
    exact g)
   clear hy
   obtain ⟨c, hc⟩ : ∃ c, c = cntE x (es.take i) := ⟨_, rfl⟩
   rw [← hc] at HTY hle ⊢
   clear hc
   by_cases hxy : y = x
   ·have HT1 : Hid (cntE x (es.take (i + 1)) = c + 1) := Lib.hid (by rw [HTY.out, if_pos hxy])
    subst hxy
    obtain ⟨e0, e1, e2, e3⟩ := HXC.out W HB.out
    obtain ⟨f0, f1, f2, f3⟩ := HCE.out W (Below.refl _ _)
    go_wp2_with fail
    go_quiet (fail)
    have HB3 := Lib.hid (HB.out.trans ((below_drewN (Below.refl _ _) nq : Below W.heap.size W (W.drewN nq)).mono HB.out.size))
    clear e0 e1 e2 e3 f0 f1 f2 f3
    generalize W.drewN nq = W3 at *
    go_wp2
    go_roundw
    case rel => exact ⟨i + 1, by omega, by go_num, by rw [HT1.out]; go_num, HB3.out⟩
    case measure => simp [intOf]; omega
   ·have HNE : Hid ((y.t.toNat : Int) = (x.t.toNat : Int) → (y.h.toNat : Int) = (x.h.toNat : Int) → (y.x.toNat : Int) = (x.x.toNat : Int) → ¬ (y.m.toNat : Int) = (x.m.toNat : Int)) := Lib.hid (fun a1 a2 a3 a4 => hxy (edg_eq.1 ⟨UInt32.toNat_inj.1 (by omega), UInt32.toNat_inj.1 (by omega), UInt64.toNat_inj.1 (by omega), UInt32.toNat_inj.1 (by omega)⟩))
    have HT1 : Hid (cntE x (es.take (i + 1)) = c) := Lib.hid (by rw [HTY.out, if_neg hxy, Nat.add_zero])
    clear hxy
    go_wp2_with fail
    refine wp_region_quiet_in (Below W.heap.size W) (by kernel_rfl) (by kernel_rfl) ((Below.refl _ _).drew) ?_
    iterate 3 (refine q_op rfl (fun w' hw' => (by go_simp <;> rfl)) (fun K hK => ?_); go_simp; refine hK _ ?_; clear hK K)
    refine q_op rfl (fun w' hw' => (by obtain ⟨f0, f1, f2, f3⟩ := HCE.out w' hw'; go_simp <;> rfl)) (fun K hK => ?_); go_simp; refine hK _ ?_; clear hK K
    refine q_op rfl (fun w' hw' => (by obtain ⟨e0, e1, e2, e3⟩ := HXC.out w' (HB.out.trans (hw'.mono HB.out.size)); go_simp <;> rfl)) (fun K hK => ?_); go_simp; refine hK _ ?_; clear hK K
    refine q_op (v := .bool false) rfl (fun w' hw' => (by go_simp <;> exact HNE.out)) (fun K hK => ?_); go_simp; refine hK _ ?_; clear hK K
    refine wpQuiet_nil ?_
    intro W3 hb3
    have HB3 := Lib.hid (HB.out.trans (hb3.mono HB.out.size))
    clear hb3
    go_wp2
    go_roundw
    case rel => exact ⟨i + 1, by omega, by go_num, by rw [HT1.out], HB3.out⟩
    case measure => simp [intOf]; omega
  ·obtain rfl : n = i := by omega
   have HE : Hid (cntE x (es.take n) = cntE x es) := Lib.hid (by rw [HALL.out])
   go_wp2
   go_ret
   exact ⟨by first | rfl | (rw [HE.out]; rfl), HB0.out.trans (HB.out.mono HB0.out.size)⟩
end Go.Proofs.YtolieljpnafbhaaGreatDoor
namespace Go.Proofs.YtolieljpnafbhaaGreatDoor
open Go.RowKit Go.Maps
theorem best_nodup (b : Bool) (l : List Edg) : (bestOf b l).Nodup :=
 (best_bestOf b l).rise.imp (fun h e => by rw [e] at h; omega)
theorem mem_best {b b' : Bool} {l : List Edg} {x : Edg} (h : x ∈ bestOf b l) : x ∈ bestOf b' l := by
 rw [← bestOf_turn b b' l] at h
 exact ((best_bestOf b (bestOf b' l)).mem x h).1
theorem nodup_le {α : Type} [DecidableEq α] {l₁ : List α} : ∀ {l₂ : List α}, l₁.Nodup → (∀ x ∈ l₁, x ∈ l₂) → l₁.length ≤ l₂.length := by
 induction l₁ with
 | nil => intro l₂ _ _; exact Nat.zero_le _
 | cons a l ih =>
   intro l₂ h hs
   obtain ⟨s, t, rfl⟩ := List.append_of_mem (hs a (by simp))
   rw [List.nodup_cons] at h
   have := ih (l₂ := s ++ t) h.2 (fun x hx => by
    have h1 := hs x (by simp [hx])
    rw [List.mem_append, List.mem_cons] at h1
    rw [List.mem_append]
    rcases h1 with h1 | rfl | h1
    ·exact .inl h1
    ·exact absurd hx h.1
    ·exact .inr h1)
   rw [List.length_append] at this
   rw [List.length_cons, List.length_append, List.length_cons]
   omega
theorem best_len (b b' : Bool) (l : List Edg) : (bestOf b l).length = (bestOf b' l).length :=
 Nat.le_antisymm (nodup_le (best_nodup b l) (fun _ h => mem_best h)) (nodup_le (best_nodup b' l) (fun _ h => mem_best h))
theorem cntE_not {x : Edg} {l : List Edg} (h : x ∉ l) : cntE x l = 0 := by
 unfold cntE
 rw [List.length_eq_zero_iff, List.filter_eq_nil_iff]
 intro y hy e
 exact h ((edg_eq.1 (of_decide_eq_true e)) ▸ hy)
theorem cntE_cons (x y : Edg) (l : List Edg) : cntE x (y :: l) = (if y = x then 1 else 0) + cntE x l := by
 unfold cntE
 rw [List.filter_cons]
 by_cases h : y = x
 ·rw [if_pos h, decide_eq_true (edg_eq.2 h), if_pos rfl, List.length_cons, Nat.add_comm]
 ·rw [if_neg h, decide_eq_false (fun e => h (edg_eq.1 e))]
  simp
theorem cntE_one {x : Edg} {l : List Edg} (hn : l.Nodup) (hx : x ∈ l) : cntE x l = 1 := by
 induction l with
 | nil => cases hx
 | cons y l ih =>
   rw [List.nodup_cons] at hn
   rw [cntE_cons]
   by_cases h : y = x
   ·subst h
    rw [if_pos rfl, cntE_not hn.1]
   ·rw [if_neg h, ih hn.2 (by
     rcases List.mem_cons.1 hx with e | e
     ·exact absurd e.symm h
     ·exact e)]
theorem ofL_mem {b : Bool} {v : Nat} {l : List Edg} {x : Edg} (h : x ∈ ofL b v l) : x ∈ l ∧ end1 b x = v := by
 unfold ofL at h
 rw [List.mem_filter] at h
 exact ⟨h.1, of_decide_eq_true h.2⟩
theorem ofL_rise {b : Bool} {v : Nat} {l : List Edg} {i j : Nat} {x y : Edg} (hij : i < j) (hx : (ofL b v (bestOf b l))[i]? = some x) (hy : (ofL b v (bestOf b l))[j]? = some y) : end2 b x < end2 b y := by
 have hp : (ofL b v (bestOf b l)).Pairwise (fun x y => pk b x < pk b y) := (best_bestOf b l).rise.filter _
 have h1 := pairwise_get hp hij hx hy
 have h2 := (ofL_mem (List.mem_of_getElem? hx)).2
 have h3 := (ofL_mem (List.mem_of_getElem? hy)).2
 obtain ⟨p1, p2, p3⟩ := pk_ends b x
 obtain ⟨q1, q2, q3⟩ := pk_ends b y
 omega
def upTo (b : Bool) (v : Nat) (l : List Edg) : Nat := (l.filter fun x => decide (end1 b x < v)).length
theorem upTo_zero (b : Bool) (l : List Edg) : upTo b 0 l = 0 := by
 unfold upTo
 simp
theorem upTo_succ (b : Bool) (v : Nat) (l : List Edg) : upTo b (v + 1) l = upTo b v l + (ofL b v l).length := by
 unfold upTo ofL
 induction l with
 | nil => rfl
 | cons x l ih =>
   simp only [List.filter_cons]
   rcases Nat.lt_trichotomy (end1 b x) v with h | h | h
   ·rw [if_pos (decide_eq_true (by omega)), if_pos (decide_eq_true h), if_neg (by simp; omega)]
    simp only [List.length_cons, ih]
    omega
   ·rw [if_pos (decide_eq_true (by omega)), if_neg (by simp; omega), if_pos (decide_eq_true h)]
    simp only [List.length_cons, ih]
    omega
   ·rw [if_neg (by simp; omega), if_neg (by simp; omega), if_neg (by simp; omega)]
    exact ih
theorem upTo_all {b : Bool} {v : Nat} {l : List Edg} (h : ∀ x ∈ l, end1 b x < v) : upTo b v l = l.length := by
 unfold upTo
 rw [List.filter_eq_self.2 (fun x hx => decide_eq_true (h x hx))]
theorem upTo_le (b : Bool) (v : Nat) (l : List Edg) : upTo b v l ≤ l.length := List.length_filter_le _ _
theorem best_ends {b b' : Bool} {N : Nat} {l : List Edg} (h : ∀ x ∈ l, end1 b' x < N) : ∀ x ∈ bestOf b l, end1 b' x < N := fun x hx => h x ((best_bestOf b l).mem x hx).1
section
variable {w0 w w' : World} {pb db n : Nat} {o o' : Owner} {d d' : Dsk} {L L' : Logic}
theorem Held.kept (h : Held w0 w pb db n o d L) : Kept 131072 w0 w pb db n o d L := ⟨h.pool, h.new, h.below, h.armed, h.dead, h.quota⟩
theorem Held.gen (h : Held w0 w pb db n o d L) {gen : Nat} (hg : gen ≤ 1048576) (hp : PowAt w0) : GenAt w o gen :=
 .inr ⟨hg, hp.kept (h.below.block _ hp.lt), by
  cases e : o 0 with
  | none => rfl
  | some t =>
    have h1 := h.new _ _ e
    have h2 := hp.lt
    omega⟩
theorem Held.rebase {w1 : World} (h : Held w1 w pb db n o d L) (hb : Below w0.heap.size w0 w1) : Held w0 w pb db n o d L :=
 ⟨h.pool, fun x t hx => Nat.le_trans hb.size (h.new x t hx), hb.trans (h.below.mono hb.size), h.armed, h.dead, h.quota⟩
end
end Go.Proofs.YtolieljpnafbhaaGreatDoor
namespace Go.Proofs.YtolieljpnafbhaaGreatDoor
open Go Go.RowKit
section
variable {P : Program} {C : World → Prop} {Pd : Nat → Value → World → Prop} {l h : List Oper} {a0 : Act}
structure RelInvT (C : World → Prop) (Pd : Nat → Value → World → Prop) (h : List Oper) (a0 : Act) (listed : Array Bool) (a : Act) (w : World) : Prop where
 cls : C w
 tsz : a.tmps.size = a0.tmps.size
 dfr : a.defers = a0.defers
 out : ∀ k, (∀ o ∈ h, o.dst ≠ some k) → a.tmps[k]? = a0.tmps[k]?
 slot : ∀ (i : Nat) (o : Oper) (k : Nat), h[i]? = some o → o.dst = some k → listed.getD i true = true → ∃ v, a.tmps[k]? = some v ∧ Pd i v w
def RelStepW (P : Program) (Pd : Nat → Value → World → Prop) (l : List Oper) (i : Nat) (o : Oper) (a : Act) (w : World) : Prop := Region.wanted o (yielded l.toArray a.tmps) = true ∧ RelStep P Pd i o a w
theorem wpAny_relT {n g : Nat} {Q : Exit → Act → World → Prop} (hh : h = l.take n) (hn : n < l.length) (hs : Region.sinkB .any l.toArray n = true) (hc : Region.chainB .any l.toArray n = true) (hord : ∀ (i : Nat) (o : Oper), h[i]? = some o → ∀ e ∈ o.after, e.on < i)
 (hd : ∀ (i j : Nat) (oi oj : Oper) (k : Nat), h[i]? = some oi → h[j]? = some oj → oi.dst = some k → oj.dst = some k → i = j) (hb : ∀ o ∈ h, ∀ k, o.dst = some k → k < a0.tmps.size)
 (hmono : ∀ w w', C w → Below w.heap.size w w' → C w') (hP : ∀ i v w w', Below w.heap.size w w' → Pd i v w → Pd i v w')
 (hstep : ∀ (i : Nat) (o : Oper), h[i]? = some o → ∀ a w, C w → RelDeps Pd h a0 o a w → RelStepW P Pd l i o a w)
 (hL : ∀ listed a w, HeadInv .any l.toArray n listed → RelInvT C Pd h a0 listed a w → (∀ i, i < n → listed.getD i true = true) → wpAny P .any l.toArray Q g listed a w) (f : Nat) :
 ∀ (listed : Array Bool) (a : Act) (w : World), HeadInv .any l.toArray n listed → RelInvT C Pd h a0 listed a w → (listed.toList.take n).count false = f → wpAny P .any l.toArray Q (f + g) listed a w := by
 have hget : ∀ i, i < n → h[i]? = l[i]? := fun i hi => by rw [hh, List.getElem?_take_of_lt hi]
 induction f with
 | zero =>
   intro listed a w hv inv hf
   rw [Nat.zero_add]
   refine hL _ _ _ hv inv (fun i hi => ?_)
   rw [Array.getD_eq_getD_getElem?]
   cases e : listed[i]? with
   | none => rfl
   | some b =>
     cases b with
     | true => rfl
     | false =>
       exfalso
       have h1 : false ∈ listed.toList.take n := List.mem_of_getElem? (i := i) (by rw [List.getElem?_take_of_lt hi, Array.getElem?_toList]; exact e)
       have := List.count_pos_iff.2 h1
       omega
 | succ f ih =>
   intro listed a w hv inv hf
   have hsz : listed.size = l.length := by simpa using hv.size
   obtain ⟨u, hu, hun⟩ : ∃ u, u < n ∧ listed.getD u true = false := by
    have h1 : 0 < (listed.toList.take n).count false := by omega
    obtain ⟨u, hu⟩ := List.mem_iff_getElem?.1 (List.count_pos_iff.1 h1)
    have hul : u < n := by
     have := (List.getElem?_eq_some_iff.1 hu).1
     rw [List.length_take] at this
     omega
    rw [List.getElem?_take_of_lt hul, Array.getElem?_toList] at hu
    exact ⟨u, hul, by rw [Array.getD_eq_getD_getElem?, hu]; rfl⟩
   have hne : Region.ready .any l.toArray listed ≠ [] := by
    have key : ∀ u, u < n → listed.getD u true = false → Region.ready .any l.toArray listed ≠ [] := by
     intro u
     induction u using Nat.strongRecOn with
     | _ u ihu =>
       intro hu hun
       by_cases hall : ∀ e ∈ (l[u]'(by omega)).after, Region.binds .any e = true → listed.getD e.on false = true
       ·intro e0
        have : u ∈ Region.ready .any l.toArray listed := mem_ready.2 ⟨hun, l[u]'(by omega), by simp [show u < l.length by omega], hall⟩
        rw [e0] at this
        cases this
       ·have : ∃ e ∈ (l[u]'(by omega)).after, listed.getD e.on false = false := by
         apply Classical.byContradiction
         intro hno
         refine hall (fun e he _ => ?_)
         cases hx : listed.getD e.on false with
         | true => rfl
         | false => exact absurd ⟨e, he, hx⟩ hno
        obtain ⟨e, he, hx⟩ := this
        have hlt := hord u (l[u]'(by omega)) (by rw [hget u hu]; exact List.getElem?_eq_getElem (by omega)) e he
        refine ihu e.on hlt (by omega) ?_
        rw [Array.getD_eq_getD_getElem?] at hx ⊢
        have hin : e.on < listed.size := by omega
        rw [Array.getElem?_eq_getElem hin] at hx ⊢
        exact hx
    exact key u hu hun
   rw [show f + 1 + g = (f + g) + 1 by omega]
   refine ⟨fun e0 => absurd e0 hne, fun i hi => ?_⟩
   have hin : i < n := by
    rcases Nat.lt_or_ge i n with h1 | h1
    ·exact h1
    ·exact absurd hi (tail_waits hs hc (by simpa using hn) hv _ u rfl hu hun i h1)
   obtain ⟨hiun, o, ho, hall⟩ := mem_ready.1 hi
   have ho' : h[i]? = some o := by rw [hget i hin]; simpa using ho
   have hol : o ∈ h := List.mem_of_getElem? ho'
   have hdeps : RelDeps Pd h a0 o a w := ⟨inv.out, inv.tsz, fun e he hbn oj k hoj hk => inv.slot _ oj k hoj hk (by
    have h1 := hall e he hbn
    rw [Array.getD_eq_getD_getElem?] at h1 ⊢
    cases h2 : listed[e.on]? with
    | none => rw [h2] at h1; cases h1
    | some b => rw [h2] at h1; exact h1)⟩
   obtain ⟨hw, hst⟩ := hstep i o ho' a w inv.cls hdeps
   unfold wpOp
   rw [ho]
   simp only [hw, if_true]
   refine .inl (hst _ _ (fun v w' hbw hv' => ih _ _ _ (hv.set hi hin) ⟨hmono _ _ inv.cls hbw, ?_, ?_, fun k hk => ?_, fun j oj k hoj hk hlj => ?_⟩ ?_))
   ·unfold Act.put
    cases o.dst with
    | none => exact inv.tsz
    | some d => simp [inv.tsz]
   ·unfold Act.put
    cases o.dst with
    | none => exact inv.dfr
    | some d => exact inv.dfr
   ·unfold Act.put
    cases hdst : o.dst with
    | none => exact inv.out k hk
    | some d =>
      have hne : d ≠ k := fun e => hk o hol (by rw [hdst, e])
      simp only [Array.getElem?_setIfInBounds_ne hne]
      exact inv.out k hk
   ·by_cases hij : i = j
    ·subst hij
     rw [ho'] at hoj
     obtain rfl := Option.some.inj hoj
     refine ⟨v, ?_, hv'⟩
     unfold Act.put
     rw [hk]
     have hkb := hb o hol k hk
     rw [← inv.tsz] at hkb
     simp [hkb]
    ·have hlj' : listed.getD j true = true := by
      rw [Array.getD_eq_getD_getElem?, Array.getElem?_setIfInBounds_ne hij] at hlj
      rw [Array.getD_eq_getD_getElem?]
      exact hlj
     obtain ⟨u, hu1, hu2⟩ := inv.slot j oj k hoj hk hlj'
     refine ⟨u, ?_, hP _ _ _ _ hbw hu2⟩
     unfold Act.put
     cases hdst : o.dst with
     | none => exact hu1
     | some d =>
       have hne : d ≠ k := fun e => hij (hd i j o oj k ho' hoj (by rw [hdst, e]) hk)
       simp only [Array.getElem?_setIfInBounds_ne hne]
       exact hu1
   ·have hf1 : listed[i]? = some false := by
     rw [Array.getD_eq_getD_getElem?] at hiun
     cases h : listed[i]? with
     | none => rw [h] at hiun; cases hiun
     | some b => rw [h] at hiun; simp at hiun; rw [hiun]
    have hlt : i < (listed.toList.take n).length := by rw [List.length_take, Array.length_toList, hsz]; omega
    rw [Array.toList_setIfInBounds, List.take_set]
    have h1 : (listed.toList.take n)[i]? = some false := by rw [List.getElem?_take_of_lt hin, Array.getElem?_toList]; exact hf1
    have h2 : (listed.toList.take n).count false = ((listed.toList.take n).set i true).count false + 1 := by
     rw [List.count_set hlt]
     rw [List.getElem?_eq_getElem hlt] at h1
     have h3 := Option.some.inj h1
     rw [h3]
     have h4 : 0 < (listed.toList.take n).count false := List.count_pos_iff.2 (List.mem_of_getElem? (by rw [List.getElem?_eq_getElem hlt, h3]))
     rw [if_pos (by decide), if_neg (by decide)]
     omega
    omega
def relGB (l : List Oper) (n : Nat) : Bool :=
 l.all (fun o => match o.dst with | some k => decide (k < n) | none => true) &&
  (List.range l.length).all fun i => (List.range l.length).all fun j => decide (i = j) || (match (l[i]?).bind (·.dst), (l[j]?).bind (·.dst) with | some a, some b => decide (a ≠ b) | _, _ => true)
theorem relT_end {listed : Array Bool} {a : Act} {w : World} (inv : RelInvT C Pd h a0 listed a w) (hall : ∀ i, i < h.length → listed.getD i true = true) (hB : relGB h a0.tmps.size = true) (hA : (h.all fun o => o.dst.isSome) = true) :
 ∃ vs : List Value, vs.length = h.length ∧ (∀ i v, vs[i]? = some v → Pd i v w) ∧ a = relPut a0 h vs := by
 rw [List.all_eq_true] at hA
 have hdst : ∀ (i : Nat) (o : Oper), h[i]? = some o → ∃ k, o.dst = some k := fun i o ho => Option.isSome_iff_exists.1 (hA o (List.mem_of_getElem? ho))
 have hal : ∀ (i : Nat) (o : Oper) (k : Nat), h[i]? = some o → o.dst = some k → ∃ v, a.tmps[k]? = some v ∧ Pd i v w := fun i o k ho hk => inv.slot i o k ho hk (hall i (List.getElem?_eq_some_iff.1 ho).1)
 simp only [relGB, Bool.and_eq_true, List.all_eq_true] at hB
 obtain ⟨h2, h3⟩ := hB
 have huniq : ∀ (i j : Nat) (oi oj : Oper) (k : Nat), h[i]? = some oi → h[j]? = some oj → oi.dst = some k → oj.dst = some k → i = j := fun i j oi oj k hi hj hki hkj => by
  have h4 := h3 i (List.mem_range.2 (List.getElem?_eq_some_iff.1 hi).1) j (List.mem_range.2 (List.getElem?_eq_some_iff.1 hj).1)
  rw [hi, hj] at h4
  simp only [Option.bind_some, hki, hkj, Bool.or_eq_true, decide_eq_true_eq] at h4
  rcases h4 with h4 | h4
  ·exact h4
  ·exact absurd rfl h4
 refine ⟨h.map fun o => (o.dst.bind (a.tmps[·]?)).getD undef, List.length_map _, fun i v hv => ?_, ?_⟩
 ·rw [List.getElem?_map] at hv
  obtain ⟨o, ho, rfl⟩ := Option.map_eq_some_iff.1 hv
  obtain ⟨k, hk⟩ := hdst i o ho
  obtain ⟨v, e1, e2⟩ := hal i o k ho hk
  rw [hk]
  simp only [Option.bind_some, e1, Option.getD_some]
  exact e2
 ·obtain ⟨k1, k2, k3⟩ := relPut_keep h a0 (h.map fun o => (o.dst.bind (a.tmps[·]?)).getD undef)
  refine rel_act_ext (by rw [k1, inv.tsz]) (by rw [k2, inv.dfr]) (fun k hk => ?_)
  rw [k1] at hk
  by_cases he : ∃ o ∈ h, o.dst = some k
  ·obtain ⟨o, ho, hok⟩ := he
   obtain ⟨i, hi⟩ := List.mem_iff_getElem?.1 ho
   obtain ⟨v, e1, _⟩ := hal i o k hi hok
   rw [e1]
   refine (relPut_at h a0 _ i o k v hi hok ?_ hk (fun j oj hj hjk => huniq j i oj o k hj hi hjk hok)).symm
   rw [List.getElem?_map, hi]
   simp [hok, e1]
  ·have hno : ∀ o ∈ h, o.dst ≠ some k := fun o ho e => he ⟨o, ho, e⟩
   rw [k3 k hno, inv.out k hno]
def relTailB (l : List Oper) (n m : Nat) : Bool :=
 decide (n < l.length) && Region.sinkB .any l.toArray n && Region.chainB .any l.toArray n && relGB (l.take n) m && (l.take n).all (fun o => o.dst.isSome) &&
  ((List.range n).all fun i => match l[i]? with | some o => o.after.toList.all (fun e => decide (e.on < i)) | none => true) &&
  Region.seqB .any l.toArray (l.length - n) n ((Array.range l.length).map fun i => decide (i < n))
theorem wp_region_relTail {id : Nat} {Q : Exit → Act → World → Prop} {w : World} (C : World → Prop) (Pd : Nat → Value → World → Prop) (n : Nat) (hm : P.follows .mixedOrders = true) (hB : relTailB l n a0.tmps.size = true)
 (hC : C w.drew) (hmono : ∀ w w', C w → Below w.heap.size w w' → C w') (hP : ∀ i v w w', Below w.heap.size w w' → Pd i v w → Pd i v w')
 (hstep : ∀ (i : Nat) (o : Oper), (l.take n)[i]? = some o → ∀ a w, C w → RelDeps Pd (l.take n) a0 o a w → RelStepW P Pd l i o a w)
 (hend : ∀ (vs : List Value) w', C w' → vs.length = n → (∀ i v, vs[i]? = some v → Pd i v w') → wpList P l.toArray Q (l.drop n) (relPut a0 (l.take n) vs) w') : (Code.region id l.toArray true).wp P Q a0 w := by
 simp only [relTailB, Bool.and_eq_true, decide_eq_true_eq] at hB
 obtain ⟨⟨⟨⟨⟨⟨hn, hs⟩, hc⟩, hrel⟩, hdst⟩, hord⟩, hseq⟩ := hB
 have htl : (l.take n).length = n := by simp; omega
 have hR := hrel
 simp only [relGB, Bool.and_eq_true, List.all_eq_true] at hrel
 obtain ⟨h2, h3⟩ := hrel
 rw [List.all_eq_true] at hord
 refine wp_region_any hm ?_
 have inv0 : HeadInv .any l.toArray n (Array.replicate l.toArray.size false) :=
  ⟨by simp, fun j oj _ hl => (by rw [getD_replicate_false] at hl; cases hl), fun t _ ht => getD_in (by simpa using ht) (getD_replicate_false _ _)⟩
 have key := wpAny_relT (P := P) (C := C) (Pd := Pd) (l := l) (h := l.take n) (a0 := a0) (n := n) (g := l.length - n) (Q := Q) rfl hn hs hc (fun i o ho e he => ?_) (fun i j oi oj k hi hj hki hkj => ?_) (fun o ho k hk => ?_) hmono hP hstep
  (fun listed a w' hv inv hall => ?_) n (Array.replicate l.toArray.size false) a0 w.drew inv0 ⟨hC, rfl, rfl, fun _ _ => rfl, fun i o k ho _ hl => ?_⟩ ?_
 ·rw [show n + (l.length - n) = l.toArray.size by simp; omega] at key
  exact key
 ·have hi : i < n := by have := (List.getElem?_eq_some_iff.1 ho).1; rw [htl] at this; exact this
  have h4 := hord i (List.mem_range.2 hi)
  rw [List.getElem?_take_of_lt hi] at ho
  rw [ho] at h4
  simp only [List.all_eq_true, decide_eq_true_eq] at h4
  exact h4 e (by simpa using he)
 ·have h4 := h3 i (List.mem_range.2 (List.getElem?_eq_some_iff.1 hi).1) j (List.mem_range.2 (List.getElem?_eq_some_iff.1 hj).1)
  rw [hi, hj] at h4
  simp only [Option.bind_some, hki, hkj, Bool.or_eq_true, decide_eq_true_eq] at h4
  rcases h4 with h4 | h4
  ·exact h4
  ·exact absurd rfl h4
 ·have h4 := h2 o ho
  rw [hk] at h4
  simpa using h4
 ·have hsz : listed.size = l.length := by simpa using hv.size
  have hlisted : listed = (Array.range l.length).map fun i => decide (i < n) := by
   apply Array.ext
   ·simp [hsz]
   ·intro i g1 g2
    simp only [Array.getElem_map, Array.getElem_range]
    by_cases hi : i < n
    ·have h4 := hall i hi
     rw [Array.getD_eq_getD_getElem?, Array.getElem?_eq_getElem g1] at h4
     rw [decide_eq_true hi]
     exact h4
    ·have h4 := hv.tail i (by omega) (by simp; omega)
     rw [Array.getD_eq_getD_getElem?, Array.getElem?_eq_getElem g1] at h4
     rw [decide_eq_false hi]
     exact h4
  obtain ⟨vs, e1, e2, rfl⟩ := relT_end inv (fun i hi => hall i (by rw [htl] at hi; exact hi)) hR hdst
  have := wpAny_of_seq (P := P) (md := .any) (ops := l.toArray) (Q' := Q) (l.drop n) n listed (relPut a0 (l.take n) vs) w' (fun j => by simp [List.getElem?_drop]) (by rw [hlisted, List.length_drop]; exact hseq) (hend vs w' inv.cls (by rw [e1, htl]) e2)
  rwa [List.length_drop] at this
 ·exfalso
  have hi : i < l.length := by
   have := (List.getElem?_eq_some_iff.1 ho).1
   rw [htl] at this
   omega
  rw [Array.getD_eq_getD_getElem?] at hl
  simp [hi] at hl
 ·rw [Array.toList_replicate, List.take_replicate]
  simp
  omega
end
end Go.Proofs.YtolieljpnafbhaaGreatDoor
namespace Go.Proofs.YtolieljpnafbhaaGreatDoor
open Go.RowKit Go.Maps
theorem run_append_verts {W : World} (g ty : Nat) (v : Value) (vs : List Vrt) (hr : RdV W v vs) (hl : vs.length ≤ 100000) :
 ∃ v' W', (Builtin.append_ #[22, 22] ty #[.slice (some ⟨g, 0, none⟩) 0 0, v]).run Tryz.prog W = .ok v' W' ∧ Below W.heap.size W W' ∧ VertsAt W' v' vs ∧ ∀ x, v'.ownBlock = some x → x = g ∨ (W.heap.size ≤ x ∧ x < W'.heap.size) := by
 obtain ⟨i0, hi0, hz0, hz1, hz2⟩ := info_parts info_vert
 have hrw := hr
 obtain ⟨ad, cap, rfl, hc⟩ := hrw
 have hsrc : Go.Src Tryz.prog i0.size 22 (.slice ad vs.length cap) vs.length (vrtRow vs) W := by
  cases ad with
  | none =>
    have h0 : vs = [] := by
     rcases hc with hc | ⟨b, off, ha, _⟩
     ·exact List.length_eq_zero_iff.1 hc
     ·cases ha
    subst h0
    exact Go.Src.ofNil W Tryz.underlying22 cap
  | some ad =>
    refine Go.Src.ofSlice W Tryz.underlying22 ad vs.length cap (vrtRow vs) (by rw [vrtRow_length, hz1]) (fun j u hj => ?_) (vrtRow_one vs)
    have hjl := lt_of_get hj
    rw [vrtRow_length] at hjl
    rcases hc with h0 | ⟨b, off, ha, _⟩
    ·omega
    ·cases ha
     exact hr.cells rfl j u hj
 by_cases h0 : vs.length = 0
 ·obtain rfl := List.length_eq_zero_iff.1 h0
  refine ⟨_, _, run_append_room_src W 22 22 ty 36 i0 Tryz.underlying22 hi0 g 0 0 0 _ 0 [] hsrc (Nat.le_refl _) (fun j hj => absurd hj (Nat.not_lt_zero _)) (fun j hj => absurd hj (Nat.not_lt_zero _)), Below.refl _ _, ⟨_, 0, rfl, Nat.le_refl _, Nat.zero_le _, .inl rfl⟩, fun x hx => ?_⟩
  cases hx
  exact .inl rfl
 ·have hcap1 := grownCap_ge W (0 + vs.length) 0 36
  have hcap2 := grownCap_le_maxLen W (0 + vs.length) 0 36 (by unfold maxLen; omega)
  refine ⟨_, _, run_append_grow_src W 22 22 ty 36 i0 _ Tryz.underlying22 hi0 hz0 (some ⟨g, 0, none⟩) 0 0 [] (run_firstCells_some _ i0.size 0 ⟨g, 0, none⟩ 0 0 [] (by simp) (fun j u hj => by cases hj)) _ vs.length (vrtRow vs) hsrc (by omega) (by omega) (by
   rw [hz2]
   have : Builtin.nextslicecap (0 + vs.length) 0 = 0 + vs.length := by
    unfold Builtin.nextslicecap
    rw [if_pos (by omega)]
   rw [this]
   omega), ((Below.refl _ _).drew).alloc (Nat.le_refl _) _, ?_, fun x hx => ?_⟩
  ·rw [Nat.zero_add] at *
   refine ⟨_, _, rfl, hcap1, hcap2, .inr ⟨W.heap.size, 0, rfl, fun i hi => ?_⟩⟩
   have hget := List.getElem?_eq_getElem hi
   have hcell : ∀ (j : Nat) (u : Value), (vrtRow vs)[j]? = some u → (W.drew.alloc (.cells (([] ++ vrtRow vs).toArray ++ Builtin.zeroCells (Value.agg #[Value.int .u32 0, Value.int .u32 0, Value.int .u32 0]).cells (grownCap W vs.length 0 36 - vs.length)) 36)).cell? ⟨W.heap.size, 0 + j, none⟩ = some u := fun j u hj => by
    have hjl := lt_of_get hj
    have hx := heap_alloc_new W.drew (.cells (([] ++ vrtRow vs).toArray ++ Builtin.zeroCells (Value.agg #[Value.int .u32 0, Value.int .u32 0, Value.int .u32 0]).cells (grownCap W vs.length 0 36 - vs.length)) 36)
    change _[W.heap.size]? = _ at hx
    rw [cells_cell hx, Nat.zero_add]
    rw [Array.getElem?_append_left (by simpa using hjl)]
    simpa using hj
   refine ⟨?_, ?_, ?_⟩
   ·have := hcell (i * 3) _ (by have := vrtRow_get hget (j := 0) (by decide); rw [Nat.add_zero] at this; rw [this]; rfl)
    exact this
   ·have := hcell (i * 3 + 1) _ (by rw [vrtRow_get hget (by decide)]; rfl)
    rw [← Nat.add_assoc] at this
    exact this
   ·have := hcell (i * 3 + 2) _ (by rw [vrtRow_get hget (by decide)]; rfl)
    rw [← Nat.add_assoc] at this
    exact this
  ·cases hx
   exact .inr ⟨Nat.le_refl _, by simp⟩
theorem step_append_verts {o : Oper} {a : Act} {W W' : World} {s x : Operand} {v0 v1 v' : Value} (ho : o.op = .call { callee := .builtin .append, args := #[s, x], argTypes := #[22, 22] }) (hs : a.eval s = v0) (hx : a.eval x = v1)
 (hr : (Builtin.append_ #[22, 22] o.type #[v0, v1]).run Tryz.prog W = .ok v' W') : (execOp a.eval o).run Tryz.prog W = .ok (.value v') W' := by
 unfold execOp
 simp only [ho, resolve, invoke, builtin, Sem.run_bind, Sem.run_pure, Result.andThen_ok, List.map_toArray, List.map_cons, List.map_nil, hs, hx, hr]
def madeRel (bb base : Nat) (gen : Int) (pv vv : Value) (vs : List Vrt) : Nat → Value → World → Prop
 | 0, v, _ => v = pv
 | 1, v, _ => v = .pointer (some ⟨bb, 2, none⟩)
 | 2, v, _ => v = .int .i64 gen
 | 3, v, W => ∃ g, v = .slice (some ⟨g, 0, none⟩) 0 0 ∧ base ≤ g ∧ g < W.heap.size
 | 4, v, _ => v = .pointer (some ⟨bb, 1, none⟩)
 | 5, v, _ => v = vv
 | _, v, W => VertsAt W v vs ∧ ∀ x, v.ownBlock = some x → base ≤ x ∧ x < W.heap.size
theorem VertsAt.below {w w' : World} {v : Value} {vs : List Vrt} (h : VertsAt w v vs) (hb : Below w.heap.size w w') : VertsAt w' v vs := by
 obtain ⟨a, cap, rfl, h1, h2, h⟩ := h
 refine ⟨a, cap, rfl, h1, h2, ?_⟩
 rcases h with h | ⟨b, off, rfl, hc⟩
 ·exact .inl h
 ·refine .inr ⟨b, off, rfl, fun i hi => ?_⟩
  obtain ⟨q1, q2, q3⟩ := hc i hi
  exact ⟨cellBelow hb q1, cellBelow hb q2, cellBelow hb q3⟩
theorem madeRel_on {bb base : Nat} {gen : Int} {pv vv : Value} {vs : List Vrt} (i : Nat) (v : Value) (w w' : World) (hb : Below w.heap.size w w') (h : madeRel bb base gen pv vv vs i v w) : madeRel bb base gen pv vv vs i v w' := by
 match i, h with
 | 0, h => exact h
 | 1, h => exact h
 | 2, h => exact h
 | 3, ⟨g, h1, h2, h3⟩ => exact ⟨g, h1, h2, Nat.lt_of_lt_of_le h3 hb.size⟩
 | 4, h => exact h
 | 5, h => exact h
 | _ + 6, ⟨h1, h2⟩ => exact ⟨h1.below hb, fun x hx => ⟨(h2 x hx).1, Nat.lt_of_lt_of_le (h2 x hx).2 hb.size⟩⟩
def NetMade (w0 : World) (n gen : Nat) (es : List Edg) (vs : List Vrt) (e : Ending) (w' : World) : Prop :=
 ∃ db pb gb ob ib vb d o L, e = .returned (.tuple #[ptrTo db, ptrTo gb, .bool false]) ∧ Held w0 w' pb db n o d (makeL L gen es vs) ∧ RawL es L ∧ GraphAt w' o gb pb gen vs.length ob ib vb
set_option maxRecDepth 100000 in
set_option maxHeartbeats 8000000 in
theorem madeNet_any (HW : WriteSaid) {m : Nat} (HJS : JobSortSaid m) (hm : 300 ≤ m) {w : World} {ev vv : Value} {es : List Edg} {vs : List Vrt} (gen fr : Nat) (he : RdE w ev es) (hv : RdV w vv vs) (h1 : es.length ≤ 300) (h2 : vs.length ≤ 100) (hg : gen ≤ 1048576) (hf : fr < 256) (hp : PowAt w) :
 Calls Tryz.prog 48 #[.agg #[ev, vv, .int .i64 (gen : Int), .int .u8 (fr : Int)]] w (NetMade w (8 + fr % 40) gen es vs) := by
 obtain ⟨z, hz⟩ : ∃ z : Nat, z = fr % 40 := ⟨_, rfl⟩
 obtain ⟨n, hn⟩ : ∃ n : Nat, n = 8 + z := ⟨_, rfl⟩
 have hz4 : z < 40 := by omega
 have hzz : (fr : Int) % 40 = (z : Int) := by omega
 have hzt : (fr : Int).tmod 40 = (z : Int) := by rw [Int.tmod_eq_emod_of_nonneg (by omega)]; exact hzz
 have hwf : IntKind.i64.wrap (fr : Int) = (fr : Int) := wrap_in (by omega) (by omega)
 have hwz : IntKind.i64.wrap (z : Int) = (z : Int) := wrap_in (by omega) (by omega)
 have hsum : (8 : Int) + (z : Int) = (n : Int) := by omega
 have hwn : IntKind.i64.wrap (n : Int) = (n : Int) := wrap_in (by omega) (by omega)
 have hn8 : 8 ≤ n := by omega
 have hn4 : n ≤ 4096 := by omega
 rw [← hz, ← hn]
 have HE := Lib.hid he
 have HV := Lib.hid hv
 have HP := Lib.hid hp
 obtain ⟨ea, ec, rfl, -⟩ := he
 obtain ⟨va, vc, rfl, -⟩ := hv
 generalize hel : es.length = el at *
 generalize hvl : vs.length = vl at *
 have HEL := Lib.hid hel
 have HVL := Lib.hid hvl
 clear hn hz hp hel hvl
 have HB0 : Hid (Below w.heap.size w (w.alloc (.cells #[.slice ea el ec, .slice va vl vc, .int .i64 (gen : Int), .int .u8 (fr : Int)] 87))) := Lib.hid ((Below.refl _ _).alloc (Nat.le_refl _) _)
 have HQ0 : Hid ((w.alloc (.cells #[.slice ea el ec, .slice va vl vc, .int .i64 (gen : Int), .int .u8 (fr : Int)] 87)).heap[w.heap.size]? = some (.cells #[.slice ea el ec, .slice va vl vc, .int .i64 (gen : Int), .int .u8 (fr : Int)] 87)) := Lib.hid (heap_alloc_new w _)
 go_enter Tryz.func48, Tryz.ntmps48
 go_wp2_with fail
 generalize w.alloc (.cells #[.slice ea el ec, .slice va vl vc, .int .i64 (gen : Int), .int .u8 (fr : Int)] 87) = W0 at *
 have HK : Hid (∀ W, Below W0.heap.size W0 W → W.cell? ⟨w.heap.size, 1, none⟩ = some (.slice va vl vc) ∧ W.cell? ⟨w.heap.size, 2, none⟩ = some (.int .i64 (gen : Int))) := Lib.hid (fun W hW => by
  have hx := (hW.block _ (lt_heap HQ0.out)).trans HQ0.out
  refine ⟨?_, ?_⟩ <;> rw [cells_cell hx] <;> rfl)
 obtain ⟨bb, hbb⟩ : ∃ bb, bb = w.heap.size := ⟨_, rfl⟩
 rw [← hbb] at HK ⊢
 clear hbb
 refine (raw_any HW n (by omega) hn4 _ es W0 (HE.out.below HB0.out) (by have := HEL.out; omega)).mono ?_
 rintro e w1 ⟨db, pb, o1, d1, L1, rfl, hh1, hr1⟩
 have HH1 := Lib.hid hh1
 have HR1 := Lib.hid hr1
 have HV1 := Lib.hid ((HV.out.below HB0.out).below hh1.below)
 clear hh1 hr1
 unfold ptrTo at *
 go_wp2
 refine wp_region_relTail (Below w1.heap.size w1) (madeRel bb w1.heap.size (gen : Int) (.pointer (some ⟨pb, 0, none⟩)) (.slice va vl vc) vs) 7 (by kernel_rfl) (by kernel_rfl) (Below.refl _ _).drew (fun w1 w2 h1 h2 => h1.trans (h2.mono h1.size)) madeRel_on ?_ ?_
 ·intro i o ho a W hC hdep
  obtain ⟨c1, c2⟩ := HK.out W (HH1.out.below.trans (hC.mono HH1.out.below.size))
  match i, ho with
  | 0, ho =>
    cases ho
    have h0 := hdep.old 6 rfl rfl
    refine ⟨rfl, step_val (v := .pointer (some ⟨pb, 0, none⟩)) (w' := W) ?_ (Below.refl _ _) rfl⟩
    go_simp
  | 1, ho =>
    cases ho
    have h0 := hdep.old 1 rfl rfl
    refine ⟨rfl, step_val (v := .pointer (some ⟨bb, 2, none⟩)) (w' := W) ?_ (Below.refl _ _) rfl⟩
    go_simp
  | 2, ho =>
    cases ho
    obtain ⟨u, hu, rfl⟩ := hdep.get 1 rfl rfl rfl
    refine ⟨rfl, step_val (v := .int .i64 (gen : Int)) (w' := W) ?_ (Below.refl _ _) rfl⟩
    go_simp
  | 3, ho =>
    cases ho
    refine ⟨rfl, step_val (v := .slice (some ⟨W.heap.size, 0, none⟩) 0 0) (w' := W.alloc (.cells #[] 36)) ?_ ((Below.refl _ _).alloc (Nat.le_refl _) _) ⟨W.heap.size, rfl, hC.size, by simp⟩⟩
    go_simp
  | 4, ho =>
    cases ho
    have h0 := hdep.old 1 rfl rfl
    refine ⟨rfl, step_val (v := .pointer (some ⟨bb, 1, none⟩)) (w' := W) ?_ (Below.refl _ _) rfl⟩
    go_simp
  | 5, ho =>
    cases ho
    obtain ⟨u, hu, rfl⟩ := hdep.get 4 rfl rfl rfl
    refine ⟨rfl, step_val (v := .slice va vl vc) (w' := W) ?_ (Below.refl _ _) rfl⟩
    go_simp
  | 6, ho =>
    cases ho
    obtain ⟨u3, hu3, g, rfl, hg1, hg2⟩ := hdep.get 3 rfl rfl rfl
    obtain ⟨u5, hu5, rfl⟩ := hdep.get 5 rfl rfl rfl
    obtain ⟨v', W', hr, hb, hvs, hbl⟩ := run_append_verts (W := W) g 22 _ vs (HV1.out.below hC) (by have := HVL.out; omega)
    refine ⟨rfl, step_val (v := v') (w' := W') ?_ hb ⟨hvs, fun x hx => ?_⟩⟩
    ·exact step_append_verts rfl (tmps_getD hu3) (tmps_getD hu5) hr
    ·rcases hbl x hx with rfl | ⟨q1, q2⟩
     ·exact ⟨hg1, Nat.lt_of_lt_of_le hg2 hb.size⟩
     ·exact ⟨Nat.le_trans hC.size q1, q2⟩
  | _ + 7, ho => cases ho
 ·intro us w2 hb2 hl hu
  match us, hl with
  | [u0, u1, u2, u3, u4, u5, u6], _ =>
    obtain rfl := hu 0 u0 rfl
    obtain rfl := hu 1 u1 rfl
    obtain rfl := hu 2 u2 rfl
    obtain ⟨g3, rfl, -⟩ := hu 3 u3 rfl
    obtain rfl := hu 4 u4 rfl
    obtain rfl := hu 5 u5 rfl
    obtain ⟨hv6, ho6⟩ := hu 6 u6 rfl
    have HH2 := Lib.hid (HH1.out.later hb2)
    have hmk := Lib.hid (held_make HW HJS HH2.out hn8 HR1.out (HH2.out.gen hg (HP.out.kept (HB0.out.block _ HP.out.lt))) (by have := HEL.out; omega) (by have := HEL.out; omega) hv6 (fun x hx => HH1.out.pool.fresh (ho6 x hx).1) (by have := HVL.out; omega))
    clear hu hl hb2 hv6 ho6
    unfold nmX ptrTo at hmk
    simp only [relPut, List.take_succ_cons, List.take_zero, List.drop_succ_cons, List.drop_zero]
    go_simp
    go_wp2_with fail
    refine hmk.out.mono ?_
    rintro e w3 ⟨d3, o3, rfl, hh3⟩
    have HH3 := Lib.hid hh3
    obtain ⟨f1, f2, f3⟩ := makeL_files L1 gen es vs
    have HND : Hid (need (makeL L1 gen es vs) ≤ 131072) := Lib.hid (Nat.le_trans (makeL_need _ _ _ _) (by have := HR1.out.2.2; have := HEL.out; have := HVL.out; omega))
    have hop := Lib.hid (held_open HW HH3.out HND.out (HH3.out.gen hg (HP.out.kept (HB0.out.block _ HP.out.lt))) f3 f1 f2)
    rw [HVL.out] at hop
    obtain ⟨c1, c2⟩ := HK.out w3 hh3.below
    have hg0 : ¬ (gen : Int) < 0 := by omega
    have hg1 : ¬ (gen : Int) > 1048576 := by omega
    clear hh3 f1 f2 f3 hmk HH1 HH2
    unfold ptrTo at hop
    go_wp2_with fail
    refine hop.out.mono ?_
    rintro e w4 ⟨gb, ob, ib, vb, d4, o4, rfl, hh4, hg4⟩
    have HH4 := Lib.hid (hh4.rebase HB0.out)
    have HG4 := Lib.hid hg4
    clear hh4 hg4 hop HH3
    unfold ptrTo
    go_wp2
    go_returns
    exact ⟨db, pb, gb, ob, ib, vb, d4, o4, L1, rfl, HH4.out, HR1.out, by rw [HVL.out]; exact HG4.out⟩
theorem rawL_one {es : List Edg} {L : Logic} (h : RawL es L) (hk : (L.map (·.1)).Nodup) : L.length = 1 := by
 obtain ⟨⟨fl, h1⟩, h2, _⟩ := h
 have h3 : ∀ x ∈ L.map (·.1), x = nmX := fun x hx => by
  rw [mem_keys] at hx
  apply Classical.byContradiction
  intro hne
  rw [h2 x hne] at hx
  cases hx
 have h4 : nmX ∈ L.map (·.1) := by rw [mem_keys, h1]; rfl
 match L, hk, h3, h4 with
 | [p], _, _, _ => rfl
 | p :: q :: l, hk, h3, _ =>
   have e1 := h3 p.1 (by simp)
   have e2 := h3 q.1 (by simp)
   simp only [List.map_cons, List.nodup_cons, List.mem_cons] at hk
   exact absurd (.inl (e1.trans e2.symm)) hk.1
set_option maxRecDepth 100000 in
set_option maxHeartbeats 8000000 in
theorem madeNet_out (HW : WriteSaid) {w : World} {ev vv : Value} {es : List Edg} {vs : List Vrt} (gen : Int) (fr : Nat) (he : RdE w ev es) (hv : RdV w vv vs) (h1 : es.length ≤ 300) (h2 : vs.length ≤ 100) (hg : gen < 0 ∨ 1048576 < gen) (hf : fr < 256) :
 Calls Tryz.prog 48 #[.agg #[ev, vv, .int .i64 gen, .int .u8 (fr : Int)]] w fun e w' => e = .returned (.tuple #[.pointer none, .pointer none, .bool false]) ∧ Below w.heap.size w w' := by
 obtain ⟨z, hz⟩ : ∃ z : Nat, z = fr % 40 := ⟨_, rfl⟩
 obtain ⟨n, hn⟩ : ∃ n : Nat, n = 8 + z := ⟨_, rfl⟩
 have hz4 : z < 40 := by omega
 have hzz : (fr : Int) % 40 = (z : Int) := by omega
 have hzt : (fr : Int).tmod 40 = (z : Int) := by rw [Int.tmod_eq_emod_of_nonneg (by omega)]; exact hzz
 have hwf : IntKind.i64.wrap (fr : Int) = (fr : Int) := wrap_in (by omega) (by omega)
 have hwz : IntKind.i64.wrap (z : Int) = (z : Int) := wrap_in (by omega) (by omega)
 have hsum : (8 : Int) + (z : Int) = (n : Int) := by omega
 have hwn : IntKind.i64.wrap (n : Int) = (n : Int) := wrap_in (by omega) (by omega)
 have hn8 : 8 ≤ n := by omega
 have hn4 : n ≤ 4096 := by omega
 have HE := Lib.hid he
 have HV := Lib.hid hv
 have HMK := Lib.hid (fun pb s v W => storeMake_no pb s v gen hg W)
 have HOP := Lib.hid (fun pb W => storeOpen_no pb gen hg W)
 obtain ⟨ea, ec, rfl, -⟩ := he
 obtain ⟨va, vc, rfl, -⟩ := hv
 generalize hel : es.length = el at *
 generalize hvl : vs.length = vl at *
 have HEL := Lib.hid hel
 have HVL := Lib.hid hvl
 clear hn hz hel hvl
 have HB0 : Hid (Below w.heap.size w (w.alloc (.cells #[.slice ea el ec, .slice va vl vc, .int .i64 gen, .int .u8 (fr : Int)] 87))) := Lib.hid ((Below.refl _ _).alloc (Nat.le_refl _) _)
 have HQ0 : Hid ((w.alloc (.cells #[.slice ea el ec, .slice va vl vc, .int .i64 gen, .int .u8 (fr : Int)] 87)).heap[w.heap.size]? = some (.cells #[.slice ea el ec, .slice va vl vc, .int .i64 gen, .int .u8 (fr : Int)] 87)) := Lib.hid (heap_alloc_new w _)
 go_enter Tryz.func48, Tryz.ntmps48
 go_wp2_with fail
 generalize w.alloc (.cells #[.slice ea el ec, .slice va vl vc, .int .i64 gen, .int .u8 (fr : Int)] 87) = W0 at *
 have HK : Hid (∀ W, Below W0.heap.size W0 W → W.cell? ⟨w.heap.size, 1, none⟩ = some (.slice va vl vc) ∧ W.cell? ⟨w.heap.size, 2, none⟩ = some (.int .i64 gen)) := Lib.hid (fun W hW => by
  have hx := (hW.block _ (lt_heap HQ0.out)).trans HQ0.out
  refine ⟨?_, ?_⟩ <;> rw [cells_cell hx] <;> rfl)
 obtain ⟨bb, hbb⟩ : ∃ bb, bb = w.heap.size := ⟨_, rfl⟩
 rw [← hbb] at HK ⊢
 clear hbb
 refine (raw_any HW n (by omega) hn4 _ es W0 (HE.out.below HB0.out) (by have := HEL.out; omega)).mono ?_
 rintro e w1 ⟨db, pb, o1, d1, L1, rfl, hh1, hr1⟩
 have HH1 := Lib.hid hh1
 have HR1 := Lib.hid hr1
 have HV1 := Lib.hid ((HV.out.below HB0.out).below hh1.below)
 clear hh1 hr1
 unfold ptrTo at *
 go_wp2
 refine wp_region_relTail (Below w1.heap.size w1) (madeRel bb w1.heap.size gen (.pointer (some ⟨pb, 0, none⟩)) (.slice va vl vc) vs) 7 (by kernel_rfl) (by kernel_rfl) (Below.refl _ _).drew (fun w1 w2 h1 h2 => h1.trans (h2.mono h1.size)) madeRel_on ?_ ?_
 ·intro i o ho a W hC hdep
  obtain ⟨c1, c2⟩ := HK.out W (HH1.out.below.trans (hC.mono HH1.out.below.size))
  match i, ho with
  | 0, ho =>
    cases ho
    have h0 := hdep.old 6 rfl rfl
    refine ⟨rfl, step_val (v := .pointer (some ⟨pb, 0, none⟩)) (w' := W) ?_ (Below.refl _ _) rfl⟩
    go_simp
  | 1, ho =>
    cases ho
    have h0 := hdep.old 1 rfl rfl
    refine ⟨rfl, step_val (v := .pointer (some ⟨bb, 2, none⟩)) (w' := W) ?_ (Below.refl _ _) rfl⟩
    go_simp
  | 2, ho =>
    cases ho
    obtain ⟨u, hu, rfl⟩ := hdep.get 1 rfl rfl rfl
    refine ⟨rfl, step_val (v := .int .i64 gen) (w' := W) ?_ (Below.refl _ _) rfl⟩
    go_simp
  | 3, ho =>
    cases ho
    refine ⟨rfl, step_val (v := .slice (some ⟨W.heap.size, 0, none⟩) 0 0) (w' := W.alloc (.cells #[] 36)) ?_ ((Below.refl _ _).alloc (Nat.le_refl _) _) ⟨W.heap.size, rfl, hC.size, by simp⟩⟩
    go_simp
  | 4, ho =>
    cases ho
    have h0 := hdep.old 1 rfl rfl
    refine ⟨rfl, step_val (v := .pointer (some ⟨bb, 1, none⟩)) (w' := W) ?_ (Below.refl _ _) rfl⟩
    go_simp
  | 5, ho =>
    cases ho
    obtain ⟨u, hu, rfl⟩ := hdep.get 4 rfl rfl rfl
    refine ⟨rfl, step_val (v := .slice va vl vc) (w' := W) ?_ (Below.refl _ _) rfl⟩
    go_simp
  | 6, ho =>
    cases ho
    obtain ⟨u3, hu3, g, rfl, hg1, hg2⟩ := hdep.get 3 rfl rfl rfl
    obtain ⟨u5, hu5, rfl⟩ := hdep.get 5 rfl rfl rfl
    obtain ⟨v', W', hr, hb, hvs, hbl⟩ := run_append_verts (W := W) g 22 _ vs (HV1.out.below hC) (by have := HVL.out; omega)
    refine ⟨rfl, step_val (v := v') (w' := W') ?_ hb ⟨hvs, fun x hx => ?_⟩⟩
    ·exact step_append_verts rfl (tmps_getD hu3) (tmps_getD hu5) hr
    ·rcases hbl x hx with rfl | ⟨q1, q2⟩
     ·exact ⟨hg1, Nat.lt_of_lt_of_le hg2 hb.size⟩
     ·exact ⟨Nat.le_trans hC.size q1, q2⟩
  | _ + 7, ho => cases ho
 ·intro us w2 hb2 hl hu
  match us, hl with
  | [u0, u1, u2, u3, u4, u5, u6], _ =>
    obtain rfl := hu 0 u0 rfl
    obtain rfl := hu 1 u1 rfl
    obtain rfl := hu 2 u2 rfl
    obtain ⟨g3, rfl, -⟩ := hu 3 u3 rfl
    obtain rfl := hu 4 u4 rfl
    obtain rfl := hu 5 u5 rfl
    have HH2 := Lib.hid (HH1.out.later hb2)
    clear hu hl hb2
    unfold ptrTo at *
    simp only [relPut, List.take_succ_cons, List.take_zero, List.drop_succ_cons, List.drop_zero]
    go_simp
    go_wp2_with fail
    refine (HMK.out pb _ _ w2).mono ?_
    rintro e w' ⟨rfl, rfl⟩
    obtain ⟨c1, c2⟩ := HK.out w2 HH2.out.below
    have hnm := Lib.hid (names_kept HH2.out.kept (by rw [rawL_one HR1.out HH2.out.pool.keys]; decide))
    rw [rawL_one HR1.out HH2.out.pool.keys] at hnm
    unfold ptrTo at hnm
    rcases hg with hg | hg
    ·have hd0 : decide (gen < 0) = true := by simpa using hg
     go_wp2_with fail
     refine (HOP.out pb w2).mono ?_
     rintro e w' ⟨rfl, rfl⟩
     go_wp2_with fail
     refine hnm.out.mono ?_
     rintro e w3 ⟨a3, c3, rfl, hh3⟩
     have HB3 := Lib.hid (HB0.out.trans (hh3.below.mono HB0.out.size))
     clear hh3
     go_wp2
     go_returns
     exact ⟨rfl, HB3.out⟩
    ·have hd0 : ¬ gen < 0 := by omega
     have hd1 : gen > 1048576 := hg
     go_wp2_with fail
     refine (HOP.out pb w2).mono ?_
     rintro e w' ⟨rfl, rfl⟩
     go_wp2_with fail
     refine hnm.out.mono ?_
     rintro e w3 ⟨a3, c3, rfl, hh3⟩
     have HB3 := Lib.hid (HB0.out.trans (hh3.below.mono HB0.out.size))
     clear hh3
     go_wp2
     go_returns
     exact ⟨rfl, HB3.out⟩
end Go.Proofs.YtolieljpnafbhaaGreatDoor
namespace Go.Proofs.YtolieljpnafbhaaGreatDoor
open Go.RowKit Go.Maps
theorem rdE_own {w : World} {base : Nat} {v : Value} {es : List Edg} (h : ownsEdges w base v es) : RdE w v es := by
 rcases ownsEdges_shape h with ⟨rfl, h1⟩ | ⟨g, cap, rfl, hg, hc1, hc2⟩
 ·obtain ⟨a, cap, rfl⟩ := ownsRow_slice h
  exact ⟨a, cap, rfl, .inl rfl⟩
 ·refine ⟨some ⟨g, 0, none⟩, cap, rfl, .inr ⟨g, 0, rfl, fun j x hx => ?_⟩⟩
  obtain ⟨h1, h2, h3, h4⟩ := ownsEdges_cells h hx
  rw [Nat.zero_add]
  exact ⟨h1, h2, h3, h4⟩
end Go.Proofs.YtolieljpnafbhaaGreatDoor
