/-
  Joined, in build order, what is needed of: Law12g, Law12h.
-/
import Derived.Test.YtolieljpnafbhaaGreatDoorX16
import Derived.Test.YtolieljpnafbhaaGreatDoorCards
import Derived.Test.YtolieljpnafbhaaGreatDoorTie
import Derived.WalkKit
import Derived.ProofKit
import Derived.OpenShut
import Derived.Deep.DeepHandedRow
import Derived.Lib.LaidTab
import Derived.Lib.SmallJoins
import Derived.Maps.OwnSet
import Derived.Maps.RangeWalk
import Derived.StillTail
import Derived.Deep.Quiet
import Derived.Deep.QuietTactic
import Derived.BigQuiet
import Derived.Test.YtolieljpnafbhaaGreatDoorRows
import Derived.WalkSpells
import Derived.WalkLawsBesides
import Derived.Lib.Hide
import Derived.Handy
import Derived.IntWalk
import Derived.Deep.LoopGhost
import Derived.Deep.RegionHeld3
import Derived.Deep.DeepCutAuto
import Derived.Laws.Tables
import Derived.Deep.WholeRow
import Derived.Lib.AppendZerosOnto
import Derived.Maps.AppendAt
import Derived.Deep.MidRow
import Derived.Lib.ConvBytes
import Derived.DeepKeys4
import Derived.Laws.CopyOwn
import Derived.Orders
import Derived.StillTailTactics
import Derived.Shelf.SlSortCmp.Whole1
import Derived.Ground.SlsfProg
import Derived.Shelf.SlGeneric
import Derived.Test.YtolieljpnafbhaaGreatDoorProg
import Derived.Sort.OwnSortedInts
import Derived.Shelf.SlSortCmp.NoneTotal
import Derived.Shelf.SlSortCmp.Insertion
import Derived.Sort.Grow
import Derived.Deep.AppendSrc
import Derived.Shelf.Strconv.Itoa3
import Derived.Shelf.Strings.Prefix
import Derived.Shelf.SlicesE.Delete
import Derived.Ground.NamesProg
import Derived.Ground.SlgnProg
import Derived.Shelf.LaysM
import Derived.Sort.WalkA
import Derived.Shelf.SlicesQ.Load
import Derived.Shelf.SlicesQ.Reverse
import Derived.Shelf.RegionOpenPlain
import Derived.Sort.WalkB3
import Derived.Sort.LotD5
import Derived.Sort.Walk7
import Derived.Deep.CutBlock
import Derived.Sort.WalkC
import Derived.Sort.WalkA6
import Derived.Sort.AssemblyPlain
import Derived.Sort.Walk13a
import Derived.Below
import Derived.Deep.RegionWith
import Derived.Laws.IdiomStrings
import Derived.Shelf.Sort.Plain
import Derived.Shelf.Slices.In.SortNone
import Derived.Laws.BytesArg
namespace Go.Proofs.YtolieljpnafbhaaGreatDoor
open Go.RowKit Go.Maps
theorem or_pair (a b : Nat) (ha : a < 4294967296) (hb : b < 4294967296) : bits BinOp.or IntKind.u64 ((a * 4294967296 : Nat) : Int) (b : Int) = ((a * 4294967296 + b : Nat) : Int) := by
  have h1 : a * 4294967296 < 2 ^ 64 := by omega
  have h2 : b < 2 ^ 64 := by omega
  rw [(bits_nat .u64 64 (by decide) wraps_u64 _ _ h1 h2).2]
  congr 1
  have := Nat.two_pow_add_eq_or_of_lt (i := 32) (b := b) (by omega) a
  rw [Nat.mul_comm a, ← this]
theorem or_ends (b : Bool) (x : Edg) : bits BinOp.or IntKind.u64 (IntKind.u64.wrap (IntKind.u64.wrap ((end1 b x : Nat) : Int) * 4294967296)) (IntKind.u64.wrap ((end2 b x : Nat) : Int)) = ((end1 b x * 4294967296 + end2 b x : Nat) : Int) := by
  obtain ⟨-, h1, h2⟩ := pk_ends b x
  rw [wraps_u64 ((end1 b x : Nat) : Int) (by omega) (by omega), wraps_u64 ((end2 b x : Nat) : Int) (by omega) (by omega), wraps_u64 _ (by omega) (by omega)]
  exact or_pair _ _ h1 h2
section
variable {q : Nat} {w0 w w' : World} {pb db n sb : Nat} {name : Name} {o o' : Owner} {d d' : Dsk} {L L' L2 : Logic} {es : List Edg} {fl : Bool}
/-- A stream of a pool that is kept is opened. -/
theorem kept_open (h : Kept q w0 w pb db n o d L) (hL : mget L name = some (edgeFile es fl)) :
    Calls Tryz.prog 29 #[ptrTo pb, .string name, .int .i64 20] w fun e w' => ∃ sb, e = .returned (.tuple #[ptrTo sb, .int .i64 0]) ∧ Kept q w0 w' pb db n o d L ∧ StreamAt w' sb pb name 20 ∧ o sb = none := by
  have hop := streamOpen_any (sz := 20) h.pool name (okName_1000 (h.pool.ok hL)) (by decide) (by decide)
  have hpf := pfOpen_paged h.pool hL
  rw [h.dead] at hpf
  simp only [Bool.false_eq_true, if_false] at hpf
  rw [hpf] at hop
  refine hop.mono ?_
  rintro e w3 ⟨v3, rfl, hb3, hs3, -⟩
  obtain ⟨sb, rfl, hst3, hsb⟩ := hs3 rfl
  exact ⟨sb, rfl, h.later hb3, hst3, h.pool.fresh hsb⟩
theorem kept_len (HW : WriteSaid) (h : Kept q w0 w pb db n o d L) (hq : need L ≤ q) (hst : StreamAt w sb pb name 20) (ho : o sb = none) (hL : mget L name = some (edgeFile es fl)) :
    Calls Tryz.prog 30 #[ptrTo sb] w fun e w' => ∃ d' o', e = .returned (.tuple #[.int .i64 (es.length : Int), .int .i64 0]) ∧ Kept q w0 w' pb db n o' d' L ∧ StreamAt w' sb pb name 20 ∧ o' sb = none := by
  have := streamLen_any HW h.pool hst ho (by decide) (by decide) hL (sized_edges es)
  rw [List.length_map] at this
  refine this.mono ?_
  rintro e w2 ⟨c, d2, o2, ⟨x, rfl, hx⟩, hm, he⟩
  have h0 : c = 0 := h.fine' hm he hq
  subst h0
  rw [hx rfl]
  exact ⟨d2, o2, rfl, h.moved hm (fun _ h => h.elim), hst.moved hm ho (fun h => h), hm.free hst.lt ho⟩
/-- An append to a row of the law's own, beside a pool that is kept. -/
theorem Kept.appd {v v' : Value} {ob : Obj} (h : Kept q w0 w pb db n o d L) (ha : Appd v (w.alloc ob) w' v') (hv : ∀ x, v.ownBlock = some x → o x = none ∧ w0.heap.size ≤ x) :
    Kept q w0 w' pb db n o d L ∧ (∀ x, v'.ownBlock = some x → o x = none ∧ w0.heap.size ≤ x ∧ (v.ownBlock = some x ∨ w.heap.size ≤ x)) ∧ (∀ x, x < w.heap.size → v.ownBlock ≠ some x → w'.heap[x]? = w.heap[x]?) ∧ w.heap.size ≤ w'.heap.size := by
  obtain ⟨hg, hb⟩ := ha
  have hs : w.heap.size < (w.alloc ob).heap.size := by simp
  have hz := h.below.size
  have hm : Moved (fun x => w0.heap.size ≤ x) n pb db w o d w' o d L := ((Moved.refl _ h.pool).alloc ob).grown hg (fun k hk => ⟨(hv k hk).1, .inl (hv k hk).2⟩)
  refine ⟨h.moved hm (fun _ h => h), fun x hx => ?_, fun x hx hne => ?_, hm.size⟩
  · rcases hb with e | e
    · rw [e] at hx
      exact ⟨(hv x hx).1, (hv x hx).2, .inl hx⟩
    · rw [e] at hx
      cases hx
      exact ⟨h.pool.fresh (Nat.le_of_lt hs), by omega, .inr (Nat.le_of_lt hs)⟩
  · exact (hg.block x (Nat.lt_trans hx hs) (fun e => hne e.symm)).trans ((MapKept.heap_alloc w ob).2 x hx)
/-- What is read of an edge. -/
def KeptGet (q : Nat) (w0 w : World) (pb db n sb : Nat) (name : Name) (o : Owner) (d : Dsk) (L : Logic) (x : Edg) (e : Ending) (w' : World) : Prop :=
  ∃ v d' o', e = .returned (.tuple #[v, .int .i64 0]) ∧ Kept q w0 w' pb db n o' d' L ∧ Rd w' v x.bytes ∧ StreamAt w' sb pb name 20 ∧ o' sb = none ∧ Moved (fun _ => False) n pb db w o d w' o' d' L
theorem kept_get (HW : WriteSaid) (h : Kept q w0 w pb db n o d L) (hq : need L ≤ q) (hst : StreamAt w sb pb name 20) (ho : o sb = none) (hL : mget L name = some (edgeFile es fl)) {i : Nat} {x : Edg} (hi : es[i]? = some x) :
    Calls Tryz.prog 31 #[ptrTo sb, .int .i64 (i : Int)] w (KeptGet q w0 w pb db n sb name o d L x) := by
  have hil := lt_of_get hi
  have := streamGet_in HW h.pool hst ho (by decide) (by decide) hL (sized_edges es) (i := i) (by rw [List.length_map]; exact hil)
  rw [List.getElem_map] at this
  rw [List.getElem?_eq_getElem hil] at hi
  obtain rfl := Option.some.inj hi
  refine this.mono ?_
  rintro e w2 ⟨v, c, d2, o2, rfl, hm, he, hr, -⟩
  have h0 : c = 0 := h.fine' hm he hq
  subst h0
  obtain ⟨hr, -⟩ := hr rfl
  exact ⟨v, d2, o2, rfl, h.moved hm (fun _ h => h.elim), Rd_own hr, hst.moved hm ho (fun h => h), hm.free hst.lt ho, hm⟩
end
end Go.Proofs.YtolieljpnafbhaaGreatDoor
namespace Go.Proofs.YtolieljpnafbhaaGreatDoor
open Go.RowKit Go.Maps
set_option maxRecDepth 100000 in
set_option maxHeartbeats 8000000 in
theorem extsortOrder_false (HW : WriteSaid) {m : Nat} (HJS : JobSortSaid m) (hm : 600 ≤ m) (k : Nat) (hk : k < 256) (v : Value) (es : List Edg) (b : Bool) (hbk : b = false) (w : World) (hv : RdE w v es) :
    Calls Tryz.prog 5 #[.int .u8 (k : Int), v, .bool b] w fun e w' => e = .returned (.bool true) ∧ Below w.heap.size w w' := by
  have HV := Lib.hid hv
  have hworks := Lib.hid (works12_any HW HJS (Nat.le_trans (by decide) hm))
  obtain ⟨a, cap, rfl, -⟩ := hv
  by_cases hl : es.length ≤ 600
  · have hl' : ¬ ((es.length : Int) > 600) := by omega
    have hfr := Lib.hid (frames8_any k hk)
    obtain ⟨n, hn⟩ : ∃ n : Nat, n = 8 + k % 56 := ⟨_, rfl⟩
    rw [← hn] at hfr
    have hn8 : 8 ≤ n := by omega
    have hn4 : n ≤ 4096 := by omega
    have hbeg := Lib.hid (begun_any HW 65536 (by decide) n (by omega) hn4 _ es w HV.out (by omega))
    clear hn
    obtain ⟨O, hO⟩ : ∃ O, O = bestOf b es := ⟨_, rfl⟩
    have HBEST : Hid (Best b es O) := Lib.hid (by rw [hO]; exact best_bestOf _ _)
    have hOl : O.length ≤ es.length := by rw [hO]; exact bestOf_length _ _
    have hsort : Hid (∀ W pb db o d, Kept 65536 w W pb db n o d [(nmIn, edgeFile es true)] → Calls Tryz.prog 28 #[ptrTo pb, .string nmIn, .string nmOut, .int .i64 (byNum b : Int)] W (KeptSort 65536 w pb db n [(nmOut, edgeFile O true), (nmIn, edgeFile es true)])) := Lib.hid (fun W pb db o d h => by
      rw [hO]
      exact kept_sort HW HJS h hn8 b (by decide) (by decide) (by decide) (by decide) (by omega) (by omega))
    have hneed : Hid (need [(nmOut, edgeFile O true), (nmIn, edgeFile es true)] ≤ 65536) := Lib.hid (by
      rw [need_cons, need_cons]
      have h1 := edgeFile_need es true
      have h2 := edgeFile_need O true
      show (edgeFile O true).need + ((edgeFile es true).need + 0) ≤ _
      omega)
    have HGET : Hid (mget [(nmOut, edgeFile O true), (nmIn, edgeFile es true)] nmOut = some (edgeFile O true)) := Lib.hid rfl
    clear hO
    generalize [(nmOut, edgeFile O true), (nmIn, edgeFile es true)] = L at *
    unfold nmIn nmOut ptrTo at *
    obtain ⟨b0, hb0⟩ : ∃ b0, b0 = b := ⟨_, rfl⟩
    rw [← hb0] at HBEST
    have HB0 := Lib.hid hb0
    clear hb0
    subst hbk
    go_enter Tryz.func5, Tryz.ntmps5
    go_wp2_with fail
    refine (hfr.out _).mono ?_
    rintro e w' ⟨rfl, rfl⟩
    go_wp2_with fail
    refine hbeg.out.mono ?_
    rintro e w1 ⟨db, pb, o1, d1, rfl, hh1⟩
    have hs := Lib.hid (hsort.out w1 pb db o1 d1 hh1)
    clear hh1 hfr hbeg hsort
    unfold ptrTo at *
    go_wp2_with fail
    refine hs.out.mono ?_
    rintro e w2 ⟨d2, o2, rfl, hh2⟩
    have HH2 := Lib.hid hh2
    have hop := Lib.hid (kept_open hh2 HGET.out)
    clear hh2 hs
    unfold ptrTo at hop
    go_wp2_with fail
    refine hop.out.mono ?_
    rintro e w3 ⟨sb, rfl, hh3, hst3, hos3⟩
    have hln := Lib.hid (kept_len HW hh3 hneed.out hst3 hos3 HGET.out)
    clear hh3 hst3 hos3 hop HH2
    unfold ptrTo at *
    go_wp2_with fail
    refine hln.out.mono ?_
    rintro e w4 ⟨d4, o4, rfl, hh4, hst4, hos4⟩
    have HH4 := Lib.hid hh4
    have HST4 := Lib.hid hst4
    have HOS4 := Lib.hid hos4
    clear hh4 hst4 hos4 hln
    have hget : Hid (∀ W o' d' (i : Nat) (x : Edg), Kept 65536 w W pb db n o' d' L → StreamAt W sb pb nmOut 20 → o' sb = none → O[i]? = some x → Calls Tryz.prog 31 #[ptrTo sb, .int .i64 (i : Int)] W (KeptGet 65536 w W pb db n sb nmOut o' d' L x)) := Lib.hid (fun W o' d' i x hh hst ho hx => kept_get HW hh hneed.out hst ho HGET.out hx)
    unfold nmOut ptrTo at *
    go_wp2
    go_loopw [13, 14] (fun v i wr => ∃ (j : Nat) (d' : Dsk) (o' : Owner), j ≤ O.length ∧ i = .int .i64 (j : Int) ∧ ownsEdges wr w.heap.size v (O.take j) ∧ (∀ x, v.ownBlock = some x → o' x = none ∧ x ≠ sb) ∧ Kept 65536 w wr pb db n o' d' L ∧ StreamAt wr sb pb ⟨#[111, 117, 116]⟩ 20 ∧ o' sb = none) (fun _ i _ => O.length - (intOf i).toNat)
    case atStart => exact ⟨0, d4, o4, Nat.zero_le _, rfl, World.ownsRow_nil _ _ _ _, (fun x hx => by cases hx), HH4.out, HST4.out, HOS4.out⟩
    case round =>
      generalize u13 = v at *
      obtain ⟨j, d5, o5, hj, rfl, hv5, hvf5, hh5, hst5, hos5⟩ := hrel
      have HV5 := Lib.hid hv5
      have HVF5 := Lib.hid hvf5
      have HH5 := Lib.hid hh5
      have HST5 := Lib.hid hst5
      have HOS5 := Lib.hid hos5
      clear hv5 hvf5 hh5 hst5 hos5 HH4 HST4 HOS4
      by_cases hlt : j < O.length
      · obtain ⟨x, hx⟩ : ∃ x, O[j]? = some x := ⟨_, List.getElem?_eq_getElem hlt⟩
        have HX := Lib.hid hx
        clear hx
        have hg := Lib.hid (hget.out wr o5 d5 j x HH5.out HST5.out HOS5.out HX.out)
        have hxm : x ∈ O := List.mem_of_getElem? HX.out
        obtain ⟨x1, x2, x3, x4, x5⟩ := u32_ne (HBEST.out.mem x hxm).2.1
        have hlenv : Hid ((O.take j).length = j) := Lib.hid (by rw [List.length_take]; omega)
        generalize hON : O.length = N at *
        have HON := Lib.hid hON
        clear hON
        go_wp2_with fail
        refine hg.out.mono ?_
        rintro e w6 ⟨v6, d6, o6, rfl, hh6, hr6, hst6, hos6, hm6⟩
        have hrd := Lib.hid (readEdg_any v6 x w6 hr6)
        have HH6 := Lib.hid hh6
        have HST6 := Lib.hid hst6
        have HOS6 := Lib.hid hos6
        have HV6 : Hid (ownsEdges w6 w.heap.size v (O.take j)) := Lib.hid (hm6.ownsRow HV5.out (fun y hy => ⟨(HVF5.out y hy).1, fun h => h⟩))
        have HVF6 : Hid (∀ y, v.ownBlock = some y → o6 y = none ∧ y ≠ sb) := Lib.hid (fun y hy => ⟨hm6.free (ownBlock_old HV5.out y hy).1 (HVF5.out y hy).1, (HVF5.out y hy).2⟩)
        clear hh6 hr6 hst6 hos6 hm6 hg HH5 HST5 HOS5 HV5 HVF5
        go_wp2_with fail
        refine hrd.out.mono ?_
        rintro e w7 ⟨rfl, hb7⟩
        have HB7 := Lib.hid hb7
        clear hb7
        have HH7 := Lib.hid (HH6.out.later HB7.out)
        have HV7 : Hid (ownsEdges w7 w.heap.size v (O.take j)) := Lib.hid (ownsRow_below HV6.out HB7.out)
        have HST7 := Lib.hid (HST6.out.below HB7.out)
        have hbw : w.heap.size ≤ w7.heap.size := HH7.out.below.size
        have HAPP : Hid (∀ W v' w', Below w7.heap.size w7 W → Appd v (W.alloc (.cells #[.int .u32 (x.t.toNat : Int), .int .u32 (x.h.toNat : Int), .int .u64 (x.x.toNat : Int), .int .u32 (x.m.toNat : Int)] 47)) w' v' → ownsEdges w' w.heap.size v' (O.take j ++ [x]) →
            ownsEdges w' w.heap.size v' (O.take (j + 1)) ∧ (∀ y, v'.ownBlock = some y → o6 y = none ∧ y ≠ sb) ∧ Kept 65536 w w' pb db n o6 d6 L ∧ StreamAt w' sb pb ⟨#[111, 117, 116]⟩ 20) := Lib.hid (fun W v' w' hB ha hv' => by
          have hK := HH7.out.later hB
          obtain ⟨a1, a2, a3, a4⟩ := hK.appd ha (fun y hy => ⟨(HVF6.out y hy).1, (ownBlock_old HV7.out y hy).2⟩)
          have hst := HST7.out.below hB
          refine ⟨?_, fun y hy => ⟨(a2 y hy).1, fun e => ?_⟩, a1, hst.kept (a3 sb hst.lt (fun e => (HVF6.out sb e).2 rfl))⟩
          · have hjl : j < O.length := lt_of_get HX.out
            rw [List.take_succ_eq_append_getElem hjl]
            have : O[j]? = some O[j] := List.getElem?_eq_getElem hjl
            rw [HX.out] at this
            rw [← Option.some.inj this]
            exact hv'
          · rcases (a2 y hy).2.2 with h | h
            · exact (HVF6.out y h).2 e
            · have := hst.lt
              omega)
        clear hrd HH6 HST6 HV6 HB7
        go_upto_region 25 with (fail)
        have HB8 : Hid (Below w7.heap.size w7 (w7.alloc (.cells #[.int .u32 (x.t.toNat : Int), .int .u32 (x.h.toNat : Int), .int .u64 (x.x.toNat : Int), .int .u32 (x.m.toNat : Int)] 47))) := Lib.hid ((Below.refl _ _).alloc (Nat.le_refl _) _)
        have HQ8 : Hid ((w7.alloc (.cells #[.int .u32 (x.t.toNat : Int), .int .u32 (x.h.toNat : Int), .int .u64 (x.x.toNat : Int), .int .u32 (x.m.toNat : Int)] 47)).heap[w7.heap.size]? = some (.cells #[.int .u32 (x.t.toNat : Int), .int .u32 (x.h.toNat : Int), .int .u64 (x.x.toNat : Int), .int .u32 (x.m.toNat : Int)] 47)) := Lib.hid (heap_alloc_new w7 _)
        have hs8 : w7.heap.size < (w7.alloc (.cells #[.int .u32 (x.t.toNat : Int), .int .u32 (x.h.toNat : Int), .int .u64 (x.x.toNat : Int), .int .u32 (x.m.toNat : Int)] 47)).heap.size := by simp
        generalize w7.alloc (.cells #[.int .u32 (x.t.toNat : Int), .int .u32 (x.h.toNat : Int), .int .u64 (x.x.toNat : Int), .int .u32 (x.m.toNat : Int)] 47) = W8 at *
        have HV8 : Hid (ownsEdges W8 w.heap.size v (O.take j)) := Lib.hid (ownsRow_below HV7.out HB8.out)
        have c0 : W8.cell? ⟨w7.heap.size, 0, none⟩ = some (.int .u32 (x.t.toNat : Int)) := by rw [cells_cell HQ8.out]; rfl
        have c1 : W8.cell? ⟨w7.heap.size, 1, none⟩ = some (.int .u32 (x.h.toNat : Int)) := by rw [cells_cell HQ8.out]; rfl
        have c2 : W8.cell? ⟨w7.heap.size, 2, none⟩ = some (.int .u64 (x.x.toNat : Int)) := by rw [cells_cell HQ8.out]; rfl
        have c3 : W8.cell? ⟨w7.heap.size, 3, none⟩ = some (.int .u32 (x.m.toNat : Int)) := by rw [cells_cell HQ8.out]; rfl
        generalize w7.heap.size = q7 at *
        have hs8' : w.heap.size ≤ W8.heap.size := by omega
        have hlv : (O.take j).length ≤ 100000 := by rw [hlenv.out]; omega
        by_cases hj0 : j = 0
        · subst hj0
          go_wp2_with (at_builtin; refine wpList_append_edge rfl _ _ rfl w.heap.size _ _ rfl HV8.out x 1 rfl hlv hs8' ?_)
          intro v9 w9 hv9 ha9
          obtain ⟨g1, g2, g3, g4⟩ := HAPP.out _ v9 w9 HB8.out ha9 hv9
          clear ha9 hv9
          have G1 := Lib.hid g1
          have G2 := Lib.hid g2
          have G3 := Lib.hid g3
          have G4 := Lib.hid g4
          clear g1 g2 g3 g4
          go_wp2
          go_roundw
          case rel => exact ⟨1, d6, o6, by omega, by go_num, G1.out, G2.out, G3.out, G4.out, HOS6.out⟩
          case measure => simp [intOf]; omega
        · obtain ⟨q, hq⟩ : ∃ q : Nat, (q : Int) = (j : Int) - 1 := ⟨j - 1, by omega⟩
          have hw : IntKind.i64.wrap ((j : Int) - 1) = (q : Int) := by rw [wrap_in (by omega) (by omega), hq]
          have hqO : q < O.length := by rw [HON.out]; omega
          obtain ⟨p, hp⟩ : ∃ p, O[q]? = some p := ⟨_, List.getElem?_eq_getElem hqO⟩
          have hpq : (O.take j)[q]? = some p := by rw [List.getElem?_take, if_pos (by omega), hp]
          have hqj : q < j := by omega
          have HPQ := Lib.hid hpq
          have HQ := Lib.hid hq
          have HRISE : Hid (pk b0 p < pk b0 x) := Lib.hid (by
            have hjO : j < O.length := lt_of_get HX.out
            have h1 := List.pairwise_iff_getElem.1 HBEST.out.rise q j hqO hjO hqj
            rw [List.getElem?_eq_getElem hqO] at hp
            have hx := HX.out
            rw [List.getElem?_eq_getElem hjO] at hx
            rw [Option.some.inj hp, Option.some.inj hx] at h1
            exact h1)
          obtain ⟨g0, gcap, rfl⟩ : ∃ g cap, v = .slice (some ⟨g, 0, none⟩) (O.take j).length cap := by
            rcases ownsEdges_shape HV8.out with ⟨h1, h2⟩ | ⟨g, cap, h1, hg, hc1, hc2⟩
            · have h3 := hlenv.out
              rw [h1] at h3
              exact absurd h3.symm hj0
            · exact ⟨g, cap, h1⟩
          obtain ⟨e0, e1, e2, e3⟩ := ownsEdges_cells HV8.out HPQ.out
          rw [hlenv.out] at *
          have HLV : Hid ((O.take j).length ≤ 100000) := Lib.hid (Nat.le_trans (List.length_take_le _ _) (by omega))
          clear hq hpq hp
          obtain ⟨A, B, hA, hB, hAB⟩ : ∃ A B : Nat, A = end1 b0 p * 4294967296 + end2 b0 p ∧ B = end1 b0 x * 4294967296 + end2 b0 x ∧ A < B := ⟨_, _, rfl, rfl, by rw [← (pk_ends b0 p).1, ← (pk_ends b0 x).1]; exact HRISE.out⟩
          have hor5 := or_ends b0 p
          have hor6 := or_ends b0 x
          rw [← hA] at hor5
          rw [← hB] at hor6
          rw [HB0.out] at hor5 hor6
          simp only [end1, end2, Bool.false_eq_true, if_false] at hor5 hor6
          clear hA hB
          have hAB1 : ¬ ((A : Int) ≥ (B : Int)) := by omega
          go_wp2_with fail
          go_quiet (fail)
          have HB9 : Hid (Below W8.heap.size W8 (W8.drewN nq)) := Lib.hid (below_drewN (Below.refl _ _) _)
          have HB9' := Lib.hid (HB8.out.trans (HB9.out.mono (Nat.le_of_lt hs8)))
          have HV9 : Hid (ownsEdges (W8.drewN nq) w.heap.size (.slice (some ⟨g0, 0, none⟩) j gcap) (O.take j)) := Lib.hid (ownsRow_below HV8.out HB9.out)
          have c0' := cellBelow HB9.out c0
          have c1' := cellBelow HB9.out c1
          have c2' := cellBelow HB9.out c2
          have c3' := cellBelow HB9.out c3
          have hs9 : w.heap.size ≤ (W8.drewN nq).heap.size := Nat.le_trans hs8' HB9.out.size
          generalize W8.drewN nq = W9 at *
          clear e0 e1 e2 e3 c0 c1 c2 c3
          go_wp2_with (at_builtin; refine wpList_append_edge rfl _ _ rfl w.heap.size _ _ rfl HV9.out x 1 rfl HLV.out hs9 ?_)
          intro v9 w9 hv9 ha9
          obtain ⟨g1, g2, g3, g4⟩ := HAPP.out _ v9 w9 HB9'.out ha9 hv9
          clear ha9 hv9
          have G1 := Lib.hid g1
          have G2 := Lib.hid g2
          have G3 := Lib.hid g3
          have G4 := Lib.hid g4
          clear g1 g2 g3 g4
          go_wp2
          go_roundw
          case rel => exact ⟨j + 1, d6, o6, by omega, by go_num, G1.out, G2.out, G3.out, G4.out, HOS6.out⟩
          case measure => simp [intOf]; omega
      · obtain rfl : O.length = j := by omega
        have hvO := HV5.out
        rw [List.take_of_length_le (Nat.le_refl _)] at hvO
        obtain ⟨ao, co, hve⟩ : ∃ ao co, v = .slice ao O.length co := ownsRow_slice hvO
        subst hve
        have HOC : Hid (∀ W, Below wr.heap.size wr W → ∀ (i : Nat) (x : Edg), O[i]? = some x → ∃ g, ao = some ⟨g, 0, none⟩ ∧ W.cell? ⟨g, i * 4, none⟩ = some (.int .u32 (x.t.toNat : Int)) ∧ W.cell? ⟨g, i * 4 + 1, none⟩ = some (.int .u32 (x.h.toNat : Int)) ∧ W.cell? ⟨g, i * 4 + 2, none⟩ = some (.int .u64 (x.x.toNat : Int)) ∧ W.cell? ⟨g, i * 4 + 3, none⟩ = some (.int .u32 (x.m.toNat : Int))) := Lib.hid (fun W hB i x hx => by
          rcases ownsEdges_shape hvO with ⟨h1, h2⟩ | ⟨g, cap, h1, hg, hc1, hc2⟩
          · rw [h1] at hx; cases hx
          · cases h1
            obtain ⟨e0, e1, e2, e3⟩ := ownsEdges_cells hvO hx
            exact ⟨g, rfl, cellBelow hB e0, cellBelow hB e1, cellBelow hB e2, cellBelow hB e3⟩)
        have HEC : Hid (∀ W, Below wr.heap.size wr W → ∀ (i : Nat) (x : Edg), es[i]? = some x → ∃ b off, a = some ⟨b, off, none⟩ ∧ W.cell? ⟨b, off + i * 4, none⟩ = some (.int .u32 (x.t.toNat : Int)) ∧ W.cell? ⟨b, off + i * 4 + 1, none⟩ = some (.int .u32 (x.h.toNat : Int)) ∧ W.cell? ⟨b, off + i * 4 + 2, none⟩ = some (.int .u64 (x.x.toNat : Int)) ∧ W.cell? ⟨b, off + i * 4 + 3, none⟩ = some (.int .u32 (x.m.toNat : Int))) := Lib.hid (fun W hB i x hx => by
          obtain ⟨a', cap', hve, hce⟩ := HV.out.below (HH5.out.below.trans (hB.mono HH5.out.below.size))
          cases hve
          rcases hce with h0 | ⟨b, off, h1, hc⟩
          · have := lt_of_get hx
            omega
          · exact ⟨b, off, h1, hc i x hx⟩)
        have HBW := Lib.hid HH5.out.below
        have hco : O.length ≤ maxLen := by unfold maxLen; omega
        clear hvO HV5 HVF5 HST5 HOS5 hget hneed HGET HH5 hm HV hlt
        have HOX : Hid (∀ i, i < O.length → ∃ x, O[i]? = some x ∧ O.take (i + 1) = O.take i ++ [x]) := Lib.hid (fun i h => ⟨_, List.getElem?_eq_getElem h, List.take_succ_eq_append_getElem h⟩)
        have HOALL : Hid (O.take O.length = O) := Lib.hid (List.take_of_length_le (Nat.le_refl _))
        have HEX : Hid (∀ i, i < es.length → ∃ x, es[i]? = some x ∧ es.take (i + 1) = es.take i ++ [x]) := Lib.hid (fun i h => ⟨_, List.getElem?_eq_getElem h, List.take_succ_eq_append_getElem h⟩)
        have HOM : Hid (∀ i x, O[i]? = some x → x ∈ O) := Lib.hid (fun i x h => List.mem_of_getElem? h)
        have HEM : Hid (∀ i x, es[i]? = some x → x ∈ es) := Lib.hid (fun i x h => List.mem_of_getElem? h)
        have HALL : Hid (es.take es.length = es) := Lib.hid (List.take_of_length_le (Nat.le_refl _))
        generalize hON : O.length = N at *
        have HON := Lib.hid hON
        clear hON
        generalize hEN : es.length = M at *
        have HEN := Lib.hid hEN
        clear hEN
        unfold maxLen at hco
        generalize wr = W0 at *
        go_wp2
        go_loopw [20] (fun iv W => ∃ i : Nat, i ≤ N ∧ iv = .int .i64 (i : Int) ∧ Below W0.heap.size W0 W) (fun iv _ => N - (intOf iv).toNat)
        case atStart => exact ⟨0, Nat.zero_le _, rfl, Below.refl _ _⟩
        case round =>
          generalize wr = W1 at *
          obtain ⟨i, hi, rfl, hb1⟩ := hrel
          have HB1 := Lib.hid hb1
          clear hb1
          by_cases hlt : i < N
          · obtain ⟨x, hx, -⟩ := HOX.out i hlt
            have HX := Lib.hid hx
            clear hx
            go_wp2
            go_loopw [21, 22] (fun bv kv W => ∃ (j : Nat) (bb : Bool), j ≤ M ∧ kv = .int .i64 (j : Int) ∧ bv = .bool bb ∧ (bb = true ↔ x ∈ es.take j) ∧ Below W0.heap.size W0 W) (fun _ kv _ => M - (intOf kv).toNat)
            case atStart => exact ⟨0, false, Nat.zero_le _, rfl, rfl, by simp, HB1.out⟩
            case round =>
              generalize wr = W2 at *
              obtain ⟨j, bb, hj, rfl, rfl, hbb, hb2⟩ := hrel
              have HB2 := Lib.hid hb2
              have HBB := Lib.hid hbb
              clear hb2 hbb
              by_cases hjt : j < M
              · obtain ⟨y, hy, hys⟩ := HEX.out j hjt
                have HY := Lib.hid hy
                have HYS := Lib.hid hys
                clear hy hys
                obtain ⟨g, rfl, e0, e1, e2, e3⟩ := HOC.out W2 HB2.out i x HX.out
                obtain ⟨be, oe, rfl, f0, f1, f2, f3⟩ := HEC.out W2 HB2.out j y HY.out
                have HNY : Hid (∀ W', Below W2.heap.size W2 W' → (W'.cell? ⟨g, i * 4, none⟩ = some (.int .u32 (x.t.toNat : Int)) ∧ W'.cell? ⟨g, i * 4 + 1, none⟩ = some (.int .u32 (x.h.toNat : Int)) ∧ W'.cell? ⟨g, i * 4 + 2, none⟩ = some (.int .u64 (x.x.toNat : Int)) ∧ W'.cell? ⟨g, i * 4 + 3, none⟩ = some (.int .u32 (x.m.toNat : Int))) ∧
                    (W'.cell? ⟨be, oe + j * 4, none⟩ = some (.int .u32 (y.t.toNat : Int)) ∧ W'.cell? ⟨be, oe + j * 4 + 1, none⟩ = some (.int .u32 (y.h.toNat : Int)) ∧ W'.cell? ⟨be, oe + j * 4 + 2, none⟩ = some (.int .u64 (y.x.toNat : Int)) ∧ W'.cell? ⟨be, oe + j * 4 + 3, none⟩ = some (.int .u32 (y.m.toNat : Int)))) := Lib.hid (fun W' hB => ⟨⟨cellBelow hB e0, cellBelow hB e1, cellBelow hB e2, cellBelow hB e3⟩, cellBelow hB f0, cellBelow hB f1, cellBelow hB f2, cellBelow hB f3⟩)
                clear e0 e1 e2 e3 f0 f1 f2 f3
                by_cases hxy : y = x
                · have HQQ : Hid (x ∈ es.take (j + 1)) := Lib.hid (by rw [HYS.out, hxy]; simp)
                  subst hxy
                  obtain ⟨⟨e0, e1, e2, e3⟩, f0, f1, f2, f3⟩ := HNY.out W2 (Below.refl _ _)
                  go_wp2_with fail
                  go_quiet (fail)
                  have hb3 : Below W2.heap.size W2 (W2.drewN nq) := below_drewN (Below.refl _ _) _
                  clear e0 e1 e2 e3 f0 f1 f2 f3
                  generalize W2.drewN nq = W3 at *
                  obtain ⟨⟨e0, e1, e2, e3⟩, f0, f1, f2, f3⟩ := HNY.out W3 hb3
                  have HB3 := Lib.hid hb3
                  have HB3' := Lib.hid (HB2.out.trans (hb3.mono HB2.out.size))
                  clear hb3
                  go_wp2_with fail
                  go_quiet (fail)
                  have hb4 : Below W3.heap.size W3 (W3.drewN nq) := below_drewN (Below.refl _ _) _
                  have HB4 := Lib.hid (HB3'.out.trans (hb4.mono HB3'.out.size))
                  clear hb4 e0 e1 e2 e3 f0 f1 f2 f3
                  generalize W3.drewN nq = W4 at *
                  go_wp2
                  go_roundw
                  case rel => exact ⟨j + 1, true, by omega, by go_num, rfl, ⟨fun _ => HQQ.out, fun _ => rfl⟩, HB4.out⟩
                  case measure => simp [intOf]; omega
                · have HNE : Hid ((y.t.toNat : Int) = (x.t.toNat : Int) → (y.h.toNat : Int) = (x.h.toNat : Int) → (y.x.toNat : Int) = (x.x.toNat : Int) → ¬ (y.m.toNat : Int) = (x.m.toNat : Int)) := Lib.hid (fun a1 a2 a3 a4 => hxy (Edg.ext' (UInt32.toNat_inj.1 (by omega)) (UInt32.toNat_inj.1 (by omega)) (UInt64.toNat_inj.1 (by omega)) (UInt32.toNat_inj.1 (by omega))))
                  have HBB' : Hid (bb = true ↔ x ∈ es.take (j + 1)) := Lib.hid (by
                    rw [HBB.out, HYS.out, List.mem_append, List.mem_singleton]
                    exact ⟨.inl, fun h => h.resolve_right (fun e => hxy e.symm)⟩)
                  clear hxy
                  have hcase : (¬ y.t = x.t) ∨ (y.t = x.t ∧ ¬ y.h = x.h) ∨ (y.t = x.t ∧ y.h = x.h ∧ x.x.toNat ≤ y.x.toNat) := by
                    by_cases h1 : y.t = x.t
                    · by_cases h2 : y.h = x.h
                      · refine .inr (.inr ⟨h1, h2, ?_⟩)
                        have h3 := (HBEST.out.mem x (HOM.out i x HX.out)).2.2 y (HEM.out j y HY.out) ⟨h1, h2⟩
                        have h4 := y.m.toNat_lt
                        have h5 := x.m.toNat_lt
                        unfold rk at h3
                        omega
                      · exact .inr (.inl ⟨h1, h2⟩)
                    · exact .inl h1
                  go_wp2_with fail
                  refine wp_region_quiet_in (Below W2.heap.size W2) (by kernel_rfl) (by kernel_rfl) ((Below.refl _ _).drew) ?_
                  iterate 3 (refine q_op rfl (fun w' hw' => (by go_simp <;> rfl)) (fun K hK => ?_); go_simp; refine hK _ ?_; clear hK K)
                  refine q_op rfl (fun w' hw' => (by obtain ⟨-, f0, f1, f2, f3⟩ := HNY.out w' hw'; go_simp <;> rfl)) (fun K hK => ?_); go_simp; refine hK _ ?_; clear hK K
                  iterate 3 (refine q_op rfl (fun w' hw' => (by go_simp <;> rfl)) (fun K hK => ?_); go_simp; refine hK _ ?_; clear hK K)
                  refine q_op rfl (fun w' hw' => (by obtain ⟨⟨e0, e1, e2, e3⟩, -⟩ := HNY.out w' hw'; go_simp <;> rfl)) (fun K hK => ?_); go_simp; refine hK _ ?_; clear hK K
                  refine q_op (v := .bool false) rfl (fun w' hw' => (by go_simp <;> exact HNE.out)) (fun K hK => ?_); go_simp; refine hK _ ?_; clear hK K
                  refine wpQuiet_nil ?_
                  intro W3 hb3
                  obtain ⟨⟨e0, e1, e2, e3⟩, f0, f1, f2, f3⟩ := HNY.out W3 hb3
                  have HB3 := Lib.hid hb3
                  have HB3' := Lib.hid (HB2.out.trans (hb3.mono HB2.out.size))
                  clear hb3
                  go_wp2_with fail
                  have HEND : Hid (∀ q, Below W0.heap.size W0 (W3.drewN q)) := Lib.hid (fun q => HB3'.out.trans ((below_drewN (Below.refl _ _) q : Below W3.heap.size W3 (W3.drewN q)).mono HB3'.out.size))
                  rcases hcase with h1 | ⟨h1, h2⟩ | ⟨h1, h2, h3⟩
                  · obtain ⟨a1, a2, a3, a4, a5⟩ := u32_ne h1
                    clear h1
                    go_quiet (fail)
                    have HB4 := Lib.hid (HEND.out nq)
                    clear e0 e1 e2 e3 f0 f1 f2 f3 a1 a2 a3 a4 a5
                    generalize W3.drewN nq = W4 at *
                    go_wp2
                    go_roundw
                    case rel => exact ⟨j + 1, bb, by omega, by go_num, rfl, HBB'.out, HB4.out⟩
                    case measure => simp [intOf]; omega
                  · obtain ⟨a1, a2, a3, a4, a5⟩ := u32_ne h2
                    rw [h1] at f0
                    clear h1 h2
                    go_quiet (fail)
                    have HB4 := Lib.hid (HEND.out nq)
                    clear e0 e1 e2 e3 f0 f1 f2 f3 a1 a2 a3 a4 a5
                    generalize W3.drewN nq = W4 at *
                    go_wp2
                    go_roundw
                    case rel => exact ⟨j + 1, bb, by omega, by go_num, rfl, HBB'.out, HB4.out⟩
                    case measure => simp [intOf]; omega
                  · have a1 : ¬ ((y.x.toNat : Int) < (x.x.toNat : Int)) := by omega
                    have a2 : decide ((y.x.toNat : Int) < (x.x.toNat : Int)) = false := decide_eq_false a1
                    have a3 : decide (y.x.toNat < x.x.toNat) = false := decide_eq_false (by omega)
                    rw [h1] at f0
                    rw [h2] at f1
                    clear h1 h2 h3
                    go_quiet (fail)
                    have HB4 := Lib.hid (HEND.out nq)
                    clear e0 e1 e2 e3 f0 f1 f2 f3 a1 a2 a3
                    generalize W3.drewN nq = W4 at *
                    go_wp2
                    go_roundw
                    case rel => exact ⟨j + 1, bb, by omega, by go_num, rfl, HBB'.out, HB4.out⟩
                    case measure => simp [intOf]; omega
              · obtain rfl : M = j := by omega
                obtain rfl : bb = true := HBB.out.2 (by rw [HALL.out]; exact (HBEST.out.mem x (HOM.out i x HX.out)).1)
                go_wp2
                go_roundw
                case rel => exact ⟨i + 1, by omega, by go_num, HB2.out⟩
                case measure => simp [intOf]; omega
          · obtain rfl : N = i := by omega
            clear hlt
            go_wp2
            go_loopw [23] (fun iv W => ∃ j : Nat, j ≤ M ∧ iv = .int .i64 (j : Int) ∧ Below W0.heap.size W0 W) (fun iv _ => M - (intOf iv).toNat)
            case atStart => exact ⟨0, Nat.zero_le _, rfl, HB1.out⟩
            case round =>
              generalize wr = W2 at *
              obtain ⟨j, hj, rfl, hb2⟩ := hrel
              have HB2 := Lib.hid hb2
              clear hb2
              by_cases hjt : j < M
              · obtain ⟨y, hy, -⟩ := HEX.out j hjt
                have HY := Lib.hid hy
                clear hy
                obtain ⟨be, oe, rfl, f0, f1, f2, f3⟩ := HEC.out W2 HB2.out j y HY.out
                obtain ⟨lb, hlb⟩ : ∃ lb : Bool, (lb = true ↔ y.t = y.h) := by
                  by_cases h : y.t = y.h
                  · exact ⟨true, by simp [h]⟩
                  · exact ⟨false, by simp [h]⟩
                have HLB := Lib.hid hlb
                have HEQ : Hid (((y.t.toNat : Int) == (y.h.toNat : Int)) = lb ∧ decide (y.t.toNat = y.h.toNat) = lb ∧ decide ((y.t.toNat : Int) = (y.h.toNat : Int)) = lb ∧ (y.t.toNat == y.h.toNat) = lb) := Lib.hid (by
                  cases lb with
                  | true =>
                    have h := hlb.1 rfl
                    rw [h]
                    simp
                  | false =>
                    have h : ¬ y.t = y.h := fun e => by have := hlb.2 e; cases this
                    obtain ⟨a1, a2, a3, a4, a5⟩ := u32_ne h
                    exact ⟨a2, a4, a5, by rw [beq_eq_false_iff_ne]; exact a3⟩)
                clear hlb
                go_wp2_with fail
                have HFF : Hid (∀ W', Below W2.heap.size W2 W' → W'.cell? ⟨be, oe + j * 4, none⟩ = some (.int .u32 (y.t.toNat : Int)) ∧ W'.cell? ⟨be, oe + j * 4 + 1, none⟩ = some (.int .u32 (y.h.toNat : Int))) := Lib.hid (fun W' hB => ⟨cellBelow hB f0, cellBelow hB f1⟩)
                clear f0 f1 f2 f3
                refine wp_region_quiet_in (Below W2.heap.size W2) (by kernel_rfl) (by kernel_rfl) ((Below.refl _ _).drew) ?_
                iterate 4 (refine q_op rfl (fun w' hw' => (by go_simp <;> rfl)) (fun K hK => ?_); go_simp; refine hK _ ?_; clear hK K)
                refine q_op rfl (fun w' hw' => (by obtain ⟨f0, f1⟩ := HFF.out w' hw'; go_simp <;> rfl)) (fun K hK => ?_); go_simp; refine hK _ ?_; clear hK K
                iterate 4 (refine q_op rfl (fun w' hw' => (by go_simp <;> rfl)) (fun K hK => ?_); go_simp; refine hK _ ?_; clear hK K)
                refine q_op rfl (fun w' hw' => (by obtain ⟨f0, f1⟩ := HFF.out w' hw'; go_simp <;> rfl)) (fun K hK => ?_); go_simp; refine hK _ ?_; clear hK K
                refine q_op (v := .bool lb) rfl (fun w' hw' => (by go_simp <;> (obtain ⟨a1, a2, a3, a4⟩ := HEQ.out; first | exact a1 | exact a2 | exact a3 | exact a4))) (fun K hK => ?_); go_simp; refine hK _ ?_; clear hK K
                refine q_op rfl (fun w' hw' => (by go_simp <;> rfl)) (fun K hK => ?_); go_simp; refine hK _ ?_; clear hK K
                refine wpQuiet_nil ?_
                intro W3 hb3
                have HB3 := Lib.hid hb3
                have HB3' := Lib.hid (HB2.out.trans (hb3.mono HB2.out.size))
                clear hb3
                go_wp2
                go_loopw [24, 25] (fun bv iv W => ∃ (i : Nat) (bb : Bool), i ≤ N ∧ iv = .int .i64 (i : Int) ∧ bv = .bool bb ∧ (bb = true ↔ (y.t = y.h ∨ ∃ z ∈ O.take i, same z y)) ∧ Below W0.heap.size W0 W) (fun _ iv _ => N - (intOf iv).toNat)
                case atStart => exact ⟨0, lb, Nat.zero_le _, rfl, rfl, by rw [HLB.out]; simp, HB3'.out⟩
                case round =>
                  generalize wr = W5 at *
                  obtain ⟨i, bb, hi, rfl, rfl, hbb, hb5⟩ := hrel
                  have HB5 := Lib.hid hb5
                  have HBB := Lib.hid hbb
                  clear hb5 hbb
                  have HEND : Hid (∀ q, Below W0.heap.size W0 (W5.drewN q)) := Lib.hid (fun q => HB5.out.trans ((below_drewN (Below.refl _ _) q : Below W5.heap.size W5 (W5.drewN q)).mono HB5.out.size))
                  by_cases hit : i < N
                  · obtain ⟨x, hx, hxs⟩ := HOX.out i hit
                    have HX := Lib.hid hx
                    have HXS := Lib.hid hxs
                    clear hx hxs
                    have HMEM : Hid ((∃ z ∈ O.take (i + 1), same z y) ↔ ((∃ z ∈ O.take i, same z y) ∨ same x y)) := Lib.hid (by
                      rw [HXS.out]
                      constructor
                      · rintro ⟨z, hz, hs⟩
                        rcases List.mem_append.1 hz with hz | hz
                        · exact .inl ⟨z, hz, hs⟩
                        · rw [List.mem_singleton.1 hz] at hs
                          exact .inr hs
                      · rintro (⟨z, hz, hs⟩ | hs)
                        · exact ⟨z, List.mem_append_left _ hz, hs⟩
                        · exact ⟨x, by simp, hs⟩)
                    cases bb with
                    | true =>
                      have HBB' : Hid (y.t = y.h ∨ ∃ z ∈ O.take (i + 1), same z y) := Lib.hid (by
                        rw [HMEM.out]
                        exact (HBB.out.1 rfl).imp id .inl)
                      go_wp2_with fail
                      go_quiet (fail)
                      have HB6 := Lib.hid (HEND.out nq)
                      generalize W5.drewN nq = W6 at *
                      go_wp2
                      go_roundw
                      case rel => exact ⟨i + 1, true, by omega, by go_num, rfl, ⟨fun _ => HBB'.out, fun _ => rfl⟩, HB6.out⟩
                      case measure => simp [intOf]; omega
                    | false =>
                      obtain ⟨g, rfl, e0, e1, -, -⟩ := HOC.out W5 HB5.out i x HX.out
                      obtain ⟨be', oe', hbe, f0, f1, -, -⟩ := HEC.out W5 HB5.out j y HY.out
                      cases hbe
                      by_cases h1 : x.t = y.t
                      · by_cases h2 : x.h = y.h
                        · have HBB' : Hid (y.t = y.h ∨ ∃ z ∈ O.take (i + 1), same z y) := Lib.hid (by
                            rw [HMEM.out]
                            exact .inr (.inr ⟨h1, h2⟩))
                          rw [h1] at e0
                          rw [h2] at e1
                          clear h1 h2
                          go_wp2_with fail
                          go_quiet (fail)
                          have HB6 := Lib.hid (HEND.out nq)
                          clear e0 e1 f0 f1
                          generalize W5.drewN nq = W6 at *
                          go_wp2
                          go_roundw
                          case rel => exact ⟨i + 1, true, by omega, by go_num, rfl, ⟨fun _ => HBB'.out, fun _ => rfl⟩, HB6.out⟩
                          case measure => simp [intOf]; omega
                        · have HBB' : Hid (false = true ↔ (y.t = y.h ∨ ∃ z ∈ O.take (i + 1), same z y)) := Lib.hid (by
                            rw [HMEM.out, HBB.out]
                            exact ⟨fun h => h.imp id .inl, fun h => h.imp id (fun h => h.resolve_right (fun e => h2 e.2))⟩)
                          obtain ⟨a1, a2, a3, a4, a5⟩ := u32_ne h2
                          rw [h1] at e0
                          clear h1 h2
                          go_wp2_with fail
                          go_quiet (fail)
                          have HB6 := Lib.hid (HEND.out nq)
                          clear e0 e1 f0 f1 a1 a2 a3 a4 a5
                          generalize W5.drewN nq = W6 at *
                          go_wp2
                          go_roundw
                          case rel => exact ⟨i + 1, false, by omega, by go_num, rfl, HBB'.out, HB6.out⟩
                          case measure => simp [intOf]; omega
                      · have HBB' : Hid (false = true ↔ (y.t = y.h ∨ ∃ z ∈ O.take (i + 1), same z y)) := Lib.hid (by
                          rw [HMEM.out, HBB.out]
                          exact ⟨fun h => h.imp id .inl, fun h => h.imp id (fun h => h.resolve_right (fun e => h1 e.1))⟩)
                        obtain ⟨a1, a2, a3, a4, a5⟩ := u32_ne h1
                        clear h1
                        go_wp2_with fail
                        go_quiet (fail)
                        have HB6 := Lib.hid (HEND.out nq)
                        clear e0 e1 f0 f1 a1 a2 a3 a4 a5
                        generalize W5.drewN nq = W6 at *
                        go_wp2
                        go_roundw
                        case rel => exact ⟨i + 1, false, by omega, by go_num, rfl, HBB'.out, HB6.out⟩
                        case measure => simp [intOf]; omega
                  · obtain rfl : N = i := by omega
                    obtain rfl : bb = true := HBB.out.2 (by
                      by_cases h : y.t = y.h
                      · exact .inl h
                      · obtain ⟨e, he, hs⟩ := HBEST.out.all y (HEM.out j y HY.out) h
                        exact .inr ⟨e, by rw [HOALL.out]; exact he, hs⟩)
                    go_wp2
                    go_roundw
                    case rel => exact ⟨j + 1, by omega, by go_num, HB5.out⟩
                    case measure => simp [intOf]; omega
              · obtain rfl : M = j := by omega
                go_wp2_with fail
                refine (hworks.out _).mono ?_
                rintro e w10 ⟨rfl, h10⟩
                have HBF := Lib.hid (HBW.out.trans (HB2.out.mono HBW.out.size))
                have HBG := Lib.hid (HBF.out.trans (h10.mono HBF.out.size))
                clear h10
                go_wp2
                go_ret
                exact ⟨rfl, HBG.out⟩
  · have hl' : ((es.length : Int) > 600) := by omega
    go_enter Tryz.func5, Tryz.ntmps5
    go_wp2_with fail
    refine (hworks.out _).mono ?_
    rintro e w10 ⟨rfl, h10⟩
    go_wp2
    go_ret
    exact ⟨rfl, h10⟩
set_option maxRecDepth 100000 in
set_option maxHeartbeats 8000000 in
theorem extsortOrder_true (HW : WriteSaid) {m : Nat} (HJS : JobSortSaid m) (hm : 600 ≤ m) (k : Nat) (hk : k < 256) (v : Value) (es : List Edg) (b : Bool) (hbk : b = true) (w : World) (hv : RdE w v es) :
    Calls Tryz.prog 5 #[.int .u8 (k : Int), v, .bool b] w fun e w' => e = .returned (.bool true) ∧ Below w.heap.size w w' := by
  have HV := Lib.hid hv
  have hworks := Lib.hid (works12_any HW HJS (Nat.le_trans (by decide) hm))
  obtain ⟨a, cap, rfl, -⟩ := hv
  by_cases hl : es.length ≤ 600
  · have hl' : ¬ ((es.length : Int) > 600) := by omega
    have hfr := Lib.hid (frames8_any k hk)
    obtain ⟨n, hn⟩ : ∃ n : Nat, n = 8 + k % 56 := ⟨_, rfl⟩
    rw [← hn] at hfr
    have hn8 : 8 ≤ n := by omega
    have hn4 : n ≤ 4096 := by omega
    have hbeg := Lib.hid (begun_any HW 65536 (by decide) n (by omega) hn4 _ es w HV.out (by omega))
    clear hn
    obtain ⟨O, hO⟩ : ∃ O, O = bestOf b es := ⟨_, rfl⟩
    have HBEST : Hid (Best b es O) := Lib.hid (by rw [hO]; exact best_bestOf _ _)
    have hOl : O.length ≤ es.length := by rw [hO]; exact bestOf_length _ _
    have hsort : Hid (∀ W pb db o d, Kept 65536 w W pb db n o d [(nmIn, edgeFile es true)] → Calls Tryz.prog 28 #[ptrTo pb, .string nmIn, .string nmOut, .int .i64 (byNum b : Int)] W (KeptSort 65536 w pb db n [(nmOut, edgeFile O true), (nmIn, edgeFile es true)])) := Lib.hid (fun W pb db o d h => by
      rw [hO]
      exact kept_sort HW HJS h hn8 b (by decide) (by decide) (by decide) (by decide) (by omega) (by omega))
    have hneed : Hid (need [(nmOut, edgeFile O true), (nmIn, edgeFile es true)] ≤ 65536) := Lib.hid (by
      rw [need_cons, need_cons]
      have h1 := edgeFile_need es true
      have h2 := edgeFile_need O true
      show (edgeFile O true).need + ((edgeFile es true).need + 0) ≤ _
      omega)
    have HGET : Hid (mget [(nmOut, edgeFile O true), (nmIn, edgeFile es true)] nmOut = some (edgeFile O true)) := Lib.hid rfl
    clear hO
    generalize [(nmOut, edgeFile O true), (nmIn, edgeFile es true)] = L at *
    unfold nmIn nmOut ptrTo at *
    obtain ⟨b0, hb0⟩ : ∃ b0, b0 = b := ⟨_, rfl⟩
    rw [← hb0] at HBEST
    have HB0 := Lib.hid hb0
    clear hb0
    subst hbk
    go_enter Tryz.func5, Tryz.ntmps5
    go_wp2_with fail
    refine (hfr.out _).mono ?_
    rintro e w' ⟨rfl, rfl⟩
    go_wp2_with fail
    refine hbeg.out.mono ?_
    rintro e w1 ⟨db, pb, o1, d1, rfl, hh1⟩
    have hs := Lib.hid (hsort.out w1 pb db o1 d1 hh1)
    clear hh1 hfr hbeg hsort
    unfold ptrTo at *
    go_wp2_with fail
    refine hs.out.mono ?_
    rintro e w2 ⟨d2, o2, rfl, hh2⟩
    have HH2 := Lib.hid hh2
    have hop := Lib.hid (kept_open hh2 HGET.out)
    clear hh2 hs
    unfold ptrTo at hop
    go_wp2_with fail
    refine hop.out.mono ?_
    rintro e w3 ⟨sb, rfl, hh3, hst3, hos3⟩
    have hln := Lib.hid (kept_len HW hh3 hneed.out hst3 hos3 HGET.out)
    clear hh3 hst3 hos3 hop HH2
    unfold ptrTo at *
    go_wp2_with fail
    refine hln.out.mono ?_
    rintro e w4 ⟨d4, o4, rfl, hh4, hst4, hos4⟩
    have HH4 := Lib.hid hh4
    have HST4 := Lib.hid hst4
    have HOS4 := Lib.hid hos4
    clear hh4 hst4 hos4 hln
    have hget : Hid (∀ W o' d' (i : Nat) (x : Edg), Kept 65536 w W pb db n o' d' L → StreamAt W sb pb nmOut 20 → o' sb = none → O[i]? = some x → Calls Tryz.prog 31 #[ptrTo sb, .int .i64 (i : Int)] W (KeptGet 65536 w W pb db n sb nmOut o' d' L x)) := Lib.hid (fun W o' d' i x hh hst ho hx => kept_get HW hh hneed.out hst ho HGET.out hx)
    unfold nmOut ptrTo at *
    go_wp2
    go_loopw [13, 14] (fun v i wr => ∃ (j : Nat) (d' : Dsk) (o' : Owner), j ≤ O.length ∧ i = .int .i64 (j : Int) ∧ ownsEdges wr w.heap.size v (O.take j) ∧ (∀ x, v.ownBlock = some x → o' x = none ∧ x ≠ sb) ∧ Kept 65536 w wr pb db n o' d' L ∧ StreamAt wr sb pb ⟨#[111, 117, 116]⟩ 20 ∧ o' sb = none) (fun _ i _ => O.length - (intOf i).toNat)
    case atStart => exact ⟨0, d4, o4, Nat.zero_le _, rfl, World.ownsRow_nil _ _ _ _, (fun x hx => by cases hx), HH4.out, HST4.out, HOS4.out⟩
    case round =>
      generalize u13 = v at *
      obtain ⟨j, d5, o5, hj, rfl, hv5, hvf5, hh5, hst5, hos5⟩ := hrel
      have HV5 := Lib.hid hv5
      have HVF5 := Lib.hid hvf5
      have HH5 := Lib.hid hh5
      have HST5 := Lib.hid hst5
      have HOS5 := Lib.hid hos5
      clear hv5 hvf5 hh5 hst5 hos5 HH4 HST4 HOS4
      by_cases hlt : j < O.length
      · obtain ⟨x, hx⟩ : ∃ x, O[j]? = some x := ⟨_, List.getElem?_eq_getElem hlt⟩
        have HX := Lib.hid hx
        clear hx
        have hg := Lib.hid (hget.out wr o5 d5 j x HH5.out HST5.out HOS5.out HX.out)
        have hxm : x ∈ O := List.mem_of_getElem? HX.out
        obtain ⟨x1, x2, x3, x4, x5⟩ := u32_ne (HBEST.out.mem x hxm).2.1
        have hlenv : Hid ((O.take j).length = j) := Lib.hid (by rw [List.length_take]; omega)
        generalize hON : O.length = N at *
        have HON := Lib.hid hON
        clear hON
        go_wp2_with fail
        refine hg.out.mono ?_
        rintro e w6 ⟨v6, d6, o6, rfl, hh6, hr6, hst6, hos6, hm6⟩
        have hrd := Lib.hid (readEdg_any v6 x w6 hr6)
        have HH6 := Lib.hid hh6
        have HST6 := Lib.hid hst6
        have HOS6 := Lib.hid hos6
        have HV6 : Hid (ownsEdges w6 w.heap.size v (O.take j)) := Lib.hid (hm6.ownsRow HV5.out (fun y hy => ⟨(HVF5.out y hy).1, fun h => h⟩))
        have HVF6 : Hid (∀ y, v.ownBlock = some y → o6 y = none ∧ y ≠ sb) := Lib.hid (fun y hy => ⟨hm6.free (ownBlock_old HV5.out y hy).1 (HVF5.out y hy).1, (HVF5.out y hy).2⟩)
        clear hh6 hr6 hst6 hos6 hm6 hg HH5 HST5 HOS5 HV5 HVF5
        go_wp2_with fail
        refine hrd.out.mono ?_
        rintro e w7 ⟨rfl, hb7⟩
        have HB7 := Lib.hid hb7
        clear hb7
        have HH7 := Lib.hid (HH6.out.later HB7.out)
        have HV7 : Hid (ownsEdges w7 w.heap.size v (O.take j)) := Lib.hid (ownsRow_below HV6.out HB7.out)
        have HST7 := Lib.hid (HST6.out.below HB7.out)
        have hbw : w.heap.size ≤ w7.heap.size := HH7.out.below.size
        have HAPP : Hid (∀ W v' w', Below w7.heap.size w7 W → Appd v (W.alloc (.cells #[.int .u32 (x.t.toNat : Int), .int .u32 (x.h.toNat : Int), .int .u64 (x.x.toNat : Int), .int .u32 (x.m.toNat : Int)] 47)) w' v' → ownsEdges w' w.heap.size v' (O.take j ++ [x]) →
            ownsEdges w' w.heap.size v' (O.take (j + 1)) ∧ (∀ y, v'.ownBlock = some y → o6 y = none ∧ y ≠ sb) ∧ Kept 65536 w w' pb db n o6 d6 L ∧ StreamAt w' sb pb ⟨#[111, 117, 116]⟩ 20) := Lib.hid (fun W v' w' hB ha hv' => by
          have hK := HH7.out.later hB
          obtain ⟨a1, a2, a3, a4⟩ := hK.appd ha (fun y hy => ⟨(HVF6.out y hy).1, (ownBlock_old HV7.out y hy).2⟩)
          have hst := HST7.out.below hB
          refine ⟨?_, fun y hy => ⟨(a2 y hy).1, fun e => ?_⟩, a1, hst.kept (a3 sb hst.lt (fun e => (HVF6.out sb e).2 rfl))⟩
          · have hjl : j < O.length := lt_of_get HX.out
            rw [List.take_succ_eq_append_getElem hjl]
            have : O[j]? = some O[j] := List.getElem?_eq_getElem hjl
            rw [HX.out] at this
            rw [← Option.some.inj this]
            exact hv'
          · rcases (a2 y hy).2.2 with h | h
            · exact (HVF6.out y h).2 e
            · have := hst.lt
              omega)
        clear hrd HH6 HST6 HV6 HB7
        go_upto_region 25 with (fail)
        have HB8 : Hid (Below w7.heap.size w7 (w7.alloc (.cells #[.int .u32 (x.t.toNat : Int), .int .u32 (x.h.toNat : Int), .int .u64 (x.x.toNat : Int), .int .u32 (x.m.toNat : Int)] 47))) := Lib.hid ((Below.refl _ _).alloc (Nat.le_refl _) _)
        have HQ8 : Hid ((w7.alloc (.cells #[.int .u32 (x.t.toNat : Int), .int .u32 (x.h.toNat : Int), .int .u64 (x.x.toNat : Int), .int .u32 (x.m.toNat : Int)] 47)).heap[w7.heap.size]? = some (.cells #[.int .u32 (x.t.toNat : Int), .int .u32 (x.h.toNat : Int), .int .u64 (x.x.toNat : Int), .int .u32 (x.m.toNat : Int)] 47)) := Lib.hid (heap_alloc_new w7 _)
        have hs8 : w7.heap.size < (w7.alloc (.cells #[.int .u32 (x.t.toNat : Int), .int .u32 (x.h.toNat : Int), .int .u64 (x.x.toNat : Int), .int .u32 (x.m.toNat : Int)] 47)).heap.size := by simp
        generalize w7.alloc (.cells #[.int .u32 (x.t.toNat : Int), .int .u32 (x.h.toNat : Int), .int .u64 (x.x.toNat : Int), .int .u32 (x.m.toNat : Int)] 47) = W8 at *
        have HV8 : Hid (ownsEdges W8 w.heap.size v (O.take j)) := Lib.hid (ownsRow_below HV7.out HB8.out)
        have c0 : W8.cell? ⟨w7.heap.size, 0, none⟩ = some (.int .u32 (x.t.toNat : Int)) := by rw [cells_cell HQ8.out]; rfl
        have c1 : W8.cell? ⟨w7.heap.size, 1, none⟩ = some (.int .u32 (x.h.toNat : Int)) := by rw [cells_cell HQ8.out]; rfl
        have c2 : W8.cell? ⟨w7.heap.size, 2, none⟩ = some (.int .u64 (x.x.toNat : Int)) := by rw [cells_cell HQ8.out]; rfl
        have c3 : W8.cell? ⟨w7.heap.size, 3, none⟩ = some (.int .u32 (x.m.toNat : Int)) := by rw [cells_cell HQ8.out]; rfl
        generalize w7.heap.size = q7 at *
        have hs8' : w.heap.size ≤ W8.heap.size := by omega
        have hlv : (O.take j).length ≤ 100000 := by rw [hlenv.out]; omega
        by_cases hj0 : j = 0
        · subst hj0
          go_wp2_with (at_builtin; refine wpList_append_edge rfl _ _ rfl w.heap.size _ _ rfl HV8.out x 1 rfl hlv hs8' ?_)
          intro v9 w9 hv9 ha9
          obtain ⟨g1, g2, g3, g4⟩ := HAPP.out _ v9 w9 HB8.out ha9 hv9
          clear ha9 hv9
          have G1 := Lib.hid g1
          have G2 := Lib.hid g2
          have G3 := Lib.hid g3
          have G4 := Lib.hid g4
          clear g1 g2 g3 g4
          go_wp2
          go_roundw
          case rel => exact ⟨1, d6, o6, by omega, by go_num, G1.out, G2.out, G3.out, G4.out, HOS6.out⟩
          case measure => simp [intOf]; omega
        · obtain ⟨q, hq⟩ : ∃ q : Nat, (q : Int) = (j : Int) - 1 := ⟨j - 1, by omega⟩
          have hw : IntKind.i64.wrap ((j : Int) - 1) = (q : Int) := by rw [wrap_in (by omega) (by omega), hq]
          have hqO : q < O.length := by rw [HON.out]; omega
          obtain ⟨p, hp⟩ : ∃ p, O[q]? = some p := ⟨_, List.getElem?_eq_getElem hqO⟩
          have hpq : (O.take j)[q]? = some p := by rw [List.getElem?_take, if_pos (by omega), hp]
          have hqj : q < j := by omega
          have HPQ := Lib.hid hpq
          have HQ := Lib.hid hq
          have HRISE : Hid (pk b0 p < pk b0 x) := Lib.hid (by
            have hjO : j < O.length := lt_of_get HX.out
            have h1 := List.pairwise_iff_getElem.1 HBEST.out.rise q j hqO hjO hqj
            rw [List.getElem?_eq_getElem hqO] at hp
            have hx := HX.out
            rw [List.getElem?_eq_getElem hjO] at hx
            rw [Option.some.inj hp, Option.some.inj hx] at h1
            exact h1)
          obtain ⟨g0, gcap, rfl⟩ : ∃ g cap, v = .slice (some ⟨g, 0, none⟩) (O.take j).length cap := by
            rcases ownsEdges_shape HV8.out with ⟨h1, h2⟩ | ⟨g, cap, h1, hg, hc1, hc2⟩
            · have h3 := hlenv.out
              rw [h1] at h3
              exact absurd h3.symm hj0
            · exact ⟨g, cap, h1⟩
          obtain ⟨e0, e1, e2, e3⟩ := ownsEdges_cells HV8.out HPQ.out
          rw [hlenv.out] at *
          have HLV : Hid ((O.take j).length ≤ 100000) := Lib.hid (Nat.le_trans (List.length_take_le _ _) (by omega))
          clear hq hpq hp
          obtain ⟨A, B, hA, hB, hAB⟩ : ∃ A B : Nat, A = end1 b0 p * 4294967296 + end2 b0 p ∧ B = end1 b0 x * 4294967296 + end2 b0 x ∧ A < B := ⟨_, _, rfl, rfl, by rw [← (pk_ends b0 p).1, ← (pk_ends b0 x).1]; exact HRISE.out⟩
          have hor5 := or_ends b0 p
          have hor6 := or_ends b0 x
          rw [← hA] at hor5
          rw [← hB] at hor6
          rw [HB0.out] at hor5 hor6
          simp only [end1, end2, if_true] at hor5 hor6
          clear hA hB
          have hAB1 : ¬ ((A : Int) ≥ (B : Int)) := by omega
          go_wp2_with fail
          go_quiet (fail)
          have HB9a : Hid (Below W8.heap.size W8 (W8.drewN nq)) := Lib.hid (below_drewN (Below.refl _ _) _)
          have HB8a := Lib.hid (HB8.out.trans (HB9a.out.mono (Nat.le_of_lt hs8)))
          have HV8a : Hid (ownsEdges (W8.drewN nq) w.heap.size (.slice (some ⟨g0, 0, none⟩) j gcap) (O.take j)) := Lib.hid (ownsRow_below HV8.out HB9a.out)
          have d0 := cellBelow HB9a.out c0
          have d1' := cellBelow HB9a.out c1
          have d2' := cellBelow HB9a.out c2
          have d3 := cellBelow HB9a.out c3
          have f0 := cellBelow HB9a.out e0
          have f1 := cellBelow HB9a.out e1
          have f2 := cellBelow HB9a.out e2
          have f3 := cellBelow HB9a.out e3
          have hs8a : q7 < (W8.drewN nq).heap.size := Nat.lt_of_lt_of_le hs8 HB9a.out.size
          have hs8b : w.heap.size ≤ (W8.drewN nq).heap.size := Nat.le_trans hs8' HB9a.out.size
          generalize W8.drewN nq = W8a at *
          clear e0 e1 e2 e3 c0 c1 c2 c3 HB8 HV8 hs8 hs8' HB9a HQ8
          clear W8
          obtain ⟨W8, rfl⟩ : ∃ W8, W8 = W8a := ⟨_, rfl⟩
          have HB8 := HB8a
          have HV8 := HV8a
          have c0 := d0
          have c1 := d1'
          have c2 := d2'
          have c3 := d3
          have e0 := f0
          have e1 := f1
          have e2 := f2
          have e3 := f3
          have hs8 := hs8a
          have hs8' := hs8b
          clear HB8a HV8a d0 d1' d2' d3 f0 f1 f2 f3 hs8a hs8b
          go_wp2_with fail
          go_quiet (fail)
          have HB9 : Hid (Below W8.heap.size W8 (W8.drewN nq)) := Lib.hid (below_drewN (Below.refl _ _) _)
          have HB9' := Lib.hid (HB8.out.trans (HB9.out.mono (Nat.le_of_lt hs8)))
          have HV9 : Hid (ownsEdges (W8.drewN nq) w.heap.size (.slice (some ⟨g0, 0, none⟩) j gcap) (O.take j)) := Lib.hid (ownsRow_below HV8.out HB9.out)
          have c0' := cellBelow HB9.out c0
          have c1' := cellBelow HB9.out c1
          have c2' := cellBelow HB9.out c2
          have c3' := cellBelow HB9.out c3
          have hs9 : w.heap.size ≤ (W8.drewN nq).heap.size := Nat.le_trans hs8' HB9.out.size
          generalize W8.drewN nq = W9 at *
          clear e0 e1 e2 e3 c0 c1 c2 c3
          go_wp2_with (at_builtin; refine wpList_append_edge rfl _ _ rfl w.heap.size _ _ rfl HV9.out x 1 rfl HLV.out hs9 ?_)
          intro v9 w9 hv9 ha9
          obtain ⟨g1, g2, g3, g4⟩ := HAPP.out _ v9 w9 HB9'.out ha9 hv9
          clear ha9 hv9
          have G1 := Lib.hid g1
          have G2 := Lib.hid g2
          have G3 := Lib.hid g3
          have G4 := Lib.hid g4
          clear g1 g2 g3 g4
          go_wp2
          go_roundw
          case rel => exact ⟨j + 1, d6, o6, by omega, by go_num, G1.out, G2.out, G3.out, G4.out, HOS6.out⟩
          case measure => simp [intOf]; omega
      · obtain rfl : O.length = j := by omega
        have hvO := HV5.out
        rw [List.take_of_length_le (Nat.le_refl _)] at hvO
        obtain ⟨ao, co, hve⟩ : ∃ ao co, v = .slice ao O.length co := ownsRow_slice hvO
        subst hve
        have HOC : Hid (∀ W, Below wr.heap.size wr W → ∀ (i : Nat) (x : Edg), O[i]? = some x → ∃ g, ao = some ⟨g, 0, none⟩ ∧ W.cell? ⟨g, i * 4, none⟩ = some (.int .u32 (x.t.toNat : Int)) ∧ W.cell? ⟨g, i * 4 + 1, none⟩ = some (.int .u32 (x.h.toNat : Int)) ∧ W.cell? ⟨g, i * 4 + 2, none⟩ = some (.int .u64 (x.x.toNat : Int)) ∧ W.cell? ⟨g, i * 4 + 3, none⟩ = some (.int .u32 (x.m.toNat : Int))) := Lib.hid (fun W hB i x hx => by
          rcases ownsEdges_shape hvO with ⟨h1, h2⟩ | ⟨g, cap, h1, hg, hc1, hc2⟩
          · rw [h1] at hx; cases hx
          · cases h1
            obtain ⟨e0, e1, e2, e3⟩ := ownsEdges_cells hvO hx
            exact ⟨g, rfl, cellBelow hB e0, cellBelow hB e1, cellBelow hB e2, cellBelow hB e3⟩)
        have HEC : Hid (∀ W, Below wr.heap.size wr W → ∀ (i : Nat) (x : Edg), es[i]? = some x → ∃ b off, a = some ⟨b, off, none⟩ ∧ W.cell? ⟨b, off + i * 4, none⟩ = some (.int .u32 (x.t.toNat : Int)) ∧ W.cell? ⟨b, off + i * 4 + 1, none⟩ = some (.int .u32 (x.h.toNat : Int)) ∧ W.cell? ⟨b, off + i * 4 + 2, none⟩ = some (.int .u64 (x.x.toNat : Int)) ∧ W.cell? ⟨b, off + i * 4 + 3, none⟩ = some (.int .u32 (x.m.toNat : Int))) := Lib.hid (fun W hB i x hx => by
          obtain ⟨a', cap', hve, hce⟩ := HV.out.below (HH5.out.below.trans (hB.mono HH5.out.below.size))
          cases hve
          rcases hce with h0 | ⟨b, off, h1, hc⟩
          · have := lt_of_get hx
            omega
          · exact ⟨b, off, h1, hc i x hx⟩)
        have HBW := Lib.hid HH5.out.below
        have hco : O.length ≤ maxLen := by unfold maxLen; omega
        clear hvO HV5 HVF5 HST5 HOS5 hget hneed HGET HH5 hm HV hlt
        have HOX : Hid (∀ i, i < O.length → ∃ x, O[i]? = some x ∧ O.take (i + 1) = O.take i ++ [x]) := Lib.hid (fun i h => ⟨_, List.getElem?_eq_getElem h, List.take_succ_eq_append_getElem h⟩)
        have HOALL : Hid (O.take O.length = O) := Lib.hid (List.take_of_length_le (Nat.le_refl _))
        have HEX : Hid (∀ i, i < es.length → ∃ x, es[i]? = some x ∧ es.take (i + 1) = es.take i ++ [x]) := Lib.hid (fun i h => ⟨_, List.getElem?_eq_getElem h, List.take_succ_eq_append_getElem h⟩)
        have HOM : Hid (∀ i x, O[i]? = some x → x ∈ O) := Lib.hid (fun i x h => List.mem_of_getElem? h)
        have HEM : Hid (∀ i x, es[i]? = some x → x ∈ es) := Lib.hid (fun i x h => List.mem_of_getElem? h)
        have HALL : Hid (es.take es.length = es) := Lib.hid (List.take_of_length_le (Nat.le_refl _))
        generalize hON : O.length = N at *
        have HON := Lib.hid hON
        clear hON
        generalize hEN : es.length = M at *
        have HEN := Lib.hid hEN
        clear hEN
        unfold maxLen at hco
        generalize wr = W0 at *
        go_wp2
        go_loopw [20] (fun iv W => ∃ i : Nat, i ≤ N ∧ iv = .int .i64 (i : Int) ∧ Below W0.heap.size W0 W) (fun iv _ => N - (intOf iv).toNat)
        case atStart => exact ⟨0, Nat.zero_le _, rfl, Below.refl _ _⟩
        case round =>
          generalize wr = W1 at *
          obtain ⟨i, hi, rfl, hb1⟩ := hrel
          have HB1 := Lib.hid hb1
          clear hb1
          by_cases hlt : i < N
          · obtain ⟨x, hx, -⟩ := HOX.out i hlt
            have HX := Lib.hid hx
            clear hx
            go_wp2
            go_loopw [21, 22] (fun bv kv W => ∃ (j : Nat) (bb : Bool), j ≤ M ∧ kv = .int .i64 (j : Int) ∧ bv = .bool bb ∧ (bb = true ↔ x ∈ es.take j) ∧ Below W0.heap.size W0 W) (fun _ kv _ => M - (intOf kv).toNat)
            case atStart => exact ⟨0, false, Nat.zero_le _, rfl, rfl, by simp, HB1.out⟩
            case round =>
              generalize wr = W2 at *
              obtain ⟨j, bb, hj, rfl, rfl, hbb, hb2⟩ := hrel
              have HB2 := Lib.hid hb2
              have HBB := Lib.hid hbb
              clear hb2 hbb
              by_cases hjt : j < M
              · obtain ⟨y, hy, hys⟩ := HEX.out j hjt
                have HY := Lib.hid hy
                have HYS := Lib.hid hys
                clear hy hys
                obtain ⟨g, rfl, e0, e1, e2, e3⟩ := HOC.out W2 HB2.out i x HX.out
                obtain ⟨be, oe, rfl, f0, f1, f2, f3⟩ := HEC.out W2 HB2.out j y HY.out
                have HNY : Hid (∀ W', Below W2.heap.size W2 W' → (W'.cell? ⟨g, i * 4, none⟩ = some (.int .u32 (x.t.toNat : Int)) ∧ W'.cell? ⟨g, i * 4 + 1, none⟩ = some (.int .u32 (x.h.toNat : Int)) ∧ W'.cell? ⟨g, i * 4 + 2, none⟩ = some (.int .u64 (x.x.toNat : Int)) ∧ W'.cell? ⟨g, i * 4 + 3, none⟩ = some (.int .u32 (x.m.toNat : Int))) ∧
                    (W'.cell? ⟨be, oe + j * 4, none⟩ = some (.int .u32 (y.t.toNat : Int)) ∧ W'.cell? ⟨be, oe + j * 4 + 1, none⟩ = some (.int .u32 (y.h.toNat : Int)) ∧ W'.cell? ⟨be, oe + j * 4 + 2, none⟩ = some (.int .u64 (y.x.toNat : Int)) ∧ W'.cell? ⟨be, oe + j * 4 + 3, none⟩ = some (.int .u32 (y.m.toNat : Int)))) := Lib.hid (fun W' hB => ⟨⟨cellBelow hB e0, cellBelow hB e1, cellBelow hB e2, cellBelow hB e3⟩, cellBelow hB f0, cellBelow hB f1, cellBelow hB f2, cellBelow hB f3⟩)
                clear e0 e1 e2 e3 f0 f1 f2 f3
                by_cases hxy : y = x
                · have HQQ : Hid (x ∈ es.take (j + 1)) := Lib.hid (by rw [HYS.out, hxy]; simp)
                  subst hxy
                  obtain ⟨⟨e0, e1, e2, e3⟩, f0, f1, f2, f3⟩ := HNY.out W2 (Below.refl _ _)
                  go_wp2_with fail
                  go_quiet (fail)
                  have hb3 : Below W2.heap.size W2 (W2.drewN nq) := below_drewN (Below.refl _ _) _
                  clear e0 e1 e2 e3 f0 f1 f2 f3
                  generalize W2.drewN nq = W3 at *
                  obtain ⟨⟨e0, e1, e2, e3⟩, f0, f1, f2, f3⟩ := HNY.out W3 hb3
                  have HB3 := Lib.hid hb3
                  have HB3' := Lib.hid (HB2.out.trans (hb3.mono HB2.out.size))
                  clear hb3
                  go_wp2_with fail
                  go_quiet (fail)
                  have hb4 : Below W3.heap.size W3 (W3.drewN nq) := below_drewN (Below.refl _ _) _
                  have HB4 := Lib.hid (HB3'.out.trans (hb4.mono HB3'.out.size))
                  clear hb4 e0 e1 e2 e3 f0 f1 f2 f3
                  generalize W3.drewN nq = W4 at *
                  go_wp2
                  go_roundw
                  case rel => exact ⟨j + 1, true, by omega, by go_num, rfl, ⟨fun _ => HQQ.out, fun _ => rfl⟩, HB4.out⟩
                  case measure => simp [intOf]; omega
                · have HNE : Hid ((y.t.toNat : Int) = (x.t.toNat : Int) → (y.h.toNat : Int) = (x.h.toNat : Int) → (y.x.toNat : Int) = (x.x.toNat : Int) → ¬ (y.m.toNat : Int) = (x.m.toNat : Int)) := Lib.hid (fun a1 a2 a3 a4 => hxy (Edg.ext' (UInt32.toNat_inj.1 (by omega)) (UInt32.toNat_inj.1 (by omega)) (UInt64.toNat_inj.1 (by omega)) (UInt32.toNat_inj.1 (by omega))))
                  have HBB' : Hid (bb = true ↔ x ∈ es.take (j + 1)) := Lib.hid (by
                    rw [HBB.out, HYS.out, List.mem_append, List.mem_singleton]
                    exact ⟨.inl, fun h => h.resolve_right (fun e => hxy e.symm)⟩)
                  clear hxy
                  have hcase : (¬ y.t = x.t) ∨ (y.t = x.t ∧ ¬ y.h = x.h) ∨ (y.t = x.t ∧ y.h = x.h ∧ x.x.toNat ≤ y.x.toNat) := by
                    by_cases h1 : y.t = x.t
                    · by_cases h2 : y.h = x.h
                      · refine .inr (.inr ⟨h1, h2, ?_⟩)
                        have h3 := (HBEST.out.mem x (HOM.out i x HX.out)).2.2 y (HEM.out j y HY.out) ⟨h1, h2⟩
                        have h4 := y.m.toNat_lt
                        have h5 := x.m.toNat_lt
                        unfold rk at h3
                        omega
                      · exact .inr (.inl ⟨h1, h2⟩)
                    · exact .inl h1
                  go_wp2_with fail
                  refine wp_region_quiet_in (Below W2.heap.size W2) (by kernel_rfl) (by kernel_rfl) ((Below.refl _ _).drew) ?_
                  iterate 3 (refine q_op rfl (fun w' hw' => (by go_simp <;> rfl)) (fun K hK => ?_); go_simp; refine hK _ ?_; clear hK K)
                  refine q_op rfl (fun w' hw' => (by obtain ⟨-, f0, f1, f2, f3⟩ := HNY.out w' hw'; go_simp <;> rfl)) (fun K hK => ?_); go_simp; refine hK _ ?_; clear hK K
                  iterate 3 (refine q_op rfl (fun w' hw' => (by go_simp <;> rfl)) (fun K hK => ?_); go_simp; refine hK _ ?_; clear hK K)
                  refine q_op rfl (fun w' hw' => (by obtain ⟨⟨e0, e1, e2, e3⟩, -⟩ := HNY.out w' hw'; go_simp <;> rfl)) (fun K hK => ?_); go_simp; refine hK _ ?_; clear hK K
                  refine q_op (v := .bool false) rfl (fun w' hw' => (by go_simp <;> exact HNE.out)) (fun K hK => ?_); go_simp; refine hK _ ?_; clear hK K
                  refine wpQuiet_nil ?_
                  intro W3 hb3
                  obtain ⟨⟨e0, e1, e2, e3⟩, f0, f1, f2, f3⟩ := HNY.out W3 hb3
                  have HB3 := Lib.hid hb3
                  have HB3' := Lib.hid (HB2.out.trans (hb3.mono HB2.out.size))
                  clear hb3
                  go_wp2_with fail
                  have HEND : Hid (∀ q, Below W0.heap.size W0 (W3.drewN q)) := Lib.hid (fun q => HB3'.out.trans ((below_drewN (Below.refl _ _) q : Below W3.heap.size W3 (W3.drewN q)).mono HB3'.out.size))
                  rcases hcase with h1 | ⟨h1, h2⟩ | ⟨h1, h2, h3⟩
                  · obtain ⟨a1, a2, a3, a4, a5⟩ := u32_ne h1
                    clear h1
                    go_quiet (fail)
                    have HB4 := Lib.hid (HEND.out nq)
                    clear e0 e1 e2 e3 f0 f1 f2 f3 a1 a2 a3 a4 a5
                    generalize W3.drewN nq = W4 at *
                    go_wp2
                    go_roundw
                    case rel => exact ⟨j + 1, bb, by omega, by go_num, rfl, HBB'.out, HB4.out⟩
                    case measure => simp [intOf]; omega
                  · obtain ⟨a1, a2, a3, a4, a5⟩ := u32_ne h2
                    rw [h1] at f0
                    clear h1 h2
                    go_quiet (fail)
                    have HB4 := Lib.hid (HEND.out nq)
                    clear e0 e1 e2 e3 f0 f1 f2 f3 a1 a2 a3 a4 a5
                    generalize W3.drewN nq = W4 at *
                    go_wp2
                    go_roundw
                    case rel => exact ⟨j + 1, bb, by omega, by go_num, rfl, HBB'.out, HB4.out⟩
                    case measure => simp [intOf]; omega
                  · have a1 : ¬ ((y.x.toNat : Int) < (x.x.toNat : Int)) := by omega
                    have a2 : decide ((y.x.toNat : Int) < (x.x.toNat : Int)) = false := decide_eq_false a1
                    have a3 : decide (y.x.toNat < x.x.toNat) = false := decide_eq_false (by omega)
                    rw [h1] at f0
                    rw [h2] at f1
                    clear h1 h2 h3
                    go_quiet (fail)
                    have HB4 := Lib.hid (HEND.out nq)
                    clear e0 e1 e2 e3 f0 f1 f2 f3 a1 a2 a3
                    generalize W3.drewN nq = W4 at *
                    go_wp2
                    go_roundw
                    case rel => exact ⟨j + 1, bb, by omega, by go_num, rfl, HBB'.out, HB4.out⟩
                    case measure => simp [intOf]; omega
              · obtain rfl : M = j := by omega
                obtain rfl : bb = true := HBB.out.2 (by rw [HALL.out]; exact (HBEST.out.mem x (HOM.out i x HX.out)).1)
                go_wp2
                go_roundw
                case rel => exact ⟨i + 1, by omega, by go_num, HB2.out⟩
                case measure => simp [intOf]; omega
          · obtain rfl : N = i := by omega
            clear hlt
            go_wp2
            go_loopw [23] (fun iv W => ∃ j : Nat, j ≤ M ∧ iv = .int .i64 (j : Int) ∧ Below W0.heap.size W0 W) (fun iv _ => M - (intOf iv).toNat)
            case atStart => exact ⟨0, Nat.zero_le _, rfl, HB1.out⟩
            case round =>
              generalize wr = W2 at *
              obtain ⟨j, hj, rfl, hb2⟩ := hrel
              have HB2 := Lib.hid hb2
              clear hb2
              by_cases hjt : j < M
              · obtain ⟨y, hy, -⟩ := HEX.out j hjt
                have HY := Lib.hid hy
                clear hy
                obtain ⟨be, oe, rfl, f0, f1, f2, f3⟩ := HEC.out W2 HB2.out j y HY.out
                obtain ⟨lb, hlb⟩ : ∃ lb : Bool, (lb = true ↔ y.t = y.h) := by
                  by_cases h : y.t = y.h
                  · exact ⟨true, by simp [h]⟩
                  · exact ⟨false, by simp [h]⟩
                have HLB := Lib.hid hlb
                have HEQ : Hid (((y.t.toNat : Int) == (y.h.toNat : Int)) = lb ∧ decide (y.t.toNat = y.h.toNat) = lb ∧ decide ((y.t.toNat : Int) = (y.h.toNat : Int)) = lb ∧ (y.t.toNat == y.h.toNat) = lb) := Lib.hid (by
                  cases lb with
                  | true =>
                    have h := hlb.1 rfl
                    rw [h]
                    simp
                  | false =>
                    have h : ¬ y.t = y.h := fun e => by have := hlb.2 e; cases this
                    obtain ⟨a1, a2, a3, a4, a5⟩ := u32_ne h
                    exact ⟨a2, a4, a5, by rw [beq_eq_false_iff_ne]; exact a3⟩)
                clear hlb
                go_wp2_with fail
                have HFF : Hid (∀ W', Below W2.heap.size W2 W' → W'.cell? ⟨be, oe + j * 4, none⟩ = some (.int .u32 (y.t.toNat : Int)) ∧ W'.cell? ⟨be, oe + j * 4 + 1, none⟩ = some (.int .u32 (y.h.toNat : Int))) := Lib.hid (fun W' hB => ⟨cellBelow hB f0, cellBelow hB f1⟩)
                clear f0 f1 f2 f3
                refine wp_region_quiet_in (Below W2.heap.size W2) (by kernel_rfl) (by kernel_rfl) ((Below.refl _ _).drew) ?_
                iterate 4 (refine q_op rfl (fun w' hw' => (by go_simp <;> rfl)) (fun K hK => ?_); go_simp; refine hK _ ?_; clear hK K)
                refine q_op rfl (fun w' hw' => (by obtain ⟨f0, f1⟩ := HFF.out w' hw'; go_simp <;> rfl)) (fun K hK => ?_); go_simp; refine hK _ ?_; clear hK K
                iterate 4 (refine q_op rfl (fun w' hw' => (by go_simp <;> rfl)) (fun K hK => ?_); go_simp; refine hK _ ?_; clear hK K)
                refine q_op rfl (fun w' hw' => (by obtain ⟨f0, f1⟩ := HFF.out w' hw'; go_simp <;> rfl)) (fun K hK => ?_); go_simp; refine hK _ ?_; clear hK K
                refine q_op (v := .bool lb) rfl (fun w' hw' => (by go_simp <;> (obtain ⟨a1, a2, a3, a4⟩ := HEQ.out; first | exact a1 | exact a2 | exact a3 | exact a4))) (fun K hK => ?_); go_simp; refine hK _ ?_; clear hK K
                refine q_op rfl (fun w' hw' => (by go_simp <;> rfl)) (fun K hK => ?_); go_simp; refine hK _ ?_; clear hK K
                refine wpQuiet_nil ?_
                intro W3 hb3
                have HB3 := Lib.hid hb3
                have HB3' := Lib.hid (HB2.out.trans (hb3.mono HB2.out.size))
                clear hb3
                go_wp2
                go_loopw [24, 25] (fun bv iv W => ∃ (i : Nat) (bb : Bool), i ≤ N ∧ iv = .int .i64 (i : Int) ∧ bv = .bool bb ∧ (bb = true ↔ (y.t = y.h ∨ ∃ z ∈ O.take i, same z y)) ∧ Below W0.heap.size W0 W) (fun _ iv _ => N - (intOf iv).toNat)
                case atStart => exact ⟨0, lb, Nat.zero_le _, rfl, rfl, by rw [HLB.out]; simp, HB3'.out⟩
                case round =>
                  generalize wr = W5 at *
                  obtain ⟨i, bb, hi, rfl, rfl, hbb, hb5⟩ := hrel
                  have HB5 := Lib.hid hb5
                  have HBB := Lib.hid hbb
                  clear hb5 hbb
                  have HEND : Hid (∀ q, Below W0.heap.size W0 (W5.drewN q)) := Lib.hid (fun q => HB5.out.trans ((below_drewN (Below.refl _ _) q : Below W5.heap.size W5 (W5.drewN q)).mono HB5.out.size))
                  by_cases hit : i < N
                  · obtain ⟨x, hx, hxs⟩ := HOX.out i hit
                    have HX := Lib.hid hx
                    have HXS := Lib.hid hxs
                    clear hx hxs
                    have HMEM : Hid ((∃ z ∈ O.take (i + 1), same z y) ↔ ((∃ z ∈ O.take i, same z y) ∨ same x y)) := Lib.hid (by
                      rw [HXS.out]
                      constructor
                      · rintro ⟨z, hz, hs⟩
                        rcases List.mem_append.1 hz with hz | hz
                        · exact .inl ⟨z, hz, hs⟩
                        · rw [List.mem_singleton.1 hz] at hs
                          exact .inr hs
                      · rintro (⟨z, hz, hs⟩ | hs)
                        · exact ⟨z, List.mem_append_left _ hz, hs⟩
                        · exact ⟨x, by simp, hs⟩)
                    cases bb with
                    | true =>
                      have HBB' : Hid (y.t = y.h ∨ ∃ z ∈ O.take (i + 1), same z y) := Lib.hid (by
                        rw [HMEM.out]
                        exact (HBB.out.1 rfl).imp id .inl)
                      go_wp2_with fail
                      go_quiet (fail)
                      have HB6 := Lib.hid (HEND.out nq)
                      generalize W5.drewN nq = W6 at *
                      go_wp2
                      go_roundw
                      case rel => exact ⟨i + 1, true, by omega, by go_num, rfl, ⟨fun _ => HBB'.out, fun _ => rfl⟩, HB6.out⟩
                      case measure => simp [intOf]; omega
                    | false =>
                      obtain ⟨g, rfl, e0, e1, -, -⟩ := HOC.out W5 HB5.out i x HX.out
                      obtain ⟨be', oe', hbe, f0, f1, -, -⟩ := HEC.out W5 HB5.out j y HY.out
                      cases hbe
                      by_cases h1 : x.t = y.t
                      · by_cases h2 : x.h = y.h
                        · have HBB' : Hid (y.t = y.h ∨ ∃ z ∈ O.take (i + 1), same z y) := Lib.hid (by
                            rw [HMEM.out]
                            exact .inr (.inr ⟨h1, h2⟩))
                          rw [h1] at e0
                          rw [h2] at e1
                          clear h1 h2
                          go_wp2_with fail
                          go_quiet (fail)
                          have HB6 := Lib.hid (HEND.out nq)
                          clear e0 e1 f0 f1
                          generalize W5.drewN nq = W6 at *
                          go_wp2
                          go_roundw
                          case rel => exact ⟨i + 1, true, by omega, by go_num, rfl, ⟨fun _ => HBB'.out, fun _ => rfl⟩, HB6.out⟩
                          case measure => simp [intOf]; omega
                        · have HBB' : Hid (false = true ↔ (y.t = y.h ∨ ∃ z ∈ O.take (i + 1), same z y)) := Lib.hid (by
                            rw [HMEM.out, HBB.out]
                            exact ⟨fun h => h.imp id .inl, fun h => h.imp id (fun h => h.resolve_right (fun e => h2 e.2))⟩)
                          obtain ⟨a1, a2, a3, a4, a5⟩ := u32_ne h2
                          rw [h1] at e0
                          clear h1 h2
                          go_wp2_with fail
                          go_quiet (fail)
                          have HB6 := Lib.hid (HEND.out nq)
                          clear e0 e1 f0 f1 a1 a2 a3 a4 a5
                          generalize W5.drewN nq = W6 at *
                          go_wp2
                          go_roundw
                          case rel => exact ⟨i + 1, false, by omega, by go_num, rfl, HBB'.out, HB6.out⟩
                          case measure => simp [intOf]; omega
                      · have HBB' : Hid (false = true ↔ (y.t = y.h ∨ ∃ z ∈ O.take (i + 1), same z y)) := Lib.hid (by
                          rw [HMEM.out, HBB.out]
                          exact ⟨fun h => h.imp id .inl, fun h => h.imp id (fun h => h.resolve_right (fun e => h1 e.1))⟩)
                        obtain ⟨a1, a2, a3, a4, a5⟩ := u32_ne h1
                        clear h1
                        go_wp2_with fail
                        go_quiet (fail)
                        have HB6 := Lib.hid (HEND.out nq)
                        clear e0 e1 f0 f1 a1 a2 a3 a4 a5
                        generalize W5.drewN nq = W6 at *
                        go_wp2
                        go_roundw
                        case rel => exact ⟨i + 1, false, by omega, by go_num, rfl, HBB'.out, HB6.out⟩
                        case measure => simp [intOf]; omega
                  · obtain rfl : N = i := by omega
                    obtain rfl : bb = true := HBB.out.2 (by
                      by_cases h : y.t = y.h
                      · exact .inl h
                      · obtain ⟨e, he, hs⟩ := HBEST.out.all y (HEM.out j y HY.out) h
                        exact .inr ⟨e, by rw [HOALL.out]; exact he, hs⟩)
                    go_wp2
                    go_roundw
                    case rel => exact ⟨j + 1, by omega, by go_num, HB5.out⟩
                    case measure => simp [intOf]; omega
              · obtain rfl : M = j := by omega
                go_wp2_with fail
                refine (hworks.out _).mono ?_
                rintro e w10 ⟨rfl, h10⟩
                have HBF := Lib.hid (HBW.out.trans (HB2.out.mono HBW.out.size))
                have HBG := Lib.hid (HBF.out.trans (h10.mono HBF.out.size))
                clear h10
                go_wp2
                go_ret
                exact ⟨rfl, HBG.out⟩
  · have hl' : ((es.length : Int) > 600) := by omega
    go_enter Tryz.func5, Tryz.ntmps5
    go_wp2_with fail
    refine (hworks.out _).mono ?_
    rintro e w10 ⟨rfl, h10⟩
    go_wp2
    go_ret
    exact ⟨rfl, h10⟩
theorem extsortOrder_any (HW : WriteSaid) {m : Nat} (HJS : JobSortSaid m) (hm : 600 ≤ m) (k : Nat) (hk : k < 256) (v : Value) (es : List Edg) (b : Bool) (w : World) (hv : RdE w v es) :
    Calls Tryz.prog 5 #[.int .u8 (k : Int), v, .bool b] w fun e w' => e = .returned (.bool true) ∧ Below w.heap.size w w' := by
  cases b
  · exact extsortOrder_false HW HJS hm k hk v es _ rfl w hv
  · exact extsortOrder_true HW HJS hm k hk v es _ rfl w hv
end Go.Proofs.YtolieljpnafbhaaGreatDoor
