/-
  Joined, in build order, what is needed of: Ext8, Store6, RowT, RefA, LawM, Quota, Law13, ShelfSort, DNames, Law12, Law12b, CardE, Law12e, Law12f.
-/
import Derived.Test.YtolieljpnafbhaaGreatDoorX14
import Derived.Below
import Derived.Deep.RegionWith
import Derived.Laws.IdiomStrings
import Derived.Shelf.Sort.Plain
import Derived.Shelf.Slices.In.SortNone
import Derived.Ground.NamesProg
import Derived.Test.YtolieljpnafbhaaGreatDoorProg
import Derived.Laws.BytesArg
namespace Go.Proofs.YtolieljpnafbhaaGreatDoor
open Go.RowKit Go.Maps Go.MapKept
def dotT : ByteArray := ⟨#[116, 46]⟩
def ownName (x : Name) : Bool := Lib.hasPrefix x.data.toList dotT.data.toList
theorem ownName_t (k : Nat) : ownName (tName k) = true := by
  unfold ownName tName dotT Lib.hasPrefix
  simp
section
variable {w w' : World} {pb db n cb kb sb jb byb made : Nat} {by' : Bool} {name : Name} {o o' : Owner} {d d' : Dsk} {L L' : Logic}
theorem hasPre_any (s : ByteArray) (w : World) : Calls Tryz.prog 70 #[.string s, .string ⟨#[116, 46]⟩] w fun e w' => e = .returned (.bool (ownName s)) ∧ w = w' :=
  (Any.strings_HasPrefix (P := Tryz.prog) (ρ := Tryz.hasPre_ren) { Tryz.hasPre with } s ⟨#[116, 46]⟩ w).mono fun _ _ ⟨h1, h2⟩ => ⟨h1, h2.symm⟩
theorem source_ne_stream {i N : Nat} {x : Edg} {sz : Nat} (h : SourceAt w cb sb i N x) (hs : StreamAt w sb pb name sz) : sb ≠ cb := by
  rintro rfl
  obtain ⟨t, h1⟩ := h
  obtain ⟨t', h2⟩ := hs
  rw [h1] at h2
  have := Option.some.inj h2
  injection this with a b
  have := congrArg Array.size a
  simp at this
theorem jobAt_new (w : World) (pb : Nat) (x : Int) (b : Bool) (hx : x = (byNum b : Int)) : JobAt ((w.alloc (.cells #[.int .i64 x] 3)).alloc (.cells #[.pointer (some ⟨pb, 0, none⟩), .func (.func 71) #[] #[.pointer (some ⟨w.heap.size, 0, none⟩)], .int .i64 0] 124)) (w.heap.size + 1) pb w.heap.size 0 b := by
  subst hx
  refine ⟨⟨124, ?_⟩, ⟨3, ?_⟩⟩
  · have := heap_alloc_new (w.alloc (.cells #[.int .i64 (byNum b : Int)] 3)) (.cells #[.pointer (some ⟨pb, 0, none⟩), .func (.func 71) #[] #[.pointer (some ⟨w.heap.size, 0, none⟩)], .int .i64 0] 124)
    rw [show (w.alloc (.cells #[.int .i64 (byNum b : Int)] 3)).heap.size = w.heap.size + 1 by simp] at this
    exact this
  · rw [(MapKept.heap_alloc _ _).2 _ (by simp)]
    exact heap_alloc_new w _
set_option maxRecDepth 100000 in
set_option maxHeartbeats 8000000 in
theorem sort_done (HW : WriteSaid) {m : Nat} (HJS : JobSortSaid m) (h : PoolAt w pb db n o d L) (hn : 8 ≤ n) {es : List Edg} {fl : Bool} {inn out : Name} (hL : mget L inn = some (edgeFile es fl)) (hio : inn ≠ out) (hi : ownName inn = false) (ho : ownName out = false)
    (hout : okName out = true) (hno : mget L out = none) (hnt : ∀ k, mget L (tName k) = none) (hm : es.length ≤ m) :
    Calls Tryz.prog 28 #[ptrTo pb, .string inn, .string out, .int .i64 (byNum by' : Int)] w (SortsPost (fun _ => False) n pb db w o d L out (bestOf by' es) es.length) := by
  have hto : ∀ k, out ≠ tName k := fun k e => by rw [e, ownName_t] at ho; cases ho
  have hp1 := Lib.hid (hasPre_any inn)
  have hp2 := Lib.hid (hasPre_any out)
  simp only [hi] at hp1
  simp only [ho] at hp2
  have hframes := Lib.hid (fun W (hW : Below w.heap.size w W) => poolFrames_any (h.below hW))
  have hopen : Hid (∀ W, Below w.heap.size w W → ∀ jb byb, JobAt W jb pb byb 0 by' → Calls Tryz.prog 72 #[ptrTo jb, .string inn] W (OpenSrcPost n pb db W o d L inn es.length)) := Lib.hid (fun W hW jb byb hj => jobOpen_any HW (h.below hW) hj hL)
  have hcr : Hid (∀ W o' d', PoolAt W pb db n o' d' L → Calls Tryz.prog 59 #[ptrTo pb, .string out] W (CreatePost n pb db W o' d' L out)) := Lib.hid (fun W o' d' hW => create_pool hW out (okName_1000 hout))
  have hcode : Hid (∀ d' : Dsk, createCode d' L out = if d'.tick.dead = true then 6 else 0) := Lib.hid (fun d' => by
    unfold createCode
    rw [hout, hno]
    rfl)
  have hdrop : Hid (∀ W o' d', PoolAt W pb db n o' d' (mput L out (.inl (([] : List Pg), true))) → Calls Tryz.prog 73 #[ptrTo pb, .string out] W (DropPost W pb db n o' d' (mput L out (.inl (([] : List Pg), true))) out)) := Lib.hid (fun W o' d' hW => drop_any hW (ps := []) (fl := true) (by rw [mget_mput, if_pos rfl]))
  have hdel : Hid (mdel (mput L out (.inl (([] : List Pg), true))) out = L) := Lib.hid (by rw [mdel_mput, mdel_fresh hno])
  have hsort : Hid (∀ W o' d' cb sb jb byb, PoolAt W pb db n o' d' L → JobAt W jb pb byb 0 by' → o' jb = none → o' byb = none → byb ≠ jb → SourceAt W cb sb 0 es.length edg0 → StreamAt W sb pb inn 20 → o' cb = none → o' sb = none → cb ≠ jb → cb ≠ byb → sb ≠ jb → sb ≠ cb →
      Calls Tryz.prog 74 #[ptrTo jb, ptrTo cb, .string out] W (SortsPost (fun x => x = cb ∨ x = jb) n pb db W o' d' L out (bestOf by' es) es.length)) := Lib.hid (fun W o' d' cb sb jb byb a1 a2 a3 a4 a5 a6 a7 a8 a9 b1 b2 b3 b4 => HJS a1 hn a2 a3 a4 a5 hL a6 a7 a8 a9 b1 b2 b3 b4 hout hno hnt hto hm)
  have hne : (inn.toList == out.toList) = false := bytes_ne hio
  have hn2 : n ≤ 4096 := by
    obtain ⟨fb, mb, l, hand, mf, hp, rfl, -⟩ := h
    exact hp.most
  have H := Lib.hid h
  have hn8 : ¬ (n : Int) < 8 := by omega
  clear h hn hL hio hi ho hout hno hnt hm hto
  have hby : ((byNum by' : Int) = 0 ∨ (byNum by' : Int) = 1) := by cases by' <;> simp [byNum]
  have HBW : Hid (∀ v, Below w.heap.size w (w.alloc (.cells #[v] 3))) := Lib.hid (fun v => (Below.refl _ _).alloc (Nat.le_refl _) _)
  have HBC : Hid (∀ v, (w.alloc (.cells #[v] 3)).heap[w.heap.size]? = some (.cells #[v] 3)) := Lib.hid (fun v => heap_alloc_new w _)
  obtain ⟨bn, hbn⟩ : ∃ bn : Int, bn = (byNum by' : Int) := ⟨_, rfl⟩
  rw [← hbn] at hby ⊢
  have HBN := Lib.hid hbn
  clear hbn
  unfold ptrTo at *
  generalize es.length = N at *
  rcases hby with rfl | rfl
  all_goals
    go_enter Tryz.func28, Tryz.ntmps28
    go_wp2_with fail
    refine (hp1.out _).mono ?_
    rintro e w' ⟨rfl, rfl⟩
    go_wp2_with fail
    refine (hp2.out _).mono ?_
    rintro e w' ⟨rfl, rfl⟩
    go_wp2_with fail
    refine (hframes.out _ (HBW.out _)).mono ?_
    rintro e w' ⟨rfl, rfl⟩
    go_wp2_with fail
  all_goals
    first
      | (have HJ1 : Hid (JobAt ((w.alloc (.cells #[.int .i64 0] 3)).alloc (.cells #[.pointer (some ⟨pb, 0, none⟩), .func (.func 71) #[] #[.pointer (some ⟨w.heap.size, 0, none⟩)], .int .i64 0] 124)) (w.heap.size + 1) pb w.heap.size 0 by') := Lib.hid (jobAt_new w pb 0 by' HBN.out)
         have HW1 : Hid (Below w.heap.size w ((w.alloc (.cells #[.int .i64 0] 3)).alloc (.cells #[.pointer (some ⟨pb, 0, none⟩), .func (.func 71) #[] #[.pointer (some ⟨w.heap.size, 0, none⟩)], .int .i64 0] 124))) := Lib.hid ((HBW.out _).alloc (by simp) _)
         have hsz : w.heap.size + 2 = ((w.alloc (.cells #[.int .i64 0] 3)).alloc (.cells #[.pointer (some ⟨pb, 0, none⟩), .func (.func 71) #[] #[.pointer (some ⟨w.heap.size, 0, none⟩)], .int .i64 0] 124)).heap.size := by simp
         have HSZ := Lib.hid hsz
         clear hsz
         generalize (w.alloc (.cells #[.int .i64 0] 3)).alloc (.cells #[.pointer (some ⟨pb, 0, none⟩), .func (.func 71) #[] #[.pointer (some ⟨w.heap.size, 0, none⟩)], .int .i64 0] 124) = W1 at *)
      | (have HJ1 : Hid (JobAt ((w.alloc (.cells #[.int .i64 1] 3)).alloc (.cells #[.pointer (some ⟨pb, 0, none⟩), .func (.func 71) #[] #[.pointer (some ⟨w.heap.size, 0, none⟩)], .int .i64 0] 124)) (w.heap.size + 1) pb w.heap.size 0 by') := Lib.hid (jobAt_new w pb 1 by' HBN.out)
         have HW1 : Hid (Below w.heap.size w ((w.alloc (.cells #[.int .i64 1] 3)).alloc (.cells #[.pointer (some ⟨pb, 0, none⟩), .func (.func 71) #[] #[.pointer (some ⟨w.heap.size, 0, none⟩)], .int .i64 0] 124))) := Lib.hid ((HBW.out _).alloc (by simp) _)
         have hsz : w.heap.size + 2 = ((w.alloc (.cells #[.int .i64 1] 3)).alloc (.cells #[.pointer (some ⟨pb, 0, none⟩), .func (.func 71) #[] #[.pointer (some ⟨w.heap.size, 0, none⟩)], .int .i64 0] 124)).heap.size := by simp
         have HSZ := Lib.hid hsz
         clear hsz
         generalize (w.alloc (.cells #[.int .i64 1] 3)).alloc (.cells #[.pointer (some ⟨pb, 0, none⟩), .func (.func 71) #[] #[.pointer (some ⟨w.heap.size, 0, none⟩)], .int .i64 0] 124) = W1 at *)
    have hco := Lib.hid (hopen.out W1 HW1.out (w.heap.size + 1) w.heap.size HJ1.out)
    refine hco.out.mono ?_
    rintro e w2 ⟨v2, c2, d2, o2, rfl, hm2, he2, hok2⟩
    have HC2 := Lib.hid hm2
    have HE2 := Lib.hid he2
    have HM2 : Hid (Moved (fun _ => False) n pb db w o d w2 o2 d2 L) := Lib.hid ((Moved.ofBelow H.out HW1.out).trans hm2 (fun _ _ h => h))
    clear hm2 he2 hco
    by_cases hc2 : c2 = 0
    · subst hc2
      obtain ⟨cb, sb, rfl, hs2, hst2, hoc2, hos2, hcb2, hsb2⟩ := hok2 rfl
      have HS2 := Lib.hid hs2
      have HST2 := Lib.hid hst2
      have HOC2 := Lib.hid hoc2
      have HOS2 := Lib.hid hos2
      have hcbl := hs2.lt
      have hsbl := hst2.lt
      have HNE2 : Hid (sb ≠ cb) := Lib.hid (source_ne_stream hs2 hst2)
      have hcbg : w.heap.size + 2 ≤ cb := by rw [HSZ.out]; exact hcb2
      have hsbg : w.heap.size + 2 ≤ sb := by rw [HSZ.out]; exact hsb2
      clear hok2 hs2 hst2 hoc2 hos2 hcb2 hsb2
      unfold ptrTo
      have hcc := Lib.hid (hcr.out w2 o2 d2 HM2.out.pool)
      unfold CreatePost at hcc
      rw [hcode.out d2] at hcc
      cases hd2 : d2.tick.dead with
      | true =>
        rw [hd2, if_pos rfl] at hcc
        have HD2 := Lib.hid hd2
        clear hd2
        go_wp2_with fail
        refine hcc.out.mono ?_
        rintro e w3 ⟨d3, o3, rfl, hm3, -, hdd⟩
        rw [if_neg (by decide)] at hm3
        have HM3 := Lib.hid (HM2.out.trans hm3 (fun _ _ h => h))
        have HDD := Lib.hid (hdd (by first | exact HD2.out | trivial))
        clear hm3 hdd hcc
        go_wp2
        go_ret
        exact ⟨6, d3, o3, L, rfl, HM3.out, fun _ _ => rfl, .inr (.inr ⟨rfl, HDD.out⟩)⟩
      | false =>
        rw [hd2, if_neg (by simp)] at hcc
        clear hd2
        go_wp2_with fail
        refine hcc.out.mono ?_
        rintro e w3 ⟨d3, o3, rfl, hm3, -, -⟩
        simp only [if_true] at hm3
        have HC3 := Lib.hid (HC2.out.trans hm3 (fun _ _ h => h))
        have HM3 := Lib.hid (HM2.out.trans hm3 (fun _ _ h => h))
        have HS3 : Hid (SourceAt w3 cb sb 0 N edg0) := Lib.hid (HS2.out.kept (hm3.block hcbl HOC2.out (fun h => h)))
        have HST3 : Hid (StreamAt w3 sb pb inn 20) := Lib.hid (HST2.out.moved hm3 HOS2.out (fun h => h))
        have HOC3 : Hid (o3 cb = none) := Lib.hid (hm3.free hcbl HOC2.out)
        have HOS3 : Hid (o3 sb = none) := Lib.hid (hm3.free hsbl HOS2.out)
        have hcbl3 : cb < w3.heap.size := Nat.lt_of_lt_of_le hcbl hm3.size
        have hsbl3 : sb < w3.heap.size := Nat.lt_of_lt_of_le hsbl hm3.size
        have hdd := Lib.hid (hdrop.out w3 o3 d3 hm3.pool)
        clear hm3 hcc
        go_wp2_with fail
        refine hdd.out.mono ?_
        rintro e w4 ⟨c4, d4, o4, L4, rfl, hp4, ht4, hg4, hon4, hdr4⟩
        have hm4 : Moved (fun _ => False) n pb db w3 o3 d3 w4 o4 d4 L4 := moved_of hp4 ht4 hg4 hon4
        have HM4 := Lib.hid (HM3.out.trans hm4 (fun _ _ h => h))
        have HC4 := Lib.hid (HC3.out.trans hm4 (fun _ _ h => h))
        have HS4 : Hid (SourceAt w4 cb sb 0 N edg0) := Lib.hid (HS3.out.kept (hm4.block hcbl3 HOC3.out (fun h => h)))
        have HST4 : Hid (StreamAt w4 sb pb inn 20) := Lib.hid (HST3.out.moved hm4 HOS3.out (fun h => h))
        have HOC4 : Hid (o4 cb = none) := Lib.hid (hm4.free hcbl3 HOC3.out)
        have HOS4 : Hid (o4 sb = none) := Lib.hid (hm4.free hsbl3 HOS3.out)
        clear hp4 ht4 hg4 hon4 hm4 hdd
        rcases hdr4 with ⟨rfl, he⟩ | ⟨rfl, hdead, dp, he⟩
        · have he' := he.trans hdel.out
          rw [he'] at HM4 HC4
          have HJ4 : Hid (JobAt w4 (w.heap.size + 1) pb w.heap.size 0 by') := Lib.hid (HJ1.out.moved HC4.out (H.out.fresh (by omega)) (H.out.fresh (Nat.le_refl _)) (fun h => h) (fun h => h))
          have hso := Lib.hid (hsort.out w4 o4 d4 cb sb (w.heap.size + 1) w.heap.size HM4.out.pool HJ4.out (HC4.out.free HJ1.out.lt.1 (H.out.fresh (by omega))) (HC4.out.free HJ1.out.lt.2 (H.out.fresh (Nat.le_refl _))) (by omega) HS4.out HST4.out HOC4.out HOS4.out (by omega) (by omega) (by omega) HNE2.out)
          clear he he'
          go_wp2_with fail
          refine hso.out.mono ?_
          rintro e w5 ⟨c5, d5, o5, L5, rfl, hm5, hot5, hc5⟩
          have HM5 := Lib.hid (HM4.out.trans hm5 (fun x hx e => by omega))
          have HOT5 := Lib.hid hot5
          have HC5 : Hid ((c5 = 0 ∧ ∀ x, mget L5 x = mget (mput L out (edgeFile (bestOf by' es) true)) x) ∨ ErrN d d5 (need L + 8 * N) c5) := Lib.hid (hc5.imp id (fun h => h.later HM4.out.on.quota))
          clear hm5 hot5 hc5 hso
          go_wp2
          go_ret
          exact ⟨c5, d5, o5, L5, rfl, HM5.out, HOT5.out, HC5.out⟩
        · have HE := Lib.hid he
          have HD := Lib.hid hdead
          clear he hdead
          go_wp2
          go_ret
          refine ⟨6, d4, o4, L4, rfl, HM4.out, fun x hx => ?_, .inr (.inr ⟨rfl, HD.out⟩)⟩
          rw [HE.out, mget_mput, if_neg (fun e => hx (.inl e)), mget_mput, if_neg (fun e => hx (.inl e))]
    · have hc2' : ¬ (c2 : Int) = 0 := by omega
      have HE3 : Hid (ErrN d d2 (need L + 8 * N) c2) := Lib.hid ((HE2.out.resolve_left hc2).num (Nat.le_add_right _ _))
      clear hc2 hok2
      go_wp2
      go_ret
      exact ⟨c2, d2, o2, L, rfl, HM2.out, fun _ _ => rfl, .inr HE3.out⟩
end
end Go.Proofs.YtolieljpnafbhaaGreatDoor
namespace Go.Proofs.YtolieljpnafbhaaGreatDoor
open Go.RowKit Go.Maps Go.MapKept
section
variable {w w' : World} {pb db n sb xb kb fb vb v bc : Nat} {b : Bool} {name : Name} {o o' : Owner} {d d' : Dsk} {L L' : Logic}
theorem lt_heap {w : World} {x : Nat} {ob : Obj} (h : w.heap[x]? = some ob) : x < w.heap.size := (Array.getElem?_eq_some_iff.1 h).1
theorem cellBelow {w w' : World} (hb : Below w.heap.size w w') {a : Addr} {v : Value} (hc : w.cell? a = some v) : w'.cell? a = some v := (hb.cell (World.block_lt_of_cell? w a hc)).trans hc
end
end Go.Proofs.YtolieljpnafbhaaGreatDoor
namespace Go.Proofs.YtolieljpnafbhaaGreatDoor
open Go.RowKit
/-- A call's own row of bytes; of its block nothing within the cells is frozen. -/
def BytesT (w : World) (base : Nat) (v : Value) (bs : List UInt8) : Prop :=
  (v = .slice none 0 0 ∧ bs = []) ∨
  ∃ g cap cur fz, v = .slice (some ⟨g, 0, none⟩) bs.length cap ∧ base ≤ g ∧ w.heap[g]? = some (.cells cur 5 fz) ∧ (fz.2 = 0 ∨ cur.size ≤ fz.1) ∧ bs.length ≤ cap ∧ cap ≤ maxLen ∧ cur.size = cap ∧ cur.toList.take bs.length = bs.map bv
theorem BytesT.nil (w : World) (base : Nat) : BytesT w base (.slice none 0 0) [] := .inl ⟨rfl, rfl⟩
theorem BytesT.of {w : World} {base : Nat} {v : Value} {bs : List UInt8} (h : w.ownsRow base 5 1 v bs.length (bs.map bv)) : BytesT w base v bs := by
  obtain ⟨h0, ⟨rfl, h1⟩ | ⟨g, cap, cur, rfl, h1, h2, h3, h4, h5, h6⟩⟩ := h
  · exact .inl ⟨rfl, List.length_eq_zero_iff.1 h1⟩
  · exact .inr ⟨g, cap, cur, (0, 0), rfl, h1, h2, .inl rfl, h3, h4, by omega, by rw [Nat.mul_one] at h6; exact h6⟩
theorem BytesT.base {w : World} {base base' : Nat} {v : Value} {bs : List UInt8} (h : BytesT w base v bs) (hb : base' ≤ base) : BytesT w base' v bs := by
  rcases h with h | ⟨g, cap, cur, fz, h1, h2, h3⟩
  · exact .inl h
  · exact .inr ⟨g, cap, cur, fz, h1, Nat.le_trans hb h2, h3⟩
theorem BytesT.lt {w : World} {base : Nat} {v : Value} {bs : List UInt8} (h : BytesT w base v bs) : ∀ k, v.ownBlock = some k → base ≤ k ∧ k < w.heap.size := by
  intro k hk
  rcases h with ⟨rfl, _⟩ | ⟨g, cap, cur, fz, rfl, h1, h2, _⟩
  · cases hk
  · cases hk
    exact ⟨h1, (Array.getElem?_eq_some_iff.1 h2).1⟩
theorem BytesT.kept {w w' : World} {base : Nat} {v : Value} {bs : List UInt8} (h : BytesT w base v bs) (hk : ∀ k, v.ownBlock = some k → w'.heap[k]? = w.heap[k]?) : BytesT w' base v bs := by
  rcases h with h | ⟨g, cap, cur, fz, rfl, h1, h2, h3⟩
  · exact .inl h
  · exact .inr ⟨g, cap, cur, fz, rfl, h1, (hk g rfl).trans h2, h3⟩
theorem BytesT.cells {w : World} {base g cap n : Nat} {bs : List UInt8} (h : BytesT w base (.slice (some ⟨g, 0, none⟩) n cap) bs) {j : Nat} (hj : j < bs.length) : w.cell? ⟨g, j, none⟩ = some (bv bs[j]) := by
  rcases h with ⟨h, _⟩ | ⟨g', cap', cur, fz, h, h1, h2, h3, h4, h5, h6, h7⟩
  · cases h
  · cases h
    rw [cell_of_row w g j cur _ fz h2]
    have : (cur.toList.take bs.length)[j]? = (bs.map bv)[j]? := by rw [h7]
    rw [List.getElem?_take, if_pos hj, List.getElem?_map, List.getElem?_eq_getElem hj] at this
    simpa using this
theorem BytesT.rd {w : World} {base : Nat} {v : Value} {bs : List UInt8} (h : BytesT w base v bs) : Rd w v bs := by
  rcases h with ⟨rfl, rfl⟩ | ⟨g, cap, cur, fz, rfl, h1, h2, h3, h4, h5, h6, h7⟩
  · exact ⟨none, 0, rfl, Nat.le_refl _, Nat.zero_le _, .inl rfl⟩
  · refine ⟨some ⟨g, 0, none⟩, cap, rfl, h4, h5, .inr ⟨g, 0, rfl, fun j hj => ?_⟩⟩
    rw [Nat.zero_add]
    exact BytesT.cells (.inr ⟨g, cap, cur, fz, rfl, h1, h2, h3, h4, h5, h6, h7⟩) hj
/-- One byte more. -/
theorem run_append_byteT {w : World} (base ty : Nat) (v : Value) (bs : List UInt8) (h : BytesT w base v bs) (b c : Nat) (y : UInt8) (hb : w.cell? ⟨b, 0, none⟩ = some (bv y)) (hl : bs.length ≤ 100000) (hbase : base ≤ w.heap.size) :
    ∃ v' w', (Builtin.append_ #[57, 57] ty #[v, .slice (some ⟨b, 0, none⟩) 1 c]).run Tryz.prog w = .ok v' w' ∧ BytesT w' base v' (bs ++ [y]) ∧ w.grownBy w' v.ownBlock ∧ (v'.ownBlock = v.ownBlock ∨ v'.ownBlock = some w.heap.size) := by
  obtain ⟨i0, hi, hz0, hz1, hz2⟩ := info_parts info_u8
  have hnews : ∀ (j : Nat) (u : Value), [bv y][j]? = some u → w.cell? ((⟨b, 0, none⟩ : Addr).add j) = some u := by
    intro j u hj
    rw [Addr_add, Nat.zero_add]
    match j, hj with
    | 0, hj => cases hj; exact hb
    | j + 1, hj => cases hj
  have hold : ∀ g n cap, v = .slice (some ⟨g, 0, none⟩) n cap → ∀ (j : Nat) (u : Value), (bs.map bv)[j]? = some u → w.cell? ((⟨g, 0, none⟩ : Addr).add j) = some u := by
    rintro g n cap rfl j u hj
    rw [Addr_add, Nat.zero_add]
    have hjl : j < bs.length := by have := lt_of_get hj; rwa [List.length_map] at this
    rw [List.getElem?_map, List.getElem?_eq_getElem hjl] at hj
    rw [h.cells hjl]
    simpa using hj
  rcases h with ⟨rfl, rfl⟩ | ⟨g, cap, cur, fz, rfl, h1, h2, h3, h4, h5, h6, h7⟩
  · obtain ⟨v', w', r1, r2, r3, -, r5⟩ := run_append_own_at (P := Tryz.prog) w base 57 ty 5 i0 (.int .u8 0) 1 1 Tryz.underlying57 hi hz0 hz1 hz2 rfl (by decide) (.slice none 0 0) 0 [] (World.ownsRow_nil _ _ _ _) ⟨b, 0, none⟩ 1 c [bv y] rfl hnews (by simp [bv_oneCell]) (by unfold maxLen; omega) (by omega) hbase
    exact ⟨v', w', r1, BytesT.of r2, r3, r5⟩
  · have hgl : g < w.heap.size := (Array.getElem?_eq_some_iff.1 h2).1
    by_cases hroom : bs.length + 1 ≤ cap
    · have hf := run_firstCells_some (P := Tryz.prog) w 1 1 ⟨b, 0, none⟩ 1 c [bv y] rfl hnews
      have hcell : w.cell? ⟨g, bs.length, none⟩ = some cur[bs.length] := by
        rw [cell_of_row w g bs.length cur _ fz h2]
        exact Array.getElem?_eq_getElem _
      have hfro : w.frozen? ⟨g, bs.length, none⟩ = false := by
        obtain ⟨lo, hi'⟩ := fz
        simp only [World.frozen?, h2, Bool.and_eq_false_iff, decide_eq_false_iff_not]
        simp only at h3
        omega
      have hst : (storeCells ⟨g, bs.length, none⟩ [bv y] 0).run Tryz.prog w = .ok () (w.setRow g (cur.setIfInBounds bs.length (bv y))) := by
        have hs : (store ⟨g, bs.length, none⟩ (bv y)).run Tryz.prog w = .ok () (w.setRow g (cur.setIfInBounds bs.length (bv y))) := by
          rw [run_store Tryz.prog w _ (bv y) _ (bv_oneCell y), hcell]
          simp [hfro, setCell_eq_setRow w g bs.length cur _ fz (bv y) h2]
        have hadd : (⟨g, bs.length, none⟩ : Addr).add 0 = ⟨g, bs.length, none⟩ := by rw [Addr_add, Nat.add_zero]
        simp only [storeCells, Sem.run_bind, hadd, hs, Result.andThen_ok, Sem.run_pure]
      have hlen : (bs ++ [y]).length = bs.length + 1 := by simp
      have hbl : bs.length < cur.toList.length := by have := Array.length_toList (xs := cur); omega
      refine ⟨.slice (some ⟨g, 0, none⟩) (bs.length + 1) cap, w.setRow g (cur.setIfInBounds bs.length (bv y)), ?_, .inr ⟨g, cap, cur.setIfInBounds bs.length (bv y), fz, by rw [hlen], h1, setRow_heap w g cur _ _ fz h2, by rw [Array.size_setIfInBounds]; exact h3, by omega, h5, by rw [Array.size_setIfInBounds]; exact h6, ?_⟩, ⟨rfl, rfl, rfl, by simp, fun k _ hk => setRow_other w g k _ (fun e => hk (by simp [Value.ownBlock, e]))⟩, .inl rfl⟩
      · simp [Builtin.append_, run_underlying Tryz.underlying57, sizeOf, typeInfo, hi, hz1, Builtin.lenOf, hroom, hf, Addr_add, hst]
      · rw [hlen, Array.toList_setIfInBounds, List.map_append, ← h7]
        rw [List.take_add_one, List.take_set_of_le (Nat.le_refl _), List.getElem?_set_self hbl]
        rfl
    · have hr := run_append_grow (P := Tryz.prog) w 57 ty 5 i0 (.int .u8 0) Tryz.underlying57 hi hz0 ⟨g, 0, none⟩ bs.length cap (bs.map bv) (by rw [hz1]; simp) (hold g _ _ rfl) ⟨b, 0, none⟩ 1 c [bv y] (by rw [hz1]; rfl) hnews (by omega) (by omega) (growslice_fits (by omega) (by rw [hz2]; omega))
      have hge := grownCap_ge w (bs.length + 1) cap 5
      have hcm : grownCap w (bs.length + 1) cap 5 ≤ maxLen := grownCap_le_maxLen w (bs.length + 1) cap 5 (by unfold maxLen; omega)
      refine ⟨_, _, hr, .inr ⟨w.heap.size, _, _, (0, 0), ?_, hbase, heap_alloc_new w.drew _, .inl rfl, ?_, hcm, ?_, ?_⟩, ⟨rfl, rfl, rfl, by simp, fun k hk _ => (MapKept.heap_alloc w.drew _).2 k hk⟩, .inr rfl⟩
      · simp
      · simpa using hge
      · simp only [Array.size_append, List.size_toArray, size_zeroCells, List.length_map, List.length_cons, List.length_nil]
        have hz : (Value.int IntKind.u8 0).cells.size = 1 := rfl
        rw [hz]
        omega
      · simp only [Array.toList_append, List.append_assoc]
        rw [← List.append_assoc, show (bs ++ [y]).length = (bs.map bv ++ [bv y]).length by simp, List.take_left]
        simp
end Go.Proofs.YtolieljpnafbhaaGreatDoor
namespace Go.Proofs.YtolieljpnafbhaaGreatDoor
open Go.RowKit
section
variable {w : World} {ops : Array Oper} {rest : List Oper} {op : Oper} {a : Act} {Q : Exit → Act → World → Prop}
/-- append(out, b). -/
theorem wpList_append_byteT (hgd : op.guard = none) (s x : Operand) (ho : op.op = .call { callee := .builtin .append, args := #[s, x], argTypes := #[57, 57] }) (base : Nat) (v : Value) (bs : List UInt8) (hs : a.eval s = v) (h : BytesT w base v bs)
    (y : UInt8) (b c : Nat) (hx : a.eval x = .slice (some ⟨b, 0, none⟩) 1 c) (hb : w.cell? ⟨b, 0, none⟩ = some (bv y)) (hl : bs.length ≤ 100000) (hbase : base ≤ w.heap.size)
    (k : ∀ v' w', BytesT w' base v' (bs ++ [y]) → w.grownBy w' v.ownBlock → wpList Tryz.prog ops Q rest (a.put op.dst v') w') :
    wpList Tryz.prog ops Q (op :: rest) a w := by
  refine wpList_plain hgd fun K hK => ?_
  obtain ⟨v', w', g1, g2, g3, g4⟩ := run_append_byteT base op.type v bs h b c y hb hl hbase
  unfold Oper.wp execOp
  simp only [ho, resolve, invoke, builtin, Sem.run_bind, Sem.run_pure, Result.andThen_ok, List.map_toArray, List.map_cons, List.map_nil, hs, hx, g1]
  exact hK _ _ (k v' w' g2 g3)
theorem BytesT.alloc {base : Nat} {v : Value} {bs : List UInt8} (h : BytesT w base v bs) (ob : Obj) : BytesT (w.alloc ob) base v bs := h.kept (fun k hk => (MapKept.heap_alloc w _).2 k (h.lt k hk).2)
end
def NewBytesT (w : World) (bs : List UInt8) (e : Ending) (w' : World) : Prop :=
  ∃ v', e = .returned v' ∧ BytesT w' w.heap.size v' bs ∧ Below w.heap.size w w'
theorem bytesT_world (w : World) (s : ByteArray) (hs : s.size ≤ 100000) : BytesT (Lib.bytesWorld w 5 s) w.heap.size (.slice (some ⟨w.heap.size, 0, none⟩) s.size (grownCap w s.size 0 5)) s.data.toList := by
  have hlen : s.data.toList.length = s.size := by rw [Array.length_toList]; rfl
  have hge := grownCap_ge w s.size 0 5
  have hcm := grownCap_le_maxLen w s.size 0 5 (by unfold maxLen; omega)
  have hsz : (Lib.bytesCells w 5 s).size = grownCap w s.size 0 5 := by
    unfold Lib.bytesCells
    rw [Array.size_append, Array.size_map, Array.size_replicate]
    have : s.data.size = s.size := rfl
    omega
  have hh : (Lib.bytesWorld w 5 s).heap[w.heap.size]? = some (.cells (Lib.bytesCells w 5 s) 5 ((Lib.bytesCells w 5 s).size, (Lib.bytesCells w 5 s).size + 1)) := by
    unfold Lib.bytesWorld World.freeze
    rw [if_neg (by decide)]
    have h1 := heap_alloc_new w.drew (.cells (Lib.bytesCells w 5 s) 5)
    rw [World.size_drew] at h1
    dsimp only
    rw [Array.getElem?_modify, if_pos rfl, h1]
    simp
  refine .inr ⟨w.heap.size, _, _, _, by rw [hlen], Nat.le_refl _, hh, .inr (Nat.le_refl _), by omega, hcm, hsz, ?_⟩
  unfold Lib.bytesCells
  rw [Array.toList_append, List.take_append_of_le_length (by simp), Array.toList_map, List.take_of_length_le (by simp)]
  rfl
set_option maxRecDepth 100000 in
set_option maxHeartbeats 1000000 in
theorem copyBytes_any (v : Value) (bs : List UInt8) (w : World) (hv : Rd w v bs) (hl : bs.length ≤ 1000) :
    Calls Tryz.prog 126 #[v] w (NewBytesT w bs) := by
  obtain ⟨a, cap, rfl, hlc, hcm, hc⟩ := hv
  by_cases h0 : bs.length = 0
  · have hb : bs = [] := List.length_eq_zero_iff.1 h0
    subst hb
    clear hc hlc hcm
    go_enter Tryz.func126, Tryz.ntmps126
    go_wp2
    go_ret
    exact ⟨_, rfl, BytesT.nil _ _, Below.refl _ _⟩
  · obtain ⟨b, off, rfl, hcell⟩ := hc.resolve_left h0
    have hcv : Sem.run Tryz.prog (convert 57 9 (.slice (some ⟨b, off, none⟩) bs.length cap)) w = .ok (.string ⟨bs.toArray⟩) w :=
      run_convert_bytes_back (P := Tryz.prog) w 57 9 5 ⟨b, off, none⟩ cap bs Tryz.underlying57 Tryz.underlying5 Tryz.underlying9 (fun j hj => by
        rw [Addr_add]
        exact hcell j hj)
    have hcv2 := Lib.run_convert_string_bytes (P := Tryz.prog) w 9 57 5 ⟨bs.toArray⟩ Tryz.underlying9 Tryz.underlying57 Tryz.underlying5
    have h1 := Lib.hid (bytesT_world w ⟨bs.toArray⟩ (by show bs.toArray.size ≤ _; simp; omega))
    have hb := Lib.hid (Joins.below_bytesWorld w.heap.size w 5 ⟨bs.toArray⟩ (Nat.le_refl _))
    have h0' : ¬ (bs.length : Int) = 0 := by omega
    clear hcell hc hlc hcm
    go_enter Tryz.func126, Tryz.ntmps126
    go_wp2
    go_ret
    exact ⟨_, rfl, h1.out, hb.out⟩
set_option maxHeartbeats 1000000 in
theorem sized_4 (w : World) : Calls Tryz.prog 127 #[.int .i64 4] w fun e w' => e = .returned (.bool true) ∧ w = w' := by
  go_enter Tryz.func127, Tryz.ntmps127
  go_wp2
  go_ret
  exact ⟨rfl, rfl⟩
set_option maxHeartbeats 1000000 in
theorem sized_8 (w : World) : Calls Tryz.prog 127 #[.int .i64 8] w fun e w' => e = .returned (.bool true) ∧ w = w' := by
  go_enter Tryz.func127, Tryz.ntmps127
  go_wp2
  go_ret
  exact ⟨rfl, rfl⟩
theorem sized_any (size : Nat) (hs : size = 4 ∨ size = 8) (w : World) : Calls Tryz.prog 127 #[.int .i64 (size : Int)] w fun e w' => e = .returned (.bool true) ∧ w = w' := by
  rcases hs with rfl | rfl
  · exact sized_4 w
  · exact sized_8 w
set_option maxRecDepth 100000 in
set_option maxHeartbeats 2000000 in
theorem refPut_any (v : Value) (bs : List UInt8) (x size : Nat) (w : World) (hs : size = 4 ∨ size = 8) (hx : x < 18446744073709551616) (hv : Rd w v bs) (hl : bs.length ≤ 900) :
    Calls Tryz.prog 96 #[v, .int .u64 (x : Int), .int .i64 (size : Int)] w (NewBytesT w (bs ++ le x size)) := by
  have hcopy := Lib.hid (copyBytes_any v bs w hv (by omega))
  have hsz := Lib.hid (sized_any size hs)
  have hs8 : size ≤ 8 := by omega
  clear hv hs
  go_enter Tryz.func96, Tryz.ntmps96
  go_wp2_with fail
  refine hcopy.out.mono ?_
  rintro e w1 ⟨v1, rfl, hb1, hB1⟩
  have HB1 := Lib.hid hb1
  have HBe := Lib.hid hB1
  clear hb1 hB1 hcopy
  go_wp2
  go_loopw [1, 7, 8] (fun y out i wr => ∃ k : Nat, k ≤ size ∧ y = .int .u64 ((x / 256 ^ k : Nat) : Int) ∧ i = .int .i64 (k : Int) ∧ BytesT wr w.heap.size out (bs ++ le x k) ∧ Below w.heap.size w wr) (fun _ _ i _ => size - (intOf i).toNat)
  case atStart => exact ⟨0, Nat.zero_le _, by simp, rfl, by simpa [le] using HB1.out, HBe.out⟩
  case round =>
    obtain ⟨k, hk, rfl, rfl, hb2, hB2⟩ := hrel
    have HB2 := Lib.hid hb2
    have HBe2 := Lib.hid hB2
    clear hb2 hB2
    by_cases hlt : k < size
    · have hz : x / 256 ^ k < 18446744073709551616 := Nat.lt_of_le_of_lt (Nat.div_le_self _ _) hx
      have hzn : x / 256 ^ (k + 1) = x / 256 ^ k / 256 := by rw [Nat.pow_succ, Nat.div_div_eq_div_mul]
      have HZ : Hid (le x (k + 1) = le x k ++ [UInt8.ofNat (x / 256 ^ k)]) := Lib.hid rfl
      have HZN := Lib.hid hzn
      have hlen : (bs ++ le x k).length ≤ 100000 := by rw [List.length_append, le_length]; omega
      have hsize : w.heap.size ≤ wr.heap.size := HBe2.out.size
      clear hzn
      generalize x / 256 ^ k = z at *
      go_wp2_with fail
      refine (hsz.out wr).mono ?_
      rintro e w' ⟨rfl, rfl⟩
      have hby : Hid (bv (UInt8.ofNat z) = .int .u8 ((z % 256 : Nat) : Int)) := Lib.hid (by unfold bv; simp)
      go_wp2_with (at_builtin; refine wpList_append_byteT rfl _ _ rfl w.heap.size _ _ rfl (HB2.out.alloc _) (UInt8.ofNat z) wr.heap.size 1 rfl ?c1 hlen ?c2 ?_)
      case c1 => rw [hby.out]; simp
      case c2 => simp; omega
      intro v4 w4 hb4 hg4
      have HB4 : Hid (BytesT w4 w.heap.size v4 (bs ++ le x (k + 1))) := Lib.hid (by rw [HZ.out, ← List.append_assoc]; simpa using hb4)
      have HBe4 : Hid (Below w.heap.size w w4) := Lib.hid ((HBe2.out.alloc hsize _).grown hg4 (by simp; omega) (fun k hk => (HB2.out.lt k hk).1))
      clear hb4 hg4
      go_wp2
      go_roundw
      case rel => exact ⟨k + 1, by omega, by rw [HZN.out]; rfl, by go_num, HB4.out, HBe4.out⟩
      case measure => simp [intOf]; omega
    · go_wp2
      obtain rfl : k = size := by omega
      go_ret
      exact ⟨_, rfl, HB2.out, HBe2.out⟩
set_option maxRecDepth 100000 in
set_option maxHeartbeats 2000000 in
theorem refEdge_any (e : Edg) (w : World) : Calls Tryz.prog 61 #[.agg #[.int .u32 (e.t.toNat : Int), .int .u32 (e.h.toNat : Int), .int .u64 (e.x.toNat : Int), .int .u32 (e.m.toNat : Int)]] w (NewBytesT w e.bytes) := by
  have hput := Lib.hid refPut_any
  have h1 := e.t.toNat_lt
  have h2 := e.h.toNat_lt
  have h3 := e.x.toNat_lt
  have h4 := e.m.toNat_lt
  have HBY : Hid (e.bytes = le e.t.toNat 4 ++ le e.h.toNat 4 ++ le e.x.toNat 8 ++ le e.m.toNat 4) := Lib.hid rfl
  generalize e.bytes = bs at *
  generalize e.t.toNat = et at *
  generalize e.h.toNat = eh at *
  generalize e.x.toNat = ex at *
  generalize e.m.toNat = em at *
  go_enter Tryz.func61, Tryz.ntmps61
  have HB0 : Hid (Below w.heap.size w (w.alloc (.cells #[.int .u32 (et : Int), .int .u32 (eh : Int), .int .u64 (ex : Int), .int .u32 (em : Int)] 47))) := Lib.hid ((Below.refl _ _).alloc (Nat.le_refl _) _)
  have HX0 : Hid ((w.alloc (.cells #[.int .u32 (et : Int), .int .u32 (eh : Int), .int .u64 (ex : Int), .int .u32 (em : Int)] 47)).heap[w.heap.size]? = some (.cells #[.int .u32 (et : Int), .int .u32 (eh : Int), .int .u64 (ex : Int), .int .u32 (em : Int)] 47)) := Lib.hid (heap_alloc_new w _)
  have hr0 := Lib.hid (BytesT.nil (w.alloc (.cells #[.int .u32 (et : Int), .int .u32 (eh : Int), .int .u64 (ex : Int), .int .u32 (em : Int)] 47)) w.heap.size).rd
  go_wp2_with fail
  generalize w.alloc (.cells #[.int .u32 (et : Int), .int .u32 (eh : Int), .int .u64 (ex : Int), .int .u32 (em : Int)] 47) = w0 at *
  have cellsOf : Hid (∀ W, Below w0.heap.size w0 W → W.cell? ⟨w.heap.size, 0, none⟩ = some (.int .u32 (et : Int)) ∧ W.cell? ⟨w.heap.size, 1, none⟩ = some (.int .u32 (eh : Int)) ∧ W.cell? ⟨w.heap.size, 2, none⟩ = some (.int .u64 (ex : Int)) ∧ W.cell? ⟨w.heap.size, 3, none⟩ = some (.int .u32 (em : Int))) := Lib.hid (fun W hW => by
    have hx := (hW.block _ (lt_heap HX0.out)).trans HX0.out
    refine ⟨?_, ?_, ?_, ?_⟩ <;> rw [cells_cell hx] <;> rfl)
  refine (hput.out (.slice none 0 0) [] et 4 w0 (.inl rfl) (by omega) hr0.out (by decide)).mono ?_
  rintro e1 w1 ⟨v1, rfl, hb1, hB1⟩
  have HE1 := Lib.hid hB1
  have HR1 := Lib.hid hb1
  obtain ⟨-, k1, -, -⟩ := cellsOf.out w1 HE1.out
  clear hb1 hB1
  go_wp2_with fail
  refine (hput.out v1 (le et 4) eh 4 w1 (.inl rfl) (by omega) HR1.out.rd (by rw [le_length]; omega)).mono ?_
  rintro e2 w2 ⟨v2, rfl, hb2, hB2⟩
  have HE2 := Lib.hid (HE1.out.trans (hB2.mono HE1.out.size))
  have HR2 := Lib.hid hb2
  obtain ⟨-, -, k2, -⟩ := cellsOf.out w2 HE2.out
  clear hb2 hB2 k1
  go_wp2_with fail
  refine (hput.out v2 (le et 4 ++ le eh 4) ex 8 w2 (.inr rfl) (by omega) HR2.out.rd (by rw [List.length_append, le_length, le_length]; omega)).mono ?_
  rintro e3 w3 ⟨v3, rfl, hb3, hB3⟩
  have HE3 := Lib.hid (HE2.out.trans (hB3.mono HE2.out.size))
  have HR3 := Lib.hid hb3
  obtain ⟨-, -, -, k3⟩ := cellsOf.out w3 HE3.out
  clear hb3 hB3 k2
  go_wp2_with fail
  refine (hput.out v3 (le et 4 ++ le eh 4 ++ le ex 8) em 4 w3 (.inl rfl) (by omega) HR3.out.rd (by simp only [List.length_append, le_length]; omega)).mono ?_
  rintro e4 w4 ⟨v4, rfl, hb4, hB4⟩
  have HE4 := Lib.hid (HE3.out.trans (hB4.mono HE3.out.size))
  have HR4 : Hid (BytesT w4 w.heap.size v4 bs) := Lib.hid (by rw [HBY.out]; exact hb4.base (Nat.le_trans HB0.out.size HE3.out.size))
  clear hb4 hB4 k3
  go_wp2
  go_ret
  exact ⟨_, rfl, HR4.out, HB0.out.trans (HE4.out.mono HB0.out.size)⟩
end Go.Proofs.YtolieljpnafbhaaGreatDoor
namespace Go.Proofs.YtolieljpnafbhaaGreatDoor
open Go.RowKit Go.Maps
section
variable {S : Nat → Prop} {w0 w w' : World} {pb db n : Nat} {o o' : Owner} {d d' : Dsk} {L L' L'' : Logic}
theorem sound_new (q n : Nat) : Sound (Dsk.new q) (List.replicate n Frm.none) [] := by
  have hb : ∀ fr ∈ List.replicate n Frm.none, fr = Frm.none := fun fr h => (List.mem_replicate.1 h).2
  refine ⟨by simp, by simp [Dsk.new], fun x => rfl, fun x h => by simp [mget] at h, fun x ps fl h => by simp [mget] at h, fun x f ls h => by simp [mget] at h, fun fr h hf => ?_, fun fr h _ => hb fr h, fun i j fi fj h1 h2 hf => ?_, fun x s h => by simp [Dsk.new] at h⟩
  · rw [hb fr h] at hf; cases hf
  · rw [hb fi (List.mem_of_getElem? h1)] at hf; cases hf
/-- A row of edges that may be read. -/
def RdE (w : World) (v : Value) (es : List Edg) : Prop :=
  ∃ a cap, v = .slice a es.length cap ∧ (es.length = 0 ∨ ∃ b off, a = some ⟨b, off, none⟩ ∧ ∀ (j : Nat) (x : Edg), es[j]? = some x → w.cell? ⟨b, off + j * 4, none⟩ = some (.int .u32 (x.t.toNat : Int)) ∧ w.cell? ⟨b, off + j * 4 + 1, none⟩ = some (.int .u32 (x.h.toNat : Int)) ∧ w.cell? ⟨b, off + j * 4 + 2, none⟩ = some (.int .u64 (x.x.toNat : Int)) ∧ w.cell? ⟨b, off + j * 4 + 3, none⟩ = some (.int .u32 (x.m.toNat : Int)))
theorem RdE.below {w w' : World} {v : Value} {es : List Edg} (h : RdE w v es) (hb : Below w.heap.size w w') : RdE w' v es := by
  obtain ⟨a, cap, rfl, h | ⟨b, off, rfl, hc⟩⟩ := h
  · exact ⟨a, cap, rfl, .inl h⟩
  · refine ⟨_, cap, rfl, .inr ⟨b, off, rfl, fun j x hx => ?_⟩⟩
    obtain ⟨h1, h2, h3, h4⟩ := hc j x hx
    exact ⟨cellBelow hb h1, cellBelow hb h2, cellBelow hb h3, cellBelow hb h4⟩
end
end Go.Proofs.YtolieljpnafbhaaGreatDoor
namespace Go.Proofs.YtolieljpnafbhaaGreatDoor
open Go.RowKit Go.Maps
theorem Sound.reQuota {d : Dsk} {fs : List Frm} {L : Logic} (h : Sound d fs L) (q : Nat) : Sound { d with quota := q } fs L where
  keys := h.keys
  dkeys := h.dkeys
  names := h.names
  ok := h.ok
  paged := fun n ps fl hm => by
    obtain ⟨f, dp, k⟩ := h.paged n ps fl hm
    exact ⟨f, dp, ⟨k.get, k.now, k.le, k.most, k.short, k.sdp, k.each, k.lasts, k.near⟩⟩
  raws := h.raws
  frames := h.frames
  blank := h.blank
  once := h.once
  looseIn := h.looseIn
theorem DiskHead.setQuota {w : World} {db mf ml q a : Nat} {b : Bool} (h : DiskHead w db mf ml q a b) (x : Nat) : DiskHead (w.setCell ⟨db, 2, none⟩ (.int .i64 (x : Int))) db mf ml x a b := by
  obtain ⟨t, h⟩ := h
  exact ⟨t, by rw [cells_set h]; rfl⟩
theorem quota_any {w : World} {pb db n : Nat} {o : Owner} {d : Dsk} {L : Logic} (h : PoolAt w pb db n o d L) (q : Nat) (hq : q ≤ 1048576) :
    Calls Tryz.prog 39 #[ptrTo db, .int .i64 (q : Int)] w fun e w' => e = .returned (.int .i64 0) ∧ PoolAt w' pb db n o { d with quota := q } L ∧ Turn (· = db) w w' := by
  obtain ⟨fb, mb, l, hand, mf, hp, hl, hs⟩ := h
  obtain ⟨fm, lm, fl, hd⟩ := hp.disk
  obtain ⟨⟨hc0, hc1, hc2, hc3, hc4⟩, hf2, hf3, hf4⟩ := hd.head.cells
  have hq1 : ¬ (q : Int) < 0 := by omega
  have hq2 : ¬ (q : Int) > 1048576 := by omega
  have K : Hid (∀ w', w' = w.setCell ⟨db, 2, none⟩ (.int .i64 (q : Int)) → PoolAt w' pb db n o { d with quota := q } L ∧ Turn (· = db) w w') := Lib.hid (fun w' hw => by
    subst hw
    have ht : Turn (· = db) w (w.setCell ⟨db, 2, none⟩ (.int .i64 (q : Int))) := Turn.setCell (Turn.refl _ _) _ _ (.inl rfl)
    have h1 := hd.reHead ht (hd.head.setQuota q) hq hd.ok.armed
    have h2 := hp.reDisk ⟨fm, lm, fl, h1⟩ (ht.mono fun x _ e => e ▸ ⟨_, hd.odb, show 0 < 6 by decide⟩) (OGrow.refl _ _)
    exact ⟨⟨fb, mb, l, hand, mf, h2, hl, hs.reQuota q⟩, ht⟩)
  clear hp hd hs
  unfold ptrTo
  go_enter Tryz.func39, Tryz.ntmps39
  go_wp2
  go_ret
  exact ⟨rfl, K.out _ rfl⟩
/-- A pool that the walk itself made, over a disk of so many sectors whose power stays. -/
structure Kept (q : Nat) (w0 w : World) (pb db n : Nat) (o : Owner) (d : Dsk) (L : Logic) : Prop where
  pool : PoolAt w pb db n o d L
  new : ∀ x t, o x = some t → w0.heap.size ≤ x
  below : Below w0.heap.size w0 w
  armed : d.armed = 0
  dead : d.dead = false
  quota : d.quota = q
section
variable {S : Nat → Prop} {q : Nat} {w0 w w' : World} {pb db n : Nat} {o o' : Owner} {d d' : Dsk} {L L' L'' : Logic}
theorem Kept.moved (h : Kept q w0 w pb db n o d L) (hm : Moved S n pb db w o d w' o' d' L') (hs : ∀ x, S x → w0.heap.size ≤ x) : Kept q w0 w' pb db n o' d' L' := by
  have hz := h.below.size
  refine ⟨hm.pool, fun x t hx => ?_, ?_, (hm.on.calm h.armed).1, (hm.on.calm h.armed).2 h.dead, hm.on.quota.trans h.quota⟩
  · rcases Nat.lt_or_ge x w.heap.size with hl | hg
    · rw [hm.grow x hl] at hx
      exact h.new x t hx
    · omega
  · refine h.below.trans ⟨hm.turn.os, hm.turn.tape, hm.turn.output, hm.size, fun k hk => hm.turn.block k (by omega) ?_⟩
    rintro (⟨t, h1, h2⟩ | h1)
    · have := h.new k t h1; omega
    · have := hs k h1; omega
theorem Kept.later (h : Kept q w0 w pb db n o d L) (hb : Below w.heap.size w w') : Kept q w0 w' pb db n o d L := ⟨h.pool.below hb, h.new, h.below.trans (hb.mono h.below.size), h.armed, h.dead, h.quota⟩
theorem Kept.fine (h : Kept q w0 w pb db n o d L) (hm : Moved S n pb db w o d w' o' d' L') {B c : Nat} (he : c = 0 ∨ ErrN d d' B c) (hn : B ≤ q) : c = 0 := by
  refine he.elim id fun he => ?_
  rcases he with ⟨_, h1⟩ | ⟨_, h1⟩
  · rw [h.quota] at h1; omega
  · rw [(hm.on.calm h.armed).2 h.dead] at h1; cases h1
theorem Kept.fine' (h : Kept q w0 w pb db n o d L) (hm : Moved S n pb db w o d w' o' d' L') {c : Nat} (he : c = 0 ∨ Err d d' L'' c) (hn : need L'' ≤ q) : c = 0 :=
  h.fine hm (he.imp id fun e => e.num hn) (Nat.le_refl _)
/-- How many files the disk has. -/
theorem Kept.count (h : Kept q w0 w pb db n o d L) : d.files.length = L.length := by
  obtain ⟨_, _, _, _, _, _, _, g⟩ := h.pool
  have hp : (d.files.map (·.1)).Perm (L.map (·.1)) := by
    rw [List.perm_ext_iff_of_nodup g.dkeys g.keys]
    intro x
    rw [mem_keys, mem_keys, g.names x]
  have := hp.length_eq
  simpa using this
end
end Go.Proofs.YtolieljpnafbhaaGreatDoor
namespace Go.Proofs.YtolieljpnafbhaaGreatDoor
open Go.RowKit Go.Maps
theorem only_mput {L : Logic} {nm : Name} {f : LFile} (h : ∀ y, y ≠ nm → mget L y = none) : mput L nm f = [(nm, f)] := by
  unfold mput
  have : mdel L nm = [] := by
    rw [List.eq_nil_iff_forall_not_mem]
    rintro ⟨y, g⟩ hy
    have h1 : y ∈ (mdel L nm).map (·.1) := List.mem_map.2 ⟨_, hy, rfl⟩
    rw [mem_keys, mget_mdel] at h1
    split at h1
    · cases h1
    · rename_i hne
      rw [h y (by first | exact hne | exact fun e => hne e.symm)] at h1
      cases h1
  rw [this]
end Go.Proofs.YtolieljpnafbhaaGreatDoor
namespace Go.Proofs
open Go.Shelf
def Tryz.sortStrs_ren : Go.Shelf.Ren := ⟨fun | 190 => 79 | 125 => 110 | 258 => 109 | 128 => 152 | 129 => 153 | 302 => 143 | 303 => 144 | 304 => 145 | 305 => 146 | 306 => 147 | 307 => 148 | 308 => 149 | 309 => 150 | 310 => 151 | 333 => 178 | 329 => 179 | 330 => 180 | 334 => 181 | 335 => 182 | 336 => 183 | 344 => 212 | n => n, fun | 31 => 63 | 9 => 9 | 3 => 3 | 46 => 61 | 0 => 0 | 51 => 23 | 53 => 45 | 4 => 4 | 183 => 216 | 182 => 215 | 131 => 188 | 5 => 5 | 218 => 240 | 222 => 244 | 228 => 269 | 229 => 82 | n => n, fun | n => n⟩
theorem Tryz.sortStrs : Go.Proofs.Lays.n190 Tryz.prog Tryz.sortStrs_ren := {
  mixed := by kernel_rfl
  f125 := Tryz.func110.trans (congrArg some (by kernel_rfl))
  f128 := Tryz.func152.trans (congrArg some (by kernel_rfl))
  f129 := Tryz.func153.trans (congrArg some (by kernel_rfl))
  f190 := Tryz.func79.trans (congrArg some (by kernel_rfl))
  f258 := Tryz.func109.trans (congrArg some (by kernel_rfl))
  f302 := Tryz.func143.trans (congrArg some (by kernel_rfl))
  f303 := Tryz.func144.trans (congrArg some (by kernel_rfl))
  f304 := Tryz.func145.trans (congrArg some (by kernel_rfl))
  f305 := Tryz.func146.trans (congrArg some (by kernel_rfl))
  f306 := Tryz.func147.trans (congrArg some (by kernel_rfl))
  f307 := Tryz.func148.trans (congrArg some (by kernel_rfl))
  f308 := Tryz.func149.trans (congrArg some (by kernel_rfl))
  f309 := Tryz.func150.trans (congrArg some (by kernel_rfl))
  f310 := Tryz.func151.trans (congrArg some (by kernel_rfl))
  f329 := Tryz.func179.trans (congrArg some (by kernel_rfl))
  f330 := Tryz.func180.trans (congrArg some (by kernel_rfl))
  f333 := Tryz.func178.trans (congrArg some (by kernel_rfl))
  f334 := Tryz.func181.trans (congrArg some (by kernel_rfl))
  f335 := Tryz.func182.trans (congrArg some (by kernel_rfl))
  f336 := Tryz.func183.trans (congrArg some (by kernel_rfl))
  f344 := Tryz.func212.trans (congrArg some (by kernel_rfl))
  t0 := Tryz.underlying0
  a0 := Tryz.isAgg0
  z0 := Tryz.sizeOf0
  v0 := Tryz.zeroValue0
  t3 := Tryz.underlying3
  a3 := Tryz.isAgg3
  z3 := Tryz.sizeOf3
  v3 := Tryz.zeroValue3
  t4 := Tryz.underlying4
  a4 := Tryz.isAgg4
  z4 := Tryz.sizeOf4
  v4 := Tryz.zeroValue4
  t5 := Tryz.underlying5
  a5 := Tryz.isAgg5
  z5 := Tryz.sizeOf5
  v5 := Tryz.zeroValue5
  t9 := Tryz.underlying9
  a9 := Tryz.isAgg9
  z9 := Tryz.sizeOf9
  v9 := Tryz.zeroValue9
  t31 := Tryz.underlying63
  a31 := Tryz.isAgg63
  z31 := Tryz.sizeOf63
  v31 := Tryz.zeroValue63
  t46 := Tryz.underlying61
  a46 := Tryz.isAgg61
  z46 := Tryz.sizeOf61
  v46 := Tryz.zeroValue61
  t51 := Tryz.underlying23
  a51 := Tryz.isAgg23
  z51 := Tryz.sizeOf23
  v51 := Tryz.zeroValue23
  t53 := Tryz.underlying45
  a53 := Tryz.isAgg45
  z53 := Tryz.sizeOf45
  v53 := Tryz.zeroValue45
  t131 := Tryz.underlying188
  a131 := Tryz.isAgg188
  z131 := Tryz.sizeOf188
  v131 := Tryz.zeroValue188
  t182 := Tryz.underlying215
  a182 := Tryz.isAgg215
  z182 := Tryz.sizeOf215
  v182 := Tryz.zeroValue215
  t183 := Tryz.underlying216
  a183 := Tryz.isAgg216
  z183 := Tryz.sizeOf216
  v183 := Tryz.zeroValue216
  t218 := Tryz.underlying240
  a218 := Tryz.isAgg240
  z218 := Tryz.sizeOf240
  v218 := Tryz.zeroValue240
  t222 := Tryz.underlying244
  a222 := Tryz.isAgg244
  z222 := Tryz.sizeOf244
  v222 := Tryz.zeroValue244
  t228 := Tryz.underlying269
  a228 := Tryz.isAgg269
  z228 := Tryz.sizeOf269
  v228 := Tryz.zeroValue269
  t229 := Tryz.underlying82
  a229 := Tryz.isAgg82
  z229 := Tryz.sizeOf82
  v229 := Tryz.zeroValue82 }
end Go.Proofs
namespace Go.Proofs.YtolieljpnafbhaaGreatDoor
open Go.RowKit Go.Maps Go.ChangeMaps
theorem encStr_name (l : List Name) : (l.map (fun x : Name => x.data.toList)).map Go.Proofs.encStr = l.map Value.string := by
  rw [List.map_map]
  congr 1
/-- What sorting a row of names leaves. -/
def SortStrPost (w : World) (base g len cap : Nat) (ns : List Name) (e : Ending) (w' : World) : Prop :=
  ∃ ts : List Name, e = .returned (.tuple #[]) ∧ ts.Perm ns ∧ w'.ownsRow base 9 1 (.slice (some ⟨g, 0, none⟩) len cap) len (ts.map Value.string) ∧ Turn (· = g) w w'
theorem names_of (l : List (List UInt8)) : (l.map fun b => (⟨b.toArray⟩ : Name)).map (fun x : Name => x.data.toList) = l := by
  rw [List.map_map]
  conv => rhs; rw [← List.map_id l]
  congr 1
theorem sortStrs_any {w : World} {base g len cap : Nat} {ns : List Name} (hl : ns.length = len) (hbig : len < 4611686018427387904) (hown : w.ownsRow base 9 1 (.slice (some ⟨g, 0, none⟩) len cap) len (ns.map Value.string)) :
    Calls Tryz.prog 79 #[.slice (some ⟨g, 0, none⟩) len cap] w (SortStrPost w base g len cap ns) := by
  obtain ⟨hlen, ⟨h0, _⟩ | ⟨g', cap', cur, hv, hg, hh, hn, hm, hcs, hx⟩⟩ := hown
  · cases h0
  cases hv
  rw [Nat.mul_one] at hx
  have hH := holds_of_block Go.Proofs.encStr (ss := ns.map fun x : Name => x.data.toList) hh (by rw [encStr_name, List.length_map, hl]; exact hx)
  have hcon := Any.slices_Sort_string Tryz.sortStrs g 0 cap (ns.map fun x : Name => x.data.toList) w hH (Array.getElem?_eq_some_iff.1 hh).1 (by rw [List.length_map, hl]; exact hbig)
  rw [List.length_map, hl] at hcon
  refine hcon.mono ?_
  rintro e w' ⟨rfl, n, os, rfl⟩
  have hp : ((ns.map fun x : Name => x.data.toList).mergeSort fun x y => decide (x ≤ y)).Perm (ns.map fun x : Name => x.data.toList) := List.mergeSort_perm _ _
  generalize ((ns.map fun x : Name => x.data.toList).mergeSort fun x y => decide (x ≤ y)) = ts at *
  refine ⟨ts.map fun b => (⟨b.toArray⟩ : Name), rfl, ?_, ?_, turn_sorted Go.Proofs.encStr _⟩
  · have h1 := hp.map (fun b => (⟨b.toArray⟩ : Name))
    rw [List.map_map] at h1
    have : ((fun b => (⟨b.toArray⟩ : Name)) ∘ fun x : Name => x.data.toList) = id := by
      funext x
      simp
    rw [this, List.map_id] at h1
    exact h1
  · have h2 := ownsRow_sorted (base := base) (g := g) (cap := cap) (n := n) (e := 9) (os := os) Go.Proofs.encStr (ss := ns.map fun x : Name => x.data.toList) (ts := ts) hp.length_eq hg hh (by rw [List.length_map, hl]; exact hn) hm hcs
    rw [List.length_map, hl, ← names_of ts, encStr_name, names_of] at h2
    exact h2
def NamesPost (w : World) (d : Dsk) (e : Ending) (w' : World) : Prop :=
  ∃ (v : Value) (ns : List Name), e = .returned v ∧ ns.Perm (d.files.map (·.1)) ∧ w'.ownsRow (w.heap.size + 1) 9 1 v ns.length (ns.map Value.string) ∧ Below w.heap.size w w'
set_option maxRecDepth 100000 in
set_option maxHeartbeats 2000000 in
theorem names_any {w : World} {db : Nat} {o : Owner} {d : Dsk} (h : DiskAt w db o d) (hn : d.files.length ≤ 1000) :
    Calls Tryz.prog 33 #[ptrTo db] w (NamesPost w d) := by
  obtain ⟨mf, ml, l, h⟩ := h
  have HD := Lib.hid h
  have hstrip : d.files.map (·.1) = l.map (·.1) := by rw [← h.strip, List.map_map]; rfl
  have HN : Hid (l.length ≤ 1000) := Lib.hid (by rw [← h.strip, List.length_map] at hn; exact hn)
  unfold NamesPost
  rw [hstrip]
  obtain ⟨⟨hc0, hc1, hc2, hc3, hc4⟩, hf2, hf3, hf4⟩ := h.head.cells
  clear h hc1 hc2 hc3 hc4 hf2 hf3 hf4 hstrip hn
  unfold ptrTo
  go_enter Tryz.func33, Tryz.ntmps33
  go_wp2_with (at_range; refine wpList_rng _ rfl _ _ rfl 157 Tryz.underlying137 mf l rfl HD.out.files ?_; intro ob hi0)
  go_frame
  have hmf := HD.out.owned _ _ HD.out.omf
  go_loopw [3] (fun v wr => ∃ (todo : List (Name × (Nat × DFile))) (acc : List Name), wr.ownsRow (w.heap.size + 1) 9 1 v acc.length (acc.map Value.string) ∧ IterAt Tryz.prog 9 Value.string (fun x : Nat × DFile => ptrTo x.1) wr mf w.heap.size l todo ∧ Below w.heap.size w wr ∧ Hid ((acc ++ todo.map (·.1)).Perm (l.map (·.1)))) (fun _ wr => wr.rangeLeft mf w.heap.size)
  case atStart => exact ⟨_, [], ⟨rfl, .inl ⟨rfl, rfl⟩⟩, hi0, (Below.refl _ _).alloc (Nat.le_refl _) _, Lib.hid (List.Perm.refl _)⟩
  case round =>
    generalize u3 = v at *
    obtain ⟨todo, acc, hr, hi, hb, hk⟩ := hrel
    have HB := Lib.hid hb
    have HR := Lib.hid hr
    clear hb hr hi0
    go_wp2_with (at_next; refine wpList_nxt _ rfl _ rfl mf w.heap.size l todo rfl hi ?_ ?_)
    · rintro rfl
      have HK : Hid (acc.Perm (l.map (·.1))) := Lib.hid (by simpa using hk.out)
      have HL : Hid (acc.length ≤ 1000) := Lib.hid (by
        have h1 := HK.out.length_eq
        have h2 := HN.out
        rw [List.length_map] at h1
        omega)
      clear hk hi
      obtain ⟨hlen, ⟨rfl, h0⟩ | ⟨g, cap, cur, rfl, hg, hh, hnc, hcm, hcs, hx⟩⟩ := HR.out
      · have HC := Lib.hid (Any.slices_Sort_string_none Tryz.sortStrs none 0 wr)
        go_wp2_with fail
        refine HC.out.mono ?_
        rintro e w2 ⟨rfl, rfl⟩
        go_wp2
        go_ret
        exact ⟨_, acc, rfl, HK.out, HR.out, HB.out⟩
      · have HC := Lib.hid (sortStrs_any rfl (by have := HL.out; omega) HR.out)
        clear hlen hh hcs hx
        go_wp2_with fail
        refine HC.out.mono ?_
        rintro e w2 ⟨ts, rfl, hp, hr2, ht⟩
        have HP2 := Lib.hid hp
        have HR2 := Lib.hid hr2
        have HT2 := Lib.hid ht
        clear hp hr2 ht HC
        go_wp2
        go_ret
        refine ⟨_, ts, rfl, HP2.out.trans HK.out, by rw [HP2.out.length_eq]; exact HR2.out, ?_⟩
        have h0 : Turn (fun x => w.heap.size ≤ x) w wr := Turn.ofBelow HB.out
        exact (h0.trans HT2.out (fun x hx e => by omega)).below (Nat.le_refl _) (fun _ h => h)
    · intro nm pf f rs w1 ob1 hp hal hi1 hen
      have hb1 : Below w.heap.size w (setBlock w1 w.heap.size ob1) := by
        have : Turn (fun x => w.heap.size ≤ x) w (setBlock w1 w.heap.size ob1) := by
          have h0 : Turn (fun x => w.heap.size ≤ x) w wr := Turn.ofBelow HB.out
          rcases hal with rfl | rfl
          · exact h0.setBlock _ _ (.inl (Nat.le_refl _))
          · exact h0.drew.setBlock _ _ (.inl (Nat.le_refl _))
        exact this.below (Nat.le_refl _) (fun _ h => h)
      have hr1 : (setBlock w1 w.heap.size ob1).ownsRow (w.heap.size + 1) 9 1 v acc.length (acc.map Value.string) := by
        refine ownsRow_heap HR.out (fun x hx => ?_)
        have := ownsRow_block HR.out x hx
        have hne : x ≠ w.heap.size := by omega
        rcases hal with rfl | rfl
        · exact heap_setBlock_none _ hne
        · exact heap_setBlock_none _ hne
      have HP := Lib.hid hp
      have HI := Lib.hid hi
      have HR1 := Lib.hid hr1
      have HB1 := Lib.hid hb1
      have HLE : Hid (acc.length ≤ 1000 ∧ w.heap.size + 1 ≤ (setBlock w1 w.heap.size ob1).heap.size) := Lib.hid ⟨by
        have h1 := hk.out.length_eq
        have h2 := HN.out
        simp only [List.length_append, List.length_map] at h1
        omega, hi1.lt⟩
      clear hp hi hb1 hr1
      unfold ptrTo at hen
      generalize hW : setBlock w1 w.heap.size ob1 = W at hen HR1 HB1 hi1 HLE ⊢
      clear hW
      have HI1 := Lib.hid hi1
      clear hi1
      go_wp2_with (refine wpList_append_str rfl _ _ rfl (w.heap.size + 1) _ acc rfl HR1.out nm 1 rfl (by have := HLE.out; omega) HLE.out.2 (fun v2 w2 h2 ha => ?_))
      obtain ⟨⟨q1, q2, q3, q4, q5⟩, -⟩ := ha
      have hsz : (W.alloc (.cells #[.string nm] 9)).heap.size = W.heap.size + 1 := by simp
      have hlt := HLE.out.2
      have hblk : ∀ x, x ≤ w.heap.size → w2.heap[x]? = W.heap[x]? := fun x hx => by
        rw [q5 x (by rw [hsz]; omega) (fun e => by have := ownsRow_block HR1.out x (by first | exact e | exact e.symm); omega)]
        exact (MapKept.heap_alloc W _).2 _ (by omega)
      have hi2 : IterAt Tryz.prog 9 Value.string (fun x : Nat × DFile => ptrTo x.1) w2 mf w.heap.size l rs := HI1.out.kept (hblk _ (by omega)) (hblk _ (Nat.le_refl _))
      refine ⟨⟨rs, acc ++ [nm], h2, hi2, ?_, Lib.hid ?_⟩, ?_⟩
      · refine HB1.out.trans ⟨by rw [q1]; rfl, by rw [q2]; rfl, by rw [q3]; rfl, by rw [hsz] at q4; omega, fun k hk => hblk k (by omega)⟩
      · have h1 := (HP.out.map (·.1)).append_left acc
        simp only [List.map_cons] at h1
        rw [List.append_assoc]
        exact h1.symm.trans hk.out
      · have e2 := HP.out.length_eq
        rw [List.length_cons] at e2
        rw [hi2.left, HI.out.left]
        omega
end Go.Proofs.YtolieljpnafbhaaGreatDoor
namespace Go.Proofs.YtolieljpnafbhaaGreatDoor
open Go.RowKit Go.Maps
def nmIn : Name := ⟨#[105, 110]⟩
def nmOut : Name := ⟨#[111, 117, 116]⟩
/-- One file, of edges. -/
def OneL (nm : Name) (es : List Edg) (L : Logic) : Prop := (∃ fl, mget L nm = some (edgeFile es fl)) ∧ (∀ y, y ≠ nm → mget L y = none) ∧ need L ≤ 4 * es.length
theorem OneL.add {nm : Name} {es : List Edg} {x : Edg} {L : Logic} (h : OneL nm es L) : OneL nm (es ++ [x]) (mput L nm (edgeFile (es ++ [x]) false)) := by
  refine ⟨⟨false, by rw [mget_mput, if_pos rfl]⟩, fun y hy => by rw [only_mput h.2.1]; rw [← only_mput (L := []) (fun _ _ => rfl), mget_mput, if_neg hy]; rfl, ?_⟩
  rw [only_mput h.2.1, need_cons]
  have := edgeFile_need (es ++ [x]) false
  show _ + 0 ≤ _
  omega
theorem Kept.quoted {q0 q : Nat} {w0 w w' : World} {pb db n : Nat} {o : Owner} {d : Dsk} {L : Logic} (h : Kept q0 w0 w pb db n o d L) (hp : PoolAt w' pb db n o { d with quota := q } L) (ht : Turn (· = db) w w') : Kept q w0 w' pb db n o { d with quota := q } L := by
  have hz := h.below.size
  have hdb : w0.heap.size ≤ db := by
    obtain ⟨_, _, _, _, _, g, _, _⟩ := h.pool
    exact h.new _ _ g.odb
  refine ⟨hp, h.new, h.below.trans ⟨ht.os, ht.tape, ht.output, ht.size, fun k hk => ht.block k (by omega) (by omega)⟩, h.armed, h.dead, rfl⟩
def BegunPost (q : Nat) (w : World) (n : Nat) (es : List Edg) (e : Ending) (w' : World) : Prop :=
  ∃ db pb o d, e = .returned (.tuple #[ptrTo db, ptrTo pb]) ∧ Kept q w w' pb db n o d [(nmIn, edgeFile es true)]
set_option maxRecDepth 100000 in
set_option maxHeartbeats 4000000 in
theorem begun_any (HW : WriteSaid) (q : Nat) (hq : q ≤ 1048576) (n : Nat) (h1 : 1 ≤ n) (h2 : n ≤ 4096) (v : Value) (es : List Edg) (w : World) (hv : RdE w v es) (hl : es.length ≤ 10000) :
    Calls Tryz.prog 26 #[.int .i64 (q : Int), .int .i64 (n : Int), v] w (BegunPost q w n es) := by
  have hnd : Hid (Calls Tryz.prog 57 #[.int .i64 65536] w fun e w' => ∃ db o, e = .returned (.tuple #[ptrTo db, .int .i64 0]) ∧ DiskAt w' db o (Dsk.new 65536) ∧ Below w.heap.size w w' ∧ ∀ x t, o x = some t → w.heap.size ≤ x) := Lib.hid (newDisk_any 65536 (by decide) w)
  have hnp : Hid (∀ W db o, DiskAt W db o (Dsk.new 65536) → Calls Tryz.prog 58 #[ptrTo db, .int .i64 (n : Int)] W (NewPoolPost W db n o (Dsk.new 65536) [])) := Lib.hid (fun W db o h => newPool_any h n h1 h2 (sound_new _ n))
  have HV := Lib.hid hv
  obtain ⟨a, cap, rfl, -⟩ := hv
  unfold ptrTo at *
  go_enter Tryz.func26, Tryz.ntmps26
  go_wp2_with fail
  refine hnd.out.mono ?_
  rintro e w1 ⟨db, o1, rfl, hd1, hb1, hn1⟩
  have hcp := Lib.hid (hnp.out w1 db o1 hd1)
  have HB1 := Lib.hid hb1
  have HN1 := Lib.hid hn1
  clear hd1 hb1 hn1 hnd hnp
  unfold ptrTo at *
  go_wp2_with fail
  refine hcp.out.mono ?_
  rintro e w2 ⟨pb, o2, rfl, hp2, hb2, hg2, hpb⟩
  have HH2 : Hid (Kept 65536 w w2 pb db n o2 (Dsk.new 65536) []) := Lib.hid ⟨hp2, fun x t hx => by
    rcases Nat.lt_or_ge x w1.heap.size with hl | hg
    · rw [hg2 x hl] at hx; exact HN1.out x t hx
    · exact Nat.le_trans HB1.out.size hg, HB1.out.trans (hb2.mono HB1.out.size), rfl, rfl, rfl⟩
  clear hp2 hb2 hg2 hpb hcp
  have hc0 : createCode (Dsk.new 65536) [] nmIn = 0 := by decide
  have hcr := Lib.hid (create_pool HH2.out.pool nmIn (by decide))
  unfold CreatePost at hcr
  rw [hc0] at hcr
  simp only [if_true] at hcr
  clear hc0
  have HOP : Hid (∀ W o' d' L', PoolAt W pb db n o' d' L' → d'.dead = false → OneL nmIn [] L' → Calls Tryz.prog 29 #[ptrTo pb, .string nmIn, .int .i64 20] W (StreamOpenPost W pb nmIn 20 0)) := Lib.hid (fun W o' d' L' hp hd hr => by
    have h3 := streamOpen_any (sz := 20) hp nmIn (by decide) (by decide) (by decide)
    obtain ⟨fl, hfl⟩ := hr.1
    rw [pfOpen_paged hp hfl, hd] at h3
    exact h3)
  have HADD : Hid (∀ W o' d' L' sb rv (x : Edg) (k : Nat), PoolAt W pb db n o' d' L' → StreamAt W sb pb nmIn 20 → o' sb = none → OneL nmIn (es.take k) L' → Rd W rv x.bytes → (∀ y, rv.ownBlock = some y → o' y = none) → Calls Tryz.prog 60 #[ptrTo sb, rv] W (LaidPost (fun _ => False) n pb db W o' d' L' (mput L' nmIn (edgeFile (es.take k ++ [x]) false)))) := Lib.hid (fun W o' d' L' sb rv x k hp hst ho hr hrd hro => by
    obtain ⟨fl, hfl⟩ := hr.1
    have h3 := streamAdd_any HW hp hst ho (by decide) (by decide) hfl (sized_edges _) (by rw [List.length_map, List.length_take]; omega) hrd x.bytes_length hro
    unfold edgeFile
    rw [List.map_append]
    exact h3)
  have hraw0 : Hid (OneL nmIn [] (mput [] nmIn (.inl (([] : List Pg), true)))) := Lib.hid ⟨⟨true, by rw [mget_mput, if_pos rfl]; rfl⟩, fun y hy => by rw [mget_mput, if_neg hy]; rfl, Nat.le_refl _⟩
  unfold ptrTo nmIn at *
  go_wp2_with fail
  refine hcr.out.mono ?_
  rintro e w3 ⟨d3, o3, rfl, hm3, hx3, -⟩
  have HD3 := Lib.hid (hx3 trivial)
  have HH3 := Lib.hid (HH2.out.moved hm3 (fun _ h => h.elim))
  clear hm3 hx3 hcr
  have hop := Lib.hid (HOP.out w3 o3 d3 _ HH3.out.pool HD3.out hraw0.out)
  go_wp2_with fail
  refine hop.out.mono ?_
  rintro e w4 ⟨v4, rfl, hb4, hs4, -⟩
  obtain ⟨sb, rfl, hst4, hsb⟩ := hs4 rfl
  have HST4 := Lib.hid hst4
  have HOS4 : Hid (o3 sb = none) := Lib.hid (HH3.out.pool.fresh hsb)
  have HH4 := Lib.hid (HH3.out.later hb4)
  clear hs4 hst4 hsb hb4 hop
  unfold ptrTo at *
  obtain ⟨M, hM⟩ : ∃ M, M = es.length := ⟨_, rfl⟩
  rw [← hM] at hl
  have HV' := HV
  rw [← hM] at HV' ⊢
  have HME := Lib.hid hM
  clear hM HV
  go_wp2
  go_loopw [12] (fun i wr => ∃ (k : Nat) (d' : Dsk) (o' : Owner) (L' : Logic), k ≤ M ∧ i = .int .i64 (k : Int) ∧ Kept 65536 w wr pb db n o' d' L' ∧ OneL nmIn (es.take k) L' ∧ StreamAt wr sb pb ⟨#[105, 110]⟩ 20 ∧ o' sb = none) (fun i _ => M - (intOf i).toNat)
  case atStart => exact ⟨0, d3, o3, _, Nat.zero_le _, rfl, HH4.out, hraw0.out, HST4.out, HOS4.out⟩
  case round =>
    obtain ⟨k, d5, o5, L5, hk, rfl, hh5, hr5, hst5, hos5⟩ := hrel
    have HH5 := Lib.hid hh5
    have HR5 := Lib.hid hr5
    have HST5 := Lib.hid hst5
    have HOS5 := Lib.hid hos5
    clear hh5 hr5 hst5 hos5
    by_cases hlt : k < M
    · have hkl : k < es.length := by rw [← HME.out]; exact hlt
      have hx : es[k]? = some es[k] := List.getElem?_eq_getElem hkl
      have HTK : Hid (es.take (k + 1) = es.take k ++ [es[k]]) := Lib.hid (List.take_succ_eq_append_getElem hkl)
      obtain ⟨a', cap', hve, hce⟩ := HV'.out
      obtain ⟨rfl, -, rfl⟩ : a = a' ∧ M = es.length ∧ cap = cap' := by simpa using hve
      obtain ⟨b, off, rfl, hcf⟩ := hce.resolve_left (by omega)
      obtain ⟨q0, q1, q2, q3⟩ := hcf k _ hx
      generalize es[k] = x at *
      clear hce hcf hve hx hkl
      have z0 := cellBelow HH5.out.below q0
      have z1 := cellBelow HH5.out.below q1
      have z2 := cellBelow HH5.out.below q2
      have z3 := cellBelow HH5.out.below q3
      clear q0 q1 q2 q3
      have hre := Lib.hid (refEdge_any x wr)
      go_wp2_with fail
      refine hre.out.mono ?_
      rintro e w6 ⟨v6, rfl, hb6, hB6⟩
      have hadd := Lib.hid (HADD.out w6 o5 d5 L5 sb v6 x k (HH5.out.pool.below hB6) (HST5.out.below hB6) HOS5.out HR5.out hb6.rd (fun y hy => HH5.out.pool.fresh (hb6.lt y hy).1))
      have HH6 := Lib.hid (HH5.out.later hB6)
      have HST6 := Lib.hid (HST5.out.below hB6)
      clear hb6 hB6 hre z0 z1 z2 z3
      go_wp2_with fail
      refine hadd.out.mono ?_
      rintro e w7 ⟨c7, d7, o7, rfl, hm7, he7⟩
      have hra := HR5.out.add (x := x)
      have hc7 : c7 = 0 := HH6.out.fine' hm7 he7 (by
        have := HR5.out.2.2
        rw [List.length_take] at this
        omega)
      subst hc7
      rw [if_pos rfl] at hm7
      rw [← HTK.out] at hra hm7
      have HH7 := Lib.hid (HH6.out.moved hm7 (fun _ h => h.elim))
      have HR7 := Lib.hid hra
      have HST7 := Lib.hid (HST6.out.moved hm7 HOS5.out (fun h => h))
      have HOS7 := Lib.hid (hm7.free HST6.out.lt HOS5.out)
      clear hm7 he7 hra hadd HH6 HST6
      go_wp2
      go_roundw
      case rel => exact ⟨k + 1, d7, o7, _, by omega, by go_num, HH7.out, HR7.out, HST7.out, HOS7.out⟩
      case measure => simp [intOf]; omega
    · have hkM : k = es.length := by rw [← HME.out]; omega
      have HR6 : Hid (OneL nmIn es L5) := Lib.hid (by have := HR5.out; rwa [List.take_of_length_le (by omega)] at this)
      obtain ⟨fl5, hfl5⟩ := HR6.out.1
      have HFL := Lib.hid (flush_pool HW HH5.out.pool hfl5)
      have hone : mput L5 nmIn (edgeFile es true) = [(nmIn, edgeFile es true)] := only_mput HR6.out.2.1
      have HONE := Lib.hid hone
      clear hone hfl5 HADD HST5 HV'
      unfold ptrTo nmIn at *
      go_wp2_with fail
      refine HFL.out.mono ?_
      rintro e w6 ⟨c6, d6, o6, rfl, hm6, he6⟩
      have hc6 : c6 = 0 := HH5.out.fine' hm6 he6 (by have := HR6.out.2.2; omega)
      subst hc6
      rw [if_pos rfl] at hm6
      have hm6' : Moved (fun _ => False) n pb db wr o5 d5 w6 o6 d6 [(⟨#[105, 110]⟩, edgeFile es true)] := by
        have := HONE.out
        unfold edgeFile at this ⊢
        rw [← this]
        exact hm6
      have HH6 := Lib.hid (HH5.out.moved hm6' (fun _ h => h.elim))
      have HQ := Lib.hid (quota_any HH6.out.pool q hq)
      clear hm6 hm6' he6 HFL HH5 HR5 HR6
      unfold ptrTo at *
      go_wp2_with fail
      refine HQ.out.mono ?_
      rintro e w7 ⟨rfl, hp7, ht7⟩
      have HH7 := Lib.hid (HH6.out.quoted hp7 ht7)
      clear hp7 ht7 HQ HH6
      go_wp2
      go_returns
      exact ⟨db, pb, o6, { d6 with quota := q }, rfl, HH7.out⟩
end Go.Proofs.YtolieljpnafbhaaGreatDoor
namespace Go.Proofs.YtolieljpnafbhaaGreatDoor
open Go.RowKit Go.Maps
section
variable {q : Nat} {w0 w w' : World} {pb db n : Nat} {o o' : Owner} {d d' : Dsk} {L L' L2 : Logic}
theorem Kept.same (h : Kept q w0 w pb db n o d L) (hk : (L2.map (·.1)).Nodup) (he : ∀ x, mget L2 x = mget L x) : Kept q w0 w pb db n o d L2 :=
  ⟨h.pool.congr hk he, h.new, h.below, h.armed, h.dead, h.quota⟩
def KeptSort (q : Nat) (w0 : World) (pb db n : Nat) (L : Logic) (e : Ending) (w' : World) : Prop := ∃ d' o', e = .returned (.int .i64 0) ∧ Kept q w0 w' pb db n o' d' L
theorem two_L {inn out : Name} (f g : LFile) (h : inn ≠ out) : mput [(inn, f)] out g = [(out, g), (inn, f)] := by
  unfold mput mdel
  simp [h]
theorem kept_sort (HW : WriteSaid) {m : Nat} (HJS : JobSortSaid m) {inn out : Name} {es : List Edg} {fl : Bool} (h : Kept q w0 w pb db n o d [(inn, edgeFile es fl)]) (hn : 8 ≤ n) (b : Bool) (hio : inn ≠ out) (hi : ownName inn = false) (ho : ownName out = false) (hout : okName out = true)
    (hm : es.length ≤ m) (hq : 12 * es.length ≤ q) :
    Calls Tryz.prog 28 #[ptrTo pb, .string inn, .string out, .int .i64 (byNum b : Int)] w (KeptSort q w0 pb db n [(out, edgeFile (bestOf b es) true), (inn, edgeFile es fl)]) := by
  have hget : ∀ x, mget [(inn, edgeFile es fl)] x = if x = inn then some (edgeFile es fl) else none := fun x => by
    unfold mget
    by_cases hx : x = inn
    · subst hx; simp
    · have : ¬ inn = x := fun e => hx e.symm
      simp [hx, this]
  have hgi : mget [(inn, edgeFile es fl)] inn = some (edgeFile es fl) := by rw [hget, if_pos rfl]
  refine (sort_done (by' := b) HW HJS h.pool hn hgi hio hi ho hout (by rw [hget, if_neg (fun e => hio e.symm)]) (fun k => by
    rw [hget, if_neg]
    intro e
    have h1 := ownName_t k
    rw [e, hi] at h1
    cases h1) hm).mono ?_
  rintro e w' ⟨c, d', o', L', rfl, hmv, -, hc⟩
  have hneed : need [(inn, edgeFile es fl)] ≤ 4 * es.length := by
    rw [need_cons]
    have := edgeFile_need es fl
    show _ + 0 ≤ _
    omega
  have h0 : c = 0 := h.fine hmv (hc.imp (fun h => h.1) id) (by omega)
  subst h0
  rcases hc with ⟨_, hL⟩ | hc
  · refine ⟨d', o', rfl, (h.moved hmv (fun _ h => h.elim)).same ?_ (fun x => ?_)⟩
    · simp
      exact fun e => hio e.symm
    · rw [hL x, two_L _ _ hio]
  · exact absurd rfl hc.ne
end
def e21 : Edg := ⟨2, 1, 5, 4294967295⟩
def e12 : Edg := ⟨1, 2, 7, 4294967295⟩
theorem best_two : bestOf false [e21, e12] = [e12, e21] := by
  refine (Best.eq (b := false) ⟨?_, fun e he => ?_, fun x hx hn => ?_⟩).symm
  · rw [List.pairwise_cons]
    exact ⟨fun a ha => by rw [List.mem_singleton] at ha; subst ha; decide, List.pairwise_singleton _ _⟩
  · simp only [List.mem_cons, List.not_mem_nil, or_false] at he ⊢
    rcases he with rfl | rfl
    · refine ⟨.inr rfl, by decide, fun x hx hs => ?_⟩
      rcases hx with rfl | rfl
      · exact absurd hs.1 (by decide)
      · exact Nat.le_refl _
    · refine ⟨.inl rfl, by decide, fun x hx hs => ?_⟩
      rcases hx with rfl | rfl
      · exact Nat.le_refl _
      · exact absurd hs.1 (by decide)
  · simp only [List.mem_cons, List.not_mem_nil, or_false] at hx ⊢
    rcases hx with rfl | rfl
    · exact ⟨_, .inr rfl, ⟨rfl, rfl⟩⟩
    · exact ⟨_, .inl rfl, ⟨rfl, rfl⟩⟩
theorem names_kept {q : Nat} {w0 w : World} {pb db n : Nat} {o : Owner} {d : Dsk} {L : Logic} (h : Kept q w0 w pb db n o d L) (hl : L.length ≤ 1000) :
    Calls Tryz.prog 33 #[ptrTo db] w fun e w' => ∃ a cap, e = .returned (.slice a L.length cap) ∧ Kept q w0 w' pb db n o d L := by
  have hc := h.count
  have hd : DiskAt w db o d := by
    obtain ⟨_, _, _, _, _, g, _, _⟩ := h.pool
    exact g.disk
  refine (names_any hd (by omega)).mono ?_
  rintro e w' ⟨v, ns, rfl, hp, hr, hb⟩
  have hlen : ns.length = L.length := by
    have := hp.length_eq
    rw [List.length_map] at this
    omega
  rw [hlen] at hr
  obtain ⟨a, cap, rfl⟩ := ownsRow_slice hr
  exact ⟨a, cap, rfl, h.later hb⟩
set_option maxRecDepth 100000 in
set_option maxHeartbeats 4000000 in
theorem works12_any (HW : WriteSaid) {m : Nat} (HJS : JobSortSaid m) (hm : 2 ≤ m) (w : World) :
    Calls Tryz.prog 25 #[] w fun e w' => e = .returned (.bool true) ∧ Below w.heap.size w w' := by
  go_enter Tryz.func25, Tryz.ntmps25
  have HB0 : Hid (Below w.heap.size w (w.alloc (.cells #[.int .u32 2, .int .u32 1, .int .u64 5, .int .u32 4294967295, .int .u32 1, .int .u32 2, .int .u64 7, .int .u32 4294967295] 47))) := Lib.hid ((Below.refl _ _).alloc (Nat.le_refl _) _)
  have HR0 : Hid (RdE (w.alloc (.cells #[.int .u32 2, .int .u32 1, .int .u64 5, .int .u32 4294967295, .int .u32 1, .int .u32 2, .int .u64 7, .int .u32 4294967295] 47)) (.slice (some ⟨w.heap.size, 0, none⟩) 2 2) [e21, e12]) := Lib.hid ⟨_, 2, rfl, .inr ⟨w.heap.size, 0, rfl, fun j x hx => by
    match j, hx with
    | 0, hx => cases hx; simp [e21]
    | 1, hx => cases hx; simp [e12]
    | j + 2, hx => cases hx⟩⟩
  go_wp2_with fail
  generalize w.alloc (.cells #[.int .u32 2, .int .u32 1, .int .u64 5, .int .u32 4294967295, .int .u32 1, .int .u32 2, .int .u64 7, .int .u32 4294967295] 47) = W0 at *
  refine (begun_any HW 65536 (by decide) 8 (by decide) (by decide) _ [e21, e12] W0 HR0.out (by decide)).mono ?_
  rintro e w1 ⟨db, pb, o1, d1, rfl, hh1⟩
  have HH1 := Lib.hid hh1
  clear hh1
  have hso := Lib.hid (kept_sort HW HJS (inn := nmIn) (out := nmOut) HH1.out (by decide) false (by decide) (by decide) (by decide) (by decide) hm (by decide))
  rw [best_two] at hso
  unfold nmIn nmOut ptrTo at *
  go_wp2_with fail
  refine hso.out.mono ?_
  rintro e w2 ⟨d2, o2, rfl, hh2⟩
  have HH2 := Lib.hid hh2
  clear hso hh2
  have hop := Lib.hid (streamOpen_any (sz := 20) HH2.out.pool nmOut (by decide) (by decide) (by decide))
  rw [pfOpen_paged HH2.out.pool (name := nmOut) (ps := pagesOf (per 20) ([e12, e21].map Edg.bytes)) (fl := true) rfl, HH2.out.dead] at hop
  unfold nmOut ptrTo at hop
  simp only [Bool.false_eq_true, if_false] at hop
  go_wp2_with fail
  refine hop.out.mono ?_
  rintro e w3 ⟨v3, rfl, hb3, hs3, -⟩
  obtain ⟨sb, rfl, hst3, hsb⟩ := hs3 rfl
  have HH3 := Lib.hid (HH2.out.later hb3)
  have HOS3 : Hid (o2 sb = none) := Lib.hid (HH2.out.pool.fresh hsb)
  have hget := Lib.hid (streamGet_in HW HH3.out.pool hst3 HOS3.out (by decide) (by decide) (rs := [e12, e21].map Edg.bytes) (fl := true) rfl (sized_edges _) (i := 0) (by decide))
  clear hs3 hst3 hsb hb3 hop HH2
  unfold ptrTo at *
  go_wp2_with fail
  refine hget.out.mono ?_
  rintro e w4 ⟨v4, c4, d4, o4, rfl, hm4, he4, hr4, -⟩
  have hc4 : c4 = 0 := HH3.out.fine' hm4 he4 (by decide)
  subst hc4
  obtain ⟨hr4, -⟩ := hr4 rfl
  have HH4 := Lib.hid (HH3.out.moved hm4 (fun _ h => h.elim))
  have hrd : Hid (Calls Tryz.prog 32 #[v4] w4 (Gives (.tuple #[.agg #[.int .u32 1, .int .u32 2, .int .u64 7, .int .u32 4294967295], .int .i64 0]) w4)) := Lib.hid (readEdg_any v4 e12 w4 (Rd_own hr4))
  clear hm4 he4 hr4 hget HH3
  go_wp2_with fail
  refine hrd.out.mono ?_
  rintro e w5 ⟨rfl, hb5⟩
  have HH5 := Lib.hid ((HH4.out.later hb5).later ((Below.refl _ _).alloc (Nat.le_refl _) (.cells #[.int .u32 1, .int .u32 2, .int .u64 7, .int .u32 4294967295] 47)))
  have hc : (w5.alloc (.cells #[.int .u32 1, .int .u32 2, .int .u64 7, .int .u32 4294967295] 47)).cell? ⟨w5.heap.size, 0, none⟩ = some (.int .u32 1) := by simp
  have hnm := Lib.hid (names_kept HH5.out (by decide))
  clear hb5 hrd HH4
  unfold ptrTo at *
  go_wp2_with fail
  refine hnm.out.mono ?_
  rintro e w6 ⟨a6, cap6, rfl, hh6⟩
  have HH6 := Lib.hid hh6
  clear hh6 hnm HH5 hc
  simp only [List.length_cons, List.length_nil] at *
  go_wp2
  go_ret
  exact ⟨rfl, HB0.out.trans (HH6.out.below.mono HB0.out.size)⟩
end Go.Proofs.YtolieljpnafbhaaGreatDoor
namespace Go.Proofs.YtolieljpnafbhaaGreatDoor
open Go.ChangeShapes Go.WideShapes Go.ChangeAt Go.RowKit Go.Joins
theorem laidOutE : laidOutB Tryz.prog = true := by kernel_rfl
theorem spot_noneE {w : World} {a : Addr} {v : Value} (h : w.cell? a = some v) : a.spot = none := by
  obtain ⟨b, o, s⟩ := a
  cases s with
  | none => rfl
  | some s =>
    unfold World.cell? at h
    simp at h
    split at h <;> cases h
theorem u32_ofE {z : Int} (h : (Lit.int .u32 z).wf = true) : z = ((UInt32.ofNat z.toNat).toNat : Int) := by
  simp [Lit.wf] at h
  have h0 : IntKind.u32.min = 0 := rfl
  have h1 : IntKind.u32.max = 4294967295 := rfl
  rw [h0, h1] at h
  rw [UInt32.toNat_ofNat']
  omega
theorem u64_ofE {z : Int} (h : (Lit.int .u64 z).wf = true) : z = ((UInt64.ofNat z.toNat).toNat : Int) := by
  simp [Lit.wf] at h
  have h0 : IntKind.u64.min = 0 := rfl
  have h1 : IntKind.u64.max = 18446744073709551615 := rfl
  rw [h0, h1] at h
  rw [UInt64.toNat_ofNat']
  omega
theorem u8_ofE {z : Int} (h : (Lit.int .u8 z).wf = true) : ∃ k : Nat, k < 256 ∧ z = (k : Int) := by
  simp [Lit.wf] at h
  have h0 : IntKind.u8.min = 0 := rfl
  have h1 : IntKind.u8.max = 255 := rfl
  rw [h0, h1] at h
  exact ⟨z.toNat, by omega, by omega⟩
theorem u16_ofE {z : Int} (h : (Lit.int .u16 z).wf = true) : ∃ k : Nat, k < 65536 ∧ z = (k : Int) := by
  simp [Lit.wf] at h
  have h0 : IntKind.u16.min = 0 := rfl
  have h1 : IntKind.u16.max = 65535 := rfl
  rw [h0, h1] at h
  exact ⟨z.toNat, by omega, by omega⟩
theorem cellsEdge : Tryz.prog.cellsOf 47 = 4 := by kernel_rfl
theorem cellsU32e : Tryz.prog.cellsOf 23 = 1 := by kernel_rfl
theorem cellsU64e : Tryz.prog.cellsOf 45 = 1 := by kernel_rfl
set_option maxRecDepth 100000 in
theorem opened_edges {H : Type} {enc : TypeId × Value → H} {W : World} {sp : Nat → Bool} {a : Option Addr} {len cap : Nat} {d : DataW H} {p : List MemPlace} (h : DataW.Trod enc Tryz.prog W 0 sp true 40 (.slice a len cap) d p) :
    ∃ vs, RdE W (.slice a len cap) vs := by
  obtain ⟨fuel, hf⟩ := h
  rcases Deep.open_slice Tryz.underlying40 hf with ⟨hcs, -⟩ | ⟨a', len', cap', m, n, D, Pl, hcs, -, hl, -, hm, -, hx⟩
  · simp [Value.cells] at hcs
    obtain ⟨rfl, rfl, rfl⟩ := hcs
    exact ⟨[], none, 0, rfl, .inl rfl⟩
  · simp [Value.cells] at hcs
    obtain ⟨rfl, rfl, rfl⟩ := hcs
    have hlm : len ≤ m := by rw [hm]; split <;> omega
    rw [cellsEdge] at hx
    have each : ∀ i, i < len → ∃ x : Edg, W.cell? (a'.add (i * 4)) = some (.int .u32 (x.t.toNat : Int)) ∧ W.cell? (a'.add (i * 4 + 1)) = some (.int .u32 (x.h.toNat : Int)) ∧ W.cell? (a'.add (i * 4 + 2)) = some (.int .u64 (x.x.toNat : Int)) ∧ W.cell? (a'.add (i * 4 + 3)) = some (.int .u32 (x.m.toNat : Int)) := by
      intro i hi
      obtain ⟨cs', h1, h2⟩ := hx i (by omega)
      obtain ⟨_, hlen, hcell⟩ := World.cells?_some h1
      obtain ⟨xs, k, hk, hxy, _, hxl, hf⟩ := DataW.trod_struct Tryz.underlying47 h2
      match xs, hxl, cs', hlen with
      | [y0, y1, y2, y3], _, [v0, v1, v2, v3], _ =>
        have g0 := hf 0 _ rfl
        have g1 := hf 1 _ rfl
        have g2 := hf 2 _ rfl
        have g3 := hf 3 _ rfl
        simp [cellsU32e, cellsU64e] at g0 g1 g2 g3
        obtain ⟨n0, q0, -, w0⟩ := DataW.trod_int Tryz.underlying23 g0
        obtain ⟨n1, q1, -, w1⟩ := DataW.trod_int Tryz.underlying23 g1
        obtain ⟨n2, q2, -, w2⟩ := DataW.trod_int Tryz.underlying45 g2
        obtain ⟨n3, q3, -, w3⟩ := DataW.trod_int Tryz.underlying23 g3
        obtain ⟨rfl⟩ := q0
        obtain ⟨rfl⟩ := q1
        obtain ⟨rfl⟩ := q2
        obtain ⟨rfl⟩ := q3
        have e0 := hcell 0 (by omega)
        have e1 := hcell 1 (by omega)
        have e2 := hcell 2 (by omega)
        have e3 := hcell 3 (by omega)
        rw [Deep.add_add] at e0 e1 e2 e3
        exact ⟨⟨UInt32.ofNat n0.toNat, UInt32.ofNat n1.toNat, UInt64.ofNat n2.toNat, UInt32.ofNat n3.toNat⟩, by rw [← u32_ofE w0]; simpa using e0, by rw [← u32_ofE w1]; simpa using e1, by rw [← u64_ofE w2]; simpa using e2, by rw [← u32_ofE w3]; simpa using e3⟩
    have hv : ∃ vs : List Edg, vs.length = len ∧ ∀ (j : Nat) (x : Edg), vs[j]? = some x → W.cell? (a'.add (j * 4)) = some (.int .u32 (x.t.toNat : Int)) ∧ W.cell? (a'.add (j * 4 + 1)) = some (.int .u32 (x.h.toNat : Int)) ∧ W.cell? (a'.add (j * 4 + 2)) = some (.int .u64 (x.x.toNat : Int)) ∧ W.cell? (a'.add (j * 4 + 3)) = some (.int .u32 (x.m.toNat : Int)) := by
      clear hx hf
      generalize len = N at *
      clear hl hm hlm
      induction N with
      | zero => exact ⟨[], rfl, fun j x hj => by cases hj⟩
      | succ N ih =>
        obtain ⟨vs, h1, h2⟩ := ih (fun i hi => each i (by omega))
        obtain ⟨x, hx⟩ := each N (by omega)
        refine ⟨vs ++ [x], by simp [h1], fun j y hj => ?_⟩
        rcases Nat.lt_or_ge j vs.length with hlt | hge
        · rw [List.getElem?_append_left hlt] at hj
          exact h2 j y hj
        · rw [List.getElem?_append_right hge] at hj
          have : j - vs.length = 0 := by
            rcases Nat.eq_zero_or_pos (j - vs.length) with h | h
            · exact h
            · rw [List.getElem?_eq_none (by simp; omega)] at hj; cases hj
          rw [this] at hj
          cases hj
          rw [show j = N by omega]
          exact hx
    obtain ⟨vs, h1, h2⟩ := hv
    subst h1
    refine ⟨vs, some a', cap, rfl, ?_⟩
    rcases Nat.eq_zero_or_pos vs.length with h0 | h0
    · exact .inl h0
    · refine .inr ⟨a'.block, a'.off, ?_, ?_⟩
      · have h3 := (h2 0 vs[0] (List.getElem?_eq_getElem h0)).1
        have h4 := spot_noneE (a := a') (by simpa [Addr.add] using h3)
        obtain ⟨b, o, s⟩ := a'
        cases h4
        rfl
      · have h3 := (h2 0 vs[0] (List.getElem?_eq_getElem h0)).1
        have h4 := spot_noneE (a := a') (by simpa [Addr.add] using h3)
        intro j x hj
        have h5 := h2 j x hj
        obtain ⟨b, o, s⟩ := a'
        cases h4
        simp only [Addr_add] at h5
        exact ⟨h5.1, by rw [Nat.add_assoc]; exact h5.2.1, by rw [Nat.add_assoc]; exact h5.2.2.1, by rw [Nat.add_assoc]; exact h5.2.2.2⟩
end Go.Proofs.YtolieljpnafbhaaGreatDoor
namespace Go.Proofs.YtolieljpnafbhaaGreatDoor
open Go.RowKit Go.Maps
theorem rd_string {w : World} {v : Value} {bs : List UInt8} (h : Rd w v bs) : Sem.run Tryz.prog (convert 57 9 v) w = .ok (.string ⟨bs.toArray⟩) w := by
  obtain ⟨a, cap, rfl, hlc, hcm, hc⟩ := h
  have go : ∀ ad : Addr, a = some ad → (∀ (j : Nat) (hj : j < bs.length), w.cell? (ad.add j) = some (bv bs[j])) → Sem.run Tryz.prog (convert 57 9 (.slice a bs.length cap)) w = .ok (.string ⟨bs.toArray⟩) w := fun ad e hcell => by
    subst e
    exact run_convert_bytes_back (P := Tryz.prog) w 57 9 5 ad cap bs Tryz.underlying57 Tryz.underlying5 Tryz.underlying9 hcell
  rcases hc with hc | ⟨b, off, rfl, hcell⟩
  · cases a with
    | none =>
      have hb : bs = [] := List.length_eq_zero_iff.1 hc
      subst hb
      exact run_convert_bytes_nil w 57 5 Tryz.underlying57 Tryz.underlying5 0 cap 9 Tryz.underlying9
    | some ad => exact go ad rfl (fun j hj => by omega)
  · exact go _ rfl (fun j hj => by rw [Addr_add]; exact hcell j hj)
set_option maxRecDepth 100000 in
set_option maxHeartbeats 1000000 in
theorem eqBytes_same {w : World} {u v : Value} {bs : List UInt8} (hu : Rd w u bs) (hv : Rd w v bs) :
    Calls Tryz.prog 36 #[u, v] w fun e w' => e = .returned (.bool true) ∧ w = w' := by
  have h1 := rd_string hu
  have h2 := rd_string hv
  obtain ⟨a, cap, rfl, -⟩ := hu
  obtain ⟨a', cap', rfl, -⟩ := hv
  generalize bs.length = N at *
  go_enter Tryz.func36, Tryz.ntmps36
  go_wp2
  go_ret
  exact ⟨rfl, rfl⟩
set_option maxHeartbeats 1000000 in
theorem frames8_any (k : Nat) (hk : k < 256) (w : World) : Calls Tryz.prog 27 #[.int .u8 (k : Int)] w fun e w' => e = .returned (.int .i64 ((8 + k % 56 : Nat) : Int)) ∧ w = w' := by
  have hw1 : IntKind.i64.wrap (k : Int) = (k : Int) := wrap_in (by omega) (by omega)
  go_enter Tryz.func27, Tryz.ntmps27
  go_wp2
  go_ret
  exact ⟨ret_int (by omega), rfl⟩
end Go.Proofs.YtolieljpnafbhaaGreatDoor
namespace Go.Proofs.YtolieljpnafbhaaGreatDoor
open Go.RowKit Go.Maps
/-- No file has a name of a sort's own. -/
def Clean (L : Logic) : Prop := ∀ x, ownName x = true → mget L x = none
theorem Clean.t {L : Logic} (h : Clean L) (k : Nat) : mget L (tName k) = none := h _ (ownName_t k)
theorem one_get (x y : Name) (f : LFile) : mget [(x, f)] y = if y = x then some f else none := by
  unfold mget
  by_cases h : y = x
  · subst h; simp
  · have : ¬ x = y := fun e => h e.symm
    simp [h, this]
theorem clean_one {x : Name} (hx : ownName x = false) (f : LFile) : Clean [(x, f)] := fun y hy => by
  rw [one_get, if_neg (fun e => by rw [e, hx] at hy; cases hy)]
theorem name_ne {a b : Name} (h : a.data ≠ b.data) : a ≠ b := fun e => h (by rw [e])
end Go.Proofs.YtolieljpnafbhaaGreatDoor
