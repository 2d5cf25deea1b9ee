/-
  Joined, in build order: Law13, ShelfSort, DNames, Law12, Ext9, Law12b, CardE, Law12e.
-/
import Derived.Test.YtolieljpnafbhaaGreatDoorG16
import Derived.Shelf.Sort.Plain
import Derived.Shelf.Slices.In.SortNone
import Derived.Ground.NamesProg
import Derived.Test.YtolieljpnafbhaaGreatDoorProg
import Derived.Laws.BytesArg
/-
  milepostlaw13: Raw.
-/
namespace Go.Proofs.YtolieljpnafbhaaGreatDoor
open Go.RowKit Go.Maps

def nmX : Name := ⟨#[120]⟩

/-- The files of a raw graph. -/
def RawL (es : List Edg) (L : Logic) : Prop := (∃ fl, mget L nmX = some (edgeFile es fl)) ∧ (∀ y, y ≠ nmX → mget L y = none) ∧ need L ≤ 4 * es.length

theorem only_mput {L : Logic} {nm : Name} {f : LFile} (h : ∀ y, y ≠ nm → mget L y = none) : mput L nm f = [(nm, f)] := by
  unfold mput
  have : mdel L nm = [] := by
    rw [List.eq_nil_iff_forall_not_mem]
    rintro ⟨y, g⟩ hy
    have h1 : y ∈ (mdel L nm).map (·.1) := List.mem_map.2 ⟨_, hy, rfl⟩
    rw [mem_keys, mget_mdel] at h1
    split at h1
    · cases h1
    · rename_i hne
      rw [h y (by first | exact hne | exact fun e => hne e.symm)] at h1
      cases h1
  rw [this]

theorem RawL.add {es : List Edg} {x : Edg} {L : Logic} (h : RawL es L) : RawL (es ++ [x]) (mput L nmX (edgeFile (es ++ [x]) false)) := by
  refine ⟨⟨false, by rw [mget_mput, if_pos rfl]⟩, fun y hy => by rw [only_mput h.2.1]; rw [← only_mput (L := []) (fun _ _ => rfl), mget_mput, if_neg hy]; rfl, ?_⟩
  rw [only_mput h.2.1, need_cons]
  have := edgeFile_need (es ++ [x]) false
  show _ + 0 ≤ _
  omega

def RawPost (w : World) (n : Nat) (es : List Edg) (e : Ending) (w' : World) : Prop :=
  ∃ db pb o d L, e = .returned (.tuple #[ptrTo db, ptrTo pb]) ∧ Held w w' pb db n o d L ∧ RawL es L

set_option maxRecDepth 100000 in
set_option maxHeartbeats 4000000 in
theorem raw_any (HW : WriteSaid) (n : Nat) (h1 : 1 ≤ n) (h2 : n ≤ 4096) (v : Value) (es : List Edg) (w : World) (hv : RdE w v es) (hl : es.length ≤ 10000) :
    Calls Tryz.prog 16 #[.int .i64 (n : Int), v] w (RawPost w n es) := by
  have hnd : Hid (Calls Tryz.prog 57 #[.int .i64 131072] w fun e w' => ∃ db o, e = .returned (.tuple #[ptrTo db, .int .i64 0]) ∧ DiskAt w' db o (Dsk.new 131072) ∧ Below w.heap.size w w' ∧ ∀ x t, o x = some t → w.heap.size ≤ x) := Lib.hid (newDisk_any 131072 (by decide) w)
  have hnp : Hid (∀ W db o, DiskAt W db o (Dsk.new 131072) → Calls Tryz.prog 58 #[ptrTo db, .int .i64 (n : Int)] W (NewPoolPost W db n o (Dsk.new 131072) [])) := Lib.hid (fun W db o h => newPool_any h n h1 h2 (sound_new _ n))
  have HV := Lib.hid hv
  obtain ⟨a, cap, rfl, -⟩ := hv
  unfold ptrTo at *
  go_enter Tryz.func16, Tryz.ntmps16
  go_wp2_with fail
  refine hnd.out.mono ?_
  rintro e w1 ⟨db, o1, rfl, hd1, hb1, hn1⟩
  have hcp := Lib.hid (hnp.out w1 db o1 hd1)
  have HB1 := Lib.hid hb1
  have HN1 := Lib.hid hn1
  clear hd1 hb1 hn1 hnd hnp
  unfold ptrTo at *
  go_wp2_with fail
  refine hcp.out.mono ?_
  rintro e w2 ⟨pb, o2, rfl, hp2, hb2, hg2, hpb⟩
  have HH2 : Hid (Held w w2 pb db n o2 (Dsk.new 131072) []) := Lib.hid ⟨hp2, fun x t hx => by
    rcases Nat.lt_or_ge x w1.heap.size with hl | hg
    · rw [hg2 x hl] at hx; exact HN1.out x t hx
    · exact Nat.le_trans HB1.out.size hg, HB1.out.trans (hb2.mono HB1.out.size), rfl, rfl, rfl⟩
  clear hp2 hb2 hg2 hpb hcp
  have hc0 : createCode (Dsk.new 131072) [] nmX = 0 := by decide
  have hcr := Lib.hid (create_pool HH2.out.pool nmX (by decide))
  unfold CreatePost at hcr
  rw [hc0] at hcr
  simp only [if_true] at hcr
  clear hc0
  have HOP : Hid (∀ W o' d' L', PoolAt W pb db n o' d' L' → d'.dead = false → RawL [] L' → Calls Tryz.prog 29 #[ptrTo pb, .string nmX, .int .i64 20] W (StreamOpenPost W pb nmX 20 0)) := Lib.hid (fun W o' d' L' hp hd hr => by
    have h3 := streamOpen_any (sz := 20) hp nmX (by decide) (by decide) (by decide)
    obtain ⟨fl, hfl⟩ := hr.1
    rw [pfOpen_paged hp hfl, hd] at h3
    exact h3)
  have HADD : Hid (∀ W o' d' L' sb rv (x : Edg) (k : Nat), PoolAt W pb db n o' d' L' → StreamAt W sb pb nmX 20 → o' sb = none → RawL (es.take k) L' → Rd W rv x.bytes → (∀ y, rv.ownBlock = some y → o' y = none) → Calls Tryz.prog 60 #[ptrTo sb, rv] W (LaidPost (fun _ => False) n pb db W o' d' L' (mput L' nmX (edgeFile (es.take k ++ [x]) false)))) := Lib.hid (fun W o' d' L' sb rv x k hp hst ho hr hrd hro => by
    obtain ⟨fl, hfl⟩ := hr.1
    have h3 := streamAdd_any HW hp hst ho (by decide) (by decide) hfl (sized_edges _) (by rw [List.length_map, List.length_take]; omega) hrd x.bytes_length hro
    unfold edgeFile
    rw [List.map_append]
    exact h3)
  have hraw0 : Hid (RawL [] (mput [] nmX (.inl (([] : List Pg), true)))) := Lib.hid ⟨⟨true, by rw [mget_mput, if_pos rfl]; rfl⟩, fun y hy => by rw [mget_mput, if_neg hy]; rfl, Nat.le_refl _⟩
  unfold ptrTo nmX at *
  go_wp2_with fail
  refine hcr.out.mono ?_
  rintro e w3 ⟨d3, o3, rfl, hm3, hx3, -⟩
  have HD3 := Lib.hid (hx3 trivial)
  have HH3 := Lib.hid (HH2.out.moved hm3 (fun _ h => h.elim))
  clear hm3 hx3 hcr
  have hop := Lib.hid (HOP.out w3 o3 d3 _ HH3.out.pool HD3.out hraw0.out)
  go_wp2_with fail
  refine hop.out.mono ?_
  rintro e w4 ⟨v4, rfl, hb4, hs4, -⟩
  obtain ⟨sb, rfl, hst4, hsb⟩ := hs4 rfl
  have HST4 := Lib.hid hst4
  have HOS4 : Hid (o3 sb = none) := Lib.hid (HH3.out.pool.fresh hsb)
  have HH4 := Lib.hid (HH3.out.later hb4)
  clear hs4 hst4 hsb hb4 hop
  unfold ptrTo at *
  obtain ⟨M, hM⟩ : ∃ M, M = es.length := ⟨_, rfl⟩
  rw [← hM] at hl
  have HV' := HV
  rw [← hM] at HV' ⊢
  have HME := Lib.hid hM
  clear hM HV
  go_wp2
  go_loopw [10] (fun i wr => ∃ (k : Nat) (d' : Dsk) (o' : Owner) (L' : Logic), k ≤ M ∧ i = .int .i64 (k : Int) ∧ Held w wr pb db n o' d' L' ∧ RawL (es.take k) L' ∧ StreamAt wr sb pb ⟨#[120]⟩ 20 ∧ o' sb = none) (fun i _ => M - (intOf i).toNat)
  case atStart => exact ⟨0, d3, o3, _, Nat.zero_le _, rfl, HH4.out, hraw0.out, HST4.out, HOS4.out⟩
  case round =>
    obtain ⟨k, d5, o5, L5, hk, rfl, hh5, hr5, hst5, hos5⟩ := hrel
    have HH5 := Lib.hid hh5
    have HR5 := Lib.hid hr5
    have HST5 := Lib.hid hst5
    have HOS5 := Lib.hid hos5
    clear hh5 hr5 hst5 hos5
    by_cases hlt : k < M
    · have hkl : k < es.length := by rw [← HME.out]; exact hlt
      have hx : es[k]? = some es[k] := List.getElem?_eq_getElem hkl
      have HTK : Hid (es.take (k + 1) = es.take k ++ [es[k]]) := Lib.hid (List.take_succ_eq_append_getElem hkl)
      obtain ⟨a', cap', hve, hce⟩ := HV'.out
      obtain ⟨rfl, -, rfl⟩ : a = a' ∧ M = es.length ∧ cap = cap' := by simpa using hve
      obtain ⟨b, off, rfl, hcf⟩ := hce.resolve_left (by omega)
      obtain ⟨q0, q1, q2, q3⟩ := hcf k _ hx
      generalize es[k] = x at *
      clear hce hcf hve hx hkl
      have z0 := cellBelow HH5.out.below q0
      have z1 := cellBelow HH5.out.below q1
      have z2 := cellBelow HH5.out.below q2
      have z3 := cellBelow HH5.out.below q3
      clear q0 q1 q2 q3
      have hre := Lib.hid (refEdge_any x wr)
      go_wp2_with fail
      refine hre.out.mono ?_
      rintro e w6 ⟨v6, rfl, hb6, hB6⟩
      have hadd := Lib.hid (HADD.out w6 o5 d5 L5 sb v6 x k (HH5.out.pool.below hB6) (HST5.out.below hB6) HOS5.out HR5.out hb6.rd (fun y hy => HH5.out.pool.fresh (hb6.lt y hy).1))
      have HH6 := Lib.hid (HH5.out.later hB6)
      have HST6 := Lib.hid (HST5.out.below hB6)
      clear hb6 hB6 hre z0 z1 z2 z3
      go_wp2_with fail
      refine hadd.out.mono ?_
      rintro e w7 ⟨c7, d7, o7, rfl, hm7, he7⟩
      have hra := HR5.out.add (x := x)
      have hc7 : c7 = 0 := HH6.out.fine' hm7 he7 (by
        have := HR5.out.2.2
        rw [List.length_take] at this
        omega)
      subst hc7
      rw [if_pos rfl] at hm7
      rw [← HTK.out] at hra hm7
      have HH7 := Lib.hid (HH6.out.moved hm7 (fun _ h => h.elim))
      have HR7 := Lib.hid hra
      have HST7 := Lib.hid (HST6.out.moved hm7 HOS5.out (fun h => h))
      have HOS7 := Lib.hid (hm7.free HST6.out.lt HOS5.out)
      clear hm7 he7 hra hadd HH6 HST6
      go_wp2
      go_roundw
      case rel => exact ⟨k + 1, d7, o7, _, by omega, by go_num, HH7.out, HR7.out, HST7.out, HOS7.out⟩
      case measure => simp [intOf]; omega
    · go_wp2
      go_returns
      have hkM : k = es.length := by rw [← HME.out]; omega
      exact ⟨db, pb, o5, d5, L5, rfl, HH5.out, by have := HR5.out; rwa [List.take_of_length_le (by omega)] at this⟩
end Go.Proofs.YtolieljpnafbhaaGreatDoor
/-
  DERIVED: THE SHELF's CONTRACTS AT THIS DUMP, IN PLAIN WORDS (tools/lay-plain.mjs out of 'YtolieljpnafbhaaGreatDoorShelfFour.lean', which tools/lay-shelf.mjs wrote): THE SAME DECLARATIONS UNDER THE SAME NAMES: 'import', 'namespace', 'open', 'def', 'theorem' AND NOTHING ELSE: no command of the shelf's: FOR A HAND-IN. Each laying: the table of numbers ('.._ren') and one theorem, a field a fact of the dump's own or the kernel's comparison; each contract: ONE APPLICATION.
-/
namespace Go.Proofs
open Go.Shelf
def Tryz.sortStrs_ren : Go.Shelf.Ren := ⟨fun | 190 => 79 | 125 => 110 | 258 => 109 | 128 => 152 | 129 => 153 | 302 => 143 | 303 => 144 | 304 => 145 | 305 => 146 | 306 => 147 | 307 => 148 | 308 => 149 | 309 => 150 | 310 => 151 | 333 => 178 | 329 => 179 | 330 => 180 | 334 => 181 | 335 => 182 | 336 => 183 | 344 => 212 | n => n, fun | 31 => 63 | 9 => 9 | 3 => 3 | 46 => 61 | 0 => 0 | 51 => 23 | 53 => 45 | 4 => 4 | 183 => 216 | 182 => 215 | 131 => 188 | 5 => 5 | 218 => 240 | 222 => 244 | 228 => 269 | 229 => 82 | n => n, fun | n => n⟩
theorem Tryz.sortStrs : Go.Proofs.Lays.n190 Tryz.prog Tryz.sortStrs_ren := {
  mixed := by kernel_rfl
  f125 := Tryz.func110.trans (congrArg some (by kernel_rfl))
  f128 := Tryz.func152.trans (congrArg some (by kernel_rfl))
  f129 := Tryz.func153.trans (congrArg some (by kernel_rfl))
  f190 := Tryz.func79.trans (congrArg some (by kernel_rfl))
  f258 := Tryz.func109.trans (congrArg some (by kernel_rfl))
  f302 := Tryz.func143.trans (congrArg some (by kernel_rfl))
  f303 := Tryz.func144.trans (congrArg some (by kernel_rfl))
  f304 := Tryz.func145.trans (congrArg some (by kernel_rfl))
  f305 := Tryz.func146.trans (congrArg some (by kernel_rfl))
  f306 := Tryz.func147.trans (congrArg some (by kernel_rfl))
  f307 := Tryz.func148.trans (congrArg some (by kernel_rfl))
  f308 := Tryz.func149.trans (congrArg some (by kernel_rfl))
  f309 := Tryz.func150.trans (congrArg some (by kernel_rfl))
  f310 := Tryz.func151.trans (congrArg some (by kernel_rfl))
  f329 := Tryz.func179.trans (congrArg some (by kernel_rfl))
  f330 := Tryz.func180.trans (congrArg some (by kernel_rfl))
  f333 := Tryz.func178.trans (congrArg some (by kernel_rfl))
  f334 := Tryz.func181.trans (congrArg some (by kernel_rfl))
  f335 := Tryz.func182.trans (congrArg some (by kernel_rfl))
  f336 := Tryz.func183.trans (congrArg some (by kernel_rfl))
  f344 := Tryz.func212.trans (congrArg some (by kernel_rfl))
  t0 := Tryz.underlying0
  a0 := Tryz.isAgg0
  z0 := Tryz.sizeOf0
  v0 := Tryz.zeroValue0
  t3 := Tryz.underlying3
  a3 := Tryz.isAgg3
  z3 := Tryz.sizeOf3
  v3 := Tryz.zeroValue3
  t4 := Tryz.underlying4
  a4 := Tryz.isAgg4
  z4 := Tryz.sizeOf4
  v4 := Tryz.zeroValue4
  t5 := Tryz.underlying5
  a5 := Tryz.isAgg5
  z5 := Tryz.sizeOf5
  v5 := Tryz.zeroValue5
  t9 := Tryz.underlying9
  a9 := Tryz.isAgg9
  z9 := Tryz.sizeOf9
  v9 := Tryz.zeroValue9
  t31 := Tryz.underlying63
  a31 := Tryz.isAgg63
  z31 := Tryz.sizeOf63
  v31 := Tryz.zeroValue63
  t46 := Tryz.underlying61
  a46 := Tryz.isAgg61
  z46 := Tryz.sizeOf61
  v46 := Tryz.zeroValue61
  t51 := Tryz.underlying23
  a51 := Tryz.isAgg23
  z51 := Tryz.sizeOf23
  v51 := Tryz.zeroValue23
  t53 := Tryz.underlying45
  a53 := Tryz.isAgg45
  z53 := Tryz.sizeOf45
  v53 := Tryz.zeroValue45
  t131 := Tryz.underlying188
  a131 := Tryz.isAgg188
  z131 := Tryz.sizeOf188
  v131 := Tryz.zeroValue188
  t182 := Tryz.underlying215
  a182 := Tryz.isAgg215
  z182 := Tryz.sizeOf215
  v182 := Tryz.zeroValue215
  t183 := Tryz.underlying216
  a183 := Tryz.isAgg216
  z183 := Tryz.sizeOf216
  v183 := Tryz.zeroValue216
  t218 := Tryz.underlying240
  a218 := Tryz.isAgg240
  z218 := Tryz.sizeOf240
  v218 := Tryz.zeroValue240
  t222 := Tryz.underlying244
  a222 := Tryz.isAgg244
  z222 := Tryz.sizeOf244
  v222 := Tryz.zeroValue244
  t228 := Tryz.underlying269
  a228 := Tryz.isAgg269
  z228 := Tryz.sizeOf269
  v228 := Tryz.zeroValue269
  t229 := Tryz.underlying82
  a229 := Tryz.isAgg82
  z229 := Tryz.sizeOf82
  v229 := Tryz.zeroValue82 }
end Go.Proofs
/-
  disk: Names.
-/
namespace Go.Proofs.YtolieljpnafbhaaGreatDoor
open Go.RowKit Go.Maps Go.ChangeMaps

theorem encStr_name (l : List Name) : (l.map (fun x : Name => x.data.toList)).map Go.Proofs.encStr = l.map Value.string := by
  rw [List.map_map]
  congr 1

/-- What sorting a row of names leaves. -/
def SortStrPost (w : World) (base g len cap : Nat) (ns : List Name) (e : Ending) (w' : World) : Prop :=
  ∃ ts : List Name, e = .returned (.tuple #[]) ∧ ts.Perm ns ∧ w'.ownsRow base 9 1 (.slice (some ⟨g, 0, none⟩) len cap) len (ts.map Value.string) ∧ Turn (· = g) w w'

theorem names_of (l : List (List UInt8)) : (l.map fun b => (⟨b.toArray⟩ : Name)).map (fun x : Name => x.data.toList) = l := by
  rw [List.map_map]
  conv => rhs; rw [← List.map_id l]
  congr 1

theorem sortStrs_any {w : World} {base g len cap : Nat} {ns : List Name} (hl : ns.length = len) (hbig : len < 4611686018427387904) (hown : w.ownsRow base 9 1 (.slice (some ⟨g, 0, none⟩) len cap) len (ns.map Value.string)) :
    Calls Tryz.prog 79 #[.slice (some ⟨g, 0, none⟩) len cap] w (SortStrPost w base g len cap ns) := by
  obtain ⟨hlen, ⟨h0, _⟩ | ⟨g', cap', cur, hv, hg, hh, hn, hm, hcs, hx⟩⟩ := hown
  · cases h0
  cases hv
  rw [Nat.mul_one] at hx
  have hH := holds_of_block Go.Proofs.encStr (ss := ns.map fun x : Name => x.data.toList) hh (by rw [encStr_name, List.length_map, hl]; exact hx)
  have hcon := Any.slices_Sort_string Tryz.sortStrs g 0 cap (ns.map fun x : Name => x.data.toList) w hH (Array.getElem?_eq_some_iff.1 hh).1 (by rw [List.length_map, hl]; exact hbig)
  rw [List.length_map, hl] at hcon
  refine hcon.mono ?_
  rintro e w' ⟨rfl, n, os, rfl⟩
  have hp : ((ns.map fun x : Name => x.data.toList).mergeSort fun x y => decide (x ≤ y)).Perm (ns.map fun x : Name => x.data.toList) := List.mergeSort_perm _ _
  generalize ((ns.map fun x : Name => x.data.toList).mergeSort fun x y => decide (x ≤ y)) = ts at *
  refine ⟨ts.map fun b => (⟨b.toArray⟩ : Name), rfl, ?_, ?_, turn_sorted Go.Proofs.encStr _⟩
  · have h1 := hp.map (fun b => (⟨b.toArray⟩ : Name))
    rw [List.map_map] at h1
    have : ((fun b => (⟨b.toArray⟩ : Name)) ∘ fun x : Name => x.data.toList) = id := by
      funext x
      simp
    rw [this, List.map_id] at h1
    exact h1
  · have h2 := ownsRow_sorted (base := base) (g := g) (cap := cap) (n := n) (e := 9) (os := os) Go.Proofs.encStr (ss := ns.map fun x : Name => x.data.toList) (ts := ts) hp.length_eq hg hh (by rw [List.length_map, hl]; exact hn) hm hcs
    rw [List.length_map, hl, ← names_of ts, encStr_name, names_of] at h2
    exact h2

def NamesPost (w : World) (d : Dsk) (e : Ending) (w' : World) : Prop :=
  ∃ (v : Value) (ns : List Name), e = .returned v ∧ ns.Perm (d.files.map (·.1)) ∧ w'.ownsRow (w.heap.size + 1) 9 1 v ns.length (ns.map Value.string) ∧ Below w.heap.size w w'

set_option maxRecDepth 100000 in
set_option maxHeartbeats 2000000 in
theorem names_any {w : World} {db : Nat} {o : Owner} {d : Dsk} (h : DiskAt w db o d) (hn : d.files.length ≤ 1000) :
    Calls Tryz.prog 33 #[ptrTo db] w (NamesPost w d) := by
  obtain ⟨mf, ml, l, h⟩ := h
  have HD := Lib.hid h
  have hstrip : d.files.map (·.1) = l.map (·.1) := by rw [← h.strip, List.map_map]; rfl
  have HN : Hid (l.length ≤ 1000) := Lib.hid (by rw [← h.strip, List.length_map] at hn; exact hn)
  unfold NamesPost
  rw [hstrip]
  obtain ⟨⟨hc0, hc1, hc2, hc3, hc4⟩, hf2, hf3, hf4⟩ := h.head.cells
  clear h hc1 hc2 hc3 hc4 hf2 hf3 hf4 hstrip hn
  unfold ptrTo
  go_enter Tryz.func33, Tryz.ntmps33
  go_wp2_with (at_range; refine wpList_rng _ rfl _ _ rfl 157 Tryz.underlying137 mf l rfl HD.out.files ?_; intro ob hi0)
  go_frame
  have hmf := HD.out.owned _ _ HD.out.omf
  go_loopw [3] (fun v wr => ∃ (todo : List (Name × (Nat × DFile))) (acc : List Name), wr.ownsRow (w.heap.size + 1) 9 1 v acc.length (acc.map Value.string) ∧ IterAt Tryz.prog 9 Value.string (fun x : Nat × DFile => ptrTo x.1) wr mf w.heap.size l todo ∧ Below w.heap.size w wr ∧ Hid ((acc ++ todo.map (·.1)).Perm (l.map (·.1)))) (fun _ wr => wr.rangeLeft mf w.heap.size)
  case atStart => exact ⟨_, [], ⟨rfl, .inl ⟨rfl, rfl⟩⟩, hi0, (Below.refl _ _).alloc (Nat.le_refl _) _, Lib.hid (List.Perm.refl _)⟩
  case round =>
    generalize u3 = v at *
    obtain ⟨todo, acc, hr, hi, hb, hk⟩ := hrel
    have HB := Lib.hid hb
    have HR := Lib.hid hr
    clear hb hr hi0
    go_wp2_with (at_next; refine wpList_nxt _ rfl _ rfl mf w.heap.size l todo rfl hi ?_ ?_)
    · rintro rfl
      have HK : Hid (acc.Perm (l.map (·.1))) := Lib.hid (by simpa using hk.out)
      have HL : Hid (acc.length ≤ 1000) := Lib.hid (by
        have h1 := HK.out.length_eq
        have h2 := HN.out
        rw [List.length_map] at h1
        omega)
      clear hk hi
      obtain ⟨hlen, ⟨rfl, h0⟩ | ⟨g, cap, cur, rfl, hg, hh, hnc, hcm, hcs, hx⟩⟩ := HR.out
      · have HC := Lib.hid (Any.slices_Sort_string_none Tryz.sortStrs none 0 wr)
        go_wp2_with fail
        refine HC.out.mono ?_
        rintro e w2 ⟨rfl, rfl⟩
        go_wp2
        go_ret
        exact ⟨_, acc, rfl, HK.out, HR.out, HB.out⟩
      · have HC := Lib.hid (sortStrs_any rfl (by have := HL.out; omega) HR.out)
        clear hlen hh hcs hx
        go_wp2_with fail
        refine HC.out.mono ?_
        rintro e w2 ⟨ts, rfl, hp, hr2, ht⟩
        have HP2 := Lib.hid hp
        have HR2 := Lib.hid hr2
        have HT2 := Lib.hid ht
        clear hp hr2 ht HC
        go_wp2
        go_ret
        refine ⟨_, ts, rfl, HP2.out.trans HK.out, by rw [HP2.out.length_eq]; exact HR2.out, ?_⟩
        have h0 : Turn (fun x => w.heap.size ≤ x) w wr := Turn.ofBelow HB.out
        exact (h0.trans HT2.out (fun x hx e => by omega)).below (Nat.le_refl _) (fun _ h => h)
    · intro nm pf f rs w1 ob1 hp hal hi1 hen
      have hb1 : Below w.heap.size w (setBlock w1 w.heap.size ob1) := by
        have : Turn (fun x => w.heap.size ≤ x) w (setBlock w1 w.heap.size ob1) := by
          have h0 : Turn (fun x => w.heap.size ≤ x) w wr := Turn.ofBelow HB.out
          rcases hal with rfl | rfl
          · exact h0.setBlock _ _ (.inl (Nat.le_refl _))
          · exact h0.drew.setBlock _ _ (.inl (Nat.le_refl _))
        exact this.below (Nat.le_refl _) (fun _ h => h)
      have hr1 : (setBlock w1 w.heap.size ob1).ownsRow (w.heap.size + 1) 9 1 v acc.length (acc.map Value.string) := by
        refine ownsRow_heap HR.out (fun x hx => ?_)
        have := ownsRow_block HR.out x hx
        have hne : x ≠ w.heap.size := by omega
        rcases hal with rfl | rfl
        · exact heap_setBlock_none _ hne
        · exact heap_setBlock_none _ hne
      have HP := Lib.hid hp
      have HI := Lib.hid hi
      have HR1 := Lib.hid hr1
      have HB1 := Lib.hid hb1
      have HLE : Hid (acc.length ≤ 1000 ∧ w.heap.size + 1 ≤ (setBlock w1 w.heap.size ob1).heap.size) := Lib.hid ⟨by
        have h1 := hk.out.length_eq
        have h2 := HN.out
        simp only [List.length_append, List.length_map] at h1
        omega, hi1.lt⟩
      clear hp hi hb1 hr1
      unfold ptrTo at hen
      generalize hW : setBlock w1 w.heap.size ob1 = W at hen HR1 HB1 hi1 HLE ⊢
      clear hW
      have HI1 := Lib.hid hi1
      clear hi1
      go_wp2_with (refine wpList_append_str rfl _ _ rfl (w.heap.size + 1) _ acc rfl HR1.out nm 1 rfl (by have := HLE.out; omega) HLE.out.2 (fun v2 w2 h2 ha => ?_))
      obtain ⟨⟨q1, q2, q3, q4, q5⟩, -⟩ := ha
      have hsz : (W.alloc (.cells #[.string nm] 9)).heap.size = W.heap.size + 1 := by simp
      have hlt := HLE.out.2
      have hblk : ∀ x, x ≤ w.heap.size → w2.heap[x]? = W.heap[x]? := fun x hx => by
        rw [q5 x (by rw [hsz]; omega) (fun e => by have := ownsRow_block HR1.out x (by first | exact e | exact e.symm); omega)]
        exact (MapKept.heap_alloc W _).2 _ (by omega)
      have hi2 : IterAt Tryz.prog 9 Value.string (fun x : Nat × DFile => ptrTo x.1) w2 mf w.heap.size l rs := HI1.out.kept (hblk _ (by omega)) (hblk _ (Nat.le_refl _))
      refine ⟨⟨rs, acc ++ [nm], h2, hi2, ?_, Lib.hid ?_⟩, ?_⟩
      · refine HB1.out.trans ⟨by rw [q1]; rfl, by rw [q2]; rfl, by rw [q3]; rfl, by rw [hsz] at q4; omega, fun k hk => hblk k (by omega)⟩
      · have h1 := (HP.out.map (·.1)).append_left acc
        simp only [List.map_cons] at h1
        rw [List.append_assoc]
        exact h1.symm.trans hk.out
      · have e2 := HP.out.length_eq
        rw [List.length_cons] at e2
        rw [hi2.left, HI.out.left]
        omega
end Go.Proofs.YtolieljpnafbhaaGreatDoor
/-
  milepostlaw12: begun.
-/
namespace Go.Proofs.YtolieljpnafbhaaGreatDoor
open Go.RowKit Go.Maps

def nmIn : Name := ⟨#[105, 110]⟩
def nmOut : Name := ⟨#[111, 117, 116]⟩

/-- One file, of edges. -/
def OneL (nm : Name) (es : List Edg) (L : Logic) : Prop := (∃ fl, mget L nm = some (edgeFile es fl)) ∧ (∀ y, y ≠ nm → mget L y = none) ∧ need L ≤ 4 * es.length

theorem OneL.add {nm : Name} {es : List Edg} {x : Edg} {L : Logic} (h : OneL nm es L) : OneL nm (es ++ [x]) (mput L nm (edgeFile (es ++ [x]) false)) := by
  refine ⟨⟨false, by rw [mget_mput, if_pos rfl]⟩, fun y hy => by rw [only_mput h.2.1]; rw [← only_mput (L := []) (fun _ _ => rfl), mget_mput, if_neg hy]; rfl, ?_⟩
  rw [only_mput h.2.1, need_cons]
  have := edgeFile_need (es ++ [x]) false
  show _ + 0 ≤ _
  omega

theorem Kept.quoted {q0 q : Nat} {w0 w w' : World} {pb db n : Nat} {o : Owner} {d : Dsk} {L : Logic} (h : Kept q0 w0 w pb db n o d L) (hp : PoolAt w' pb db n o { d with quota := q } L) (ht : Turn (· = db) w w') : Kept q w0 w' pb db n o { d with quota := q } L := by
  have hz := h.below.size
  have hdb : w0.heap.size ≤ db := by
    obtain ⟨_, _, _, _, _, g, _, _⟩ := h.pool
    exact h.new _ _ g.odb
  refine ⟨hp, h.new, h.below.trans ⟨ht.os, ht.tape, ht.output, ht.size, fun k hk => ht.block k (by omega) (by omega)⟩, h.armed, h.dead, rfl⟩

def BegunPost (q : Nat) (w : World) (n : Nat) (es : List Edg) (e : Ending) (w' : World) : Prop :=
  ∃ db pb o d, e = .returned (.tuple #[ptrTo db, ptrTo pb]) ∧ Kept q w w' pb db n o d [(nmIn, edgeFile es true)]

set_option maxRecDepth 100000 in
set_option maxHeartbeats 4000000 in
theorem begun_any (HW : WriteSaid) (q : Nat) (hq : q ≤ 1048576) (n : Nat) (h1 : 1 ≤ n) (h2 : n ≤ 4096) (v : Value) (es : List Edg) (w : World) (hv : RdE w v es) (hl : es.length ≤ 10000) :
    Calls Tryz.prog 26 #[.int .i64 (q : Int), .int .i64 (n : Int), v] w (BegunPost q w n es) := by
  have hnd : Hid (Calls Tryz.prog 57 #[.int .i64 65536] w fun e w' => ∃ db o, e = .returned (.tuple #[ptrTo db, .int .i64 0]) ∧ DiskAt w' db o (Dsk.new 65536) ∧ Below w.heap.size w w' ∧ ∀ x t, o x = some t → w.heap.size ≤ x) := Lib.hid (newDisk_any 65536 (by decide) w)
  have hnp : Hid (∀ W db o, DiskAt W db o (Dsk.new 65536) → Calls Tryz.prog 58 #[ptrTo db, .int .i64 (n : Int)] W (NewPoolPost W db n o (Dsk.new 65536) [])) := Lib.hid (fun W db o h => newPool_any h n h1 h2 (sound_new _ n))
  have HV := Lib.hid hv
  obtain ⟨a, cap, rfl, -⟩ := hv
  unfold ptrTo at *
  go_enter Tryz.func26, Tryz.ntmps26
  go_wp2_with fail
  refine hnd.out.mono ?_
  rintro e w1 ⟨db, o1, rfl, hd1, hb1, hn1⟩
  have hcp := Lib.hid (hnp.out w1 db o1 hd1)
  have HB1 := Lib.hid hb1
  have HN1 := Lib.hid hn1
  clear hd1 hb1 hn1 hnd hnp
  unfold ptrTo at *
  go_wp2_with fail
  refine hcp.out.mono ?_
  rintro e w2 ⟨pb, o2, rfl, hp2, hb2, hg2, hpb⟩
  have HH2 : Hid (Kept 65536 w w2 pb db n o2 (Dsk.new 65536) []) := Lib.hid ⟨hp2, fun x t hx => by
    rcases Nat.lt_or_ge x w1.heap.size with hl | hg
    · rw [hg2 x hl] at hx; exact HN1.out x t hx
    · exact Nat.le_trans HB1.out.size hg, HB1.out.trans (hb2.mono HB1.out.size), rfl, rfl, rfl⟩
  clear hp2 hb2 hg2 hpb hcp
  have hc0 : createCode (Dsk.new 65536) [] nmIn = 0 := by decide
  have hcr := Lib.hid (create_pool HH2.out.pool nmIn (by decide))
  unfold CreatePost at hcr
  rw [hc0] at hcr
  simp only [if_true] at hcr
  clear hc0
  have HOP : Hid (∀ W o' d' L', PoolAt W pb db n o' d' L' → d'.dead = false → OneL nmIn [] L' → Calls Tryz.prog 29 #[ptrTo pb, .string nmIn, .int .i64 20] W (StreamOpenPost W pb nmIn 20 0)) := Lib.hid (fun W o' d' L' hp hd hr => by
    have h3 := streamOpen_any (sz := 20) hp nmIn (by decide) (by decide) (by decide)
    obtain ⟨fl, hfl⟩ := hr.1
    rw [pfOpen_paged hp hfl, hd] at h3
    exact h3)
  have HADD : Hid (∀ W o' d' L' sb rv (x : Edg) (k : Nat), PoolAt W pb db n o' d' L' → StreamAt W sb pb nmIn 20 → o' sb = none → OneL nmIn (es.take k) L' → Rd W rv x.bytes → (∀ y, rv.ownBlock = some y → o' y = none) → Calls Tryz.prog 60 #[ptrTo sb, rv] W (LaidPost (fun _ => False) n pb db W o' d' L' (mput L' nmIn (edgeFile (es.take k ++ [x]) false)))) := Lib.hid (fun W o' d' L' sb rv x k hp hst ho hr hrd hro => by
    obtain ⟨fl, hfl⟩ := hr.1
    have h3 := streamAdd_any HW hp hst ho (by decide) (by decide) hfl (sized_edges _) (by rw [List.length_map, List.length_take]; omega) hrd x.bytes_length hro
    unfold edgeFile
    rw [List.map_append]
    exact h3)
  have hraw0 : Hid (OneL nmIn [] (mput [] nmIn (.inl (([] : List Pg), true)))) := Lib.hid ⟨⟨true, by rw [mget_mput, if_pos rfl]; rfl⟩, fun y hy => by rw [mget_mput, if_neg hy]; rfl, Nat.le_refl _⟩
  unfold ptrTo nmIn at *
  go_wp2_with fail
  refine hcr.out.mono ?_
  rintro e w3 ⟨d3, o3, rfl, hm3, hx3, -⟩
  have HD3 := Lib.hid (hx3 trivial)
  have HH3 := Lib.hid (HH2.out.moved hm3 (fun _ h => h.elim))
  clear hm3 hx3 hcr
  have hop := Lib.hid (HOP.out w3 o3 d3 _ HH3.out.pool HD3.out hraw0.out)
  go_wp2_with fail
  refine hop.out.mono ?_
  rintro e w4 ⟨v4, rfl, hb4, hs4, -⟩
  obtain ⟨sb, rfl, hst4, hsb⟩ := hs4 rfl
  have HST4 := Lib.hid hst4
  have HOS4 : Hid (o3 sb = none) := Lib.hid (HH3.out.pool.fresh hsb)
  have HH4 := Lib.hid (HH3.out.later hb4)
  clear hs4 hst4 hsb hb4 hop
  unfold ptrTo at *
  obtain ⟨M, hM⟩ : ∃ M, M = es.length := ⟨_, rfl⟩
  rw [← hM] at hl
  have HV' := HV
  rw [← hM] at HV' ⊢
  have HME := Lib.hid hM
  clear hM HV
  go_wp2
  go_loopw [12] (fun i wr => ∃ (k : Nat) (d' : Dsk) (o' : Owner) (L' : Logic), k ≤ M ∧ i = .int .i64 (k : Int) ∧ Kept 65536 w wr pb db n o' d' L' ∧ OneL nmIn (es.take k) L' ∧ StreamAt wr sb pb ⟨#[105, 110]⟩ 20 ∧ o' sb = none) (fun i _ => M - (intOf i).toNat)
  case atStart => exact ⟨0, d3, o3, _, Nat.zero_le _, rfl, HH4.out, hraw0.out, HST4.out, HOS4.out⟩
  case round =>
    obtain ⟨k, d5, o5, L5, hk, rfl, hh5, hr5, hst5, hos5⟩ := hrel
    have HH5 := Lib.hid hh5
    have HR5 := Lib.hid hr5
    have HST5 := Lib.hid hst5
    have HOS5 := Lib.hid hos5
    clear hh5 hr5 hst5 hos5
    by_cases hlt : k < M
    · have hkl : k < es.length := by rw [← HME.out]; exact hlt
      have hx : es[k]? = some es[k] := List.getElem?_eq_getElem hkl
      have HTK : Hid (es.take (k + 1) = es.take k ++ [es[k]]) := Lib.hid (List.take_succ_eq_append_getElem hkl)
      obtain ⟨a', cap', hve, hce⟩ := HV'.out
      obtain ⟨rfl, -, rfl⟩ : a = a' ∧ M = es.length ∧ cap = cap' := by simpa using hve
      obtain ⟨b, off, rfl, hcf⟩ := hce.resolve_left (by omega)
      obtain ⟨q0, q1, q2, q3⟩ := hcf k _ hx
      generalize es[k] = x at *
      clear hce hcf hve hx hkl
      have z0 := cellBelow HH5.out.below q0
      have z1 := cellBelow HH5.out.below q1
      have z2 := cellBelow HH5.out.below q2
      have z3 := cellBelow HH5.out.below q3
      clear q0 q1 q2 q3
      have hre := Lib.hid (refEdge_any x wr)
      go_wp2_with fail
      refine hre.out.mono ?_
      rintro e w6 ⟨v6, rfl, hb6, hB6⟩
      have hadd := Lib.hid (HADD.out w6 o5 d5 L5 sb v6 x k (HH5.out.pool.below hB6) (HST5.out.below hB6) HOS5.out HR5.out hb6.rd (fun y hy => HH5.out.pool.fresh (hb6.lt y hy).1))
      have HH6 := Lib.hid (HH5.out.later hB6)
      have HST6 := Lib.hid (HST5.out.below hB6)
      clear hb6 hB6 hre z0 z1 z2 z3
      go_wp2_with fail
      refine hadd.out.mono ?_
      rintro e w7 ⟨c7, d7, o7, rfl, hm7, he7⟩
      have hra := HR5.out.add (x := x)
      have hc7 : c7 = 0 := HH6.out.fine' hm7 he7 (by
        have := HR5.out.2.2
        rw [List.length_take] at this
        omega)
      subst hc7
      rw [if_pos rfl] at hm7
      rw [← HTK.out] at hra hm7
      have HH7 := Lib.hid (HH6.out.moved hm7 (fun _ h => h.elim))
      have HR7 := Lib.hid hra
      have HST7 := Lib.hid (HST6.out.moved hm7 HOS5.out (fun h => h))
      have HOS7 := Lib.hid (hm7.free HST6.out.lt HOS5.out)
      clear hm7 he7 hra hadd HH6 HST6
      go_wp2
      go_roundw
      case rel => exact ⟨k + 1, d7, o7, _, by omega, by go_num, HH7.out, HR7.out, HST7.out, HOS7.out⟩
      case measure => simp [intOf]; omega
    · have hkM : k = es.length := by rw [← HME.out]; omega
      have HR6 : Hid (OneL nmIn es L5) := Lib.hid (by have := HR5.out; rwa [List.take_of_length_le (by omega)] at this)
      obtain ⟨fl5, hfl5⟩ := HR6.out.1
      have HFL := Lib.hid (flush_pool HW HH5.out.pool hfl5)
      have hone : mput L5 nmIn (edgeFile es true) = [(nmIn, edgeFile es true)] := only_mput HR6.out.2.1
      have HONE := Lib.hid hone
      clear hone hfl5 HADD HST5 HV'
      unfold ptrTo nmIn at *
      go_wp2_with fail
      refine HFL.out.mono ?_
      rintro e w6 ⟨c6, d6, o6, rfl, hm6, he6⟩
      have hc6 : c6 = 0 := HH5.out.fine' hm6 he6 (by have := HR6.out.2.2; omega)
      subst hc6
      rw [if_pos rfl] at hm6
      have hm6' : Moved (fun _ => False) n pb db wr o5 d5 w6 o6 d6 [(⟨#[105, 110]⟩, edgeFile es true)] := by
        have := HONE.out
        unfold edgeFile at this ⊢
        rw [← this]
        exact hm6
      have HH6 := Lib.hid (HH5.out.moved hm6' (fun _ h => h.elim))
      have HQ := Lib.hid (quota_any HH6.out.pool q hq)
      clear hm6 hm6' he6 HFL HH5 HR5 HR6
      unfold ptrTo at *
      go_wp2_with fail
      refine HQ.out.mono ?_
      rintro e w7 ⟨rfl, hp7, ht7⟩
      have HH7 := Lib.hid (HH6.out.quoted hp7 ht7)
      clear hp7 ht7 HQ HH6
      go_wp2
      go_returns
      exact ⟨db, pb, o6, { d6 with quota := q }, rfl, HH7.out⟩
end Go.Proofs.YtolieljpnafbhaaGreatDoor
/-
  extsort: what Sort refuses.
-/
namespace Go.Proofs.YtolieljpnafbhaaGreatDoor
open Go.RowKit Go.Maps Go.MapKept

section
variable {w w' : World} {pb db n cb kb sb jb byb made : Nat} {by' : Bool} {inn out : Name} {o o' : Owner} {d d' : Dsk} {L L' : Logic}

set_option maxHeartbeats 1000000 in
theorem sort_nil (inn out : Name) (y : Int) (w : World) : Calls Tryz.prog 28 #[.pointer none, .string inn, .string out, .int .i64 y] w fun e w' => e = .returned (.int .i64 2) ∧ Below w.heap.size w w' := by
  go_enter Tryz.func28, Tryz.ntmps28
  go_wp2
  go_ret
  exact ⟨rfl, (Below.refl _ _).alloc (Nat.le_refl _) _⟩

/-- What may not be sorted, whatever the files. -/
def BadArg (n : Nat) (y : Int) (inn out : Name) : Prop := (y ≠ 0 ∧ y ≠ 1) ∨ inn = out ∨ ownName inn = true ∨ ownName out = true ∨ n < 8

set_option maxRecDepth 100000 in
set_option maxHeartbeats 8000000 in
theorem sort_arg (h : PoolAt w pb db n o d L) (y : Int) (hb : BadArg n y inn out) :
    Calls Tryz.prog 28 #[ptrTo pb, .string inn, .string out, .int .i64 y] w fun e w' => e = .returned (.int .i64 1) ∧ Below w.heap.size w w' := by
  have hp1 := Lib.hid (hasPre_any inn)
  have hp2 := Lib.hid (hasPre_any out)
  have hframes := Lib.hid (fun W (hW : Below w.heap.size w W) => poolFrames_any (h.below hW))
  have HBW : Hid (∀ v, Below w.heap.size w (w.alloc (.cells #[v] 3))) := Lib.hid (fun v => (Below.refl _ _).alloc (Nat.le_refl _) _)
  have hn2 : n ≤ 4096 := by
    obtain ⟨fb, mb, l, hand, mf, hp, rfl, -⟩ := h
    exact hp.most
  unfold BadArg at hb
  clear h
  unfold ptrTo at *
  generalize ownName inn = b1 at *
  generalize ownName out = b2 at *
  by_cases hy : y ≠ 0 ∧ y ≠ 1
  · obtain ⟨y0, y1⟩ := hy
    clear hb hframes
    cases b1 with
    | true =>
      go_enter Tryz.func28, Tryz.ntmps28
      go_wp2_with fail
      refine (hp1.out _).mono ?_
      rintro e w' ⟨rfl, rfl⟩
      go_wp2
      go_ret
      exact ⟨rfl, HBW.out _⟩
    | false =>
      cases b2
      all_goals
        go_enter Tryz.func28, Tryz.ntmps28
        go_wp2_with fail
        refine (hp1.out _).mono ?_
        rintro e w' ⟨rfl, rfl⟩
        go_wp2_with fail
        refine (hp2.out _).mono ?_
        rintro e w' ⟨rfl, rfl⟩
        go_wp2
        go_ret
        exact ⟨rfl, HBW.out _⟩
  · have hy' : y = 0 ∨ y = 1 := by omega
    clear hy
    by_cases hio : inn = out
    · subst hio
      clear hb hframes hp2
      cases b1
      · rcases hy' with rfl | rfl
        all_goals
          go_enter Tryz.func28, Tryz.ntmps28
          go_wp2_with fail
          refine (hp1.out _).mono ?_
          rintro e w' ⟨rfl, rfl⟩
          go_wp2_with fail
          refine (hp1.out _).mono ?_
          rintro e w' ⟨rfl, rfl⟩
          go_wp2
          go_ret
          exact ⟨rfl, HBW.out _⟩
      · rcases hy' with rfl | rfl
        all_goals
          go_enter Tryz.func28, Tryz.ntmps28
          go_wp2_with fail
          refine (hp1.out _).mono ?_
          rintro e w' ⟨rfl, rfl⟩
          go_wp2
          go_ret
          exact ⟨rfl, HBW.out _⟩
    · have hne : (inn.toList == out.toList) = false := bytes_ne hio
      clear hio
      cases b1 with
      | true =>
        clear hframes hb
        rcases hy' with rfl | rfl
        all_goals
          go_enter Tryz.func28, Tryz.ntmps28
          go_wp2_with fail
          refine (hp1.out _).mono ?_
          rintro e w' ⟨rfl, rfl⟩
          go_wp2
          go_ret
          exact ⟨rfl, HBW.out _⟩
      | false =>
        cases b2 with
        | true =>
          clear hframes hb
          rcases hy' with rfl | rfl
          all_goals
            go_enter Tryz.func28, Tryz.ntmps28
            go_wp2_with fail
            refine (hp1.out _).mono ?_
            rintro e w' ⟨rfl, rfl⟩
            go_wp2_with fail
            refine (hp2.out _).mono ?_
            rintro e w' ⟨rfl, rfl⟩
            go_wp2
            go_ret
            exact ⟨rfl, HBW.out _⟩
        | false =>
          have hn8 : n < 8 := by
            rcases hb with h | h | h | h | h
            · omega
            · subst h; simp at hne
            · cases h
            · cases h
            · exact h
          have hn8' : (n : Int) < 8 := by omega
          clear hb
          rcases hy' with rfl | rfl
          all_goals
            go_enter Tryz.func28, Tryz.ntmps28
            go_wp2_with fail
            refine (hp1.out _).mono ?_
            rintro e w' ⟨rfl, rfl⟩
            go_wp2_with fail
            refine (hp2.out _).mono ?_
            rintro e w' ⟨rfl, rfl⟩
            go_wp2_with fail
            refine (hframes.out _ (HBW.out _)).mono ?_
            rintro e w' ⟨rfl, rfl⟩
            go_wp2
            go_ret
            exact ⟨rfl, HBW.out _⟩

set_option maxHeartbeats 1000000 in
theorem jobOpen_fails (h : PoolAt w pb db n o d L) (hj : JobAt w jb pb byb made by') (hs : inn.size ≤ 1000) (hc : pfOpen d inn ≠ 0) :
    Calls Tryz.prog 72 #[ptrTo jb, .string inn] w fun e w' => e = .returned (.tuple #[.pointer none, .int .i64 (pfOpen d inn : Int)]) ∧ Below w.heap.size w w' := by
  have hopen := Lib.hid (streamOpen_any (sz := 20) h inn hs (by decide) (by decide))
  have hc0 := hj.cells.1
  generalize pfOpen d inn = c at *
  have hc' : ¬ (c : Int) = 0 := by omega
  have HC := Lib.hid hc
  clear h hj hc
  unfold ptrTo at *
  go_enter Tryz.func72, Tryz.ntmps72
  go_wp2_with fail
  refine hopen.out.mono ?_
  rintro e w1 ⟨v1, rfl, hb1, -, hbad⟩
  obtain rfl := hbad HC.out
  have HB := Lib.hid hb1
  clear hb1 hbad
  go_wp2
  go_ret2
  exact ⟨rfl, HB.out⟩

set_option maxRecDepth 100000 in
set_option maxHeartbeats 8000000 in
theorem sort_noin (h : PoolAt w pb db n o d L) (hn : 8 ≤ n) (y : Int) (hy : y = 0 ∨ y = 1) (hio : inn ≠ out) (hi : ownName inn = false) (ho : ownName out = false) (hs : inn.size ≤ 1000) (hc : pfOpen d inn ≠ 0) :
    Calls Tryz.prog 28 #[ptrTo pb, .string inn, .string out, .int .i64 y] w fun e w' => e = .returned (.int .i64 (pfOpen d inn : Int)) ∧ Below w.heap.size w w' := by
  have hp1 := Lib.hid (hasPre_any inn)
  have hp2 := Lib.hid (hasPre_any out)
  simp only [hi] at hp1
  simp only [ho] at hp2
  have hframes := Lib.hid (fun W (hW : Below w.heap.size w W) => poolFrames_any (h.below hW))
  have hopen : Hid (∀ W, Below w.heap.size w W → ∀ jb byb by', JobAt W jb pb byb 0 by' → Calls Tryz.prog 72 #[ptrTo jb, .string inn] W fun e w' => e = .returned (.tuple #[.pointer none, .int .i64 (pfOpen d inn : Int)]) ∧ Below W.heap.size W w') := Lib.hid (fun W hW jb byb by' hj => jobOpen_fails (h.below hW) hj hs hc)
  have hne : (inn.toList == out.toList) = false := bytes_ne hio
  have hn2 : n ≤ 4096 := by
    obtain ⟨fb, mb, l, hand, mf, hp, rfl, -⟩ := h
    exact hp.most
  have hn8 : ¬ (n : Int) < 8 := by omega
  generalize pfOpen d inn = c at *
  have hc' : ¬ (c : Int) = 0 := by omega
  clear h hn hio hi ho hc
  have HBW : Hid (∀ v, Below w.heap.size w (w.alloc (.cells #[v] 3))) := Lib.hid (fun v => (Below.refl _ _).alloc (Nat.le_refl _) _)
  unfold ptrTo at *
  rcases hy with rfl | rfl
  all_goals
    go_enter Tryz.func28, Tryz.ntmps28
    go_wp2_with fail
    refine (hp1.out _).mono ?_
    rintro e w' ⟨rfl, rfl⟩
    go_wp2_with fail
    refine (hp2.out _).mono ?_
    rintro e w' ⟨rfl, rfl⟩
    go_wp2_with fail
    refine (hframes.out _ (HBW.out _)).mono ?_
    rintro e w' ⟨rfl, rfl⟩
    go_wp2_with fail
  · have HJ1 := Lib.hid (jobAt_new w pb 0 false rfl)
    have HW1 : Hid (Below w.heap.size w ((w.alloc (.cells #[.int .i64 0] 3)).alloc (.cells #[.pointer (some ⟨pb, 0, none⟩), .func (.func 71) #[] #[.pointer (some ⟨w.heap.size, 0, none⟩)], .int .i64 0] 124))) := Lib.hid ((HBW.out _).alloc (by simp) _)
    generalize (w.alloc (.cells #[.int .i64 0] 3)).alloc (.cells #[.pointer (some ⟨pb, 0, none⟩), .func (.func 71) #[] #[.pointer (some ⟨w.heap.size, 0, none⟩)], .int .i64 0] 124) = W1 at *
    refine (hopen.out W1 HW1.out (w.heap.size + 1) w.heap.size false HJ1.out).mono ?_
    rintro e w2 ⟨rfl, hb2⟩
    have HB2 := Lib.hid (HW1.out.trans (hb2.mono HW1.out.size))
    clear hb2
    go_wp2
    go_ret
    exact ⟨rfl, HB2.out⟩
  · have HJ1 := Lib.hid (jobAt_new w pb 1 true rfl)
    have HW1 : Hid (Below w.heap.size w ((w.alloc (.cells #[.int .i64 1] 3)).alloc (.cells #[.pointer (some ⟨pb, 0, none⟩), .func (.func 71) #[] #[.pointer (some ⟨w.heap.size, 0, none⟩)], .int .i64 0] 124))) := Lib.hid ((HBW.out _).alloc (by simp) _)
    generalize (w.alloc (.cells #[.int .i64 1] 3)).alloc (.cells #[.pointer (some ⟨pb, 0, none⟩), .func (.func 71) #[] #[.pointer (some ⟨w.heap.size, 0, none⟩)], .int .i64 0] 124) = W1 at *
    refine (hopen.out W1 HW1.out (w.heap.size + 1) w.heap.size true HJ1.out).mono ?_
    rintro e w2 ⟨rfl, hb2⟩
    have HB2 := Lib.hid (HW1.out.trans (hb2.mono HW1.out.size))
    clear hb2
    go_wp2
    go_ret
    exact ⟨rfl, HB2.out⟩

def NoOutPost (n pb db : Nat) (w : World) (o : Owner) (d : Dsk) (L : Logic) (e : Ending) (w' : World) : Prop :=
  ∃ c d' o', e = .returned (.int .i64 ((c : Nat) : Int)) ∧ Moved (fun _ => False) n pb db w o d w' o' d' L ∧ (c = 1 ∨ Err d d' L c)

set_option maxRecDepth 100000 in
set_option maxHeartbeats 8000000 in
theorem sort_noout (HW : WriteSaid) (h : PoolAt w pb db n o d L) (hn : 8 ≤ n) {es : List Edg} {fl : Bool} (hL : mget L inn = some (edgeFile es fl)) (y : Int) (hy : y = 0 ∨ y = 1) (hio : inn ≠ out) (hi : ownName inn = false) (ho : ownName out = false) (hs : out.size ≤ 1000) (hout : okName out = false)
    (harm : d.armed = 0) (hdead : d.dead = false) :
    Calls Tryz.prog 28 #[ptrTo pb, .string inn, .string out, .int .i64 y] w (NoOutPost n pb db w o d L) := by
  have hp1 := Lib.hid (hasPre_any inn)
  have hp2 := Lib.hid (hasPre_any out)
  simp only [hi] at hp1
  simp only [ho] at hp2
  have hframes := Lib.hid (fun W (hW : Below w.heap.size w W) => poolFrames_any (h.below hW))
  have hopen : Hid (∀ W, Below w.heap.size w W → ∀ jb byb by', JobAt W jb pb byb 0 by' → Calls Tryz.prog 72 #[ptrTo jb, .string inn] W (OpenSrcPost n pb db W o d L inn es.length)) := Lib.hid (fun W hW jb byb by' hj => jobOpen_any HW (h.below hW) hj hL)
  have hcr : Hid (∀ W o' d', Moved (fun _ => False) n pb db w o d W o' d' L → Calls Tryz.prog 59 #[ptrTo pb, .string out] W fun e w' => ∃ d'' o'', e = .returned (.int .i64 1) ∧ Moved (fun _ => False) n pb db W o' d' w' o'' d'' L) := Lib.hid (fun W o' d' hm => by
    have hc : createCode d' L out = 1 := by
      have ha := hm.on.calm harm
      unfold createCode Dsk.tick
      rw [if_neg (show ¬ 0 < d'.armed by omega), ha.2 hdead, hout]
      rfl
    refine (create_pool hm.pool out hs).mono ?_
    rintro e w' ⟨d'', o'', rfl, hm2, -⟩
    rw [hc] at hm2 ⊢
    exact ⟨d'', o'', rfl, hm2⟩)
  have hne : (inn.toList == out.toList) = false := bytes_ne hio
  have hn2 : n ≤ 4096 := by
    obtain ⟨fb, mb, l, hand, mf, hp, rfl, -⟩ := h
    exact hp.most
  have H := Lib.hid h
  have hn8 : ¬ (n : Int) < 8 := by omega
  clear h hn hL hio hi ho hout hs harm hdead
  have HBW : Hid (∀ v, Below w.heap.size w (w.alloc (.cells #[v] 3))) := Lib.hid (fun v => (Below.refl _ _).alloc (Nat.le_refl _) _)
  unfold ptrTo at *
  rcases hy with rfl | rfl
  all_goals
    go_enter Tryz.func28, Tryz.ntmps28
    go_wp2_with fail
    refine (hp1.out _).mono ?_
    rintro e w' ⟨rfl, rfl⟩
    go_wp2_with fail
    refine (hp2.out _).mono ?_
    rintro e w' ⟨rfl, rfl⟩
    go_wp2_with fail
    refine (hframes.out _ (HBW.out _)).mono ?_
    rintro e w' ⟨rfl, rfl⟩
    go_wp2_with fail
  all_goals
    first
      | (refine (show Calls _ _ _ ((w.alloc (.cells #[.int .i64 0] 3)).alloc (.cells #[.pointer (some ⟨pb, 0, none⟩), .func (.func 71) #[] #[.pointer (some ⟨w.heap.size, 0, none⟩)], .int .i64 0] 124)) _ from ?_)
         have HC : Hid (∃ b, JobAt ((w.alloc (.cells #[.int .i64 0] 3)).alloc (.cells #[.pointer (some ⟨pb, 0, none⟩), .func (.func 71) #[] #[.pointer (some ⟨w.heap.size, 0, none⟩)], .int .i64 0] 124)) (w.heap.size + 1) pb w.heap.size 0 b) := Lib.hid ⟨false, jobAt_new w pb 0 false rfl⟩
         have HW1 : Hid (Below w.heap.size w ((w.alloc (.cells #[.int .i64 0] 3)).alloc (.cells #[.pointer (some ⟨pb, 0, none⟩), .func (.func 71) #[] #[.pointer (some ⟨w.heap.size, 0, none⟩)], .int .i64 0] 124))) := Lib.hid ((HBW.out _).alloc (by simp) _)
         generalize (w.alloc (.cells #[.int .i64 0] 3)).alloc (.cells #[.pointer (some ⟨pb, 0, none⟩), .func (.func 71) #[] #[.pointer (some ⟨w.heap.size, 0, none⟩)], .int .i64 0] 124) = W1 at *)
      | (have HC : Hid (∃ b, JobAt ((w.alloc (.cells #[.int .i64 1] 3)).alloc (.cells #[.pointer (some ⟨pb, 0, none⟩), .func (.func 71) #[] #[.pointer (some ⟨w.heap.size, 0, none⟩)], .int .i64 0] 124)) (w.heap.size + 1) pb w.heap.size 0 b) := Lib.hid ⟨true, jobAt_new w pb 1 true rfl⟩
         have HW1 : Hid (Below w.heap.size w ((w.alloc (.cells #[.int .i64 1] 3)).alloc (.cells #[.pointer (some ⟨pb, 0, none⟩), .func (.func 71) #[] #[.pointer (some ⟨w.heap.size, 0, none⟩)], .int .i64 0] 124))) := Lib.hid ((HBW.out _).alloc (by simp) _)
         generalize (w.alloc (.cells #[.int .i64 1] 3)).alloc (.cells #[.pointer (some ⟨pb, 0, none⟩), .func (.func 71) #[] #[.pointer (some ⟨w.heap.size, 0, none⟩)], .int .i64 0] 124) = W1 at *)
    obtain ⟨b, hj⟩ := HC.out
    refine (hopen.out W1 HW1.out _ _ b hj).mono ?_
    clear hj
    rintro e w2 ⟨v2, c2, d2, o2, rfl, hm2, he2, hok2⟩
    have HM2 : Hid (Moved (fun _ => False) n pb db w o d w2 o2 d2 L) := Lib.hid ((Moved.ofBelow H.out HW1.out).trans hm2 (fun _ _ h => h))
    have HE2 := Lib.hid he2
    clear hm2 he2
    by_cases hc2 : c2 = 0
    · subst hc2
      obtain ⟨cb, sb, rfl, -⟩ := hok2 rfl
      have hcc := Lib.hid (hcr.out w2 o2 d2 HM2.out)
      clear hok2
      unfold ptrTo
      go_wp2_with fail
      refine hcc.out.mono ?_
      rintro e w3 ⟨d3, o3, rfl, hm3⟩
      have HM3 := Lib.hid (HM2.out.trans hm3 (fun _ _ h => h))
      clear hm3 hcc
      go_wp2
      go_ret
      exact ⟨1, d3, o3, rfl, HM3.out, .inl rfl⟩
    · have hc2' : ¬ (c2 : Int) = 0 := by omega
      have HE3 := Lib.hid (HE2.out.resolve_left hc2)
      clear hc2 hok2
      go_wp2
      go_ret
      exact ⟨c2, d2, o2, rfl, HM2.out, .inr HE3.out⟩
end
end Go.Proofs.YtolieljpnafbhaaGreatDoor
/-
  milepostlaw12: works; a file sorted beside nothing else.
-/
namespace Go.Proofs.YtolieljpnafbhaaGreatDoor
open Go.RowKit Go.Maps

section
variable {q : Nat} {w0 w w' : World} {pb db n : Nat} {o o' : Owner} {d d' : Dsk} {L L' L2 : Logic}

theorem Kept.same (h : Kept q w0 w pb db n o d L) (hk : (L2.map (·.1)).Nodup) (he : ∀ x, mget L2 x = mget L x) : Kept q w0 w pb db n o d L2 :=
  ⟨h.pool.congr hk he, h.new, h.below, h.armed, h.dead, h.quota⟩

def KeptSort (q : Nat) (w0 : World) (pb db n : Nat) (L : Logic) (e : Ending) (w' : World) : Prop := ∃ d' o', e = .returned (.int .i64 0) ∧ Kept q w0 w' pb db n o' d' L

theorem two_L {inn out : Name} (f g : LFile) (h : inn ≠ out) : mput [(inn, f)] out g = [(out, g), (inn, f)] := by
  unfold mput mdel
  simp [h]

theorem kept_sort (HW : WriteSaid) {m : Nat} (HJS : JobSortSaid m) {inn out : Name} {es : List Edg} {fl : Bool} (h : Kept q w0 w pb db n o d [(inn, edgeFile es fl)]) (hn : 8 ≤ n) (b : Bool) (hio : inn ≠ out) (hi : ownName inn = false) (ho : ownName out = false) (hout : okName out = true)
    (hm : es.length ≤ m) (hq : 12 * es.length ≤ q) :
    Calls Tryz.prog 28 #[ptrTo pb, .string inn, .string out, .int .i64 (byNum b : Int)] w (KeptSort q w0 pb db n [(out, edgeFile (bestOf b es) true), (inn, edgeFile es fl)]) := by
  have hget : ∀ x, mget [(inn, edgeFile es fl)] x = if x = inn then some (edgeFile es fl) else none := fun x => by
    unfold mget
    by_cases hx : x = inn
    · subst hx; simp
    · have : ¬ inn = x := fun e => hx e.symm
      simp [hx, this]
  have hgi : mget [(inn, edgeFile es fl)] inn = some (edgeFile es fl) := by rw [hget, if_pos rfl]
  refine (sort_done (by' := b) HW HJS h.pool hn hgi hio hi ho hout (by rw [hget, if_neg (fun e => hio e.symm)]) (fun k => by
    rw [hget, if_neg]
    intro e
    have h1 := ownName_t k
    rw [e, hi] at h1
    cases h1) hm).mono ?_
  rintro e w' ⟨c, d', o', L', rfl, hmv, -, hc⟩
  have hneed : need [(inn, edgeFile es fl)] ≤ 4 * es.length := by
    rw [need_cons]
    have := edgeFile_need es fl
    show _ + 0 ≤ _
    omega
  have h0 : c = 0 := h.fine hmv (hc.imp (fun h => h.1) id) (by omega)
  subst h0
  rcases hc with ⟨_, hL⟩ | hc
  · refine ⟨d', o', rfl, (h.moved hmv (fun _ h => h.elim)).same ?_ (fun x => ?_)⟩
    · simp
      exact fun e => hio e.symm
    · rw [hL x, two_L _ _ hio]
  · exact absurd rfl hc.ne
end

def e21 : Edg := ⟨2, 1, 5, 4294967295⟩
def e12 : Edg := ⟨1, 2, 7, 4294967295⟩

theorem best_two : bestOf false [e21, e12] = [e12, e21] := by
  refine (Best.eq (b := false) ⟨?_, fun e he => ?_, fun x hx hn => ?_⟩).symm
  · rw [List.pairwise_cons]
    exact ⟨fun a ha => by rw [List.mem_singleton] at ha; subst ha; decide, List.pairwise_singleton _ _⟩
  · simp only [List.mem_cons, List.not_mem_nil, or_false] at he ⊢
    rcases he with rfl | rfl
    · refine ⟨.inr rfl, by decide, fun x hx hs => ?_⟩
      rcases hx with rfl | rfl
      · exact absurd hs.1 (by decide)
      · exact Nat.le_refl _
    · refine ⟨.inl rfl, by decide, fun x hx hs => ?_⟩
      rcases hx with rfl | rfl
      · exact Nat.le_refl _
      · exact absurd hs.1 (by decide)
  · simp only [List.mem_cons, List.not_mem_nil, or_false] at hx ⊢
    rcases hx with rfl | rfl
    · exact ⟨_, .inr rfl, ⟨rfl, rfl⟩⟩
    · exact ⟨_, .inl rfl, ⟨rfl, rfl⟩⟩

theorem names_kept {q : Nat} {w0 w : World} {pb db n : Nat} {o : Owner} {d : Dsk} {L : Logic} (h : Kept q w0 w pb db n o d L) (hl : L.length ≤ 1000) :
    Calls Tryz.prog 33 #[ptrTo db] w fun e w' => ∃ a cap, e = .returned (.slice a L.length cap) ∧ Kept q w0 w' pb db n o d L := by
  have hc := h.count
  have hd : DiskAt w db o d := by
    obtain ⟨_, _, _, _, _, g, _, _⟩ := h.pool
    exact g.disk
  refine (names_any hd (by omega)).mono ?_
  rintro e w' ⟨v, ns, rfl, hp, hr, hb⟩
  have hlen : ns.length = L.length := by
    have := hp.length_eq
    rw [List.length_map] at this
    omega
  rw [hlen] at hr
  obtain ⟨a, cap, rfl⟩ := ownsRow_slice hr
  exact ⟨a, cap, rfl, h.later hb⟩

set_option maxRecDepth 100000 in
set_option maxHeartbeats 4000000 in
theorem works12_any (HW : WriteSaid) {m : Nat} (HJS : JobSortSaid m) (hm : 2 ≤ m) (w : World) :
    Calls Tryz.prog 25 #[] w fun e w' => e = .returned (.bool true) ∧ Below w.heap.size w w' := by
  go_enter Tryz.func25, Tryz.ntmps25
  have HB0 : Hid (Below w.heap.size w (w.alloc (.cells #[.int .u32 2, .int .u32 1, .int .u64 5, .int .u32 4294967295, .int .u32 1, .int .u32 2, .int .u64 7, .int .u32 4294967295] 47))) := Lib.hid ((Below.refl _ _).alloc (Nat.le_refl _) _)
  have HR0 : Hid (RdE (w.alloc (.cells #[.int .u32 2, .int .u32 1, .int .u64 5, .int .u32 4294967295, .int .u32 1, .int .u32 2, .int .u64 7, .int .u32 4294967295] 47)) (.slice (some ⟨w.heap.size, 0, none⟩) 2 2) [e21, e12]) := Lib.hid ⟨_, 2, rfl, .inr ⟨w.heap.size, 0, rfl, fun j x hx => by
    match j, hx with
    | 0, hx => cases hx; simp [e21]
    | 1, hx => cases hx; simp [e12]
    | j + 2, hx => cases hx⟩⟩
  go_wp2_with fail
  generalize w.alloc (.cells #[.int .u32 2, .int .u32 1, .int .u64 5, .int .u32 4294967295, .int .u32 1, .int .u32 2, .int .u64 7, .int .u32 4294967295] 47) = W0 at *
  refine (begun_any HW 65536 (by decide) 8 (by decide) (by decide) _ [e21, e12] W0 HR0.out (by decide)).mono ?_
  rintro e w1 ⟨db, pb, o1, d1, rfl, hh1⟩
  have HH1 := Lib.hid hh1
  clear hh1
  have hso := Lib.hid (kept_sort HW HJS (inn := nmIn) (out := nmOut) HH1.out (by decide) false (by decide) (by decide) (by decide) (by decide) hm (by decide))
  rw [best_two] at hso
  unfold nmIn nmOut ptrTo at *
  go_wp2_with fail
  refine hso.out.mono ?_
  rintro e w2 ⟨d2, o2, rfl, hh2⟩
  have HH2 := Lib.hid hh2
  clear hso hh2
  have hop := Lib.hid (streamOpen_any (sz := 20) HH2.out.pool nmOut (by decide) (by decide) (by decide))
  rw [pfOpen_paged HH2.out.pool (name := nmOut) (ps := pagesOf (per 20) ([e12, e21].map Edg.bytes)) (fl := true) rfl, HH2.out.dead] at hop
  unfold nmOut ptrTo at hop
  simp only [Bool.false_eq_true, if_false] at hop
  go_wp2_with fail
  refine hop.out.mono ?_
  rintro e w3 ⟨v3, rfl, hb3, hs3, -⟩
  obtain ⟨sb, rfl, hst3, hsb⟩ := hs3 rfl
  have HH3 := Lib.hid (HH2.out.later hb3)
  have HOS3 : Hid (o2 sb = none) := Lib.hid (HH2.out.pool.fresh hsb)
  have hget := Lib.hid (streamGet_in HW HH3.out.pool hst3 HOS3.out (by decide) (by decide) (rs := [e12, e21].map Edg.bytes) (fl := true) rfl (sized_edges _) (i := 0) (by decide))
  clear hs3 hst3 hsb hb3 hop HH2
  unfold ptrTo at *
  go_wp2_with fail
  refine hget.out.mono ?_
  rintro e w4 ⟨v4, c4, d4, o4, rfl, hm4, he4, hr4, -⟩
  have hc4 : c4 = 0 := HH3.out.fine' hm4 he4 (by decide)
  subst hc4
  obtain ⟨hr4, -⟩ := hr4 rfl
  have HH4 := Lib.hid (HH3.out.moved hm4 (fun _ h => h.elim))
  have hrd : Hid (Calls Tryz.prog 32 #[v4] w4 (Gives (.tuple #[.agg #[.int .u32 1, .int .u32 2, .int .u64 7, .int .u32 4294967295], .int .i64 0]) w4)) := Lib.hid (readEdg_any v4 e12 w4 (Rd_own hr4))
  clear hm4 he4 hr4 hget HH3
  go_wp2_with fail
  refine hrd.out.mono ?_
  rintro e w5 ⟨rfl, hb5⟩
  have HH5 := Lib.hid ((HH4.out.later hb5).later ((Below.refl _ _).alloc (Nat.le_refl _) (.cells #[.int .u32 1, .int .u32 2, .int .u64 7, .int .u32 4294967295] 47)))
  have hc : (w5.alloc (.cells #[.int .u32 1, .int .u32 2, .int .u64 7, .int .u32 4294967295] 47)).cell? ⟨w5.heap.size, 0, none⟩ = some (.int .u32 1) := by simp
  have hnm := Lib.hid (names_kept HH5.out (by decide))
  clear hb5 hrd HH4
  unfold ptrTo at *
  go_wp2_with fail
  refine hnm.out.mono ?_
  rintro e w6 ⟨a6, cap6, rfl, hh6⟩
  have HH6 := Lib.hid hh6
  clear hh6 hnm HH5 hc
  simp only [List.length_cons, List.length_nil] at *
  go_wp2
  go_ret
  exact ⟨rfl, HB0.out.trans (HH6.out.below.mono HB0.out.size)⟩
end Go.Proofs.YtolieljpnafbhaaGreatDoor
/-
  A row of structs of integers that came in, opened: edges.
-/
namespace Go.Proofs.YtolieljpnafbhaaGreatDoor
open Go.ChangeShapes Go.WideShapes Go.ChangeAt Go.RowKit Go.Joins

theorem laidOutE : laidOutB Tryz.prog = true := by kernel_rfl

theorem spot_noneE {w : World} {a : Addr} {v : Value} (h : w.cell? a = some v) : a.spot = none := by
  obtain ⟨b, o, s⟩ := a
  cases s with
  | none => rfl
  | some s =>
    unfold World.cell? at h
    simp at h
    split at h <;> cases h

theorem u32_ofE {z : Int} (h : (Lit.int .u32 z).wf = true) : z = ((UInt32.ofNat z.toNat).toNat : Int) := by
  simp [Lit.wf] at h
  have h0 : IntKind.u32.min = 0 := rfl
  have h1 : IntKind.u32.max = 4294967295 := rfl
  rw [h0, h1] at h
  rw [UInt32.toNat_ofNat']
  omega

theorem u64_ofE {z : Int} (h : (Lit.int .u64 z).wf = true) : z = ((UInt64.ofNat z.toNat).toNat : Int) := by
  simp [Lit.wf] at h
  have h0 : IntKind.u64.min = 0 := rfl
  have h1 : IntKind.u64.max = 18446744073709551615 := rfl
  rw [h0, h1] at h
  rw [UInt64.toNat_ofNat']
  omega

theorem u8_ofE {z : Int} (h : (Lit.int .u8 z).wf = true) : ∃ k : Nat, k < 256 ∧ z = (k : Int) := by
  simp [Lit.wf] at h
  have h0 : IntKind.u8.min = 0 := rfl
  have h1 : IntKind.u8.max = 255 := rfl
  rw [h0, h1] at h
  exact ⟨z.toNat, by omega, by omega⟩

theorem u16_ofE {z : Int} (h : (Lit.int .u16 z).wf = true) : ∃ k : Nat, k < 65536 ∧ z = (k : Int) := by
  simp [Lit.wf] at h
  have h0 : IntKind.u16.min = 0 := rfl
  have h1 : IntKind.u16.max = 65535 := rfl
  rw [h0, h1] at h
  exact ⟨z.toNat, by omega, by omega⟩

theorem cellsEdge : Tryz.prog.cellsOf 47 = 4 := by kernel_rfl
theorem cellsU32e : Tryz.prog.cellsOf 23 = 1 := by kernel_rfl
theorem cellsU64e : Tryz.prog.cellsOf 45 = 1 := by kernel_rfl

set_option maxRecDepth 100000 in
theorem opened_edges {H : Type} {enc : TypeId × Value → H} {W : World} {sp : Nat → Bool} {a : Option Addr} {len cap : Nat} {d : DataW H} {p : List MemPlace} (h : DataW.Trod enc Tryz.prog W 0 sp true 40 (.slice a len cap) d p) :
    ∃ vs, RdE W (.slice a len cap) vs := by
  obtain ⟨fuel, hf⟩ := h
  rcases Deep.open_slice Tryz.underlying40 hf with ⟨hcs, -⟩ | ⟨a', len', cap', m, n, D, Pl, hcs, -, hl, -, hm, -, hx⟩
  · simp [Value.cells] at hcs
    obtain ⟨rfl, rfl, rfl⟩ := hcs
    exact ⟨[], none, 0, rfl, .inl rfl⟩
  · simp [Value.cells] at hcs
    obtain ⟨rfl, rfl, rfl⟩ := hcs
    have hlm : len ≤ m := by rw [hm]; split <;> omega
    rw [cellsEdge] at hx
    have each : ∀ i, i < len → ∃ x : Edg, W.cell? (a'.add (i * 4)) = some (.int .u32 (x.t.toNat : Int)) ∧ W.cell? (a'.add (i * 4 + 1)) = some (.int .u32 (x.h.toNat : Int)) ∧ W.cell? (a'.add (i * 4 + 2)) = some (.int .u64 (x.x.toNat : Int)) ∧ W.cell? (a'.add (i * 4 + 3)) = some (.int .u32 (x.m.toNat : Int)) := by
      intro i hi
      obtain ⟨cs', h1, h2⟩ := hx i (by omega)
      obtain ⟨_, hlen, hcell⟩ := World.cells?_some h1
      obtain ⟨xs, k, hk, hxy, _, hxl, hf⟩ := DataW.trod_struct Tryz.underlying47 h2
      match xs, hxl, cs', hlen with
      | [y0, y1, y2, y3], _, [v0, v1, v2, v3], _ =>
        have g0 := hf 0 _ rfl
        have g1 := hf 1 _ rfl
        have g2 := hf 2 _ rfl
        have g3 := hf 3 _ rfl
        simp [cellsU32e, cellsU64e] at g0 g1 g2 g3
        obtain ⟨n0, q0, -, w0⟩ := DataW.trod_int Tryz.underlying23 g0
        obtain ⟨n1, q1, -, w1⟩ := DataW.trod_int Tryz.underlying23 g1
        obtain ⟨n2, q2, -, w2⟩ := DataW.trod_int Tryz.underlying45 g2
        obtain ⟨n3, q3, -, w3⟩ := DataW.trod_int Tryz.underlying23 g3
        obtain ⟨rfl⟩ := q0
        obtain ⟨rfl⟩ := q1
        obtain ⟨rfl⟩ := q2
        obtain ⟨rfl⟩ := q3
        have e0 := hcell 0 (by omega)
        have e1 := hcell 1 (by omega)
        have e2 := hcell 2 (by omega)
        have e3 := hcell 3 (by omega)
        rw [Deep.add_add] at e0 e1 e2 e3
        exact ⟨⟨UInt32.ofNat n0.toNat, UInt32.ofNat n1.toNat, UInt64.ofNat n2.toNat, UInt32.ofNat n3.toNat⟩, by rw [← u32_ofE w0]; simpa using e0, by rw [← u32_ofE w1]; simpa using e1, by rw [← u64_ofE w2]; simpa using e2, by rw [← u32_ofE w3]; simpa using e3⟩
    have hv : ∃ vs : List Edg, vs.length = len ∧ ∀ (j : Nat) (x : Edg), vs[j]? = some x → W.cell? (a'.add (j * 4)) = some (.int .u32 (x.t.toNat : Int)) ∧ W.cell? (a'.add (j * 4 + 1)) = some (.int .u32 (x.h.toNat : Int)) ∧ W.cell? (a'.add (j * 4 + 2)) = some (.int .u64 (x.x.toNat : Int)) ∧ W.cell? (a'.add (j * 4 + 3)) = some (.int .u32 (x.m.toNat : Int)) := by
      clear hx hf
      generalize len = N at *
      clear hl hm hlm
      induction N with
      | zero => exact ⟨[], rfl, fun j x hj => by cases hj⟩
      | succ N ih =>
        obtain ⟨vs, h1, h2⟩ := ih (fun i hi => each i (by omega))
        obtain ⟨x, hx⟩ := each N (by omega)
        refine ⟨vs ++ [x], by simp [h1], fun j y hj => ?_⟩
        rcases Nat.lt_or_ge j vs.length with hlt | hge
        · rw [List.getElem?_append_left hlt] at hj
          exact h2 j y hj
        · rw [List.getElem?_append_right hge] at hj
          have : j - vs.length = 0 := by
            rcases Nat.eq_zero_or_pos (j - vs.length) with h | h
            · exact h
            · rw [List.getElem?_eq_none (by simp; omega)] at hj; cases hj
          rw [this] at hj
          cases hj
          rw [show j = N by omega]
          exact hx
    obtain ⟨vs, h1, h2⟩ := hv
    subst h1
    refine ⟨vs, some a', cap, rfl, ?_⟩
    rcases Nat.eq_zero_or_pos vs.length with h0 | h0
    · exact .inl h0
    · refine .inr ⟨a'.block, a'.off, ?_, ?_⟩
      · have h3 := (h2 0 vs[0] (List.getElem?_eq_getElem h0)).1
        have h4 := spot_noneE (a := a') (by simpa [Addr.add] using h3)
        obtain ⟨b, o, s⟩ := a'
        cases h4
        rfl
      · have h3 := (h2 0 vs[0] (List.getElem?_eq_getElem h0)).1
        have h4 := spot_noneE (a := a') (by simpa [Addr.add] using h3)
        intro j x hj
        have h5 := h2 j x hj
        obtain ⟨b, o, s⟩ := a'
        cases h4
        simp only [Addr_add] at h5
        exact ⟨h5.1, by rw [Nat.add_assoc]; exact h5.2.1, by rw [Nat.add_assoc]; exact h5.2.2.1, by rw [Nat.add_assoc]; exact h5.2.2.2⟩
end Go.Proofs.YtolieljpnafbhaaGreatDoor
/-
  milepostlaw12: what its statements share: frames, equal bytes, a sort beside other files, pages told and read.
-/
namespace Go.Proofs.YtolieljpnafbhaaGreatDoor
open Go.RowKit Go.Maps

theorem Best.turn {b b' : Bool} {l : List Edg} {out : List Edg} (h : Best b (bestOf b' l) out) : Best b l out := by
  have k := best_bestOf b' l
  refine ⟨h.rise, fun e he => ?_, fun x hx hn => ?_⟩
  · obtain ⟨h1, h2, h3⟩ := h.mem e he
    exact ⟨(k.mem e h1).1, h2, (k.mem e h1).2.2⟩
  · obtain ⟨y, hy, hs⟩ := k.all x hx hn
    obtain ⟨e, he, hs'⟩ := h.all y hy (hs.symm.loop hn)
    exact ⟨e, he, hs'.trans hs⟩

theorem bestOf_turn (b b' : Bool) (l : List Edg) : bestOf b (bestOf b' l) = bestOf b l := (best_bestOf b (bestOf b' l)).turn.eq

theorem rd_string {w : World} {v : Value} {bs : List UInt8} (h : Rd w v bs) : Sem.run Tryz.prog (convert 57 9 v) w = .ok (.string ⟨bs.toArray⟩) w := by
  obtain ⟨a, cap, rfl, hlc, hcm, hc⟩ := h
  have go : ∀ ad : Addr, a = some ad → (∀ (j : Nat) (hj : j < bs.length), w.cell? (ad.add j) = some (bv bs[j])) → Sem.run Tryz.prog (convert 57 9 (.slice a bs.length cap)) w = .ok (.string ⟨bs.toArray⟩) w := fun ad e hcell => by
    subst e
    exact run_convert_bytes_back (P := Tryz.prog) w 57 9 5 ad cap bs Tryz.underlying57 Tryz.underlying5 Tryz.underlying9 hcell
  rcases hc with hc | ⟨b, off, rfl, hcell⟩
  · cases a with
    | none =>
      have hb : bs = [] := List.length_eq_zero_iff.1 hc
      subst hb
      exact run_convert_bytes_nil w 57 5 Tryz.underlying57 Tryz.underlying5 0 cap 9 Tryz.underlying9
    | some ad => exact go ad rfl (fun j hj => by omega)
  · exact go _ rfl (fun j hj => by rw [Addr_add]; exact hcell j hj)

set_option maxRecDepth 100000 in
set_option maxHeartbeats 1000000 in
theorem eqBytes_same {w : World} {u v : Value} {bs : List UInt8} (hu : Rd w u bs) (hv : Rd w v bs) :
    Calls Tryz.prog 36 #[u, v] w fun e w' => e = .returned (.bool true) ∧ w = w' := by
  have h1 := rd_string hu
  have h2 := rd_string hv
  obtain ⟨a, cap, rfl, -⟩ := hu
  obtain ⟨a', cap', rfl, -⟩ := hv
  generalize bs.length = N at *
  go_enter Tryz.func36, Tryz.ntmps36
  go_wp2
  go_ret
  exact ⟨rfl, rfl⟩

set_option maxHeartbeats 1000000 in
theorem frames8_any (k : Nat) (hk : k < 256) (w : World) : Calls Tryz.prog 27 #[.int .u8 (k : Int)] w fun e w' => e = .returned (.int .i64 ((8 + k % 56 : Nat) : Int)) ∧ w = w' := by
  have hw1 : IntKind.i64.wrap (k : Int) = (k : Int) := wrap_in (by omega) (by omega)
  go_enter Tryz.func27, Tryz.ntmps27
  go_wp2
  go_ret
  exact ⟨ret_int (by omega), rfl⟩

section
variable {q : Nat} {w0 w w' : World} {pb db n : Nat} {o o' : Owner} {d d' : Dsk} {L L' L2 : Logic}

/-- A sort beside other files. -/
theorem kept_sortL (HW : WriteSaid) {m : Nat} (HJS : JobSortSaid m) {inn out : Name} {es : List Edg} {fl : Bool} (h : Kept q w0 w pb db n o d L) (hn : 8 ≤ n) (b : Bool) (hL : mget L inn = some (edgeFile es fl)) (hno : mget L out = none) (hnt : ∀ k, mget L (tName k) = none) (hi : ownName inn = false) (ho : ownName out = false) (hout : okName out = true)
    (hm : es.length ≤ m) (hq : need L + 8 * es.length ≤ q) :
    Calls Tryz.prog 28 #[ptrTo pb, .string inn, .string out, .int .i64 (byNum b : Int)] w (KeptSort q w0 pb db n (mput L out (edgeFile (bestOf b es) true))) := by
  have hio : inn ≠ out := fun e => by rw [e, hno] at hL; cases hL
  refine (sort_done (by' := b) HW HJS h.pool hn hL hio hi ho hout hno hnt hm).mono ?_
  rintro e w' ⟨c, d', o', L', rfl, hmv, -, hc⟩
  have h0 : c = 0 := h.fine hmv (hc.imp (fun h => h.1) id) hq
  subst h0
  rcases hc with ⟨_, hL'⟩ | hc
  · exact ⟨d', o', rfl, (h.moved hmv (fun _ h => h.elim)).same (mput_keys h.pool.keys) (fun x => (hL' x).symm)⟩
  · exact absurd rfl hc.ne

theorem kept_pages (h : Kept q w0 w pb db n o d L) {name : Name} {ps : List Pg} {fl : Bool} (hL : mget L name = some (.inl (ps, fl))) :
    Calls Tryz.prog 34 #[ptrTo pb, .string name] w fun e w' => e = .returned (.tuple #[.int .i64 (ps.length : Int), .int .i64 0]) ∧ Kept q w0 w' pb db n o d L := by
  have H := h
  obtain ⟨fb, mb, l, hand, mf, hp, rfl, hg⟩ := h.pool
  refine (pages_sound hp hg hL).mono ?_
  rintro e w' ⟨rfl, hb⟩
  refine ⟨?_, H.later hb⟩
  unfold pagesAns
  rw [H.dead]
  rfl

/-- What is read of a page, of a pool that is kept. -/
def KeptRead (q : Nat) (w0 w : World) (pb db n : Nat) (o : Owner) (d : Dsk) (L : Logic) (b : Pg) (e : Ending) (w' : World) : Prop :=
  ∃ v d' o', e = .returned (.tuple #[v, .int .i64 0]) ∧ Kept q w0 w' pb db n o' d' L ∧ w'.ownsRow w.heap.size 5 1 v b.length (b.map bv) ∧ (∀ x, v.ownBlock = some x → o' x = none) ∧ Moved (fun _ => False) n pb db w o d w' o' d' L

theorem kept_read (HW : WriteSaid) (h : Kept q w0 w pb db n o d L) (hq : need L ≤ q) {name : Name} {ps : List Pg} {fl : Bool} (hL : mget L name = some (.inl (ps, fl))) {k : Nat} {b : Pg} (hk : ps[k]? = some b) :
    Calls Tryz.prog 35 #[ptrTo pb, .string name, .int .i64 (k : Int)] w (KeptRead q w0 w pb db n o d L b) := by
  refine (poolRead_any HW h.pool hL hk).mono ?_
  rintro e w' ⟨v, c, d', o', rfl, hp, ht, hg, hon, hc, hok, -⟩
  have hmv : Moved (fun _ => False) n pb db w o d w' o' d' L := moved_of hp ht hg hon
  have h0 : c = 0 := h.fine' hmv hc hq
  subst h0
  obtain ⟨h1, h2⟩ := hok rfl
  exact ⟨v, d', o', rfl, h.moved hmv (fun _ h => h.elim), h1, h2, hmv⟩
end

end Go.Proofs.YtolieljpnafbhaaGreatDoor
