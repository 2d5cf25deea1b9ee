/-
  Joined, in build order: Merge4, Ext8, Store1, Store2, Store3, Store4.
-/
import Derived.Test.YtolieljpnafbhaaGreatDoorG14
import Derived.Deep.RegionWith
import Derived.Laws.IdiomStrings
/-
  extsort: sort, of any file.
-/
namespace Go.Proofs.YtolieljpnafbhaaGreatDoor
open Go.RowKit Go.Maps Go.MapKept

section
variable {w w' : World} {pb db n cb kb sb jb byb made : Nat} {by' : Bool} {name : Name} {o o' : Owner} {d d' : Dsk} {L L' : Logic}

/-- Where runs are merged till one is left. -/
def SortHead (n pb db jb byb cb : Nat) (by' : Bool) (w : World) (o : Owner) (d : Dsk) (L : Logic) (out : Name) (es : List Edg) (left : Nat) (v : Value) (wr : World) : Prop :=
  ∃ (d' : Dsk) (o' : Owner) (L' : Logic) (rs : List Run) (made : Nat), Moved (fun x => x = cb ∨ x = jb) n pb db w o d wr o' d' L' ∧ JobAt wr jb pb byb made by' ∧ NameRow wr v (rs.map (·.1)) ∧ (∀ b, v.ownBlock = some b → o' b = none ∧ w.heap.size ≤ b) ∧ RunsOk by' es rs ∧
    (∀ x, mget L' x = mget (runsL rs L) x) ∧ ((∃ x, rs = [(out, x)]) ∨ (2 ≤ rs.length ∧ ∀ p ∈ rs, ∃ k, k < made ∧ p.1 = tName k)) ∧ made + rs.length ≤ 102 ∧ left = rs.length

theorem runs_none {out : Name} {rs : List Run} (hno : mget L out = none) (hnt : ∀ k, mget L (tName k) = none) (h : (∃ x, rs = [(out, x)]) ∨ (2 ≤ rs.length ∧ ∀ p ∈ rs, ∃ k, k < made ∧ p.1 = tName k)) : ∀ p ∈ rs, mget L p.1 = none := by
  intro p hp
  rcases h with ⟨x, rfl⟩ | ⟨_, h⟩
  · rw [List.mem_singleton.1 hp]
    exact hno
  · obtain ⟨k, _, e⟩ := h p hp
    rw [e]
    exact hnt k

theorem runs_sort {out : Name} {rs : List Run} (h : (∃ x, rs = [(out, x)]) ∨ (2 ≤ rs.length ∧ ∀ p ∈ rs, ∃ k, k < made ∧ p.1 = tName k)) : ∀ x ∈ rs.map (·.1), ofSort out x := by
  intro y hy
  obtain ⟨p, hp, rfl⟩ := List.mem_map.1 hy
  rcases h with ⟨x, rfl⟩ | ⟨_, h⟩
  · rw [List.mem_singleton.1 hp]
    exact .inl rfl
  · obtain ⟨k, _, e⟩ := h p hp
    exact .inr ⟨k, e⟩

theorem SortHead.next {out nm : Name} {es : List Edg} {rs : List Run} {q left g mk : Nat} {w4 w5 : World} {o4 : Owner} {d4 : Dsk} {L4 : Logic} {vd v5 : Value} {nsd : List Name} {ob : Obj}
    (hm : Moved (fun x => x = cb ∨ x = jb) n pb db w o d w4 o4 d4 L4) (hj : JobAt w4 jb pb byb mk by') (h1 : jb < w.heap.size) (h2 : byb < w.heap.size) (hvd : vd.ownBlock = some g) (hg : o4 g = none ∧ w.heap.size ≤ g) (ha : AppendedName (w4.alloc ob) vd nsd nm v5 w5)
    (hns : nsd ++ [nm] = (merged by' rs q nm).map (·.1)) (hok : RunsOk by' es (merged by' rs q nm)) (hget : ∀ x, mget L4 x = mget (runsL (merged by' rs q nm) L) x) (hsh : (∃ x, merged by' rs q nm = [(out, x)]) ∨ (2 ≤ (merged by' rs q nm).length ∧ ∀ p ∈ merged by' rs q nm, ∃ k, k < mk ∧ p.1 = tName k))
    (hmk : mk + (merged by' rs q nm).length ≤ 102) (hl : left = (merged by' rs q nm).length) : SortHead n pb db jb byb cb by' w o d L out es left v5 w5 := by
  obtain ⟨hr, ht, hb⟩ := ha
  have hs : w4.heap.size < (w4.alloc ob).heap.size := by simp
  have hw : w.heap.size ≤ w4.heap.size := hm.size
  have ht' : Turn (· = g) (w4.alloc ob) w5 := ht.mono (fun x _ e => by rw [hvd] at e; exact (Option.some.inj e).symm)
  rw [hns] at hr
  have hjk : ∀ x, x < w.heap.size → w5.heap[x]? = w4.heap[x]? := fun x hx => (ht'.block x (by omega) (fun e => by omega)).trans ((MapKept.heap_alloc w4 ob).2 x (by omega))
  refine ⟨d4, o4, L4, merged by' rs q nm, mk, (hm.alloc ob).turned (b := g) hg.1 (.inr hg.2) ht', hj.kept (hjk jb h1) (hjk byb h2), hr, fun b hb' => ?_, hok, hget, hsh, hmk, hl⟩
  rcases hb with e | e
  · rw [e, hvd] at hb'
    cases hb'
    exact hg
  · rw [e] at hb'
    cases hb'
    exact ⟨hm.pool.fresh (Nat.le_of_lt hs), by omega⟩

set_option maxRecDepth 100000 in
set_option maxHeartbeats 32000000 in
theorem jobSort_any (HW : WriteSaid) {m : Nat} (HS : SortSaid m) (hm24 : m ≤ 2400) : JobSortSaid m := by
  intro w pb db n cb sb jb byb by' o d L h hn hj hoj hob hne es fl inn out x0 hL hsrc hst hoc hos hcj hcb hsj hsc hout hno hnt hto hm
  have hruns := Lib.hid (jobRuns_any HW HS h hn hj hoj hob hne hL hsrc hst hoc hos hcj hcb hsj hsc hout hno hnt hto hm (by omega))
  have hframes : Hid (∀ W o' d' L', PoolAt W pb db n o' d' L' → Calls Tryz.prog 46 #[ptrTo pb] W fun e w' => e = .returned (.int .i64 (n : Int)) ∧ W = w') := Lib.hid (fun W o' d' L' hW => poolFrames_any hW)
  have hflush : Hid (∀ W o' d' L' x, PoolAt W pb db n o' d' L' → mget L' out = some (edgeFile x false) → Calls Tryz.prog 64 #[ptrTo pb, .string out] W (LaidPost (fun _ => False) n pb db W o' d' L' (mput L' out (edgeFile x true)))) := Lib.hid (fun W o' d' L' x hW hL' => flush_pool HW hW hL')
  have hfresh : Hid (∀ W made, JobAt W jb pb byb made by' → made < 100 → Calls Tryz.prog 107 #[ptrTo jb] W fun e w' => e = .returned (.string (tName made)) ∧ JobAt w' jb pb byb (made + 1) by' ∧ Turn (· = jb) W w') := Lib.hid (fun W made hW hm => fresh_any hW hm hne)
  have hmerge : Hid (∀ W o' d' L' made rs q v nm, Moved (fun x => x = cb ∨ x = jb) n pb db w o d W o' d' L' → JobAt W jb pb byb made by' → RunsOk by' es rs → (∀ x, mget L' x = mget (runsL rs L) x) → NameRow W v ((rs.take q).map (·.1)) → (∀ b, v.ownBlock = some b → o' b = none) → rs.length ≤ 1000 → okName nm = true → mget L nm = none → nm ∉ rs.map (·.1) →
      Calls Tryz.prog 108 #[ptrTo jb, v, .string nm] W (MergePost n pb db W o' d' L' nm ((rs.take q).map (·.1)) (bestOf by' (allOf (rs.take q))) (lens (rs.take q)))) := Lib.hid (fun W o' d' L' made rs q v nm hmv hjW hok he hv hvo hl hnm hno' hni => by
    have hl1 := lens_split rs q
    have hl2 := hok.len
    refine jobMerge_any HW hmv.pool hjW (hmv.free hj.lt.1 hoj) (hmv.free hj.lt.2 hob) hv hvo (fun p hp => ?_) ?_ ?_ (fun p hp => hok.each p (List.mem_of_mem_take hp)) (by omega) hnm ?_
    · rw [he]
      exact runsL_get _ _ hok.nodup p (List.mem_of_mem_take hp)
    · rw [List.map_take]
      exact List.Nodup.sublist (List.take_sublist _ _) hok.nodup
    · rw [List.length_take]; omega
    · rw [he, runsL_other _ _ _ hni, hno'])
  have hn2 : n ≤ 4096 := by
    obtain ⟨fb, mb, l, hand, mf, hp, rfl, -⟩ := h
    exact hp.most
  have HNO := Lib.hid hno
  have HNT := Lib.hid hnt
  have HTO := Lib.hid hto
  have HOUT := Lib.hid hout
  have HKEYS := Lib.hid h.keys
  have HOJ := Lib.hid hoj
  have HCJ := Lib.hid hcj
  have HOB := Lib.hid hob
  have hjl1 := hj.lt.1
  have hjl2 := hj.lt.2
  clear h hj hoj hob hne hL hsrc hst hoc hos hcj hcb hsj hsc hout hno hnt hto hm
  unfold ptrTo at *
  obtain ⟨ways, hways⟩ : ∃ ways : Nat, (ways : Int) = (n : Int) - 4 := ⟨n - 4, by omega⟩
  have hw1 : IntKind.i64.wrap ((n : Int) - 4) = (ways : Int) := by rw [wrap_in (by omega) (by omega), hways]
  have hways4 : 4 ≤ ways ∧ ways ≤ 4092 := by omega
  obtain ⟨hways4, hways5⟩ := hways4
  have HWAYS := Lib.hid hways
  clear hways
  go_enter Tryz.func74, Tryz.ntmps74
  go_wp2_with fail
  refine hruns.out.mono ?_
  rintro e w1 ⟨v1, c1, d1, o1, L1, rfl, hm1, hot1, hc1⟩
  have HM1 := Lib.hid hm1
  have HOT1 := Lib.hid hot1
  rcases hc1 with ⟨rfl, rs, r, hL1, hok, hnm, hrr, hr51, hj1, hv1, hvf1⟩ | he1
  · have HEAD : Hid (SortHead n pb db jb byb cb by' w o d L out es rs.length v1 w1) := Lib.hid ⟨d1, o1, L1, rs, r, hm1, hj1, hv1, hvf1, hok, (fun x => by rw [hL1]), hnm.imp id (fun h => ⟨h.1, h.2.2⟩), by omega, rfl⟩
    obtain ⟨hj0, -⟩ := hj1.cells
    have hpool1 := Lib.hid (hframes.out w1 o1 d1 L1 hm1.pool)
    clear hL1 hok hnm hrr hr51 hj1 hv1 hvf1 hm1 hot1
    unfold ptrTo at hj0
    generalize rs.length = r0 at *
    clear rs
    go_wp2_with fail
    refine hpool1.out.mono ?_
    rintro e w2 ⟨rfl, rfl⟩
    go_wp2
    go_loopg [7] r0 (fun left v wr => SortHead n pb db jb byb cb by' w o d L out es left v wr)
    case atStart => exact HEAD.out
    case round =>
      clear hj0 HEAD HM1 HOT1 hpool1
      generalize u7 = v at *
      generalize wr = wo at *
      obtain ⟨d2, o2, L2, rs, mk, hm2, hj2, hv2, hvf2, hok2, hget2, hnm2, hmk, hleft⟩ := hrel
      have HM2 := Lib.hid hm2
      have HJ2 := Lib.hid hj2
      have HV2 := Lib.hid hv2
      have HVF2 := Lib.hid hvf2
      have HRO2 := Lib.hid hok2
      have HGET2 := Lib.hid hget2
      have HNM2 := Lib.hid hnm2
      have HLEFT := Lib.hid hleft
      have HNE : Hid (need L2 ≤ need L + 4 * es.length) := Lib.hid (runs_need hok2 HKEYS.out hm2.pool.keys hget2)
      have HOT2 : Hid (∀ x, ¬ ofSort out x → mget L2 x = mget L x) := Lib.hid (fun x hx => by rw [hget2, runsL_other _ _ _ (fun e => hx (runs_sort hnm2 x e))])
      obtain ⟨hj0, -⟩ := hj2.cells
      unfold ptrTo at hj0
      obtain ⟨g, off, cap, rfl⟩ := hv2.shape
      obtain ⟨-, hl2, hl3, -⟩ := hv2.cells
      unfold maxLen at hl3
      have hsz : w.heap.size ≤ wo.heap.size := hm2.size
      clear hm2 hj2 hv2 hvf2 hok2 hget2 hleft
      rw [List.length_map] at *
      rcases hnm2 with ⟨x, rfl⟩ | ⟨hr2, hnames⟩
      · have hx : x = bestOf by' es := by
          have h1 := HRO2.out.each (out, x) (by simp)
          have h2 := HRO2.out.all
          simp only [allOf, List.map_cons, List.map_nil, List.flatten_cons, List.flatten_nil, List.append_nil] at h2
          rw [← h2]
          exact h1.symm
        have HX := Lib.hid hx
        have hfl := Lib.hid (hflush.out wo o2 d2 L2 x HM2.out.pool (by rw [HGET2.out]; exact runsL_get _ _ HRO2.out.nodup (out, x) (by simp)))
        clear hx
        simp only [List.map_cons, List.map_nil, List.length_cons, List.length_nil] at *
        go_wp2_with fail
        refine hfl.out.mono ?_
        rintro e w3 ⟨c3, d3, o3, rfl, hm3, he3⟩
        have HM3 := Lib.hid (HM2.out.trans hm3 (fun _ _ h => h.elim))
        have HE3 := Lib.hid he3
        clear hm3 he3
        go_wp2
        go_ret
        refine ⟨c3, d3, o3, _, rfl, HM3.out, fun y hy => ?_, ?_⟩
        · have h1 := HOT2.out y hy
          split
          · rw [mget_mput, if_neg (fun e => hy (.inl e)), h1]
          · exact h1
        · rcases HE3.out with h | h
          · subst h
            refine .inl ⟨rfl, fun y => ?_⟩
            rw [if_pos rfl, mget_mput, mget_mput, HX.out]
            by_cases e : y = out
            · rw [if_pos e, if_pos e]
            · rw [if_neg e, if_neg e, HGET2.out, runsL_other]
              simpa using e
          · have h2 := HNE.out
            exact .inr ((h.num (by omega)).later HM2.out.on.quota)
      · have HNAMES := Lib.hid hnames
        have hlen100 : rs.length ≤ 1000 := by omega
        have HNL := Lib.hid (runs_none HNO.out HNT.out HNM2.out)
        have HRS := Lib.hid (runs_sort HNM2.out)
        clear hnames
        generalize hN : rs.length = N at *
        have HN := Lib.hid hN
        clear hN
        by_cases hfew : ways < N
        · have hfresh1 := Lib.hid (hfresh.out wo mk HJ2.out (by omega))
          have HNI : Hid (tName mk ∉ rs.map (·.1)) := Lib.hid (fun hx => by
            obtain ⟨p, hp, e⟩ := List.mem_map.1 hx
            obtain ⟨k, hk, e'⟩ := HNAMES.out p hp
            have := tName_inj (e'.symm.trans e)
            omega)
          have hmin : min (ways : Int) (N : Int) = (ways : Int) := Int.min_eq_left (by omega)
          have hok' := Lib.hid (tName_ok (k := mk) (by omega))
          unfold ptrTo at hfresh1
          go_wp2_with fail
          refine hfresh1.out.mono ?_
          rintro e w3 ⟨rfl, hj3, ht3⟩
          have HM3 : Hid (Moved (fun x => x = cb ∨ x = jb) n pb db w o d w3 o2 d2 L2) := Lib.hid (HM2.out.turned (b := jb) (HM2.out.free hjl1 HOJ.out) (.inl (.inr rfl)) ht3)
          have HV3 : Hid (NameRow w3 (.slice (some ⟨g, off, none⟩) N cap) (rs.map (·.1))) := Lib.hid (HV2.out.turn ht3 (fun b hb e => by have := (HVF2.out b hb).2; omega))
          have HJ3 := Lib.hid hj3
          have hmg := Lib.hid (hmerge.out w3 o2 d2 L2 (mk + 1) rs ways (.slice (some ⟨g, off, none⟩) ways cap) (tName mk) HM3.out hj3 HRO2.out HGET2.out (by rw [List.map_take]; exact HV3.out.take (by rw [List.length_map, HN.out]; omega)) (fun b hb => (HVF2.out b hb).1) (by rw [HN.out]; exact hlen100) hok'.out (HNT.out mk) HNI.out)
          clear hj3 ht3 hfresh1
          unfold ptrTo at hmg
          generalize hnm : tName mk = nm at *
          have HNMM := Lib.hid hnm
          clear hnm
          go_wp2_with fail
          refine hmg.out.mono ?_
          rintro e w4 ⟨c4, d4, o4, L4, rfl, hm4, hot4, hc4⟩
          have HM4 := Lib.hid (HM3.out.trans hm4 (fun _ _ h => h.elim))
          have HNSO : Hid (∀ x, ¬ ofSort out x → x ≠ nm ∧ x ∉ (rs.take ways).map (·.1)) := Lib.hid (fun x hx => ⟨fun e => hx (.inr ⟨mk, e.trans HNMM.out.symm⟩), fun e => by
            obtain ⟨p, hp, e'⟩ := List.mem_map.1 e
            exact hx (HRS.out x (List.mem_map.2 ⟨p, List.mem_of_mem_take hp, e'⟩))⟩)
          by_cases hc4' : c4 = 0
          · subst hc4'
            have HOK4 := Lib.hid (HRO2.out.merge (q := ways) HNI.out)
            have HGET4 : Hid (∀ x, mget L4 x = mget (runsL (merged by' rs ways nm) L) x) := Lib.hid (by
              rcases hc4 with ⟨_, e⟩ | e
              · rw [e]
                exact merged_get HRO2.out HNI.out HNL.out HGET2.out
              · exact absurd rfl e.ne)
            have HV4 : Hid (NameRow w4 (.slice (some ⟨g, off, none⟩) N cap) (rs.map (·.1))) := Lib.hid (HV3.out.kept (fun b hb => hm4.block (HV3.out.lt b hb) (HVF2.out b hb).1 (fun h => h)))
            have HG4 : Hid (o4 g = none ∧ w.heap.size ≤ g) := Lib.hid ⟨hm4.free (HV3.out.lt g rfl) (HVF2.out g rfl).1, (HVF2.out g rfl).2⟩
            have HJ4 : Hid (JobAt w4 jb pb byb (mk + 1) by') := Lib.hid (HJ3.out.kept (hm4.block HJ3.out.lt.1 (HM3.out.free hjl1 HOJ.out) (fun h => h)) (hm4.block HJ3.out.lt.2 (HM3.out.free hjl2 HOB.out) (fun h => h)))
            have HVD : Hid (∀ ob, NameRow (w4.alloc ob) (.slice (some ⟨g, off + ways, none⟩) (N - ways) (cap - ways)) ((rs.map (·.1)).drop ways)) := Lib.hid (fun ob => (HV4.out.drop (by rw [List.length_map, HN.out]; omega)).below ((Below.refl _ _).alloc (Nat.le_refl _) ob))
            have HDL : Hid (((rs.map (·.1)).drop ways).length ≤ 100000) := Lib.hid (by rw [List.length_drop, List.length_map, HN.out]; omega)
            clear hm4 hot4 hc4 hmg
            go_wp2_with (at_builtin; refine wpList_append_name rfl _ _ 63 rfl Tryz.underlying63 rfl (HVD.out _) nm ⟨w4.heap.size, 0, none⟩ 1 rfl (by simp) HDL.out ?_)
            intro v5 w5 ha5
            have HNX : Hid (SortHead n pb db jb byb cb by' w o d L out es (N - ways + 1) v5 w5) := Lib.hid (by
              have hml : (merged by' rs ways nm).length = N - ways + 1 := by rw [merged_length, HN.out]
              refine SortHead.next (q := ways) HM4.out HJ4.out hjl1 hjl2 rfl HG4.out ha5 merged_names.symm HOK4.out HGET4.out (.inr ⟨by rw [hml]; omega, fun p hp => ?_⟩) (by rw [hml]; omega) hml.symm
              rcases List.mem_append.1 hp with hp | hp
              · obtain ⟨k, hk, e⟩ := HNAMES.out p (List.mem_of_mem_drop hp)
                exact ⟨k, by omega, e⟩
              · rw [List.mem_singleton.1 hp]
                exact ⟨mk, Nat.lt_succ_self _, HNMM.out.symm⟩)
            clear ha5
            go_wp2
            go_roundg (N - ways + 1)
            case measure => have := HLEFT.out; omega
            case rel => exact HNX.out
          · have hc4n : ¬ (c4 : Int) = 0 := by omega
            have HE4 : Hid (ErrN d d4 (need L + 8 * es.length) c4) := Lib.hid (((hc4.resolve_left (fun h => hc4' h.1)).mono (by
              have h1 := HNE.out
              have h2 := lens_split rs ways
              have h3 := HRO2.out.len
              omega)).later HM3.out.on.quota)
            have HOT4 : Hid (∀ x, ¬ ofSort out x → mget L4 x = mget L x) := Lib.hid (fun x hx => by rw [hot4 x (HNSO.out x hx).1 (HNSO.out x hx).2, HOT2.out x hx])
            clear hc4' hm4 hot4 hc4 hmg
            go_wp2
            go_ret
            exact ⟨c4, d4, o4, L4, rfl, HM4.out, HOT4.out, .inr HE4.out⟩
        · have HNI : Hid (out ∉ rs.map (·.1)) := Lib.hid (fun hx => by
            obtain ⟨p, hp, e⟩ := List.mem_map.1 hx
            obtain ⟨k, hk, e'⟩ := HNAMES.out p hp
            exact HTO.out k (e.symm.trans e'))
          have hmin : min (ways : Int) (N : Int) = (N : Int) := Int.min_eq_right (by omega)
          have hmg := Lib.hid (hmerge.out wo o2 d2 L2 mk rs N (.slice (some ⟨g, off, none⟩) N cap) out HM2.out HJ2.out HRO2.out HGET2.out (by rw [List.map_take]; exact HV2.out.take (by rw [List.length_map, HN.out]; exact Nat.le_refl _)) (fun b hb => (HVF2.out b hb).1) (by rw [HN.out]; exact hlen100) HOUT.out HNO.out HNI.out)
          unfold ptrTo at hmg
          have hfew' : ¬ (ways : Int) < (N : Int) := by omega
          go_wp2_with fail
          refine hmg.out.mono ?_
          rintro e w4 ⟨c4, d4, o4, L4, rfl, hm4, hot4, hc4⟩
          have HM4 := Lib.hid (HM2.out.trans hm4 (fun _ _ h => h.elim))
          have HNSO : Hid (∀ x, ¬ ofSort out x → x ≠ out ∧ x ∉ (rs.take N).map (·.1)) := Lib.hid (fun x hx => ⟨fun e => hx (.inl e), fun e => by
            obtain ⟨p, hp, e'⟩ := List.mem_map.1 e
            exact hx (HRS.out x (List.mem_map.2 ⟨p, List.mem_of_mem_take hp, e'⟩))⟩)
          by_cases hc4' : c4 = 0
          · subst hc4'
            have HOK4 := Lib.hid (HRO2.out.merge (q := N) HNI.out)
            have HGET4 : Hid (∀ x, mget L4 x = mget (runsL (merged by' rs N out) L) x) := Lib.hid (by
              rcases hc4 with ⟨_, e⟩ | e
              · rw [e]
                exact merged_get HRO2.out HNI.out HNL.out HGET2.out
              · exact absurd rfl e.ne)
            have HV4 : Hid (NameRow w4 (.slice (some ⟨g, off, none⟩) N cap) (rs.map (·.1))) := Lib.hid (HV2.out.kept (fun b hb => hm4.block (HV2.out.lt b hb) (HVF2.out b hb).1 (fun h => h)))
            have HG4 : Hid (o4 g = none ∧ w.heap.size ≤ g) := Lib.hid ⟨hm4.free (HV2.out.lt g rfl) (HVF2.out g rfl).1, (HVF2.out g rfl).2⟩
            have HJ4 : Hid (JobAt w4 jb pb byb mk by') := Lib.hid (HJ2.out.kept (hm4.block HJ2.out.lt.1 (HM2.out.free hjl1 HOJ.out) (fun h => h)) (hm4.block HJ2.out.lt.2 (HM2.out.free hjl2 HOB.out) (fun h => h)))
            have hmg1 : merged by' rs N out = [(out, bestOf by' (allOf (rs.take N)))] := by
              unfold merged
              rw [List.drop_of_length_le (by rw [HN.out]; exact Nat.le_refl _), List.nil_append]
            have HNX : Hid (∀ vd v5 w5 ob, vd.ownBlock = some g → AppendedName (w4.alloc ob) vd [] out v5 w5 → SortHead n pb db jb byb cb by' w o d L out es 1 v5 w5) := Lib.hid (fun vd v5 w5 ob hvd ha5 => by
              refine SortHead.next (q := N) HM4.out HJ4.out hjl1 hjl2 hvd HG4.out ha5 (by rw [hmg1]; rfl) HOK4.out HGET4.out (.inl ⟨_, hmg1⟩) (by rw [hmg1]; simp only [List.length_singleton]; omega) (by rw [hmg1]; rfl))
            have HVD : Hid (∀ ob, (cap = N → NameRow (w4.alloc ob) (.slice (some ⟨g, off, none⟩) 0 0) []) ∧ (N < cap → NameRow (w4.alloc ob) (.slice (some ⟨g, off + N, none⟩) 0 (cap - N)) [])) := Lib.hid (fun ob => ⟨fun e => (HV4.out.dropAll e.symm).below ((Below.refl _ _).alloc (Nat.le_refl _) ob), fun e => by
              have := HV4.out.drop (n := N) (by rw [List.length_map, HN.out]; exact Nat.le_refl _)
              rw [Nat.sub_self, List.drop_of_length_le (by rw [List.length_map, HN.out]; exact Nat.le_refl _)] at this
              exact this.below ((Below.refl _ _).alloc (Nat.le_refl _) ob)⟩)
            clear hm4 hot4 hc4 hmg hmg1
            by_cases hcN : cap = N
            · have HCN := Lib.hid hcN
              subst hcN
              have HV0 : Hid (∀ ob, NameRow (w4.alloc ob) (.slice (some ⟨g, off, none⟩) 0 0) []) := Lib.hid (fun ob => (HVD.out ob).1 rfl)
              go_wp2_with (at_builtin; refine wpList_append_name rfl _ _ 63 rfl Tryz.underlying63 rfl (HV0.out _) out ⟨w4.heap.size, 0, none⟩ 1 rfl (by simp) (by simp) ?_)
              intro v5 w5 ha5
              have HNY := Lib.hid (HNX.out _ v5 w5 _ rfl ha5)
              clear ha5
              go_wp2
              go_roundg 1
              case measure => have := HLEFT.out; omega
              case rel => exact HNY.out
            · have hcN' : N < cap := by omega
              go_wp2_with (at_builtin; refine wpList_append_name rfl _ _ 63 rfl Tryz.underlying63 rfl ((HVD.out _).2 hcN') out ⟨w4.heap.size, 0, none⟩ 1 rfl (by simp) (by simp) ?_)
              intro v5 w5 ha5
              have HNY := Lib.hid (HNX.out _ v5 w5 _ rfl ha5)
              clear ha5
              go_wp2
              go_roundg 1
              case measure => have := HLEFT.out; omega
              case rel => exact HNY.out
          · have hc4n : ¬ (c4 : Int) = 0 := by omega
            have HE4 : Hid (ErrN d d4 (need L + 8 * es.length) c4) := Lib.hid (((hc4.resolve_left (fun h => hc4' h.1)).mono (by
              have h1 := HNE.out
              have h2 := lens_split rs N
              have h3 := HRO2.out.len
              omega)).later HM2.out.on.quota)
            have HOT4 : Hid (∀ x, ¬ ofSort out x → mget L4 x = mget L x) := Lib.hid (fun x hx => by rw [hot4 x (HNSO.out x hx).1 (HNSO.out x hx).2, HOT2.out x hx])
            clear hc4' hm4 hot4 hc4 hmg
            go_wp2
            go_ret
            exact ⟨c4, d4, o4, L4, rfl, HM4.out, HOT4.out, .inr HE4.out⟩
  · have hc1' : ¬ (c1 : Int) = 0 := by have := he1.ne; omega
    have HE1 := Lib.hid he1
    clear he1 hm1 hot1
    go_wp2
    go_ret
    exact ⟨c1, d1, o1, L1, rfl, HM1.out, HOT1.out, .inr HE1.out⟩
end

end Go.Proofs.YtolieljpnafbhaaGreatDoor
/-
  extsort: Sort.
-/
namespace Go.Proofs.YtolieljpnafbhaaGreatDoor
open Go.RowKit Go.Maps Go.MapKept

def dotT : ByteArray := ⟨#[116, 46]⟩
def ownName (x : Name) : Bool := Lib.hasPrefix x.data.toList dotT.data.toList

theorem ownName_t (k : Nat) : ownName (tName k) = true := by
  unfold ownName tName dotT Lib.hasPrefix
  simp

section
variable {w w' : World} {pb db n cb kb sb jb byb made : Nat} {by' : Bool} {name : Name} {o o' : Owner} {d d' : Dsk} {L L' : Logic}

theorem hasPre_any (s : ByteArray) (w : World) : Calls Tryz.prog 70 #[.string s, .string ⟨#[116, 46]⟩] w fun e w' => e = .returned (.bool (ownName s)) ∧ w = w' :=
  (Any.strings_HasPrefix (P := Tryz.prog) (ρ := Tryz.hasPre_ren) { Tryz.hasPre with } s ⟨#[116, 46]⟩ w).mono fun _ _ ⟨h1, h2⟩ => ⟨h1, h2.symm⟩

theorem source_ne_stream {i N : Nat} {x : Edg} {sz : Nat} (h : SourceAt w cb sb i N x) (hs : StreamAt w sb pb name sz) : sb ≠ cb := by
  rintro rfl
  obtain ⟨t, h1⟩ := h
  obtain ⟨t', h2⟩ := hs
  rw [h1] at h2
  have := Option.some.inj h2
  injection this with a b
  have := congrArg Array.size a
  simp at this

theorem jobAt_new (w : World) (pb : Nat) (x : Int) (b : Bool) (hx : x = (byNum b : Int)) : JobAt ((w.alloc (.cells #[.int .i64 x] 3)).alloc (.cells #[.pointer (some ⟨pb, 0, none⟩), .func (.func 71) #[] #[.pointer (some ⟨w.heap.size, 0, none⟩)], .int .i64 0] 124)) (w.heap.size + 1) pb w.heap.size 0 b := by
  subst hx
  refine ⟨⟨124, ?_⟩, ⟨3, ?_⟩⟩
  · have := heap_alloc_new (w.alloc (.cells #[.int .i64 (byNum b : Int)] 3)) (.cells #[.pointer (some ⟨pb, 0, none⟩), .func (.func 71) #[] #[.pointer (some ⟨w.heap.size, 0, none⟩)], .int .i64 0] 124)
    rw [show (w.alloc (.cells #[.int .i64 (byNum b : Int)] 3)).heap.size = w.heap.size + 1 by simp] at this
    exact this
  · rw [(MapKept.heap_alloc _ _).2 _ (by simp)]
    exact heap_alloc_new w _

set_option maxRecDepth 100000 in
set_option maxHeartbeats 8000000 in
theorem sort_done (HW : WriteSaid) {m : Nat} (HJS : JobSortSaid m) (h : PoolAt w pb db n o d L) (hn : 8 ≤ n) {es : List Edg} {fl : Bool} {inn out : Name} (hL : mget L inn = some (edgeFile es fl)) (hio : inn ≠ out) (hi : ownName inn = false) (ho : ownName out = false)
    (hout : okName out = true) (hno : mget L out = none) (hnt : ∀ k, mget L (tName k) = none) (hm : es.length ≤ m) :
    Calls Tryz.prog 28 #[ptrTo pb, .string inn, .string out, .int .i64 (byNum by' : Int)] w (SortsPost (fun _ => False) n pb db w o d L out (bestOf by' es) es.length) := by
  have hto : ∀ k, out ≠ tName k := fun k e => by rw [e, ownName_t] at ho; cases ho
  have hp1 := Lib.hid (hasPre_any inn)
  have hp2 := Lib.hid (hasPre_any out)
  simp only [hi] at hp1
  simp only [ho] at hp2
  have hframes := Lib.hid (fun W (hW : Below w.heap.size w W) => poolFrames_any (h.below hW))
  have hopen : Hid (∀ W, Below w.heap.size w W → ∀ jb byb, JobAt W jb pb byb 0 by' → Calls Tryz.prog 72 #[ptrTo jb, .string inn] W (OpenSrcPost n pb db W o d L inn es.length)) := Lib.hid (fun W hW jb byb hj => jobOpen_any HW (h.below hW) hj hL)
  have hcr : Hid (∀ W o' d', PoolAt W pb db n o' d' L → Calls Tryz.prog 59 #[ptrTo pb, .string out] W (CreatePost n pb db W o' d' L out)) := Lib.hid (fun W o' d' hW => create_pool hW out (okName_1000 hout))
  have hcode : Hid (∀ d' : Dsk, createCode d' L out = if d'.tick.dead = true then 6 else 0) := Lib.hid (fun d' => by
    unfold createCode
    rw [hout, hno]
    rfl)
  have hdrop : Hid (∀ W o' d', PoolAt W pb db n o' d' (mput L out (.inl (([] : List Pg), true))) → Calls Tryz.prog 73 #[ptrTo pb, .string out] W (DropPost W pb db n o' d' (mput L out (.inl (([] : List Pg), true))) out)) := Lib.hid (fun W o' d' hW => drop_any hW (ps := []) (fl := true) (by rw [mget_mput, if_pos rfl]))
  have hdel : Hid (mdel (mput L out (.inl (([] : List Pg), true))) out = L) := Lib.hid (by rw [mdel_mput, mdel_fresh hno])
  have hsort : Hid (∀ W o' d' cb sb jb byb, PoolAt W pb db n o' d' L → JobAt W jb pb byb 0 by' → o' jb = none → o' byb = none → byb ≠ jb → SourceAt W cb sb 0 es.length edg0 → StreamAt W sb pb inn 20 → o' cb = none → o' sb = none → cb ≠ jb → cb ≠ byb → sb ≠ jb → sb ≠ cb →
      Calls Tryz.prog 74 #[ptrTo jb, ptrTo cb, .string out] W (SortsPost (fun x => x = cb ∨ x = jb) n pb db W o' d' L out (bestOf by' es) es.length)) := Lib.hid (fun W o' d' cb sb jb byb a1 a2 a3 a4 a5 a6 a7 a8 a9 b1 b2 b3 b4 => HJS a1 hn a2 a3 a4 a5 hL a6 a7 a8 a9 b1 b2 b3 b4 hout hno hnt hto hm)
  have hne : (inn.toList == out.toList) = false := bytes_ne hio
  have hn2 : n ≤ 4096 := by
    obtain ⟨fb, mb, l, hand, mf, hp, rfl, -⟩ := h
    exact hp.most
  have H := Lib.hid h
  have hn8 : ¬ (n : Int) < 8 := by omega
  clear h hn hL hio hi ho hout hno hnt hm hto
  have hby : ((byNum by' : Int) = 0 ∨ (byNum by' : Int) = 1) := by cases by' <;> simp [byNum]
  have HBW : Hid (∀ v, Below w.heap.size w (w.alloc (.cells #[v] 3))) := Lib.hid (fun v => (Below.refl _ _).alloc (Nat.le_refl _) _)
  have HBC : Hid (∀ v, (w.alloc (.cells #[v] 3)).heap[w.heap.size]? = some (.cells #[v] 3)) := Lib.hid (fun v => heap_alloc_new w _)
  obtain ⟨bn, hbn⟩ : ∃ bn : Int, bn = (byNum by' : Int) := ⟨_, rfl⟩
  rw [← hbn] at hby ⊢
  have HBN := Lib.hid hbn
  clear hbn
  unfold ptrTo at *
  generalize es.length = N at *
  rcases hby with rfl | rfl
  all_goals
    go_enter Tryz.func28, Tryz.ntmps28
    go_wp2_with fail
    refine (hp1.out _).mono ?_
    rintro e w' ⟨rfl, rfl⟩
    go_wp2_with fail
    refine (hp2.out _).mono ?_
    rintro e w' ⟨rfl, rfl⟩
    go_wp2_with fail
    refine (hframes.out _ (HBW.out _)).mono ?_
    rintro e w' ⟨rfl, rfl⟩
    go_wp2_with fail
  all_goals
    first
      | (have HJ1 : Hid (JobAt ((w.alloc (.cells #[.int .i64 0] 3)).alloc (.cells #[.pointer (some ⟨pb, 0, none⟩), .func (.func 71) #[] #[.pointer (some ⟨w.heap.size, 0, none⟩)], .int .i64 0] 124)) (w.heap.size + 1) pb w.heap.size 0 by') := Lib.hid (jobAt_new w pb 0 by' HBN.out)
         have HW1 : Hid (Below w.heap.size w ((w.alloc (.cells #[.int .i64 0] 3)).alloc (.cells #[.pointer (some ⟨pb, 0, none⟩), .func (.func 71) #[] #[.pointer (some ⟨w.heap.size, 0, none⟩)], .int .i64 0] 124))) := Lib.hid ((HBW.out _).alloc (by simp) _)
         have hsz : w.heap.size + 2 = ((w.alloc (.cells #[.int .i64 0] 3)).alloc (.cells #[.pointer (some ⟨pb, 0, none⟩), .func (.func 71) #[] #[.pointer (some ⟨w.heap.size, 0, none⟩)], .int .i64 0] 124)).heap.size := by simp
         have HSZ := Lib.hid hsz
         clear hsz
         generalize (w.alloc (.cells #[.int .i64 0] 3)).alloc (.cells #[.pointer (some ⟨pb, 0, none⟩), .func (.func 71) #[] #[.pointer (some ⟨w.heap.size, 0, none⟩)], .int .i64 0] 124) = W1 at *)
      | (have HJ1 : Hid (JobAt ((w.alloc (.cells #[.int .i64 1] 3)).alloc (.cells #[.pointer (some ⟨pb, 0, none⟩), .func (.func 71) #[] #[.pointer (some ⟨w.heap.size, 0, none⟩)], .int .i64 0] 124)) (w.heap.size + 1) pb w.heap.size 0 by') := Lib.hid (jobAt_new w pb 1 by' HBN.out)
         have HW1 : Hid (Below w.heap.size w ((w.alloc (.cells #[.int .i64 1] 3)).alloc (.cells #[.pointer (some ⟨pb, 0, none⟩), .func (.func 71) #[] #[.pointer (some ⟨w.heap.size, 0, none⟩)], .int .i64 0] 124))) := Lib.hid ((HBW.out _).alloc (by simp) _)
         have hsz : w.heap.size + 2 = ((w.alloc (.cells #[.int .i64 1] 3)).alloc (.cells #[.pointer (some ⟨pb, 0, none⟩), .func (.func 71) #[] #[.pointer (some ⟨w.heap.size, 0, none⟩)], .int .i64 0] 124)).heap.size := by simp
         have HSZ := Lib.hid hsz
         clear hsz
         generalize (w.alloc (.cells #[.int .i64 1] 3)).alloc (.cells #[.pointer (some ⟨pb, 0, none⟩), .func (.func 71) #[] #[.pointer (some ⟨w.heap.size, 0, none⟩)], .int .i64 0] 124) = W1 at *)
    have hco := Lib.hid (hopen.out W1 HW1.out (w.heap.size + 1) w.heap.size HJ1.out)
    refine hco.out.mono ?_
    rintro e w2 ⟨v2, c2, d2, o2, rfl, hm2, he2, hok2⟩
    have HC2 := Lib.hid hm2
    have HE2 := Lib.hid he2
    have HM2 : Hid (Moved (fun _ => False) n pb db w o d w2 o2 d2 L) := Lib.hid ((Moved.ofBelow H.out HW1.out).trans hm2 (fun _ _ h => h))
    clear hm2 he2 hco
    by_cases hc2 : c2 = 0
    · subst hc2
      obtain ⟨cb, sb, rfl, hs2, hst2, hoc2, hos2, hcb2, hsb2⟩ := hok2 rfl
      have HS2 := Lib.hid hs2
      have HST2 := Lib.hid hst2
      have HOC2 := Lib.hid hoc2
      have HOS2 := Lib.hid hos2
      have hcbl := hs2.lt
      have hsbl := hst2.lt
      have HNE2 : Hid (sb ≠ cb) := Lib.hid (source_ne_stream hs2 hst2)
      have hcbg : w.heap.size + 2 ≤ cb := by rw [HSZ.out]; exact hcb2
      have hsbg : w.heap.size + 2 ≤ sb := by rw [HSZ.out]; exact hsb2
      clear hok2 hs2 hst2 hoc2 hos2 hcb2 hsb2
      unfold ptrTo
      have hcc := Lib.hid (hcr.out w2 o2 d2 HM2.out.pool)
      unfold CreatePost at hcc
      rw [hcode.out d2] at hcc
      cases hd2 : d2.tick.dead with
      | true =>
        rw [hd2, if_pos rfl] at hcc
        have HD2 := Lib.hid hd2
        clear hd2
        go_wp2_with fail
        refine hcc.out.mono ?_
        rintro e w3 ⟨d3, o3, rfl, hm3, -, hdd⟩
        rw [if_neg (by decide)] at hm3
        have HM3 := Lib.hid (HM2.out.trans hm3 (fun _ _ h => h))
        have HDD := Lib.hid (hdd (by first | exact HD2.out | trivial))
        clear hm3 hdd hcc
        go_wp2
        go_ret
        exact ⟨6, d3, o3, L, rfl, HM3.out, fun _ _ => rfl, .inr (.inr ⟨rfl, HDD.out⟩)⟩
      | false =>
        rw [hd2, if_neg (by simp)] at hcc
        clear hd2
        go_wp2_with fail
        refine hcc.out.mono ?_
        rintro e w3 ⟨d3, o3, rfl, hm3, -, -⟩
        simp only [if_true] at hm3
        have HC3 := Lib.hid (HC2.out.trans hm3 (fun _ _ h => h))
        have HM3 := Lib.hid (HM2.out.trans hm3 (fun _ _ h => h))
        have HS3 : Hid (SourceAt w3 cb sb 0 N edg0) := Lib.hid (HS2.out.kept (hm3.block hcbl HOC2.out (fun h => h)))
        have HST3 : Hid (StreamAt w3 sb pb inn 20) := Lib.hid (HST2.out.moved hm3 HOS2.out (fun h => h))
        have HOC3 : Hid (o3 cb = none) := Lib.hid (hm3.free hcbl HOC2.out)
        have HOS3 : Hid (o3 sb = none) := Lib.hid (hm3.free hsbl HOS2.out)
        have hcbl3 : cb < w3.heap.size := Nat.lt_of_lt_of_le hcbl hm3.size
        have hsbl3 : sb < w3.heap.size := Nat.lt_of_lt_of_le hsbl hm3.size
        have hdd := Lib.hid (hdrop.out w3 o3 d3 hm3.pool)
        clear hm3 hcc
        go_wp2_with fail
        refine hdd.out.mono ?_
        rintro e w4 ⟨c4, d4, o4, L4, rfl, hp4, ht4, hg4, hon4, hdr4⟩
        have hm4 : Moved (fun _ => False) n pb db w3 o3 d3 w4 o4 d4 L4 := moved_of hp4 ht4 hg4 hon4
        have HM4 := Lib.hid (HM3.out.trans hm4 (fun _ _ h => h))
        have HC4 := Lib.hid (HC3.out.trans hm4 (fun _ _ h => h))
        have HS4 : Hid (SourceAt w4 cb sb 0 N edg0) := Lib.hid (HS3.out.kept (hm4.block hcbl3 HOC3.out (fun h => h)))
        have HST4 : Hid (StreamAt w4 sb pb inn 20) := Lib.hid (HST3.out.moved hm4 HOS3.out (fun h => h))
        have HOC4 : Hid (o4 cb = none) := Lib.hid (hm4.free hcbl3 HOC3.out)
        have HOS4 : Hid (o4 sb = none) := Lib.hid (hm4.free hsbl3 HOS3.out)
        clear hp4 ht4 hg4 hon4 hm4 hdd
        rcases hdr4 with ⟨rfl, he⟩ | ⟨rfl, hdead, dp, he⟩
        · have he' := he.trans hdel.out
          rw [he'] at HM4 HC4
          have HJ4 : Hid (JobAt w4 (w.heap.size + 1) pb w.heap.size 0 by') := Lib.hid (HJ1.out.moved HC4.out (H.out.fresh (by omega)) (H.out.fresh (Nat.le_refl _)) (fun h => h) (fun h => h))
          have hso := Lib.hid (hsort.out w4 o4 d4 cb sb (w.heap.size + 1) w.heap.size HM4.out.pool HJ4.out (HC4.out.free HJ1.out.lt.1 (H.out.fresh (by omega))) (HC4.out.free HJ1.out.lt.2 (H.out.fresh (Nat.le_refl _))) (by omega) HS4.out HST4.out HOC4.out HOS4.out (by omega) (by omega) (by omega) HNE2.out)
          clear he he'
          go_wp2_with fail
          refine hso.out.mono ?_
          rintro e w5 ⟨c5, d5, o5, L5, rfl, hm5, hot5, hc5⟩
          have HM5 := Lib.hid (HM4.out.trans hm5 (fun x hx e => by omega))
          have HOT5 := Lib.hid hot5
          have HC5 : Hid ((c5 = 0 ∧ ∀ x, mget L5 x = mget (mput L out (edgeFile (bestOf by' es) true)) x) ∨ ErrN d d5 (need L + 8 * N) c5) := Lib.hid (hc5.imp id (fun h => h.later HM4.out.on.quota))
          clear hm5 hot5 hc5 hso
          go_wp2
          go_ret
          exact ⟨c5, d5, o5, L5, rfl, HM5.out, HOT5.out, HC5.out⟩
        · have HE := Lib.hid he
          have HD := Lib.hid hdead
          clear he hdead
          go_wp2
          go_ret
          refine ⟨6, d4, o4, L4, rfl, HM4.out, fun x hx => ?_, .inr (.inr ⟨rfl, HD.out⟩)⟩
          rw [HE.out, mget_mput, if_neg (fun e => hx (.inl e)), mget_mput, if_neg (fun e => hx (.inl e))]
    · have hc2' : ¬ (c2 : Int) = 0 := by omega
      have HE3 : Hid (ErrN d d2 (need L + 8 * N) c2) := Lib.hid ((HE2.out.resolve_left hc2).num (Nat.le_add_right _ _))
      clear hc2 hok2
      go_wp2
      go_ret
      exact ⟨c2, d2, o2, L, rfl, HM2.out, fun _ _ => rfl, .inr HE3.out⟩
end

end Go.Proofs.YtolieljpnafbhaaGreatDoor
/-
  store: Name, right.
-/
namespace Go.Proofs.YtolieljpnafbhaaGreatDoor
open Go.RowKit Go.Maps Go.MapKept

/-- A generation's file. -/
def sName (c : UInt8) (k : Nat) : Name := ⟨([c, 46] ++ Lib.decDigits k).toArray⟩

set_option maxRecDepth 100000 in
set_option maxHeartbeats 4000000 in
theorem storeName_any (c : UInt8) (k : Nat) (hk : k < 100) (w : World) :
    Calls Tryz.prog 53 #[.int .u8 (c.toNat : Int), .int .i64 (k : Int)] w fun e w' => e = .returned (.string (sName c k)) ∧ Below w.heap.size w w' := by
  have hit := Lib.hid (fun W => Any.strconv_Itoa_small (P := Tryz.prog) (ρ := Tryz.itoa_ren) { Tryz.itoa with } k hk W)
  have hk0 : ¬ (k : Int) < 0 := by omega
  have hdl : (Lib.decDigits k).length ≤ 2 := by
    by_cases h : k < 10
    · rw [Lib.decDigits_one h]; simp
    · rw [Lib.decDigits_two h hk]; simp
  have HT : Hid ((⟨#[c, 46]⟩ : ByteArray) ++ ⟨(Lib.decDigits k).toArray⟩ = sName c k) := Lib.hid (by
    unfold sName
    apply ByteArray.ext
    simp)
  have hcv : Sem.run Tryz.prog (convert 57 9 (.slice (some ⟨w.heap.size, 0, none⟩) 2 2)) (w.alloc (.cells #[.int .u8 (c.toNat : Int), .int .u8 46] 5)).drew = .ok (.string ⟨#[c, 46]⟩) (w.alloc (.cells #[.int .u8 (c.toNat : Int), .int .u8 46] 5)).drew :=
    run_convert_bytes_back (P := Tryz.prog) _ 57 9 5 ⟨w.heap.size, 0, none⟩ 2 [c, 46] Tryz.underlying57 Tryz.underlying5 Tryz.underlying9 (fun j hj => by
      rw [Addr_add, Nat.zero_add]
      match j, hj with
      | 0, _ => simp
      | 1, _ => simp)
  generalize Lib.decDigits k = dg at *
  go_enter Tryz.func53, Tryz.ntmps53
  go_wp2
  go_region_with (go_at_call 92; refine (hit.out _).mono ?_; rintro e w' ⟨rfl, rfl⟩)
  all_goals
    go_wp2
    go_ret
    exact ⟨by rw [← HT.out]; rfl, ((Below.refl _ _).alloc (Nat.le_refl _) _).drew⟩

set_option maxHeartbeats 1000000 in
theorem storeRight_yes (k : Nat) (hk : k ≤ 1048576) (w : World) : Calls Tryz.prog 62 #[.int .i64 (k : Int)] w fun e w' => e = .returned (.bool true) ∧ w = w' := by
  have h1 : (k : Int) ≤ 1048576 := by omega
  have h2 : (k : Int) ≥ 0 := by omega
  go_enter Tryz.func62, Tryz.ntmps62
  go_wp2
  go_ret
  exact ⟨rfl, rfl⟩

end Go.Proofs.YtolieljpnafbhaaGreatDoor
/-
  store: Make.
-/
namespace Go.Proofs.YtolieljpnafbhaaGreatDoor
open Go.RowKit Go.Maps Go.MapKept

def vertFile (vs : List Vrt) (fl : Bool) : LFile := .inl (pagesOf (per 12) (vs.map Vrt.bytes), fl)

theorem sized_verts (vs : List Vrt) : Sized 12 (vs.map Vrt.bytes) := fun r hr => by
  obtain ⟨e, _, rfl⟩ := List.mem_map.1 hr
  exact e.bytes_length

theorem vertFile_need (vs : List Vrt) (fl : Bool) : (vertFile vs fl).need ≤ 4 * vs.length := by
  unfold vertFile LFile.need
  dsimp only
  rw [pagesOf_length, List.length_map]
  have : pagesFor (per 12) vs.length ≤ vs.length := by
    unfold pagesFor
    have h12 : per 12 = 20 := by decide
    rw [h12]
    omega
  omega

/-- Vertices that can be read. -/
def VertsAt (w : World) (v : Value) (vs : List Vrt) : Prop :=
  ∃ a cap, v = .slice a vs.length cap ∧ vs.length ≤ cap ∧ cap ≤ maxLen ∧ (vs.length = 0 ∨ ∃ b off, a = some ⟨b, off, none⟩ ∧ ∀ i (h : i < vs.length), w.cell? ⟨b, off + i * 3, none⟩ = some (.int .u32 (vs[i].r.toNat : Int)) ∧ w.cell? ⟨b, off + i * 3 + 1, none⟩ = some (.int .u32 (vs[i].l.toNat : Int)) ∧ w.cell? ⟨b, off + i * 3 + 2, none⟩ = some (.int .u32 (vs[i].g.toNat : Int)))

theorem sName_ok (c : UInt8) (hc : okByte c = true) {k : Nat} (h : k < 100) : okName (sName c k) = true := by
  obtain ⟨h1, h2⟩ := decDigits_ok h
  unfold okName sName
  have hs : (ByteArray.mk ([c, 46] ++ Lib.decDigits k).toArray).size = 2 + (Lib.decDigits k).length := by
    show Array.size _ = _
    simp
    omega
  rw [hs]
  simp only [List.cons_append, List.nil_append, List.all_cons, h1, hc, Bool.and_eq_true, decide_eq_true_eq]
  refine ⟨⟨⟨trivial, by decide, trivial⟩, by omega⟩, by omega⟩

theorem sName_own (c : UInt8) (hc : c ≠ 116) (k : Nat) : ownName (sName c k) = false := by
  unfold ownName sName dotT Lib.hasPrefix
  simp [List.isPrefixOf]
  intro h
  exact absurd h.symm hc

theorem sName_ne {c c' : UInt8} (hc : c ≠ c') (k k' : Nat) : sName c k ≠ sName c' k' := by
  unfold sName
  intro h
  have h1 := congrArg (fun x : ByteArray => x.data.toList) h
  simp only [List.cons_append, List.cons.injEq] at h1
  exact hc h1.1

theorem tName_sName (c : UInt8) (hc : c ≠ 116) (k j : Nat) : sName c k ≠ tName j := fun e => by
  have h1 := sName_own c hc k
  rw [e, ownName_t] at h1
  cases h1

/-- A generation's files, laid beside the others. -/
noncomputable def makeL (L : Logic) (gen : Nat) (es : List Edg) (vs : List Vrt) : Logic :=
  mput (mput (mput L (sName 101 gen) (edgeFile (bestOf false es) true)) (sName 114 gen) (edgeFile (bestOf true es) true)) (sName 118 gen) (vertFile vs true)

def ofMake (gen : Nat) (x : Name) : Prop := x = sName 101 gen ∨ x = sName 114 gen ∨ x = sName 118 gen ∨ ∃ k, x = tName k

def MakePost (n pb db : Nat) (w : World) (o : Owner) (d : Dsk) (L : Logic) (gen : Nat) (es : List Edg) (vs : List Vrt) (e : Ending) (w' : World) : Prop :=
  ∃ c d' o' L', e = .returned (.int .i64 ((c : Nat) : Int)) ∧ Moved (fun _ => False) n pb db w o d w' o' d' L' ∧ (∀ x, ¬ ofMake gen x → mget L' x = mget L x) ∧ ((c = 0 ∧ L' = makeL L gen es vs) ∨ ErrN d d' (need L + 20 * es.length + 4 * vs.length) c)

section
variable {w w' : World} {pb db n : Nat} {name : Name} {o o' : Owner} {d d' : Dsk} {L L' : Logic}

set_option maxRecDepth 100000 in
set_option maxHeartbeats 8000000 in
theorem storeMake_any (HW : WriteSaid) {m : Nat} (HJS : JobSortSaid m) (h : PoolAt w pb db n o d L) (hn : 8 ≤ n) {es : List Edg} {fl : Bool} {raw : Name} {gen : Nat} (hg : gen < 100) (hL : mget L raw = some (edgeFile es fl)) (hraw : ownName raw = false) (hm : es.length ≤ m)
    (he : mget L (sName 101 gen) = none) (hr : mget L (sName 114 gen) = none) (hv : mget L (sName 118 gen) = none) (hnt : ∀ k, mget L (tName k) = none) {v : Value} {vs : List Vrt} (hvs : VertsAt w v vs) (hvo : ∀ x, v.ownBlock = some x → o x = none) (hvl : vs.length < 65535) :
    Calls Tryz.prog 17 #[ptrTo pb, .string raw, .int .i64 (gen : Int), v] w (MakePost n pb db w o d L gen es vs) := by
  have hne1 : raw ≠ sName 101 gen := fun e => by rw [e, he] at hL; cases hL
  have hne2 : raw ≠ sName 114 gen := fun e => by rw [e, hr] at hL; cases hL
  have hright := Lib.hid (storeRight_yes gen (by omega))
  have hnmE := Lib.hid (storeName_any 101 gen hg)
  have hnmR := Lib.hid (storeName_any 114 gen hg)
  have hnmV := Lib.hid (storeName_any 118 gen hg)
  have hs1 : Hid (∀ W o' d', PoolAt W pb db n o' d' L → Calls Tryz.prog 28 #[ptrTo pb, .string raw, .string (sName 101 gen), .int .i64 0] W (SortsPost (fun _ => False) n pb db W o' d' L (sName 101 gen) (bestOf false es) es.length)) := Lib.hid (fun W o' d' hW =>
    sort_done (by' := false) HW HJS hW hn hL hne1 hraw (sName_own 101 (by decide) gen) (sName_ok 101 (by decide) hg) he hnt hm)
  obtain ⟨L1, hL1⟩ : ∃ L1, L1 = mput L (sName 101 gen) (edgeFile (bestOf false es) true) := ⟨_, rfl⟩
  have hraw1 : mget L1 raw = some (edgeFile es fl) := by rw [hL1, mget_mput, if_neg hne1, hL]
  have hr1 : mget L1 (sName 114 gen) = none := by rw [hL1, mget_mput, if_neg (sName_ne (by decide) _ _), hr]
  have hnt1 : ∀ k, mget L1 (tName k) = none := fun k => by rw [hL1, mget_mput, if_neg (fun e => tName_sName 101 (by decide) gen k e.symm), hnt]
  have hs2 : Hid (∀ W o' d', PoolAt W pb db n o' d' L1 → Calls Tryz.prog 28 #[ptrTo pb, .string raw, .string (sName 114 gen), .int .i64 1] W (SortsPost (fun _ => False) n pb db W o' d' L1 (sName 114 gen) (bestOf true es) es.length)) := Lib.hid (fun W o' d' hW =>
    sort_done (by' := true) HW HJS hW hn hraw1 hne2 hraw (sName_own 114 (by decide) gen) (sName_ok 114 (by decide) hg) hr1 hnt1 hm)
  obtain ⟨L2, hL2⟩ : ∃ L2, L2 = mput L1 (sName 114 gen) (edgeFile (bestOf true es) true) := ⟨_, rfl⟩
  have hv2 : mget L2 (sName 118 gen) = none := by rw [hL2, mget_mput, if_neg (sName_ne (by decide) _ _), hL1, mget_mput, if_neg (sName_ne (by decide) _ _), hv]
  have hokV := sName_ok 118 (by decide) hg
  have hcr : Hid (∀ W o' d', PoolAt W pb db n o' d' L2 → Calls Tryz.prog 59 #[ptrTo pb, .string (sName 118 gen)] W (CreatePost n pb db W o' d' L2 (sName 118 gen))) := Lib.hid (fun W o' d' hW => create_pool hW _ (okName_1000 hokV))
  have hcode : Hid (∀ d' : Dsk, createCode d' L2 (sName 118 gen) = if d'.tick.dead = true then 6 else 0) := Lib.hid (fun d' => by
    unfold createCode
    rw [hokV, hv2]
    rfl)
  have hopen : Hid (∀ W o' d' L', PoolAt W pb db n o' d' L' → Calls Tryz.prog 29 #[ptrTo pb, .string (sName 118 gen), .int .i64 12] W (StreamOpenPost W pb (sName 118 gen) 12 (pfOpen d' (sName 118 gen)))) := Lib.hid (fun W o' d' L' hW => streamOpen_any (sz := 12) hW _ (okName_1000 hokV) (by decide) (by decide))
  have hadd : Hid (∀ W o' d' sb rs, PoolAt W pb db n o' d' (mput L2 (sName 118 gen) (vertFile rs false)) → StreamAt W sb pb (sName 118 gen) 12 → o' sb = none → rs.length < 65535 → ∀ rv (x : Vrt), Rd W rv x.bytes → (∀ b, rv.ownBlock = some b → o' b = none) →
      Calls Tryz.prog 60 #[ptrTo sb, rv] W (LaidPost (fun _ => False) n pb db W o' d' (mput L2 (sName 118 gen) (vertFile rs false)) (mput L2 (sName 118 gen) (vertFile (rs ++ [x]) false)))) := Lib.hid (fun W o' d' sb rs hW hst ho' hl rv x hr hro => by
    have := streamAdd_any HW hW hst ho' (by decide) (by decide) (by rw [mget_mput, if_pos rfl]; rfl) (sized_verts rs) (by rw [List.length_map]; exact hl) hr x.bytes_length hro
    rw [mput_put] at this
    unfold vertFile at this ⊢
    rw [List.map_append]
    exact this)
  have hfl : Hid (∀ W o' d', PoolAt W pb db n o' d' (mput L2 (sName 118 gen) (vertFile vs false)) → Calls Tryz.prog 64 #[ptrTo pb, .string (sName 118 gen)] W (LaidPost (fun _ => False) n pb db W o' d' (mput L2 (sName 118 gen) (vertFile vs false)) (mput L2 (sName 118 gen) (vertFile vs true)))) := Lib.hid (fun W o' d' hW => by
    have := flush_pool HW hW (name := sName 118 gen) (ps := pagesOf (per 12) (vs.map Vrt.bytes)) (fl := false) (by rw [mget_mput, if_pos rfl]; rfl)
    rw [mput_put] at this
    exact this)
  have HK1 : Hid ((L1.map (·.1)).Nodup) := Lib.hid (by rw [hL1]; exact mput_keys h.keys)
  have HK2 : Hid ((L2.map (·.1)).Nodup) := Lib.hid (by rw [hL2, hL1]; exact mput_keys (mput_keys h.keys))
  have HN1 : Hid (need L1 ≤ need L + 4 * es.length) := Lib.hid (by
    have h1 := need_mput_le L (sName 101 gen) (edgeFile (bestOf false es) true)
    have h2 := edgeFile_need (bestOf false es) true
    have h3 := bestOf_length false es
    rw [hL1]
    omega)
  have HN2 : Hid (∀ rs : List Vrt, rs.length ≤ vs.length → need (mput L2 (sName 118 gen) (vertFile rs false)) ≤ need L + 20 * es.length + 4 * vs.length) := Lib.hid (fun rs hrs => by
    have h1 := need_mput_le L1 (sName 114 gen) (edgeFile (bestOf true es) true)
    have h2 := edgeFile_need (bestOf true es) true
    have h3 := bestOf_length true es
    have h4 := need_mput_le L2 (sName 118 gen) (vertFile rs false)
    have h5 := vertFile_need rs false
    have h6 := HN1.out
    rw [← hL2] at h1
    omega)
  have HO1 : Hid (∀ x, ¬ ofMake gen x → mget L1 x = mget L x) := Lib.hid (fun x hx => by rw [hL1, mget_mput, if_neg (fun e => hx (.inl e))])
  have HO2 : Hid (∀ x, ¬ ofMake gen x → mget L2 x = mget L x) := Lib.hid (fun x hx => by rw [hL2, mget_mput, if_neg (fun e => hx (.inr (.inl e))), HO1.out x hx])
  have HEND : Hid (makeL L gen es vs = mput L2 (sName 118 gen) (vertFile vs true)) := Lib.hid (by unfold makeL; rw [hL2, hL1])
  have HNE : Hid (∀ x, ¬ ofMake gen x → ¬ ofSort (sName 101 gen) x ∧ ¬ ofSort (sName 114 gen) x ∧ x ≠ sName 118 gen) := Lib.hid (fun x hx => ⟨fun e => hx (e.imp id (fun h => .inr (.inr h))), fun e => hx (.inr (e.imp id .inr)), fun e => hx (.inr (.inr (.inl e)))⟩)
  have HL1e : Hid (∀ x, mget L1 x = mget (mput L (sName 101 gen) (edgeFile (bestOf false es) true)) x) := Lib.hid (fun x => by rw [hL1])
  have HL2e : Hid (∀ x, mget L2 x = mget (mput L1 (sName 114 gen) (edgeFile (bestOf true es) true)) x) := Lib.hid (fun x => by rw [hL2])
  have H := Lib.hid h
  have HVS := Lib.hid hvs
  have HVO := Lib.hid hvo
  obtain ⟨va, vc, rfl, hvc1, hvc2, -⟩ := hvs
  unfold maxLen at hvc2
  have hvw : Hid (∀ (x : Vrt) W, Calls Tryz.prog 63 #[.agg #[.int .u32 (x.r.toNat : Int), .int .u32 (x.l.toNat : Int), .int .u32 (x.g.toNat : Int)]] W (NewBytes W x.bytes)) := Lib.hid (fun x W => vrtBytes_any x W)
  clear h hL hraw hm he hr hv hnt hvo hne1 hne2 hraw1 hr1 hnt1 hv2 hokV hL1 hL2
  unfold ptrTo at *
  generalize sName 101 gen = nE at *
  generalize sName 114 gen = nR at *
  generalize sName 118 gen = nV at *
  go_enter Tryz.func17, Tryz.ntmps17
  go_wp2_with fail
  refine (hright.out _).mono ?_
  rintro e w' ⟨rfl, rfl⟩
  go_wp2_with fail
  refine (hnmE.out _).mono ?_
  rintro e w1 ⟨rfl, hb1⟩
  have HB1 := Lib.hid hb1
  clear hb1
  go_wp2_with fail
  refine (hs1.out w1 o d (H.out.below HB1.out)).mono ?_
  rintro e w2 ⟨c2, d2, o2, L2', rfl, hm2, hot2, hc2⟩
  have HM2 := Lib.hid ((Moved.ofBelow H.out HB1.out).trans hm2 (fun _ _ h => h))
  have HOT2 := Lib.hid hot2
  clear hm2 hot2
  rcases hc2 with ⟨rfl, hl2⟩ | he2
  · have HM2' : Hid (Moved (fun _ => False) n pb db w o d w2 o2 d2 L1) := Lib.hid (HM2.out.congr HK1.out (fun x => (HL1e.out x).trans (hl2 x).symm))
    clear hl2 HM2 HOT2
    go_wp2_with fail
    refine (hnmR.out _).mono ?_
    rintro e w3 ⟨rfl, hb3⟩
    have HM3 := Lib.hid (HM2'.out.below hb3)
    clear hb3
    go_wp2_with fail
    refine (hs2.out w3 o2 d2 HM3.out.pool).mono ?_
    rintro e w4 ⟨c4, d4, o4, L4', rfl, hm4, hot4, hc4⟩
    have HM4 := Lib.hid (HM3.out.trans hm4 (fun _ _ h => h))
    have HOT4 := Lib.hid hot4
    clear hm4 hot4
    rcases hc4 with ⟨rfl, hl4⟩ | he4
    · have HM4' : Hid (Moved (fun _ => False) n pb db w o d w4 o4 d4 L2) := Lib.hid (HM4.out.congr HK2.out (fun x => (HL2e.out x).trans (hl4 x).symm))
      clear hl4 HM4 HOT4
      go_wp2_with fail
      refine (hnmV.out _).mono ?_
      rintro e w5 ⟨rfl, hb5⟩
      have HM5 := Lib.hid (HM4'.out.below hb5)
      clear hb5
      have hcc := Lib.hid (hcr.out w5 o4 d4 HM5.out.pool)
      unfold CreatePost at hcc
      rw [hcode.out d4] at hcc
      cases hd4 : d4.tick.dead with
      | true =>
        rw [hd4, if_pos rfl] at hcc
        have HD4 := Lib.hid hd4
        clear hd4
        go_wp2_with fail
        refine hcc.out.mono ?_
        rintro e w6 ⟨d6, o6, rfl, hm6, -, hdd⟩
        rw [if_neg (by decide)] at hm6
        have HM6 := Lib.hid (HM5.out.trans hm6 (fun _ _ h => h))
        have HDD := Lib.hid (hdd (by first | exact HD4.out | trivial))
        clear hm6 hdd hcc
        go_wp2
        go_ret
        exact ⟨6, d6, o6, L2, rfl, HM6.out, HO2.out, .inr (.inr ⟨rfl, HDD.out⟩)⟩
      | false =>
        rw [hd4, if_neg (by simp)] at hcc
        clear hd4
        go_wp2_with fail
        refine hcc.out.mono ?_
        rintro e w6 ⟨d6, o6, rfl, hm6, hdd6, -⟩
        simp only [if_true] at hm6
        have hget : mget (mput L2 nV (.inl (([] : List Pg), true))) nV = some (.inl (([] : List Pg), true)) := by rw [mget_mput, if_pos rfl]
        have hpf : pfOpen d6 nV = 0 := by
          rw [pfOpen_paged hm6.pool hget, hdd6 (by trivial)]
          rfl
        have hm6' : Moved (fun _ => False) n pb db w5 o4 d4 w6 o6 d6 (mput L2 nV (vertFile [] false)) :=
          ⟨(hm6.pool.weaken hget).congr (mput_keys HK2.out) (fun x => by
            show mget (mput L2 nV (.inl (([] : List Pg), false))) x = _
            rw [mget_mput, mget_mput, mget_mput]
            by_cases e : x = nV
            · rw [if_pos e, if_pos e]
            · rw [if_neg e, if_neg e, if_neg e]), hm6.turn, hm6.grow, hm6.on⟩
        have HM6 := Lib.hid (HM5.out.trans hm6' (fun _ _ h => h))
        have hco := Lib.hid (hopen.out w6 o6 d6 _ hm6.pool)
        rw [hpf] at hco
        have HF6 := Lib.hid (fun x (hx : w6.heap.size ≤ x) => hm6.pool.fresh hx)
        clear hm6 hm6' hdd6 hpf hget hcc
        go_wp2_with fail
        refine hco.out.mono ?_
        rintro e w7 ⟨v7, rfl, hb7, hok7, -⟩
        obtain ⟨sb, rfl, hst7, hsb⟩ := hok7 rfl
        have HM7 := Lib.hid (HM6.out.below hb7)
        have HST7 := Lib.hid hst7
        have HOS7 : Hid (o6 sb = none) := Lib.hid (HF6.out _ hsb)
        clear hb7 hst7 hok7 hco
        unfold ptrTo
        generalize hV : vs.length = V at *
        have HV := Lib.hid hV
        clear hV
        go_wp2
        go_loopw [60] (fun i wr => ∃ (k : Nat) (d' : Dsk) (o' : Owner), k ≤ V ∧ i = .int .i64 (k : Int) ∧ Moved (fun _ => False) n pb db w o d wr o' d' (mput L2 nV (vertFile (vs.take k) false)) ∧ StreamAt wr sb pb nV 12 ∧ o' sb = none) (fun i _ => V - (intOf i).toNat)
        case atStart => exact ⟨0, d6, o6, Nat.zero_le _, rfl, by simpa using HM7.out, HST7.out, HOS7.out⟩
        case round =>
          obtain ⟨k, d8, o8, hk, rfl, hm8, hst8, hos8⟩ := hrel
          have HM8 := Lib.hid hm8
          have HST8 := Lib.hid hst8
          have HOS8 := Lib.hid hos8
          have hsl8 := hst8.lt
          by_cases hlt : k < V
          · have hkv : k < vs.length := by rw [HV.out]; exact hlt
            obtain ⟨a', c', hve, -, -, hcs⟩ := HVS.out
            cases hve
            obtain hcs | ⟨b, off, rfl, hcs⟩ := hcs
            · omega
            obtain ⟨g0, g1, g2⟩ := hcs k hkv
            have e0 := hm8.cell g0 (HVO.out b rfl) (fun h => h)
            have e1 := hm8.cell g1 (HVO.out b rfl) (fun h => h)
            have e2 := hm8.cell g2 (HVO.out b rfl) (fun h => h)
            have hbl : b < wr.heap.size := World.block_lt_of_cell? _ _ e0
            have HTK : Hid (vs.take k ++ [vs[k]] = vs.take (k + 1)) := Lib.hid (by rw [List.take_succ_eq_append_getElem hkv])
            have htl : (vs.take k).length < 65535 := by rw [List.length_take, HV.out]; omega
            have hcallv := Lib.hid (fun W => hvw.out vs[k] W)
            have hcalla := Lib.hid (fun W rv (hW : PoolAt W pb db n o8 d8 (mput L2 nV (vertFile (vs.take k) false))) (hst : StreamAt W sb pb nV 12) (hr : Rd W rv vs[k].bytes) (hro : ∀ b, rv.ownBlock = some b → o8 b = none) => hadd.out W o8 d8 sb (vs.take k) hW hst HOS8.out htl rv vs[k] hr hro)
            have hal : Hid (∀ ob : Obj, Moved (fun _ => False) n pb db w o d (wr.alloc ob) o8 d8 (mput L2 nV (vertFile (vs.take k) false))) := Lib.hid (fun ob => HM8.out.alloc ob)
            have htl2 : Hid ((vs.take k).length ≤ vs.length) := Lib.hid (by rw [List.length_take]; omega)
            clear g0 g1 g2 hcs hm8 hst8 hos8
            generalize vs[k] = y at *
            go_wp2_with fail
            refine (hcallv.out _).mono ?_
            rintro e w9 ⟨v9, rfl, ho9, hb9⟩
            have HM9 := Lib.hid ((hal.out _).below hb9)
            have hst9 : StreamAt w9 sb pb nV 12 := (HST8.out.below ((Below.refl _ _).alloc (Nat.le_refl _) _)).below hb9
            have hfr9 : ∀ b, v9.ownBlock = some b → o8 b = none := fun b hb => HM8.out.pool.fresh (Nat.le_trans (by simp) (ownsRow_block ho9 b hb))
            have hca := Lib.hid (hcalla.out w9 v9 HM9.out.pool hst9 (Rd_own ho9) hfr9)
            have HST9 := Lib.hid hst9
            clear ho9 hb9 hst9 hfr9 e0 e1 e2 hcalla hcallv
            go_wp2_with fail
            refine hca.out.mono ?_
            rintro e w10 ⟨c10, d10, o10, rfl, hm10, he10⟩
            have HST10 : Hid (StreamAt w10 sb pb nV 12) := Lib.hid (HST9.out.moved hm10 HOS8.out (fun h => h))
            have HOS10 : Hid (o10 sb = none) := Lib.hid (hm10.free HST9.out.lt HOS8.out)
            by_cases hc : c10 = 0
            · subst hc
              rw [if_pos rfl, HTK.out] at hm10
              have HM10 := Lib.hid (HM9.out.trans hm10 (fun _ _ h => h))
              clear hm10 he10 hca
              go_wp2
              go_roundw
              case rel => exact ⟨k + 1, d10, o10, by omega, by go_num, HM10.out, HST10.out, HOS10.out⟩
              case measure => simp [intOf]; omega
            · have hc' : ¬ (c10 : Int) = 0 := by omega
              rw [if_neg hc] at hm10
              have HM10 := Lib.hid (HM9.out.trans hm10 (fun _ _ h => h))
              have HE10 : Hid (ErrN d d10 (need L + 20 * es.length + 4 * vs.length) c10) := Lib.hid (((he10.resolve_left hc).num (HN2.out (vs.take k) htl2.out)).later HM9.out.on.quota)
              clear hm10 he10 hca hc
              go_wp2
              go_ret
              exact ⟨c10, d10, o10, _, rfl, HM10.out, fun x hx => by rw [mget_mput, if_neg (HNE.out x hx).2.2, HO2.out x hx], .inr HE10.out⟩
          · have htk : vs.take k = vs := List.take_of_length_le (by rw [HV.out]; omega)
            rw [htk] at HM8
            have hff := Lib.hid (hfl.out wr o8 d8 HM8.out.pool)
            clear htk hm8 hst8 hos8
            go_wp2_with fail
            refine hff.out.mono ?_
            rintro e w9 ⟨c9, d9, o9, rfl, hm9, he9⟩
            have HM9 := Lib.hid (HM8.out.trans hm9 (fun _ _ h => h))
            have HE9 := Lib.hid he9
            clear hm9 he9 hff
            go_wp2
            go_ret
            refine ⟨c9, d9, o9, _, rfl, HM9.out, fun x hx => ?_, ?_⟩
            · split
              · rw [mget_mput, if_neg (HNE.out x hx).2.2, HO2.out x hx]
              · rw [mget_mput, if_neg (HNE.out x hx).2.2, HO2.out x hx]
            · rcases HE9.out with h | h
              · subst h
                exact .inl ⟨rfl, by rw [if_pos rfl]; exact HEND.out.symm⟩
              · exact .inr (by rw [HV.out]; exact (h.num (HN2.out vs (by rw [HV.out]; exact Nat.le_refl _))).later HM8.out.on.quota)
    · have hc4' : ¬ (c4 : Int) = 0 := by have := he4.ne; omega
      have HE4 : Hid (ErrN d d4 (need L + 20 * es.length + 4 * vs.length) c4) := Lib.hid ((he4.mono (by have := HN1.out; omega)).later HM3.out.on.quota)
      clear he4
      go_wp2
      go_ret
      exact ⟨c4, d4, o4, L4', rfl, HM4.out, fun x hx => (HOT4.out x (HNE.out x hx).2.1).trans (HO1.out x hx), .inr HE4.out⟩
  · have hc2' : ¬ (c2 : Int) = 0 := by have := he2.ne; omega
    have HE2 : Hid (ErrN d d2 (need L + 20 * es.length + 4 * vs.length) c2) := Lib.hid (he2.mono (by omega))
    clear he2
    go_wp2
    go_ret
    exact ⟨c2, d2, o2, L2', rfl, HM2.out, fun x hx => HOT2.out x (HNE.out x hx).1, .inr HE2.out⟩
end

end Go.Proofs.YtolieljpnafbhaaGreatDoor
/-
  store: Open, Size, Vert.
-/
namespace Go.Proofs.YtolieljpnafbhaaGreatDoor
open Go.RowKit Go.Maps Go.MapKept

def GraphRaw (w : World) (gb : Nat) (x0 x1 x2 x3 : Value) : Prop := ∃ t, w.heap[gb]? = some (.cells #[x0, x1, x2, x3] t)

section
variable {S : Nat → Prop} {w w' : World} {pb db n gb : Nat} {name : Name} {o o' : Owner} {d d' : Dsk} {L L' : Logic} {x0 x1 x2 x3 : Value}

theorem GraphRaw.kept (h : GraphRaw w gb x0 x1 x2 x3) (hb : w'.heap[gb]? = w.heap[gb]?) : GraphRaw w' gb x0 x1 x2 x3 := by
  obtain ⟨t, h⟩ := h
  exact ⟨t, hb.trans h⟩
theorem GraphRaw.lt (h : GraphRaw w gb x0 x1 x2 x3) : gb < w.heap.size := by
  obtain ⟨t, h⟩ := h
  exact (Array.getElem?_eq_some_iff.1 h).1
theorem GraphRaw.below (h : GraphRaw w gb x0 x1 x2 x3) (hb : Below w.heap.size w w') : GraphRaw w' gb x0 x1 x2 x3 := h.kept (hb.block _ h.lt)
theorem GraphRaw.moved (h : GraphRaw w gb x0 x1 x2 x3) (hm : Moved S n pb db w o d w' o' d' L') (ho : o gb = none) (hs : ¬ S gb) : GraphRaw w' gb x0 x1 x2 x3 := h.kept (hm.block h.lt ho hs)
theorem GraphRaw.cells (h : GraphRaw w gb x0 x1 x2 x3) : w.cell? ⟨gb, 0, none⟩ = some x0 ∧ w.cell? ⟨gb, 1, none⟩ = some x1 ∧ w.cell? ⟨gb, 2, none⟩ = some x2 ∧ w.cell? ⟨gb, 3, none⟩ = some x3 ∧ ∀ j, w.frozen? ⟨gb, j, none⟩ = false := by
  obtain ⟨t, h⟩ := h
  refine ⟨?_, ?_, ?_, ?_, fun j => cells_frozen h j⟩ <;> rw [cells_cell h] <;> rfl
theorem GraphRaw.set0 (h : GraphRaw w gb x0 x1 x2 x3) (v : Value) : GraphRaw (w.setCell ⟨gb, 0, none⟩ v) gb v x1 x2 x3 := by
  obtain ⟨t, h⟩ := h
  exact ⟨t, cells_set h 0 v⟩
theorem GraphRaw.set1 (h : GraphRaw w gb x0 x1 x2 x3) (v : Value) : GraphRaw (w.setCell ⟨gb, 1, none⟩ v) gb x0 v x2 x3 := by
  obtain ⟨t, h⟩ := h
  exact ⟨t, cells_set h 1 v⟩
theorem GraphRaw.set2 (h : GraphRaw w gb x0 x1 x2 x3) (v : Value) : GraphRaw (w.setCell ⟨gb, 2, none⟩ v) gb x0 x1 v x3 := by
  obtain ⟨t, h⟩ := h
  exact ⟨t, cells_set h 2 v⟩
theorem GraphRaw.set3 (h : GraphRaw w gb x0 x1 x2 x3) (v : Value) : GraphRaw (w.setCell ⟨gb, 3, none⟩ v) gb x0 x1 x2 v := by
  obtain ⟨t, h⟩ := h
  exact ⟨t, cells_set h 3 v⟩

/-- A generation's graph in memory. -/
structure GraphAt (w : World) (o : Owner) (gb pb gen N : Nat) (ob ib vb : Nat) : Prop where
  raw : GraphRaw w gb (ptrTo ob) (ptrTo ib) (ptrTo vb) (.int .i64 (N : Int))
  out : StreamAt w ob pb (sName 101 gen) 20
  inn : StreamAt w ib pb (sName 114 gen) 20
  verts : StreamAt w vb pb (sName 118 gen) 12
  ogb : o gb = none
  oob : o ob = none
  oib : o ib = none
  ovb : o vb = none

theorem GraphAt.moved {gen N ob ib vb : Nat} (h : GraphAt w o gb pb gen N ob ib vb) (hm : Moved (fun _ => False) n pb db w o d w' o' d' L') : GraphAt w' o' gb pb gen N ob ib vb :=
  ⟨h.raw.moved hm h.ogb (fun h => h), h.out.moved hm h.oob (fun h => h), h.inn.moved hm h.oib (fun h => h), h.verts.moved hm h.ovb (fun h => h), hm.free h.raw.lt h.ogb, hm.free h.out.lt h.oob, hm.free h.inn.lt h.oib, hm.free h.verts.lt h.ovb⟩

theorem GraphAt.below {gen N ob ib vb : Nat} (h : GraphAt w o gb pb gen N ob ib vb) (hb : Below w.heap.size w w') : GraphAt w' o gb pb gen N ob ib vb :=
  ⟨h.raw.below hb, h.out.below hb, h.inn.below hb, h.verts.below hb, h.ogb, h.oob, h.oib, h.ovb⟩

theorem StreamAt.setOther {sb sz b j : Nat} {v : Value} (h : StreamAt w sb pb name sz) (hne : sb ≠ b) : StreamAt (w.setCell ⟨b, j, none⟩ v) sb pb name sz := h.kept (Below.heap_setCell _ _ _ _ hne)

def OpenGraphPost (n pb db : Nat) (w : World) (o : Owner) (d : Dsk) (L : Logic) (gen N : Nat) (e : Ending) (w' : World) : Prop :=
  ∃ v c d' o', e = .returned (.tuple #[v, .int .i64 ((c : Nat) : Int)]) ∧ Moved (fun _ => False) n pb db w o d w' o' d' L ∧ (c = 0 ∨ Err d d' L c) ∧ (c = 0 → ∃ gb ob ib vb, v = ptrTo gb ∧ GraphAt w' o' gb pb gen N ob ib vb) ∧ (c ≠ 0 → v = .pointer none)

theorem pfOpen_err (h : PoolAt w pb db n o d L) {ps : List Pg} {fl : Bool} (hL : mget L name = some (.inl (ps, fl))) {c : Nat} (hc : pfOpen d name = c) (h0 : c ≠ 0) : c = 6 ∧ d.dead = true := by
  rw [pfOpen_paged h hL] at hc
  split at hc
  · exact ⟨hc.symm, by assumption⟩
  · exact absurd hc.symm h0

set_option maxRecDepth 100000 in
set_option maxHeartbeats 8000000 in
theorem storeOpen_any (HW : WriteSaid) (h : PoolAt w pb db n o d L) {gen : Nat} (hg : gen < 100) {vs : List Vrt} {es1 es2 : List Edg} {fl0 fl1 fl2 : Bool} (hv : mget L (sName 118 gen) = some (vertFile vs fl0)) (he : mget L (sName 101 gen) = some (edgeFile es1 fl1)) (hr : mget L (sName 114 gen) = some (edgeFile es2 fl2)) :
    Calls Tryz.prog 18 #[ptrTo pb, .int .i64 (gen : Int)] w (OpenGraphPost n pb db w o d L gen vs.length) := by
  have hright := Lib.hid (storeRight_yes gen (by omega))
  have hnmE := Lib.hid (storeName_any 101 gen hg)
  have hnmR := Lib.hid (storeName_any 114 gen hg)
  have hnmV := Lib.hid (storeName_any 118 gen hg)
  have hoV : Hid (∀ W o' d', PoolAt W pb db n o' d' L → Calls Tryz.prog 29 #[ptrTo pb, .string (sName 118 gen), .int .i64 12] W (StreamOpenPost W pb (sName 118 gen) 12 (pfOpen d' (sName 118 gen))) ∧ ∀ c, pfOpen d' (sName 118 gen) = c → c ≠ 0 → c = 6 ∧ d'.dead = true) := Lib.hid (fun W o' d' hW => ⟨streamOpen_any (sz := 12) hW _ (okName_1000 (h.ok hv)) (by decide) (by decide), fun c h1 h2 => pfOpen_err hW hv h1 h2⟩)
  have hoE : Hid (∀ W o' d', PoolAt W pb db n o' d' L → Calls Tryz.prog 29 #[ptrTo pb, .string (sName 101 gen), .int .i64 20] W (StreamOpenPost W pb (sName 101 gen) 20 (pfOpen d' (sName 101 gen))) ∧ ∀ c, pfOpen d' (sName 101 gen) = c → c ≠ 0 → c = 6 ∧ d'.dead = true) := Lib.hid (fun W o' d' hW => ⟨streamOpen_any (sz := 20) hW _ (okName_1000 (h.ok he)) (by decide) (by decide), fun c h1 h2 => pfOpen_err hW he h1 h2⟩)
  have hoR : Hid (∀ W o' d', PoolAt W pb db n o' d' L → Calls Tryz.prog 29 #[ptrTo pb, .string (sName 114 gen), .int .i64 20] W (StreamOpenPost W pb (sName 114 gen) 20 (pfOpen d' (sName 114 gen))) ∧ ∀ c, pfOpen d' (sName 114 gen) = c → c ≠ 0 → c = 6 ∧ d'.dead = true) := Lib.hid (fun W o' d' hW => ⟨streamOpen_any (sz := 20) hW _ (okName_1000 (h.ok hr)) (by decide) (by decide), fun c h1 h2 => pfOpen_err hW hr h1 h2⟩)
  have hlen : Hid (∀ W o' d' sb, PoolAt W pb db n o' d' L → StreamAt W sb pb (sName 118 gen) 12 → o' sb = none → Calls Tryz.prog 30 #[ptrTo sb] W (Stays n pb db W o' d' L (numIs vs.length))) := Lib.hid (fun W o' d' sb hW hst ho' => by
    have := streamLen_any HW hW hst ho' (by decide) (by decide) hv (sized_verts vs)
    rw [List.length_map] at this
    exact this)
  have H := Lib.hid h
  clear h hv he hr
  unfold ptrTo at *
  generalize vs.length = N at *
  go_enter Tryz.func18, Tryz.ntmps18
  go_wp2_with fail
  refine (hright.out _).mono ?_
  rintro e w' ⟨rfl, rfl⟩
  have HG0 : Hid (GraphRaw (w.alloc (.cells #[.pointer none, .pointer none, .pointer none, .int .i64 0] 115)) w.heap.size (.pointer none) (.pointer none) (.pointer none) (.int .i64 0)) := Lib.hid ⟨_, heap_alloc_new w _⟩
  have HB0 : Hid (Below w.heap.size w (w.alloc (.cells #[.pointer none, .pointer none, .pointer none, .int .i64 0] 115))) := Lib.hid ((Below.refl _ _).alloc (Nat.le_refl _) _)
  have HOG : Hid (o w.heap.size = none) := Lib.hid (H.out.fresh (Nat.le_refl _))
  go_wp2_with fail
  generalize w.alloc (.cells #[.pointer none, .pointer none, .pointer none, .int .i64 0] 115) = W0 at *
  refine (hnmV.out _).mono ?_
  rintro e w1 ⟨rfl, hb1⟩
  have HG1 := Lib.hid (HG0.out.below hb1)
  have HB1 : Hid (Below w.heap.size w w1) := Lib.hid (HB0.out.trans (hb1.mono HB0.out.size))
  clear hb1
  go_wp2_with fail
  obtain ⟨hcV, hbV⟩ := hoV.out w1 o d (H.out.below HB1.out)
  have HCV := Lib.hid hcV
  have HBV := Lib.hid hbV
  clear hcV hbV
  generalize hp2 : pfOpen d (sName 118 gen) = c2 at *
  have HP2 := Lib.hid hp2
  clear hp2
  refine HCV.out.mono ?_
  rintro e w2 ⟨v2, rfl, hb2, hok2, hbad2⟩
  have HG2 := Lib.hid (HG1.out.below hb2)
  have HB2 : Hid (Below w.heap.size w w2) := Lib.hid (HB1.out.trans (hb2.mono HB1.out.size))
  have hsz1 : w.heap.size < w1.heap.size := HG1.out.lt
  have HM2' : Hid (∀ v, Moved (fun _ => False) n pb db w o d (w2.setCell ⟨w.heap.size, 2, none⟩ v) o d L) := Lib.hid (fun v => (Moved.ofBelow H.out HB2.out).setCell _ _ HOG.out (.inr (Nat.le_refl _)))
  clear hb2
  obtain ⟨g0, g1, g2, g3, gz⟩ := HG2.out.cells
  have gz2 := gz 2
  clear gz
  by_cases hc2 : c2 = 0
  · subst hc2
    obtain ⟨vb, rfl, hst2, hvb⟩ := hok2 rfl
    have hne2 : vb ≠ w.heap.size := by omega
    have HV3 : Hid (StreamAt (w2.setCell ⟨w.heap.size, 2, none⟩ (.pointer (some ⟨vb, 0, none⟩))) vb pb (sName 118 gen) 12) := Lib.hid (hst2.setOther hne2)
    have HG3 : Hid (GraphRaw (w2.setCell ⟨w.heap.size, 2, none⟩ (.pointer (some ⟨vb, 0, none⟩))) w.heap.size (.pointer none) (.pointer none) (.pointer (some ⟨vb, 0, none⟩)) (.int .i64 0)) := Lib.hid (HG2.out.set2 _)
    have HM3 := Lib.hid (HM2'.out (.pointer (some ⟨vb, 0, none⟩)))
    have HOV : Hid (o vb = none) := Lib.hid (H.out.fresh (by omega))
    clear hok2 hbad2 hst2
    unfold ptrTo
    go_wp2_with fail
    generalize w2.setCell ⟨w.heap.size, 2, none⟩ (.pointer (some ⟨vb, 0, none⟩)) = w3 at *
    have hcl := Lib.hid (hlen.out w3 o d vb HM3.out.pool HV3.out HOV.out)
    refine hcl.out.mono ?_
    rintro e w4 ⟨c4, d4, o4, ⟨x4, rfl, hx4⟩, hm4, he4⟩
    have HX4 := Lib.hid hx4
    have HE4 := Lib.hid he4
    have HM4 := Lib.hid (HM3.out.trans hm4 (fun _ _ h => h))
    have HG4 := Lib.hid (HG3.out.moved hm4 HOG.out (fun h => h))
    have HV4 := Lib.hid (HV3.out.moved hm4 HOV.out (fun h => h))
    have HOG4 : Hid (o4 w.heap.size = none) := Lib.hid (hm4.free HG3.out.lt HOG.out)
    have HOV4 : Hid (o4 vb = none) := Lib.hid (hm4.free HV3.out.lt HOV.out)
    clear hm4 he4 hx4 hcl g0 g1 g2 g3 gz2
    obtain ⟨g0, g1, g2, g3, gz⟩ := HG4.out.cells
    have gz3 := gz 3
    clear gz
    have HM5 : Hid (Moved (fun _ => False) n pb db w o d (w4.setCell ⟨w.heap.size, 3, none⟩ (.int .i64 (x4 : Int))) o4 d4 L) := Lib.hid (HM4.out.setCell _ _ HOG4.out (.inr (Nat.le_refl _)))
    have HG5 : Hid (GraphRaw (w4.setCell ⟨w.heap.size, 3, none⟩ (.int .i64 (x4 : Int))) w.heap.size (.pointer none) (.pointer none) (.pointer (some ⟨vb, 0, none⟩)) (.int .i64 (x4 : Int))) := Lib.hid (HG4.out.set3 _)
    have HV5 : Hid (StreamAt (w4.setCell ⟨w.heap.size, 3, none⟩ (.int .i64 (x4 : Int))) vb pb (sName 118 gen) 12) := Lib.hid (HV4.out.setOther hne2)
    by_cases hc4 : c4 = 0
    · subst hc4
      have HX := Lib.hid (HX4.out rfl)
      go_wp2_with fail
      generalize w4.setCell ⟨w.heap.size, 3, none⟩ (.int .i64 (x4 : Int)) = w5 at *
      clear g0 g1 g2 g3 gz3
      refine (hnmE.out _).mono ?_
      rintro e w6 ⟨rfl, hb6⟩
      have HM6 := Lib.hid (HM5.out.below hb6)
      have HG6 := Lib.hid (HG5.out.below hb6)
      have HV6 := Lib.hid (HV5.out.below hb6)
      clear hb6
      go_wp2_with fail
      obtain ⟨hcE, hbE⟩ := hoE.out w6 o4 d4 HM6.out.pool
      have HCE := Lib.hid hcE
      have HBE := Lib.hid hbE
      clear hcE hbE
      generalize hp7 : pfOpen d4 (sName 101 gen) = c7 at *
      clear hp7
      refine HCE.out.mono ?_
      rintro e w7 ⟨v7, rfl, hb7, hok7, hbad7⟩
      have HM7 := Lib.hid (HM6.out.below hb7)
      have HG7 := Lib.hid (HG6.out.below hb7)
      have HV7 := Lib.hid (HV6.out.below hb7)
      have hs6 : w.heap.size < w6.heap.size := HG6.out.lt
      clear hb7
      obtain ⟨g0, g1, g2, g3, gz⟩ := HG7.out.cells
      have gz0 := gz 0
      clear gz
      have HM8' : Hid (∀ v, Moved (fun _ => False) n pb db w o d (w7.setCell ⟨w.heap.size, 0, none⟩ v) o4 d4 L) := Lib.hid (fun v => HM7.out.setCell _ _ HOG4.out (.inr (Nat.le_refl _)))
      by_cases hc7 : c7 = 0
      · subst hc7
        obtain ⟨ob, rfl, hst7, hob⟩ := hok7 rfl
        have hne7 : ob ≠ w.heap.size := by omega
        have HO8 : Hid (StreamAt (w7.setCell ⟨w.heap.size, 0, none⟩ (.pointer (some ⟨ob, 0, none⟩))) ob pb (sName 101 gen) 20) := Lib.hid (hst7.setOther hne7)
        have HV8 : Hid (StreamAt (w7.setCell ⟨w.heap.size, 0, none⟩ (.pointer (some ⟨ob, 0, none⟩))) vb pb (sName 118 gen) 12) := Lib.hid (HV7.out.setOther hne2)
        have HG8 : Hid (GraphRaw (w7.setCell ⟨w.heap.size, 0, none⟩ (.pointer (some ⟨ob, 0, none⟩))) w.heap.size (.pointer (some ⟨ob, 0, none⟩)) (.pointer none) (.pointer (some ⟨vb, 0, none⟩)) (.int .i64 (x4 : Int))) := Lib.hid (HG7.out.set0 _)
        have HM8 := Lib.hid (HM8'.out (.pointer (some ⟨ob, 0, none⟩)))
        have HOB : Hid (o4 ob = none) := Lib.hid (HM6.out.pool.fresh hob)
        clear hok7 hbad7 hst7
        unfold ptrTo
        go_wp2_with fail
        generalize w7.setCell ⟨w.heap.size, 0, none⟩ (.pointer (some ⟨ob, 0, none⟩)) = w8 at *
        clear g0 g1 g2 g3 gz0
        refine (hnmR.out _).mono ?_
        rintro e w9 ⟨rfl, hb9⟩
        have HM9 := Lib.hid (HM8.out.below hb9)
        have HG9 := Lib.hid (HG8.out.below hb9)
        have HV9 := Lib.hid (HV8.out.below hb9)
        have HO9 := Lib.hid (HO8.out.below hb9)
        clear hb9
        go_wp2_with fail
        obtain ⟨hcR, hbR⟩ := hoR.out w9 o4 d4 HM9.out.pool
        have HCR := Lib.hid hcR
        have HBR := Lib.hid hbR
        clear hcR hbR
        generalize hp10 : pfOpen d4 (sName 114 gen) = c10 at *
        clear hp10
        refine HCR.out.mono ?_
        rintro e w10 ⟨v10, rfl, hb10, hok10, hbad10⟩
        have HM10 := Lib.hid (HM9.out.below hb10)
        have HG10 := Lib.hid (HG9.out.below hb10)
        have HV10 := Lib.hid (HV9.out.below hb10)
        have HO10 := Lib.hid (HO9.out.below hb10)
        have hs9 : w.heap.size < w9.heap.size := HG9.out.lt
        clear hb10
        obtain ⟨g0, g1, g2, g3, gz⟩ := HG10.out.cells
        have gz1 := gz 1
        clear gz
        have HM11' : Hid (∀ v, Moved (fun _ => False) n pb db w o d (w10.setCell ⟨w.heap.size, 1, none⟩ v) o4 d4 L) := Lib.hid (fun v => HM10.out.setCell _ _ HOG4.out (.inr (Nat.le_refl _)))
        by_cases hc10 : c10 = 0
        · subst hc10
          obtain ⟨ib, rfl, hst10, hib⟩ := hok10 rfl
          have hne10 : ib ≠ w.heap.size := by omega
          have hst11 := Lib.hid (hst10.setOther (j := 1) (v := .pointer (some ⟨ib, 0, none⟩)) hne10)
          have HOI : Hid (o4 ib = none) := Lib.hid (HM9.out.pool.fresh hib)
          clear hok10 hbad10 hst10
          unfold ptrTo
          go_wp2
          go_ret2
          refine ⟨_, 0, d4, o4, rfl, HM11'.out _, .inl rfl, fun _ => ⟨w.heap.size, ob, ib, vb, rfl, ⟨?_, HO10.out.setOther hne7, hst11.out, HV10.out.setOther hne2, HOG4.out, HOB.out, HOI.out, HOV4.out⟩⟩, fun h => absurd rfl h⟩
          rw [← HX.out]
          exact HG10.out.set1 _
        · obtain rfl := hbad10 hc10
          obtain ⟨h6, hdd⟩ := HBR.out c10 rfl hc10
          have HDD := Lib.hid hdd
          subst h6
          clear hok10 hbad10 hc10 hdd
          go_wp2
          go_ret2
          exact ⟨_, 6, d4, o4, rfl, HM11'.out _, .inr (.inr ⟨rfl, HDD.out⟩), fun h => absurd h (by decide), fun _ => rfl⟩
      · obtain rfl := hbad7 hc7
        obtain ⟨h6, hdd⟩ := HBE.out c7 rfl hc7
        have HDD := Lib.hid hdd
        subst h6
        clear hok7 hbad7 hc7 hdd
        go_wp2
        go_ret2
        exact ⟨_, 6, d4, o4, rfl, HM8'.out _, .inr (.inr ⟨rfl, HDD.out⟩), fun h => absurd h (by decide), fun _ => rfl⟩
    · have hc4' : ¬ (c4 : Int) = 0 := by omega
      have HE5 : Hid (Err d d4 L c4) := Lib.hid (HE4.out.resolve_left hc4)
      have HC4 := Lib.hid hc4
      clear hc4
      go_wp2
      go_ret2
      exact ⟨_, c4, d4, o4, rfl, HM5.out, .inr HE5.out, fun h => absurd h HC4.out, fun _ => rfl⟩
  · obtain rfl := hbad2 hc2
    obtain ⟨h6, hdd⟩ := HBV.out c2 rfl hc2
    have HDD := Lib.hid hdd
    subst h6
    clear hok2 hbad2 hc2 hdd
    go_wp2
    go_ret2
    exact ⟨_, 6, d, o, rfl, HM2'.out _, .inr (.inr ⟨rfl, HDD.out⟩), fun h => absurd h (by decide), fun _ => rfl⟩
end

end Go.Proofs.YtolieljpnafbhaaGreatDoor
/-
  store: Size, Vert, read.
-/
namespace Go.Proofs.YtolieljpnafbhaaGreatDoor
open Go.RowKit Go.Maps Go.MapKept

section
variable {w w' : World} {pb db n gb gen N ob ib vb : Nat} {name : Name} {o o' : Owner} {d d' : Dsk} {L L' : Logic}

set_option maxHeartbeats 1000000 in
theorem graphSize_any (hg : GraphAt w o gb pb gen N ob ib vb) : Calls Tryz.prog 19 #[ptrTo gb] w fun e w' => e = .returned (.int .i64 (N : Int)) ∧ w = w' := by
  obtain ⟨-, -, -, g3, -⟩ := hg.raw.cells
  clear hg
  unfold ptrTo
  go_enter Tryz.func19, Tryz.ntmps19
  go_wp2
  go_ret
  exact ⟨rfl, rfl⟩

def vrtVal (x : Vrt) : Value := .agg #[.int .u32 (x.r.toNat : Int), .int .u32 (x.l.toNat : Int), .int .u32 (x.g.toNat : Int)]
def vrt0 : Vrt := ⟨0, 0, 0⟩

def VertPost (n pb db : Nat) (w : World) (o : Owner) (d : Dsk) (L : Logic) (x : Vrt) (e : Ending) (w' : World) : Prop :=
  ∃ c d' o', e = .returned (.tuple #[vrtVal (if c = 0 then x else vrt0), .int .i64 ((c : Nat) : Int)]) ∧ Moved (fun _ => False) n pb db w o d w' o' d' L ∧ (c = 0 ∨ Err d d' L c)

set_option maxRecDepth 100000 in
set_option maxHeartbeats 2000000 in
theorem graphVert_out (hg : GraphAt w o gb pb gen N ob ib vb) (v : Nat) (hv : N ≤ v) (hv' : v < 4294967296) :
    Calls Tryz.prog 20 #[ptrTo gb, .int .u32 (v : Int)] w fun e w' => e = .returned (.tuple #[vrtVal vrt0, .int .i64 13]) ∧ Below w.heap.size w w' := by
  obtain ⟨-, -, -, g3, -⟩ := hg.raw.cells
  have hgl := hg.raw.lt
  have hge : ((v : Int) ≥ (N : Int)) := by omega
  clear hg
  unfold ptrTo
  go_enter Tryz.func20, Tryz.ntmps20
  go_wp2
  go_returns
  exact ⟨rfl, (Below.refl _ _).alloc (Nat.le_refl _) _⟩

set_option maxRecDepth 100000 in
set_option maxHeartbeats 4000000 in
theorem graphVert_in (HW : WriteSaid) (h : PoolAt w pb db n o d L) (hg : GraphAt w o gb pb gen N ob ib vb) {vs : List Vrt} {fl : Bool} (hL : mget L (sName 118 gen) = some (vertFile vs fl)) (hN : N = vs.length) (v : Nat) (hv : v < vs.length) (hv' : v < 4294967296) :
    Calls Tryz.prog 20 #[ptrTo gb, .int .u32 (v : Int)] w (VertPost n pb db w o d L vs[v]) := by
  have hget : Hid (∀ W, Below w.heap.size w W → Calls Tryz.prog 31 #[ptrTo vb, .int .i64 (v : Int)] W (RecPost n pb db W o d L vs[v].bytes)) := Lib.hid (fun W hW => by
    have := streamGet_in HW (h.below hW) (hg.verts.below hW) hg.ovb (by decide) (by decide) hL (sized_verts vs) (i := v) (by rw [List.length_map]; exact hv)
    rw [List.getElem_map] at this
    exact this)
  obtain ⟨-, -, g2, g3, -⟩ := hg.raw.cells
  have hgl := hg.raw.lt
  have H := Lib.hid h
  have hlt : ¬ ((v : Int) ≥ (N : Int)) := by omega
  generalize vs[v] = x at *
  clear h hg hL hN hv
  unfold ptrTo at *
  have HB0 : Hid (Below w.heap.size w (w.alloc (.cells #[.int .u32 0, .int .u32 0, .int .u32 0] 36))) := Lib.hid ((Below.refl _ _).alloc (Nat.le_refl _) _)
  have HBX : Hid ((w.alloc (.cells #[.int .u32 0, .int .u32 0, .int .u32 0] 36)).heap[w.heap.size]? = some (.cells #[.int .u32 0, .int .u32 0, .int .u32 0] 36)) := Lib.hid (heap_alloc_new w _)
  have HOX : Hid (o w.heap.size = none) := Lib.hid (H.out.fresh (Nat.le_refl _))
  go_enter Tryz.func20, Tryz.ntmps20
  go_wp2_with fail
  generalize w.alloc (.cells #[.int .u32 0, .int .u32 0, .int .u32 0] 36) = W0 at *
  refine (hget.out W0 HB0.out).mono ?_
  rintro e w1 ⟨v1, c1, d1, o1, rfl, hm1, he1, hok1, hbad1⟩
  have hbl : w.heap.size < W0.heap.size := (Array.getElem?_eq_some_iff.1 HBX.out).1
  have HM1 := Lib.hid ((Moved.ofBelow H.out HB0.out).trans hm1 (fun _ _ h => h))
  have HX1 := Lib.hid (hm1.heap HBX.out HOX.out (fun h => h))
  have HE1 := Lib.hid he1
  have HOX1 : Hid (o1 w.heap.size = none) := Lib.hid (hm1.free hbl HOX.out)
  clear hm1 he1
  by_cases hc1 : c1 = 0
  · subst hc1
    obtain ⟨ho1, hf1⟩ := hok1 rfl
    obtain ⟨a1, k1, rfl⟩ := ownsRow_slice ho1
    have HR1 := Lib.hid (Rd_own ho1)
    clear hok1 hbad1 ho1 hf1
    go_wp2_with fail
    refine (readVrt_any _ x _ HR1.out).mono ?_
    rintro e w2 ⟨rfl, hb2⟩
    have HM2 := Lib.hid (HM1.out.below hb2)
    have hx2 : w2.heap[w.heap.size]? = some (.cells #[.int .u32 0, .int .u32 0, .int .u32 0] 36) := by rw [hb2.block _ (Array.getElem?_eq_some_iff.1 HX1.out).1]; exact HX1.out
    have k0 : w2.cell? ⟨w.heap.size, 0, none⟩ = some (.int .u32 0) := by rw [cells_cell hx2]; rfl
    have k1' : w2.cell? ⟨w.heap.size, 1, none⟩ = some (.int .u32 0) := by rw [cells_cell hx2]; rfl
    have k2' : w2.cell? ⟨w.heap.size, 2, none⟩ = some (.int .u32 0) := by rw [cells_cell hx2]; rfl
    have z0 := cells_frozen hx2 0
    have z1 := cells_frozen hx2 1
    have z2 := cells_frozen hx2 2
    have hbl2 : w.heap.size < w2.heap.size := (Array.getElem?_eq_some_iff.1 hx2).1
    have hx3 : (((w2.setCell ⟨w.heap.size, 0, none⟩ (.int .u32 (x.r.toNat : Int))).setCell ⟨w.heap.size, 1, none⟩ (.int .u32 (x.l.toNat : Int))).setCell ⟨w.heap.size, 2, none⟩ (.int .u32 (x.g.toNat : Int))).heap[w.heap.size]? = some (.cells #[.int .u32 (x.r.toNat : Int), .int .u32 (x.l.toNat : Int), .int .u32 (x.g.toNat : Int)] 36) := cells_set (cells_set (cells_set hx2 0 _) 1 _) 2 _
    have HM3 : Hid (Moved (fun _ => False) n pb db w o d (((w2.setCell ⟨w.heap.size, 0, none⟩ (.int .u32 (x.r.toNat : Int))).setCell ⟨w.heap.size, 1, none⟩ (.int .u32 (x.l.toNat : Int))).setCell ⟨w.heap.size, 2, none⟩ (.int .u32 (x.g.toNat : Int))) o1 d1 L) := Lib.hid (((HM2.out.setCell ⟨w.heap.size, 0, none⟩ _ HOX1.out (.inr (Nat.le_refl _))).setCell ⟨w.heap.size, 1, none⟩ _ HOX1.out (.inr (Nat.le_refl _))).setCell ⟨w.heap.size, 2, none⟩ _ HOX1.out (.inr (Nat.le_refl _)))
    have HX3 := Lib.hid hx3
    clear hb2 hx2 hx3
    go_wp2
    generalize (((w2.setCell ⟨w.heap.size, 0, none⟩ (.int .u32 (x.r.toNat : Int))).setCell ⟨w.heap.size, 1, none⟩ (.int .u32 (x.l.toNat : Int))).setCell ⟨w.heap.size, 2, none⟩ (.int .u32 (x.g.toNat : Int))) = w3 at *
    have q0 : w3.cell? ⟨w.heap.size, 0, none⟩ = some (.int .u32 (x.r.toNat : Int)) := by rw [cells_cell HX3.out]; rfl
    have q1 : w3.cell? ⟨w.heap.size, 1, none⟩ = some (.int .u32 (x.l.toNat : Int)) := by rw [cells_cell HX3.out]; rfl
    have q2 : w3.cell? ⟨w.heap.size, 2, none⟩ = some (.int .u32 (x.g.toNat : Int)) := by rw [cells_cell HX3.out]; rfl
    clear k0 k1' k2' z0 z1 z2
    exact bodyPost_ret (v := .tuple #[.agg #[.int .u32 (x.r.toNat : Int), .int .u32 (x.l.toNat : Int), .int .u32 (x.g.toNat : Int)], .int .i64 0]) (by simp [results, Tryz.results20, go_sem, q0, q1, q2]) rfl ⟨0, d1, o1, rfl, HM3.out, .inl rfl⟩
  · obtain rfl := hbad1 hc1
    have hc1' : ¬ (c1 : Int) = 0 := by omega
    have HC1 := Lib.hid hc1
    have k0 : w1.cell? ⟨w.heap.size, 0, none⟩ = some (.int .u32 0) := by rw [cells_cell HX1.out]; rfl
    have k1' : w1.cell? ⟨w.heap.size, 1, none⟩ = some (.int .u32 0) := by rw [cells_cell HX1.out]; rfl
    have k2' : w1.cell? ⟨w.heap.size, 2, none⟩ = some (.int .u32 0) := by rw [cells_cell HX1.out]; rfl
    have z0 := cells_frozen HX1.out 0
    have z1 := cells_frozen HX1.out 1
    have z2 := cells_frozen HX1.out 2
    have hbl1 : w.heap.size < w1.heap.size := (Array.getElem?_eq_some_iff.1 HX1.out).1
    have hx3 : (((w1.setCell ⟨w.heap.size, 0, none⟩ (.int .u32 0)).setCell ⟨w.heap.size, 1, none⟩ (.int .u32 0)).setCell ⟨w.heap.size, 2, none⟩ (.int .u32 0)).heap[w.heap.size]? = some (.cells #[.int .u32 0, .int .u32 0, .int .u32 0] 36) := cells_set (cells_set (cells_set HX1.out 0 _) 1 _) 2 _
    have HM3 : Hid (Moved (fun _ => False) n pb db w o d (((w1.setCell ⟨w.heap.size, 0, none⟩ (.int .u32 0)).setCell ⟨w.heap.size, 1, none⟩ (.int .u32 0)).setCell ⟨w.heap.size, 2, none⟩ (.int .u32 0)) o1 d1 L) := Lib.hid (((HM1.out.setCell ⟨w.heap.size, 0, none⟩ _ HOX1.out (.inr (Nat.le_refl _))).setCell ⟨w.heap.size, 1, none⟩ _ HOX1.out (.inr (Nat.le_refl _))).setCell ⟨w.heap.size, 2, none⟩ _ HOX1.out (.inr (Nat.le_refl _)))
    have HX3 := Lib.hid hx3
    clear hok1 hbad1 hc1 hx3
    go_wp2
    generalize (((w1.setCell ⟨w.heap.size, 0, none⟩ (.int .u32 0)).setCell ⟨w.heap.size, 1, none⟩ (.int .u32 0)).setCell ⟨w.heap.size, 2, none⟩ (.int .u32 0)) = w3 at *
    have q0 : w3.cell? ⟨w.heap.size, 0, none⟩ = some (.int .u32 0) := by rw [cells_cell HX3.out]; rfl
    have q1 : w3.cell? ⟨w.heap.size, 1, none⟩ = some (.int .u32 0) := by rw [cells_cell HX3.out]; rfl
    have q2 : w3.cell? ⟨w.heap.size, 2, none⟩ = some (.int .u32 0) := by rw [cells_cell HX3.out]; rfl
    clear k0 k1' k2' z0 z1 z2
    exact bodyPost_ret (v := .tuple #[.agg #[.int .u32 0, .int .u32 0, .int .u32 0], .int .i64 (c1 : Int)]) (by simp [results, Tryz.results20, go_sem, q0, q1, q2]) rfl ⟨c1, d1, o1, by rw [if_neg HC1.out]; rfl, HM3.out, HE1.out⟩
end

end Go.Proofs.YtolieljpnafbhaaGreatDoor
