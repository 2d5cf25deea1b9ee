/-
  Joined, in build order: Law13f, Law13g, CardV.
-/
import Derived.Test.YtolieljpnafbhaaGreatDoorG14
/-
  Rows of vertices: read, and appended to an empty row.
-/
namespace Go.Proofs.YtolieljpnafbhaaGreatDoor
open Go.RowKit Go.Maps

/-- A row of vertices that may be read. -/
def RdV (w : World) (v : Value) (vs : List Vrt) : Prop :=
  ∃ a cap, v = .slice a vs.length cap ∧ (vs.length = 0 ∨ ∃ b off, a = some ⟨b, off, none⟩ ∧ ∀ (j : Nat) (x : Vrt), vs[j]? = some x → w.cell? ⟨b, off + j * 3, none⟩ = some (.int .u32 (x.r.toNat : Int)) ∧ w.cell? ⟨b, off + j * 3 + 1, none⟩ = some (.int .u32 (x.l.toNat : Int)) ∧ w.cell? ⟨b, off + j * 3 + 2, none⟩ = some (.int .u32 (x.g.toNat : Int)))

theorem RdV.below {w w' : World} {v : Value} {vs : List Vrt} (h : RdV w v vs) (hb : Below w.heap.size w w') : RdV w' v vs := by
  obtain ⟨a, cap, rfl, h | ⟨b, off, rfl, hc⟩⟩ := h
  · exact ⟨a, cap, rfl, .inl h⟩
  · refine ⟨_, cap, rfl, .inr ⟨b, off, rfl, fun j x hx => ?_⟩⟩
    obtain ⟨h1, h2, h3⟩ := hc j x hx
    exact ⟨cellBelow hb h1, cellBelow hb h2, cellBelow hb h3⟩

def vrtRow : List Vrt → List Value
  | [] => []
  | x :: l => [.int .u32 (x.r.toNat : Int), .int .u32 (x.l.toNat : Int), .int .u32 (x.g.toNat : Int)] ++ vrtRow l

theorem vrtRow_length (l : List Vrt) : (vrtRow l).length = l.length * 3 := by
  induction l with
  | nil => rfl
  | cons e l ih => rw [vrtRow, List.length_append, ih, List.length_cons]; simp; omega

theorem vrtRow_get {l : List Vrt} {i : Nat} {x : Vrt} (h : l[i]? = some x) {j : Nat} (hj : j < 3) : (vrtRow l)[i * 3 + j]? = [Value.int .u32 (x.r.toNat : Int), .int .u32 (x.l.toNat : Int), .int .u32 (x.g.toNat : Int)][j]? := by
  induction l generalizing i with
  | nil => cases h
  | cons q l ih =>
    rw [vrtRow]
    cases i with
    | zero =>
      cases h
      rw [List.getElem?_append_left (by simp; omega)]
      simp
    | succ i =>
      rw [List.getElem?_append_right (by simp; omega), ← ih (i := i) (by simpa using h)]
      congr 1
      simp
      omega

theorem vrtRow_one (l : List Vrt) : ∀ u ∈ vrtRow l, u.oneCell' = true := by
  induction l with
  | nil => intro u hu; cases hu
  | cons x l ih =>
    intro u hu
    rw [vrtRow, List.mem_append] at hu
    rcases hu with hu | hu
    · simp at hu
      rcases hu with rfl | rfl | rfl <;> rfl
    · exact ih u hu

theorem RdV.cells {w : World} {v : Value} {vs : List Vrt} {b off n cap : Nat} (h : RdV w v vs) (hv : v = .slice (some ⟨b, off, none⟩) n cap) : ∀ j u, (vrtRow vs)[j]? = some u → w.cell? ((⟨b, off, none⟩ : Addr).add j) = some u := by
  intro j u hj
  obtain ⟨a, cap', hve, hc⟩ := h
  have hjl := lt_of_get hj
  rw [vrtRow_length] at hjl
  rcases hc with h0 | ⟨b', off', rfl, hc⟩
  · omega
  · rw [hv] at hve
    obtain ⟨⟨rfl, rfl⟩, -, -⟩ : (b = b' ∧ off = off') ∧ n = vs.length ∧ cap = cap' := by simpa using hve
    have hi : j / 3 < vs.length := by omega
    obtain ⟨h1, h2, h3⟩ := hc (j / 3) vs[j / 3] (List.getElem?_eq_getElem hi)
    have hg := vrtRow_get (List.getElem?_eq_getElem hi) (j := j % 3) (by omega)
    rw [show j / 3 * 3 + j % 3 = j by omega, hj] at hg
    rw [Addr_add]
    have h012 : j % 3 = 0 ∨ j % 3 = 1 ∨ j % 3 = 2 := by omega
    rcases h012 with e | e | e
    · rw [e] at hg
      cases hg
      rw [show off + j = off + j / 3 * 3 by omega]
      exact h1
    · rw [e] at hg
      cases hg
      rw [show off + j = off + j / 3 * 3 + 1 by omega]
      exact h2
    · rw [e] at hg
      cases hg
      rw [show off + j = off + j / 3 * 3 + 2 by omega]
      exact h3

theorem info_vert : (Tryz.prog.info? 36).map (fun i => (i.zero, i.size, i.bytes)) = some (some (.agg #[.int .u32 0, .int .u32 0, .int .u32 0]), 3, 12) := by kernel_rfl

theorem wpList_want {P : Program} {ops : Array Oper} {Q : Exit → Act → World → Prop} {a : Act} {w : World} {rest : List Oper} {o : Oper} (hw : Region.wanted o (yielded ops a.tmps) = true)
    (h : ∀ K : Act → World → Prop, (∀ a w, wpList P ops Q rest a w → K a w) → o.wp P a w K Q) : wpList P ops Q (o :: rest) a w :=
  wpList_step fun K hK => by rw [if_pos hw]; exact h K hK

theorem ownsRow_nothing (w : World) (T : TypeId) (size : Nat) : (w.alloc (.cells #[] T)).ownsRow w.heap.size T size (.slice (some ⟨w.heap.size, 0, none⟩) 0 0) 0 [] :=
  ⟨by simp, .inr ⟨w.heap.size, 0, #[], rfl, Nat.le_refl _, heap_alloc_new w _, Nat.le_refl _, Nat.zero_le _, by simp, by simp⟩⟩

theorem verts_of_owns {w : World} {base : Nat} {v : Value} {vs : List Vrt} (h : w.ownsRow base 36 3 v vs.length (vrtRow vs)) : VertsAt w v vs ∧ ∀ x, v.ownBlock = some x → base ≤ x := by
  refine ⟨?_, ownsRow_block h⟩
  obtain ⟨hl, ⟨rfl, h0⟩ | ⟨g, cap, cur, rfl, hbg, hg, hnc, hcm, hcs, htake⟩⟩ := h
  · have := List.eq_nil_of_length_eq_zero h0
    subst this
    exact ⟨none, 0, rfl, Nat.le_refl _, Nat.zero_le _, .inl rfl⟩
  · refine ⟨_, cap, rfl, hnc, hcm, .inr ⟨g, 0, rfl, fun i hi => ?_⟩⟩
    have hc : ∀ (j : Nat) (u : Value), (vrtRow vs)[j]? = some u → w.cell? ⟨g, j, none⟩ = some u := fun j u hj => by
      have := World.ownsRow.cells (w := w) (base := base) (e := 36) (size := 3) (v := .slice (some ⟨g, 0, none⟩) vs.length cap) (n := vs.length) (xs := vrtRow vs) ⟨hl, .inr ⟨g, cap, cur, rfl, hbg, hg, hnc, hcm, hcs, htake⟩⟩ (g := g) rfl j u hj
      rwa [Addr_add, Nat.zero_add] at this
    have hget := List.getElem?_eq_getElem hi
    refine ⟨hc _ _ ?_, hc _ _ ?_, hc _ _ ?_⟩
    · have := vrtRow_get hget (j := 0) (by decide); rw [Nat.add_zero] at this; rw [Nat.zero_add, this]; rfl
    · rw [Nat.zero_add, vrtRow_get hget (by decide)]; rfl
    · rw [Nat.zero_add, vrtRow_get hget (by decide)]; rfl

/-- append([]Vert{}, l...). -/
theorem wpList_append_verts {w : World} {ops : Array Oper} {rest : List Oper} {o : Oper} {a : Act} {Q : Exit → Act → World → Prop} (hwd : Region.wanted o (yielded ops a.tmps) = true) (s x : Operand) (ho : o.op = .call { callee := .builtin .append, args := #[s, x], argTypes := #[22, 22] })
    (hs : a.eval s = .slice (some ⟨w.heap.size, 0, none⟩) 0 0) (v : Value) (vs : List Vrt) (hx : a.eval x = v) (hr : RdV w v vs) (hl : vs.length ≤ 100000)
    (k : ∀ v' w', Hid (VertsAt w' v' vs) → Hid (∀ x, v'.ownBlock = some x → w.heap.size ≤ x) → Hid (Below w.heap.size w w') → wpList Tryz.prog ops Q rest (a.put o.dst v') w') :
    wpList Tryz.prog ops Q (o :: rest) a (w.alloc (.cells #[] 36)) := by
  obtain ⟨i0, hi0, hz0, hz1, hz2⟩ := info_parts info_vert
  have hown := ownsRow_nothing w 36 3
  refine wpList_want hwd fun K hK => ?_
  have hrun : ∃ v' w', (Builtin.append_ #[22, 22] o.type #[.slice (some ⟨w.heap.size, 0, none⟩) 0 0, v]).run Tryz.prog (w.alloc (.cells #[] 36)) = .ok v' w' ∧ w'.ownsRow w.heap.size 36 3 v' vs.length (vrtRow vs) ∧ Below w.heap.size w w' := by
    have hrw := hr
    obtain ⟨ad, cap, rfl, hc⟩ := hrw
    cases ad with
    | none =>
      have h0 : vs = [] := by
        rcases hc with hc | ⟨b, off, ha, _⟩
        · exact List.length_eq_zero_iff.1 hc
        · cases ha
      subst h0
      have hst0 : ∀ ad, (storeCells ad []).run Tryz.prog (w.alloc (.cells #[] 36)) = .ok () (w.alloc (.cells #[] 36)) := fun _ => rfl
      exact ⟨_, _, by simp [Builtin.append_, run_underlying Tryz.underlying22, sizeOf, typeInfo, hi0, Builtin.lenOf, Builtin.firstCells, hst0], hown, (Below.refl _ _).alloc (Nat.le_refl _) _⟩
    | some ad =>
      have hcells : ∀ j u, (vrtRow vs)[j]? = some u → (w.alloc (.cells #[] 36)).cell? (ad.add j) = some u := fun j u hj => by
        have hjl := lt_of_get hj
        rw [vrtRow_length] at hjl
        rcases hc with h0 | ⟨b, off, ha, _⟩
        · omega
        · cases ha
          have h1 := hr.cells rfl j u hj
          rw [Addr_add] at *
          exact cellBelow ((Below.refl _ _).alloc (Nat.le_refl _) _) h1
      obtain ⟨v', w', g1, g2, g3, g4, g5⟩ := run_append_own_at (P := Tryz.prog) (w.alloc (.cells #[] 36)) w.heap.size 22 o.type 36 i0 _ 3 12 Tryz.underlying22 hi0 hz0 hz1 hz2 rfl (by decide) _ 0 [] hown ad vs.length cap (vrtRow vs) (vrtRow_length vs) hcells (vrtRow_one vs) (by unfold maxLen; omega) (by omega) (by simp)
      refine ⟨v', w', g1, by simpa using g2, ?_⟩
      obtain ⟨q1, q2, q3, q4, q5⟩ := g3
      refine ⟨q1, q2, q3, by simp at q4; omega, fun k hk => ?_⟩
      have hb1 := q5 k (by simp; omega) (by simp [Value.ownBlock]; omega)
      rw [hb1]
      exact (MapKept.heap_alloc w _).2 _ hk
  obtain ⟨v', w', h1, h2, h3⟩ := hrun
  obtain ⟨h4, h5⟩ := verts_of_owns h2
  unfold Oper.wp execOp
  simp only [ho, resolve, invoke, builtin, Sem.run_bind, Sem.run_pure, Result.andThen_ok, List.map_toArray, List.map_cons, List.map_nil, hs, hx, h1]
  exact hK _ _ (k v' w' (Lib.hid h4) (Lib.hid h5) (Lib.hid h3))
end Go.Proofs.YtolieljpnafbhaaGreatDoor
/-
  milepostlaw13.StoreVerts.
-/
namespace Go.Proofs.YtolieljpnafbhaaGreatDoor
open Go.RowKit Go.Maps

theorem rdE_none (w : World) : RdE w (.slice none 0 0) [] := ⟨none, 0, rfl, .inl rfl⟩

set_option maxRecDepth 100000 in
set_option maxHeartbeats 8000000 in
theorem storeVerts_any (HW : WriteSaid) {m : Nat} (HJS : JobSortSaid m) (hm : 1 ≤ m) (v : Value) (vs : List Vrt) (k : Nat) (w : World) (hv : RdV w v vs) (hk : k < 4294967296) :
    Calls Tryz.prog 3 #[v, .int .u32 (k : Int)] w fun e w' => e = .returned (.bool true) ∧ Below w.heap.size w w' := by
  have HV := Lib.hid hv
  obtain ⟨a, cap, rfl, -⟩ := hv
  by_cases hl : vs.length ≤ 100
  · have hl' : ¬ ((vs.length : Int) > 100) := by omega
    go_enter Tryz.func3, Tryz.ntmps3
    go_wp2_with fail
    refine (raw_any HW 8 (by decide) (by decide) _ [] w (rdE_none w) (by decide)).mono ?_
    rintro e w1 ⟨db, pb, o1, d1, L1, rfl, hh1, hr1⟩
    have HH1 := Lib.hid hh1
    have HR1 := Lib.hid hr1
    have HV1 := Lib.hid (HV.out.below hh1.below)
    clear hh1 hr1
    unfold ptrTo at *
    go_wp2_with (refine wpList_append_verts (w := w1) (by first | rfl | (simp [Region.wanted, yielded]; done)) _ _ rfl rfl _ vs rfl HV1.out (by omega) (fun v2 w2 HVs HVo HB2 => ?_))
    have hmk := Lib.hid (held_make HW HJS (HH1.out.later HB2.out) (by decide) HR1.out (gen := 0) (by decide) (by simp) (by simp) HVs.out (fun x hx => HH1.out.pool.fresh (HVo.out x hx)) (by omega))
    unfold nmX ptrTo at hmk
    refine hmk.out.mono ?_
    rintro e w3 ⟨d3, o3, rfl, hh3⟩
    have HH3 := Lib.hid hh3
    obtain ⟨f1, f2, f3⟩ := makeL_files L1 0 [] vs
    have HF3 := Lib.hid f3
    have HND : Hid (need (makeL L1 0 [] vs) ≤ 131072) := Lib.hid (Nat.le_trans (makeL_need _ _ _ _) (by have := HR1.out.2.2; simp at this ⊢; omega))
    have hop := Lib.hid (held_open HW HH3.out HND.out (by decide) f3 f1 f2)
    have HV3 := Lib.hid (HV.out.below hh3.below)
    clear hh3 f1 f2 f3 HR1 HVs HVo HB2 HV1 HH1 hmk
    unfold ptrTo at *
    go_wp2_with fail
    refine hop.out.mono ?_
    rintro e w4 ⟨gb, ob, ib, vb, d4, o4, rfl, hh4, hg4⟩
    have HH4 := Lib.hid hh4
    have HG4 := Lib.hid hg4
    have hsz := Lib.hid (graphSize_any hg4)
    clear hh4 hg4 hop HH3 HV3
    unfold ptrTo at *
    go_wp2_with fail
    refine hsz.out.mono ?_
    rintro e w' ⟨rfl, rfl⟩
    go_wp2_with fail
    generalize makeL L1 0 [] vs = LL at *
    clear hsz
    have HGV : Hid (∀ W d' o' (j : Nat) (hj : j < vs.length), Held w W pb db 8 o' d' LL → GraphAt W o' gb pb 0 vs.length ob ib vb → Calls Tryz.prog 20 #[ptrTo gb, .int .u32 (j : Int)] W (VertPost 8 pb db W o' d' LL vs[j])) :=
      Lib.hid (fun W d' o' j hj hh hg => graphVert_in HW hh.pool hg HF3.out rfl j hj (by omega))
    unfold ptrTo at *
    go_loopw [9] (fun i wr => ∃ (j : Nat) (d' : Dsk) (o' : Owner), j ≤ vs.length ∧ i = .int .i64 (j : Int) ∧ Held w wr pb db 8 o' d' LL ∧ GraphAt wr o' gb pb 0 vs.length ob ib vb) (fun i _ => vs.length - (intOf i).toNat)
    case atStart => exact ⟨0, d4, o4, Nat.zero_le _, rfl, HH4.out, HG4.out⟩
    case round =>
      obtain ⟨j, d5, o5, hjl, rfl, hh5, hg5⟩ := hrel
      have HH5 := Lib.hid hh5
      have HG5 := Lib.hid hg5
      clear hh5 hg5 HH4 HG4
      by_cases hlt : j < vs.length
      · have hlt' : (j : Int) < (vs.length : Int) := by omega
        have hwj : IntKind.u32.wrap (j : Int) = (j : Int) := wraps_u32 _ (by omega) (by omega)
        have hgv := Lib.hid (HGV.out _ d5 o5 j hlt HH5.out HG5.out)
        go_wp2_with fail
        refine hgv.out.mono ?_
        rintro e w6 ⟨c6, d6, o6, rfl, hm6, he6⟩
        have hc6 : c6 = 0 := HH5.out.fine' hm6 he6 HND.out
        subst hc6
        have HH6 := Lib.hid (HH5.out.moved hm6 (fun _ h => h.elim))
        have HG6 := Lib.hid (HG5.out.moved hm6)
        have HX := Lib.hid (List.getElem?_eq_getElem hlt)
        clear hm6 he6 hgv HH5 HG5
        simp only [if_true, vrtVal]
        generalize vs[j] = x at *
        go_wp2_with fail
        obtain ⟨a', cap', hve, hce⟩ := HV.out
        obtain ⟨rfl, rfl⟩ : a = a' ∧ cap = cap' := by simpa using hve
        obtain ⟨b, off, rfl, hcf⟩ := hce.resolve_left (by omega)
        obtain ⟨p0, p1, p2⟩ := hcf j x HX.out
        have HB7 : Hid (Below w6.heap.size w6 (w6.alloc (.cells #[.int .u32 (x.r.toNat : Int), .int .u32 (x.l.toNat : Int), .int .u32 (x.g.toNat : Int)] 36))) := Lib.hid ((Below.refl _ _).alloc (Nat.le_refl _) _)
        have HQ7 : Hid ((w6.alloc (.cells #[.int .u32 (x.r.toNat : Int), .int .u32 (x.l.toNat : Int), .int .u32 (x.g.toNat : Int)] 36)).heap[w6.heap.size]? = some (.cells #[.int .u32 (x.r.toNat : Int), .int .u32 (x.l.toNat : Int), .int .u32 (x.g.toNat : Int)] 36)) := Lib.hid (heap_alloc_new w6 _)
        generalize w6.alloc (.cells #[.int .u32 (x.r.toNat : Int), .int .u32 (x.l.toNat : Int), .int .u32 (x.g.toNat : Int)] 36) = W7 at *
        have HH7 := Lib.hid (HH6.out.later HB7.out)
        have HG7 := Lib.hid (HG6.out.below HB7.out)
        have s0 := cellBelow HH7.out.below p0
        have s1 := cellBelow HH7.out.below p1
        have s2 := cellBelow HH7.out.below p2
        have r0 : W7.cell? ⟨w6.heap.size, 0, none⟩ = some (.int .u32 (x.r.toNat : Int)) := by rw [cells_cell HQ7.out]; rfl
        have r1 : W7.cell? ⟨w6.heap.size, 1, none⟩ = some (.int .u32 (x.l.toNat : Int)) := by rw [cells_cell HQ7.out]; rfl
        have r2 : W7.cell? ⟨w6.heap.size, 2, none⟩ = some (.int .u32 (x.g.toNat : Int)) := by rw [cells_cell HQ7.out]; rfl
        clear hve hce hcf p0 p1 p2 HB7 HQ7 HH6 HG6 HX
        generalize w6.heap.size = q7 at *
        go_quiet (fail)
        go_wp2
        have HBd : Below W7.heap.size W7 (W7.drewN nq) := ⟨rfl, rfl, rfl, Nat.le_refl _, fun _ _ => rfl⟩
        exact ⟨⟨j + 1, d6, o6, by omega, by go_num, HH7.out.later HBd, HG7.out.below HBd⟩, by simp [intOf]; omega⟩
      · have hlt' : ¬ (j : Int) < (vs.length : Int) := by omega
        clear HGV
        by_cases hkl : k < vs.length
        · have hkl' : ¬ ((k : Int) ≥ (vs.length : Int)) := by omega
          have hkl'' : (k : Int) < (vs.length : Int) := by omega
          have hgv := Lib.hid (graphVert_in HW HH5.out.pool HG5.out HF3.out rfl k hkl hk)
          have HX := Lib.hid (List.getElem?_eq_getElem hkl)
          generalize vs[k] = x at *
          unfold ptrTo at *
          go_wp2_with fail
          refine hgv.out.mono ?_
          rintro e w6 ⟨c6, d6, o6, rfl, hm6, he6⟩
          have hc6 : c6 = 0 := HH5.out.fine' hm6 he6 HND.out
          subst hc6
          have HH6 := Lib.hid (HH5.out.moved hm6 (fun _ h => h.elim))
          clear hm6 he6 hgv HH5 HG5
          simp only [if_true, vrtVal]
          go_wp2_with fail
          obtain ⟨a', cap', hve, hce⟩ := HV.out
          obtain ⟨rfl, rfl⟩ : a = a' ∧ cap = cap' := by simpa using hve
          obtain ⟨b, off, rfl, hcf⟩ := hce.resolve_left (by omega)
          obtain ⟨p0, p1, p2⟩ := hcf k x HX.out
          have HB7 : Hid (Below w6.heap.size w6 (w6.alloc (.cells #[.int .u32 (x.r.toNat : Int), .int .u32 (x.l.toNat : Int), .int .u32 (x.g.toNat : Int)] 36))) := Lib.hid ((Below.refl _ _).alloc (Nat.le_refl _) _)
          have HQ7 : Hid ((w6.alloc (.cells #[.int .u32 (x.r.toNat : Int), .int .u32 (x.l.toNat : Int), .int .u32 (x.g.toNat : Int)] 36)).heap[w6.heap.size]? = some (.cells #[.int .u32 (x.r.toNat : Int), .int .u32 (x.l.toNat : Int), .int .u32 (x.g.toNat : Int)] 36)) := Lib.hid (heap_alloc_new w6 _)
          generalize w6.alloc (.cells #[.int .u32 (x.r.toNat : Int), .int .u32 (x.l.toNat : Int), .int .u32 (x.g.toNat : Int)] 36) = W7 at *
          have HH7 := Lib.hid (HH6.out.later HB7.out)
          have s0 := cellBelow HH7.out.below p0
          have s1 := cellBelow HH7.out.below p1
          have s2 := cellBelow HH7.out.below p2
          have r0 : W7.cell? ⟨w6.heap.size, 0, none⟩ = some (.int .u32 (x.r.toNat : Int)) := by rw [cells_cell HQ7.out]; rfl
          have r1 : W7.cell? ⟨w6.heap.size, 1, none⟩ = some (.int .u32 (x.l.toNat : Int)) := by rw [cells_cell HQ7.out]; rfl
          have r2 : W7.cell? ⟨w6.heap.size, 2, none⟩ = some (.int .u32 (x.g.toNat : Int)) := by rw [cells_cell HQ7.out]; rfl
          clear hve hce hcf p0 p1 p2 HB7 HQ7 HH6 HX
          generalize w6.heap.size = q7 at *
          have F0 := Lib.hid r0
          have F1 := Lib.hid r1
          have F2 := Lib.hid r2
          have F3 := Lib.hid s0
          have F4 := Lib.hid s1
          have F5 := Lib.hid s2
          clear r0 r1 r2 s0 s1 s2
          refine wp_region_quiet_in (Below W7.heap.size W7) (by kernel_rfl) (by kernel_rfl) ((Below.refl _ _).drew) ?_
          iterate 3 (refine q_op rfl (fun w' hw' => (by go_simp <;> rfl)) (fun K hK => ?_); go_simp; refine hK _ ?_; clear hK K)
          refine q_op rfl (fun w' hw' => (by have r0 := cellBelow hw' F0.out; have r1 := cellBelow hw' F1.out; have r2 := cellBelow hw' F2.out; go_simp <;> rfl)) (fun K hK => ?_); go_simp; refine hK _ ?_; clear hK K
          iterate 3 (refine q_op rfl (fun w' hw' => (by go_simp <;> rfl)) (fun K hK => ?_); go_simp; refine hK _ ?_; clear hK K)
          refine q_op rfl (fun w' hw' => (by have s0 := cellBelow hw' F3.out; have s1 := cellBelow hw' F4.out; have s2 := cellBelow hw' F5.out; go_simp <;> rfl)) (fun K hK => ?_); go_simp; refine hK _ ?_; clear hK K
          iterate 3 (refine q_op rfl (fun w' hw' => (by go_simp <;> rfl)) (fun K hK => ?_); go_simp; refine hK _ ?_; clear hK K)
          refine q_call rfl (fun w' hw' => (by go_simp <;> rfl)) (fun w' hw' => ((works13_any HW HJS hm w').mono fun e w'' ⟨he, hb⟩ => ⟨he, hw'.trans (hb.mono hw'.size)⟩)) (fun K hK => ?_); go_simp; refine hK _ ?_; clear hK K
          iterate 2 (refine q_op rfl (fun w' hw' => (by go_simp <;> rfl)) (fun K hK => ?_); go_simp; refine hK _ ?_; clear hK K)
          refine wpQuiet_nil ?_
          intro w8 hw8
          have HB8 := Lib.hid (HH7.out.later hw8)
          clear hw8 HH7
          go_wp2
          go_ret
          exact ⟨rfl, HB8.out.below⟩
        · have hkl' : ((k : Int) ≥ (vs.length : Int)) := by omega
          have hgv := Lib.hid (graphVert_out HG5.out k (by omega) hk)
          unfold ptrTo at *
          go_wp2_with fail
          refine hgv.out.mono ?_
          rintro e w6 ⟨rfl, hb6⟩
          have HH6 := Lib.hid (HH5.out.later hb6)
          clear hb6 hgv HH5 HG5
          simp only [vrtVal, vrt0]
          go_wp2_with fail
          have HH7 := Lib.hid (HH6.out.later ((Below.refl _ _).alloc (Nat.le_refl _) (.cells #[.int .u32 0, .int .u32 0, .int .u32 0] 36)))
          refine (works13_any HW HJS hm _).mono ?_
          rintro e w8 ⟨rfl, hb8⟩
          have HB8 := Lib.hid (HH7.out.later hb8)
          clear hb8 HH7 HH6
          go_wp2
          go_ret
          exact ⟨rfl, HB8.out.below⟩
  · have hl' : ((vs.length : Int) > 100) := by omega
    go_enter Tryz.func3, Tryz.ntmps3
    go_wp2_with fail
    refine (works13_any HW HJS hm _).mono ?_
    rintro e w10 ⟨rfl, h10⟩
    go_wp2
    go_ret
    exact ⟨rfl, h10⟩
end Go.Proofs.YtolieljpnafbhaaGreatDoor
/-
  A row of structs of integers that came in, opened: vertices.
-/
namespace Go.Proofs.YtolieljpnafbhaaGreatDoor
open Go.ChangeShapes Go.WideShapes Go.ChangeAt Go.RowKit Go.Joins

theorem laidOut : laidOutB Tryz.prog = true := by kernel_rfl

theorem spot_none {w : World} {a : Addr} {v : Value} (h : w.cell? a = some v) : a.spot = none := by
  obtain ⟨b, o, s⟩ := a
  cases s with
  | none => rfl
  | some s =>
    unfold World.cell? at h
    simp at h
    split at h <;> cases h

theorem u32_of {z : Int} (h : (Lit.int .u32 z).wf = true) : z = ((UInt32.ofNat z.toNat).toNat : Int) := by
  simp [Lit.wf] at h
  have h0 : IntKind.u32.min = 0 := rfl
  have h1 : IntKind.u32.max = 4294967295 := rfl
  rw [h0, h1] at h
  rw [UInt32.toNat_ofNat']
  omega

theorem cellsVert : Tryz.prog.cellsOf 36 = 3 := by kernel_rfl
theorem cellsU32 : Tryz.prog.cellsOf 23 = 1 := by kernel_rfl

set_option maxRecDepth 100000 in
theorem opened_verts {H : Type} {enc : TypeId × Value → H} {W : World} {sp : Nat → Bool} {a : Option Addr} {len cap : Nat} {d : DataW H} {p : List MemPlace} (h : DataW.Trod enc Tryz.prog W 0 sp true 22 (.slice a len cap) d p) :
    ∃ vs, RdV W (.slice a len cap) vs := by
  obtain ⟨fuel, hf⟩ := h
  rcases Deep.open_slice Tryz.underlying22 hf with ⟨hcs, -⟩ | ⟨a', len', cap', m, n, D, Pl, hcs, -, hl, -, hm, -, hx⟩
  · simp [Value.cells] at hcs
    obtain ⟨rfl, rfl, rfl⟩ := hcs
    exact ⟨[], none, 0, rfl, .inl rfl⟩
  · simp [Value.cells] at hcs
    obtain ⟨rfl, rfl, rfl⟩ := hcs
    have hlm : len ≤ m := by rw [hm]; split <;> omega
    rw [cellsVert] at hx
    have each : ∀ i, i < len → ∃ x : Vrt, W.cell? (a'.add (i * 3)) = some (.int .u32 (x.r.toNat : Int)) ∧ W.cell? (a'.add (i * 3 + 1)) = some (.int .u32 (x.l.toNat : Int)) ∧ W.cell? (a'.add (i * 3 + 2)) = some (.int .u32 (x.g.toNat : Int)) := by
      intro i hi
      obtain ⟨cs', h1, h2⟩ := hx i (by omega)
      obtain ⟨_, hlen, hcell⟩ := World.cells?_some h1
      obtain ⟨xs, k, hk, hxy, _, hxl, hf⟩ := DataW.trod_struct Tryz.underlying36 h2
      match xs, hxl, cs', hlen with
      | [y0, y1, y2], _, [v0, v1, v2], _ =>
        have g0 := hf 0 _ rfl
        have g1 := hf 1 _ rfl
        have g2 := hf 2 _ rfl
        simp [cellsU32] at g0 g1 g2
        obtain ⟨n0, q0, -, w0⟩ := DataW.trod_int Tryz.underlying23 g0
        obtain ⟨n1, q1, -, w1⟩ := DataW.trod_int Tryz.underlying23 g1
        obtain ⟨n2, q2, -, w2⟩ := DataW.trod_int Tryz.underlying23 g2
        obtain ⟨rfl⟩ := q0
        obtain ⟨rfl⟩ := q1
        obtain ⟨rfl⟩ := q2
        have e0 := hcell 0 (by omega)
        have e1 := hcell 1 (by omega)
        have e2 := hcell 2 (by omega)
        rw [Deep.add_add] at e0 e1 e2
        exact ⟨⟨UInt32.ofNat n0.toNat, UInt32.ofNat n1.toNat, UInt32.ofNat n2.toNat⟩, by rw [← u32_of w0]; simpa using e0, by rw [← u32_of w1]; simpa using e1, by rw [← u32_of w2]; simpa using e2⟩
    have hv : ∃ vs : List Vrt, vs.length = len ∧ ∀ (j : Nat) (x : Vrt), vs[j]? = some x → W.cell? (a'.add (j * 3)) = some (.int .u32 (x.r.toNat : Int)) ∧ W.cell? (a'.add (j * 3 + 1)) = some (.int .u32 (x.l.toNat : Int)) ∧ W.cell? (a'.add (j * 3 + 2)) = some (.int .u32 (x.g.toNat : Int)) := by
      clear hx hf
      generalize len = N at *
      clear hl hm hlm
      induction N with
      | zero => exact ⟨[], rfl, fun j x hj => by cases hj⟩
      | succ N ih =>
        obtain ⟨vs, h1, h2⟩ := ih (fun i hi => each i (by omega))
        obtain ⟨x, hx⟩ := each N (by omega)
        refine ⟨vs ++ [x], by simp [h1], fun j y hj => ?_⟩
        rcases Nat.lt_or_ge j vs.length with hlt | hge
        · rw [List.getElem?_append_left hlt] at hj
          exact h2 j y hj
        · rw [List.getElem?_append_right hge] at hj
          have : j - vs.length = 0 := by
            rcases Nat.eq_zero_or_pos (j - vs.length) with h | h
            · exact h
            · rw [List.getElem?_eq_none (by simp; omega)] at hj; cases hj
          rw [this] at hj
          cases hj
          rw [show j = N by omega]
          exact hx
    obtain ⟨vs, h1, h2⟩ := hv
    subst h1
    refine ⟨vs, some a', cap, rfl, ?_⟩
    rcases Nat.eq_zero_or_pos vs.length with h0 | h0
    · exact .inl h0
    · refine .inr ⟨a'.block, a'.off, ?_, ?_⟩
      · have h3 := (h2 0 vs[0] (List.getElem?_eq_getElem h0)).1
        have h4 := spot_none (a := a') (by simpa [Addr.add] using h3)
        obtain ⟨b, o, s⟩ := a'
        cases h4
        rfl
      · have h3 := (h2 0 vs[0] (List.getElem?_eq_getElem h0)).1
        have h4 := spot_none (a := a') (by simpa [Addr.add] using h3)
        intro j x hj
        have h5 := h2 j x hj
        obtain ⟨b, o, s⟩ := a'
        cases h4
        simp only [Addr_add] at h5
        exact ⟨h5.1, by rw [Nat.add_assoc]; exact h5.2.1, by rw [Nat.add_assoc]; exact h5.2.2⟩
end Go.Proofs.YtolieljpnafbhaaGreatDoor
