/-
  Joined, in build order: Ext4, RunsM, Appd.
-/
import Derived.Test.YtolieljpnafbhaaGreatDoorG09
import Derived.Maps.AppendAt
/-
  extsort: write.
-/
namespace Go.Proofs.YtolieljpnafbhaaGreatDoor
open Go.RowKit Go.Maps Go.MapKept

theorem mdel_mdel {κ υ : Type} [DecidableEq κ] (m : List (κ × υ)) (k : κ) : mdel (mdel m k) k = mdel m k := by
  unfold mdel
  rw [List.filter_filter]
  congr 1
  funext p
  simp

theorem mput_put {κ υ : Type} [DecidableEq κ] (m : List (κ × υ)) (k : κ) (a b : υ) : mput (mput m k a) k b = mput m k b := by
  have h := mdel_mput m k a
  unfold mput at *
  rw [h]

theorem mdel_fresh {κ υ : Type} [DecidableEq κ] {m : List (κ × υ)} {k : κ} (h : mget m k = none) : mdel m k = m := by
  unfold mdel
  rw [List.filter_eq_self]
  intro p hp
  simp only [decide_eq_true_eq]
  intro e
  unfold mget at h
  rw [Option.map_eq_none_iff, List.find?_eq_none] at h
  exact h p hp (by simpa using e)

theorem need_cons (L : Logic) (p : Name × LFile) : need (p :: L) = p.2.need + need L := by
  unfold need
  rw [List.map_cons, List.sum_cons]

theorem need_mput_fresh {L : Logic} {k : Name} (f : LFile) (h : mget L k = none) : need (mput L k f) = f.need + need L := by
  unfold mput
  rw [mdel_fresh h, need_cons]

theorem edgeFile_need (es : List Edg) (fl : Bool) : (edgeFile es fl).need ≤ 4 * es.length := by
  unfold edgeFile LFile.need
  dsimp only
  rw [pagesOf_length, List.length_map]
  have : pagesFor (per 20) es.length ≤ es.length := by
    unfold pagesFor
    have h12 : per 20 = 12 := by decide
    rw [h12]
    omega
  omega

/-- What is told where there is no room, or no power: so many sectors were not to be had. -/
def ErrN (d d' : Dsk) (B c : Nat) : Prop := c = 5 ∧ d.quota < B ∨ c = 6 ∧ d'.dead = true

theorem Err.num {d d' : Dsk} {L : Logic} {c B : Nat} (h : Err d d' L c) (hB : need L ≤ B) : ErrN d d' B c := by
  rcases h with ⟨h1, h2⟩ | h
  · exact .inl ⟨h1, by omega⟩
  · exact .inr h

theorem ErrN.ne {d d' : Dsk} {B c : Nat} (h : ErrN d d' B c) : c ≠ 0 := by rcases h with h | h <;> omega

theorem ErrN.mono {d d' : Dsk} {B B' c : Nat} (h : ErrN d d' B c) (hB : B ≤ B') : ErrN d d' B' c := by
  rcases h with ⟨h1, h2⟩ | h
  · exact .inl ⟨h1, by omega⟩
  · exact .inr h

theorem ErrN.later {d d1 d2 : Dsk} {B c : Nat} (hq : d1.quota = d.quota) (h : ErrN d1 d2 B c) : ErrN d d2 B c := by
  rcases h with ⟨h1, h2⟩ | h
  · exact .inl ⟨h1, by rw [← hq]; exact h2⟩
  · exact .inr h

/-- A file of edges is made, or something is told; the other files are as they were. -/
def MadePost (S : Nat → Prop) (n pb db : Nat) (w : World) (o : Owner) (d : Dsk) (L : Logic) (name : Name) (out : List Edg) (B : Nat) (e : Ending) (w' : World) : Prop :=
  ∃ c d' o' L', e = .returned (.int .i64 ((c : Nat) : Int)) ∧ Moved S n pb db w o d w' o' d' L' ∧ (c = 0 ∧ L' = mput L name (edgeFile out false) ∨ ErrN d d' B c) ∧ ∀ x, x ≠ name → mget L' x = mget L x

section
variable {S : Nat → Prop} {w w' : World} {pb db n cb kb sb jb byb made : Nat} {by' : Bool} {name : Name} {o o' : Owner} {d d' : Dsk} {L L' : Logic}

set_option maxRecDepth 100000 in
set_option maxHeartbeats 8000000 in
theorem jobWrite_any (HW : WriteSaid) {m : Nat} (HS : SortSaid m) (h : PoolAt w pb db n o d L) (hj : JobAt w jb pb byb made by') (hoj : o jb = none) (hob : o byb = none) (hok : okName name = true) (hno : mget L name = none)
    {v : Value} {base : Nat} {es : List Edg} (hv : ownsEdges w base v es) (hvo : ∀ x, v.ownBlock = some x → o x = none ∧ x ≠ jb ∧ x ≠ byb) (hm : es.length ≤ m) (hes : es.length < 65535) :
    Calls Tryz.prog 137 #[ptrTo jb, .string name, v] w (MadePost (fun x => v.ownBlock = some x) n pb db w o d L name (bestOf by' es) (need L + 4 * es.length)) := by
  -- the sort
  have hsort : Hid (Calls Tryz.prog 174 #[v, cmpFn jb] w (fun e w' => ∃ ts, e = .returned (.tuple #[]) ∧ ts.Perm es ∧ ts.Pairwise (Ahead by') ∧ ownsEdges w' base v ts ∧ Turn (fun x => v.ownBlock = some x) w w')) := Lib.hid (by
    rcases ownsEdges_shape hv with ⟨rfl, rfl⟩ | ⟨g, cap, rfl, hg, hc1, hc2⟩
    · refine (sortNone_any _ _ _ _).mono ?_
      rintro e w' ⟨rfl, rfl⟩
      exact ⟨[], rfl, List.Perm.refl _, List.Pairwise.nil, hv, Turn.refl _ _⟩
    · refine (HS hj es hm hv (hvo g rfl).2.1 (hvo g rfl).2.2).mono ?_
      rintro e w' ⟨ts, rfl, h1, h2, h3, h4⟩
      exact ⟨ts, rfl, h1, h2, h3, h4.mono (fun x _ e => by rw [e]; rfl)⟩)
  have hshape : ∃ a cap, v = .slice a es.length cap ∧ ∀ x, v.ownBlock = some x → a = some ⟨x, 0, none⟩ := by
    rcases ownsEdges_shape hv with ⟨rfl, rfl⟩ | ⟨g, cap, rfl, hg, hc1, hc2⟩
    · exact ⟨none, 0, rfl, fun x hx => by cases hx⟩
    · exact ⟨some ⟨g, 0, none⟩, cap, rfl, fun x hx => by cases hx; rfl⟩
  have hcreate : Hid (∀ W, PoolAt W pb db n o d L → JobAt W jb pb byb made by' → Calls Tryz.prog 138 #[ptrTo jb, .string name] W (CreateSinkPost n pb db W o d L name)) := Lib.hid (fun W hW hjW => jobCreate_any hW hjW hoj hok hno)
  have hput : Hid (∀ W o' d' kb sb out, PoolAt W pb db n o' d' (mput L name (edgeFile out false)) → StreamAt W sb pb name 20 → o' sb = none → o' kb = none → kb ≠ sb → SinkOf W kb sb out → out.length < 65535 → ∀ x : Edg,
      Calls Tryz.prog 140 #[ptrTo kb, .agg #[.int .u32 (x.t.toNat : Int), .int .u32 (x.h.toNat : Int), .int .u64 (x.x.toNat : Int), .int .u32 (x.m.toNat : Int)]] W (SinkPost n pb db W o' d' (mput L name (edgeFile out false)) name kb sb out x)) :=
    Lib.hid (fun W o' d' kb sb out hW hst ho hok' hne hk hl x => sinkPut_any HW hW hst ho hok' hne (by rw [mget_mput, if_pos rfl]) hl hk x)
  have H := Lib.hid h
  have HJ := Lib.hid hj
  have HVO := Lib.hid hvo
  have HNO := Lib.hid hno
  have HVL : Hid (∀ x, v.ownBlock = some x → x < w.heap.size) := Lib.hid (fun x hx => (ownBlock_old hv x hx).1)
  have HOJ := Lib.hid hoj
  have HOB := Lib.hid hob
  have hbest : Hid (∀ ts : List Edg, ts.Perm es → ts.Pairwise (Ahead by') → putL ts = bestOf by' es) := Lib.hid (fun ts h1 h2 => ((best_putL h2).congr (fun x => h1.mem_iff)).eq)
  obtain ⟨a, cap, rfl, ha⟩ := hshape
  have HA := Lib.hid ha
  clear h hj hoj hob hok hno hv hvo hm ha
  unfold cmpFn ptrTo at *
  generalize hN : es.length = N at *
  have HN := Lib.hid hN
  clear hN
  go_enter Tryz.func137, Tryz.ntmps137
  go_wp2_with fail
  refine hsort.out.mono ?_
  rintro e w1 ⟨ts, rfl, hp1, hs1, hv1, ht1⟩
  have htl : ts.length = N := by rw [hp1.length_eq, HN.out]
  have HTL := Lib.hid htl
  have HM1 : Hid (Moved (fun x => (Value.slice a N cap).ownBlock = some x) n pb db w o d w1 o d L) := Lib.hid ⟨H.out.kept ht1 (fun x hx e => Owner.not_in_none (HVO.out x e).1 hx) (fun _ _ h => h) (fun x t hx => Nat.lt_of_lt_of_le (H.out.owned x t hx) ht1.size), ht1.mono (fun _ _ h => .inr h), OGrow.refl _ _, Onward.refl _⟩
  have HJ1 : Hid (JobAt w1 jb pb byb made by') := Lib.hid (HJ.out.kept (ht1.block _ HJ.out.lt.1 (fun e => (HVO.out _ e).2.1 rfl)) (ht1.block _ HJ.out.lt.2 (fun e => (HVO.out _ e).2.2 rfl)))
  have HV1 := Lib.hid hv1
  have HB := Lib.hid (hbest.out ts hp1 hs1)
  have hs1 : w.heap.size ≤ w1.heap.size := ht1.size
  clear hp1 hs1 hv1 ht1 htl
  have hcall := Lib.hid (hcreate.out w1 HM1.out.pool HJ1.out)
  go_wp2_with fail
  refine hcall.out.mono ?_
  rintro e w2 ⟨v2, c2, d2, o2, rfl, hm2, he2, hok2⟩
  have HE2 := Lib.hid he2
  have hs1' : w.heap.size ≤ w1.heap.size := HM1.out.size
  by_cases hc2 : c2 = 0
  · subst hc2
    obtain ⟨kb, sb, rfl, hk2, hst2, hok2', hos2, hne2, hkb, hsb⟩ := hok2 rfl
    simp only [if_true] at hm2
    have HM2 := Lib.hid (HM1.out.trans hm2 (fun _ _ h => h.elim))
    have HV2 : Hid (ownsEdges w2 base (.slice a N cap) ts) := Lib.hid (hm2.ownsRow HV1.out (fun b hb => ⟨(HVO.out b hb).1, fun h => h⟩))
    have HK2 := Lib.hid hk2
    have HST2 := Lib.hid hst2
    have HOK2 := Lib.hid hok2'
    have HOS2 := Lib.hid hos2
    have HNE2 := Lib.hid hne2
    have HNK : Hid (∀ x, (Value.slice a N cap).ownBlock = some x → x ≠ kb) := Lib.hid (fun x hx e => by have := HVL.out x hx; omega)
    have hs2 : w.heap.size ≤ kb := Nat.le_trans hs1' hkb
    clear hok2 hm2 hk2 hst2 hok2' hos2 hne2 he2 hcall
    unfold ptrTo
    go_wp2
    go_loopw [27] (fun i wr => ∃ (k : Nat) (d' : Dsk) (o' : Owner), k ≤ N ∧ i = .int .i64 (k : Int) ∧ Moved (fun x => (Value.slice a N cap).ownBlock = some x) n pb db w o d wr o' d' (mput L name (edgeFile (putL (ts.take k)) false)) ∧ SinkOf wr kb sb (putL (ts.take k)) ∧ StreamAt wr sb pb name 20 ∧ o' kb = none ∧ o' sb = none ∧ ownsEdges wr base (.slice a N cap) ts ∧ (∀ x, (Value.slice a N cap).ownBlock = some x → o' x = none)) (fun i _ => N - (intOf i).toNat)
    case atStart => exact ⟨0, d2, o2, Nat.zero_le _, rfl, by simpa [putL] using HM2.out, by simpa [putL] using HK2.out, HST2.out, HOK2.out, HOS2.out, HV2.out, fun x hx => HM2.out.free (HVL.out x hx) (HVO.out x hx).1⟩
    case round =>
      obtain ⟨k, d3, o3, hk, rfl, hm3, hk3, hst3, hok3, hos3, hv3, hvo3⟩ := hrel
      have HM3 := Lib.hid hm3
      have HK3 := Lib.hid hk3
      have HST3 := Lib.hid hst3
      have HOK3 := Lib.hid hok3
      have HOS3 := Lib.hid hos3
      have HV3 := Lib.hid hv3
      have HVO3 := Lib.hid hvo3
      have hs3 : w.heap.size ≤ wr.heap.size := hm3.size
      have hkl := hk3.lt
      have hsl := hst3.lt
      clear hm3 hk3 hst3 hok3 hos3 hv3 hvo3
      by_cases hlt : k < N
      · have hkt : k < ts.length := by rw [HTL.out]; exact hlt
        have hshape3 : ∃ g, a = some ⟨g, 0, none⟩ ∧ N ≤ cap ∧ cap ≤ maxLen := by
          rcases ownsEdges_shape HV3.out with ⟨h1, _⟩ | ⟨g, cap', h1, _, h2, h3⟩
          · rw [h1] at hkt; simp at hkt
          · cases h1
            rw [HTL.out] at h2
            exact ⟨g, rfl, h2, h3⟩
        obtain ⟨g, rfl, hcap1, hcap2⟩ := hshape3
        unfold maxLen at hcap2
        have hvc := HV3.out
        rw [← HTL.out] at hvc
        obtain ⟨e0, e1, e2, e3⟩ := ownsEdges_cells hvc (List.getElem?_eq_getElem hkt)
        have hgl : g < wr.heap.size := World.block_lt_of_cell? _ _ e0
        have HPUT : Hid (putL (ts.take (k + 1)) = put1 (putL (ts.take k)) ts[k]) := Lib.hid (by rw [List.take_succ_eq_append_getElem hkt, putL_snoc])
        have hpl : Hid ((putL (ts.take k)).length ≤ k) := Lib.hid (Nat.le_trans (putL_length _) (List.length_take_le _ _))
        have hal : Hid (∀ ob : Obj, Moved (fun x => (Value.slice (some ⟨g, 0, none⟩) N cap).ownBlock = some x) n pb db w o d (wr.alloc ob) o3 d3 (mput L name (edgeFile (putL (ts.take k)) false))) := Lib.hid (fun ob => HM3.out.alloc ob)
        have hcallp := Lib.hid (fun W (hW : PoolAt W pb db n o3 d3 (mput L name (edgeFile (putL (ts.take k)) false))) (hst : StreamAt W sb pb name 20) (hsk : SinkOf W kb sb (putL (ts.take k))) => hput.out W o3 d3 kb sb (putL (ts.take k)) hW hst HOS3.out HOK3.out HNE2.out hsk (by have := hpl.out; omega) ts[k])
        clear hvc
        generalize ts[k] = x at *
        go_wp2_with fail
        have hbl : ∀ ob : Obj, Below wr.heap.size wr (wr.alloc ob) := fun ob => (Below.refl _ _).alloc (Nat.le_refl _) ob
        refine (hcallp.out _ (hal.out _).pool (HST3.out.below (hbl _)) (HK3.out.below (hbl _))).mono ?_
        rintro e w4 ⟨c4, d4, o4, rfl, hm4, he4, hk4⟩
        have hsz4 : wr.heap.size ≤ w4.heap.size := Nat.le_trans (by simp) hm4.size
        have HV4 : Hid (ownsEdges w4 base (.slice (some ⟨g, 0, none⟩) N cap) ts) := Lib.hid (hm4.ownsRow (HV3.out.alloc _) (fun b hb => ⟨HVO3.out b hb, HNK.out b hb⟩))
        have HST4 : Hid (StreamAt w4 sb pb name 20) := Lib.hid ((HST3.out.below (hbl _)).moved hm4 HOS3.out (fun e => HNE2.out e.symm))
        have HOK4 : Hid (o4 kb = none) := Lib.hid (hm4.free (Nat.lt_of_lt_of_le hkl (hbl _).size) HOK3.out)
        have HOS4 : Hid (o4 sb = none) := Lib.hid (hm4.free (Nat.lt_of_lt_of_le hsl (hbl _).size) HOS3.out)
        have HVO4 : Hid (∀ x, (Value.slice (some ⟨g, 0, none⟩) N cap).ownBlock = some x → o4 x = none) := Lib.hid (fun x hx => hm4.free (Nat.lt_of_lt_of_le (by cases hx; exact hgl) (hbl _).size) (HVO3.out x hx))
        have HK4 := Lib.hid hk4
        clear hk4 hcallp e0 e1 e2 e3
        by_cases hc4 : c4 = 0
        · subst hc4
          simp only [if_true, mput_put] at hm4
          have HM4 := Lib.hid ((hal.out _).trans hm4 (fun x hx e => by subst e; omega))
          have hk5 := HK4.out rfl
          rw [← HPUT.out] at HM4 hk5
          have HK5 := Lib.hid hk5
          clear hm4 he4 hk5
          go_wp2
          go_roundw
          case rel => exact ⟨k + 1, d4, o4, by omega, by go_num, HM4.out, HK5.out, HST4.out, HOK4.out, HOS4.out, HV4.out, HVO4.out⟩
          case measure => simp [intOf]; omega
        · have hc4' : ¬ (c4 : Int) = 0 := by omega
          rw [if_neg hc4] at hm4
          have HM4 := Lib.hid ((hal.out _).trans hm4 (fun x hx e => by subst e; omega))
          have hnd : need (mput L name (edgeFile (putL (ts.take k)) false)) ≤ need L + 4 * N := by
            rw [need_mput_fresh _ HNO.out]
            have h1 := edgeFile_need (putL (ts.take k)) false
            have h2 := hpl.out
            omega
          have HE4 := Lib.hid (((he4.resolve_left hc4).num hnd).later HM3.out.on.quota)
          clear hm4 he4 hc4 hnd
          go_wp2
          go_ret
          exact ⟨c4, d4, o4, _, rfl, HM4.out, .inr HE4.out, fun x hx => by rw [mget_mput, if_neg hx]⟩
      · obtain rfl : k = N := by omega
        go_wp2
        go_ret
        refine ⟨0, d3, o3, _, rfl, HM3.out, .inl ⟨rfl, ?_⟩, fun x hx => by rw [mget_mput, if_neg hx]⟩
        rw [List.take_of_length_le (by rw [HTL.out]; exact Nat.le_refl _), HB.out]
  · have hc2' : ¬ (c2 : Int) = 0 := by omega
    have HC2 := Lib.hid hc2
    rw [if_neg hc2] at hm2
    have HM2 := Lib.hid (HM1.out.trans hm2 (fun _ _ h => h.elim))
    clear hc2 hm2 hok2 he2 hcall
    go_wp2
    go_ret
    exact ⟨c2, d2, o2, _, rfl, HM2.out, .inr (.inr (HE2.out.resolve_left HC2.out)), fun x _ => rfl⟩
end

end Go.Proofs.YtolieljpnafbhaaGreatDoor
/-
  Runs, as plain data: files of edges beside the others, and what they come to.
-/
namespace Go.Proofs.YtolieljpnafbhaaGreatDoor
open Go.RowKit

abbrev Run := Name × List Edg

/-- Files of runs, laid beside the others. -/
def runsL (rs : List Run) (L : Logic) : Logic := rs.foldl (fun L p => mput L p.1 (edgeFile p.2 false)) L

theorem runsL_nil (L : Logic) : runsL [] L = L := rfl
theorem runsL_snoc (rs : List Run) (p : Run) (L : Logic) : runsL (rs ++ [p]) L = mput (runsL rs L) p.1 (edgeFile p.2 false) := by unfold runsL; rw [List.foldl_append]; rfl
theorem runsL_cons (rs : List Run) (p : Run) (L : Logic) : runsL (p :: rs) L = runsL rs (mput L p.1 (edgeFile p.2 false)) := rfl

theorem runsL_other (rs : List Run) : ∀ (L : Logic) (x : Name), x ∉ rs.map (·.1) → mget (runsL rs L) x = mget L x := by
  induction rs with
  | nil => intro L x _; rfl
  | cons p rs ih =>
    intro L x hx
    rw [List.map_cons, List.mem_cons, not_or] at hx
    rw [runsL_cons, ih _ _ hx.2, mget_mput, if_neg hx.1]

theorem runsL_get (rs : List Run) : ∀ (L : Logic), (rs.map (·.1)).Nodup → ∀ p ∈ rs, mget (runsL rs L) p.1 = some (edgeFile p.2 false) := by
  induction rs with
  | nil => intro L _ p hp; cases hp
  | cons q rs ih =>
    intro L hn p hp
    rw [List.map_cons, List.nodup_cons] at hn
    rw [runsL_cons]
    rcases List.mem_cons.1 hp with rfl | hp
    · rw [runsL_other _ _ _ hn.1, mget_mput, if_pos rfl]
    · exact ih _ hn.2 p hp

theorem runsL_keys (rs : List Run) : ∀ (L : Logic), (L.map (·.1)).Nodup → ((runsL rs L).map (·.1)).Nodup := by
  induction rs with
  | nil => intro L h; exact h
  | cons p rs ih => intro L h; exact ih _ (mput_keys h)

def lens (rs : List Run) : Nat := (rs.map (fun p => p.2.length)).sum

theorem need_mput_le (L : Logic) (k : Name) (f : LFile) : need (mput L k f) ≤ f.need + need L := by
  unfold mput
  rw [need_cons]
  have : need (mdel L k) ≤ need L := by
    induction L with
    | nil => exact Nat.le_refl _
    | cons q L ih =>
      unfold mdel at ih ⊢
      rw [List.filter_cons]
      split
      · rw [need_cons, need_cons]; omega
      · rw [need_cons]; omega
  dsimp only
  omega

theorem runsL_need (rs : List Run) : ∀ (L : Logic), need (runsL rs L) ≤ need L + 4 * lens rs := by
  induction rs with
  | nil => intro L; exact Nat.le_add_right _ _
  | cons p rs ih =>
    intro L
    rw [runsL_cons]
    have h1 := ih (mput L p.1 (edgeFile p.2 false))
    have h2 := need_mput_le L p.1 (edgeFile p.2 false)
    have h3 := edgeFile_need p.2 false
    have h4 : lens (p :: rs) = p.2.length + lens rs := by unfold lens; rw [List.map_cons, List.sum_cons]
    omega

theorem lens_append (a b : List Run) : lens (a ++ b) = lens a + lens b := by unfold lens; rw [List.map_append, List.sum_append]

/-- All edges of some runs. -/
def allOf (rs : List Run) : List Edg := (rs.map (·.2)).flatten

theorem allOf_append (a b : List Run) : allOf (a ++ b) = allOf a ++ allOf b := by unfold allOf; rw [List.map_append, List.flatten_append]
theorem allOf_length (rs : List Run) : (allOf rs).length = lens rs := by
  unfold allOf lens
  rw [List.length_flatten, List.map_map]
  rfl

theorem bestOf_length (b : Bool) (l : List Edg) : (bestOf b l).length ≤ l.length := by
  unfold bestOf
  refine Nat.le_trans (putL_length _) ?_
  rw [List.length_mergeSort]
  exact Nat.le_refl _

theorem bestOf_same (b : Bool) (l : List Edg) : bestOf b (bestOf b l) = bestOf b l := ((best_bestOf b l).trans (best_bestOf b (bestOf b l))).eq

theorem bestOf_congr {b : Bool} {l l' : List Edg} (h : ∀ x, x ∈ l ↔ x ∈ l') : bestOf b l = bestOf b l' := ((best_bestOf b l).congr h).eq

theorem bestOf_both (b : Bool) (l m : List Edg) : bestOf b (bestOf b l ++ bestOf b m) = bestOf b (l ++ m) := ((best_bestOf b l).both (best_bestOf b m) (best_bestOf b _)).eq

theorem bestOf_left (b : Bool) (l m : List Edg) : bestOf b (bestOf b l ++ m) = bestOf b (l ++ m) := by
  rw [← bestOf_both b l m, ← bestOf_both b (bestOf b l) m, bestOf_same]

theorem bestOf_right (b : Bool) (l m : List Edg) : bestOf b (l ++ bestOf b m) = bestOf b (l ++ m) := by
  rw [← bestOf_both b l m, ← bestOf_both b l (bestOf b m), bestOf_same]

theorem bestOf_lr {b : Bool} {l l' m m' : List Edg} (h1 : bestOf b l = bestOf b l') (h2 : bestOf b m = bestOf b m') : bestOf b (l ++ m) = bestOf b (l' ++ m') := by
  rw [← bestOf_both, h1, h2, bestOf_both]

theorem bestOf_swap (b : Bool) (l m : List Edg) : bestOf b (l ++ m) = bestOf b (m ++ l) := bestOf_congr fun x => by rw [List.mem_append, List.mem_append, or_comm]

/-- Runs of which each is in order, and which come to what some edges come to. -/
structure RunsOk (b : Bool) (es : List Edg) (rs : List Run) : Prop where
  each : ∀ p ∈ rs, bestOf b p.2 = p.2
  all : bestOf b (allOf rs) = bestOf b es
  len : lens rs ≤ es.length
  nodup : (rs.map (·.1)).Nodup

/-- Names of the sort's own, and the file that is made. -/
def ofSort (out x : Name) : Prop := x = out ∨ ∃ k, x = tName k

theorem nDigits_inj {a b : Nat} : Lib.decDigits a = Lib.decDigits b → a = b := by
  induction a using Nat.strongRecOn generalizing b with
  | _ a ih =>
    intro h
    rw [Lib.decDigits, Lib.decDigits.eq_1 b] at h
    by_cases ha : a < 10
    · by_cases hb : b < 10
      · rw [dif_pos ha, dif_pos hb] at h
        have h1 := List.cons.inj h
        have h2 := congrArg UInt8.toNat h1.1
        rw [UInt8.toNat_ofNat', UInt8.toNat_ofNat'] at h2
        omega
      · rw [dif_pos ha, dif_neg hb] at h
        have h1 := congrArg List.length h
        have h2 : 0 < (Lib.decDigits (b / 10)).length := by rw [Lib.decDigits_length]; exact Lib.nDigits_pos _
        simp at h1
        rw [h1] at h2
        simp at h2
    · by_cases hb : b < 10
      · rw [dif_neg ha, dif_pos hb] at h
        have h1 := congrArg List.length h
        have h2 : 0 < (Lib.decDigits (a / 10)).length := by rw [Lib.decDigits_length]; exact Lib.nDigits_pos _
        simp at h1
        rw [h1] at h2
        simp at h2
      · rw [dif_neg ha, dif_neg hb] at h
        have h1 := List.append_inj' h rfl
        have h3 := ih (a / 10) (by omega) h1.1
        have h2 := congrArg UInt8.toNat (List.cons.inj h1.2).1
        rw [UInt8.toNat_ofNat', UInt8.toNat_ofNat'] at h2
        omega

theorem tName_inj {a b : Nat} (h : tName a = tName b) : a = b := by
  unfold tName at h
  have h1 := congrArg (fun x : ByteArray => x.data.toList) h
  simp only [List.cons_append, List.nil_append, List.cons.injEq, true_and] at h1
  exact nDigits_inj h1

theorem decDigits_ok {k : Nat} (h : k < 100) : (Lib.decDigits k).all okByte = true ∧ (Lib.decDigits k).length ≤ 2 := by
  have hb : ∀ j, j < 10 → okByte (UInt8.ofNat (48 + j)) = true := by decide
  by_cases h1 : k < 10
  · rw [Lib.decDigits_one h1]
    exact ⟨by simp only [List.all_cons, List.all_nil, Bool.and_true]; exact hb k h1, by simp⟩
  · rw [Lib.decDigits_two h1 h]
    exact ⟨by simp only [List.all_cons, List.all_nil, Bool.and_true, hb (k / 10) (by omega), hb (k % 10) (by omega)], by simp⟩

theorem tName_ok {k : Nat} (h : k < 100) : okName (tName k) = true := by
  obtain ⟨h1, h2⟩ := decDigits_ok h
  unfold okName tName
  have hs : (ByteArray.mk ([116, 46] ++ Lib.decDigits k).toArray).size = 2 + (Lib.decDigits k).length := by
    show Array.size _ = _
    simp
    omega
  rw [hs]
  simp only [List.cons_append, List.nil_append, List.all_cons, h1, Bool.and_eq_true, decide_eq_true_eq]
  refine ⟨⟨⟨by decide, by decide, trivial⟩, by omega⟩, by omega⟩

end Go.Proofs.YtolieljpnafbhaaGreatDoor
/-
  append at a row of the call's own, beside a pool.
-/
namespace Go.Proofs.YtolieljpnafbhaaGreatDoor
open Go.RowKit Go.Maps

/-- What an append leaves beside its own row. -/
def Appd (v : Value) (w w' : World) (v' : Value) : Prop := w.grownBy w' v.ownBlock ∧ (v'.ownBlock = v.ownBlock ∨ v'.ownBlock = some w.heap.size)

theorem wpList_append_at {P : Program} {w : World} {ops : Array Oper} {rest : List Oper} {op : Oper} {a : Act} {Q : Exit → Act → World → Prop} (hgd : op.guard = none) (s x : Operand) (t : TypeId)
    (ho : op.op = .call { callee := .builtin .append, args := #[s, x], argTypes := #[t, t] })
    (base : Nat) (e : TypeId) (z : Value) (size bytes : Nat) (ht : P.underlying t = some (.slice e)) (hi : (P.info? e).map (fun i => (i.zero, i.size, i.bytes)) = some (some z, size, bytes)) (hzs : z.cells.size = size) (hsz : 0 < size)
    (v : Value) (n : Nat) (xs : List Value) (hs : a.eval s = v) (hown : w.ownsRow base e size v n xs)
    (ad : Addr) (m c : Nat) (news : List Value) (hx : a.eval x = .slice (some ad) m c) (hl : news.length = m * size) (hnews : ∀ j u, news[j]? = some u → w.cell? (ad.add j) = some u) (h1 : ∀ u ∈ news, u.oneCell' = true)
    (h63 : n + m ≤ maxLen) (hbytes : (n + m) * bytes ≤ 140737488355328) (hbase : base ≤ w.heap.size)
    (k : ∀ v' w', w'.ownsRow base e size v' (n + m) (xs ++ news) → Appd v w w' v' → wpList P ops Q rest (a.put op.dst v') w') : wpList P ops Q (op :: rest) a w := by
  obtain ⟨i0, hi0, hz0, hz1, hz2⟩ := info_parts hi
  refine wpList_plain hgd fun K hK => ?_
  obtain ⟨v', w', g1, g2, g3, g4, g5⟩ := run_append_own_at (P := P) w base t op.type e i0 z size bytes ht hi0 hz0 hz1 hz2 hzs hsz v n xs hown ad m c news hl hnews h1 h63 hbytes hbase
  unfold Oper.wp execOp
  simp only [ho, resolve, invoke, builtin, Sem.run_bind, Sem.run_pure, Result.andThen_ok, List.map_toArray, List.map_cons, List.map_nil, hs, hx, g1]
  exact hK _ _ (k v' w' g2 ⟨g3, g5⟩)

section
variable {w : World} {ops : Array Oper} {rest : List Oper} {op : Oper} {a : Act} {Q : Exit → Act → World → Prop}

/-- append(l, e), e laid in a block of its own just before. -/
theorem wpList_append_edge (hgd : op.guard = none) (s x : Operand) (ho : op.op = .call { callee := .builtin .append, args := #[s, x], argTypes := #[40, 40] }) (base : Nat) (v : Value) (l : List Edg) (hs : a.eval s = v) (hown : ownsEdges w base v l)
    (y : Edg) (c : Nat) (hx : a.eval x = .slice (some ⟨w.heap.size, 0, none⟩) 1 c) (hl : l.length ≤ 100000) (hbase : base ≤ w.heap.size)
    (k : ∀ v' w', ownsEdges w' base v' (l ++ [y]) → Appd v (w.alloc (.cells #[.int .u32 (y.t.toNat : Int), .int .u32 (y.h.toNat : Int), .int .u64 (y.x.toNat : Int), .int .u32 (y.m.toNat : Int)] 47)) w' v' → wpList Tryz.prog ops Q rest (a.put op.dst v') w') :
    wpList Tryz.prog ops Q (op :: rest) a (w.alloc (.cells #[.int .u32 (y.t.toNat : Int), .int .u32 (y.h.toNat : Int), .int .u64 (y.x.toNat : Int), .int .u32 (y.m.toNat : Int)] 47)) := by
  refine wpList_append_at hgd s x 40 ho base 47 _ 4 24 Tryz.underlying40 info_edge rfl (by decide) v l.length (edgRow l) hs (World.ownsRow.alloc hown _) ⟨w.heap.size, 0, none⟩ 1 c y.cells hx rfl (fun j u hj => ?_) (by simp [Value.oneCell']) (by unfold maxLen; omega) (by omega) (by simp; omega) (fun v' w' h1 h2 => k v' w' ?_ h2)
  · rw [Addr_add, Nat.zero_add]
    match j, hj with
    | 0, hj => cases hj; simp
    | 1, hj => cases hj; simp
    | 2, hj => cases hj; simp
    | 3, hj => cases hj; simp
    | j + 4, hj => cases hj
  · unfold ownsEdges
    rw [edgRow_append, List.length_append]
    exact h1

/-- append(names, x), x laid in a block of its own just before. -/
theorem wpList_append_str (hgd : op.guard = none) (s x : Operand) (ho : op.op = .call { callee := .builtin .append, args := #[s, x], argTypes := #[63, 63] }) (base : Nat) (v : Value) (l : List Name) (hs : a.eval s = v) (hown : w.ownsRow base 9 1 v l.length (l.map Value.string))
    (y : Name) (c : Nat) (hx : a.eval x = .slice (some ⟨w.heap.size, 0, none⟩) 1 c) (hl : l.length ≤ 100000) (hbase : base ≤ w.heap.size)
    (k : ∀ v' w', w'.ownsRow base 9 1 v' (l ++ [y]).length ((l ++ [y]).map Value.string) → Appd v (w.alloc (.cells #[.string y] 9)) w' v' → wpList Tryz.prog ops Q rest (a.put op.dst v') w') :
    wpList Tryz.prog ops Q (op :: rest) a (w.alloc (.cells #[.string y] 9)) := by
  refine wpList_append_at hgd s x 63 ho base 9 _ 1 16 Tryz.underlying63 info_string rfl (by decide) v l.length (l.map Value.string) hs (World.ownsRow.alloc hown _) ⟨w.heap.size, 0, none⟩ 1 c [.string y] hx rfl (fun j u hj => ?_) (by simp [Value.oneCell']) (by unfold maxLen; omega) (by omega) (by simp; omega) (fun v' w' h1 h2 => k v' w' ?_ h2)
  · rw [Addr_add, Nat.zero_add]
    match j, hj with
    | 0, hj => cases hj; simp
    | j + 1, hj => cases hj
  · rw [List.map_append, List.length_append]
    exact h1
end

section
variable {S : Nat → Prop} {n pb db : Nat} {w W w' : World} {o o' : Owner} {d d' : Dsk} {L' : Logic} {v v' : Value}

/-- What stands behind an append whose news were laid in a block just before. -/
theorem Appd.moved {ob : Obj} (ha : Appd v (W.alloc ob) w' v') (hm : Moved S n pb db w o d W o' d' L') (hv : ∀ x, v.ownBlock = some x → o' x = none ∧ w.heap.size ≤ x) :
    Moved S n pb db w o d w' o' d' L' ∧ (∀ x, v'.ownBlock = some x → o' x = none ∧ w.heap.size ≤ x) ∧ (∀ x, x < W.heap.size → v.ownBlock ≠ some x → w'.heap[x]? = W.heap[x]?) ∧ W.heap.size ≤ w'.heap.size := by
  obtain ⟨hg, hb⟩ := ha
  have hs : W.heap.size < (W.alloc ob).heap.size := by simp
  refine ⟨(hm.alloc ob).grown hg (fun k hk => ⟨(hv k hk).1, .inr (hv k hk).2⟩), fun x hx => ?_, fun x hx hne => ?_, Nat.le_trans (Nat.le_of_lt hs) hg.size⟩
  · rcases hb with e | e
    · rw [e] at hx; exact hv x hx
    · rw [e] at hx
      cases hx
      exact ⟨hm.pool.fresh (Nat.le_of_lt hs), Nat.le_trans hm.size (Nat.le_of_lt hs)⟩
  · exact (hg.block x (Nat.lt_trans hx hs) (fun e => hne e.symm)).trans ((MapKept.heap_alloc W ob).2 x hx)

theorem ownsRow_heap {base : Nat} {e : TypeId} {size : Nat} {k : Nat} {xs : List Value} (hr : W.ownsRow base e size v k xs) (hb : ∀ x, v.ownBlock = some x → w'.heap[x]? = W.heap[x]?) : w'.ownsRow base e size v k xs := by
  obtain ⟨hl, hr⟩ := hr
  refine ⟨hl, ?_⟩
  rcases hr with hr | ⟨g, cap, cur, hv, hg, hh, r⟩
  · exact .inl hr
  · exact .inr ⟨g, cap, cur, hv, hg, (hb g (by rw [hv]; rfl)).trans hh, r⟩

/-- Rows of different kinds do not share a block. -/
theorem ownsRow_apart {base base' : Nat} {e e' : TypeId} {size size' k k' : Nat} {xs xs' : List Value} (h : W.ownsRow base e size v k xs) (h' : W.ownsRow base' e' size' v' k' xs') (hne : e ≠ e') : ∀ x, v.ownBlock = some x → v'.ownBlock ≠ some x := by
  intro x hx hx'
  obtain ⟨_, ⟨h1, _⟩ | ⟨g, cap, cur, h1, _, h2, _⟩⟩ := h
  · rw [h1] at hx; cases hx
  · obtain ⟨_, ⟨g1, _⟩ | ⟨g', cap', cur', g1, _, g2, _⟩⟩ := h'
    · rw [g1] at hx'; cases hx'
    · rw [h1] at hx
      rw [g1] at hx'
      cases hx
      cases hx'
      rw [h2] at g2
      have := Option.some.inj g2
      injection this with a b
      exact hne b
end

end Go.Proofs.YtolieljpnafbhaaGreatDoor
