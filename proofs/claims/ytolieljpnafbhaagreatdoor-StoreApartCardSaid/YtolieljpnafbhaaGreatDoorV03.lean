/-
  Joined, in build order, what is needed of: Disk2, Disk3, Disk4, Disk5, Disk6, QMid, QFloat.
-/
import Derived.Test.YtolieljpnafbhaaGreatDoorV02
import Derived.Laws.CopyOwn
import Derived.Orders
namespace Go.Proofs.YtolieljpnafbhaaGreatDoor
open Go.RowKit Go.Maps Go.MapKept
open Go.ChangeMaps (setBlock heap_setBlock_same heap_setBlock_other)
def DiskPost (w : World) (db : Nat) (o : Owner) (d' : Dsk) (w' : World) : Prop :=
 ∃ o', DiskAt w' db o' d' ∧ Turn (o.In ofDisk) w w' ∧ OGrow w.heap.size o o'
theorem DiskPost.of {w w' : World} {db : Nat} {o : Owner} {d' : Dsk} (h : DiskAt w' db o d') (ht : Turn (o.In ofDisk) w w') : DiskPost w db o d' w' := ⟨o, h, ht, OGrow.refl _ _⟩
theorem find_cases {w : World} {db mf ml : Nat} {o : Owner} {l : List (Name × (Nat × DFile))} {d : Dsk} (h : DiskIn w db o mf ml l d) (name : Name) (fine : Bool) :
 ((okName name && fine) = false ∧ findOf l name fine = (.pointer none, 1)) ∨
 ((okName name && fine) = true ∧ mget d.files name = none ∧ mget l name = none ∧ findOf l name fine = (.pointer none, 3)) ∨
 ∃ pf f, (okName name && fine) = true ∧ mget d.files name = some f ∧ mget l name = some (pf, f) ∧ findOf l name fine = (.pointer (some ⟨pf, 0, none⟩), 0) := by
 have hg : mget d.files name = (mget l name).map (·.2) := by rw [← h.strip]; exact strip_get
 unfold findOf
 cases hok : (okName name && fine) with
 | false => exact .inl ⟨rfl, rfl⟩
 | true =>
   cases hm : mget l name with
   | none => exact .inr (.inl ⟨rfl, by rw [hg, hm]; rfl, rfl, rfl⟩)
   | some x => exact .inr (.inr ⟨x.1, x.2, rfl, by rw [hg, hm]; rfl, rfl, rfl⟩)
theorem DiskIn.get {w : World} {db mf ml : Nat} {o : Owner} {l : List (Name × (Nat × DFile))} {d : Dsk} (h : DiskIn w db o mf ml l d) {name : Name} {pf : Nat} {f : DFile} (hg : mget l name = some (pf, f)) : mget d.files name = some f := by
 have e : mget (bare l) name = (mget l name).map (·.2) := strip_get
 rw [← h.strip, show l.map (fun p => (p.1, p.2.2)) = bare l from rfl, e, hg]
 rfl
theorem DiskIn.fileKeys {w : World} {db mf ml : Nat} {o : Owner} {l : List (Name × (Nat × DFile))} {d : Dsk} (h : DiskIn w db o mf ml l d) : (d.files.map (·.1)).Nodup := by
 rw [← h.strip, List.map_map]
 exact h.files.keys
theorem DiskIn.in_ml {w : World} {db mf ml : Nat} {o : Owner} {l : List (Name × (Nat × DFile))} {d : Dsk} (h : DiskIn w db o mf ml l d) : o.In ofDisk ml := ⟨_, h.oml, by show 2 < 6; decide⟩
namespace Dsk
def create (d : Dsk) (name : Name) : Dsk × Nat :=
 if d.tick.dead then (d.tick, 6) else if okName name = false then (d.tick, 1) else if (mget d.files name).isSome then (d.tick, 4) else ({ d.tick with files := mput d.files name ⟨[], []⟩ }, 0)
theorem tick_files (d : Dsk) : d.tick.files = d.files := by unfold tick; split <;> rfl
theorem tick_loose (d : Dsk) : d.tick.loose = d.loose := by unfold tick; split <;> rfl
theorem tick_quota (d : Dsk) : d.tick.quota = d.quota := by unfold tick; split <;> rfl
end Dsk
theorem DiskIn.newFile {w w1 : World} {db mf ml : Nat} {o : Owner} {l : List (Name × (Nat × DFile))} {d : Dsk} (h : DiskIn w db o mf ml l d) (name : Name) {t : TypeId} {ob : Obj}
 (hw : w1 = setBlock (w.alloc (.cells #[.slice none 0 0, .slice none 0 0] t)) mf ob) (hf : FileMap w1 mf (mput l name (w.heap.size, ⟨[], []⟩))) :
 DiskIn w1 db (o.set w.heap.size (3, 0)) mf ml (mput l name (w.heap.size, ⟨[], []⟩)) { d with files := mput d.files name ⟨[], []⟩ } := by
 have ht : Turn (· = mf) w w1 := by
  rw [hw]
  exact ((Turn.refl (· = mf) w).alloc _).setBlock _ _ (.inl rfl)
 have hmf : mf < w.heap.size := h.files.lt
 have hN : ∀ x, o x = none ∨ x < w.heap.size := fun x => by
  cases hx : o x with
  | none => exact .inl rfl
  | some t => exact .inr (h.owned x t hx)
 have ho : ∀ x t, o x = some t → (o.set w.heap.size (3, 0)) x = some t := fun x t hx => by
  rw [Owner.set_other _ _ (by have := h.owned x t hx; omega)]
  exact hx
 have hsz : w.heap.size < w1.heap.size := by
  rw [hw]
  simp [setBlock]
 have e1 : mput d.files name ⟨[], []⟩ = (mput l name (w.heap.size, ⟨[], []⟩)).map (fun p => (p.1, p.2.2)) := by
  rw [← h.strip]
  exact (strip_put (x := (w.heap.size, (⟨[], []⟩ : DFile)))).symm
 rw [e1]
 refine h.reFiles ht (fun x hx => .inl hx) ho hf ?_ ?_ ?_ (by rw [← e1, usedOf_put]; have := usedOf_del_le d.files name; have := h.ok.used; simp [sect]; omega)
 ·unfold mput
  rw [List.map_cons, List.nodup_cons]
  refine ⟨fun hm => ?_, pf_del h.apart⟩
  obtain ⟨q, hq, e⟩ := List.mem_map.1 hm
  have := h.owned _ _ (h.each q (mem_mdel.1 hq).1).own
  dsimp only at e
  omega
 ·intro p hp
  rcases List.mem_cons.1 hp with rfl | hp
  ·refine ⟨by simp, ⟨t, .slice none 0 0, .slice none 0 0, ?_, ownsRow_nil _ _ _, fun b hb => by simp [Value.ownBlock] at hb, ownsRow_nil _ _ _, fun b hb => by simp [Value.ownBlock] at hb⟩, by simp⟩
   show w1.heap[w.heap.size]? = _
   rw [hw, heap_setBlock_none _ (by omega)]
   exact heap_alloc_new _ _
  ·have hp' := (mem_mdel.1 hp).1
   exact (h.each p hp').kept ht (fun x t hx h3 _ => Owner.ne hx h.omf (fun e => by rw [e] at h3; exact absurd h3 (by decide))) ho
 ·intro x t hx
  by_cases e : x = w.heap.size
  ·rw [e]
   exact hsz
  ·rw [Owner.set_other _ _ e] at hx
   have := h.owned x t hx
   omega
set_option maxRecDepth 100000 in
set_option maxHeartbeats 2000000 in
theorem create_any {w : World} {db : Nat} {o : Owner} {d : Dsk} (h : DiskAt w db o d) (name : Name) (hs : name.size ≤ 1000) :
 Calls Tryz.prog 123 #[ptrTo db, .string name] w fun e w' => e = .returned (.int .i64 ((d.create name).2 : Int)) ∧ DiskPost w db o (d.create name).1 w' := by
 have H := Lib.hid h
 clear h
 unfold ptrTo
 cases hd : d.tick.dead with
 | true =>
   have e1 : d.create name = (d.tick, 6) := by unfold Dsk.create; rw [hd]; rfl
   have e2 : d.tick.err = 6 := by unfold Dsk.err; rw [hd]; rfl
   have E2 := Lib.hid e2
   rw [e1]
   clear hd e1 e2
   go_enter Tryz.func123, Tryz.ntmps123
   go_wp2_with fail
   refine (begin_any H.out).mono ?_
   rintro e w1 ⟨rfl, hd1, ht1⟩
   rw [E2.out]
   go_wp2
   go_ret
   exact ⟨rfl, .of hd1 ht1⟩
 | false =>
   have e2 : d.tick.err = 0 := by unfold Dsk.err; rw [hd]; rfl
   have E2 := Lib.hid e2
   have HDD := Lib.hid hd
   clear hd e2
   go_enter Tryz.func123, Tryz.ntmps123
   go_wp2_with fail
   refine (begin_any H.out).mono ?_
   rintro e w1 ⟨rfl, ⟨mf, ml, l, hd1⟩, ht1⟩
   rw [E2.out]
   have HD1 := Lib.hid hd1
   have HT1 := Lib.hid ht1
   have hfc := find_cases hd1 name true
   rw [Dsk.tick_files] at hfc
   clear hd1 ht1
   go_wp2_with fail
   refine (find_any HD1.out name true hs).mono ?_
   rintro e w2 ⟨rfl, hb2⟩
   have HD2 := Lib.hid (HD1.out.below hb2)
   have HT2 := Lib.hid (HT1.out.thenBelow hb2)
   clear hb2
   rcases hfc with ⟨q1, q2⟩ | ⟨q1, q2, q3, q4⟩ | ⟨pf, f, q1, q2, q3, q4⟩
   ·have e1 : d.create name = (d.tick, 1) := by
     unfold Dsk.create
     rw [HDD.out]
     rw [Bool.and_true] at q1
     rw [q1]
     rfl
    rw [q2]
    have E1 := Lib.hid e1
    clear e1 q2 q1
    go_wp2
    go_ret
    rw [E1.out]
    exact ⟨rfl, .of ⟨_, _, _, HD2.out⟩ HT2.out⟩
   ·have e1 : d.create name = ({ d.tick with files := mput d.files name ⟨[], []⟩ }, 0) := by
     unfold Dsk.create
     rw [HDD.out]
     rw [Bool.and_true] at q1
     rw [q1, q2]
     rfl
    rw [q4]
    have E1 := Lib.hid e1
    have hg := good_string (s := name) (by unfold maxLen; omega)
    clear e1 q4 q3 q2 q1
    obtain ⟨⟨hc0, hc1, hc2, hc3, hc4⟩, hf2, hf3, hf4⟩ := HD2.out.head.cells
    clear hc1 hc2 hc3 hc4 hf2 hf3 hf4
    have hfm : Hid (FileMap (w2.alloc (.cells #[.slice none 0 0, .slice none 0 0] 156)) mf l) := Lib.hid (HD2.out.files.kept ((MapKept.heap_alloc _ _).2 _ HD2.out.files.lt))
    go_wp2_with (at_mapUpdate; refine wpList_put _ rfl _ _ _ _ rfl 157 keyed_string string_inj Tryz.underlying137 mf l rfl hfm.out name (w2.heap.size, ⟨[], []⟩) rfl rfl hg ?_; intro es clock hm; have HM := Lib.hid hm; clear hm)
    go_ret
    rw [E1.out]
    have hN := HD2.out.newFile name rfl HM.out
    rw [Dsk.tick_files] at hN
    exact ⟨rfl, _, ⟨_, _, _, hN⟩, (HT2.out.alloc _).setBlock _ _ (.inl ⟨_, HD2.out.omf, by show 1 < 6; decide⟩), (OGrow.refl _ _).set HT2.out.size _⟩
   ·have e1 : d.create name = (d.tick, 4) := by
     unfold Dsk.create
     rw [HDD.out]
     rw [Bool.and_true] at q1
     rw [q1, q2]
     rfl
    rw [q4]
    have E1 := Lib.hid e1
    clear e1 q4 q3 q2 q1
    go_wp2
    go_ret
    rw [E1.out]
    exact ⟨rfl, .of ⟨_, _, _, HD2.out⟩ HT2.out⟩
namespace Dsk
def remove (d : Dsk) (name : Name) : Dsk × Nat :=
 if d.tick.dead then (d.tick, 6) else if okName name = false then (d.tick, 1) else match mget d.files name with
  | none => (d.tick, 3)
  | some _ => ({ d.tick with files := mdel d.files name, loose := d.loose.filter (fun p => decide (p.1.1 ≠ name)) }, 0)
def sync (d : Dsk) (name : Name) : Dsk × Nat :=
 if d.tick.dead then (d.tick, 6) else if okName name = false then (d.tick, 1) else match mget d.files name with
  | none => (d.tick, 3)
  | some f => ({ d.tick with files := mput d.files name ⟨f.now, f.now⟩, loose := d.loose.filter (fun p => decide (p.1.1 ≠ name)) }, 0)
end Dsk
theorem DiskIn.dropFile {w w1 : World} {db mf ml : Nat} {o : Owner} {l : List (Name × (Nat × DFile))} {d : Dsk} (h : DiskIn w db o mf ml l d) (name : Name) {ob : Obj}
 (hw : w1 = setBlock w mf ob) (hf : FileMap w1 mf (mdel l name)) : DiskIn w1 db o mf ml (mdel l name) { d with files := mdel d.files name } := by
 have ht : Turn (· = mf) w w1 := by
  rw [hw]
  exact (Turn.refl (· = mf) w).setBlock _ _ (.inl rfl)
 have e1 : mdel d.files name = (mdel l name).map (fun p => (p.1, p.2.2)) := by
  rw [← h.strip]
  exact strip_del.symm
 rw [e1]
 refine h.reFiles ht (fun x hx => .inl hx) (fun _ _ h => h) hf (pf_del h.apart) ?_ (fun x t hx => Nat.lt_of_lt_of_le (h.owned x t hx) ht.size) (by rw [← e1]; exact Nat.le_trans (usedOf_del_le _ _) h.ok.used)
 intro p hp
 exact (h.each p (mem_mdel.1 hp).1).kept ht (fun x t hx h3 _ => Owner.ne hx h.omf (fun e => by rw [e] at h3; exact absurd h3 (by decide))) (fun _ _ h => h)
set_option maxRecDepth 100000 in
set_option maxHeartbeats 2000000 in
theorem remove_any {w : World} {db : Nat} {o : Owner} {d : Dsk} (h : DiskAt w db o d) (name : Name) (hs : name.size ≤ 1000) :
 Calls Tryz.prog 105 #[ptrTo db, .string name] w fun e w' => e = .returned (.int .i64 ((d.remove name).2 : Int)) ∧ DiskPost w db o (d.remove name).1 w' := by
 have H := Lib.hid h
 clear h
 unfold ptrTo
 cases hd : d.tick.dead with
 | true =>
   have e1 : d.remove name = (d.tick, 6) := by unfold Dsk.remove; rw [hd]; rfl
   have e2 : d.tick.err = 6 := by unfold Dsk.err; rw [hd]; rfl
   have E2 := Lib.hid e2
   rw [e1]
   clear hd e1 e2
   go_enter Tryz.func105, Tryz.ntmps105
   go_wp2_with fail
   refine (begin_any H.out).mono ?_
   rintro e w1 ⟨rfl, hd1, ht1⟩
   rw [E2.out]
   go_wp2
   go_ret
   exact ⟨rfl, .of hd1 ht1⟩
 | false =>
   have e2 : d.tick.err = 0 := by unfold Dsk.err; rw [hd]; rfl
   have E2 := Lib.hid e2
   have HDD := Lib.hid hd
   clear hd e2
   go_enter Tryz.func105, Tryz.ntmps105
   go_wp2_with fail
   refine (begin_any H.out).mono ?_
   rintro e w1 ⟨rfl, ⟨mf, ml, l, hd1⟩, ht1⟩
   rw [E2.out]
   have HD1 := Lib.hid hd1
   have HT1 := Lib.hid ht1
   have hfc := find_cases hd1 name true
   rw [Dsk.tick_files] at hfc
   clear hd1 ht1
   go_wp2_with fail
   refine (find_any HD1.out name true hs).mono ?_
   rintro e w2 ⟨rfl, hb2⟩
   have HD2 := Lib.hid (HD1.out.below hb2)
   have HT2 := Lib.hid (HT1.out.thenBelow hb2)
   clear hb2
   rcases hfc with ⟨q1, q2⟩ | ⟨q1, q2, q3, q4⟩ | ⟨pf, f, q1, q2, q3, q4⟩
   ·have e1 : d.remove name = (d.tick, 1) := by
     unfold Dsk.remove
     rw [HDD.out]
     rw [Bool.and_true] at q1
     rw [q1]
     rfl
    rw [q2]
    have E1 := Lib.hid e1
    clear e1 q2 q1
    go_wp2
    go_ret
    rw [E1.out]
    exact ⟨rfl, .of ⟨_, _, _, HD2.out⟩ HT2.out⟩
   ·have e1 : d.remove name = (d.tick, 3) := by
     unfold Dsk.remove
     rw [HDD.out]
     rw [Bool.and_true] at q1
     rw [q1, q2]
     rfl
    rw [q4]
    have E1 := Lib.hid e1
    clear e1 q4 q3 q2 q1
    go_wp2
    go_ret
    rw [E1.out]
    exact ⟨rfl, .of ⟨_, _, _, HD2.out⟩ HT2.out⟩
   ·have e1 : d.remove name = ({ d.tick with files := mdel d.files name, loose := d.loose.filter (fun p => decide (p.1.1 ≠ name)) }, 0) := by
     unfold Dsk.remove
     rw [HDD.out]
     rw [Bool.and_true] at q1
     rw [q1, q2]
     rfl
    rw [q4]
    have E1 := Lib.hid e1
    have hg := good_string (s := name) (by unfold maxLen; omega)
    clear e1 q4 q3 q2 q1
    obtain ⟨⟨hc0, hc1, hc2, hc3, hc4⟩, hf2, hf3, hf4⟩ := HD2.out.head.cells
    clear hc1 hc2 hc3 hc4 hf2 hf3 hf4
    go_wp2_with (at_delete; refine wpList_del _ rfl _ _ _ rfl 157 keyed_string string_inj Tryz.underlying137 mf l rfl HD2.out.files name rfl hg ?_; intro es clock hm; have HM := Lib.hid hm; clear hm)
    have HD3 := Lib.hid (HD2.out.dropFile name rfl HM.out)
    have HT3 := Lib.hid (HT2.out.setBlock mf (.map es clock) (.inl ⟨_, HD2.out.omf, by show 1 < 6; decide⟩))
    clear HM hc0
    refine (settle_all HD3.out name).mono ?_
    rintro e w4 ⟨rfl, hd4, ht4⟩
    have HD4 := Lib.hid hd4
    have HT4 := Lib.hid (HT3.out.trans ht4 (fun x _ e => e ▸ HD3.out.in_ml))
    clear hd4 ht4
    go_wp2
    go_ret
    rw [E1.out]
    have hN := HD4.out
    unfold Dsk.settle at hN
    dsimp only at hN
    rw [Dsk.tick_files, Dsk.tick_loose] at hN
    exact ⟨rfl, .of ⟨_, _, _, hN⟩ HT4.out⟩
def OfFile (o : Owner) (pf x : Nat) : Prop := x = pf ∨ o x = some (4, pf) ∨ o x = some (5, pf)
theorem OfFile.in {o : Owner} {pf x : Nat} (h : OfFile o pf x) (hp : o pf = some (3, 0)) : o.In ofDisk x := by
 rcases h with rfl | h | h
 ·exact ⟨_, hp, by show 3 < 6; decide⟩
 ·exact ⟨_, h, by show 4 < 6; decide⟩
 ·exact ⟨_, h, by show 5 < 6; decide⟩
theorem DiskIn.reFile {w w' : World} {db mf ml : Nat} {o o' : Owner} {l : List (Name × (Nat × DFile))} {d : Dsk} (h : DiskIn w db o mf ml l d) {name : Name} {pf : Nat} {f f' : DFile} (hg : mget l name = some (pf, f))
 (ht : Turn (OfFile o pf) w w') (ho : ∀ x t, o x = some t → o' x = some t) (hf : FileAt w' o' pf f') (howned : ∀ x t, o' x = some t → x < w'.heap.size) (hused : usedOf (mput d.files name f') ≤ 1048576) :
 DiskIn w' db o' mf ml (mput l name (pf, f')) { d with files := mput d.files name f' } := by
 have hown := (h.each _ (mget_mem hg)).own
 have e1 : mput d.files name f' = (mput l name (pf, f')).map (fun p => (p.1, p.2.2)) := by
  rw [← h.strip]
  exact (strip_put (x := (pf, f'))).symm
 rw [e1]
 have hmf : ¬ OfFile o pf mf := by
  rintro (e | e | e)
  ·exact Owner.ne h.omf hown (by decide) e
  ·rw [h.omf] at e; cases e
  ·rw [h.omf] at e; cases e
 refine h.reFiles ht (fun x hx => .inr ?_) ho ?_ (pf_put h.apart hg f') ?_ howned (by rw [← e1]; exact hused)
 ·rcases hx with rfl | hx | hx
  ·exact ⟨_, hown, by decide⟩
  ·exact ⟨_, hx, by show 3 ≤ 4; decide⟩
  ·exact ⟨_, hx, by show 3 ≤ 5; decide⟩
 ·have h1 : FileMap w mf (mput l name (pf, f)) := h.files.perm (mput_same h.files.keys hg).symm
  exact (h1.reval (m' := mput l name (pf, f')) rfl).turn ht hmf
 ·intro p hp
  rcases List.mem_cons.1 hp with rfl | hp
  ·exact hf
  ·obtain ⟨hp', hne⟩ := mem_mdel.1 hp
   have hpf : p.2.1 ≠ pf := fun e => hne (by rw [pf_inj h.apart hp' (mget_mem hg) e])
   have hpo := (h.each p hp').own
   refine (h.each p hp').kept' ht ?_ ?_ ?_ ho
   ·rintro (e | e | e)
    ·exact hpf e
    ·rw [hpo] at e; cases e
    ·rw [hpo] at e; cases e
   ·rintro x hx (e | e | e)
    ·rw [e, hown] at hx; cases hx
    ·rw [hx] at e; cases e; exact hpf rfl
    ·rw [hx] at e; cases e
   ·rintro x hx (e | e | e)
    ·rw [e, hown] at hx; cases hx
    ·rw [hx] at e; cases e
    ·rw [hx] at e; cases e; exact hpf rfl
theorem FileAt.cells {w : World} {o : Owner} {pf : Nat} {f : DFile} (h : FileAt w o pf f) : ∃ v u, (w.cell? ⟨pf, 0, none⟩ = some v ∧ w.cell? ⟨pf, 1, none⟩ = some u) ∧ (w.frozen? ⟨pf, 0, none⟩ = false ∧ w.frozen? ⟨pf, 1, none⟩ = false) ∧
 w.ownsRow 0 5 1 v f.now.length (f.now.map bv) ∧ (∀ b, v.ownBlock = some b → o b = some (4, pf)) ∧ w.ownsRow 0 5 1 u f.lasts.length (f.lasts.map bv) ∧ ∀ b, u.ownBlock = some b → o b = some (5, pf) := by
 obtain ⟨_, ⟨t, v, u, h2, h3⟩, _⟩ := h
 exact ⟨v, u, ⟨by rw [cells_cell h2]; rfl, by rw [cells_cell h2]; rfl⟩, ⟨cells_frozen h2 _, cells_frozen h2 _⟩, h3⟩
theorem ownsRow_slice {w : World} {base : Nat} {e : TypeId} {size : Nat} {v : Value} {n : Nat} {xs : List Value} (h : w.ownsRow base e size v n xs) : ∃ a cap, v = .slice a n cap := by
 obtain ⟨_, h⟩ := h
 rcases h with ⟨rfl, rfl⟩ | ⟨g, cap, cur, rfl, _⟩
 ·exact ⟨none, 0, rfl⟩
 ·exact ⟨_, cap, rfl⟩
theorem fresh_none {o : Owner} {n b : Nat} (ho : ∀ x t, o x = some t → x < n) (hb : n ≤ b) : o b = none := by
 cases h : o b with
 | none => rfl
 | some t => have := ho b t h; omega
theorem ownBlock_old {w : World} {base : Nat} {e : TypeId} {size : Nat} {v : Value} {n : Nat} {xs : List Value} (h : w.ownsRow base e size v n xs) : ∀ b, v.ownBlock = some b → b < w.heap.size ∧ base ≤ b := by
 rintro b hb
 obtain ⟨_, h⟩ := h
 rcases h with ⟨rfl, _⟩ | ⟨g, cap, cur, rfl, hg, hh, _⟩
 ·cases hb
 ·cases hb
  exact ⟨(Array.getElem?_eq_some_iff.1 hh).1, hg⟩
def Owner.put (o : Owner) (v : Value) (t : Tag) : Owner := match v.ownBlock with | some b => o.set b t | none => o
theorem Owner.put_at {o : Owner} {v : Value} {t : Tag} {b : Nat} (h : v.ownBlock = some b) : (o.put v t) b = some t := by
 unfold Owner.put
 rw [h]
 simp
theorem Owner.put_grow {o : Owner} {v : Value} {t : Tag} {n : Nat} (h : ∀ b, v.ownBlock = some b → n ≤ b) : OGrow n o (o.put v t) := by
 intro x hx
 unfold Owner.put
 cases hv : v.ownBlock with
 | none => rfl
 | some b => exact Owner.set_other _ _ (by have := h b hv; omega)
theorem Owner.put_keep {o : Owner} {v : Value} {s : Tag} (hb : ∀ b, v.ownBlock = some b → o b = none) : ∀ x r, o x = some r → (o.put v s) x = some r := fun x r hx => by
 unfold Owner.put
 cases e : v.ownBlock with
 | none => exact hx
 | some b =>
   dsimp only
   rw [Owner.set_other _ _ (fun e2 => by rw [e2, hb b e] at hx; cases hx)]
   exact hx
theorem Owner.put_owned {o : Owner} {v : Value} {t : Tag} {n : Nat} (ho : ∀ x t, o x = some t → x < n) (h : ∀ b, v.ownBlock = some b → b < n) : ∀ x s, (o.put v t) x = some s → x < n := by
 intro x s hx
 unfold Owner.put at hx
 cases hv : v.ownBlock with
 | none => rw [hv] at hx; exact ho x s hx
 | some b =>
   rw [hv] at hx
   dsimp only at hx
   by_cases e : x = b
   ·rw [e]; exact h b hv
   ·rw [Owner.set_other _ _ e] at hx
    exact ho x s hx
theorem FileAt.store {w : World} {o : Owner} {pf : Nat} {f : DFile} (h : FileAt w o pf f) {v : Value} {bs : List UInt8} {base : Nat} (hv : w.ownsRow base 5 1 v bs.length (bs.map bv)) (hb : ∀ b, v.ownBlock = some b → o b = none) (hl : bs.length ≤ 16777216) :
 FileAt (w.setCell ⟨pf, 0, none⟩ v) (o.put v (4, pf)) pf { f with now := bs } ∧ FileAt (w.setCell ⟨pf, 1, none⟩ v) (o.put v (5, pf)) pf { f with lasts := bs } := by
 obtain ⟨h1, ⟨t, a, c, h2, h3, h4, h5, h6⟩, h7⟩ := h
 have hne : ∀ b, v.ownBlock = some b → b ≠ pf := fun b h e => by
  have := hb b h
  rw [e, h1] at this
  cases this
 have hold : ∀ (s : Tag) x r, o x = some r → (o.put v s) x = some r := fun s => Owner.put_keep hb
 have hrow : ∀ (i : Nat) (u z : Value) (xs : List Value) (n base : Nat), w.ownsRow base 5 1 z n xs → (∀ b, z.ownBlock = some b → b ≠ pf) → (w.setCell ⟨pf, i, none⟩ u).ownsRow 0 5 1 z n xs := fun i u z xs n base hz hn => by
  have ht : Turn (· = pf) w (w.setCell ⟨pf, i, none⟩ u) := (Turn.refl (· = pf) w).setCell _ _ (.inl rfl)
  exact ownsRow_base (ht.ownsRow hz (fun b hb e => hn b hb e)) (Nat.zero_le _)
 have hpf4 : ∀ b, a.ownBlock = some b → b ≠ pf := fun b hb e => by have := h4 b hb; rw [e, h1] at this; cases this
 have hpf5 : ∀ b, c.ownBlock = some b → b ≠ pf := fun b hb e => by have := h6 b hb; rw [e, h1] at this; cases this
 refine ⟨⟨hold _ _ _ h1, ⟨t, v, c, ?_, hrow _ _ _ _ _ _ hv hne, fun b hb => Owner.put_at hb, hrow _ _ _ _ _ _ h5 hpf5, fun b hb => hold _ _ _ (h6 b hb)⟩, hl, h7.2⟩,
  ⟨hold _ _ _ h1, ⟨t, a, v, ?_, hrow _ _ _ _ _ _ h3 hpf4, fun b hb => hold _ _ _ (h4 b hb), hrow _ _ _ _ _ _ hv hne, fun b hb => Owner.put_at hb⟩, h7.1, hl⟩⟩
 ·rw [cells_set h2]; rfl
 ·rw [cells_set h2]; rfl
set_option maxRecDepth 100000 in
set_option maxHeartbeats 2000000 in
theorem sync_any {w : World} {db : Nat} {o : Owner} {d : Dsk} (h : DiskAt w db o d) (name : Name) (hs : name.size ≤ 1000) :
 Calls Tryz.prog 131 #[ptrTo db, .string name] w fun e w' => e = .returned (.int .i64 ((d.sync name).2 : Int)) ∧ DiskPost w db o (d.sync name).1 w' := by
 have H := Lib.hid h
 clear h
 unfold ptrTo
 cases hd : d.tick.dead with
 | true =>
   have e1 : d.sync name = (d.tick, 6) := by unfold Dsk.sync; rw [hd]; rfl
   have e2 : d.tick.err = 6 := by unfold Dsk.err; rw [hd]; rfl
   have E2 := Lib.hid e2
   rw [e1]
   clear hd e1 e2
   go_enter Tryz.func131, Tryz.ntmps131
   go_wp2_with fail
   refine (begin_any H.out).mono ?_
   rintro e w1 ⟨rfl, hd1, ht1⟩
   rw [E2.out]
   go_wp2
   go_ret
   exact ⟨rfl, .of hd1 ht1⟩
 | false =>
   have e2 : d.tick.err = 0 := by unfold Dsk.err; rw [hd]; rfl
   have E2 := Lib.hid e2
   have HDD := Lib.hid hd
   clear hd e2
   go_enter Tryz.func131, Tryz.ntmps131
   go_wp2_with fail
   refine (begin_any H.out).mono ?_
   rintro e w1 ⟨rfl, ⟨mf, ml, l, hd1⟩, ht1⟩
   rw [E2.out]
   have HD1 := Lib.hid hd1
   have HT1 := Lib.hid ht1
   have hfc := find_cases hd1 name true
   rw [Dsk.tick_files] at hfc
   clear hd1 ht1
   go_wp2_with fail
   refine (find_any HD1.out name true hs).mono ?_
   rintro e w2 ⟨rfl, hb2⟩
   have HD2 := Lib.hid (HD1.out.below hb2)
   have HT2 := Lib.hid (HT1.out.thenBelow hb2)
   clear hb2
   rcases hfc with ⟨q1, q2⟩ | ⟨q1, q2, q3, q4⟩ | ⟨pf, f, q1, q2, q3, q4⟩
   ·have e1 : d.sync name = (d.tick, 1) := by
     unfold Dsk.sync
     rw [HDD.out]
     rw [Bool.and_true] at q1
     rw [q1]
     rfl
    rw [q2]
    have E1 := Lib.hid e1
    clear e1 q2 q1
    go_wp2
    go_ret
    rw [E1.out]
    exact ⟨rfl, .of ⟨_, _, _, HD2.out⟩ HT2.out⟩
   ·have e1 : d.sync name = (d.tick, 3) := by
     unfold Dsk.sync
     rw [HDD.out]
     rw [Bool.and_true] at q1
     rw [q1, q2]
     rfl
    rw [q4]
    have E1 := Lib.hid e1
    clear e1 q4 q3 q2 q1
    go_wp2
    go_ret
    rw [E1.out]
    exact ⟨rfl, .of ⟨_, _, _, HD2.out⟩ HT2.out⟩
   ·have e1 : d.sync name = ({ d.tick with files := mput d.files name ⟨f.now, f.now⟩, loose := d.loose.filter (fun p => decide (p.1.1 ≠ name)) }, 0) := by
     unfold Dsk.sync
     rw [HDD.out]
     rw [Bool.and_true] at q1
     rw [q1, q2]
     rfl
    rw [q4]
    have E1 := Lib.hid e1
    have hfa := HD2.out.each _ (mget_mem q3)
    have HFA := Lib.hid hfa
    have HQ := Lib.hid q3
    clear e1 q4 q3 q2 q1
    obtain ⟨v, u, ⟨hp0, hp1⟩, ⟨hz0, hz1⟩, hrow, hown, -, -⟩ := hfa.cells
    have HROW := Lib.hid hrow
    have HOWN := Lib.hid hown
    have hmost := Lib.hid hfa.most.1
    clear hrow hown hfa hp1
    go_wp2_with fail
    refine (clone_any v f.now _ (Rd_own HROW.out) (by have := hmost.out; omega)).mono ?_
    rintro e w3 ⟨v3, rfl, ho3, hb3⟩
    have HD3 := Lib.hid (HD2.out.below hb3)
    have HT3 := Lib.hid (HT2.out.thenBelow hb3)
    have hfa3 := HD3.out.each _ (mget_mem HQ.out)
    have HFA3 := Lib.hid hfa3
    obtain ⟨v4, u4, ⟨-, hp1⟩, ⟨-, hp2⟩, -⟩ := hfa3.cells
    clear hfa3
    obtain ⟨a3, c3, rfl⟩ := ownsRow_slice ho3
    have HO3 := Lib.hid ho3
    have HB3 := Lib.hid hb3
    clear ho3 hb3
    go_wp2_with fail
    have hfresh : ∀ b, (Value.slice a3 f.now.length c3).ownBlock = some b → o b = none := fun b hb => fresh_none HD2.out.owned (ownBlock_old HO3.out b hb).2
    have HD4 := Lib.hid (HD3.out.reFile HQ.out ((Turn.refl (OfFile o pf) w3).setCell ⟨pf, 1, none⟩ (.slice a3 f.now.length c3) (.inl (.inl rfl))) (o' := o.put (.slice a3 f.now.length c3) (5, pf))
     (Owner.put_keep hfresh)
     (HFA3.out.store HO3.out hfresh hmost.out).2 (fun x t hx => by
       have := Owner.put_owned HD3.out.owned (fun b hb => (ownBlock_old HO3.out b hb).1) x t hx
       simpa using this) (by
       have h1 := usedOf_get HD3.out.fileKeys (HD3.out.get HQ.out)
       rw [usedOf_put]
       have h2 := HD3.out.ok.used
       dsimp only at h1 ⊢
       omega))
    have HT4 := Lib.hid (HT3.out.setCell ⟨pf, 1, none⟩ (.slice a3 f.now.length c3) (.inl (OfFile.in (.inl rfl) HFA3.out.own)))
    have HG := Lib.hid (Owner.put_grow (o := o) (t := (5, pf)) (n := w.heap.size) (fun b hb => Nat.le_trans HT2.out.size (ownBlock_old HO3.out b hb).2))
    refine (settle_all HD4.out name).mono ?_
    rintro e w5 ⟨rfl, hd5, ht5⟩
    have HD5 := Lib.hid hd5
    have HT5 := Lib.hid (HT4.out.trans ht5 (fun x _ e => e ▸ HD3.out.in_ml))
    clear hd5 ht5
    go_wp2
    go_ret
    rw [E1.out]
    have hN := HD5.out
    unfold Dsk.settle at hN
    dsimp only at hN
    rw [Dsk.tick_files, Dsk.tick_loose] at hN
    exact ⟨rfl, _, ⟨_, _, _, hN⟩, HT5.out, HG.out⟩
end Go.Proofs.YtolieljpnafbhaaGreatDoor
namespace Go.Proofs.YtolieljpnafbhaaGreatDoor
open Go.RowKit Go.Maps Go.MapKept
open Go.ChangeMaps (setBlock heap_setBlock_same heap_setBlock_other)
namespace Dsk
def sizeOf (d : Dsk) (name : Name) : Nat × Nat :=
 if d.dead then (0, 6) else if okName name = false then (0, 1) else match mget d.files name with
  | none => (0, 3)
  | some f => (f.now.length, 0)
def read (d : Dsk) (name : Name) (off n : Nat) : List UInt8 × Nat :=
 if d.dead then ([], 6) else if okName name = false then ([], 1) else match mget d.files name with
  | none => ([], 3)
  | some f => ((f.now.drop off).take n, 0)
end Dsk
set_option maxRecDepth 100000 in
set_option maxHeartbeats 2000000 in
theorem size_any {w : World} {db : Nat} {o : Owner} {d : Dsk} (h : DiskAt w db o d) (name : Name) (hs : name.size ≤ 1000) :
 Calls Tryz.prog 154 #[ptrTo db, .string name] w fun e w' => e = .returned (.tuple #[.int .i64 ((d.sizeOf name).1 : Int), .int .i64 ((d.sizeOf name).2 : Int)]) ∧ Below w.heap.size w w' := by
 have H := Lib.hid h
 obtain ⟨mf, ml, l, hd1⟩ := h
 have HD1 := Lib.hid hd1
 have hfc := find_cases hd1 name true
 clear hd1
 unfold ptrTo
 cases hd : d.dead with
 | true =>
   have e1 : d.sizeOf name = (0, 6) := by unfold Dsk.sizeOf; rw [hd]; rfl
   have e2 : d.err = 6 := by unfold Dsk.err; rw [hd]; rfl
   have E2 := Lib.hid e2
   rw [e1]
   clear hd e1 e2 hfc
   go_enter Tryz.func154, Tryz.ntmps154
   go_wp2_with fail
   refine (look_any H.out).mono ?_
   rintro e w1 ⟨rfl, rfl⟩
   rw [E2.out]
   go_wp2
   go_returns
   exact ⟨rfl, Below.refl _ _⟩
 | false =>
   have e2 : d.err = 0 := by unfold Dsk.err; rw [hd]; rfl
   have E2 := Lib.hid e2
   have HDD := Lib.hid hd
   clear hd e2
   go_enter Tryz.func154, Tryz.ntmps154
   go_wp2_with fail
   refine (look_any H.out).mono ?_
   rintro e w1 ⟨rfl, rfl⟩
   rw [E2.out]
   go_wp2_with fail
   refine (find_any HD1.out name true hs).mono ?_
   rintro e w2 ⟨rfl, hb2⟩
   have HB2 := Lib.hid hb2
   have HD2 := Lib.hid (HD1.out.below hb2)
   clear hb2
   rcases hfc with ⟨q1, q2⟩ | ⟨q1, q2, q3, q4⟩ | ⟨pf, f, q1, q2, q3, q4⟩
   ·have e1 : d.sizeOf name = (0, 1) := by
     unfold Dsk.sizeOf
     rw [HDD.out]
     rw [Bool.and_true] at q1
     rw [q1]
     rfl
    rw [q2]
    have E1 := Lib.hid e1
    clear e1 q2 q1
    go_wp2
    go_returns
    rw [E1.out]
    exact ⟨rfl, HB2.out⟩
   ·have e1 : d.sizeOf name = (0, 3) := by
     unfold Dsk.sizeOf
     rw [HDD.out]
     rw [Bool.and_true] at q1
     rw [q1, q2]
     rfl
    rw [q4]
    have E1 := Lib.hid e1
    clear e1 q4 q3 q2 q1
    go_wp2
    go_returns
    rw [E1.out]
    exact ⟨rfl, HB2.out⟩
   ·have e1 : d.sizeOf name = (f.now.length, 0) := by
     unfold Dsk.sizeOf
     rw [HDD.out]
     rw [Bool.and_true] at q1
     rw [q1, q2]
     rfl
    rw [q4]
    have E1 := Lib.hid e1
    have hfa : FileAt w2 o pf f := HD2.out.each _ (mget_mem q3)
    clear e1 q4 q3 q2 q1
    obtain ⟨v, u, ⟨hp0, -⟩, -, hrow, -⟩ := hfa.cells
    have hmost := hfa.most.1
    obtain ⟨a, c, rfl⟩ := ownsRow_slice hrow
    have HROW := Lib.hid hrow
    clear hrow hfa
    go_wp2
    go_returns
    rw [E1.out]
    exact ⟨rfl, HB2.out⟩
def ReadPost (w : World) (r : List UInt8 × Nat) (e : Ending) (w' : World) : Prop :=
 ∃ v, e = .returned (.tuple #[v, .int .i64 (r.2 : Int)]) ∧ w'.ownsRow w.heap.size 5 1 v r.1.length (r.1.map bv) ∧ Below w.heap.size w w'
set_option maxRecDepth 100000 in
set_option maxHeartbeats 2000000 in
theorem read_any {w : World} {db : Nat} {o : Owner} {d : Dsk} (h : DiskAt w db o d) (name : Name) (hs : name.size ≤ 1000) (off n : Nat) (hn : n ≤ 1099511627776) :
 Calls Tryz.prog 155 #[ptrTo db, .string name, .int .i64 (off : Int), .int .i64 (n : Int)] w (ReadPost w (d.read name off n)) := by
 have H := Lib.hid h
 obtain ⟨mf, ml, l, hd1⟩ := h
 have HD1 := Lib.hid hd1
 have hfc := find_cases hd1 name true
 clear hd1
 unfold ptrTo
 cases hd : d.dead with
 | true =>
   have e1 : d.read name off n = ([], 6) := by unfold Dsk.read; rw [hd]; rfl
   have e2 : d.err = 6 := by unfold Dsk.err; rw [hd]; rfl
   have E2 := Lib.hid e2
   rw [e1]
   clear hd e1 e2 hfc
   go_enter Tryz.func155, Tryz.ntmps155
   go_wp2_with fail
   refine (look_any H.out).mono ?_
   rintro e w1 ⟨rfl, rfl⟩
   rw [E2.out]
   go_wp2
   go_returns
   exact ⟨_, rfl, ownsRow_nil _ _ _, Below.refl _ _⟩
 | false =>
   have e2 : d.err = 0 := by unfold Dsk.err; rw [hd]; rfl
   have E2 := Lib.hid e2
   have HDD := Lib.hid hd
   clear hd e2
   go_enter Tryz.func155, Tryz.ntmps155
   go_wp2_with fail
   refine (look_any H.out).mono ?_
   rintro e w1 ⟨rfl, rfl⟩
   rw [E2.out]
   go_wp2_with fail
   refine (find_any HD1.out name true hs).mono ?_
   rintro e w2 ⟨rfl, hb2⟩
   have HB2 := Lib.hid hb2
   have HD2 := Lib.hid (HD1.out.below hb2)
   clear hb2
   rcases hfc with ⟨q1, q2⟩ | ⟨q1, q2, q3, q4⟩ | ⟨pf, f, q1, q2, q3, q4⟩
   ·have e1 : d.read name off n = ([], 1) := by
     unfold Dsk.read
     rw [HDD.out]
     rw [Bool.and_true] at q1
     rw [q1]
     rfl
    rw [q2]
    have E1 := Lib.hid e1
    clear e1 q2 q1
    go_wp2
    go_returns
    rw [E1.out]
    exact ⟨_, rfl, ownsRow_nil _ _ _, HB2.out⟩
   ·have e1 : d.read name off n = ([], 3) := by
     unfold Dsk.read
     rw [HDD.out]
     rw [Bool.and_true] at q1
     rw [q1, q2]
     rfl
    rw [q4]
    have E1 := Lib.hid e1
    clear e1 q4 q3 q2 q1
    go_wp2
    go_returns
    rw [E1.out]
    exact ⟨_, rfl, ownsRow_nil _ _ _, HB2.out⟩
   ·have e1 : d.read name off n = ((f.now.drop off).take n, 0) := by
     unfold Dsk.read
     rw [HDD.out]
     rw [Bool.and_true] at q1
     rw [q1, q2]
     rfl
    rw [q4]
    have E1 := Lib.hid e1
    have hfa : FileAt w2 o pf f := HD2.out.each _ (mget_mem q3)
    clear e1 q4 q3 q2 q1
    obtain ⟨v, u, ⟨hp0, -⟩, -, hrow, -⟩ := hfa.cells
    have hmost := hfa.most.1
    have hrd := Rd_own hrow
    obtain ⟨a, cap, rfl, hlc, hcm, hc⟩ := id hrd
    have HRD := Lib.hid hrd
    unfold maxLen at hcm
    clear hrow hfa hc hrd
    by_cases hlo : off ≤ f.now.length
    ·by_cases hnn : n ≤ f.now.length - off
     ·skip
      have hA := Lib.hid (fun nq (e : cap = off) => ((((HRD.out.drewN nq).from (k := off) (by omega)).1 e).to (k := n) (by rw [List.length_drop]; omega)))
      have hB := Lib.hid (fun nq => ((((HRD.out.drewN nq).from (k := off) (by omega)).2).to (k := n) (by rw [List.length_drop]; omega)))
      go_wp2_with fail
      go_quiet (fail)
      go_wp2_with fail
      all_goals
       refine (clone_any _ ((f.now.drop off).take n) _ (by first | exact hB.out _ | exact hA.out _ rfl | exact hA.out _ (by assumption) | (rw [hn0]; first | exact hB.out _ | exact hA.out _ rfl | exact hA.out _ (by assumption))) (by rw [List.length_take, List.length_drop]; omega)).mono ?_
       rintro e w3 ⟨v3, rfl, ho3, hb3⟩
       have HO3 := Lib.hid ho3
       have HB3 : Hid (Below w2.heap.size w2 w3) := Lib.hid ⟨hb3.os, hb3.tape, hb3.output, hb3.size, hb3.block⟩
       clear ho3 hb3
       go_wp2_with fail
       go_returns
       rw [E1.out]
       exact ⟨_, rfl, ownsRow_base HO3.out HB2.out.size, HB2.out.trans (HB3.out.mono HB2.out.size)⟩
     ·skip
      have hq2 : (f.now.drop off).take n = (f.now.drop off).take (f.now.length - off) := by
       rw [List.take_of_length_le (by rw [List.length_drop]; omega), List.take_of_length_le (by rw [List.length_drop]; omega)]
      have EQ2 := Lib.hid hq2
      clear hq2
      have hA := Lib.hid (fun nq (e : cap = off) => ((((HRD.out.drewN nq).from (k := off) (by omega)).1 e).to (k := (f.now.length - off)) (by rw [List.length_drop]; omega)))
      have hB := Lib.hid (fun nq => ((((HRD.out.drewN nq).from (k := off) (by omega)).2).to (k := (f.now.length - off)) (by rw [List.length_drop]; omega)))
      go_wp2_with fail
      go_quiet (fail)
      go_wp2_with fail
      all_goals
       refine (clone_any _ ((f.now.drop off).take (f.now.length - off)) _ (by first | exact hB.out _ | exact hA.out _ rfl | exact hA.out _ (by assumption) | (rw [hn0]; first | exact hB.out _ | exact hA.out _ rfl | exact hA.out _ (by assumption))) (by rw [List.length_take, List.length_drop]; omega)).mono ?_
       rintro e w3 ⟨v3, rfl, ho3, hb3⟩
       have HO3 := Lib.hid ho3
       have HB3 : Hid (Below w2.heap.size w2 w3) := Lib.hid ⟨hb3.os, hb3.tape, hb3.output, hb3.size, hb3.block⟩
       clear ho3 hb3
       go_wp2_with fail
       go_returns
       rw [E1.out]
       rw [EQ2.out]
       exact ⟨_, rfl, ownsRow_base HO3.out HB2.out.size, HB2.out.trans (HB3.out.mono HB2.out.size)⟩
    ·rcases Nat.eq_zero_or_pos n with hn0 | hn0
     all_goals
      have hq2 : (f.now.drop off).take n = (f.now.drop f.now.length).take 0 := by
       rw [List.drop_of_length_le (by omega)]
       simp
      have EQ2 := Lib.hid hq2
      clear hq2
      have hA := Lib.hid (fun nq (e : cap = f.now.length) => ((((HRD.out.drewN nq).from (k := f.now.length) (by omega)).1 e).to (k := 0) (by rw [List.length_drop]; omega)))
      have hB := Lib.hid (fun nq => ((((HRD.out.drewN nq).from (k := f.now.length) (by omega)).2).to (k := 0) (by rw [List.length_drop]; omega)))
      go_wp2_with fail
      go_quiet (fail)
      go_wp2_with fail
      all_goals
       refine (clone_any _ ((f.now.drop f.now.length).take 0) _ (by first | exact hB.out _ | exact hA.out _ rfl | exact hA.out _ (by assumption) | (rw [hn0]; first | exact hB.out _ | exact hA.out _ rfl | exact hA.out _ (by assumption))) (by rw [List.length_take, List.length_drop]; omega)).mono ?_
       rintro e w3 ⟨v3, rfl, ho3, hb3⟩
       have HO3 := Lib.hid ho3
       have HB3 : Hid (Below w2.heap.size w2 w3) := Lib.hid ⟨hb3.os, hb3.tape, hb3.output, hb3.size, hb3.block⟩
       clear ho3 hb3
       go_wp2_with fail
       go_returns
       rw [E1.out]
       rw [EQ2.out]
       exact ⟨_, rfl, ownsRow_base HO3.out HB2.out.size, HB2.out.trans (HB3.out.mono HB2.out.size)⟩
end Go.Proofs.YtolieljpnafbhaaGreatDoor
namespace Go.Proofs.YtolieljpnafbhaaGreatDoor
open Go.RowKit Go.Maps Go.MapKept
open Go.ChangeMaps (setBlock heap_setBlock_same heap_setBlock_other)
def usedIn (l : List (Name × (Nat × DFile))) : Nat := (l.map (fun p => sect p.2.2.now.length)).sum
theorem usedIn_perm {a b : List (Name × (Nat × DFile))} (h : a.Perm b) : usedIn a = usedIn b := (h.map _).sum_nat
theorem DiskIn.usedIn {w : World} {db mf ml : Nat} {o : Owner} {l : List (Name × (Nat × DFile))} {d : Dsk} (h : DiskIn w db o mf ml l d) : usedIn l = usedOf d.files := by
 rw [← h.strip]
 unfold usedOf Proofs.YtolieljpnafbhaaGreatDoor.usedIn
 rw [List.map_map]
 rfl
set_option maxRecDepth 100000 in
set_option maxHeartbeats 2000000 in
theorem used_any {w : World} {db : Nat} {o : Owner} {d : Dsk} (h : DiskAt w db o d) :
 Calls Tryz.prog 40 #[ptrTo db] w fun e w' => e = .returned (.int .i64 (usedOf d.files : Int)) ∧ Below w.heap.size w w' := by
 obtain ⟨mf, ml, l, h⟩ := h
 have HD := Lib.hid h
 have hu := h.usedIn
 have hmax := h.ok.used
 rw [← hu] at hmax ⊢
 have HMAX := Lib.hid hmax
 clear hu hmax
 obtain ⟨⟨hc0, hc1, hc2, hc3, hc4⟩, hf2, hf3, hf4⟩ := h.head.cells
 clear h hc1 hc2 hc3 hc4 hf2 hf3 hf4
 unfold ptrTo
 go_enter Tryz.func40, Tryz.ntmps40
 go_wp2_with (at_range; refine wpList_rng _ rfl _ _ rfl 157 Tryz.underlying137 mf l rfl HD.out.files ?_; intro ob hi0)
 go_frame
 go_loopw [3] (fun n wr => ∃ (todo : List (Name × (Nat × DFile))) (k : Nat), n = .int .i64 (k : Int) ∧ IterAt Tryz.prog 9 Value.string (fun x : Nat × DFile => ptrTo x.1) wr mf w.heap.size l todo ∧ Below w.heap.size w wr ∧ Hid (k + usedIn todo = usedIn l)) (fun _ wr => wr.rangeLeft mf w.heap.size)
 case atStart => exact ⟨_, 0, rfl, hi0, (Below.refl _ _).alloc (Nat.le_refl _) _, Lib.hid (by omega)⟩
 case round =>
  obtain ⟨todo, k, rfl, hi, hb, hk⟩ := hrel
  have HB := Lib.hid hb
  clear hb
  go_wp2_with (at_next; refine wpList_nxt _ rfl _ rfl mf w.heap.size l todo rfl hi ?_ ?_)
  ·rintro rfl
   go_wp2
   go_ret
   refine ⟨?_, HB.out⟩
   have := hk.out
   unfold usedIn at this ⊢
   simp at this
   rw [← this]
   rfl
  ·intro nm pf f rs w1 ob1 hp hal hi1 hen
   have hb1 : Below w.heap.size w (setBlock w1 w.heap.size ob1) := by
    have : Turn (fun x => w.heap.size ≤ x) w (setBlock w1 w.heap.size ob1) := by
     have h0 : Turn (fun x => w.heap.size ≤ x) w wr := Turn.ofBelow HB.out
     rcases hal with rfl | rfl
     ·exact h0.setBlock _ _ (.inl (Nat.le_refl _))
     ·exact h0.drew.setBlock _ _ (.inl (Nat.le_refl _))
    exact this.below (Nat.le_refl _) (fun _ h => h)
   have HP := Lib.hid hp
   have HI := Lib.hid hi
   have hmem : (nm, pf, f) ∈ l := hi.sub _ (hp.mem_iff.2 (by simp))
   have HB1 := Lib.hid hb1
   have hfa : FileAt (setBlock w1 w.heap.size ob1) o pf f := (HD.out.below hb1).each _ hmem
   obtain ⟨v, u, ⟨hp0, -⟩, -, hrow, -⟩ := hfa.cells
   have hmost := hfa.most.1
   obtain ⟨a, c, rfl⟩ := ownsRow_slice hrow
   clear hp hi hb1 hal hfa hrow hmem
   unfold ptrTo at hen
   have hsum : k + sect f.now.length + usedIn rs = usedIn l := by
    have h1 := hk.out
    rw [usedIn_perm HP.out] at h1
    unfold usedIn at h1 ⊢
    simp only [List.map_cons, List.sum_cons] at h1
    omega
   have HS := Lib.hid hsum
   have hkk : k + sect f.now.length ≤ 1048576 := by have := HMAX.out; omega
   have HKK := Lib.hid hkk
   have hk1 : k ≤ 1048576 := by omega
   have hk2 : sect f.now.length ≤ 1048576 := by omega
   clear hsum hkk
   generalize hW : setBlock w1 w.heap.size ob1 = W at hen hp0 HB1 hi1
   clear hW hi0
   go_wp2_with (go_at_call 83; refine (sectors_any _ _ (by omega)).mono ?_; rintro e w2 ⟨rfl, rfl⟩)
   go_roundw
   case rel =>
    refine ⟨rs, k + sect f.now.length, ?_, hi1, HB1.out, HS⟩
    unfold sect
    congr 1
   case measure =>
    have e1 := hi1.left
    have e2 := HP.out.length_eq
    rw [List.length_cons] at e2
    rw [e1, HI.out.left]
    omega
def Dsk.new (quota : Nat) : Dsk := ⟨[], [], quota, 0, false⟩
set_option maxRecDepth 100000 in
set_option maxHeartbeats 2000000 in
theorem newDisk_any (quota : Nat) (hq : quota ≤ 1048576) (w : World) :
 Calls Tryz.prog 57 #[.int .i64 (quota : Int)] w fun e w' => ∃ db o, e = .returned (.tuple #[ptrTo db, .int .i64 0]) ∧ DiskAt w' db o (Dsk.new quota) ∧ Below w.heap.size w w' ∧ ∀ x t, o x = some t → w.heap.size ≤ x := by
 have hmk : ∀ (t : TypeId) (W : World), (Instr.makeMap t none).run Tryz.prog W = .ok (.map (some W.heap.size)) (W.alloc (.map #[] 0)) := fun _ _ => rfl
 go_enter Tryz.func57, Tryz.ntmps57
 go_wp2
 go_returns
 let o : Owner := fun x => if x = w.heap.size then some (1, 0) else if x = w.heap.size + 1 then some (2, 0) else if x = w.heap.size + 1 + 1 then some (0, 0) else none
 have ho : ∀ x t, o x = some t → w.heap.size ≤ x ∧ x < w.heap.size + 3 := by
  intro x t hx
  simp only [o] at hx
  split at hx
  ·omega
  ·split at hx
   ·omega
   ·split at hx
    ·omega
    ·cases hx
 refine ⟨w.heap.size + 1 + 1, o, ?_, ⟨w.heap.size, w.heap.size + 1, [], ?_⟩, ?_, fun x t hx => (ho x t hx).1⟩
 ·rfl
 ·have s1 : (w.alloc (.map #[] 0)).heap.size = w.heap.size + 1 := by simp
  have s2 : ((w.alloc (.map #[] 0)).alloc (.map #[] 0)).heap.size = w.heap.size + 1 + 1 := by simp
  have m0 : MapAt Tryz.prog 9 Value.string (fun x : Nat × DFile => ptrTo x.1) (w.alloc (.map #[] 0)) w.heap.size [] := MapAt.made w _ _ _ _
  have m1 : MapAt Tryz.prog 164 nameNum (fun _ : Unit => .bool true) ((w.alloc (.map #[] 0)).alloc (.map #[] 0)) (w.heap.size + 1) [] := by
   have := MapAt.made (w.alloc (.map #[] 0)) Tryz.prog 164 nameNum (fun _ : Unit => Value.bool true)
   rw [s1] at this
   exact this
  have hh : ∀ (W : World) (ob : Obj) (b : Nat), b < W.heap.size → (W.alloc ob).heap[b]? = W.heap[b]? := fun W ob b hb => (MapKept.heap_alloc W ob).2 b hb
  refine { odb := ?_, omf := ?_, oml := ?_, head := ⟨140, ?_⟩, files := ?_, strip := rfl, apart := by simp, each := by simp, loose := ?_, owned := ?_, ok := ⟨hq, by show 0 < 9223372036854775808; decide, by simp [usedOf, Dsk.new]⟩ }
  ·simp [o]; omega
  ·simp [o]
  ·simp [o]
  ·have := heap_alloc_new ((w.alloc (.map #[] 0)).alloc (.map #[] 0)) (.cells #[.map (some w.heap.size), .map (some (w.heap.size + 1)), .int .i64 (quota : Int), .int .i64 0, .bool false] 140)
   rw [s2] at this
   exact this
  ·exact (m0.kept (hh _ _ _ (by simp))).kept (hh _ _ _ (by simp; omega))
  ·exact m1.kept (hh _ _ _ (by simp))
  ·intro x t hx
   have := (ho x t hx).2
   simp
   omega
 ·exact (((Below.refl _ _).alloc (Nat.le_refl _) _).alloc (by simp) _).alloc (by simp; omega) _
end Go.Proofs.YtolieljpnafbhaaGreatDoor
namespace Go.Proofs.YtolieljpnafbhaaGreatDoor
open Go.RowKit Go.Maps Go.MapKept
open Go.ChangeMaps (setBlock heap_setBlock_same heap_setBlock_other)
def over (xs : List UInt8) (off : Nat) (bs : List UInt8) : List UInt8 := xs.take off ++ (bs ++ xs.drop (off + bs.length))
theorem over_length {xs : List UInt8} {off : Nat} {bs : List UInt8} (h : off + bs.length ≤ xs.length) : (over xs off bs).length = xs.length := by
 simp [over]
 omega
theorem over_nil (xs : List UInt8) (off : Nat) : over xs off [] = xs := by simp [over]
theorem take_over {α : Type} (C B : List α) (n off : Nat) (h : off + B.length ≤ n) (hn : n ≤ C.length) :
 (C.take off ++ (B ++ C.drop (off + B.length))).take n = (C.take n).take off ++ (B ++ (C.take n).drop (off + B.length)) := by
 rw [List.take_append, List.take_append, List.length_take, List.take_take, List.take_take, List.drop_take, Nat.min_eq_left (show off ≤ C.length by omega), Nat.min_eq_right (show off ≤ n by omega), Nat.min_eq_left (show off ≤ n by omega), List.take_of_length_le (show B.length ≤ n - off by omega), show n - off - B.length = n - (off + B.length) by omega]
end Go.Proofs.YtolieljpnafbhaaGreatDoor
namespace Go.Proofs.YtolieljpnafbhaaGreatDoor
open Go.RowKit Go.Maps Go.MapKept
open Go.ChangeMaps (setBlock heap_setBlock_same heap_setBlock_other)
def loosen (m : List ((Name × Nat) × Unit)) (name : Name) (off : Nat) : Nat → List ((Name × Nat) × Unit)
 | 0 => m
 | n + 1 => mput (loosen m name off n) (name, (off + n) / 64) ()
def DFile.laid (f : DFile) (off : Nat) (bs : List UInt8) : DFile :=
 ⟨over (f.now ++ List.replicate (max f.now.length (off + bs.length) - f.now.length) 0) off bs, f.lasts⟩
namespace Dsk
def write (d : Dsk) (name : Name) (off : Nat) (bs : List UInt8) : Dsk × Nat :=
 if d.tick.dead then (d.tick, 6) else if okName name = false then (d.tick, 1) else match mget d.files name with
  | none => (d.tick, 3)
  | some f =>
    if f.now.length < off then (d.tick, 1)
    else if 16777216 < bs.length + off then (d.tick, 9)
    else if sect f.now.length < sect (max f.now.length (off + bs.length)) ∧ d.quota < usedOf d.files + (sect (max f.now.length (off + bs.length)) - sect f.now.length) then (d.tick, 5)
    else ({ d.tick with files := mput d.files name (f.laid off bs), loose := loosen d.loose name off bs.length }, 0)
end Dsk
theorem wpList_maxNat {P : Program} {w : World} {ops : Array Oper} {rest : List Oper} {o : Oper} {a : Act} {Q : Exit → Act → World → Prop} (hgd : o.guard = none) (x y : Operand) (t t' : TypeId)
 (ho : o.op = .call { callee := .builtin .max, args := #[x, y], argTypes := #[t, t'] }) (m n : Nat) {p q : Int} (hx : a.eval x = .int .i64 p) (hy : a.eval y = .int .i64 q) (hp : p = (m : Int)) (hq : q = (n : Int))
 (h : ∀ E, E = max m n → wpList P ops Q rest (a.put o.dst (.int .i64 ((E : Nat) : Int))) w) : wpList P ops Q (o :: rest) a w := by
 refine wpList_plain hgd fun K hK => ?_
 have hrun := run_max_int2 (P := P) (w := w) #[t, t'] o.type .i64 .i64 p q
 unfold Oper.wp
 simp [execOp, ho, resolve, invoke, builtin, hx, hy, hrun, Result.andThen]
 refine hK _ _ ?_
 have : (if q > p then q else p) = ((max m n : Nat) : Int) := by
  rw [hp, hq]
  split <;> omega
 have h' := h _ rfl
 rw [← this] at h'
 exact h'
end Go.Proofs.YtolieljpnafbhaaGreatDoor
namespace Go.Proofs.YtolieljpnafbhaaGreatDoor
open Go
section
variable {P : Program} {ops : Array Oper} {md : Region.Mode} {C : World → Prop}
def behindB (md : Region.Mode) (ops : Array Oper) (n : Nat) : Bool :=
 (List.range ops.size).all fun t => decide (t ≤ n) || (List.range t).any fun s => decide (n ≤ s) && Region.waitsFor md ops t s
theorem mid_waits {n : Nat} {listed : Array Bool} (hs : Region.sinkB md ops n = true) (hc : behindB md ops n = true) (hn : n < ops.size) (inv : HeadInv md ops n listed) :
 ∀ (d i : Nat), n - i = d → i < n → listed.getD i true = false → ∀ t, n ≤ t → t ∉ Region.ready md ops listed := by
 intro d
 induction d using Nat.strongRecOn with
 | _ d ih =>
   intro i hd hi hun t ht hr
   obtain ⟨_, ot, hot, hall⟩ := mem_ready.1 hr
   have htlt : t < ops.size := (Array.getElem?_eq_some_iff.1 hot).1
   by_cases htn : t = n
   ·subst htn
    have h1 := List.all_eq_true.1 hs i (List.mem_range.2 hi)
    obtain ⟨j, hj, hj2⟩ := List.any_eq_true.1 h1
    simp only [Bool.and_eq_true, decide_eq_true_eq] at hj2
    obtain ⟨oj, hoj, e, he, hb, hon⟩ := Region.waitsFor_spec hj2.2
    have hjle : j ≤ t := by have := List.mem_range.1 hj; omega
    by_cases hjt : j = t
    ·subst hjt
     have : oj = ot := Option.some.inj (hoj.symm.trans hot)
     subst this
     have h2 := hall e he hb
     rw [hon, getD_both hun] at h2
     cases h2
    ·cases hl : listed.getD j false with
     | true =>
       have h2 := inv.closed j oj hoj hl e he hb
       rw [hon, getD_both hun] at h2
       cases h2
     | false =>
       have hjs : j < listed.size := by rw [inv.size]; omega
       exact ih (t - j) (by omega) j rfl (by omega) (getD_in hjs hl) t (Nat.le_refl _) hr
   ·have h1 := List.all_eq_true.1 hc t (List.mem_range.2 htlt)
    simp only [Bool.or_eq_true, decide_eq_true_eq] at h1
    rcases h1 with h1 | h1
    ·omega
    ·obtain ⟨s, hsr, hs2⟩ := List.any_eq_true.1 h1
     simp only [Bool.and_eq_true, decide_eq_true_eq] at hs2
     have hst := List.mem_range.1 hsr
     obtain ⟨o', ho', e, he, hb, hon⟩ := Region.waitsFor_spec hs2.2
     have : o' = ot := Option.some.inj (ho'.symm.trans hot)
     subst this
     have h2 := hall e he hb
     rw [hon, getD_both (inv.tail s hs2.1 (by omega))] at h2
     cases h2
theorem midAny_first {n i : Nat} {oi : Oper} {v : Value} {L : Array Bool → Act → Prop} (hi : ops[i]? = some oi) (hsel : ∀ (j : Nat) (o : Oper) cs b, ops[j]? = some o → o.op ≠ .select cs b)
 (hs : Region.sinkB md ops n = true) (hc : behindB md ops n = true) (hn : n < ops.size) (hin : i < n)
 (hdone : ∀ listed a, L listed a → ∀ j ∈ Region.ready md ops listed, n ≤ j) (f : Nat) :
 ∀ (listed : Array Bool) (a : Act), HeadInv md ops n listed →
  (∀ j oj, ops[j]? = some oj → j ≠ i → listed.getD j true = false → (∀ e ∈ oj.after, Region.binds md e = true → e.on ≠ i) → oi.apart ops oj = true) →
  i ∈ Region.ready md ops listed → YieldsIn P ops C oi v a →
  headAny P md ops C n L f (listed.setIfInBounds i true) (a.put oi.dst v) → headAny P md ops C n L (f + 1) listed a := by
 induction f with
 | zero =>
   intro listed a inv _ hr hy H
   have hun := (mem_ready.1 hr).1
   refine ⟨fun h => (by rw [h] at hr; cases hr), fun j hj => ?_⟩
   have hjn : j < n := by
    rcases Nat.lt_or_ge j n with h | h
    ·exact h
    ·exact absurd hj (mid_waits hs hc hn inv _ i rfl hin hun j h)
   refine ⟨hjn, ?_⟩
   by_cases hji : j = i
   ·subst hji; exact hy.qOp hi H
   ·have := hdone _ _ H j (ready_mono hj hji)
    omega
 | succ f ih =>
   intro listed a inv hfree hr hy H
   have hun := (mem_ready.1 hr).1
   refine ⟨fun h => (by rw [h] at hr; cases hr), fun j hj => ?_⟩
   have hjn : j < n := by
    rcases Nat.lt_or_ge j n with h | h
    ·exact h
    ·exact absurd hj (mid_waits hs hc hn inv _ i rfl hin hun j h)
   refine ⟨hjn, ?_⟩
   by_cases hji : j = i
   ·subst hji; exact hy.qOp hi H
   ·have h1 := (H.2 j (ready_mono hj hji)).2
    obtain ⟨hjun, oj, hoj, hall⟩ := mem_ready.1 hj
    have hnot : ∀ e ∈ oj.after, Region.binds md e = true → e.on ≠ i := fun e he hb heq => by
     have h1 := hall e he hb
     rw [heq, getD_both hun] at h1
     cases h1
    have h2 := qOp_put hoj (hfree j oj hoj hji hjun hnot) (fun cs b => hsel i oi cs b hi) (fun cs b => hsel j oj cs b hoj) hy h1
    have hfree' : ∀ k ok, ops[k]? = some ok → k ≠ i → (listed.setIfInBounds j true).getD k true = false →
     (∀ e ∈ ok.after, Region.binds md e = true → e.on ≠ i) → oi.apart ops ok = true := fun k ok hk hki hun hno => by
     refine hfree k ok hk hki ?_ hno
     by_cases hjk : j = k
     ·subst hjk; exact hjun
     ·rw [getD_set_ne true hjk] at hun; exact hun
    refine qOp_mono (fun a' h3 => ih (listed.setIfInBounds j true) a' (inv.set hj hjn) hfree' (ready_mono hr (Ne.symm hji)) h3.1 ?_) h2
    rw [Array.setIfInBounds_comm _ _ hji]
    exact h3.2
def lexMid (md : Region.Mode) (ops : Array Oper) (g : Nat) : Nat → Nat → Array Bool → Bool
 | 0, k, listed => decide (Region.ready md ops listed = [k]) && Region.lexFrom md ops g (k + 1) (listed.setIfInBounds k true)
 | f + 1, k, listed => (Region.ready md ops listed).contains k && Region.free md ops listed k && lexMid md ops g f (k + 1) (listed.setIfInBounds k true)
def midB (md : Region.Mode) (ops : Array Oper) (n : Nat) : Bool :=
 Region.noSelect ops && decide (n < ops.size) && Region.sinkB md ops n && behindB md ops n && lexMid md ops (ops.size - (n + 1)) n 0 (Array.replicate ops.size false)
def midDone (md : Region.Mode) (ops : Array Oper) (g n : Nat) (listed : Array Bool) : Prop := Region.ready md ops listed = [n] ∧ Region.lexFrom md ops g (n + 1) (listed.setIfInBounds n true) = true
theorem midAny_lex {n g : Nat} {Lq : Act → Prop} (hsel : Region.noSelect ops = true) (hs : Region.sinkB md ops n = true) (hc : behindB md ops n = true) (hn : n < ops.size) (l : List Oper) :
 ∀ (k : Nat) (listed : Array Bool) (a : Act), (∀ j, j < l.length → l[j]? = ops[k + j]?) → k + l.length = n → HeadInv md ops n listed →
 lexMid md ops g l.length k listed = true → wpQuiet P ops C Lq l a →
 headAny P md ops C n (fun listed' a' => midDone md ops g n listed' ∧ Lq a') l.length listed a := by
 induction l with
 | nil =>
   intro k listed a _ hk _ hB h
   have : k = n := by simpa using hk
   subst this
   simp only [List.length_nil, lexMid, Bool.and_eq_true, decide_eq_true_eq] at hB
   exact ⟨hB, h⟩
 | cons o l ih =>
   intro k listed a hl hk inv hB h
   have h0 : ops[k]? = some o := by simpa using (hl 0 (by simp)).symm
   simp only [List.length_cons, lexMid, Bool.and_eq_true] at hB
   obtain ⟨⟨hr, hf⟩, hB'⟩ := hB
   have hkn : k < n := by simp only [List.length_cons] at hk; omega
   have hr' : k ∈ Region.ready md ops listed := by simpa using hr
   have hst : qOp P ops C k (wpQuiet P ops C Lq l) a := by unfold qOp; simp only [h0]; exact h
   obtain ⟨v, hy, hK⟩ := yieldsIn_of_qOp h0 hst
   exact midAny_first h0 (Region.noSelect_spec hsel) hs hc hn hkn (fun listed' a' hL j hj => by
    have h1 := hL.1.1
    rw [h1] at hj
    have : j = n := by simpa using hj
    omega) l.length listed a inv (Region.free_spec h0 hf) hr' hy
    (ih (k + 1) _ _ (fun j hj => by have := hl (j + 1) (by simp; omega); simpa [Nat.add_assoc, Nat.add_comm 1 j] using this) (by simp only [List.length_cons] at hk; omega) (inv.set hr' hkn) hB' hK)
def MidCall (P : Program) (ops : Array Oper) (Q : Exit → Act → World → Prop) (o : Oper) (rest : List Oper) (a : Act) (w : World) : Prop :=
 ∃ f args, Region.wanted o (yielded ops a.tmps) = true ∧ (execOp a.eval o).run P w = .ok (.enter f args) w ∧
  Calls P f args w fun e w' => ∃ v, e = .returned v ∧ wpQuiet P ops (· = w') (fun a' => Q .normal a' w') rest (a.put o.dst v)
theorem wp_region_mid (C : World → Prop) {id : Nat} {Q : Exit → Act → World → Prop} {a : Act} {w : World} {l : List Oper} (n : Nat) {o : Oper} {rest : List Oper} (hl : l.drop n = o :: rest) (hm : P.follows .mixedOrders = true) (hB : midB .any l.toArray n = true) (hC : C w.drew)
 (h : wpQuiet P l.toArray C (fun a' => ∀ w', C w' → MidCall P l.toArray Q o rest a' w') (l.take n) a) : (Code.region id l.toArray true).wp P Q a w := by
 simp only [midB, Bool.and_eq_true, decide_eq_true_eq] at hB
 obtain ⟨⟨⟨⟨hsel, hn⟩, hs⟩, hc⟩, hlex⟩ := hB
 have hn' : n < l.length := by simpa using hn
 have htl : (l.take n).length = n := by simp; omega
 have hon : l[n]? = some o := by
  have := congrArg (fun x : List Oper => x[0]?) hl
  simpa using this
 have hrest : l.drop (n + 1) = rest := by
  have := congrArg List.tail hl
  simpa using this
 have hrl : rest.length = l.toArray.size - (n + 1) := by rw [← hrest]; simp
 have inv0 : HeadInv .any l.toArray n (Array.replicate l.toArray.size false) :=
  ⟨by simp, fun j oj _ hl => (by rw [getD_replicate_false] at hl; cases hl), fun t _ ht => getD_in (by simpa using ht) (getD_replicate_false _ _)⟩
 have H := midAny_lex (md := .any) (C := C) (g := l.toArray.size - (n + 1)) hsel hs hc hn (l.take n) 0 _ a (fun j hj => by
  have hj' : j < n := by rw [htl] at hj; exact hj
  simp [hj']) (by simpa using htl) inv0 (by rw [htl]; exact hlex) h
 refine wp_region_any hm ?_
 have := headAny_any (Q' := Q) (g := rest.length + 1) (fun listed a' w' hw' hL => by
  obtain ⟨⟨hr, hx⟩, hK⟩ := hL
  refine ⟨fun h0 => (by rw [hr] at h0; cases h0), fun i hi => ?_⟩
  rw [hr] at hi
  have : i = n := by simpa using hi
  subst this
  obtain ⟨f, args, hwant, hrun, hcall⟩ := hK w' hw'
  have h0 : (l.toArray)[i]? = some o := by simpa using hon
  unfold wpOp
  simp only [h0]
  rw [if_pos hwant]
  left
  unfold Oper.wp
  rw [hrun, Oper.upon_enter]
  refine hcall.mono ?_
  rintro e w2 ⟨v, rfl, hq⟩
  refine wpAny_of_quiet (Q := fun a' => Q .normal a' w2) (C := (· = w2)) (fun a3 w3 hw3 h3 => by subst hw3; exact h3) _ _ _ _ rfl ?_
  refine wpAnyQ_lex hsel rest (i + 1) _ _ (fun j => ?_) (by rw [hrl]; exact hx) hq
  rw [← hrest, List.getElem?_drop, List.getElem?_toArray]) _ _ _ _ hC H
 rw [htl, hrl, show n + (l.toArray.size - (n + 1) + 1) = l.toArray.size by omega] at this
 exact this
end
end Go.Proofs.YtolieljpnafbhaaGreatDoor
namespace Go.Proofs.YtolieljpnafbhaaGreatDoor
open Go
section
variable {P : Program} {ops : Array Oper} {md : Region.Mode} {C : World → Prop}
def NoP (Q : Exit → Act → World → Prop) : Exit → Act → World → Prop
 | .panic _, _, _ => False
 | e, a, w => Q e a w
theorem NoP.weaken {Q : Exit → Act → World → Prop} : ∀ e a w, NoP Q e a w → Q e a w := by
 intro e a w h
 cases e <;> first | exact h | exact h.elim
def wpPure (P : Program) (ops : Array Oper) (Qp : Act → Prop) : List Oper → Act → Prop
 | [], a => Qp a
 | o :: rest, a => ∃ v, Yields P ops o v a ∧ wpPure P ops Qp rest (a.put o.dst v)
theorem p_op {Qp : Act → Prop} {a : Act} {o : Oper} {rest : List Oper} {v : Value} (hw : Region.wanted o (yielded ops a.tmps) = true) (h : ∀ w, (execOp a.eval o).run P w = .ok (.value v) w)
 (hk : ∀ K : Act → Prop, (∀ a, wpPure P ops Qp rest a → K a) → K (a.put o.dst v)) : wpPure P ops Qp (o :: rest) a :=
 ⟨v, .inl ⟨hw, h⟩, hk _ fun _ h => h⟩
theorem p_nil {Qp : Act → Prop} {a : Act} (h : Qp a) : wpPure P ops Qp [] a := h
structure FloatInv (md : Region.Mode) (ops : Array Oper) (lo n : Nat) (listed : Array Bool) : Prop where
 head : HeadInv md ops n listed
 low : ∀ i, i < lo → listed.getD i true = true
theorem FloatInv.set {lo n i : Nat} {listed : Array Bool} (inv : FloatInv md ops lo n listed) (hi : i ∈ Region.ready md ops listed) (hin : i < n) : FloatInv md ops lo n (listed.setIfInBounds i true) := by
 refine ⟨inv.head.set hi hin, fun j hj => ?_⟩
 by_cases e : i = j
 ·subst e
  have := inv.low i hj
  have h2 := (mem_ready.1 hi).1
  rw [this] at h2
  cases h2
 ·rw [getD_set_ne true e]
  exact inv.low j hj
def floatSink (md : Region.Mode) (ops : Array Oper) (lo n : Nat) : Bool :=
 (List.range n).all fun i => decide (i < lo) || (List.range (n + 1)).any fun j => decide (i < j) && Region.waitsFor md ops j i
theorem float_waits {lo n : Nat} {listed : Array Bool} (hs : floatSink md ops lo n = true) (hc : behindB md ops n = true) (hn : n < ops.size) (inv : FloatInv md ops lo n listed) :
 ∀ (d i : Nat), n - i = d → i < n → listed.getD i true = false → ∀ t, n ≤ t → t ∉ Region.ready md ops listed := by
 intro d
 induction d using Nat.strongRecOn with
 | _ d ih =>
   intro i hd hi hun t ht hr
   obtain ⟨_, ot, hot, hall⟩ := mem_ready.1 hr
   have htlt : t < ops.size := (Array.getElem?_eq_some_iff.1 hot).1
   by_cases htn : t = n
   ·subst htn
    have h1 := List.all_eq_true.1 hs i (List.mem_range.2 hi)
    simp only [Bool.or_eq_true, decide_eq_true_eq] at h1
    rcases h1 with h1 | h1
    ·rw [inv.low i h1] at hun; cases hun
    obtain ⟨j, hj, hj2⟩ := List.any_eq_true.1 h1
    simp only [Bool.and_eq_true, decide_eq_true_eq] at hj2
    obtain ⟨oj, hoj, e, he, hb, hon⟩ := Region.waitsFor_spec hj2.2
    have hjle : j ≤ t := by have := List.mem_range.1 hj; omega
    by_cases hjt : j = t
    ·subst hjt
     have : oj = ot := Option.some.inj (hoj.symm.trans hot)
     subst this
     have h2 := hall e he hb
     rw [hon, getD_both hun] at h2
     cases h2
    ·cases hl : listed.getD j false with
     | true =>
       have h2 := inv.head.closed j oj hoj hl e he hb
       rw [hon, getD_both hun] at h2
       cases h2
     | false =>
       have hjs : j < listed.size := by rw [inv.head.size]; omega
       exact ih (t - j) (by omega) j rfl (by omega) (getD_in hjs hl) t (Nat.le_refl _) hr
   ·have h1 := List.all_eq_true.1 hc t (List.mem_range.2 htlt)
    simp only [Bool.or_eq_true, decide_eq_true_eq] at h1
    rcases h1 with h1 | h1
    ·omega
    ·obtain ⟨s, hsr, hs2⟩ := List.any_eq_true.1 h1
     simp only [Bool.and_eq_true, decide_eq_true_eq] at hs2
     have hst := List.mem_range.1 hsr
     obtain ⟨o', ho', e, he, hb, hon⟩ := Region.waitsFor_spec hs2.2
     have : o' = ot := Option.some.inj (ho'.symm.trans hot)
     subst this
     have h2 := hall e he hb
     rw [hon, getD_both (inv.head.tail s hs2.1 (by omega))] at h2
     cases h2
theorem floatAny_first {lo n i : Nat} {oi : Oper} {v : Value} {L : Array Bool → Act → Prop} (hi : ops[i]? = some oi) (hsel : ∀ (j : Nat) (o : Oper) cs b, ops[j]? = some o → o.op ≠ .select cs b)
 (hs : floatSink md ops lo n = true) (hc : behindB md ops n = true) (hn : n < ops.size) (hin : i < n)
 (hdone : ∀ listed a, L listed a → ∀ j ∈ Region.ready md ops listed, n ≤ j) (f : Nat) :
 ∀ (listed : Array Bool) (a : Act), FloatInv md ops lo n listed →
  (∀ j oj, ops[j]? = some oj → j ≠ i → listed.getD j true = false → (∀ e ∈ oj.after, Region.binds md e = true → e.on ≠ i) → oi.apart ops oj = true) →
  i ∈ Region.ready md ops listed → YieldsIn P ops C oi v a →
  headAny P md ops C n L f (listed.setIfInBounds i true) (a.put oi.dst v) → headAny P md ops C n L (f + 1) listed a := by
 induction f with
 | zero =>
   intro listed a inv _ hr hy H
   have hun := (mem_ready.1 hr).1
   refine ⟨fun h => (by rw [h] at hr; cases hr), fun j hj => ?_⟩
   have hjn : j < n := by
    rcases Nat.lt_or_ge j n with h | h
    ·exact h
    ·exact absurd hj (float_waits hs hc hn inv _ i rfl hin hun j h)
   refine ⟨hjn, ?_⟩
   by_cases hji : j = i
   ·subst hji; exact hy.qOp hi H
   ·have := hdone _ _ H j (ready_mono hj hji)
    omega
 | succ f ih =>
   intro listed a inv hfree hr hy H
   have hun := (mem_ready.1 hr).1
   refine ⟨fun h => (by rw [h] at hr; cases hr), fun j hj => ?_⟩
   have hjn : j < n := by
    rcases Nat.lt_or_ge j n with h | h
    ·exact h
    ·exact absurd hj (float_waits hs hc hn inv _ i rfl hin hun j h)
   refine ⟨hjn, ?_⟩
   by_cases hji : j = i
   ·subst hji; exact hy.qOp hi H
   ·have h1 := (H.2 j (ready_mono hj hji)).2
    obtain ⟨hjun, oj, hoj, hall⟩ := mem_ready.1 hj
    have hnot : ∀ e ∈ oj.after, Region.binds md e = true → e.on ≠ i := fun e he hb heq => by
     have h1 := hall e he hb
     rw [heq, getD_both hun] at h1
     cases h1
    have h2 := qOp_put hoj (hfree j oj hoj hji hjun hnot) (fun cs b => hsel i oi cs b hi) (fun cs b => hsel j oj cs b hoj) hy h1
    have hfree' : ∀ k ok, ops[k]? = some ok → k ≠ i → (listed.setIfInBounds j true).getD k true = false →
     (∀ e ∈ ok.after, Region.binds md e = true → e.on ≠ i) → oi.apart ops ok = true := fun k ok hk hki hun hno => by
     refine hfree k ok hk hki ?_ hno
     by_cases hjk : j = k
     ·subst hjk; exact hjun
     ·rw [getD_set_ne true hjk] at hun; exact hun
    refine qOp_mono (fun a' h3 => ih (listed.setIfInBounds j true) a' (inv.set hj hjn) hfree' (ready_mono hr (Ne.symm hji)) h3.1 ?_) h2
    rw [Array.setIfInBounds_comm _ _ hji]
    exact h3.2
theorem floatAny_lex {lo n g : Nat} {Lq : Act → Prop} (hsel : Region.noSelect ops = true) (hs : floatSink md ops lo n = true) (hc : behindB md ops n = true) (hn : n < ops.size) (l : List Oper) :
 ∀ (k : Nat) (listed : Array Bool) (a : Act), (∀ j, j < l.length → l[j]? = ops[k + j]?) → k + l.length = n → FloatInv md ops lo n listed →
 Region.lexHead md ops g l.length k listed = true → wpQuiet P ops C Lq l a →
 headAny P md ops C n (fun listed' a' => Region.seqB md ops g n listed' = true ∧ Lq a') l.length listed a := by
 induction l with
 | nil =>
   intro k listed a _ hk _ hB h
   have : k = n := by simpa using hk
   subst this
   exact ⟨by simpa [Region.lexHead] using hB, h⟩
 | cons o l ih =>
   intro k listed a hl hk inv hB h
   have h0 : ops[k]? = some o := by simpa using (hl 0 (by simp)).symm
   simp only [List.length_cons, Region.lexHead, Bool.and_eq_true] at hB
   obtain ⟨⟨hr, hf⟩, hB'⟩ := hB
   have hkn : k < n := by simp only [List.length_cons] at hk; omega
   have hr' : k ∈ Region.ready md ops listed := by simpa using hr
   have hst : qOp P ops C k (wpQuiet P ops C Lq l) a := by unfold qOp; simp only [h0]; exact h
   obtain ⟨v, hy, hK⟩ := yieldsIn_of_qOp h0 hst
   exact floatAny_first h0 (Region.noSelect_spec hsel) hs hc hn hkn (fun listed' a' hL => seqB_ready hL.1) l.length listed a inv (Region.free_spec h0 hf) hr' hy
    (ih (k + 1) _ _ (fun j hj => by have := hl (j + 1) (by simp; omega); simpa [Nat.add_assoc, Nat.add_comm 1 j] using this) (by simp only [List.length_cons] at hk; omega) (inv.set hr' hkn) hB' hK)
def lexPure (md : Region.Mode) (ops : Array Oper) (g h : Nat) : Nat → Nat → Array Bool → Bool
 | 0, k, listed => Region.lexHead md ops g h k listed
 | f + 1, k, listed => (Region.ready md ops listed).contains k && Region.free md ops listed k && lexPure md ops g h f (k + 1) (listed.setIfInBounds k true)
def floatB (md : Region.Mode) (ops : Array Oper) (lo n : Nat) : Bool :=
 Region.noSelect ops && decide (lo ≤ n) && decide (n < ops.size) && floatSink md ops lo n && behindB md ops n && lexPure md ops (ops.size - n) (n - lo) lo 0 (Array.replicate ops.size false)
theorem floatStart {lo n g h gf : Nat} {Q : Exit → Act → World → Prop} {Lp : Act → Prop} (hsel : Region.noSelect ops = true) (hQ : ∀ c a w, ¬ Q (.panic c) a w) (hlon : lo ≤ n) (hn : n < ops.size) (l : List Oper) :
 ∀ (k : Nat) (listed : Array Bool) (a : Act) (w : World), (∀ j, j < l.length → l[j]? = ops[k + j]?) → k + l.length = lo → FloatInv md ops k n listed →
 lexPure md ops g h l.length k listed = true → wpPure P ops Lp l a →
 (∀ listed' a', FloatInv md ops lo n listed' → Region.lexHead md ops g h lo listed' = true → Lp a' → wpAny P md ops Q gf listed' a' w) →
 wpAny P md ops Q (l.length + gf) listed a w := by
 induction l with
 | nil =>
   intro k listed a w _ hk inv hB h hg
   have : k = lo := by simpa using hk
   subst this
   rw [List.length_nil, Nat.zero_add]
   exact hg listed a inv (by simpa [lexPure] using hB) h
 | cons o l ih =>
   intro k listed a w hl hk inv hB h hg
   have h0 : ops[k]? = some o := by simpa using (hl 0 (by simp)).symm
   simp only [List.length_cons, lexPure, Bool.and_eq_true] at hB
   obtain ⟨⟨hr, hf⟩, hB'⟩ := hB
   obtain ⟨v, hy, hK⟩ := h
   have hkl : k < lo := by simp only [List.length_cons] at hk; omega
   have hr' : k ∈ Region.ready md ops listed := by simpa using hr
   rw [List.length_cons, show l.length + 1 + gf = (l.length + gf) + 1 by omega]
   refine wpAny_take h0 hsel hf hr (fun c a w hq => absurd hq (hQ _ _ _)) hy ?_
   refine ih (k + 1) _ _ w (fun j hj => by have := hl (j + 1) (by simp; omega); simpa [Nat.add_assoc, Nat.add_comm 1 j] using this) (by simp only [List.length_cons] at hk; omega) ?_ hB' hK hg
   refine ⟨inv.head.set hr' (by omega), fun i hi => ?_⟩
   by_cases e : k = i
   ·subst e
    exact getD_set_true' (by have := inv.head.size; omega)
   ·rw [getD_set_ne true e]
    exact inv.low i (by omega)
where
 getD_set_true' {listed : Array Bool} {i : Nat} (h : i < listed.size) : (listed.setIfInBounds i true).getD i true = true := by
  rw [Array.getD_eq_getD_getElem?, Array.getElem?_setIfInBounds_self_of_lt h]
  rfl
theorem wp_region_float (C : World → Prop) {id : Nat} {Q : Exit → Act → World → Prop} {a : Act} {w : World} {l : List Oper} (lo n : Nat) (hm : P.follows .mixedOrders = true) (hB : floatB .any l.toArray lo n = true) (hC : C w.drew)
 (h : wpPure P l.toArray (wpQuiet P l.toArray C (fun a' => ∀ w', C w' → wpList P l.toArray (NoP Q) (l.drop n) a' w') ((l.drop lo).take (n - lo))) (l.take lo) a) : (Code.region id l.toArray true).wp P Q a w := by
 refine Code.wp_mono NoP.weaken ?_
 simp only [floatB, Bool.and_eq_true, decide_eq_true_eq] at hB
 obtain ⟨⟨⟨⟨⟨hsel, hlon⟩, hn⟩, hs⟩, hc⟩, hlex⟩ := hB
 have hn' : n < l.length := by simpa using hn
 have htl : (l.take lo).length = lo := by simp; omega
 have hml : ((l.drop lo).take (n - lo)).length = n - lo := by simp; omega
 have hdl : (l.drop n).length = l.toArray.size - n := by simp
 have inv0 : FloatInv .any l.toArray 0 n (Array.replicate l.toArray.size false) :=
  ⟨⟨by simp, fun j oj _ hl => (by rw [getD_replicate_false] at hl; cases hl), fun t _ ht => getD_in (by simpa using ht) (getD_replicate_false _ _)⟩, fun i hi => absurd hi (Nat.not_lt_zero i)⟩
 refine wp_region_any hm ?_
 have := floatStart (P := P) (md := .any) (ops := l.toArray) (lo := lo) (n := n) (g := l.toArray.size - n) (h := n - lo) (gf := l.toArray.size - lo) (Q := NoP Q) hsel (fun c a w h => h) hlon hn (l.take lo) 0 _ a w.drew (fun j hj => by
  have hj' : j < lo := by rw [htl] at hj; exact hj
  simp [hj']) (by simpa using htl) inv0 (by rw [htl]; exact hlex) h (fun listed' a' inv' hx hq => by
   have H := floatAny_lex (md := .any) (C := C) (g := l.toArray.size - n) hsel hs hc hn ((l.drop lo).take (n - lo)) lo listed' a' (fun j hj => by
    have hj' : j < n - lo := by rw [hml] at hj; exact hj
    simp [hj', List.getElem?_drop]) (by rw [hml]; omega) inv' (by rw [hml]; exact hx) hq
   have := headAny_any (Q' := NoP Q) (g := l.toArray.size - n) (fun listed a' w' hw' hL => by
    have := wpAny_of_seq (md := .any) (Q' := NoP Q) (l.drop n) n listed a' w' (fun j => by simp [List.getElem?_drop]) (by rw [hdl]; exact hL.1) (hL.2 w' hw')
    rwa [hdl] at this) _ _ _ _ hC H
   rw [hml, show n - lo + (l.toArray.size - n) = l.toArray.size - lo by omega] at this
   exact this)
 rw [htl, show lo + (l.toArray.size - lo) = l.toArray.size by omega] at this
 exact this
end
end Go.Proofs.YtolieljpnafbhaaGreatDoor
