/-
  Joined, in build order, what is needed of: Pool5, Pool6, Pool7, Pool8, Pool9, Pool10, Pool11, Pool12.
-/
import Derived.Test.YtolieljpnafbhaaGreatDoorV05
import Derived.Shelf.SlSortCmp.NoneTotal
namespace Go.Proofs.YtolieljpnafbhaaGreatDoor
open Go.RowKit Go.Maps Go.MapKept
open Go.ChangeMaps (setBlock heap_setBlock_same heap_setBlock_other)
theorem info_int : (Tryz.prog.info? 3).map (fun i => (i.zero, i.size, i.bytes)) = some (some (.int .i64 0), 1, 8) := by kernel_rfl
def told (fs : List Frm) (name : Name) (lo hi : Nat) (k : Nat) : List Nat := (List.range k).filter (fun i => isDirty name lo hi (fs.getD i Frm.none))
theorem told_succ {fs : List Frm} {name : Name} {lo hi k : Nat} {f : Frm} (h : fs[k]? = some f) : told fs name lo hi (k + 1) = if isDirty name lo hi f = true then told fs name lo hi k ++ [k] else told fs name lo hi k := by
 unfold told
 rw [List.range_succ, List.filter_append, List.filter_cons, getD_of h]
 split
 ·rfl
 ·simp
theorem told_lt {fs : List Frm} {name : Name} {lo hi k : Nat} : ∀ i ∈ told fs name lo hi k, i < k := fun i hi => by
 unfold told at hi
 exact List.mem_range.1 (List.mem_filter.1 hi).1
theorem told_length (fs : List Frm) (name : Name) (lo hi k : Nat) : (told fs name lo hi k).length ≤ k := by
 unfold told
 have := List.length_filter_le (fun i => isDirty name lo hi (fs.getD i Frm.none)) (List.range k)
 simpa using this
theorem told_told (fs : List Frm) (name : Name) (lo hi : Nat) {ls : List Nat} (hp : ls.Perm (told fs name lo hi fs.length)) (hr : ls.Pairwise (fun a b => kOf fs a ≤ kOf fs b)) : Told fs name lo hi ls := by
 refine ⟨fun i => ?_, hr, hp.nodup_iff.2 ?_⟩
 ·rw [hp.mem_iff]
  unfold told
  rw [List.mem_filter, List.mem_range]
  constructor
  ·rintro ⟨h1, h2⟩
   refine ⟨fs[i], List.getElem?_eq_getElem h1, ?_⟩
   rw [getD_of (List.getElem?_eq_getElem h1)] at h2
   exact h2
  ·rintro ⟨fr, h1, h2⟩
   exact ⟨lt_of_get h1, by rw [getD_of h1]; exact h2⟩
 ·unfold told
  exact List.nodup_range.filter _
def encN (i : Nat) : Value := .int .i64 (i : Int)
set_option maxRecDepth 100000 in
set_option maxHeartbeats 1000000 in
theorem dirtyCmp_any {W : World} {bx pb fb n i j ki kj : Nat} (h0 : W.cell? ⟨bx, 0, none⟩ = some (ptrTo pb)) (h1 : W.cell? ⟨pb, 1, none⟩ = some (.slice (some ⟨fb, 0, none⟩) n n)) (hi : i < n) (hj : j < n)
 (h2 : W.cell? ⟨fb, i * 7 + 2, none⟩ = some (.int .i64 (ki : Int))) (h3 : W.cell? ⟨fb, j * 7 + 2, none⟩ = some (.int .i64 (kj : Int))) (hki : ki < 65536) (hkj : kj < 65536) :
 Calls Tryz.prog 130 #[.int .i64 (i : Int), .int .i64 (j : Int), .pointer (some ⟨bx, 0, none⟩)] W fun e w' => e = .returned (.int .i64 ((ki : Int) - (kj : Int))) ∧ ∃ q, w' = W.drewN q := by
 unfold ptrTo at h0
 have hw : IntKind.i64.wrap ((ki : Int) - (kj : Int)) = (ki : Int) - (kj : Int) := wrap_in (by omega) (by omega)
 go_enter Tryz.func130, Tryz.ntmps130
 go_wp2
 go_quiet (fail)
 go_wp2
 go_ret
 exact ⟨rfl, _, rfl⟩
end Go.Proofs.YtolieljpnafbhaaGreatDoor
namespace Go.Proofs.YtolieljpnafbhaaGreatDoor
open Go.RowKit Go.Maps Go.MapKept
open Go.ChangeMaps (setBlock heap_setBlock_same heap_setBlock_other)
theorem sortTold_any {fs : List Frm} {name : Name} {lo hi : Nat} {wr : World} {base g cap n hand bx pb fb : Nat} {kOfs : Nat → Nat} (ho : wr.ownsRow base 3 1 (.slice (some ⟨g, 0, none⟩) (told fs name lo hi n).length cap) (told fs name lo hi n).length ((told fs name lo hi n).map encN))
 (hh : hand < n) (hlt : ∀ i ∈ told fs name lo hi n, i < n) (hle : (told fs name lo hi n).length ≤ n) (hn : n ≤ 4096) (h0 : wr.cell? ⟨bx, 0, none⟩ = some (ptrTo pb)) (h1 : wr.cell? ⟨pb, 1, none⟩ = some (.slice (some ⟨fb, 0, none⟩) n n))
 (hk : ∀ i, i < n → wr.cell? ⟨fb, i * 7 + 2, none⟩ = some (.int .i64 ((kOfs i : Nat) : Int)) ∧ kOfs i < 65536) (g1 : bx ≠ g) (g2 : pb ≠ g) (g3 : fb ≠ g) :
 Calls Tryz.prog 129 #[.slice (some ⟨g, 0, none⟩) (told fs name lo hi n).length cap, .func (.func 130) #[] #[.pointer (some ⟨bx, 0, none⟩)]] wr fun e w' => ∃ ls : List Nat, e = .returned (.tuple #[]) ∧ ls.Perm (told fs name lo hi n) ∧
  ls.Pairwise (fun a b => kOfs a ≤ kOfs b) ∧ w'.ownsRow base 3 1 (.slice (some ⟨g, 0, none⟩) (told fs name lo hi n).length cap) (told fs name lo hi n).length (ls.map encN) ∧ Turn (· = g) wr w' := by
 generalize told fs name lo hi n = ts at *
 letI : Inhabited (Fin n) := ⟨⟨hand, hh⟩⟩
 let ss : List (Fin n) := ts.attach.map (fun x => ⟨x.1, hlt x.1 x.2⟩)
 have hssv : ss.map (fun x => x.1) = ts := by
  simp only [ss, List.map_map, Function.comp_def]
  exact List.attach_map_subtype_val ts
 have hsse : ss.map (fun x : Fin n => encN x.1) = ts.map encN := by
  have := congrArg (List.map encN) hssv
  rw [List.map_map] at this
  exact this
 have hssl : ss.length = ts.length := by simp [ss]
 have hltO : ∀ x y : Fin n, ltOf (fun x y : Fin n => ((kOfs x.1 : Nat) : Int) - ((kOfs y.1 : Nat) : Int)) x y = decide (kOfs x.1 < kOfs y.1) := fun x y => by
  show decide (((kOfs x.1 : Nat) : Int) - ((kOfs y.1 : Nat) : Int) < 0) = _
  by_cases h : kOfs x.1 < kOfs y.1
  ·rw [decide_eq_true h, decide_eq_true (by omega)]
  ·rw [decide_eq_false h, decide_eq_false (by omega)]
 have hcmp : CmpReads Tryz.prog 130 #[.pointer (some ⟨bx, 0, none⟩)] (fun x : Fin n => encN x.1) (fun x y => ((kOfs x.1 : Nat) : Int) - ((kOfs y.1 : Nat) : Int)) g 0 ts.length wr := fun m os dk _ x y => by
  have ht : Turn (· = g) wr (sortWorld (fun x : Fin n => encN x.1) wr g 0 m dk os) := turn_sorted _ dk
  exact dirtyCmp_any (ht.cell h0 g1) (ht.cell h1 g2) x.2 y.2 (ht.cell (hk x.1 x.2).1 g3) (ht.cell (hk y.1 y.2).1 g3) (hk x.1 x.2).2 (hk y.1 y.2).2
 refine (sortInts_any (fun x : Fin n => encN x.1) (fun _ => rfl) (fun x y => ((kOfs x.1 : Nat) : Int) - ((kOfs y.1 : Nat) : Int)) ⟨fun x => by rw [hltO]; simp, fun x y z h1 h2 => by rw [hltO] at *; simp at *; omega, fun x y z h1 h2 => by rw [hltO] at *; simp at *; omega⟩
  130 #[.pointer (some ⟨bx, 0, none⟩)] (ss := ss) hssl (by omega) (by rw [hsse]; exact ho) (enters_of Tryz.func130 (by kernel_rfl) rfl) hcmp.lays).mono ?_
 rintro e w' ⟨rfl, tl, hp, hr, ho', ht⟩
 refine ⟨tl.map (fun x => x.1), rfl, ?_, ?_, ?_, ht⟩
 ·rw [← hssv]
  exact hp.map _
 ·rw [List.pairwise_map]
  exact hr.imp (fun {a b} h => by
   have h' : ¬ (((kOfs b.1 : Nat) : Int) - ((kOfs a.1 : Nat) : Int) < 0) := h
   show kOfs a.1 ≤ kOfs b.1
   omega)
 ·rw [List.map_map]
  exact ho'
def DirtyPost (w : World) (fs : List Frm) (name : Name) (lo hi : Nat) (e : Ending) (w' : World) : Prop :=
 ∃ v ls, e = .returned v ∧ w'.ownsRow w.heap.size 3 1 v ls.length (ls.map encN) ∧ Told fs name lo hi ls ∧ Below w.heap.size w w'
set_option maxRecDepth 100000 in
set_option maxHeartbeats 4000000 in
theorem dirty_any {w : World} {pb db fb mb : Nat} {o : Owner} {l : List Plc} {hand mf : Nat} {d : Dsk} (h : PoolIn w pb db fb mb o l hand mf d) (hks : ∀ p ∈ l, p.2.k < 65536) (name : Name) (lo hi : Nat) :
 Calls Tryz.prog 99 #[ptrTo pb, .string name, .int .i64 (lo : Int), .int .i64 (hi : Int)] w (DirtyPost w (l.map (·.2)) name lo hi) := by
 obtain ⟨i0, hi0, hz0, hz1, hz2⟩ := info_parts info_int
 have H := Lib.hid h
 have HRow := Lib.hid h.row
 have hn := h.most
 have HS := Lib.hid h.shaped
 have HKS := Lib.hid hks
 have hpbl := h.head.lt
 have hfbl := h.row.lt
 have hhand := h.hand
 obtain ⟨⟨-, hc1, -⟩, -⟩ := h.head.cells
 clear h hks
 unfold ptrTo
 generalize hN : l.length = n at *
 have HN := Lib.hid hN
 clear hN
 go_enter Tryz.func99, Tryz.ntmps99
 have hb1 : Below w.heap.size w (w.alloc (.cells #[.pointer (some ⟨pb, 0, none⟩)] 26)) := (Below.refl _ _).alloc (Nat.le_refl _) _
 have hx := heap_alloc_new w (.cells #[.pointer (some ⟨pb, 0, none⟩)] 26)
 have hsz : w.heap.size < (w.alloc (.cells #[.pointer (some ⟨pb, 0, none⟩)] 26)).heap.size := by simp
 have hd1 : (w.alloc (.cells #[.pointer (some ⟨pb, 0, none⟩)] 26)).cell? ⟨pb, 1, none⟩ = some (.slice (some ⟨fb, 0, none⟩) n n) := by rw [hb1.cell (p := ⟨pb, 1, none⟩) hpbl]; exact hc1
 have HR1 := Lib.hid (HRow.out.below hb1)
 have HB1 := Lib.hid hb1
 have HX := Lib.hid hx
 clear hb1 hx hc1
 go_wp2_with fail
 generalize w.alloc (.cells #[.pointer (some ⟨pb, 0, none⟩)] 26) = W1 at *
 go_loopw [9, 17] (fun v i wr => ∃ k : Nat, k ≤ n ∧ i = .int .i64 (k : Int) ∧ wr.ownsRow (w.heap.size + 1) 3 1 v (told (l.map (·.2)) name lo hi k).length ((told (l.map (·.2)) name lo hi k).map encN) ∧ Below (w.heap.size + 1) W1 wr) (fun _ i _ => n - (intOf i).toNat)
 case atStart => exact ⟨0, Nat.zero_le _, rfl, ownsRow_nil _ _ _, Below.refl _ _⟩
 case round =>
  obtain ⟨k, hk, rfl, ho, hb⟩ := hrel
  by_cases hlt : k < n
  ·obtain ⟨a, c, f, hi'⟩ := HS.out.get HN.out hlt
   have hrow : RowAt wr fb l := HR1.out.kept (S := fun x => w.heap.size + 1 ≤ x) ⟨hb.os, hb.tape, hb.output, hb.size, fun x _ hx => hb.block x (by omega)⟩ (by omega)
   obtain ⟨h0, h1, h2, h3, h4, h5, h6⟩ := hrow.seven hi'
   have hd1' : wr.cell? ⟨pb, 1, none⟩ = some (.slice (some ⟨fb, 0, none⟩) n n) := by rw [hb.cell (p := ⟨pb, 1, none⟩) (show pb < w.heap.size + 1 by omega)]; exact hd1
   have hfk : f.k < 65536 := HKS.out _ (List.mem_of_getElem? hi')
   have HST := Lib.hid (told_succ (name := name) (lo := lo) (hi := hi) (map_get hi'))
   have htl := told_length (l.map (·.2)) name lo hi k
   have HB := Lib.hid hb
   have HO := Lib.hid ho
   have hbs : w.heap.size + 1 ≤ wr.heap.size := Nat.le_trans hsz hb.size
   clear hi' hb hrow ho
   obtain ⟨t, ht⟩ : ∃ t, t = told (l.map (·.2)) name lo hi k := ⟨_, rfl⟩
   rw [← ht] at HST htl HO
   clear ht
   obtain ⟨full, nm, fk, bs, dirty, used⟩ := f
   dsimp only at *
   cases full with
   | false =>
     go_wp2
     go_roundw
     case rel =>
      refine ⟨k + 1, by omega, by go_num, ?_, HB.out.alloc hbs _⟩
      have e := HST.out
      rw [if_neg (by simp [isDirty])] at e
      rw [e]
      exact HO.out.alloc _
     case measure => simp [intOf]; omega
   | true =>
     cases dirty with
     | false =>
       go_wp2
       go_roundw
       case rel =>
        refine ⟨k + 1, by omega, by go_num, ?_, HB.out.alloc hbs _⟩
        have e := HST.out
        rw [if_neg (by simp [isDirty])] at e
        rw [e]
        exact HO.out.alloc _
       case measure => simp [intOf]; omega
     | true =>
       by_cases hnm : nm = name
       ·have hbq : (nm.toList == name.toList) = true := by rw [hnm]; exact beq_self_eq_true _
        have HNM := Lib.hid hnm
        clear hnm
        by_cases hl1 : lo ≤ fk
        ·by_cases hl2 : fk < hi
         ·have hl1' : ((fk : Int) ≥ (lo : Int)) := by omega
          have hl2' : ((fk : Int) < (hi : Int)) := by omega
          go_wp2_with (at_builtin; refine wpList_append_own _ rfl _ _ 175 rfl (w.heap.size + 1) 3 i0 (.int .i64 0) 1 8 Tryz.underlying175 hi0 hz0 hz1 hz2 rfl (by decide) _ _ _ rfl ((HO.out.alloc _).alloc _) ⟨wr.heap.size + 1, 0, none⟩ 1 1 [encN k] rfl rfl ?c1 ?c2 ?c3 ?c4 ?c5 ?_)
          case c1 =>
           intro j u hj
           match j, hj with
           | 0, hj =>
             cases hj
             simp [Addr_add, encN]
          case c2 => simp [encN, Value.oneCell']
          case c3 => unfold maxLen; omega
          case c4 => omega
          case c5 => simp; omega
          intro v' w2 hown hgr _
          have hB2 : Hid (Below (w.heap.size + 1) W1 w2) := Lib.hid (((HB.out.alloc hbs _).alloc (by simp; omega) _).grown hgr (by simp; omega) (ownsRow_block HO.out))
          have hO2 : Hid (w2.ownsRow (w.heap.size + 1) 3 1 v' (t ++ [k]).length ((t ++ [k]).map encN)) := Lib.hid (by simpa using hown)
          clear hown hgr
          go_wp2
          go_roundw
          case rel =>
           refine ⟨k + 1, by omega, by go_num, ?_, hB2.out⟩
           have e := HST.out
           rw [if_pos (by simp [isDirty, HNM.out]; omega)] at e
           rw [e]
           exact hO2.out
          case measure => simp [intOf]; omega
         ·have hl2' : ¬ ((fk : Int) < (hi : Int)) := by omega
          go_wp2
          go_roundw
          case rel =>
           refine ⟨k + 1, by omega, by go_num, ?_, HB.out.alloc hbs _⟩
           have e := HST.out
           rw [if_neg (by simp [isDirty]; omega)] at e
           rw [e]
           exact HO.out.alloc _
          case measure => simp [intOf]; omega
        ·have hl1' : ¬ ((fk : Int) ≥ (lo : Int)) := by omega
         go_wp2
         go_roundw
         case rel =>
          refine ⟨k + 1, by omega, by go_num, ?_, HB.out.alloc hbs _⟩
          have e := HST.out
          rw [if_neg (by simp [isDirty]; omega)] at e
          rw [e]
          exact HO.out.alloc _
         case measure => simp [intOf]; omega
       ·have hbq : (nm.toList == name.toList) = false := bytes_ne hnm
        have HNM := Lib.hid hnm
        clear hnm
        go_wp2
        go_roundw
        case rel =>
         refine ⟨k + 1, by omega, by go_num, ?_, HB.out.alloc hbs _⟩
         have e := HST.out
         rw [if_neg (by simp [isDirty, HNM.out])] at e
         rw [e]
         exact HO.out.alloc _
        case measure => simp [intOf]; omega
  ·obtain rfl : k = n := by omega
   have HB := Lib.hid hb
   obtain ⟨a9, c9, rfl⟩ := ownsRow_slice ho
   have HO := Lib.hid ho
   have hd1' : wr.cell? ⟨pb, 1, none⟩ = some (.slice (some ⟨fb, 0, none⟩) k k) := by rw [hb.cell (p := ⟨pb, 1, none⟩) (show pb < w.heap.size + 1 by omega)]; exact hd1
   have HD1 := Lib.hid hd1'
   have HRW : Hid (RowAt wr fb l) := Lib.hid (HR1.out.kept (S := fun x => w.heap.size + 1 ≤ x) ⟨hb.os, hb.tape, hb.output, hb.size, fun x _ hx => hb.block x (by omega)⟩ (by omega))
   have HBX : Hid (wr.cell? ⟨w.heap.size, 0, none⟩ = some (ptrTo pb)) := Lib.hid (by
    rw [hb.cell (p := ⟨w.heap.size, 0, none⟩) (show w.heap.size < w.heap.size + 1 by omega), cells_cell HX.out]
    rfl)
   have hBall : Hid (Below w.heap.size w wr) := Lib.hid (HB1.out.trans (hb.mono (Nat.le_succ _)))
   have hlen : (l.map (·.2)).length = k := by rw [List.length_map, HN.out]
   have HLEN := Lib.hid hlen
   clear hb ho hd1' hlen hd1
   rcases Nat.eq_zero_or_pos (told (l.map (·.2)) name lo hi k).length with hz | hpos
   ·have hnil : told (l.map (·.2)) name lo hi k = [] := List.eq_nil_of_length_eq_zero hz
    have HNIL := Lib.hid hnil
    rw [hz] at HO ⊢
    clear hz hnil
    have hcall := Lib.hid (AnyF.slices_SortFunc_none (P := Tryz.prog) (ρ := Tryz.sortInts_ren) { Tryz.sortInts with } a9 c9 (.func (.func 130) #[] #[.pointer (some ⟨w.heap.size, 0, none⟩)]) wr)
    go_wp2_with fail
    refine hcall.out.mono ?_
    rintro e w' ⟨rfl, rfl⟩
    go_wp2
    go_ret
    refine ⟨_, [], rfl, ?_, told_told _ _ _ _ (by rw [HLEN.out, HNIL.out]) List.Pairwise.nil, hBall.out⟩
    have := HO.out
    rw [HNIL.out] at this
    exact ownsRow_base this (Nat.le_succ _)
   ·have hshape : ∃ g, a9 = some ⟨g, 0, none⟩ ∧ w.heap.size + 1 ≤ g := by
     obtain ⟨_, ⟨h1, h2⟩ | ⟨g, cap, cur, h1, h2, _⟩⟩ := HO.out
     ·omega
     ·cases h1
      exact ⟨g, rfl, h2⟩
    obtain ⟨g, rfl, hg⟩ := hshape
    have hcall := Lib.hid (sortTold_any (name := name) (lo := lo) (hi := hi) (bx := w.heap.size) (fs := l.map (·.2)) (kOfs := fun i => kOf (l.map (·.2)) i) HO.out hhand (fun i hi => told_lt i hi) (told_length _ _ _ _ _) hn HBX.out HD1.out (fun i hi => by
     obtain ⟨a, c, f, hi'⟩ := HS.out.get HN.out hi
     refine ⟨?_, ?_⟩
     ·rw [(HRW.out.seven hi').2.2.1]
      unfold kOf
      rw [getD_of (map_get hi')]
     ·unfold kOf
      rw [getD_of (map_get hi')]
      exact HKS.out _ (List.mem_of_getElem? hi')) (by omega) (by omega) (by omega))
    go_wp2_with fail
    refine hcall.out.mono ?_
    rintro e w' ⟨ls, rfl, hp, hr, ho', ht⟩
    have HP := Lib.hid hp
    have HR := Lib.hid hr
    have HO' := Lib.hid ho'
    have HT := Lib.hid ht
    have hll : ls.length = (told (l.map (·.2)) name lo hi k).length := hp.length_eq
    have HLL := Lib.hid hll
    clear hp hr ho' ht hll
    go_wp2
    go_ret
    refine ⟨_, ls, rfl, ?_, told_told _ _ _ _ (by rw [HLEN.out]; exact HP.out) HR.out, hBall.out.trans (HT.out.below (by have := hBall.out.size; omega) (fun x e => by omega))⟩
    rw [HLL.out]
    exact ownsRow_base HO'.out (Nat.le_succ _)
end Go.Proofs.YtolieljpnafbhaaGreatDoor
namespace Go.Proofs.YtolieljpnafbhaaGreatDoor
open Go.RowKit Go.Maps Go.MapKept
open Go.ChangeMaps (setBlock heap_setBlock_same heap_setBlock_other)
def Fit (l : List Plc) : Prop := ∀ p ∈ l, p.2.bytes.length ≤ 240 ∧ p.2.k < 65536
theorem RowAt.set' {w : World} {fb : Nat} {l : List Plc} (h : RowAt w fb l) {i : Nat} {p q : Plc} (hi : l[i]? = some p) {j : Nat} (hj : j < 7) {v : Value} (hv : (frmCells p.1 p.2).set j v = frmCells q.1 q.2) : RowAt (w.setCell ⟨fb, i * 7 + j, none⟩ v) fb (l.set i q) := by
 rw [Nat.mul_comm i 7]
 exact h.set hi hj hv
theorem PoolIn.mark {w : World} {pb db fb mb : Nat} {o : Owner} {l : List Plc} {hand mf : Nat} {d : Dsk} (h : PoolIn w pb db fb mb o l hand mf d) {i : Nat} {v : Value} {f x : Frm} (hi : l[i]? = some (v, f)) {j : Nat} (hj : j < 7) {u : Value} (hv : (frmCells v f).set j u = frmCells v x)
 (h1 : x.full = f.full) (h2 : x.name = f.name) (h3 : x.k = f.k) (h4 : x.bytes = f.bytes) : PoolIn (w.setCell ⟨fb, i * 7 + j, none⟩ u) pb db fb mb o (l.set i (v, x)) hand mf d := by
 have ht : Turn (fun y => y = fb ∨ y = mb) w (w.setCell ⟨fb, i * 7 + j, none⟩ u) := (Turn.refl _ _).setCell _ _ (.inl (.inl rfl))
 refine h.setFrame (h.row.set' hi hj hv) ht (fun _ _ h => h) (fun y t hy => by have := h.owned y t hy; simpa using this) ?_ ?_
 ·obtain ⟨m, m1, m2⟩ := h.wher
  exact ⟨m, m1.turn ((Turn.refl (· = fb) w).setCell _ _ (.inl rfl)) (Owner.ne h.omb h.ofb (by decide)), m2.same (map_get hi) h1 h2 h3⟩
 ·have he := h.each _ (List.mem_of_getElem? hi)
  dsimp only at he ⊢
  rw [h4]
  exact ⟨((Turn.refl (· = fb) w).setCell ⟨fb, i * 7 + j, none⟩ u (.inl rfl)).ownsRow he.1 (fun b hb => Owner.ne (he.2 b hb) h.ofb (by decide)), he.2⟩
theorem PoolIn.in_fb {w : World} {pb db fb mb : Nat} {o : Owner} {l : List Plc} {hand mf : Nat} {d : Dsk} (h : PoolIn w pb db fb mb o l hand mf d) : o.In ofPool fb := ⟨_, h.ofb, show 7 < 10 by decide⟩
def PutsPost (w : World) (pb db fb mb : Nat) (o : Owner) (l : List Plc) (hand mf : Nat) (r : (Dsk × List Frm) × Nat) (e : Ending) (w' : World) : Prop :=
 ∃ o' l', e = .returned (.int .i64 (r.2 : Int)) ∧ PoolIn w' pb db fb mb o' l' hand mf r.1.1 ∧ l'.map (·.2) = r.1.2 ∧ l'.length = l.length ∧ Fit l' ∧ Turn (o.In ofPool) w w' ∧ OGrow w.heap.size o o'
theorem Fit.set {l : List Plc} (h : Fit l) {i : Nat} {q : Plc} (hq : q.2.bytes.length ≤ 240 ∧ q.2.k < 65536) : Fit (l.set i q) := fun p hp => by
 rcases List.mem_or_eq_of_mem_set hp with hp | rfl
 ·exact h p hp
 ·exact hq
set_option maxRecDepth 100000 in
set_option maxHeartbeats 4000000 in
theorem put_any (HW : WriteSaid) {w : World} {pb db fb mb pf : Nat} {o : Owner} {l : List Plc} {hand mf : Nat} {d : Dsk} {name : Name} (h : PoolIn w pb db fb mb o l hand mf d) (hfit : Fit l) (hs : name.size ≤ 1000) (hp : PfAt w pf db name) (hpo : o pf = none) {v : Value} {base : Nat} {ls : List Nat}
 (hv : w.ownsRow base 3 1 v ls.length (ls.map encN)) (hvo : ∀ b, v.ownBlock = some b → o b = none) (hls : ∀ i ∈ ls, i < l.length) (hll : ls.length ≤ 100000) :
 Calls Tryz.prog 98 #[ptrTo pb, ptrTo pf, v] w (PutsPost w pb db fb mb o l hand mf (putAll name ls d (l.map (·.2)))) := by
 have H := Lib.hid h
 have HF := Lib.hid hfit
 have HP := Lib.hid hp
 have HPO := Lib.hid hpo
 have HV := Lib.hid hv
 have HVO := Lib.hid hvo
 have HLS := Lib.hid hls
 obtain ⟨va, vc, rfl⟩ := ownsRow_slice hv
 have hpfl := hp.lt
 have hn := h.most
 clear h hfit hp hpo hv hvo hls
 unfold ptrTo
 generalize hN : ls.length = n at *
 have HN := Lib.hid hN
 clear hN
 go_enter Tryz.func98, Tryz.ntmps98
 go_wp2
 go_loopw [12] (fun i wr => ∃ (j : Nat) (d' : Dsk) (l' : List Plc) (o' : Owner), j ≤ n ∧ i = .int .i64 (j : Int) ∧ PoolIn wr pb db fb mb o' l' hand mf d' ∧ putAll name ls d (l.map (·.2)) = putAll name (ls.drop j) d' (l'.map (·.2)) ∧ l'.length = l.length ∧ Fit l' ∧ Turn (o.In ofPool) w wr ∧ OGrow w.heap.size o o') (fun i _ => n - (intOf i).toNat)
 case atStart => exact ⟨0, d, l, o, Nat.zero_le _, rfl, H.out, rfl, rfl, HF.out, Turn.refl _ _, OGrow.refl _ _⟩
 case round =>
  obtain ⟨j, d', l', o', hj, rfl, hp', hput, hlen, hfit', ht, hg⟩ := hrel
  by_cases hlt : j < n
  ·have hjl : j < ls.length := by rw [HN.out]; exact hlt
   have hx : ∃ x, ls[j]? = some x := ⟨_, List.getElem?_eq_getElem hjl⟩
   obtain ⟨x, hx⟩ := hx
   have hxl : x < l'.length := by rw [hlen]; exact HLS.out x (List.mem_of_getElem? hx)
   obtain ⟨a, c, f, hi⟩ := hp'.shaped.get rfl hxl
   have hff := hfit' _ (List.mem_of_getElem? hi)
   obtain ⟨hfb, hfk⟩ := hff
   dsimp only at hfb hfk
   have hrow := ht.ownsRow HV.out (fun b hb => Owner.not_in_none (HVO.out b hb))
   have hvc : ∃ g, va = some ⟨g, 0, none⟩ ∧ wr.cell? ⟨g, j, none⟩ = some (encN x) := by
    obtain ⟨_, ⟨h1, h2⟩ | ⟨g, cap, cur, h1, h2, h3, h4, h5, h6, h7⟩⟩ := hrow
    ·omega
    ·cases h1
     refine ⟨g, rfl, ?_⟩
     rw [cells_cell h3]
     have e : (cur.toList.take (n * 1))[j]? = (ls.map encN)[j]? := by rw [h7]
     rw [List.getElem?_take_of_lt (by omega), List.getElem?_map, hx] at e
     simpa using e
   obtain ⟨g, rfl, hcx⟩ := hvc
   unfold encN at hcx
   have hdrop : ls.drop j = x :: ls.drop (j + 1) := by
    rw [List.drop_eq_getElem_cons hjl]
    congr 1
    rw [List.getElem?_eq_getElem hjl] at hx
    exact Option.some.inj hx
   rw [hdrop, putAll, getD_of (map_get hi)] at hput
   dsimp only at hput
   have HPUT := Lib.hid hput
   have HP' := Lib.hid hp'
   have HI := Lib.hid hi
   have HLEN := Lib.hid hlen
   have HFIT := Lib.hid hfit'
   have HT := Lib.hid ht
   have HG := Lib.hid hg
   have hpf : Hid (PfAt wr pf db name) := Lib.hid (HP.out.kept ht (Owner.not_in_none HPO.out))
   have hcall : Hid (∀ W, Below wr.heap.size wr W → Calls Tryz.prog 128 #[ptrTo pf, .int .i64 (f.k : Int), .slice a f.bytes.length c] W fun e w' => e = .returned (.int .i64 ((pfWrite d' name f.k f.bytes).2 : Int)) ∧ DiskPost W db o' (pfWrite d' name f.k f.bytes).1 w') := Lib.hid (fun W hW =>
    pfWrite_any HW (hp'.disk.below hW) (hpf.out.below hW) hs f.k hfk _ f.bytes hfb (Rd_own (ownsRow_below (hp'.each _ (List.mem_of_getElem? hi)).1 hW)))
   have hxn : x < l.length := by rw [← hlen]; exact hxl
   have HWF : Hid (∀ W, Below wr.heap.size wr W → (W.cell? ⟨pb, 1, none⟩ = some (.slice (some ⟨fb, 0, none⟩) l.length l.length) ∧ W.cell? ⟨fb, x * 7 + 2, none⟩ = some (.int .i64 (f.k : Int)) ∧ W.cell? ⟨fb, x * 7 + 3, none⟩ = some (.slice a f.bytes.length c))) := Lib.hid (fun W hW => by
    have h1 := hp'.below hW
    obtain ⟨⟨-, g1, -⟩, -⟩ := h1.head.cells
    obtain ⟨-, -, g2, g3, -⟩ := h1.row.seven hi
    rw [hlen] at g1
    exact ⟨g1, g2, g3⟩)
   clear hput hp' hi hlen hfit' ht hg hx hxl hrow hdrop
   unfold ptrTo at hcall
   generalize (pfWrite d' name f.k f.bytes).1 = d2 at *
   generalize (pfWrite d' name f.k f.bytes).2 = cc at *
   by_cases hc0 : cc = 0
   ·subst hc0
    have hput2 : putAll name ls d (l.map (·.2)) = putAll name (ls.drop (j + 1)) d2 ((l'.map (·.2)).set x { f with dirty := false }) := by rw [HPUT.out, if_neg (by simp)]
    have HPUT2 := Lib.hid hput2
    clear hput2 HPUT
    go_wp2
    refine wp_region_mid (Below wr.heap.size wr) 18 rfl (by kernel_rfl) (by kernel_rfl) ((Below.refl _ _).drew) ?_; simp only [List.take_succ_cons, List.take_zero]
    iterate 4 (refine q_op rfl (fun w' hw' => (by go_simp <;> rfl)) (fun K hK => ?_); go_simp; refine hK _ ?_; clear hK K)
    refine q_op rfl (fun w' hw' => (by have hc := (HWF.out w' hw').1; go_simp <;> rfl)) (fun K hK => ?_); go_simp; refine hK _ ?_; clear hK K
    iterate 4 (refine q_op rfl (fun w' hw' => (by go_simp <;> rfl)) (fun K hK => ?_); go_simp; refine hK _ ?_; clear hK K)
    refine q_op rfl (fun w' hw' => (by have hc := (HWF.out w' hw').2.1; go_simp <;> rfl)) (fun K hK => ?_); go_simp; refine hK _ ?_; clear hK K
    iterate 3 (refine q_op rfl (fun w' hw' => (by go_simp <;> rfl)) (fun K hK => ?_); go_simp; refine hK _ ?_; clear hK K)
    refine q_op rfl (fun w' hw' => (by have hc := (HWF.out w' hw').1; go_simp <;> rfl)) (fun K hK => ?_); go_simp; refine hK _ ?_; clear hK K
    iterate 3 (refine q_op rfl (fun w' hw' => (by go_simp <;> rfl)) (fun K hK => ?_); go_simp; refine hK _ ?_; clear hK K)
    refine q_op rfl (fun w' hw' => (by have hc := (HWF.out w' hw').2.2; go_simp <;> rfl)) (fun K hK => ?_); go_simp; refine hK _ ?_; clear hK K
    refine wpQuiet_nil ?_; intro w3 hw3; refine ⟨_, _, rfl, (by go_simp <;> exact ⟨rfl, rfl⟩), ?_⟩
    refine (hcall.out _ hw3).mono ?_
    rintro e w4 ⟨rfl, hp4⟩
    obtain ⟨o2, hd2, ht2, hg2⟩ := DiskPost.after hw3 hp4
    have HP2 := Lib.hid (HP'.out.reDisk hd2 ht2 hg2)
    have HT2 := Lib.hid (HT.out.owned HG.out ht2.pool)
    have HG2 := Lib.hid (HG.out.trans hg2 HT.out.size)
    clear hd2 ht2 hg2 hp4 hw3
    obtain ⟨⟨-, g1, -⟩, -⟩ := HP2.out.head.cells
    rw [HLEN.out] at g1
    obtain ⟨-, -, -, -, -, g5, -⟩ := HP2.out.row.seven HI.out
    have gz := HP2.out.row.free (x * 7 + 5)
    refine ⟨_, rfl, ?_⟩; go_simp
    refine q_op rfl (fun w' hw' => (by go_simp <;> rfl)) (fun K hK => ?_); go_simp; refine hK _ ?_; clear hK K
    refine wpQuiet_nil ?_
    go_wp2
    go_roundw
    case rel =>
     have hm := HP2.out.mark (j := 5) (u := .bool false) (x := { f with dirty := false }) HI.out (by decide) rfl rfl rfl rfl rfl
     refine ⟨j + 1, d2, _, o2, by omega, by go_num, hm, by rw [HPUT2.out, map_set], by rw [List.length_set]; exact HLEN.out, HFIT.out.set ⟨hfb, hfk⟩, ?_, HG2.out⟩
     exact HT2.out.trans ((Turn.refl (o2.In ofPool) w4).setCell ⟨fb, x * 7 + 5, none⟩ (.bool false) (.inl HP2.out.in_fb)) (fun y hy ⟨t, ht1, ht2⟩ => ⟨t, by rw [← HG2.out y hy]; exact ht1, ht2⟩)
    case measure => simp [intOf]; omega
   ·have hput2 : putAll name ls d (l.map (·.2)) = ((d2, l'.map (·.2)), cc) := by rw [HPUT.out, if_pos hc0]
    have HPUT2 := Lib.hid hput2
    have hc0' : ¬ (cc : Int) = 0 := by omega
    clear hput2 HPUT hc0
    go_wp2
    refine wp_region_mid (Below wr.heap.size wr) 18 rfl (by kernel_rfl) (by kernel_rfl) ((Below.refl _ _).drew) ?_; simp only [List.take_succ_cons, List.take_zero]
    iterate 4 (refine q_op rfl (fun w' hw' => (by go_simp <;> rfl)) (fun K hK => ?_); go_simp; refine hK _ ?_; clear hK K)
    refine q_op rfl (fun w' hw' => (by have hc := (HWF.out w' hw').1; go_simp <;> rfl)) (fun K hK => ?_); go_simp; refine hK _ ?_; clear hK K
    iterate 4 (refine q_op rfl (fun w' hw' => (by go_simp <;> rfl)) (fun K hK => ?_); go_simp; refine hK _ ?_; clear hK K)
    refine q_op rfl (fun w' hw' => (by have hc := (HWF.out w' hw').2.1; go_simp <;> rfl)) (fun K hK => ?_); go_simp; refine hK _ ?_; clear hK K
    iterate 3 (refine q_op rfl (fun w' hw' => (by go_simp <;> rfl)) (fun K hK => ?_); go_simp; refine hK _ ?_; clear hK K)
    refine q_op rfl (fun w' hw' => (by have hc := (HWF.out w' hw').1; go_simp <;> rfl)) (fun K hK => ?_); go_simp; refine hK _ ?_; clear hK K
    iterate 3 (refine q_op rfl (fun w' hw' => (by go_simp <;> rfl)) (fun K hK => ?_); go_simp; refine hK _ ?_; clear hK K)
    refine q_op rfl (fun w' hw' => (by have hc := (HWF.out w' hw').2.2; go_simp <;> rfl)) (fun K hK => ?_); go_simp; refine hK _ ?_; clear hK K
    refine wpQuiet_nil ?_; intro w3 hw3; refine ⟨_, _, rfl, (by go_simp <;> exact ⟨rfl, rfl⟩), ?_⟩
    refine (hcall.out _ hw3).mono ?_
    rintro e w4 ⟨rfl, hp4⟩
    obtain ⟨o2, hd2, ht2, hg2⟩ := DiskPost.after hw3 hp4
    have HP2 := Lib.hid (HP'.out.reDisk hd2 ht2 hg2)
    have HT2 := Lib.hid (HT.out.owned HG.out ht2.pool)
    have HG2 := Lib.hid (HG.out.trans hg2 HT.out.size)
    clear hd2 ht2 hg2 hp4 hw3
    refine ⟨_, rfl, ?_⟩; go_simp
    refine q_op rfl (fun w' hw' => (by go_simp <;> rfl)) (fun K hK => ?_); go_simp; refine hK _ ?_; clear hK K
    refine wpQuiet_nil ?_
    go_wp2
    go_ret
    rw [HPUT2.out]
    exact ⟨o2, l', rfl, HP2.out, rfl, HLEN.out, HFIT.out, HT2.out, HG2.out⟩
  ·obtain rfl : j = n := by omega
   have hdrop : ls.drop j = [] := List.drop_eq_nil_of_le (by rw [HN.out]; exact Nat.le_refl _)
   rw [hdrop, putAll] at hput
   have HPUT := Lib.hid hput
   have HP' := Lib.hid hp'
   have HLEN := Lib.hid hlen
   have HFIT := Lib.hid hfit'
   have HT := Lib.hid ht
   have HG := Lib.hid hg
   clear hput hp' hlen hfit' ht hg hdrop
   go_wp2
   go_ret
   rw [HPUT.out]
   exact ⟨o', l', rfl, HP'.out, rfl, HLEN.out, HFIT.out, HT.out, HG.out⟩
end Go.Proofs.YtolieljpnafbhaaGreatDoor
namespace Go.Proofs.YtolieljpnafbhaaGreatDoor
open Go.RowKit Go.Maps Go.MapKept
open Go.ChangeMaps (setBlock heap_setBlock_same heap_setBlock_other)
theorem Sound.fit {d : Dsk} {fs : List Frm} {L : Logic} (h : Sound d fs L) : ∀ fr ∈ fs, fr.bytes.length ≤ 240 ∧ fr.k < 65536 := fun fr hfr => by
 cases hf : fr.full with
 | false => rw [h.blank fr hfr hf]; exact ⟨by simp [Frm.none], by simp [Frm.none]⟩
 | true =>
   obtain ⟨ps, fl, hL, hk⟩ := h.frames fr hfr hf
   obtain ⟨f, dp, q⟩ := h.paged _ _ _ hL
   have := lt_of_get hk
   have := q.most
   exact ⟨q.short _ (List.mem_of_getElem? hk), by omega⟩
theorem Sound.fitPlc {d : Dsk} {l : List Plc} {L : Logic} (h : Sound d (l.map (·.2)) L) : Fit l := fun p hp => h.fit p.2 (List.mem_map.2 ⟨p, hp, rfl⟩)
theorem Sound.onDisk {d : Dsk} {fs : List Frm} {L : Logic} (h : Sound d fs L) {n : Name} {ps : List Pg} {fl : Bool} (hL : mget L n = some (.inl (ps, fl))) :
 ∃ f dp, OnDisk d fs n ps fl f dp ∧ (d.dead = false → d.sizeOf n = (256 * dp.length, 0) ∧ pfOpen d n = 0) ∧ (d.dead = true → d.sizeOf n = (0, 6) ∧ pfOpen d n = 6) := by
 obtain ⟨f, dp, q⟩ := h.paged _ _ _ hL
 have hs := Dsk.sizeOf_ok (h.ok n (by rw [hL]; rfl)) q.get
 have hl : f.now.length = 256 * dp.length := by rw [q.now, pagesFrom_length _ q.sdp]
 refine ⟨f, dp, q, fun hd => ?_, fun hd => ?_⟩
 ·rw [hd, if_neg (by simp), hl] at hs
  refine ⟨hs, ?_⟩
  unfold pfOpen
  rw [hs]
  simp
 ·rw [hd, if_pos rfl] at hs
  refine ⟨hs, ?_⟩
  unfold pfOpen
  rw [hs]
  simp
theorem Told.length_le {fs : List Frm} {name : Name} {lo hi : Nat} {ls : List Nat} (t : Told fs name lo hi ls) : ls.length ≤ fs.length := by
 have hp : ls.Perm ((List.range fs.length).filter (fun x => decide (x ∈ ls))) := by
  refine (List.perm_ext_iff_of_nodup t.nodup (List.nodup_range.filter _)).2 fun x => ?_
  rw [List.mem_filter, List.mem_range, decide_eq_true_eq]
  refine ⟨fun hx => ⟨?_, hx⟩, fun hx => hx.2⟩
  obtain ⟨fr, h1, _⟩ := (t.mem x).1 hx
  exact lt_of_get h1
 have h1 := List.length_filter_le (fun x => decide (x ∈ ls)) (List.range fs.length)
 rw [hp.length_eq]
 simpa using h1
theorem okName_1000 {n : Name} (h : okName n = true) : n.size ≤ 1000 := by have := okName_size h; omega
def Cleaned (fs fs' : List Frm) : Prop := fs'.length = fs.length ∧ ∀ (i : Nat) (fr : Frm), fs[i]? = some fr → ∃ dd, fs'[i]? = some { fr with dirty := dd } ∧ (dd = true → fr.dirty = true)
theorem Cleaned.refl (fs : List Frm) : Cleaned fs fs := ⟨rfl, fun _ fr h => ⟨fr.dirty, h, id⟩⟩
def BackPost (w : World) (pb db fb mb : Nat) (o : Owner) (l : List Plc) (hand mf : Nat) (d : Dsk) (L : Logic) (i : Nat) (e : Ending) (w' : World) : Prop :=
 ∃ o' l' d' c, e = .returned (.int .i64 ((c : Nat) : Int)) ∧ PoolIn w' pb db fb mb o' l' hand mf d' ∧ Sound d' (l'.map (·.2)) L ∧ Onward d d' ∧ Cleaned (l.map (·.2)) (l'.map (·.2)) ∧ (c = 0 ∨ Err d d' L c) ∧
  (c = 0 → ∃ fr, (l'.map (·.2))[i]? = some fr ∧ fr.dirty = false) ∧ Turn (o.In ofPool) w w' ∧ OGrow w.heap.size o o'
set_option maxRecDepth 100000 in
set_option maxHeartbeats 4000000 in
theorem back_any (HW : WriteSaid) {w : World} {pb db fb mb : Nat} {o : Owner} {l : List Plc} {hand mf : Nat} {d : Dsk} {L : Logic} (h : PoolIn w pb db fb mb o l hand mf d) (hg : Sound d (l.map (·.2)) L) {i : Nat} {v : Value} {f : Frm} (hi : l[i]? = some (v, f)) (hfull : f.full = true) (hdirty : f.dirty = true) :
 Calls Tryz.prog 157 #[ptrTo pb, .int .i64 (i : Int)] w (BackPost w pb db fb mb o l hand mf d L i) := by
 obtain ⟨i0, hi0, hz0, hz1, hz2⟩ := info_parts info_int
 obtain ⟨ps, fl, hL, hpk⟩ := hg.frames f (List.mem_of_getElem? (map_get hi)) hfull
 obtain ⟨df, dp, q, hlive, hdead⟩ := hg.onDisk hL
 have hok := okName_1000 (hg.ok f.name (by rw [hL]; rfl))
 have hfit := hg.fitPlc
 have hfk := (hfit _ (List.mem_of_getElem? hi)).2
 have hil : i < l.length := lt_of_get hi
 have hn := h.most
 have H := Lib.hid h
 have HG := Lib.hid hg
 have HI := Lib.hid hi
 have HQ := Lib.hid q
 have HFIT := Lib.hid hfit
 have HL := Lib.hid hL
 have HFULL := Lib.hid hfull
 have HDIRTY := Lib.hid hdirty
 have hcell : (w.cell? ⟨pb, 1, none⟩ = some (.slice (some ⟨fb, 0, none⟩) l.length l.length) ∧ w.cell? ⟨fb, i * 7 + 1, none⟩ = some (.string f.name) ∧ w.cell? ⟨fb, i * 7 + 2, none⟩ = some (.int .i64 (f.k : Int))) := by
  obtain ⟨⟨-, g1, -⟩, -⟩ := h.head.cells
  obtain ⟨-, g2, g3, -⟩ := h.row.seven hi
  exact ⟨g1, g2, g3⟩
 obtain ⟨hc1, hc2, hc3⟩ := hcell
 have hcall : Hid (∀ W, Below w.heap.size w W → Calls Tryz.prog 80 #[ptrTo pb, .string f.name] W (OnDiskPost W db d f.name)) := Lib.hid (fun W hW => onDisk_any (h.below hW) f.name hok)
 have HSZ := Lib.hid (size_bound h.disk f.name).1
 clear h hg hi q hfit hL hfull hdirty hpk
 dsimp only at hfk
 unfold ptrTo at *
 generalize hN : l.length = n at *
 have HN := Lib.hid hN
 clear hN
 cases hd : d.dead with
 | true =>
   obtain ⟨-, hpo⟩ := hdead hd
   have HPO := Lib.hid hpo
   have HD := Lib.hid hd
   clear hd hpo hlive hdead
   go_enter Tryz.func157, Tryz.ntmps157
   go_wp2
   go_quiet (fail)
   go_wp2_with fail
   refine (hcall.out _ (below_drewN (Below.refl _ _) _)).mono ?_
   rintro e w1 ⟨v1, n1, rfl, hb1, -⟩
   rw [HPO.out]
   have hB : Below w.heap.size w w1 := (below_drewN (Below.refl _ _) _).trans hb1
   have HB := Lib.hid hB
   clear hB hb1
   go_wp2
   go_ret
   exact ⟨o, l, d, 6, rfl, H.out.below HB.out, HG.out, Onward.refl d, Cleaned.refl _, .inr (.inr ⟨rfl, HD.out⟩), fun h => absurd h (by decide), Turn.ofBelow HB.out, OGrow.refl _ _⟩
 | false =>
   obtain ⟨hsz, hpo⟩ := hlive hd
   have HPO := Lib.hid hpo
   have HSZ2 := Lib.hid hsz
   clear hd hpo hlive hdead hsz
   go_enter Tryz.func157, Tryz.ntmps157
   go_wp2
   go_quiet (fail)
   go_wp2_with fail
   refine (hcall.out _ (below_drewN (Below.refl _ _) _)).mono ?_
   rintro e w1 ⟨v1, n1, rfl, hb1, hy⟩
   obtain ⟨hn1, pf, rfl, hp, hpl⟩ := hy HPO.out
   rw [HPO.out]
   rw [HSZ2.out] at hn1
   have hB : Below w.heap.size w w1 := (below_drewN (Below.refl _ _) _).trans hb1
   have HB := Lib.hid hB
   have HPF := Lib.hid hp
   have hpl2 : w.heap.size ≤ pf := by simpa using hpl
   have HN1 : Hid (n1 = dp.length) := Lib.hid (by dsimp only at hn1; omega)
   clear hB hb1 hp hn1 hy hpl
   unfold ptrTo
   have hcall2 := Lib.hid (dirty_any (H.out.below HB.out) (fun p hp => (HFIT.out p hp).2) f.name n1 f.k)
   unfold ptrTo at hcall2
   go_wp2_with fail
   refine hcall2.out.mono ?_
   rintro e w2 ⟨v2, ls, rfl, ho2, htold, hb2⟩
   obtain ⟨a2, c2, rfl⟩ := ownsRow_slice ho2
   have HB2 := Lib.hid (HB.out.trans (hb2.mono HB.out.size))
   have HO2 := Lib.hid ho2
   have HT := Lib.hid htold
   have hlsl : ls.length ≤ n := by
    have h1 := htold.length_le
    rw [List.length_map, HN.out] at h1
    exact h1
   have HPF2 := Lib.hid (HPF.out.below hb2)
   have hs2 : w.heap.size ≤ w2.heap.size := HB2.out.size
   have hs1 : w1.heap.size ≤ w2.heap.size := hb2.size
   clear ho2 htold hb2
   go_wp2_with (at_builtin; refine wpList_append_own _ rfl _ _ 175 rfl w1.heap.size 3 i0 (.int .i64 0) 1 8 Tryz.underlying175 hi0 hz0 hz1 hz2 rfl (by decide) _ _ _ rfl (HO2.out.alloc _) ⟨w2.heap.size, 0, none⟩ 1 1 [encN i] rfl rfl ?c1 ?c2 ?c3 ?c4 ?c5 ?_)
   case c1 =>
    intro j u hj
    match j, hj with
    | 0, hj =>
      cases hj
      simp [Addr_add, encN]
   case c2 => simp [encN, Value.oneCell']
   case c3 => unfold maxLen; omega
   case c4 => omega
   case c5 => simp; omega
   intro v3 w3 ho3 hgr3 _
   have hB3 : Hid (Below w.heap.size w w3) := Lib.hid ((HB2.out.alloc HB2.out.size _).grown hgr3 (by simp; omega) (fun k hk => by have := ownsRow_block HO2.out k hk; have := HB.out.size; omega))
   have hO3 : Hid (w3.ownsRow w1.heap.size 3 1 v3 (ls ++ [i]).length ((ls ++ [i]).map encN)) := Lib.hid (by simpa using ho3)
   have hPF3 : Hid (PfAt w3 pf db f.name) := Lib.hid (by
    obtain ⟨t, ht⟩ := HPF2.out
    have hpf1 := HPF.out.lt
    have hpf2 := HPF2.out.lt
    refine ⟨t, ?_⟩
    rw [hgr3.block pf (by simp; omega) (fun e => by have := ownsRow_block HO2.out pf e.symm; omega), (MapKept.heap_alloc _ _).2 pf hpf2]
    exact ht)
   obtain ⟨a3, c3, rfl⟩ := ownsRow_slice ho3
   clear ho3 hgr3
   have hls3 : ∀ x ∈ ls ++ [i], x < l.length := fun x hx => by
    rcases List.mem_append.1 hx with hx | hx
    ·obtain ⟨fr, h1, _⟩ := (HT.out.mem x).1 hx
     have := lt_of_get h1
     rwa [List.length_map] at this
    ·rw [List.mem_singleton.1 hx, HN.out]
     exact hil
   have hcall3 := Lib.hid (put_any HW (H.out.below hB3.out) HFIT.out hok hPF3.out (fresh_none H.out.owned hpl2) hO3.out (fun b hb => fresh_none H.out.owned (by have := ownsRow_block hO3.out b hb; have := HB.out.size; omega)) hls3 (by simp; omega))
   obtain ⟨d', fs', ec, hr, hg', hon, hlen', hmark, he⟩ := Sound.puts HL.out (ls ++ [i]) d (l.map (·.2)) df dp HG.out HQ.out (by
    have h1 := HT.out
    rw [HN1.out] at h1
    exact h1.puts_one HG.out (map_get HI.out) HFULL.out HDIRTY.out)
   rw [hr] at hcall3
   have HG' := Lib.hid hg'
   have HON := Lib.hid hon
   have HLEN' := Lib.hid hlen'
   have HMARK := Lib.hid hmark
   have HE := Lib.hid he
   unfold ptrTo at hcall3
   clear hr hg' hon hlen' hmark he hls3
   go_wp2_with fail
   refine hcall3.out.mono ?_
   rintro e w4 ⟨o', l', rfl, hp4, hl4, hlen4, hfit4, ht4, hg4⟩
   dsimp only at hl4 hp4
   have HP4 := Lib.hid hp4
   have HL4 := Lib.hid hl4
   have HT4 := Lib.hid ((Turn.ofBelow hB3.out).trans ht4 (fun _ _ h => h) : Turn (o.In ofPool) w w4)
   have HG4 : Hid (OGrow w.heap.size o o') := Lib.hid (fun x hx => hg4 x (Nat.lt_of_lt_of_le hx hB3.out.size))
   clear hp4 hl4 hlen4 hfit4 ht4 hg4
   go_wp2
   go_ret
   refine ⟨o', l', d', ec, rfl, HP4.out, by rw [HL4.out]; exact HG'.out, HON.out, ⟨by rw [HL4.out]; exact HLEN'.out, fun j fr hj => ?_⟩, HE.out, fun hc => ?_, HT4.out, HG4.out⟩
   ·obtain ⟨dd, h1, h2, _⟩ := HMARK.out j fr hj
    exact ⟨dd, by rw [HL4.out]; exact h1, h2⟩
   ·obtain ⟨dd, h1, _, _, h4⟩ := HMARK.out i f (map_get HI.out)
    exact ⟨_, by rw [HL4.out]; exact h1, h4 hc (by simp)⟩
end Go.Proofs.YtolieljpnafbhaaGreatDoor
namespace Go.Proofs.YtolieljpnafbhaaGreatDoor
open Go.RowKit Go.Maps Go.MapKept
open Go.ChangeMaps (setBlock heap_setBlock_same heap_setBlock_other)
def Fewer (fs fs' : List Frm) : Prop := fs'.length = fs.length ∧ ∀ (j : Nat) (x : Frm), fs'[j]? = some x → x.full = true → ∃ y, fs[j]? = some y ∧ y.full = true ∧ y.name = x.name ∧ y.k = x.k
theorem Fewer.refl (fs : List Frm) : Fewer fs fs := ⟨rfl, fun _ x h hf => ⟨x, h, hf, rfl, rfl⟩⟩
theorem Fewer.trans {a b c : List Frm} (h : Fewer a b) (k : Fewer b c) : Fewer a c := ⟨k.1.trans h.1, fun j x hx hf => by
 obtain ⟨y, h1, h2, h3, h4⟩ := k.2 j x hx hf
 obtain ⟨z, g1, g2, g3, g4⟩ := h.2 j y h1 h2
 exact ⟨z, g1, g2, g3.trans h3, g4.trans h4⟩⟩
def Struck (fs fs' : List Frm) : Prop := fs'.length = fs.length ∧ ∀ (j : Nat) (x : Frm), fs[j]? = some x → ∃ u, fs'[j]? = some { x with used := u }
theorem Struck.refl (fs : List Frm) : Struck fs fs := ⟨rfl, fun _ x h => ⟨x.used, h⟩⟩
theorem Struck.fewer {fs fs' : List Frm} (h : Struck fs fs') : Fewer fs fs' := ⟨h.1, fun j x hx hf => by
 have hl : j < fs.length := by rw [← h.1]; exact lt_of_get hx
 obtain ⟨u, hu⟩ := h.2 j fs[j] (List.getElem?_eq_getElem hl)
 rw [hx] at hu
 cases hu
 exact ⟨fs[j], List.getElem?_eq_getElem hl, hf, rfl, rfl⟩⟩
theorem Cleaned.fewer {fs fs' : List Frm} (h : Cleaned fs fs') : Fewer fs fs' := ⟨h.1, fun j x hx hf => by
 have hl : j < fs.length := by rw [← h.1]; exact lt_of_get hx
 obtain ⟨u, hu, _⟩ := h.2 j fs[j] (List.getElem?_eq_getElem hl)
 rw [hx] at hu
 cases hu
 exact ⟨fs[j], List.getElem?_eq_getElem hl, hf, rfl, rfl⟩⟩
theorem Fewer.none {fs : List Frm} {i : Nat} (hi : i < fs.length) : Fewer fs (fs.set i Frm.none) := ⟨List.length_set, fun j x hx hf => by
 rw [get_set hi] at hx
 by_cases e : j = i
 ·rw [if_pos e] at hx
  cases hx
  cases hf
 ·rw [if_neg e] at hx
  exact ⟨x, hx, hf, rfl, rfl⟩⟩
theorem Struck.set {fs fs' : List Frm} (h : Struck fs fs') {i : Nat} {x : Frm} (hi : fs'[i]? = some x) (u : Bool) : Struck fs (fs'.set i { x with used := u }) := ⟨List.length_set.trans h.1, fun j y hy => by
 obtain ⟨v, hv⟩ := h.2 j y hy
 rw [get_set (lt_of_get hi)]
 by_cases e : j = i
 ·subst e
  rw [hv] at hi
  cases hi
  exact ⟨u, by rw [if_pos rfl]⟩
 ·exact ⟨v, by rw [if_neg e]; exact hv⟩⟩
theorem Struck.sound {d : Dsk} {fs fs' : List Frm} {L : Logic} (h : Struck fs fs') (hg : Sound d fs L) (hall : ∀ fr ∈ fs, fr.full = true) : Sound d fs' L :=
 hg.used h.1 fun i f f' hi hi' => by
  obtain ⟨u, hu⟩ := h.2 i f hi
  rw [hi'] at hu
  cases hu
  exact ⟨rfl, fun hf => by rw [hall f (List.mem_of_getElem? hi)] at hf; cases hf⟩
def TookPost (w : World) (pb db fb mb : Nat) (o : Owner) (l : List Plc) (mf : Nat) (d : Dsk) (L : Logic) (e : Ending) (w' : World) : Prop :=
 ∃ o' l' hand' d' c i, e = .returned (.tuple #[.int .i64 ((i : Nat) : Int), .int .i64 ((c : Nat) : Int)]) ∧ PoolIn w' pb db fb mb o' l' hand' mf d' ∧ Sound d' (l'.map (·.2)) L ∧ Onward d d' ∧ (c = 0 ∨ Err d d' L c) ∧
  (c = 0 → ∃ p, l'[i]? = some p ∧ p.2.full = false) ∧ Fewer (l.map (·.2)) (l'.map (·.2)) ∧ Turn (o.In ofPool) w w' ∧ OGrow w.heap.size o o'
theorem mod_cast' (i n : Nat) : ((i : Int) + 1) % (n : Int) = (((i + 1) % n : Nat) : Int) := by
 rw [Int.natCast_emod]
 rfl
def FullTo (fs : List Frm) (k : Nat) : Prop := ∀ (j : Nat) (x : Frm), j < k → fs[j]? = some x → x.full = true
set_option maxRecDepth 100000 in
set_option maxHeartbeats 4000000 in
theorem take_any (HW : WriteSaid) {w : World} {pb db fb mb : Nat} {o : Owner} {l : List Plc} {hand mf : Nat} {d : Dsk} {L : Logic} (h : PoolIn w pb db fb mb o l hand mf d) (hg : Sound d (l.map (·.2)) L) :
 Calls Tryz.prog 114 #[ptrTo pb] w (TookPost w pb db fb mb o l mf d L) := by
 have H := Lib.hid h
 have HG := Lib.hid hg
 have HRow := Lib.hid h.row
 have hn := h.most
 have HS := Lib.hid h.shaped
 have hhand := h.hand
 have hpbl := h.head.lt
 obtain ⟨⟨-, hc1, -, hc3, -⟩, -⟩ := h.head.cells
 clear h hg
 unfold ptrTo
 generalize hN : l.length = n at *
 have HN := Lib.hid hN
 clear hN
 go_enter Tryz.func114, Tryz.ntmps114
 go_wp2
 go_step3
 go_wp2
 go_loopw [15] (fun i wr => ∃ k : Nat, k ≤ n ∧ i = .int .i64 (k : Int) ∧ FullTo (l.map (·.2)) k ∧ Below w.heap.size w wr) (fun i _ => n - (intOf i).toNat)
 case atStart => exact ⟨0, Nat.zero_le _, rfl, fun j x hj => absurd hj (Nat.not_lt_zero j), Below.refl _ _⟩
 case round =>
  obtain ⟨k, hk, rfl, hft, hb⟩ := hrel
  by_cases hlt : k < n
  ·obtain ⟨a, c, f, hi⟩ := HS.out.get HN.out hlt
   obtain ⟨h0, h1, h2, h3, h4, h5, h6⟩ := (HRow.out.below hb).seven hi
   have hc1' : wr.cell? ⟨pb, 1, none⟩ = some (.slice (some ⟨fb, 0, none⟩) n n) := by rw [hb.cell (p := ⟨pb, 1, none⟩) hpbl]; exact hc1
   have HB := Lib.hid hb
   have HFT := Lib.hid hft
   have HI := Lib.hid hi
   clear hi hb hft
   cases hfull : f.full with
   | false =>
     rw [hfull] at h0
     have HFULL := Lib.hid hfull
     clear hfull
     go_wp2
     rw [Exit.noGoto_ret]
     go_ret2
     exact ⟨o, l, hand, d, 0, k, rfl, H.out.below (HB.out.alloc HB.out.size _), HG.out, Onward.refl d, .inl rfl, fun _ => ⟨_, HI.out, HFULL.out⟩, Fewer.refl _, Turn.ofBelow (HB.out.alloc HB.out.size _), OGrow.refl _ _⟩
   | true =>
     rw [hfull] at h0
     have HFULL := Lib.hid hfull
     clear hfull
     go_wp2
     go_roundw
     case rel =>
      refine ⟨k + 1, by omega, by go_num, fun j x hj hx => ?_, HB.out.alloc HB.out.size _⟩
      by_cases e : j = k
      ·subst e
       rw [map_get HI.out] at hx
       cases hx
       exact HFULL.out
      ·exact HFT.out j x (by omega) hx
     case measure => simp [intOf]; omega
  ·obtain rfl : k = n := by omega
   have hall : ∀ fr ∈ l.map (·.2), fr.full = true := fun fr hfr => by
    obtain ⟨j, hj⟩ := List.mem_iff_getElem?.1 hfr
    exact hft j fr (by have := lt_of_get hj; rw [List.length_map, HN.out] at this; exact this) hj
   have HALL := Lib.hid hall
   have H1 := Lib.hid (H.out.below hb)
   have HB := Lib.hid hb
   clear hft hb hall hc1 hc3
   obtain ⟨⟨-, hc1, -, hc3, -⟩, -⟩ := H1.out.head.cells
   rw [HN.out] at hc1
   go_wp2
   go_step3
   go_wp2
   generalize wr = W1 at *
   go_loopw [6, 35] (fun i c wr => ∃ (tt ii : Nat) (l2 : List Plc), tt ≤ 2 * k ∧ c = .int .i64 (tt : Int) ∧ i = .int .i64 (ii : Int) ∧ ii = (hand + tt) % k ∧ PoolIn wr pb db fb mb o l2 hand mf d ∧ Struck (l.map (·.2)) (l2.map (·.2)) ∧
    (∀ s, s < tt → ∀ x, (l2.map (·.2))[(hand + s) % k]? = some x → x.used = false) ∧ Turn (· = fb) W1 wr) (fun _ c _ => 2 * k - (intOf c).toNat)
   case atStart => exact ⟨0, hand, l, by omega, rfl, rfl, (Nat.mod_eq_of_lt hhand).symm, H1.out, Struck.refl _, fun s hs => absurd hs (Nat.not_lt_zero s), Turn.refl _ _⟩
   case round =>
    obtain ⟨tt, ii, l2, htt, rfl, rfl, hii, hp2, hst, hsw, ht2⟩ := hrel
    have hlen2 : l2.length = k := by
     have := hst.1
     rw [List.length_map, List.length_map, HN.out] at this
     exact this
    have hik : ii < k := by rw [hii]; exact Nat.mod_lt _ (by omega)
    obtain ⟨a, c, f, hi⟩ := hp2.shaped.get hlen2 hik
    obtain ⟨h0, h1, h2, h3, h4, h5, h6⟩ := hp2.row.seven hi
    have hz := hp2.row.free (ii * 7 + 6)
    obtain ⟨⟨-, hc1, -, hc3, -⟩, -⟩ := hp2.head.cells
    rw [hlen2] at hc1
    have hm := mod_cast' ii k
    have HII := Lib.hid hii
    have HP2 := Lib.hid hp2
    have HST := Lib.hid hst
    have HSW := Lib.hid hsw
    have HT2 := Lib.hid ht2
    have HLEN2 := Lib.hid hlen2
    have HI := Lib.hid hi
    have HM := Lib.hid hm
    clear hii hp2 hst hsw ht2 hlen2 hi hm
    by_cases hcont : tt < 2 * k ∧ f.used = true
    ·obtain ⟨hlt, hu⟩ := hcont
     rw [hu] at h6
     clear hu
     go_wp2
     go_roundw
     case rel =>
      have hmark := HP2.out.mark (j := 6) (u := .bool false) (x := { f with used := false }) HI.out (by decide) rfl rfl rfl rfl rfl
      refine ⟨tt + 1, (ii + 1) % k, _, by omega, by go_num, ?_, ?_, hmark, ?_, ?_, HT2.out.setCell _ _ (.inl rfl)⟩
      ·rw [HM.out]
      ·rw [HII.out, Nat.mod_add_mod, Nat.add_assoc]
      ·rw [map_set]
       exact HST.out.set (map_get HI.out) false
      ·intro s hs x hx
       rw [map_set, get_set (by rw [List.length_map, HLEN2.out]; exact hik)] at hx
       by_cases e : (hand + s) % k = ii
       ·rw [if_pos e] at hx
        cases hx
        rfl
       ·rw [if_neg e] at hx
        refine HSW.out s ?_ x hx
        rcases Nat.lt_or_ge s tt with h | h
        ·exact h
        ·obtain rfl : s = tt := by omega
         exact absurd HII.out.symm e
     case measure => simp [intOf]; omega
    ·have hused : f.used = false := by
      by_cases hlt : tt < 2 * k
      ·cases hu : f.used with
       | false => rfl
       | true => exact absurd ⟨hlt, hu⟩ hcont
      ·obtain rfl : tt = 2 * k := by omega
       refine HSW.out 0 (by omega) f ?_
       have e1 : ii = hand := by rw [HII.out, Nat.mul_comm, Nat.add_mul_mod_self_left, Nat.mod_eq_of_lt hhand]
       rw [Nat.add_zero, Nat.mod_eq_of_lt hhand, ← e1]
       exact map_get HI.out
     rw [hused] at h6
     clear hcont hused
     have hfull : f.full = true := by
      have hl : ii < (l.map (·.2)).length := by rw [List.length_map, HN.out]; exact hik
      obtain ⟨u, hu⟩ := HST.out.2 ii _ (List.getElem?_eq_getElem hl)
      rw [map_get HI.out] at hu
      have e := Option.some.inj hu
      dsimp only at e
      have h1 := HALL.out _ (List.getElem_mem hl)
      rw [e]
      exact h1
     have HSD : Hid (Sound d (l2.map (·.2)) L) := Lib.hid (HST.out.sound HG.out HALL.out)
     have HTW : Hid (Turn (o.In ofPool) w wr) := Lib.hid ((Turn.ofBelow HB.out).trans HT2.out (fun x _ e => e ▸ H.out.in_fb))
     have HFULL := Lib.hid hfull
     have hnk : f.name.size ≤ 1000 ∧ f.k < 9223372036854775808 := by
      obtain ⟨ps, fl, hL, hk'⟩ := HSD.out.frames f (List.mem_of_getElem? (map_get HI.out)) hfull
      have := (HSD.out.fitPlc _ (List.mem_of_getElem? HI.out)).2
      exact ⟨okName_1000 (HSD.out.ok f.name (by rw [hL]; rfl)), by dsimp only at this; omega⟩
     obtain ⟨hns, hkb⟩ := hnk
     clear hfull
     cases hdirty : f.dirty with
     | false =>
       rw [hdirty] at h5
       have HDIRTY := Lib.hid hdirty
       clear hdirty
       by_cases hlt : tt < 2 * k
       all_goals
        go_wp2_with fail
        refine (empty_any (HP2.out.below ((Below.refl _ _).alloc (Nat.le_refl _) _)) HI.out HFULL.out hns hkb).mono ?_
        rintro e w6 ⟨rfl, hp6, ht6⟩
        have HP6 := Lib.hid hp6
        have HT6 := Lib.hid ht6
        clear hp6 ht6
        obtain ⟨⟨-, hc1, -⟩, hz3, -⟩ := HP6.out.head.cells
        obtain ⟨⟨-, -, -, hc3, -⟩, -⟩ := HP6.out.head.cells
        rw [List.length_set, HLEN2.out] at hc1
        go_wp2
        rw [Exit.noGoto_ret]
        go_ret2
        rw [HM.out]
        have hil : ii < l2.length := lt_of_get HI.out
        refine ⟨o, l2.set ii (.slice none 0 0, Frm.none), (ii + 1) % k, d, 0, ii, rfl, HP6.out.reHead ((Turn.refl (· = pb) w6).setCell ⟨pb, 3, none⟩ _ (.inl rfl)) (HP6.out.head.setHand _) (by rw [List.length_set, HLEN2.out]; exact Nat.mod_lt _ (by omega)) HP6.out.full, ?_, Onward.refl d, .inl rfl, fun _ => ⟨(.slice none 0 0, Frm.none), by rw [get_set hil, if_pos rfl], rfl⟩, ?_, ?_, OGrow.refl _ _⟩
        ·rw [map_set]
         exact HSD.out.reset (map_get HI.out) HDIRTY.out rfl (.inl rfl)
        ·rw [map_set]
         exact HST.out.fewer.trans (Fewer.none (by rw [List.length_map]; exact hil))
        ·refine ((HTW.out.alloc _).trans (HT6.out.mono (S' := o.In ofPool) (fun x _ e => e.elim (fun e => e ▸ HP6.out.in_fb) (fun e => e ▸ ⟨_, HP6.out.omb, show 8 < 10 by decide⟩))) ?_).trans ((Turn.refl (o.In ofPool) w6).setCell ⟨pb, 3, none⟩ _ (.inl ⟨_, HP6.out.opb, show 6 < 10 by decide⟩)) ?_
         all_goals
          intro x hx ⟨t, h1, h2⟩
          exact ⟨t, by exact h1, h2⟩
     | true =>
       rw [hdirty] at h5
       have HDIRTY := Lib.hid hdirty
       clear hdirty
       by_cases hlt : tt < 2 * k
       all_goals
        go_wp2_with fail
        refine (back_any HW (HP2.out.below ((Below.refl _ _).alloc (Nat.le_refl _) _)) HSD.out HI.out HFULL.out HDIRTY.out).mono ?_
        rintro e w5 ⟨o5, l5, d5, c5, rfl, hp5, hg5, hon5, hcl5, he5, hcl0, ht5, hgr5⟩
        have HP5 := Lib.hid hp5
        have HG5 := Lib.hid hg5
        have HON5 := Lib.hid hon5
        have HCL5 := Lib.hid hcl5
        have HE5 := Lib.hid he5
        have HC0 := Lib.hid hcl0
        have HTA : Hid (Turn (o.In ofPool) w w5) := Lib.hid ((HTW.out.alloc _).trans ht5 (fun _ _ h => h))
        have HGA : Hid (OGrow w.heap.size o o5) := Lib.hid (fun x hx => hgr5 x (by have := HTW.out.size; simp; omega))
        have hlen5 : l5.length = k := by
         have := hcl5.1
         rw [List.length_map, List.length_map, HLEN2.out] at this
         exact this
        have HLEN5 := Lib.hid hlen5
        clear hp5 hg5 hon5 hcl5 he5 hcl0 ht5 hgr5 hlen5
        by_cases hc5 : c5 = 0
        ·subst hc5
         have hf5 : ∃ v5 f5, l5[ii]? = some (v5, f5) ∧ f5.full = true ∧ f5.dirty = false ∧ f5.name = f.name ∧ f5.k = f.k := by
          obtain ⟨fr, h1, h2⟩ := HC0.out rfl
          obtain ⟨dd, g1, _⟩ := HCL5.out.2 ii f (map_get HI.out)
          rw [h1] at g1
          have e := Option.some.inj g1
          have hl5 : ii < l5.length := by rw [HLEN5.out]; exact hik
          have e2 : l5[ii].2 = fr := by
           rw [List.getElem?_map, List.getElem?_eq_getElem hl5] at h1
           exact Option.some.inj h1
          refine ⟨l5[ii].1, fr, by rw [List.getElem?_eq_getElem hl5, ← e2], ?_, h2, by rw [e], by rw [e]⟩
          rw [e]
          exact HFULL.out
         obtain ⟨v5, f5, hi5, hff5, hfd5, hfn5, hfk5⟩ := hf5
         have HI5 := Lib.hid hi5
         have HFD5 := Lib.hid hfd5
         have hns5 : f5.name.size ≤ 1000 := by rw [hfn5]; exact hns
         have hkb5 : f5.k < 9223372036854775808 := by rw [hfk5]; exact hkb
         have hcall5 := Lib.hid (empty_any HP5.out hi5 hff5 hns5 hkb5)
         clear hi5 hfd5 hff5 hfn5 hfk5
         go_wp2_with fail
         refine hcall5.out.mono ?_
         rintro e w6 ⟨rfl, hp6, ht6⟩
         have HP6 := Lib.hid hp6
         have HT6 := Lib.hid ht6
         clear hp6 ht6
         obtain ⟨⟨-, hc1, -⟩, hz3, -⟩ := HP6.out.head.cells
         obtain ⟨⟨-, -, -, hc3, -⟩, -⟩ := HP6.out.head.cells
         rw [List.length_set, HLEN5.out] at hc1
         go_wp2
         rw [Exit.noGoto_ret]
         go_ret2
         rw [HM.out]
         have hil : ii < l5.length := lt_of_get HI5.out
         refine ⟨o5, l5.set ii (.slice none 0 0, Frm.none), (ii + 1) % k, d5, 0, ii, rfl, HP6.out.reHead ((Turn.refl (· = pb) w6).setCell ⟨pb, 3, none⟩ _ (.inl rfl)) (HP6.out.head.setHand _) (by rw [List.length_set, HLEN5.out]; exact Nat.mod_lt _ (by omega)) HP6.out.full, ?_, HON5.out, .inl rfl, fun _ => ⟨(.slice none 0 0, Frm.none), by rw [get_set hil, if_pos rfl], rfl⟩, ?_, ?_, HGA.out⟩
         ·rw [map_set]
          exact HG5.out.reset (map_get HI5.out) HFD5.out rfl (.inl rfl)
         ·rw [map_set]
          exact (HST.out.fewer.trans HCL5.out.fewer).trans (Fewer.none (by rw [List.length_map]; exact hil))
         ·refine (HTA.out.trans (HT6.out.mono (S' := o5.In ofPool) (fun x _ e => e.elim (fun e => e ▸ HP6.out.in_fb) (fun e => e ▸ ⟨_, HP6.out.omb, show 8 < 10 by decide⟩))) ?_).trans ((Turn.refl (o5.In ofPool) w6).setCell ⟨pb, 3, none⟩ _ (.inl ⟨_, HP6.out.opb, show 6 < 10 by decide⟩)) ?_
          all_goals
           intro x hx ⟨t, h1, h2⟩
           exact ⟨t, by first | (rw [← HGA.out x hx]; exact h1) | exact h1, h2⟩
        ·have hc5' : ¬ (c5 : Int) = 0 := by omega
         obtain ⟨⟨-, -, -, hc3, -⟩, hz3, -⟩ := HP5.out.head.cells
         have HC5 := Lib.hid hc5
         clear hc5
         go_wp2
         rw [Exit.noGoto_ret]
         go_ret2
         refine ⟨o5, l5, ii, d5, c5, 0, rfl, HP5.out.reHead ((Turn.refl (· = pb) w5).setCell ⟨pb, 3, none⟩ _ (.inl rfl)) (HP5.out.head.setHand _) (by rw [HLEN5.out]; exact hik) HP5.out.full, HG5.out, HON5.out, HE5.out, fun h => absurd h HC5.out, HST.out.fewer.trans HCL5.out.fewer, ?_, HGA.out⟩
         exact HTA.out.trans ((Turn.refl (o5.In ofPool) w5).setCell ⟨pb, 3, none⟩ _ (.inl ⟨_, HP5.out.opb, show 6 < 10 by decide⟩)) (fun x hx ⟨t, h1, h2⟩ => ⟨t, by rw [← HGA.out x hx]; exact h1, h2⟩)
end Go.Proofs.YtolieljpnafbhaaGreatDoor
namespace Go.Proofs.YtolieljpnafbhaaGreatDoor
open Go.RowKit Go.Maps Go.MapKept
open Go.ChangeMaps (setBlock heap_setBlock_same heap_setBlock_other)
theorem pagesTo_bound (name : Name) {B : Nat} (fs : List Frm) (h : ∀ f ∈ fs, f.full = true → f.dirty = true → f.name = name → f.k < B) : ∀ n0, n0 ≤ B → pagesTo name n0 fs ≤ B := by
 induction fs with
 | nil => intro n0 hn; exact hn
 | cons f fs ih =>
   intro n0 hn
   have hf := h f (by simp)
   unfold pagesTo at ih ⊢
   rw [List.foldl_cons]
   refine ih (fun g hg => h g (by simp [hg])) _ ?_
   unfold pagesStep
   split
   ·rename_i hc
    have := hf hc.1 hc.2.1 hc.2.2
    omega
   ·exact hn
theorem pagesTo_base (name : Name) (fs : List Frm) : ∀ n0, n0 ≤ pagesTo name n0 fs := by
 induction fs with
 | nil => intro n0; exact Nat.le_refl _
 | cons f fs ih =>
   intro n0
   unfold pagesTo at ih ⊢
   rw [List.foldl_cons]
   refine Nat.le_trans ?_ (ih _)
   unfold pagesStep
   split <;> omega
theorem pagesTo_frame (name : Name) (fs : List Frm) {f : Frm} (hf : f ∈ fs) (h1 : f.full = true) (h2 : f.dirty = true) (h3 : f.name = name) : ∀ n0, f.k + 1 ≤ pagesTo name n0 fs := by
 induction fs with
 | nil => cases hf
 | cons g fs ih =>
   intro n0
   unfold pagesTo at ih ⊢
   rw [List.foldl_cons]
   rcases List.mem_cons.1 hf with rfl | hf
   ·refine Nat.le_trans ?_ (pagesTo_base name fs _)
    unfold pagesStep
    rw [if_pos ⟨h1, h2, h3⟩]
    omega
   ·exact ih hf _
theorem Sound.pagesTo {d : Dsk} {fs : List Frm} {L : Logic} (h : Sound d fs L) {n : Name} {ps : List Pg} {fl : Bool} (hL : mget L n = some (.inl (ps, fl))) {f : DFile} {dp : List Pg} (q : OnDisk d fs n ps fl f dp) : pagesTo n dp.length fs = ps.length := by
 refine Nat.le_antisymm (pagesTo_bound n fs (fun g hg h1 _ h3 => ?_) _ q.le) ?_
 ·obtain ⟨ps', fl', hL', hk⟩ := h.frames g hg h1
  rw [h3, hL] at hL'
  cases hL'
  exact lt_of_get hk
 ·rcases Nat.eq_or_lt_of_le q.le with e | hlt
  ·rw [← e]
   exact pagesTo_base _ _ _
  ·rcases q.each (ps.length - 1) (by omega) with h1 | ⟨j, g, g1, g2, g3, g4, g5⟩
   ·omega
   ·have := pagesTo_frame n fs (List.mem_of_getElem? g1) g2 g3 g4 dp.length
    omega
def pagesAns (d : Dsk) (ps : List Pg) : Nat × Nat := if d.dead = true then (0, 6) else (ps.length, 0)
theorem pages_sound {w : World} {pb db fb mb : Nat} {o : Owner} {l : List Plc} {hand mf : Nat} {d : Dsk} {L : Logic} (h : PoolIn w pb db fb mb o l hand mf d) (hg : Sound d (l.map (·.2)) L) {name : Name} {ps : List Pg} {fl : Bool} (hL : mget L name = some (.inl (ps, fl))) :
 Calls Tryz.prog 34 #[ptrTo pb, .string name] w fun e w' => e = .returned (.tuple #[.int .i64 ((pagesAns d ps).1 : Int), .int .i64 ((pagesAns d ps).2 : Int)]) ∧ Below w.heap.size w w' := by
 obtain ⟨f, dp, q, hlive, hdead⟩ := hg.onDisk hL
 refine (pages_any h (fun p hp => (hg.fitPlc p hp).2) name (okName_1000 (hg.ok name (by rw [hL]; rfl)))).mono ?_
 rintro e w' ⟨rfl, hb⟩
 refine ⟨?_, hb⟩
 unfold pagesAns
 cases hd : d.dead with
 | true =>
   rw [(hdead hd).2]
   rfl
 | false =>
   rw [(hlive hd).2, (hlive hd).1, if_pos rfl, show 256 * dp.length / 256 = dp.length by omega, hg.pagesTo hL q]
   rfl
theorem Sound.read {d : Dsk} {fs : List Frm} {L : Logic} (h : Sound d fs L) {n : Name} {ps : List Pg} {fl : Bool} (hL : mget L n = some (.inl (ps, fl))) {f : DFile} {dp : List Pg} (q : OnDisk d fs n ps fl f dp) (hd : d.dead = false) {k : Nat} {b : Pg} (hk : ps[k]? = some b)
 (hno : ¬ DirtyAt fs n k) : k < dp.length ∧ d.read n (256 * k) 256 = (mkPage (tagOf n) k b, 0) := by
 have hkl := lt_of_get hk
 rcases q.each k hkl with ⟨h1, h2⟩ | h1
 ·refine ⟨h1, ?_⟩
  have hok : okName n = true := h.ok n (by rw [hL]; rfl)
  unfold Dsk.read
  rw [hd, if_neg (by simp), hok, if_neg (by simp), q.get]
  dsimp only
  rw [q.now, pagesFrom_get q.sdp h1, Nat.zero_add]
  have e : dp[k] = b := by
   rw [hk, List.getElem?_eq_getElem h1] at h2
   exact Option.some.inj h2
  rw [e]
 ·exact absurd h1 hno
theorem Sound.mark {d : Dsk} {fs : List Frm} {L : Logic} (h : Sound d fs L) {i : Nat} {x : Frm} (hi : fs[i]? = some x) (hx : x.full = true) (u : Bool) : Sound d (fs.set i { x with used := u }) L :=
 h.used List.length_set fun j f f' hj hj' => by
  rw [get_set (lt_of_get hi)] at hj'
  by_cases e : j = i
  ·rw [if_pos e] at hj'
   rw [e, hi] at hj
   cases hj
   cases hj'
   exact ⟨rfl, fun hf => by rw [hx] at hf; cases hf⟩
  ·rw [if_neg e, hj] at hj'
   cases hj'
   exact ⟨rfl, fun _ => rfl⟩
def BringPost (w : World) (pb db fb mb n : Nat) (o : Owner) (d : Dsk) (L : Logic) (name : Name) (k : Nat) (e : Ending) (w' : World) : Prop :=
 ∃ o' l' hand' mf' d' c i, e = .returned (.tuple #[.int .i64 ((i : Nat) : Int), .int .i64 ((c : Nat) : Int)]) ∧ PoolIn w' pb db fb mb o' l' hand' mf' d' ∧ l'.length = n ∧ Sound d' (l'.map (·.2)) L ∧ Onward d d' ∧ (c = 0 ∨ Err d d' L c) ∧
  (c = 0 → ∃ v f, l'[i]? = some (v, f) ∧ f.full = true ∧ f.name = name ∧ f.k = k) ∧ Turn (o.In ofPool) w w' ∧ OGrow w.heap.size o o'
set_option maxRecDepth 100000 in
set_option maxHeartbeats 4000000 in
theorem bring_any (HW : WriteSaid) {w : World} {pb db fb mb : Nat} {o : Owner} {l : List Plc} {hand mf : Nat} {d : Dsk} {L : Logic} (h : PoolIn w pb db fb mb o l hand mf d) (hg : Sound d (l.map (·.2)) L) {name : Name} {ps : List Pg} {fl : Bool} (hL : mget L name = some (.inl (ps, fl))) {k : Nat} {b : Pg} (hk : ps[k]? = some b) :
 Calls Tryz.prog 81 #[ptrTo pb, .string name, .int .i64 (k : Int)] w (BringPost w pb db fb mb l.length o d L name k) := by
 obtain ⟨f, dp, q, hlive, hdead⟩ := hg.onDisk hL
 have hs := okName_1000 (hg.ok name (by rw [hL]; rfl))
 have hkl := lt_of_get hk
 have hmost := q.most
 have hbl : b.length ≤ 240 := q.short b (List.mem_of_getElem? hk)
 have hcall := Lib.hid (pages_sound h hg hL)
 have H := Lib.hid h
 have HG := Lib.hid hg
 have HL := Lib.hid hL
 have HK := Lib.hid hk
 have HQ := Lib.hid q
 have HLIVE := Lib.hid hlive
 have HDEAD := Lib.hid hdead
 have hn := h.most
 have hpbl := h.head.lt
 obtain ⟨m, hm1, hm2⟩ := h.wher
 have HM1 := Lib.hid hm1
 have HM2 := Lib.hid hm2
 have hgk := Lib.hid (good_pkey (s := name) (n := k) (by unfold maxLen; omega) (by omega))
 clear h hg hL hk q hlive hdead hm1 hm2
 unfold ptrTo at *
 unfold pagesAns at hcall
 cases hd : d.dead with
 | true =>
   rw [hd, if_pos rfl] at hcall
   have HD := Lib.hid hd
   clear hd
   go_enter Tryz.func81, Tryz.ntmps81
   go_wp2_with fail
   refine hcall.out.mono ?_
   rintro e w1 ⟨rfl, hb⟩
   have HB := Lib.hid hb
   clear hb
   go_wp2
   go_ret2
   exact ⟨o, l, hand, mf, d, 6, 0, rfl, H.out.below HB.out, rfl, HG.out, Onward.refl d, .inr (.inr ⟨rfl, HD.out⟩), fun h => absurd h (by decide), Turn.ofBelow HB.out, OGrow.refl _ _⟩
 | false =>
   rw [hd, if_neg (by simp)] at hcall
   have HD := Lib.hid hd
   clear hd
   have hkn : ¬ ((k : Int) ≥ (ps.length : Int)) := by omega
   have hk0 : ¬ ((k : Int) < 0) := by omega
   generalize hP : ps.length = P at *
   have HP := Lib.hid hP
   clear hP
   cases hmg : mget m (name, k) with
   | some i =>
     have HMG := Lib.hid hmg
     clear hmg
     obtain ⟨fr, hi, hf1, hf2, hf3⟩ := (HM2.out name k i).1 HMG.out
     have hil : i < l.length := by have := lt_of_get hi; rwa [List.length_map] at this
     go_enter Tryz.func81, Tryz.ntmps81
     go_wp2_with fail
     refine hcall.out.mono ?_
     rintro e w1 ⟨rfl, hb⟩
     have HB := Lib.hid hb
     have H1 := Lib.hid (H.out.below hb)
     have HM3 : Hid (WhereMap w1 mb m) := Lib.hid (HM1.out.kept (hb.block mb HM1.out.lt))
     clear hb
     obtain ⟨⟨-, hc1, hc2, -⟩, -⟩ := H1.out.head.cells
     have hz : ∀ W : World, (zeroValue 3).run Tryz.prog W = .ok (.int .i64 0) W := fun W => by kernel_rfl
     obtain ⟨a, c, f0, hi'⟩ := H1.out.shaped.get rfl hil
     obtain rfl : f0 = fr := by
      have := map_get hi'
      rw [hi] at this
      exact (Option.some.inj this).symm
     obtain ⟨-, -, -, -, -, -, h6⟩ := H1.out.row.seven hi'
     have hz6 := H1.out.row.free (i * 7 + 6)
     have HI' := Lib.hid hi'
     clear hi hi'
     go_wp2_with (at_lookup; refine wpList_look _ rfl _ _ _ _ rfl 3 keyed_pkey nameNum_inj Tryz.underlying146 (hz _) mb m rfl HM3.out (name, k) rfl hgk.out ?_; unfold mhas; rw [HMG.out]; simp only [Option.map_some, Option.getD_some, Option.isSome_some])
     go_ret2
     have hmark := H1.out.mark (j := 6) (u := .bool true) (x := { f0 with used := true }) HI'.out (by decide) rfl rfl rfl rfl rfl
     refine ⟨o, _, hand, mf, d, 0, i, rfl, hmark, List.length_set, ?_, Onward.refl d, .inl rfl, fun _ => ⟨.slice a f0.bytes.length c, { f0 with used := true }, by rw [get_set hil, if_pos rfl], hf1, hf2, hf3⟩, (Turn.ofBelow HB.out).setCell _ _ (.inl H.out.in_fb), OGrow.refl _ _⟩
     rw [map_set]
     exact HG.out.mark (map_get HI'.out) hf1 true
   | none =>
     have HMG := Lib.hid hmg
     clear hmg
     have hnot : ∀ (j : Nat) (fj : Frm), (l.map (·.2))[j]? = some fj → fj.full = true → fj.name = name → fj.k = k → False := fun j fj h1 h2 h3 h4 => by
      have := (HM2.out name k j).2 ⟨fj, h1, h2, h3, h4⟩
      rw [HMG.out] at this
      cases this
     have HNOT := Lib.hid hnot
     obtain ⟨hkd, hrd⟩ := HG.out.read HL.out HQ.out HD.out HK.out (fun ⟨j, fr, h1, h2, _, h4, h5⟩ => hnot j fr h1 h2 h4 h5)
     obtain ⟨hsz, hpo⟩ := HLIVE.out HD.out
     have HRD := Lib.hid hrd
     have HSZ := Lib.hid hsz
     have HPO := Lib.hid hpo
     have hdpl : Hid (dp.length ≤ 65536) := Lib.hid (by have := HQ.out.le; have := HP.out; omega)
     clear hnot hrd hsz hpo
     go_enter Tryz.func81, Tryz.ntmps81
     go_wp2_with fail
     refine hcall.out.mono ?_
     rintro e w1 ⟨rfl, hb⟩
     have HB := Lib.hid hb
     have H1 := Lib.hid (H.out.below hb)
     have HM3 : Hid (WhereMap w1 mb m) := Lib.hid (HM1.out.kept (hb.block mb HM1.out.lt))
     clear hb
     obtain ⟨⟨hc0, -, hc2, -⟩, -⟩ := H1.out.head.cells
     unfold ptrTo at hc0
     have hz : ∀ W : World, (zeroValue 3).run Tryz.prog W = .ok (.int .i64 0) W := fun W => by kernel_rfl
     go_wp2_with (at_lookup; refine wpList_look _ rfl _ _ _ _ rfl 3 keyed_pkey nameNum_inj Tryz.underlying146 (hz _) mb m rfl HM3.out (name, k) rfl hgk.out ?_; unfold mhas; rw [HMG.out]; simp only [Option.map_none, Option.getD_none, Option.isSome_none])
     refine (pfOpen_any H1.out.disk name hs).mono ?_
     rintro e w2 ⟨v2, rfl, hb2, hy, -⟩
     obtain ⟨pf, rfl, hp, hpl⟩ := hy HPO.out
     rw [HPO.out]
     have HPF := Lib.hid hp
     have H2 := Lib.hid (H1.out.below hb2)
     have HB2 := Lib.hid (HB.out.trans (hb2.mono HB.out.size))
     clear hb2 hy hp hz
     unfold ptrTo
     go_wp2_with fail
     refine (pfRead_ok H2.out.disk HPF.out hs k (256 * dp.length) b HSZ.out (by omega) (by have := hdpl.out; omega) HRD.out hbl).mono ?_
     rintro e w3 ⟨v3, rfl, ho3, hb3⟩
     obtain ⟨a3, c3, rfl⟩ := ownsRow_slice ho3
     have H3 := Lib.hid (H2.out.below hb3)
     have HB3 := Lib.hid (HB2.out.trans (hb3.mono HB2.out.size))
     have HO3 := Lib.hid ho3
     have hs3 : w.heap.size ≤ w2.heap.size := HB2.out.size
     have HFREE : Hid (∀ b', (Value.slice a3 b.length c3).ownBlock = some b' → o b' = none) := Lib.hid (fun b' hb' => fresh_none H.out.owned (by have := ownsRow_block ho3 b' hb'; omega))
     have HV3 : Hid (∀ b', (Value.slice a3 b.length c3).ownBlock = some b' → b' < w3.heap.size) := Lib.hid (fun b' hb' => (ownBlock_old ho3 b' hb').1)
     clear ho3 hb3
     go_wp2_with fail
     refine (take_any HW H3.out HG.out).mono ?_
     rintro e w4 ⟨o4, l4, hand4, d4, c4, i4, rfl, hp4, hg4, hon4, he4, hc40, hfew4, ht4, hgr4⟩
     have HP4 := Lib.hid hp4
     have HG4 := Lib.hid hg4
     have HON4 := Lib.hid hon4
     have HE4 := Lib.hid he4
     have HC40 := Lib.hid hc40
     have HFEW4 := Lib.hid hfew4
     have HT4 := Lib.hid ((Turn.ofBelow HB3.out).trans ht4 (fun _ _ h => h) : Turn (o.In ofPool) w w4)
     have HGR4 : Hid (OGrow w.heap.size o o4) := Lib.hid (fun x hx => hgr4 x (Nat.lt_of_lt_of_le hx HB3.out.size))
     have HO4 : Hid (w4.ownsRow w2.heap.size 5 1 (.slice a3 b.length c3) b.length (b.map bv)) := Lib.hid (ht4.ownsRow HO3.out (fun b' hb' => Owner.not_in_none (HFREE.out b' hb')))
     have HFREE4 : Hid (∀ b', (Value.slice a3 b.length c3).ownBlock = some b' → o4 b' = none) := Lib.hid (fun b' hb' => by rw [hgr4 b' (HV3.out b' hb')]; exact HFREE.out b' hb')
     clear hp4 hg4 hon4 he4 hc40 hfew4 ht4 hgr4
     by_cases hc4 : c4 = 0
     ·subst hc4
      obtain ⟨p4, hi4, hp4f⟩ := HC40.out rfl
      have HI4 := Lib.hid hi4
      have hil4 := lt_of_get hi4
      have HPF4 := Lib.hid hp4f
      have hnew4 : ∀ (j : Nat) (fj : Frm), (l4.map (·.2))[j]? = some fj → fj.full = true → fj.name = name → fj.k = k → False := fun j fj h1 h2 h3 h4 => by
       obtain ⟨y, g1, g2, g3, g4⟩ := HFEW4.out.2 j fj h1 h2
       exact HNOT.out j y g1 g2 (g3.trans h3) (g4.trans h4)
      have HNEW4 := Lib.hid hnew4
      have hcall4 := Lib.hid (fill_any HP4.out hi4 hp4f ⟨true, name, k, b, false, true⟩ HO4.out HFREE4.out hnew4 hs (by show k < _; omega) false)
      unfold ptrTo at hcall4
      dsimp only at hcall4
      clear hi4 hp4f hnew4
      go_wp2_with fail
      refine hcall4.out.mono ?_
      rintro e w5 ⟨rfl, ⟨mf5, hp5⟩, ht5⟩
      have HP5 := Lib.hid hp5
      have HT5 := Lib.hid ht5
      clear hp5 ht5
      go_wp2
      go_ret2
      refine ⟨_, _, hand4, mf5, d4, 0, i4, rfl, HP5.out, by rw [List.length_set]; simpa using HFEW4.out.1, ?_, HON4.out, .inl rfl, fun _ => ⟨.slice a3 b.length c3, ⟨true, name, k, b, false, true⟩, by rw [get_set hil4, if_pos rfl], rfl, rfl, rfl⟩, ?_, ?_⟩
      ·rw [map_set]
       have hcl : p4.2.dirty = false := by
        rw [HG4.out.blank p4.2 (List.mem_of_getElem? (map_get HI4.out)) HPF4.out]
        rfl
       exact HG4.out.reset (map_get HI4.out) hcl rfl (.inr ⟨rfl, ⟨ps, fl, HL.out, HK.out⟩, fun i' fi' _ h1 h2 h3 h4 => HNEW4.out i' fi' h1 h2 h3 h4⟩)
      ·refine HT4.out.trans HT5.out (fun x hx e => ?_)
       have h1 : o4.In ofPool x := by
        rcases e with rfl | rfl | rfl
        ·exact HP4.out.in_fb
        ·exact ⟨_, HP4.out.omb, show 8 < 10 by decide⟩
        ·exact ⟨_, HP4.out.opb, show 6 < 10 by decide⟩
       obtain ⟨t, g1, g2⟩ := h1
       exact ⟨t, by rw [← HGR4.out x hx]; exact g1, g2⟩
      ·exact HGR4.out.trans (Owner.put_grow (n := w2.heap.size) (fun b' hb' => ownsRow_block HO4.out b' hb')) hs3
     ·have hc4' : ¬ (c4 : Int) = 0 := by omega
      have HC4 := Lib.hid hc4
      clear hc4
      go_wp2
      go_ret2
      exact ⟨o4, l4, hand4, mf, d4, c4, 0, rfl, HP4.out, by simpa using HFEW4.out.1, HG4.out, HON4.out, HE4.out, fun h => absurd h HC4.out, HT4.out, HGR4.out⟩
end Go.Proofs.YtolieljpnafbhaaGreatDoor
namespace Go.Proofs.YtolieljpnafbhaaGreatDoor
open Go.RowKit Go.Maps Go.MapKept
open Go.ChangeMaps (setBlock heap_setBlock_same heap_setBlock_other)
def ReadPagePost (w : World) (pb db n : Nat) (o : Owner) (d : Dsk) (L : Logic) (b : Pg) (e : Ending) (w' : World) : Prop :=
 ∃ v c d' o', e = .returned (.tuple #[v, .int .i64 ((c : Nat) : Int)]) ∧ PoolAt w' pb db n o' d' L ∧ Turn (o.In ofPool) w w' ∧ OGrow w.heap.size o o' ∧ Onward d d' ∧ (c = 0 ∨ Err d d' L c) ∧
  (c = 0 → w'.ownsRow w.heap.size 5 1 v b.length (b.map bv) ∧ ∀ x, v.ownBlock = some x → o' x = none) ∧ (c ≠ 0 → v = .slice none 0 0)
set_option maxRecDepth 100000 in
set_option maxHeartbeats 2000000 in
theorem poolRead_any (HW : WriteSaid) {w : World} {pb db n : Nat} {o : Owner} {d : Dsk} {L : Logic} (h : PoolAt w pb db n o d L) {name : Name} {ps : List Pg} {fl : Bool} (hL : mget L name = some (.inl (ps, fl))) {k : Nat} {b : Pg} (hk : ps[k]? = some b) :
 Calls Tryz.prog 35 #[ptrTo pb, .string name, .int .i64 (k : Int)] w (ReadPagePost w pb db n o d L b) := by
 obtain ⟨fb, mb, l, hand, mf, hp, rfl, hg⟩ := h
 have hbl : b.length ≤ 240 := by
  obtain ⟨f, dp, q⟩ := hg.paged _ _ _ hL
  exact q.short b (List.mem_of_getElem? hk)
 have hcall := Lib.hid (bring_any HW hp hg hL hk)
 have HL := Lib.hid hL
 have HK := Lib.hid hk
 clear hp hg hL hk
 unfold ptrTo at *
 go_enter Tryz.func35, Tryz.ntmps35
 go_wp2_with fail
 refine hcall.out.mono ?_
 rintro e w1 ⟨o1, l1, hand1, mf1, d1, c1, i1, rfl, hp1, hlen1, hg1, hon1, he1, hc01, ht1, hgr1⟩
 have HP1 := Lib.hid hp1
 have HG1 := Lib.hid hg1
 have HLEN1 := Lib.hid hlen1
 have HON1 := Lib.hid hon1
 have HE1 := Lib.hid he1
 have HC01 := Lib.hid hc01
 have HT1 := Lib.hid ht1
 have HGR1 := Lib.hid hgr1
 clear hlen1 hp1 hg1 hon1 he1 hc01 ht1 hgr1
 by_cases hc : c1 = 0
 ·subst hc
  obtain ⟨v1, f1, hi1, hf1, hf2, hf3⟩ := HC01.out rfl
  have hil1 := lt_of_get hi1
  have hbf : f1.bytes = b := by
   obtain ⟨ps', fl', hL', hk'⟩ := HG1.out.frames f1 (List.mem_of_getElem? (map_get hi1)) hf1
   rw [hf2, HL.out] at hL'
   cases hL'
   rw [hf3, HK.out] at hk'
   exact (Option.some.inj hk').symm
  have HBF := Lib.hid hbf
  have hrow := (HP1.out.each _ (List.mem_of_getElem? hi1)).1
  dsimp only at hrow
  obtain ⟨a1, cc1, rfl⟩ := ownsRow_slice hrow
  rw [hbf] at hrow hi1
  have HROW := Lib.hid hrow
  obtain ⟨-, -, -, h3, -⟩ := HP1.out.row.seven hi1
  obtain ⟨⟨-, hc1, -⟩, -⟩ := HP1.out.head.cells
  clear hi1 hf1 hf2 hf3 hbf hrow
  go_wp2_with fail
  refine (clone_any _ b _ (Rd_own HROW.out) (by omega)).mono ?_
  rintro e w2 ⟨v2, rfl, ho2, hb2⟩
  go_wp2
  go_ret2
  refine ⟨v2, 0, d1, o1, rfl, ⟨fb, mb, l1, hand1, mf1, HP1.out.below hb2, HLEN1.out, HG1.out⟩, HT1.out.thenBelow hb2, HGR1.out, HON1.out, .inl rfl, fun _ => ⟨ownsRow_base ho2 HT1.out.size, fun x hx => fresh_none HP1.out.owned (ownsRow_block ho2 x hx)⟩, fun h => absurd rfl h⟩
 ·have hc' : ¬ (c1 : Int) = 0 := by omega
  have HC := Lib.hid hc
  clear hc
  go_wp2
  go_ret2
  exact ⟨_, c1, d1, o1, rfl, ⟨fb, mb, l1, hand1, mf1, HP1.out, HLEN1.out, HG1.out⟩, HT1.out, HGR1.out, HON1.out, HE1.out, fun h => absurd h HC.out, fun _ => rfl⟩
end Go.Proofs.YtolieljpnafbhaaGreatDoor
namespace Go.Proofs.YtolieljpnafbhaaGreatDoor
open Go.RowKit Go.Maps Go.MapKept
open Go.ChangeMaps (setBlock heap_setBlock_same heap_setBlock_other)
theorem PoolIn.lay {w : World} {pb db fb mb : Nat} {o : Owner} {l : List Plc} {hand mf : Nat} {d : Dsk} (h : PoolIn w pb db fb mb o l hand mf d) {i : Nat} {u : Value} {f : Frm} (hi : l[i]? = some (u, f)) {v : Value} {b : Pg} {base : Nat}
 (hv : w.ownsRow base 5 1 v b.length (b.map bv)) (hvo : ∀ x, v.ownBlock = some x → o x = none) :
 PoolIn (((w.setCell ⟨fb, i * 7 + 3, none⟩ v).setCell ⟨fb, i * 7 + 5, none⟩ (.bool true)).setCell ⟨fb, i * 7 + 6, none⟩ (.bool true)) pb db fb mb (o.put v (9, 0)) (l.set i (v, { f with bytes := b, dirty := true, used := true })) hand mf d := by
 have hil := lt_of_get hi
 have r1 := h.row.set' (q := (v, { f with bytes := b })) hi (j := 3) (by decide) (v := v) rfl
 have g1 : (l.set i (v, { f with bytes := b }))[i]? = some (v, { f with bytes := b }) := by rw [get_set hil, if_pos rfl]
 have r2 := r1.set' (q := (v, { f with bytes := b, dirty := true })) g1 (j := 5) (by decide) (v := .bool true) rfl
 have g2 : ((l.set i (v, { f with bytes := b })).set i (v, { f with bytes := b, dirty := true }))[i]? = some (v, { f with bytes := b, dirty := true }) := by rw [get_set (by rw [List.length_set]; exact hil), if_pos rfl]
 have r3 := r2.set' (q := (v, { f with bytes := b, dirty := true, used := true })) g2 (j := 6) (by decide) (v := .bool true) rfl
 rw [List.set_set, List.set_set] at r3
 have ht : Turn (· = fb) w (((w.setCell ⟨fb, i * 7 + 3, none⟩ v).setCell ⟨fb, i * 7 + 5, none⟩ (.bool true)).setCell ⟨fb, i * 7 + 6, none⟩ (.bool true)) := (((Turn.refl (· = fb) w).setCell ⟨fb, i * 7 + 3, none⟩ v (.inl rfl)).setCell ⟨fb, i * 7 + 5, none⟩ (.bool true) (.inl rfl)).setCell ⟨fb, i * 7 + 6, none⟩ (.bool true) (.inl rfl)
 have hvl : ∀ x, v.ownBlock = some x → x < w.heap.size := fun x hx => (ownBlock_old hv x hx).1
 refine h.setFrame r3 (ht.mono fun _ _ e => .inl e) (Owner.put_keep hvo) (fun x t hx => Nat.lt_of_lt_of_le (Owner.put_owned h.owned hvl x t hx) ht.size) ?_ ?_
 ·obtain ⟨m, m1, m2⟩ := h.wher
  exact ⟨m, m1.turn ht (Owner.ne h.omb h.ofb (by decide)), m2.same (map_get hi) rfl rfl rfl⟩
 ·exact ⟨ownsRow_base (ht.ownsRow hv (fun x hx e => by have := hvo x hx; rw [e, h.ofb] at this; cases this)) (Nat.zero_le _), fun x hx => Owner.put_at hx⟩
def WritePagePost (w : World) (pb db n : Nat) (o : Owner) (d : Dsk) (L L' : Logic) (e : Ending) (w' : World) : Prop :=
 ∃ c d' o', e = .returned (.int .i64 ((c : Nat) : Int)) ∧ PoolAt w' pb db n o' d' (if c = 0 then L' else L) ∧ Turn (o.In ofPool) w w' ∧ OGrow w.heap.size o o' ∧ Onward d d' ∧ (c = 0 ∨ Err d d' L c)
theorem PoolIn.in_mb {w : World} {pb db fb mb : Nat} {o : Owner} {l : List Plc} {hand mf : Nat} {d : Dsk} (h : PoolIn w pb db fb mb o l hand mf d) : o.In ofPool mb := ⟨_, h.omb, show 8 < 10 by decide⟩
theorem PoolIn.in_pb {w : World} {pb db fb mb : Nat} {o : Owner} {l : List Plc} {hand mf : Nat} {d : Dsk} (h : PoolIn w pb db fb mb o l hand mf d) : o.In ofPool pb := ⟨_, h.opb, show 6 < 10 by decide⟩
theorem in_grow {n : Nat} {o o' : Owner} (hg : OGrow n o o') {C : Nat → Prop} {x : Nat} (hx : x < n) (h : o'.In C x) : o.In C x := by
 obtain ⟨t, h1, h2⟩ := h
 exact ⟨t, by rw [← hg x hx]; exact h1, h2⟩
set_option maxRecDepth 100000 in
set_option maxHeartbeats 4000000 in
theorem poolWrite_any (HW : WriteSaid) {w : World} {pb db n : Nat} {o : Owner} {d : Dsk} {L : Logic} (h : PoolAt w pb db n o d L) {name : Name} {ps : List Pg} {fl : Bool} (hL : mget L name = some (.inl (ps, fl))) {k : Nat} (hk : k ≤ ps.length) (hk' : k < 65536) {v : Value} {b : Pg} (hv : Rd w v b) (hb : b.length ≤ 240) (hvo : ∀ x, v.ownBlock = some x → o x = none) :
 Calls Tryz.prog 125 #[ptrTo pb, .string name, .int .i64 (k : Int), v] w (WritePagePost w pb db n o d L (mput L name (.inl (setPage ps k b, false)))) := by
 obtain ⟨fb, mb, l, hand, mf, hp, rfl, hg⟩ := h
 have hs := okName_1000 (hg.ok name (by rw [hL]; rfl))
 have hcall := Lib.hid (pages_sound hp hg hL)
 have H := Lib.hid hp
 have HG := Lib.hid hg
 have HL := Lib.hid hL
 have HV := Lib.hid hv
 have HVO := Lib.hid hvo
 have HK := Lib.hid hk
 have HBL := Lib.hid hb
 obtain ⟨va, vc, rfl, -⟩ := hv
 have hn := hp.most
 have hpbl := hp.head.lt
 obtain ⟨m, hm1, hm2⟩ := hp.wher
 have HM1 := Lib.hid hm1
 have HM2 := Lib.hid hm2
 have hgk := Lib.hid (good_pkey (s := name) (n := k) (by unfold maxLen; omega) (by omega))
 have hb240 : ¬ ((b.length : Int) > 240) := by omega
 have hkn : ¬ ((k : Int) > (ps.length : Int)) := by omega
 have hk0 : ¬ ((k : Int) < 0) := by omega
 clear hp hg hL hm1 hm2 hvo hk hb
 unfold ptrTo at *
 unfold pagesAns at hcall
 generalize hP : ps.length = P at *
 have HP := Lib.hid hP
 clear hP
 generalize hB : b.length = B at *
 have HB := Lib.hid hB
 clear hB
 cases hd : d.dead with
 | true =>
   rw [hd, if_pos rfl] at hcall
   have HD := Lib.hid hd
   clear hd
   go_enter Tryz.func125, Tryz.ntmps125
   go_wp2_with fail
   refine hcall.out.mono ?_
   rintro e w1 ⟨rfl, hb⟩
   have HB1 := Lib.hid hb
   clear hb
   go_wp2
   go_ret
   exact ⟨6, d, o, rfl, ⟨fb, mb, l, hand, mf, H.out.below HB1.out, rfl, HG.out⟩, Turn.ofBelow HB1.out, OGrow.refl _ _, Onward.refl d, .inr (.inr ⟨rfl, HD.out⟩)⟩
 | false =>
   rw [hd, if_neg (by simp)] at hcall
   clear hd
   have hz : ∀ W : World, (zeroValue 3).run Tryz.prog W = .ok (.int .i64 0) W := fun W => by kernel_rfl
   cases hmg : mget m (name, k) with
   | some i =>
     have HMG := Lib.hid hmg
     clear hmg
     obtain ⟨fr, hi, hf1, hf2, hf3⟩ := (HM2.out name k i).1 HMG.out
     have hil : i < l.length := by have := lt_of_get hi; rwa [List.length_map] at this
     go_enter Tryz.func125, Tryz.ntmps125
     go_wp2_with fail
     refine hcall.out.mono ?_
     rintro e w1 ⟨rfl, hb⟩
     have HB1 := Lib.hid hb
     have H1 := Lib.hid (H.out.below hb)
     have HM3 : Hid (WhereMap w1 mb m) := Lib.hid (HM1.out.kept (hb.block mb HM1.out.lt))
     clear hb
     obtain ⟨⟨-, hc1, hc2, -⟩, -⟩ := H1.out.head.cells
     obtain ⟨a, c, f0, hi'⟩ := H1.out.shaped.get rfl hil
     obtain rfl : f0 = fr := by
      have := map_get hi'
      rw [hi] at this
      exact (Option.some.inj this).symm
     have HI' := Lib.hid hi'
     have HV1 := Lib.hid (HV.out.below HB1.out)
     clear hi hi'
     go_wp2_with (first | (at_lookup; refine wpList_look _ rfl _ _ _ _ rfl 3 keyed_pkey nameNum_inj Tryz.underlying146 (hz _) mb m rfl HM3.out (name, k) rfl hgk.out ?_; unfold mhas; rw [HMG.out]; simp only [Option.map_some, Option.getD_some, Option.isSome_some]) | fail)
     have hcl := Lib.hid (clone_any _ b w1 HV1.out (by have := HB.out; have := HBL.out; omega))
     refine hcl.out.mono ?_
     rintro e w2 ⟨v2, rfl, ho2, hb2⟩
     obtain ⟨a2, c2, rfl⟩ := ownsRow_slice ho2
     have H2 := Lib.hid (H1.out.below hb2)
     have HB2 := Lib.hid (HB1.out.trans (hb2.mono HB1.out.size))
     have HO2 := Lib.hid ho2
     have hs1 : w.heap.size ≤ w1.heap.size := HB1.out.size
     have HF2 : Hid (∀ x, (Value.slice a2 b.length c2).ownBlock = some x → o x = none) := Lib.hid (fun x hx => fresh_none H.out.owned (Nat.le_trans hs1 (ownsRow_block ho2 x hx)))
     clear ho2 hb2 hc1 hc2
     obtain ⟨-, -, -, h3, -, h5, h6⟩ := H2.out.row.seven HI'.out
     have z3 := H2.out.row.free (i * 7 + 3)
     have z5 := H2.out.row.free (i * 7 + 5)
     have z6 := H2.out.row.free (i * 7 + 6)
     go_wp2
     go_ret
     have hlay := H2.out.lay HI'.out HO2.out HF2.out
     have hsnd := HG.out.write (map_get HI'.out) HL.out (u := true) (by rw [HP.out]; exact HK.out) hk' (b := b) (by rw [HB.out]; exact HBL.out) (.inl ⟨hf1, hf2, hf3⟩)
     refine ⟨0, d, _, rfl, ⟨fb, mb, _, hand, mf, hlay, List.length_set, ?_⟩, ?_, ?_, Onward.refl d, .inl rfl⟩
     ·rw [if_pos rfl, map_set]
      subst hf2 hf3
      rw [hf1]
      exact hsnd
     ·exact (((Turn.ofBelow HB2.out).setCell ⟨fb, i * 7 + 3, none⟩ _ (.inl H.out.in_fb)).setCell ⟨fb, i * 7 + 5, none⟩ (.bool true) (.inl H.out.in_fb)).setCell ⟨fb, i * 7 + 6, none⟩ (.bool true) (.inl H.out.in_fb)
     ·exact Owner.put_grow (fun x hx => Nat.le_trans hs1 (ownsRow_block HO2.out x hx))
   | none =>
     have HMG := Lib.hid hmg
     clear hmg
     have hnot : ∀ (j : Nat) (fj : Frm), (l.map (·.2))[j]? = some fj → fj.full = true → fj.name = name → fj.k = k → False := fun j fj h1 h2 h3 h4 => by
      have := (HM2.out name k j).2 ⟨fj, h1, h2, h3, h4⟩
      rw [HMG.out] at this
      cases this
     have HNOT := Lib.hid hnot
     clear hnot
     go_enter Tryz.func125, Tryz.ntmps125
     go_wp2_with fail
     refine hcall.out.mono ?_
     rintro e w1 ⟨rfl, hb⟩
     have HB1 := Lib.hid hb
     have H1 := Lib.hid (H.out.below hb)
     have HM3 : Hid (WhereMap w1 mb m) := Lib.hid (HM1.out.kept (hb.block mb HM1.out.lt))
     have HV1 := Lib.hid (HV.out.below hb)
     clear hb
     obtain ⟨⟨-, -, hc2, -⟩, -⟩ := H1.out.head.cells
     go_wp2_with (first | (at_lookup; refine wpList_look _ rfl _ _ _ _ rfl 3 keyed_pkey nameNum_inj Tryz.underlying146 (hz _) mb m rfl HM3.out (name, k) rfl hgk.out ?_; unfold mhas; rw [HMG.out]; simp only [Option.map_none, Option.getD_none, Option.isSome_none]) | fail)
     refine (take_any HW H1.out HG.out).mono ?_
     rintro e w4 ⟨o4, l4, hand4, d4, c4, i4, rfl, hp4, hg4, hon4, he4, hc40, hfew4, ht4, hgr4⟩
     have HP4 := Lib.hid hp4
     have HG4 := Lib.hid hg4
     have HON4 := Lib.hid hon4
     have HE4 := Lib.hid he4
     have HC40 := Lib.hid hc40
     have HFEW4 := Lib.hid hfew4
     have hs1 : w.heap.size ≤ w1.heap.size := HB1.out.size
     have HT4 := Lib.hid ((Turn.ofBelow HB1.out).trans ht4 (fun _ _ h => h) : Turn (o.In ofPool) w w4)
     have HGR4 : Hid (OGrow w.heap.size o o4) := Lib.hid (fun x hx => hgr4 x (Nat.lt_of_lt_of_le hx HB1.out.size))
     have HV4 : Hid (Rd w4 (.slice va B vc) b) := Lib.hid (ht4.rd HV1.out (fun x hx => Owner.not_in_none (HVO.out x hx)))
     have hs4 : w.heap.size ≤ w4.heap.size := HT4.out.size
     clear hp4 hg4 hon4 he4 hc40 hfew4 ht4 hgr4 hc2
     by_cases hc4 : c4 = 0
     ·subst hc4
      obtain ⟨p4, hi4, hp4f⟩ := HC40.out rfl
      have HI4 := Lib.hid hi4
      have hil4 := lt_of_get hi4
      have HPF4 := Lib.hid hp4f
      have hnew4 : ∀ (j : Nat) (fj : Frm), (l4.map (·.2))[j]? = some fj → fj.full = true → fj.name = name → fj.k = k → False := fun j fj h1 h2 h3 h4 => by
       obtain ⟨y, g1, g2, g3, g4⟩ := HFEW4.out.2 j fj h1 h2
       exact HNOT.out j y g1 g2 (g3.trans h3) (g4.trans h4)
      have HNEW4 := Lib.hid hnew4
      have hcall4 := Lib.hid (fill_any HP4.out hi4 hp4f ⟨true, name, k, [], false, false⟩ (a := none) (c := 0) (base := 0) (ownsRow_nil _ _ _) (fun x hx => by cases hx) hnew4 hs (by show k < _; omega) false)
      unfold ptrTo at hcall4
      dsimp only at hcall4
      clear hi4 hp4f hnew4
      go_wp2_with fail
      refine hcall4.out.mono ?_
      rintro e w5 ⟨rfl, ⟨mf5, hp5⟩, ht5⟩
      have hput0 : o4.put (.slice none ([] : Pg).length 0) (9, 0) = o4 := rfl
      rw [hput0] at hp5
      have HP5 := Lib.hid hp5
      have HT5 := Lib.hid (HT4.out.trans ht5 (fun x hx e => by
       have h1 : o4.In ofPool x := by
        rcases e with rfl | rfl | rfl
        ·exact HP4.out.in_fb
        ·exact HP4.out.in_mb
        ·exact HP4.out.in_pb
       exact in_grow HGR4.out hx h1))
      have HV5 : Hid (Rd w5 (.slice va B vc) b) := Lib.hid (ht5.rd HV4.out (fun x hx e => by
       have hxo := HVO.out x hx
       rcases e with rfl | rfl | rfl
       ·rw [H.out.ofb] at hxo; cases hxo
       ·rw [H.out.omb] at hxo; cases hxo
       ·rw [H.out.opb] at hxo; cases hxo))
      clear hp5 ht5
      have hi5 : (l4.set i4 (Value.slice none ([] : Pg).length 0, (⟨true, name, k, [], false, false⟩ : Frm)))[i4]? = some (Value.slice none ([] : Pg).length 0, ⟨true, name, k, [], false, false⟩) := by rw [get_set hil4, if_pos rfl]
      have HI5 := Lib.hid hi5
      clear hi5
      obtain ⟨⟨-, hc1, -⟩, -⟩ := HP5.out.head.cells
      go_wp2_with fail
      have hcl := Lib.hid (clone_any _ b w5 HV5.out (by have := HB.out; have := HBL.out; omega))
      refine hcl.out.mono ?_
      rintro e w6 ⟨v6, rfl, ho6, hb6⟩
      obtain ⟨a6, c6, rfl⟩ := ownsRow_slice ho6
      have H6 := Lib.hid (HP5.out.below hb6)
      have HT6 := Lib.hid (HT5.out.thenBelow hb6)
      have HO6 := Lib.hid ho6
      have hs5 : w.heap.size ≤ w5.heap.size := HT5.out.size
      have HF6 : Hid (∀ x, (Value.slice a6 b.length c6).ownBlock = some x → o4 x = none) := Lib.hid (fun x hx => fresh_none HP5.out.owned (ownsRow_block ho6 x hx))
      clear ho6 hb6 hc1
      obtain ⟨-, -, -, h3, -, h5, h6⟩ := H6.out.row.seven HI5.out
      have z3 := H6.out.row.free (i4 * 7 + 3)
      have z5 := H6.out.row.free (i4 * 7 + 5)
      have z6 := H6.out.row.free (i4 * 7 + 6)
      go_wp2
      go_ret
      have hlay := H6.out.lay HI5.out HO6.out HF6.out
      have hcl4 : p4.2.dirty = false := by
       rw [HG4.out.blank p4.2 (List.mem_of_getElem? (map_get HI4.out)) HPF4.out]
       rfl
      have hsnd := HG4.out.write (map_get HI4.out) HL.out (u := true) (by rw [HP.out]; exact HK.out) hk' (b := b) (by rw [HB.out]; exact HBL.out) (.inr ⟨hcl4, fun i' fi' _ h1 h2 h3 h4 => HNEW4.out i' fi' h1 h2 h3 h4⟩)
      refine ⟨0, d4, _, rfl, ⟨fb, mb, _, hand4, mf5, hlay, by rw [List.length_set, List.length_set]; simpa using HFEW4.out.1, ?_⟩, ?_, ?_, HON4.out, .inl rfl⟩
      ·rw [if_pos rfl, List.set_set, map_set]
       exact hsnd
      ·exact ((HT6.out.setCell ⟨fb, i4 * 7 + 3, none⟩ _ (.inl H.out.in_fb)).setCell ⟨fb, i4 * 7 + 5, none⟩ (.bool true) (.inl H.out.in_fb)).setCell ⟨fb, i4 * 7 + 6, none⟩ (.bool true) (.inl H.out.in_fb)
      ·exact HGR4.out.trans (Owner.put_grow (n := w5.heap.size) (fun x hx => ownsRow_block HO6.out x hx)) hs5
     ·have hc4' : ¬ (c4 : Int) = 0 := by omega
      have HC4 := Lib.hid hc4
      clear hc4
      go_wp2
      go_ret
      refine ⟨c4, d4, o4, rfl, ⟨fb, mb, l4, hand4, mf, HP4.out, by simpa using HFEW4.out.1, ?_⟩, HT4.out, HGR4.out, HON4.out, HE4.out⟩
      rw [if_neg HC4.out]
      exact HG4.out
end Go.Proofs.YtolieljpnafbhaaGreatDoor
