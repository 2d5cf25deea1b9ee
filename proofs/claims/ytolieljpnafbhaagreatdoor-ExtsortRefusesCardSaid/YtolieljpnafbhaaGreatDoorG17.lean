/-
  Joined, in build order: Law12c, Law12d.
-/
import Derived.Test.YtolieljpnafbhaaGreatDoorG16
/-
  milepostlaw12.ExtsortRefuses: printed by wip/gen/law12c.py.
-/
namespace Go.Proofs.YtolieljpnafbhaaGreatDoor
open Go.RowKit Go.Maps

def e123 : Edg := ⟨1, 2, 3, 4294967295⟩

theorem rd_e123 (w : World) : RdE (w.alloc (.cells #[.int .u32 1, .int .u32 2, .int .u64 3, .int .u32 4294967295] 47)) (.slice (some ⟨w.heap.size, 0, none⟩) 1 1) [e123] :=
  ⟨_, 1, rfl, .inr ⟨w.heap.size, 0, rfl, fun j x hx => by
    match j, hx with
    | 0, hx => cases hx; simp [e123]
    | j + 1, hx => cases hx⟩⟩

/-- How a name begins: it is short, it has the sort's own beginning, or another. -/
def Mode (s : Name) : Prop := (¬ (2 : Int) ≤ (s.size : Int) ∧ ownName s = false) ∨ ((2 : Int) ≤ (s.size : Int) ∧ ((s.extract 0 2).toList == [116, 46]) = true ∧ ownName s = true) ∨ ((2 : Int) ≤ (s.size : Int) ∧ ((s.extract 0 2).toList == [116, 46]) = false ∧ ownName s = false)

theorem mode (s : Name) : Mode s := by
  have hl : s.size = s.data.toList.length := by show Array.size _ = _; simp
  have he : (s.extract 0 2).toList = s.data.toList.take 2 := by
    rw [ByteArray.toList_eq]
    simp [ByteArray.data_extract]
  unfold Mode ownName Lib.hasPrefix dotT
  rw [he, hl]
  match s.data.toList with
  | [] => left; simp
  | [a] => left; simp [List.isPrefixOf]
  | a :: b :: r =>
    right
    by_cases h : a = 116 ∧ b = 46
    · left
      obtain ⟨rfl, rfl⟩ := h
      simp
      omega
    · right
      refine ⟨by simp; omega, by simp; exact fun e1 e2 => h ⟨e1, e2⟩, ?_⟩
      cases hq : [116, 46].isPrefixOf (a :: b :: r) with
      | false => rfl
      | true =>
        simp only [List.isPrefixOf, Bool.and_true, Bool.and_eq_true, beq_iff_eq] at hq
        exact absurd ⟨hq.1.symm, hq.2.symm⟩ h


set_option maxRecDepth 100000 in
set_option maxHeartbeats 16000000 in
theorem refuses_by (HW : WriteSaid) {m : Nat} (HJS : JobSortSaid m) (hm : 2 ≤ m) (k n : Nat) (hk : k < 256) (hn : 1 + (k : Int) % 20 = (n : Int)) (hn1 : 1 ≤ n) (y : Int) (inn out : Name) (h1 : inn.size ≤ 100) (h2 : out.size ≤ 100) (y0 : y ≠ 0) (y1 : y ≠ 1) (w : World) :
    Calls Tryz.prog 6 #[.int .u8 (k : Int), .int .i64 y, .string inn, .string out] w fun e w' => e = .returned (.bool true) ∧ Below w.heap.size w w' := by
  have hw1 : IntKind.i64.wrap (k : Int) = (k : Int) := wrap_in (by omega) (by omega)
  have g1 : ¬ ((inn.size : Int) > 100) := by omega
  have g2 : ¬ ((out.size : Int) > 100) := by omega
  have HB0 : Hid (Below w.heap.size w (w.alloc (.cells #[.int .u32 1, .int .u32 2, .int .u64 3, .int .u32 4294967295] 47))) := Lib.hid ((Below.refl _ _).alloc (Nat.le_refl _) _)
  have HR0 : Hid (RdE (w.alloc (.cells #[.int .u32 1, .int .u32 2, .int .u64 3, .int .u32 4294967295] 47)) (.slice (some ⟨w.heap.size, 0, none⟩) 1 1) [e123]) := Lib.hid (rd_e123 w)
  have HBAD : Hid (BadArg n y inn out) := Lib.hid (.inl ⟨y0, y1⟩)
  rcases mode inn with ⟨si, -⟩ | ⟨si, ei, -⟩ | ⟨si, ei, -⟩
  · rcases mode out with ⟨so, -⟩ | ⟨so, eo, -⟩ | ⟨so, eo, -⟩
    all_goals
      go_enter Tryz.func6, Tryz.ntmps6
      go_wp2_with fail
      generalize w.alloc (.cells #[.int .u32 1, .int .u32 2, .int .u64 3, .int .u32 4294967295] 47) = W0 at *
      refine (begun_any HW 65536 (by decide) n hn1 (by omega) _ [e123] W0 HR0.out (by decide)).mono ?_
      rintro e w1 ⟨db, pb, o1, d1, rfl, hh1⟩
      have HH1 := Lib.hid hh1
      clear hh1
      unfold ptrTo at *
      go_wp2_with fail
      refine (sort_arg HH1.out.pool _ HBAD.out).mono ?_
      rintro e w2 ⟨rfl, hb2⟩
      have HH2 := Lib.hid (HH1.out.later hb2)
      clear hb2 HH1
      go_wp2_with fail
      refine (sort_nil _ _ _ _).mono ?_
      rintro e w3 ⟨rfl, hb3⟩
      have HH3 := Lib.hid (HH2.out.later hb3)
      clear hb3 HH2
      have hnm := Lib.hid (names_kept HH3.out (by simp))
      simp only [List.length_cons, List.length_nil] at hnm
      unfold ptrTo at hnm
      go_wp2_with fail
      refine hnm.out.mono ?_
      rintro e w4 ⟨a4, cap4, rfl, hh4⟩
      have HH4 := Lib.hid hh4
      clear hh4 hnm HH3
      go_wp2_with fail
      refine (works12_any HW HJS hm _).mono ?_
      rintro e w6 ⟨rfl, hb6⟩
      have HH6 := Lib.hid (HH4.out.later hb6)
      clear hb6 HH4
      go_wp2
      go_ret
      exact ⟨rfl, HB0.out.trans (HH6.out.below.mono HB0.out.size)⟩
  · go_enter Tryz.func6, Tryz.ntmps6
    go_wp2_with fail
    generalize w.alloc (.cells #[.int .u32 1, .int .u32 2, .int .u64 3, .int .u32 4294967295] 47) = W0 at *
    refine (begun_any HW 65536 (by decide) n hn1 (by omega) _ [e123] W0 HR0.out (by decide)).mono ?_
    rintro e w1 ⟨db, pb, o1, d1, rfl, hh1⟩
    have HH1 := Lib.hid hh1
    clear hh1
    unfold ptrTo at *
    go_wp2_with fail
    refine (sort_arg HH1.out.pool _ HBAD.out).mono ?_
    rintro e w2 ⟨rfl, hb2⟩
    have HH2 := Lib.hid (HH1.out.later hb2)
    clear hb2 HH1
    go_wp2_with fail
    refine (sort_nil _ _ _ _).mono ?_
    rintro e w3 ⟨rfl, hb3⟩
    have HH3 := Lib.hid (HH2.out.later hb3)
    clear hb3 HH2
    have hnm := Lib.hid (names_kept HH3.out (by simp))
    simp only [List.length_cons, List.length_nil] at hnm
    unfold ptrTo at hnm
    go_wp2_with fail
    refine hnm.out.mono ?_
    rintro e w4 ⟨a4, cap4, rfl, hh4⟩
    have HH4 := Lib.hid hh4
    clear hh4 hnm HH3
    go_wp2_with fail
    refine (works12_any HW HJS hm _).mono ?_
    rintro e w6 ⟨rfl, hb6⟩
    have HH6 := Lib.hid (HH4.out.later hb6)
    clear hb6 HH4
    go_wp2
    go_ret
    exact ⟨rfl, HB0.out.trans (HH6.out.below.mono HB0.out.size)⟩
  · rcases mode out with ⟨so, -⟩ | ⟨so, eo, -⟩ | ⟨so, eo, -⟩
    all_goals
      go_enter Tryz.func6, Tryz.ntmps6
      go_wp2_with fail
      generalize w.alloc (.cells #[.int .u32 1, .int .u32 2, .int .u64 3, .int .u32 4294967295] 47) = W0 at *
      refine (begun_any HW 65536 (by decide) n hn1 (by omega) _ [e123] W0 HR0.out (by decide)).mono ?_
      rintro e w1 ⟨db, pb, o1, d1, rfl, hh1⟩
      have HH1 := Lib.hid hh1
      clear hh1
      unfold ptrTo at *
      go_wp2_with fail
      refine (sort_arg HH1.out.pool _ HBAD.out).mono ?_
      rintro e w2 ⟨rfl, hb2⟩
      have HH2 := Lib.hid (HH1.out.later hb2)
      clear hb2 HH1
      go_wp2_with fail
      refine (sort_nil _ _ _ _).mono ?_
      rintro e w3 ⟨rfl, hb3⟩
      have HH3 := Lib.hid (HH2.out.later hb3)
      clear hb3 HH2
      have hnm := Lib.hid (names_kept HH3.out (by simp))
      simp only [List.length_cons, List.length_nil] at hnm
      unfold ptrTo at hnm
      go_wp2_with fail
      refine hnm.out.mono ?_
      rintro e w4 ⟨a4, cap4, rfl, hh4⟩
      have HH4 := Lib.hid hh4
      clear hh4 hnm HH3
      go_wp2_with fail
      refine (works12_any HW HJS hm _).mono ?_
      rintro e w6 ⟨rfl, hb6⟩
      have HH6 := Lib.hid (HH4.out.later hb6)
      clear hb6 HH4
      go_wp2
      go_ret
      exact ⟨rfl, HB0.out.trans (HH6.out.below.mono HB0.out.size)⟩

set_option maxRecDepth 100000 in
set_option maxHeartbeats 16000000 in
theorem refuses_same (HW : WriteSaid) {m : Nat} (HJS : JobSortSaid m) (hm : 2 ≤ m) (k n : Nat) (hk : k < 256) (hn : 1 + (k : Int) % 20 = (n : Int)) (hn1 : 1 ≤ n) (y : Int) (inn out : Name) (h1 : inn.size ≤ 100) (h2 : out.size ≤ 100) (hy : y = 0 ∨ y = 1) (hio : inn = out) (w : World) :
    Calls Tryz.prog 6 #[.int .u8 (k : Int), .int .i64 y, .string inn, .string out] w fun e w' => e = .returned (.bool true) ∧ Below w.heap.size w w' := by
  subst hio
  have hw1 : IntKind.i64.wrap (k : Int) = (k : Int) := wrap_in (by omega) (by omega)
  have g1 : ¬ ((inn.size : Int) > 100) := by omega
  have g2 : ¬ ((inn.size : Int) > 100) := by omega
  have HB0 : Hid (Below w.heap.size w (w.alloc (.cells #[.int .u32 1, .int .u32 2, .int .u64 3, .int .u32 4294967295] 47))) := Lib.hid ((Below.refl _ _).alloc (Nat.le_refl _) _)
  have HR0 : Hid (RdE (w.alloc (.cells #[.int .u32 1, .int .u32 2, .int .u64 3, .int .u32 4294967295] 47)) (.slice (some ⟨w.heap.size, 0, none⟩) 1 1) [e123]) := Lib.hid (rd_e123 w)
  have HBAD : Hid (BadArg n y inn inn) := Lib.hid (.inr (.inl rfl))
  rcases mode inn with ⟨si, -⟩ | ⟨si, ei, -⟩ | ⟨si, ei, -⟩
  all_goals
    rcases hy with rfl | rfl
    all_goals
      go_enter Tryz.func6, Tryz.ntmps6
      go_wp2_with fail
      generalize w.alloc (.cells #[.int .u32 1, .int .u32 2, .int .u64 3, .int .u32 4294967295] 47) = W0 at *
      refine (begun_any HW 65536 (by decide) n hn1 (by omega) _ [e123] W0 HR0.out (by decide)).mono ?_
      rintro e w1 ⟨db, pb, o1, d1, rfl, hh1⟩
      have HH1 := Lib.hid hh1
      clear hh1
      unfold ptrTo at *
      go_wp2_with fail
      refine (sort_arg HH1.out.pool _ HBAD.out).mono ?_
      rintro e w2 ⟨rfl, hb2⟩
      have HH2 := Lib.hid (HH1.out.later hb2)
      clear hb2 HH1
      go_wp2_with fail
      refine (sort_nil _ _ _ _).mono ?_
      rintro e w3 ⟨rfl, hb3⟩
      have HH3 := Lib.hid (HH2.out.later hb3)
      clear hb3 HH2
      have hnm := Lib.hid (names_kept HH3.out (by simp))
      simp only [List.length_cons, List.length_nil] at hnm
      unfold ptrTo at hnm
      go_wp2_with fail
      refine hnm.out.mono ?_
      rintro e w4 ⟨a4, cap4, rfl, hh4⟩
      have HH4 := Lib.hid hh4
      clear hh4 hnm HH3
      go_wp2_with fail
      refine (works12_any HW HJS hm _).mono ?_
      rintro e w6 ⟨rfl, hb6⟩
      have HH6 := Lib.hid (HH4.out.later hb6)
      clear hb6 HH4
      go_wp2
      go_ret
      exact ⟨rfl, HB0.out.trans (HH6.out.below.mono HB0.out.size)⟩

set_option maxRecDepth 100000 in
set_option maxHeartbeats 16000000 in
theorem refuses_own (HW : WriteSaid) {m : Nat} (HJS : JobSortSaid m) (hm : 2 ≤ m) (k n : Nat) (hk : k < 256) (hn : 1 + (k : Int) % 20 = (n : Int)) (hn1 : 1 ≤ n) (y : Int) (inn out : Name) (h1 : inn.size ≤ 100) (h2 : out.size ≤ 100) (hy : y = 0 ∨ y = 1) (hne : (inn.toList == out.toList) = false) (ho : ownName inn = true ∨ ownName out = true) (w : World) :
    Calls Tryz.prog 6 #[.int .u8 (k : Int), .int .i64 y, .string inn, .string out] w fun e w' => e = .returned (.bool true) ∧ Below w.heap.size w w' := by
  have hw1 : IntKind.i64.wrap (k : Int) = (k : Int) := wrap_in (by omega) (by omega)
  have g1 : ¬ ((inn.size : Int) > 100) := by omega
  have g2 : ¬ ((out.size : Int) > 100) := by omega
  have HB0 : Hid (Below w.heap.size w (w.alloc (.cells #[.int .u32 1, .int .u32 2, .int .u64 3, .int .u32 4294967295] 47))) := Lib.hid ((Below.refl _ _).alloc (Nat.le_refl _) _)
  have HR0 : Hid (RdE (w.alloc (.cells #[.int .u32 1, .int .u32 2, .int .u64 3, .int .u32 4294967295] 47)) (.slice (some ⟨w.heap.size, 0, none⟩) 1 1) [e123]) := Lib.hid (rd_e123 w)
  have HBAD : Hid (BadArg n y inn out) := Lib.hid (.inr (.inr (ho.elim .inl fun h => .inr (.inl h))))
  rcases mode inn with ⟨si, hi⟩ | ⟨si, ei, -⟩ | ⟨si, ei, hi⟩
  · rcases mode out with ⟨so, hq⟩ | ⟨so, eo, -⟩ | ⟨so, eo, hq⟩
    · rw [hi, hq] at ho; simp at ho
    · clear ho hi
      rcases hy with rfl | rfl
      all_goals
        go_enter Tryz.func6, Tryz.ntmps6
        go_wp2_with fail
        generalize w.alloc (.cells #[.int .u32 1, .int .u32 2, .int .u64 3, .int .u32 4294967295] 47) = W0 at *
        refine (begun_any HW 65536 (by decide) n hn1 (by omega) _ [e123] W0 HR0.out (by decide)).mono ?_
        rintro e w1 ⟨db, pb, o1, d1, rfl, hh1⟩
        have HH1 := Lib.hid hh1
        clear hh1
        unfold ptrTo at *
        go_wp2_with fail
        refine (sort_arg HH1.out.pool _ HBAD.out).mono ?_
        rintro e w2 ⟨rfl, hb2⟩
        have HH2 := Lib.hid (HH1.out.later hb2)
        clear hb2 HH1
        go_wp2_with fail
        refine (sort_nil _ _ _ _).mono ?_
        rintro e w3 ⟨rfl, hb3⟩
        have HH3 := Lib.hid (HH2.out.later hb3)
        clear hb3 HH2
        have hnm := Lib.hid (names_kept HH3.out (by simp))
        simp only [List.length_cons, List.length_nil] at hnm
        unfold ptrTo at hnm
        go_wp2_with fail
        refine hnm.out.mono ?_
        rintro e w4 ⟨a4, cap4, rfl, hh4⟩
        have HH4 := Lib.hid hh4
        clear hh4 hnm HH3
        go_wp2_with fail
        refine (works12_any HW HJS hm _).mono ?_
        rintro e w6 ⟨rfl, hb6⟩
        have HH6 := Lib.hid (HH4.out.later hb6)
        clear hb6 HH4
        go_wp2
        go_ret
        exact ⟨rfl, HB0.out.trans (HH6.out.below.mono HB0.out.size)⟩
    · rw [hi, hq] at ho; simp at ho
  · clear ho
    rcases hy with rfl | rfl
    all_goals
      go_enter Tryz.func6, Tryz.ntmps6
      go_wp2_with fail
      generalize w.alloc (.cells #[.int .u32 1, .int .u32 2, .int .u64 3, .int .u32 4294967295] 47) = W0 at *
      refine (begun_any HW 65536 (by decide) n hn1 (by omega) _ [e123] W0 HR0.out (by decide)).mono ?_
      rintro e w1 ⟨db, pb, o1, d1, rfl, hh1⟩
      have HH1 := Lib.hid hh1
      clear hh1
      unfold ptrTo at *
      go_wp2_with fail
      refine (sort_arg HH1.out.pool _ HBAD.out).mono ?_
      rintro e w2 ⟨rfl, hb2⟩
      have HH2 := Lib.hid (HH1.out.later hb2)
      clear hb2 HH1
      go_wp2_with fail
      refine (sort_nil _ _ _ _).mono ?_
      rintro e w3 ⟨rfl, hb3⟩
      have HH3 := Lib.hid (HH2.out.later hb3)
      clear hb3 HH2
      have hnm := Lib.hid (names_kept HH3.out (by simp))
      simp only [List.length_cons, List.length_nil] at hnm
      unfold ptrTo at hnm
      go_wp2_with fail
      refine hnm.out.mono ?_
      rintro e w4 ⟨a4, cap4, rfl, hh4⟩
      have HH4 := Lib.hid hh4
      clear hh4 hnm HH3
      go_wp2_with fail
      refine (works12_any HW HJS hm _).mono ?_
      rintro e w6 ⟨rfl, hb6⟩
      have HH6 := Lib.hid (HH4.out.later hb6)
      clear hb6 HH4
      go_wp2
      go_ret
      exact ⟨rfl, HB0.out.trans (HH6.out.below.mono HB0.out.size)⟩
  · rcases mode out with ⟨so, hq⟩ | ⟨so, eo, -⟩ | ⟨so, eo, hq⟩
    · rw [hi, hq] at ho; simp at ho
    · clear ho hi
      rcases hy with rfl | rfl
      all_goals
        go_enter Tryz.func6, Tryz.ntmps6
        go_wp2_with fail
        generalize w.alloc (.cells #[.int .u32 1, .int .u32 2, .int .u64 3, .int .u32 4294967295] 47) = W0 at *
        refine (begun_any HW 65536 (by decide) n hn1 (by omega) _ [e123] W0 HR0.out (by decide)).mono ?_
        rintro e w1 ⟨db, pb, o1, d1, rfl, hh1⟩
        have HH1 := Lib.hid hh1
        clear hh1
        unfold ptrTo at *
        go_wp2_with fail
        refine (sort_arg HH1.out.pool _ HBAD.out).mono ?_
        rintro e w2 ⟨rfl, hb2⟩
        have HH2 := Lib.hid (HH1.out.later hb2)
        clear hb2 HH1
        go_wp2_with fail
        refine (sort_nil _ _ _ _).mono ?_
        rintro e w3 ⟨rfl, hb3⟩
        have HH3 := Lib.hid (HH2.out.later hb3)
        clear hb3 HH2
        have hnm := Lib.hid (names_kept HH3.out (by simp))
        simp only [List.length_cons, List.length_nil] at hnm
        unfold ptrTo at hnm
        go_wp2_with fail
        refine hnm.out.mono ?_
        rintro e w4 ⟨a4, cap4, rfl, hh4⟩
        have HH4 := Lib.hid hh4
        clear hh4 hnm HH3
        go_wp2_with fail
        refine (works12_any HW HJS hm _).mono ?_
        rintro e w6 ⟨rfl, hb6⟩
        have HH6 := Lib.hid (HH4.out.later hb6)
        clear hb6 HH4
        go_wp2
        go_ret
        exact ⟨rfl, HB0.out.trans (HH6.out.below.mono HB0.out.size)⟩
    · rw [hi, hq] at ho; simp at ho

set_option maxRecDepth 100000 in
set_option maxHeartbeats 16000000 in
theorem refuses_few (HW : WriteSaid) {m : Nat} (HJS : JobSortSaid m) (hm : 2 ≤ m) (k n : Nat) (hk : k < 256) (hn : 1 + (k : Int) % 20 = (n : Int)) (hn1 : 1 ≤ n) (y : Int) (inn out : Name) (h1 : inn.size ≤ 100) (h2 : out.size ≤ 100) (hy : y = 0 ∨ y = 1) (hne : (inn.toList == out.toList) = false) (hi : ownName inn = false) (ho : ownName out = false) (hn8 : (n : Int) < 8) (w : World) :
    Calls Tryz.prog 6 #[.int .u8 (k : Int), .int .i64 y, .string inn, .string out] w fun e w' => e = .returned (.bool true) ∧ Below w.heap.size w w' := by
  have hw1 : IntKind.i64.wrap (k : Int) = (k : Int) := wrap_in (by omega) (by omega)
  have g1 : ¬ ((inn.size : Int) > 100) := by omega
  have g2 : ¬ ((out.size : Int) > 100) := by omega
  have HB0 : Hid (Below w.heap.size w (w.alloc (.cells #[.int .u32 1, .int .u32 2, .int .u64 3, .int .u32 4294967295] 47))) := Lib.hid ((Below.refl _ _).alloc (Nat.le_refl _) _)
  have HR0 : Hid (RdE (w.alloc (.cells #[.int .u32 1, .int .u32 2, .int .u64 3, .int .u32 4294967295] 47)) (.slice (some ⟨w.heap.size, 0, none⟩) 1 1) [e123]) := Lib.hid (rd_e123 w)
  have HBAD : Hid (BadArg n y inn out) := Lib.hid (.inr (.inr (.inr (.inr (by omega)))))
  rcases mode inn with ⟨si, -⟩ | ⟨si, ei, hi'⟩ | ⟨si, ei, -⟩
  · rcases mode out with ⟨so, -⟩ | ⟨so, eo, ho'⟩ | ⟨so, eo, -⟩
    · clear hi ho
      rcases hy with rfl | rfl
      all_goals
        go_enter Tryz.func6, Tryz.ntmps6
        go_wp2_with fail
        generalize w.alloc (.cells #[.int .u32 1, .int .u32 2, .int .u64 3, .int .u32 4294967295] 47) = W0 at *
        refine (begun_any HW 65536 (by decide) n hn1 (by omega) _ [e123] W0 HR0.out (by decide)).mono ?_
        rintro e w1 ⟨db, pb, o1, d1, rfl, hh1⟩
        have HH1 := Lib.hid hh1
        clear hh1
        unfold ptrTo at *
        go_wp2_with fail
        refine (sort_arg HH1.out.pool _ HBAD.out).mono ?_
        rintro e w2 ⟨rfl, hb2⟩
        have HH2 := Lib.hid (HH1.out.later hb2)
        clear hb2 HH1
        go_wp2_with fail
        refine (sort_nil _ _ _ _).mono ?_
        rintro e w3 ⟨rfl, hb3⟩
        have HH3 := Lib.hid (HH2.out.later hb3)
        clear hb3 HH2
        have hnm := Lib.hid (names_kept HH3.out (by simp))
        simp only [List.length_cons, List.length_nil] at hnm
        unfold ptrTo at hnm
        go_wp2_with fail
        refine hnm.out.mono ?_
        rintro e w4 ⟨a4, cap4, rfl, hh4⟩
        have HH4 := Lib.hid hh4
        clear hh4 hnm HH3
        go_wp2_with fail
        refine (works12_any HW HJS hm _).mono ?_
        rintro e w6 ⟨rfl, hb6⟩
        have HH6 := Lib.hid (HH4.out.later hb6)
        clear hb6 HH4
        go_wp2
        go_ret
        exact ⟨rfl, HB0.out.trans (HH6.out.below.mono HB0.out.size)⟩
    · rw [ho] at ho'; cases ho'
    · clear hi ho
      rcases hy with rfl | rfl
      all_goals
        go_enter Tryz.func6, Tryz.ntmps6
        go_wp2_with fail
        generalize w.alloc (.cells #[.int .u32 1, .int .u32 2, .int .u64 3, .int .u32 4294967295] 47) = W0 at *
        refine (begun_any HW 65536 (by decide) n hn1 (by omega) _ [e123] W0 HR0.out (by decide)).mono ?_
        rintro e w1 ⟨db, pb, o1, d1, rfl, hh1⟩
        have HH1 := Lib.hid hh1
        clear hh1
        unfold ptrTo at *
        go_wp2_with fail
        refine (sort_arg HH1.out.pool _ HBAD.out).mono ?_
        rintro e w2 ⟨rfl, hb2⟩
        have HH2 := Lib.hid (HH1.out.later hb2)
        clear hb2 HH1
        go_wp2_with fail
        refine (sort_nil _ _ _ _).mono ?_
        rintro e w3 ⟨rfl, hb3⟩
        have HH3 := Lib.hid (HH2.out.later hb3)
        clear hb3 HH2
        have hnm := Lib.hid (names_kept HH3.out (by simp))
        simp only [List.length_cons, List.length_nil] at hnm
        unfold ptrTo at hnm
        go_wp2_with fail
        refine hnm.out.mono ?_
        rintro e w4 ⟨a4, cap4, rfl, hh4⟩
        have HH4 := Lib.hid hh4
        clear hh4 hnm HH3
        go_wp2_with fail
        refine (works12_any HW HJS hm _).mono ?_
        rintro e w6 ⟨rfl, hb6⟩
        have HH6 := Lib.hid (HH4.out.later hb6)
        clear hb6 HH4
        go_wp2
        go_ret
        exact ⟨rfl, HB0.out.trans (HH6.out.below.mono HB0.out.size)⟩
  · rw [hi] at hi'; cases hi'
  · rcases mode out with ⟨so, -⟩ | ⟨so, eo, ho'⟩ | ⟨so, eo, -⟩
    · clear hi ho
      rcases hy with rfl | rfl
      all_goals
        go_enter Tryz.func6, Tryz.ntmps6
        go_wp2_with fail
        generalize w.alloc (.cells #[.int .u32 1, .int .u32 2, .int .u64 3, .int .u32 4294967295] 47) = W0 at *
        refine (begun_any HW 65536 (by decide) n hn1 (by omega) _ [e123] W0 HR0.out (by decide)).mono ?_
        rintro e w1 ⟨db, pb, o1, d1, rfl, hh1⟩
        have HH1 := Lib.hid hh1
        clear hh1
        unfold ptrTo at *
        go_wp2_with fail
        refine (sort_arg HH1.out.pool _ HBAD.out).mono ?_
        rintro e w2 ⟨rfl, hb2⟩
        have HH2 := Lib.hid (HH1.out.later hb2)
        clear hb2 HH1
        go_wp2_with fail
        refine (sort_nil _ _ _ _).mono ?_
        rintro e w3 ⟨rfl, hb3⟩
        have HH3 := Lib.hid (HH2.out.later hb3)
        clear hb3 HH2
        have hnm := Lib.hid (names_kept HH3.out (by simp))
        simp only [List.length_cons, List.length_nil] at hnm
        unfold ptrTo at hnm
        go_wp2_with fail
        refine hnm.out.mono ?_
        rintro e w4 ⟨a4, cap4, rfl, hh4⟩
        have HH4 := Lib.hid hh4
        clear hh4 hnm HH3
        go_wp2_with fail
        refine (works12_any HW HJS hm _).mono ?_
        rintro e w6 ⟨rfl, hb6⟩
        have HH6 := Lib.hid (HH4.out.later hb6)
        clear hb6 HH4
        go_wp2
        go_ret
        exact ⟨rfl, HB0.out.trans (HH6.out.below.mono HB0.out.size)⟩
    · rw [ho] at ho'; cases ho'
    · clear hi ho
      rcases hy with rfl | rfl
      all_goals
        go_enter Tryz.func6, Tryz.ntmps6
        go_wp2_with fail
        generalize w.alloc (.cells #[.int .u32 1, .int .u32 2, .int .u64 3, .int .u32 4294967295] 47) = W0 at *
        refine (begun_any HW 65536 (by decide) n hn1 (by omega) _ [e123] W0 HR0.out (by decide)).mono ?_
        rintro e w1 ⟨db, pb, o1, d1, rfl, hh1⟩
        have HH1 := Lib.hid hh1
        clear hh1
        unfold ptrTo at *
        go_wp2_with fail
        refine (sort_arg HH1.out.pool _ HBAD.out).mono ?_
        rintro e w2 ⟨rfl, hb2⟩
        have HH2 := Lib.hid (HH1.out.later hb2)
        clear hb2 HH1
        go_wp2_with fail
        refine (sort_nil _ _ _ _).mono ?_
        rintro e w3 ⟨rfl, hb3⟩
        have HH3 := Lib.hid (HH2.out.later hb3)
        clear hb3 HH2
        have hnm := Lib.hid (names_kept HH3.out (by simp))
        simp only [List.length_cons, List.length_nil] at hnm
        unfold ptrTo at hnm
        go_wp2_with fail
        refine hnm.out.mono ?_
        rintro e w4 ⟨a4, cap4, rfl, hh4⟩
        have HH4 := Lib.hid hh4
        clear hh4 hnm HH3
        go_wp2_with fail
        refine (works12_any HW HJS hm _).mono ?_
        rintro e w6 ⟨rfl, hb6⟩
        have HH6 := Lib.hid (HH4.out.later hb6)
        clear hb6 HH4
        go_wp2
        go_ret
        exact ⟨rfl, HB0.out.trans (HH6.out.below.mono HB0.out.size)⟩

theorem mode_in : (((⟨#[105, 110]⟩ : ByteArray).extract 0 2).toList == [116, 46]) = false := by
  rcases mode (⟨#[105, 110]⟩ : ByteArray) with ⟨h, _⟩ | ⟨_, _, h⟩ | ⟨_, h, _⟩
  · exact absurd (by decide) h
  · exact absurd h (by decide)
  · exact h

theorem pfOpen_none {w : World} {pb db n : Nat} {o : Owner} {d : Dsk} {L : Logic} (h : PoolAt w pb db n o d L) {nm : Name} (hL : mget L nm = none) : pfOpen d nm ≠ 0 := by
  obtain ⟨_, _, _, _, _, _, _, g⟩ := h
  have h1 := g.names nm
  rw [hL] at h1
  have h2 : mget d.files nm = none := by
    cases e : mget d.files nm with
    | none => rfl
    | some x => rw [e] at h1; cases h1
  have h3 : (d.sizeOf nm).2 ≠ 0 := by
    unfold Dsk.sizeOf
    split
    · decide
    · split
      · decide
      · rw [h2]; decide
  unfold pfOpen
  rw [if_pos h3]
  exact h3

theorem mget_other {nm x : Name} {f : LFile} (h : x ≠ nm) : mget [(nm, f)] x = none := by
  unfold mget
  have : ¬ nm = x := fun e => h e.symm
  simp [this]


set_option maxRecDepth 100000 in
set_option maxHeartbeats 16000000 in
theorem refuses_none (HW : WriteSaid) {m : Nat} (HJS : JobSortSaid m) (hm : 2 ≤ m) (k n : Nat) (hk : k < 256) (hn : 1 + (k : Int) % 20 = (n : Int)) (hn1 : 1 ≤ n) (y : Int) (inn out : Name) (h1 : inn.size ≤ 100) (h2 : out.size ≤ 100) (hy : y = 0 ∨ y = 1) (hne : (inn.toList == out.toList) = false) (hi : ownName inn = false) (ho : ownName out = false) (hn8 : ¬ (n : Int) < 8) (hni : (inn.toList == [105, 110]) = false) (hni' : inn ≠ nmIn) (w : World) :
    Calls Tryz.prog 6 #[.int .u8 (k : Int), .int .i64 y, .string inn, .string out] w fun e w' => e = .returned (.bool true) ∧ Below w.heap.size w w' := by
  have hw1 : IntKind.i64.wrap (k : Int) = (k : Int) := wrap_in (by omega) (by omega)
  have g1 : ¬ ((inn.size : Int) > 100) := by omega
  have g2 : ¬ ((out.size : Int) > 100) := by omega
  have HB0 : Hid (Below w.heap.size w (w.alloc (.cells #[.int .u32 1, .int .u32 2, .int .u64 3, .int .u32 4294967295] 47))) := Lib.hid ((Below.refl _ _).alloc (Nat.le_refl _) _)
  have HR0 : Hid (RdE (w.alloc (.cells #[.int .u32 1, .int .u32 2, .int .u64 3, .int .u32 4294967295] 47)) (.slice (some ⟨w.heap.size, 0, none⟩) 1 1) [e123]) := Lib.hid (rd_e123 w)
  have h1' : inn.size ≤ 1000 := by omega
  have HNI := Lib.hid hni'
  have HNE := Lib.hid hne
  have HI := Lib.hid hi
  have HO := Lib.hid ho
  clear hni'
  rcases mode inn with ⟨si, -⟩ | ⟨si, ei, hi'⟩ | ⟨si, ei, -⟩
  · rcases mode out with ⟨so, -⟩ | ⟨so, eo, ho'⟩ | ⟨so, eo, -⟩
    · clear hi ho
      rcases hy with rfl | rfl
      · go_enter Tryz.func6, Tryz.ntmps6
        go_wp2_with fail
        generalize w.alloc (.cells #[.int .u32 1, .int .u32 2, .int .u64 3, .int .u32 4294967295] 47) = W0 at *
        refine (begun_any HW 65536 (by decide) n hn1 (by omega) _ [e123] W0 HR0.out (by decide)).mono ?_
        rintro e w1 ⟨db, pb, o1, d1, rfl, hh1⟩
        have HH1 := Lib.hid hh1
        clear hh1
        unfold ptrTo at *
        go_wp2_with fail
        have hcc : pfOpen d1 inn ≠ 0 := pfOpen_none HH1.out.pool (mget_other HNI.out)
        have hso := Lib.hid (sort_noin HH1.out.pool (by omega) 0 (by simp) (fun e => by have := HNE.out; rw [e] at this; simp at this) HI.out HO.out h1' hcc)
        generalize hPF : pfOpen d1 inn = cc at *
        have hcc' : ¬ (cc : Int) = 0 := by omega
        have hccb : ((cc : Int) != 0) = true := bne_iff_ne.2 hcc'
        have HPF := Lib.hid hPF
        clear hcc hPF
        unfold ptrTo at hso
        refine hso.out.mono ?_
        rintro e w2 ⟨rfl, hb2⟩
        have HH2 := Lib.hid (HH1.out.later hb2)
        clear hb2 HH1 hso
        go_wp2_with fail
        refine (sort_nil _ _ _ _).mono ?_
        rintro e w3 ⟨rfl, hb3⟩
        have HH3 := Lib.hid (HH2.out.later hb3)
        clear hb3 HH2
        have hnm := Lib.hid (names_kept HH3.out (by simp))
        simp only [List.length_cons, List.length_nil] at hnm
        unfold ptrTo at hnm
        go_wp2_with fail
        refine hnm.out.mono ?_
        rintro e w4 ⟨a4, cap4, rfl, hh4⟩
        have HH4 := Lib.hid hh4
        clear hh4 hnm HH3
        have hop : Hid (Calls Tryz.prog 29 #[ptrTo pb, .string inn, .int .i64 20] w4 (StreamOpenPost w4 pb inn 20 (pfOpen d1 inn))) := Lib.hid (streamOpen_any (sz := 20) HH4.out.pool inn h1' (by decide) (by decide))
        unfold ptrTo at hop
        rw [HPF.out] at hop
        go_wp2_with fail
        refine hop.out.mono ?_
        rintro e w5 ⟨v5, rfl, hb5, -, -⟩
        have HH5 := Lib.hid (HH4.out.later hb5)
        clear hb5 hop HH4
        go_wp2_with fail
        refine (works12_any HW HJS hm _).mono ?_
        rintro e w6 ⟨rfl, hb6⟩
        have HH6 := Lib.hid (HH5.out.later hb6)
        clear hb6 HH5
        go_wp2
        go_ret
        exact ⟨rfl, HB0.out.trans (HH6.out.below.mono HB0.out.size)⟩
      · go_enter Tryz.func6, Tryz.ntmps6
        go_wp2_with fail
        generalize w.alloc (.cells #[.int .u32 1, .int .u32 2, .int .u64 3, .int .u32 4294967295] 47) = W0 at *
        refine (begun_any HW 65536 (by decide) n hn1 (by omega) _ [e123] W0 HR0.out (by decide)).mono ?_
        rintro e w1 ⟨db, pb, o1, d1, rfl, hh1⟩
        have HH1 := Lib.hid hh1
        clear hh1
        unfold ptrTo at *
        go_wp2_with fail
        have hcc : pfOpen d1 inn ≠ 0 := pfOpen_none HH1.out.pool (mget_other HNI.out)
        have hso := Lib.hid (sort_noin HH1.out.pool (by omega) 1 (by simp) (fun e => by have := HNE.out; rw [e] at this; simp at this) HI.out HO.out h1' hcc)
        generalize hPF : pfOpen d1 inn = cc at *
        have hcc' : ¬ (cc : Int) = 0 := by omega
        have hccb : ((cc : Int) != 0) = true := bne_iff_ne.2 hcc'
        have HPF := Lib.hid hPF
        clear hcc hPF
        unfold ptrTo at hso
        refine hso.out.mono ?_
        rintro e w2 ⟨rfl, hb2⟩
        have HH2 := Lib.hid (HH1.out.later hb2)
        clear hb2 HH1 hso
        go_wp2_with fail
        refine (sort_nil _ _ _ _).mono ?_
        rintro e w3 ⟨rfl, hb3⟩
        have HH3 := Lib.hid (HH2.out.later hb3)
        clear hb3 HH2
        have hnm := Lib.hid (names_kept HH3.out (by simp))
        simp only [List.length_cons, List.length_nil] at hnm
        unfold ptrTo at hnm
        go_wp2_with fail
        refine hnm.out.mono ?_
        rintro e w4 ⟨a4, cap4, rfl, hh4⟩
        have HH4 := Lib.hid hh4
        clear hh4 hnm HH3
        have hop : Hid (Calls Tryz.prog 29 #[ptrTo pb, .string inn, .int .i64 20] w4 (StreamOpenPost w4 pb inn 20 (pfOpen d1 inn))) := Lib.hid (streamOpen_any (sz := 20) HH4.out.pool inn h1' (by decide) (by decide))
        unfold ptrTo at hop
        rw [HPF.out] at hop
        go_wp2_with fail
        refine hop.out.mono ?_
        rintro e w5 ⟨v5, rfl, hb5, -, -⟩
        have HH5 := Lib.hid (HH4.out.later hb5)
        clear hb5 hop HH4
        go_wp2_with fail
        refine (works12_any HW HJS hm _).mono ?_
        rintro e w6 ⟨rfl, hb6⟩
        have HH6 := Lib.hid (HH5.out.later hb6)
        clear hb6 HH5
        go_wp2
        go_ret
        exact ⟨rfl, HB0.out.trans (HH6.out.below.mono HB0.out.size)⟩
    · rw [ho] at ho'; cases ho'
    · clear hi ho
      rcases hy with rfl | rfl
      · go_enter Tryz.func6, Tryz.ntmps6
        go_wp2_with fail
        generalize w.alloc (.cells #[.int .u32 1, .int .u32 2, .int .u64 3, .int .u32 4294967295] 47) = W0 at *
        refine (begun_any HW 65536 (by decide) n hn1 (by omega) _ [e123] W0 HR0.out (by decide)).mono ?_
        rintro e w1 ⟨db, pb, o1, d1, rfl, hh1⟩
        have HH1 := Lib.hid hh1
        clear hh1
        unfold ptrTo at *
        go_wp2_with fail
        have hcc : pfOpen d1 inn ≠ 0 := pfOpen_none HH1.out.pool (mget_other HNI.out)
        have hso := Lib.hid (sort_noin HH1.out.pool (by omega) 0 (by simp) (fun e => by have := HNE.out; rw [e] at this; simp at this) HI.out HO.out h1' hcc)
        generalize hPF : pfOpen d1 inn = cc at *
        have hcc' : ¬ (cc : Int) = 0 := by omega
        have hccb : ((cc : Int) != 0) = true := bne_iff_ne.2 hcc'
        have HPF := Lib.hid hPF
        clear hcc hPF
        unfold ptrTo at hso
        refine hso.out.mono ?_
        rintro e w2 ⟨rfl, hb2⟩
        have HH2 := Lib.hid (HH1.out.later hb2)
        clear hb2 HH1 hso
        go_wp2_with fail
        refine (sort_nil _ _ _ _).mono ?_
        rintro e w3 ⟨rfl, hb3⟩
        have HH3 := Lib.hid (HH2.out.later hb3)
        clear hb3 HH2
        have hnm := Lib.hid (names_kept HH3.out (by simp))
        simp only [List.length_cons, List.length_nil] at hnm
        unfold ptrTo at hnm
        go_wp2_with fail
        refine hnm.out.mono ?_
        rintro e w4 ⟨a4, cap4, rfl, hh4⟩
        have HH4 := Lib.hid hh4
        clear hh4 hnm HH3
        have hop : Hid (Calls Tryz.prog 29 #[ptrTo pb, .string inn, .int .i64 20] w4 (StreamOpenPost w4 pb inn 20 (pfOpen d1 inn))) := Lib.hid (streamOpen_any (sz := 20) HH4.out.pool inn h1' (by decide) (by decide))
        unfold ptrTo at hop
        rw [HPF.out] at hop
        go_wp2_with fail
        refine hop.out.mono ?_
        rintro e w5 ⟨v5, rfl, hb5, -, -⟩
        have HH5 := Lib.hid (HH4.out.later hb5)
        clear hb5 hop HH4
        go_wp2_with fail
        refine (works12_any HW HJS hm _).mono ?_
        rintro e w6 ⟨rfl, hb6⟩
        have HH6 := Lib.hid (HH5.out.later hb6)
        clear hb6 HH5
        go_wp2
        go_ret
        exact ⟨rfl, HB0.out.trans (HH6.out.below.mono HB0.out.size)⟩
      · go_enter Tryz.func6, Tryz.ntmps6
        go_wp2_with fail
        generalize w.alloc (.cells #[.int .u32 1, .int .u32 2, .int .u64 3, .int .u32 4294967295] 47) = W0 at *
        refine (begun_any HW 65536 (by decide) n hn1 (by omega) _ [e123] W0 HR0.out (by decide)).mono ?_
        rintro e w1 ⟨db, pb, o1, d1, rfl, hh1⟩
        have HH1 := Lib.hid hh1
        clear hh1
        unfold ptrTo at *
        go_wp2_with fail
        have hcc : pfOpen d1 inn ≠ 0 := pfOpen_none HH1.out.pool (mget_other HNI.out)
        have hso := Lib.hid (sort_noin HH1.out.pool (by omega) 1 (by simp) (fun e => by have := HNE.out; rw [e] at this; simp at this) HI.out HO.out h1' hcc)
        generalize hPF : pfOpen d1 inn = cc at *
        have hcc' : ¬ (cc : Int) = 0 := by omega
        have hccb : ((cc : Int) != 0) = true := bne_iff_ne.2 hcc'
        have HPF := Lib.hid hPF
        clear hcc hPF
        unfold ptrTo at hso
        refine hso.out.mono ?_
        rintro e w2 ⟨rfl, hb2⟩
        have HH2 := Lib.hid (HH1.out.later hb2)
        clear hb2 HH1 hso
        go_wp2_with fail
        refine (sort_nil _ _ _ _).mono ?_
        rintro e w3 ⟨rfl, hb3⟩
        have HH3 := Lib.hid (HH2.out.later hb3)
        clear hb3 HH2
        have hnm := Lib.hid (names_kept HH3.out (by simp))
        simp only [List.length_cons, List.length_nil] at hnm
        unfold ptrTo at hnm
        go_wp2_with fail
        refine hnm.out.mono ?_
        rintro e w4 ⟨a4, cap4, rfl, hh4⟩
        have HH4 := Lib.hid hh4
        clear hh4 hnm HH3
        have hop : Hid (Calls Tryz.prog 29 #[ptrTo pb, .string inn, .int .i64 20] w4 (StreamOpenPost w4 pb inn 20 (pfOpen d1 inn))) := Lib.hid (streamOpen_any (sz := 20) HH4.out.pool inn h1' (by decide) (by decide))
        unfold ptrTo at hop
        rw [HPF.out] at hop
        go_wp2_with fail
        refine hop.out.mono ?_
        rintro e w5 ⟨v5, rfl, hb5, -, -⟩
        have HH5 := Lib.hid (HH4.out.later hb5)
        clear hb5 hop HH4
        go_wp2_with fail
        refine (works12_any HW HJS hm _).mono ?_
        rintro e w6 ⟨rfl, hb6⟩
        have HH6 := Lib.hid (HH5.out.later hb6)
        clear hb6 HH5
        go_wp2
        go_ret
        exact ⟨rfl, HB0.out.trans (HH6.out.below.mono HB0.out.size)⟩
  · rw [hi] at hi'; cases hi'
  · rcases mode out with ⟨so, -⟩ | ⟨so, eo, ho'⟩ | ⟨so, eo, -⟩
    · clear hi ho
      rcases hy with rfl | rfl
      · go_enter Tryz.func6, Tryz.ntmps6
        go_wp2_with fail
        generalize w.alloc (.cells #[.int .u32 1, .int .u32 2, .int .u64 3, .int .u32 4294967295] 47) = W0 at *
        refine (begun_any HW 65536 (by decide) n hn1 (by omega) _ [e123] W0 HR0.out (by decide)).mono ?_
        rintro e w1 ⟨db, pb, o1, d1, rfl, hh1⟩
        have HH1 := Lib.hid hh1
        clear hh1
        unfold ptrTo at *
        go_wp2_with fail
        have hcc : pfOpen d1 inn ≠ 0 := pfOpen_none HH1.out.pool (mget_other HNI.out)
        have hso := Lib.hid (sort_noin HH1.out.pool (by omega) 0 (by simp) (fun e => by have := HNE.out; rw [e] at this; simp at this) HI.out HO.out h1' hcc)
        generalize hPF : pfOpen d1 inn = cc at *
        have hcc' : ¬ (cc : Int) = 0 := by omega
        have hccb : ((cc : Int) != 0) = true := bne_iff_ne.2 hcc'
        have HPF := Lib.hid hPF
        clear hcc hPF
        unfold ptrTo at hso
        refine hso.out.mono ?_
        rintro e w2 ⟨rfl, hb2⟩
        have HH2 := Lib.hid (HH1.out.later hb2)
        clear hb2 HH1 hso
        go_wp2_with fail
        refine (sort_nil _ _ _ _).mono ?_
        rintro e w3 ⟨rfl, hb3⟩
        have HH3 := Lib.hid (HH2.out.later hb3)
        clear hb3 HH2
        have hnm := Lib.hid (names_kept HH3.out (by simp))
        simp only [List.length_cons, List.length_nil] at hnm
        unfold ptrTo at hnm
        go_wp2_with fail
        refine hnm.out.mono ?_
        rintro e w4 ⟨a4, cap4, rfl, hh4⟩
        have HH4 := Lib.hid hh4
        clear hh4 hnm HH3
        have hop : Hid (Calls Tryz.prog 29 #[ptrTo pb, .string inn, .int .i64 20] w4 (StreamOpenPost w4 pb inn 20 (pfOpen d1 inn))) := Lib.hid (streamOpen_any (sz := 20) HH4.out.pool inn h1' (by decide) (by decide))
        unfold ptrTo at hop
        rw [HPF.out] at hop
        go_wp2_with fail
        refine hop.out.mono ?_
        rintro e w5 ⟨v5, rfl, hb5, -, -⟩
        have HH5 := Lib.hid (HH4.out.later hb5)
        clear hb5 hop HH4
        go_wp2_with fail
        refine (works12_any HW HJS hm _).mono ?_
        rintro e w6 ⟨rfl, hb6⟩
        have HH6 := Lib.hid (HH5.out.later hb6)
        clear hb6 HH5
        go_wp2
        go_ret
        exact ⟨rfl, HB0.out.trans (HH6.out.below.mono HB0.out.size)⟩
      · go_enter Tryz.func6, Tryz.ntmps6
        go_wp2_with fail
        generalize w.alloc (.cells #[.int .u32 1, .int .u32 2, .int .u64 3, .int .u32 4294967295] 47) = W0 at *
        refine (begun_any HW 65536 (by decide) n hn1 (by omega) _ [e123] W0 HR0.out (by decide)).mono ?_
        rintro e w1 ⟨db, pb, o1, d1, rfl, hh1⟩
        have HH1 := Lib.hid hh1
        clear hh1
        unfold ptrTo at *
        go_wp2_with fail
        have hcc : pfOpen d1 inn ≠ 0 := pfOpen_none HH1.out.pool (mget_other HNI.out)
        have hso := Lib.hid (sort_noin HH1.out.pool (by omega) 1 (by simp) (fun e => by have := HNE.out; rw [e] at this; simp at this) HI.out HO.out h1' hcc)
        generalize hPF : pfOpen d1 inn = cc at *
        have hcc' : ¬ (cc : Int) = 0 := by omega
        have hccb : ((cc : Int) != 0) = true := bne_iff_ne.2 hcc'
        have HPF := Lib.hid hPF
        clear hcc hPF
        unfold ptrTo at hso
        refine hso.out.mono ?_
        rintro e w2 ⟨rfl, hb2⟩
        have HH2 := Lib.hid (HH1.out.later hb2)
        clear hb2 HH1 hso
        go_wp2_with fail
        refine (sort_nil _ _ _ _).mono ?_
        rintro e w3 ⟨rfl, hb3⟩
        have HH3 := Lib.hid (HH2.out.later hb3)
        clear hb3 HH2
        have hnm := Lib.hid (names_kept HH3.out (by simp))
        simp only [List.length_cons, List.length_nil] at hnm
        unfold ptrTo at hnm
        go_wp2_with fail
        refine hnm.out.mono ?_
        rintro e w4 ⟨a4, cap4, rfl, hh4⟩
        have HH4 := Lib.hid hh4
        clear hh4 hnm HH3
        have hop : Hid (Calls Tryz.prog 29 #[ptrTo pb, .string inn, .int .i64 20] w4 (StreamOpenPost w4 pb inn 20 (pfOpen d1 inn))) := Lib.hid (streamOpen_any (sz := 20) HH4.out.pool inn h1' (by decide) (by decide))
        unfold ptrTo at hop
        rw [HPF.out] at hop
        go_wp2_with fail
        refine hop.out.mono ?_
        rintro e w5 ⟨v5, rfl, hb5, -, -⟩
        have HH5 := Lib.hid (HH4.out.later hb5)
        clear hb5 hop HH4
        go_wp2_with fail
        refine (works12_any HW HJS hm _).mono ?_
        rintro e w6 ⟨rfl, hb6⟩
        have HH6 := Lib.hid (HH5.out.later hb6)
        clear hb6 HH5
        go_wp2
        go_ret
        exact ⟨rfl, HB0.out.trans (HH6.out.below.mono HB0.out.size)⟩
    · rw [ho] at ho'; cases ho'
    · clear hi ho
      rcases hy with rfl | rfl
      · go_enter Tryz.func6, Tryz.ntmps6
        go_wp2_with fail
        generalize w.alloc (.cells #[.int .u32 1, .int .u32 2, .int .u64 3, .int .u32 4294967295] 47) = W0 at *
        refine (begun_any HW 65536 (by decide) n hn1 (by omega) _ [e123] W0 HR0.out (by decide)).mono ?_
        rintro e w1 ⟨db, pb, o1, d1, rfl, hh1⟩
        have HH1 := Lib.hid hh1
        clear hh1
        unfold ptrTo at *
        go_wp2_with fail
        have hcc : pfOpen d1 inn ≠ 0 := pfOpen_none HH1.out.pool (mget_other HNI.out)
        have hso := Lib.hid (sort_noin HH1.out.pool (by omega) 0 (by simp) (fun e => by have := HNE.out; rw [e] at this; simp at this) HI.out HO.out h1' hcc)
        generalize hPF : pfOpen d1 inn = cc at *
        have hcc' : ¬ (cc : Int) = 0 := by omega
        have hccb : ((cc : Int) != 0) = true := bne_iff_ne.2 hcc'
        have HPF := Lib.hid hPF
        clear hcc hPF
        unfold ptrTo at hso
        refine hso.out.mono ?_
        rintro e w2 ⟨rfl, hb2⟩
        have HH2 := Lib.hid (HH1.out.later hb2)
        clear hb2 HH1 hso
        go_wp2_with fail
        refine (sort_nil _ _ _ _).mono ?_
        rintro e w3 ⟨rfl, hb3⟩
        have HH3 := Lib.hid (HH2.out.later hb3)
        clear hb3 HH2
        have hnm := Lib.hid (names_kept HH3.out (by simp))
        simp only [List.length_cons, List.length_nil] at hnm
        unfold ptrTo at hnm
        go_wp2_with fail
        refine hnm.out.mono ?_
        rintro e w4 ⟨a4, cap4, rfl, hh4⟩
        have HH4 := Lib.hid hh4
        clear hh4 hnm HH3
        have hop : Hid (Calls Tryz.prog 29 #[ptrTo pb, .string inn, .int .i64 20] w4 (StreamOpenPost w4 pb inn 20 (pfOpen d1 inn))) := Lib.hid (streamOpen_any (sz := 20) HH4.out.pool inn h1' (by decide) (by decide))
        unfold ptrTo at hop
        rw [HPF.out] at hop
        go_wp2_with fail
        refine hop.out.mono ?_
        rintro e w5 ⟨v5, rfl, hb5, -, -⟩
        have HH5 := Lib.hid (HH4.out.later hb5)
        clear hb5 hop HH4
        go_wp2_with fail
        refine (works12_any HW HJS hm _).mono ?_
        rintro e w6 ⟨rfl, hb6⟩
        have HH6 := Lib.hid (HH5.out.later hb6)
        clear hb6 HH5
        go_wp2
        go_ret
        exact ⟨rfl, HB0.out.trans (HH6.out.below.mono HB0.out.size)⟩
      · go_enter Tryz.func6, Tryz.ntmps6
        go_wp2_with fail
        generalize w.alloc (.cells #[.int .u32 1, .int .u32 2, .int .u64 3, .int .u32 4294967295] 47) = W0 at *
        refine (begun_any HW 65536 (by decide) n hn1 (by omega) _ [e123] W0 HR0.out (by decide)).mono ?_
        rintro e w1 ⟨db, pb, o1, d1, rfl, hh1⟩
        have HH1 := Lib.hid hh1
        clear hh1
        unfold ptrTo at *
        go_wp2_with fail
        have hcc : pfOpen d1 inn ≠ 0 := pfOpen_none HH1.out.pool (mget_other HNI.out)
        have hso := Lib.hid (sort_noin HH1.out.pool (by omega) 1 (by simp) (fun e => by have := HNE.out; rw [e] at this; simp at this) HI.out HO.out h1' hcc)
        generalize hPF : pfOpen d1 inn = cc at *
        have hcc' : ¬ (cc : Int) = 0 := by omega
        have hccb : ((cc : Int) != 0) = true := bne_iff_ne.2 hcc'
        have HPF := Lib.hid hPF
        clear hcc hPF
        unfold ptrTo at hso
        refine hso.out.mono ?_
        rintro e w2 ⟨rfl, hb2⟩
        have HH2 := Lib.hid (HH1.out.later hb2)
        clear hb2 HH1 hso
        go_wp2_with fail
        refine (sort_nil _ _ _ _).mono ?_
        rintro e w3 ⟨rfl, hb3⟩
        have HH3 := Lib.hid (HH2.out.later hb3)
        clear hb3 HH2
        have hnm := Lib.hid (names_kept HH3.out (by simp))
        simp only [List.length_cons, List.length_nil] at hnm
        unfold ptrTo at hnm
        go_wp2_with fail
        refine hnm.out.mono ?_
        rintro e w4 ⟨a4, cap4, rfl, hh4⟩
        have HH4 := Lib.hid hh4
        clear hh4 hnm HH3
        have hop : Hid (Calls Tryz.prog 29 #[ptrTo pb, .string inn, .int .i64 20] w4 (StreamOpenPost w4 pb inn 20 (pfOpen d1 inn))) := Lib.hid (streamOpen_any (sz := 20) HH4.out.pool inn h1' (by decide) (by decide))
        unfold ptrTo at hop
        rw [HPF.out] at hop
        go_wp2_with fail
        refine hop.out.mono ?_
        rintro e w5 ⟨v5, rfl, hb5, -, -⟩
        have HH5 := Lib.hid (HH4.out.later hb5)
        clear hb5 hop HH4
        go_wp2_with fail
        refine (works12_any HW HJS hm _).mono ?_
        rintro e w6 ⟨rfl, hb6⟩
        have HH6 := Lib.hid (HH5.out.later hb6)
        clear hb6 HH5
        go_wp2
        go_ret
        exact ⟨rfl, HB0.out.trans (HH6.out.below.mono HB0.out.size)⟩

set_option maxRecDepth 100000 in
set_option maxHeartbeats 16000000 in
theorem refuses_sorted (HW : WriteSaid) {m : Nat} (HJS : JobSortSaid m) (hm : 2 ≤ m) (k n : Nat) (hk : k < 256) (hn : 1 + (k : Int) % 20 = (n : Int)) (hn1 : 1 ≤ n) (y : Int) (out : Name) (h2 : out.size ≤ 100) (hy : y = 0 ∨ y = 1) (hne : ([105, 110] == out.toList) = false) (hne' : out ≠ nmIn) (ho : ownName out = false) (hn8 : ¬ (n : Int) < 8) (hok : okName out = true) (w : World) :
    Calls Tryz.prog 6 #[.int .u8 (k : Int), .int .i64 y, .string ⟨#[105, 110]⟩, .string out] w fun e w' => e = .returned (.bool true) ∧ Below w.heap.size w w' := by
  have hw1 : IntKind.i64.wrap (k : Int) = (k : Int) := wrap_in (by omega) (by omega)
  have g2 : ¬ ((out.size : Int) > 100) := by omega
  have HB0 : Hid (Below w.heap.size w (w.alloc (.cells #[.int .u32 1, .int .u32 2, .int .u64 3, .int .u32 4294967295] 47))) := Lib.hid ((Below.refl _ _).alloc (Nat.le_refl _) _)
  have HR0 : Hid (RdE (w.alloc (.cells #[.int .u32 1, .int .u32 2, .int .u64 3, .int .u32 4294967295] 47)) (.slice (some ⟨w.heap.size, 0, none⟩) 1 1) [e123]) := Lib.hid (rd_e123 w)
  have ein : (((⟨#[105, 110]⟩ : ByteArray).extract 0 2).toList == [116, 46]) = false := mode_in
  have HNE := Lib.hid hne'
  have HO := Lib.hid ho
  have HOK := Lib.hid hok
  clear hne' hok
  rcases mode out with ⟨so, -⟩ | ⟨so, eo, ho'⟩ | ⟨so, eo, -⟩
  · clear ho
    rcases hy with rfl | rfl
    · go_enter Tryz.func6, Tryz.ntmps6
      go_wp2_with fail
      generalize w.alloc (.cells #[.int .u32 1, .int .u32 2, .int .u64 3, .int .u32 4294967295] 47) = W0 at *
      refine (begun_any HW 65536 (by decide) n hn1 (by omega) _ [e123] W0 HR0.out (by decide)).mono ?_
      rintro e w1 ⟨db, pb, o1, d1, rfl, hh1⟩
      have HH1 := Lib.hid hh1
      clear hh1
      unfold ptrTo at *
      go_wp2_with fail
      have hso := Lib.hid (kept_sort HW HJS (inn := nmIn) (out := out) HH1.out (by omega) false (fun e => HNE.out e.symm) (by decide) HO.out HOK.out (by simp; omega) (by simp))
      unfold nmIn ptrTo at hso
      unfold nmIn at HH1
      refine hso.out.mono ?_
      rintro e w2 ⟨d2, o2, rfl, hh2⟩
      have HH2 := Lib.hid hh2
      clear hh2 HH1 hso
      go_wp2_with fail
      refine (sort_nil _ _ _ _).mono ?_
      rintro e w3 ⟨rfl, hb3⟩
      have HH3 := Lib.hid (HH2.out.later hb3)
      clear hb3 HH2
      have hnm := Lib.hid (names_kept HH3.out (by simp))
      simp only [List.length_cons, List.length_nil] at hnm
      unfold ptrTo at hnm
      go_wp2_with fail
      refine hnm.out.mono ?_
      rintro e w4 ⟨a4, cap4, rfl, hh4⟩
      have HH4 := Lib.hid hh4
      clear hh4 hnm HH3
      have hop : Hid (Calls Tryz.prog 29 #[ptrTo pb, .string ⟨#[105, 110]⟩, .int .i64 20] w4 (StreamOpenPost w4 pb ⟨#[105, 110]⟩ 20 (pfOpen d2 ⟨#[105, 110]⟩))) := Lib.hid (streamOpen_any (sz := 20) HH4.out.pool ⟨#[105, 110]⟩ (by decide) (by decide) (by decide))
      unfold ptrTo at hop
      go_wp2_with fail
      refine hop.out.mono ?_
      rintro e w5 ⟨v5, rfl, hb5, -, -⟩
      have HH5 := Lib.hid (HH4.out.later hb5)
      clear hb5 hop HH4
      go_wp2_with fail
      refine (works12_any HW HJS hm _).mono ?_
      rintro e w6 ⟨rfl, hb6⟩
      have HH6 := Lib.hid (HH5.out.later hb6)
      clear hb6 HH5
      go_wp2
      go_ret
      exact ⟨rfl, HB0.out.trans (HH6.out.below.mono HB0.out.size)⟩
    · go_enter Tryz.func6, Tryz.ntmps6
      go_wp2_with fail
      generalize w.alloc (.cells #[.int .u32 1, .int .u32 2, .int .u64 3, .int .u32 4294967295] 47) = W0 at *
      refine (begun_any HW 65536 (by decide) n hn1 (by omega) _ [e123] W0 HR0.out (by decide)).mono ?_
      rintro e w1 ⟨db, pb, o1, d1, rfl, hh1⟩
      have HH1 := Lib.hid hh1
      clear hh1
      unfold ptrTo at *
      go_wp2_with fail
      have hso := Lib.hid (kept_sort HW HJS (inn := nmIn) (out := out) HH1.out (by omega) true (fun e => HNE.out e.symm) (by decide) HO.out HOK.out (by simp; omega) (by simp))
      unfold nmIn ptrTo at hso
      unfold nmIn at HH1
      refine hso.out.mono ?_
      rintro e w2 ⟨d2, o2, rfl, hh2⟩
      have HH2 := Lib.hid hh2
      clear hh2 HH1 hso
      go_wp2_with fail
      refine (sort_nil _ _ _ _).mono ?_
      rintro e w3 ⟨rfl, hb3⟩
      have HH3 := Lib.hid (HH2.out.later hb3)
      clear hb3 HH2
      have hnm := Lib.hid (names_kept HH3.out (by simp))
      simp only [List.length_cons, List.length_nil] at hnm
      unfold ptrTo at hnm
      go_wp2_with fail
      refine hnm.out.mono ?_
      rintro e w4 ⟨a4, cap4, rfl, hh4⟩
      have HH4 := Lib.hid hh4
      clear hh4 hnm HH3
      have hop : Hid (Calls Tryz.prog 29 #[ptrTo pb, .string ⟨#[105, 110]⟩, .int .i64 20] w4 (StreamOpenPost w4 pb ⟨#[105, 110]⟩ 20 (pfOpen d2 ⟨#[105, 110]⟩))) := Lib.hid (streamOpen_any (sz := 20) HH4.out.pool ⟨#[105, 110]⟩ (by decide) (by decide) (by decide))
      unfold ptrTo at hop
      go_wp2_with fail
      refine hop.out.mono ?_
      rintro e w5 ⟨v5, rfl, hb5, -, -⟩
      have HH5 := Lib.hid (HH4.out.later hb5)
      clear hb5 hop HH4
      go_wp2_with fail
      refine (works12_any HW HJS hm _).mono ?_
      rintro e w6 ⟨rfl, hb6⟩
      have HH6 := Lib.hid (HH5.out.later hb6)
      clear hb6 HH5
      go_wp2
      go_ret
      exact ⟨rfl, HB0.out.trans (HH6.out.below.mono HB0.out.size)⟩
  · rw [ho] at ho'; cases ho'
  · clear ho
    rcases hy with rfl | rfl
    · go_enter Tryz.func6, Tryz.ntmps6
      go_wp2_with fail
      generalize w.alloc (.cells #[.int .u32 1, .int .u32 2, .int .u64 3, .int .u32 4294967295] 47) = W0 at *
      refine (begun_any HW 65536 (by decide) n hn1 (by omega) _ [e123] W0 HR0.out (by decide)).mono ?_
      rintro e w1 ⟨db, pb, o1, d1, rfl, hh1⟩
      have HH1 := Lib.hid hh1
      clear hh1
      unfold ptrTo at *
      go_wp2_with fail
      have hso := Lib.hid (kept_sort HW HJS (inn := nmIn) (out := out) HH1.out (by omega) false (fun e => HNE.out e.symm) (by decide) HO.out HOK.out (by simp; omega) (by simp))
      unfold nmIn ptrTo at hso
      unfold nmIn at HH1
      refine hso.out.mono ?_
      rintro e w2 ⟨d2, o2, rfl, hh2⟩
      have HH2 := Lib.hid hh2
      clear hh2 HH1 hso
      go_wp2_with fail
      refine (sort_nil _ _ _ _).mono ?_
      rintro e w3 ⟨rfl, hb3⟩
      have HH3 := Lib.hid (HH2.out.later hb3)
      clear hb3 HH2
      have hnm := Lib.hid (names_kept HH3.out (by simp))
      simp only [List.length_cons, List.length_nil] at hnm
      unfold ptrTo at hnm
      go_wp2_with fail
      refine hnm.out.mono ?_
      rintro e w4 ⟨a4, cap4, rfl, hh4⟩
      have HH4 := Lib.hid hh4
      clear hh4 hnm HH3
      have hop : Hid (Calls Tryz.prog 29 #[ptrTo pb, .string ⟨#[105, 110]⟩, .int .i64 20] w4 (StreamOpenPost w4 pb ⟨#[105, 110]⟩ 20 (pfOpen d2 ⟨#[105, 110]⟩))) := Lib.hid (streamOpen_any (sz := 20) HH4.out.pool ⟨#[105, 110]⟩ (by decide) (by decide) (by decide))
      unfold ptrTo at hop
      go_wp2_with fail
      refine hop.out.mono ?_
      rintro e w5 ⟨v5, rfl, hb5, -, -⟩
      have HH5 := Lib.hid (HH4.out.later hb5)
      clear hb5 hop HH4
      go_wp2_with fail
      refine (works12_any HW HJS hm _).mono ?_
      rintro e w6 ⟨rfl, hb6⟩
      have HH6 := Lib.hid (HH5.out.later hb6)
      clear hb6 HH5
      go_wp2
      go_ret
      exact ⟨rfl, HB0.out.trans (HH6.out.below.mono HB0.out.size)⟩
    · go_enter Tryz.func6, Tryz.ntmps6
      go_wp2_with fail
      generalize w.alloc (.cells #[.int .u32 1, .int .u32 2, .int .u64 3, .int .u32 4294967295] 47) = W0 at *
      refine (begun_any HW 65536 (by decide) n hn1 (by omega) _ [e123] W0 HR0.out (by decide)).mono ?_
      rintro e w1 ⟨db, pb, o1, d1, rfl, hh1⟩
      have HH1 := Lib.hid hh1
      clear hh1
      unfold ptrTo at *
      go_wp2_with fail
      have hso := Lib.hid (kept_sort HW HJS (inn := nmIn) (out := out) HH1.out (by omega) true (fun e => HNE.out e.symm) (by decide) HO.out HOK.out (by simp; omega) (by simp))
      unfold nmIn ptrTo at hso
      unfold nmIn at HH1
      refine hso.out.mono ?_
      rintro e w2 ⟨d2, o2, rfl, hh2⟩
      have HH2 := Lib.hid hh2
      clear hh2 HH1 hso
      go_wp2_with fail
      refine (sort_nil _ _ _ _).mono ?_
      rintro e w3 ⟨rfl, hb3⟩
      have HH3 := Lib.hid (HH2.out.later hb3)
      clear hb3 HH2
      have hnm := Lib.hid (names_kept HH3.out (by simp))
      simp only [List.length_cons, List.length_nil] at hnm
      unfold ptrTo at hnm
      go_wp2_with fail
      refine hnm.out.mono ?_
      rintro e w4 ⟨a4, cap4, rfl, hh4⟩
      have HH4 := Lib.hid hh4
      clear hh4 hnm HH3
      have hop : Hid (Calls Tryz.prog 29 #[ptrTo pb, .string ⟨#[105, 110]⟩, .int .i64 20] w4 (StreamOpenPost w4 pb ⟨#[105, 110]⟩ 20 (pfOpen d2 ⟨#[105, 110]⟩))) := Lib.hid (streamOpen_any (sz := 20) HH4.out.pool ⟨#[105, 110]⟩ (by decide) (by decide) (by decide))
      unfold ptrTo at hop
      go_wp2_with fail
      refine hop.out.mono ?_
      rintro e w5 ⟨v5, rfl, hb5, -, -⟩
      have HH5 := Lib.hid (HH4.out.later hb5)
      clear hb5 hop HH4
      go_wp2_with fail
      refine (works12_any HW HJS hm _).mono ?_
      rintro e w6 ⟨rfl, hb6⟩
      have HH6 := Lib.hid (HH5.out.later hb6)
      clear hb6 HH5
      go_wp2
      go_ret
      exact ⟨rfl, HB0.out.trans (HH6.out.below.mono HB0.out.size)⟩

set_option maxRecDepth 100000 in
set_option maxHeartbeats 16000000 in
theorem refuses_noout (HW : WriteSaid) {m : Nat} (HJS : JobSortSaid m) (hm : 2 ≤ m) (k n : Nat) (hk : k < 256) (hn : 1 + (k : Int) % 20 = (n : Int)) (hn1 : 1 ≤ n) (y : Int) (out : Name) (h2 : out.size ≤ 100) (hy : y = 0 ∨ y = 1) (hne : ([105, 110] == out.toList) = false) (hne' : out ≠ nmIn) (ho : ownName out = false) (hn8 : ¬ (n : Int) < 8) (hok : okName out = false) (w : World) :
    Calls Tryz.prog 6 #[.int .u8 (k : Int), .int .i64 y, .string ⟨#[105, 110]⟩, .string out] w fun e w' => e = .returned (.bool true) ∧ Below w.heap.size w w' := by
  have hw1 : IntKind.i64.wrap (k : Int) = (k : Int) := wrap_in (by omega) (by omega)
  have g2 : ¬ ((out.size : Int) > 100) := by omega
  have HB0 : Hid (Below w.heap.size w (w.alloc (.cells #[.int .u32 1, .int .u32 2, .int .u64 3, .int .u32 4294967295] 47))) := Lib.hid ((Below.refl _ _).alloc (Nat.le_refl _) _)
  have HR0 : Hid (RdE (w.alloc (.cells #[.int .u32 1, .int .u32 2, .int .u64 3, .int .u32 4294967295] 47)) (.slice (some ⟨w.heap.size, 0, none⟩) 1 1) [e123]) := Lib.hid (rd_e123 w)
  have ein : (((⟨#[105, 110]⟩ : ByteArray).extract 0 2).toList == [116, 46]) = false := mode_in
  have HNE := Lib.hid hne'
  have HO := Lib.hid ho
  have HOK := Lib.hid hok
  clear hne' hok
  rcases mode out with ⟨so, -⟩ | ⟨so, eo, ho'⟩ | ⟨so, eo, -⟩
  · clear ho
    rcases hy with rfl | rfl
    · go_enter Tryz.func6, Tryz.ntmps6
      go_wp2_with fail
      generalize w.alloc (.cells #[.int .u32 1, .int .u32 2, .int .u64 3, .int .u32 4294967295] 47) = W0 at *
      refine (begun_any HW 65536 (by decide) n hn1 (by omega) _ [e123] W0 HR0.out (by decide)).mono ?_
      rintro e w1 ⟨db, pb, o1, d1, rfl, hh1⟩
      have HH1 := Lib.hid hh1
      clear hh1
      unfold ptrTo at *
      go_wp2_with fail
      have hso := Lib.hid (sort_noout HW (inn := nmIn) (out := out) HH1.out.pool (by omega) (es := [e123]) (fl := true) rfl 0 (by simp) (fun e => HNE.out e.symm) (by decide) HO.out (by omega) HOK.out HH1.out.armed HH1.out.dead)
      unfold nmIn ptrTo at hso
      unfold nmIn at HH1
      refine hso.out.mono ?_
      rintro e w2 ⟨c2, d2, o2, rfl, hm2, he2⟩
      have hc2 : c2 = 1 := he2.elim id fun he => absurd (HH1.out.fine' hm2 (.inr he) (by decide)) (Err.ne he)
      subst hc2
      have HH2 := Lib.hid (HH1.out.moved hm2 (fun _ h => h.elim))
      clear hm2 he2 HH1 hso
      go_wp2_with fail
      refine (sort_nil _ _ _ _).mono ?_
      rintro e w3 ⟨rfl, hb3⟩
      have HH3 := Lib.hid (HH2.out.later hb3)
      clear hb3 HH2
      have hnm := Lib.hid (names_kept HH3.out (by simp))
      simp only [List.length_cons, List.length_nil] at hnm
      unfold ptrTo at hnm
      go_wp2_with fail
      refine hnm.out.mono ?_
      rintro e w4 ⟨a4, cap4, rfl, hh4⟩
      have HH4 := Lib.hid hh4
      clear hh4 hnm HH3
      have hop : Hid (Calls Tryz.prog 29 #[ptrTo pb, .string ⟨#[105, 110]⟩, .int .i64 20] w4 (StreamOpenPost w4 pb ⟨#[105, 110]⟩ 20 (pfOpen d2 ⟨#[105, 110]⟩))) := Lib.hid (streamOpen_any (sz := 20) HH4.out.pool ⟨#[105, 110]⟩ (by decide) (by decide) (by decide))
      unfold ptrTo at hop
      go_wp2_with fail
      refine hop.out.mono ?_
      rintro e w5 ⟨v5, rfl, hb5, -, -⟩
      have HH5 := Lib.hid (HH4.out.later hb5)
      clear hb5 hop HH4
      go_wp2_with fail
      refine (works12_any HW HJS hm _).mono ?_
      rintro e w6 ⟨rfl, hb6⟩
      have HH6 := Lib.hid (HH5.out.later hb6)
      clear hb6 HH5
      go_wp2
      go_ret
      exact ⟨rfl, HB0.out.trans (HH6.out.below.mono HB0.out.size)⟩
    · go_enter Tryz.func6, Tryz.ntmps6
      go_wp2_with fail
      generalize w.alloc (.cells #[.int .u32 1, .int .u32 2, .int .u64 3, .int .u32 4294967295] 47) = W0 at *
      refine (begun_any HW 65536 (by decide) n hn1 (by omega) _ [e123] W0 HR0.out (by decide)).mono ?_
      rintro e w1 ⟨db, pb, o1, d1, rfl, hh1⟩
      have HH1 := Lib.hid hh1
      clear hh1
      unfold ptrTo at *
      go_wp2_with fail
      have hso := Lib.hid (sort_noout HW (inn := nmIn) (out := out) HH1.out.pool (by omega) (es := [e123]) (fl := true) rfl 1 (by simp) (fun e => HNE.out e.symm) (by decide) HO.out (by omega) HOK.out HH1.out.armed HH1.out.dead)
      unfold nmIn ptrTo at hso
      unfold nmIn at HH1
      refine hso.out.mono ?_
      rintro e w2 ⟨c2, d2, o2, rfl, hm2, he2⟩
      have hc2 : c2 = 1 := he2.elim id fun he => absurd (HH1.out.fine' hm2 (.inr he) (by decide)) (Err.ne he)
      subst hc2
      have HH2 := Lib.hid (HH1.out.moved hm2 (fun _ h => h.elim))
      clear hm2 he2 HH1 hso
      go_wp2_with fail
      refine (sort_nil _ _ _ _).mono ?_
      rintro e w3 ⟨rfl, hb3⟩
      have HH3 := Lib.hid (HH2.out.later hb3)
      clear hb3 HH2
      have hnm := Lib.hid (names_kept HH3.out (by simp))
      simp only [List.length_cons, List.length_nil] at hnm
      unfold ptrTo at hnm
      go_wp2_with fail
      refine hnm.out.mono ?_
      rintro e w4 ⟨a4, cap4, rfl, hh4⟩
      have HH4 := Lib.hid hh4
      clear hh4 hnm HH3
      have hop : Hid (Calls Tryz.prog 29 #[ptrTo pb, .string ⟨#[105, 110]⟩, .int .i64 20] w4 (StreamOpenPost w4 pb ⟨#[105, 110]⟩ 20 (pfOpen d2 ⟨#[105, 110]⟩))) := Lib.hid (streamOpen_any (sz := 20) HH4.out.pool ⟨#[105, 110]⟩ (by decide) (by decide) (by decide))
      unfold ptrTo at hop
      go_wp2_with fail
      refine hop.out.mono ?_
      rintro e w5 ⟨v5, rfl, hb5, -, -⟩
      have HH5 := Lib.hid (HH4.out.later hb5)
      clear hb5 hop HH4
      go_wp2_with fail
      refine (works12_any HW HJS hm _).mono ?_
      rintro e w6 ⟨rfl, hb6⟩
      have HH6 := Lib.hid (HH5.out.later hb6)
      clear hb6 HH5
      go_wp2
      go_ret
      exact ⟨rfl, HB0.out.trans (HH6.out.below.mono HB0.out.size)⟩
  · rw [ho] at ho'; cases ho'
  · clear ho
    rcases hy with rfl | rfl
    · go_enter Tryz.func6, Tryz.ntmps6
      go_wp2_with fail
      generalize w.alloc (.cells #[.int .u32 1, .int .u32 2, .int .u64 3, .int .u32 4294967295] 47) = W0 at *
      refine (begun_any HW 65536 (by decide) n hn1 (by omega) _ [e123] W0 HR0.out (by decide)).mono ?_
      rintro e w1 ⟨db, pb, o1, d1, rfl, hh1⟩
      have HH1 := Lib.hid hh1
      clear hh1
      unfold ptrTo at *
      go_wp2_with fail
      have hso := Lib.hid (sort_noout HW (inn := nmIn) (out := out) HH1.out.pool (by omega) (es := [e123]) (fl := true) rfl 0 (by simp) (fun e => HNE.out e.symm) (by decide) HO.out (by omega) HOK.out HH1.out.armed HH1.out.dead)
      unfold nmIn ptrTo at hso
      unfold nmIn at HH1
      refine hso.out.mono ?_
      rintro e w2 ⟨c2, d2, o2, rfl, hm2, he2⟩
      have hc2 : c2 = 1 := he2.elim id fun he => absurd (HH1.out.fine' hm2 (.inr he) (by decide)) (Err.ne he)
      subst hc2
      have HH2 := Lib.hid (HH1.out.moved hm2 (fun _ h => h.elim))
      clear hm2 he2 HH1 hso
      go_wp2_with fail
      refine (sort_nil _ _ _ _).mono ?_
      rintro e w3 ⟨rfl, hb3⟩
      have HH3 := Lib.hid (HH2.out.later hb3)
      clear hb3 HH2
      have hnm := Lib.hid (names_kept HH3.out (by simp))
      simp only [List.length_cons, List.length_nil] at hnm
      unfold ptrTo at hnm
      go_wp2_with fail
      refine hnm.out.mono ?_
      rintro e w4 ⟨a4, cap4, rfl, hh4⟩
      have HH4 := Lib.hid hh4
      clear hh4 hnm HH3
      have hop : Hid (Calls Tryz.prog 29 #[ptrTo pb, .string ⟨#[105, 110]⟩, .int .i64 20] w4 (StreamOpenPost w4 pb ⟨#[105, 110]⟩ 20 (pfOpen d2 ⟨#[105, 110]⟩))) := Lib.hid (streamOpen_any (sz := 20) HH4.out.pool ⟨#[105, 110]⟩ (by decide) (by decide) (by decide))
      unfold ptrTo at hop
      go_wp2_with fail
      refine hop.out.mono ?_
      rintro e w5 ⟨v5, rfl, hb5, -, -⟩
      have HH5 := Lib.hid (HH4.out.later hb5)
      clear hb5 hop HH4
      go_wp2_with fail
      refine (works12_any HW HJS hm _).mono ?_
      rintro e w6 ⟨rfl, hb6⟩
      have HH6 := Lib.hid (HH5.out.later hb6)
      clear hb6 HH5
      go_wp2
      go_ret
      exact ⟨rfl, HB0.out.trans (HH6.out.below.mono HB0.out.size)⟩
    · go_enter Tryz.func6, Tryz.ntmps6
      go_wp2_with fail
      generalize w.alloc (.cells #[.int .u32 1, .int .u32 2, .int .u64 3, .int .u32 4294967295] 47) = W0 at *
      refine (begun_any HW 65536 (by decide) n hn1 (by omega) _ [e123] W0 HR0.out (by decide)).mono ?_
      rintro e w1 ⟨db, pb, o1, d1, rfl, hh1⟩
      have HH1 := Lib.hid hh1
      clear hh1
      unfold ptrTo at *
      go_wp2_with fail
      have hso := Lib.hid (sort_noout HW (inn := nmIn) (out := out) HH1.out.pool (by omega) (es := [e123]) (fl := true) rfl 1 (by simp) (fun e => HNE.out e.symm) (by decide) HO.out (by omega) HOK.out HH1.out.armed HH1.out.dead)
      unfold nmIn ptrTo at hso
      unfold nmIn at HH1
      refine hso.out.mono ?_
      rintro e w2 ⟨c2, d2, o2, rfl, hm2, he2⟩
      have hc2 : c2 = 1 := he2.elim id fun he => absurd (HH1.out.fine' hm2 (.inr he) (by decide)) (Err.ne he)
      subst hc2
      have HH2 := Lib.hid (HH1.out.moved hm2 (fun _ h => h.elim))
      clear hm2 he2 HH1 hso
      go_wp2_with fail
      refine (sort_nil _ _ _ _).mono ?_
      rintro e w3 ⟨rfl, hb3⟩
      have HH3 := Lib.hid (HH2.out.later hb3)
      clear hb3 HH2
      have hnm := Lib.hid (names_kept HH3.out (by simp))
      simp only [List.length_cons, List.length_nil] at hnm
      unfold ptrTo at hnm
      go_wp2_with fail
      refine hnm.out.mono ?_
      rintro e w4 ⟨a4, cap4, rfl, hh4⟩
      have HH4 := Lib.hid hh4
      clear hh4 hnm HH3
      have hop : Hid (Calls Tryz.prog 29 #[ptrTo pb, .string ⟨#[105, 110]⟩, .int .i64 20] w4 (StreamOpenPost w4 pb ⟨#[105, 110]⟩ 20 (pfOpen d2 ⟨#[105, 110]⟩))) := Lib.hid (streamOpen_any (sz := 20) HH4.out.pool ⟨#[105, 110]⟩ (by decide) (by decide) (by decide))
      unfold ptrTo at hop
      go_wp2_with fail
      refine hop.out.mono ?_
      rintro e w5 ⟨v5, rfl, hb5, -, -⟩
      have HH5 := Lib.hid (HH4.out.later hb5)
      clear hb5 hop HH4
      go_wp2_with fail
      refine (works12_any HW HJS hm _).mono ?_
      rintro e w6 ⟨rfl, hb6⟩
      have HH6 := Lib.hid (HH5.out.later hb6)
      clear hb6 HH5
      go_wp2
      go_ret
      exact ⟨rfl, HB0.out.trans (HH6.out.below.mono HB0.out.size)⟩

end Go.Proofs.YtolieljpnafbhaaGreatDoor
/-
  milepostlaw12.ExtsortRefuses: the cases joined.
-/
namespace Go.Proofs.YtolieljpnafbhaaGreatDoor
open Go.RowKit Go.Maps

theorem ne_beq {a b : Name} (h : a ≠ b) : (a.toList == b.toList) = false := bytes_ne h

set_option maxRecDepth 100000 in
set_option maxHeartbeats 4000000 in
theorem extsortRefuses_any (HW : WriteSaid) {m : Nat} (HJS : JobSortSaid m) (hm : 2 ≤ m) (k : Nat) (hk : k < 256) (y : Int) (inn out : Name) (w : World) :
    Calls Tryz.prog 6 #[.int .u8 (k : Int), .int .i64 y, .string inn, .string out] w fun e w' => e = .returned (.bool true) ∧ Below w.heap.size w w' := by
  by_cases h1 : inn.size ≤ 100
  · by_cases h2 : out.size ≤ 100
    · have hn : 1 + (k : Int) % 20 = ((1 + k % 20 : Nat) : Int) := by omega
      have hn1 : 1 ≤ 1 + k % 20 := by omega
      generalize 1 + k % 20 = n at hn hn1
      by_cases hy : y = 0 ∨ y = 1
      · by_cases hio : inn = out
        · subst hio
          exact refuses_same HW HJS hm k n hk hn hn1 y inn inn h1 h2 hy rfl w
        · have hne := ne_beq hio
          by_cases ho : ownName inn = true ∨ ownName out = true
          · exact refuses_own HW HJS hm k n hk hn hn1 y inn out h1 h2 hy hne ho w
          · have hi : ownName inn = false := by
              cases e : ownName inn with
              | false => rfl
              | true => exact absurd (.inl e) ho
            have ho' : ownName out = false := by
              cases e : ownName out with
              | false => rfl
              | true => exact absurd (.inr e) ho
            by_cases hn8 : (n : Int) < 8
            · exact refuses_few HW HJS hm k n hk hn hn1 y inn out h1 h2 hy hne hi ho' hn8 w
            · by_cases hin : inn = nmIn
              · subst hin
                have hne2 : ([105, 110] == out.toList) = false := by
                  have : nmIn.toList = [105, 110] := by rw [ByteArray.toList_eq]; rfl
                  rw [← this]
                  exact hne
                cases hok : okName out with
                | true => exact refuses_sorted HW HJS hm k n hk hn hn1 y out h2 hy hne2 (fun e => hio e.symm) ho' hn8 hok w
                | false => exact refuses_noout HW HJS hm k n hk hn hn1 y out h2 hy hne2 (fun e => hio e.symm) ho' hn8 hok w
              · have hni : (inn.toList == [105, 110]) = false := by
                  have : nmIn.toList = [105, 110] := by rw [ByteArray.toList_eq]; rfl
                  rw [← this]
                  exact ne_beq hin
                exact refuses_none HW HJS hm k n hk hn hn1 y inn out h1 h2 hy hne hi ho' hn8 hni hin w
      · exact refuses_by HW HJS hm k n hk hn hn1 y inn out h1 h2 (fun e => hy (.inl e)) (fun e => hy (.inr e)) w
    · have g1 : ¬ ((inn.size : Int) > 100) := by omega
      have g2 : ((out.size : Int) > 100) := by omega
      go_enter Tryz.func6, Tryz.ntmps6
      go_wp2_with fail
      refine (works12_any HW HJS hm _).mono ?_
      rintro e w6 ⟨rfl, hb6⟩
      go_wp2
      go_ret
      exact ⟨rfl, hb6⟩
  · have g1 : ((inn.size : Int) > 100) := by omega
    go_enter Tryz.func6, Tryz.ntmps6
    go_wp2_with fail
    refine (works12_any HW HJS hm _).mono ?_
    rintro e w6 ⟨rfl, hb6⟩
    go_wp2
    go_ret
    exact ⟨rfl, hb6⟩
end Go.Proofs.YtolieljpnafbhaaGreatDoor
