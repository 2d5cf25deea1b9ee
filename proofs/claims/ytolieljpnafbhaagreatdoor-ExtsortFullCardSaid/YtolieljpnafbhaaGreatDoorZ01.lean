/-
  Joined, in build order, what is needed of: StreamM, SortE, Law12e, RefB, RefC, RefD, RefE.
-/
import Derived.Test.YtolieljpnafbhaaGreatDoorX16
import Derived.Test.YtolieljpnafbhaaGreatDoorCards
import Derived.Test.YtolieljpnafbhaaGreatDoorTie
import Derived.WalkKit
import Derived.ProofKit
import Derived.OpenShut
import Derived.Deep.DeepHandedRow
import Derived.Lib.LaidTab
import Derived.Lib.SmallJoins
import Derived.Maps.OwnSet
import Derived.Maps.RangeWalk
import Derived.StillTail
import Derived.Deep.Quiet
import Derived.Deep.QuietTactic
import Derived.BigQuiet
import Derived.Test.YtolieljpnafbhaaGreatDoorRows
import Derived.WalkSpells
import Derived.WalkLawsBesides
import Derived.Lib.Hide
import Derived.Handy
import Derived.IntWalk
import Derived.Deep.LoopGhost
import Derived.Deep.RegionHeld3
import Derived.Deep.DeepCutAuto
import Derived.Laws.Tables
import Derived.Deep.WholeRow
import Derived.Lib.AppendZerosOnto
import Derived.Maps.AppendAt
import Derived.Deep.MidRow
import Derived.Lib.ConvBytes
import Derived.DeepKeys4
import Derived.Laws.CopyOwn
import Derived.Orders
import Derived.StillTailTactics
import Derived.Shelf.SlSortCmp.Whole1
import Derived.Ground.SlsfProg
import Derived.Shelf.SlGeneric
import Derived.Test.YtolieljpnafbhaaGreatDoorProg
import Derived.Sort.OwnSortedInts
import Derived.Shelf.SlSortCmp.NoneTotal
import Derived.Shelf.SlSortCmp.Insertion
import Derived.Sort.Grow
import Derived.Deep.AppendSrc
import Derived.Shelf.Strconv.Itoa3
import Derived.Shelf.Strings.Prefix
import Derived.Shelf.SlicesE.Delete
import Derived.Ground.NamesProg
import Derived.Ground.SlgnProg
import Derived.Shelf.LaysM
import Derived.Sort.WalkA
import Derived.Shelf.SlicesQ.Load
import Derived.Shelf.SlicesQ.Reverse
import Derived.Shelf.RegionOpenPlain
import Derived.Sort.WalkB3
import Derived.Sort.LotD5
import Derived.Sort.Walk7
import Derived.Deep.CutBlock
import Derived.Sort.WalkC
import Derived.Sort.WalkA6
import Derived.Sort.AssemblyPlain
import Derived.Sort.Walk13a
import Derived.Below
import Derived.Deep.RegionWith
import Derived.Laws.IdiomStrings
import Derived.Shelf.Sort.Plain
import Derived.Shelf.Slices.In.SortNone
import Derived.Laws.BytesArg
import Derived.Laws.OwnMore
namespace Go.Proofs.YtolieljpnafbhaaGreatDoor
open Go.RowKit
theorem pagesOf_short {sz : Nat} {rs : List Rec} (hs : Sized sz rs) : Short (pagesOf (per sz) rs) := by
  intro b hb
  unfold pagesOf at hb
  obtain ⟨k, _, rfl⟩ := List.mem_map.1 hb
  rw [page_length hs]
  have h1 : sz * min (per sz) (rs.length - per sz * k) ≤ sz * per sz := Nat.mul_le_mul_left _ (Nat.min_le_left _ _)
  have h2 := per_mul sz
  omega
end Go.Proofs.YtolieljpnafbhaaGreatDoor
namespace Go.Proofs.YtolieljpnafbhaaGreatDoor
open Go.RowKit Go.Maps Go.MapKept
theorem edgRow_length (l : List Edg) : (edgRow l).length = l.length * 4 := by
  induction l with
  | nil => rfl
  | cons e l ih => rw [edgRow, List.length_append, ih, List.length_cons]; simp; omega
end Go.Proofs.YtolieljpnafbhaaGreatDoor
namespace Go.Proofs.YtolieljpnafbhaaGreatDoor
open Go.RowKit Go.Maps
theorem Best.turn {b b' : Bool} {l : List Edg} {out : List Edg} (h : Best b (bestOf b' l) out) : Best b l out := by
  have k := best_bestOf b' l
  refine ⟨h.rise, fun e he => ?_, fun x hx hn => ?_⟩
  · obtain ⟨h1, h2, h3⟩ := h.mem e he
    exact ⟨(k.mem e h1).1, h2, (k.mem e h1).2.2⟩
  · obtain ⟨y, hy, hs⟩ := k.all x hx hn
    obtain ⟨e, he, hs'⟩ := h.all y hy (hs.symm.loop hn)
    exact ⟨e, he, hs'.trans hs⟩
theorem bestOf_turn (b b' : Bool) (l : List Edg) : bestOf b (bestOf b' l) = bestOf b l := (best_bestOf b (bestOf b' l)).turn.eq
end Go.Proofs.YtolieljpnafbhaaGreatDoor
namespace Go.Proofs.YtolieljpnafbhaaGreatDoor
open Go.RowKit
set_option maxRecDepth 100000 in
set_option maxHeartbeats 2000000 in
theorem ahead05_nat (xt xh xx xm yt yh yx ym : Nat) (w : World) :
    Calls Tryz.prog 117 #[.agg #[.int .u32 (xt : Int), .int .u32 (xh : Int), .int .u64 (xx : Int), .int .u32 (xm : Int)], .agg #[.int .u32 (yt : Int), .int .u32 (yh : Int), .int .u64 (yx : Int), .int .u32 (ym : Int)]] w fun e w' => e = .returned (.bool (decide (xt < yt ∨ xt = yt ∧ xh < yh))) ∧ Below w.heap.size w w' := by
  obtain ⟨r, hr0⟩ : ∃ r : Bool, r = decide (xt < yt ∨ xt = yt ∧ xh < yh) := ⟨_, rfl⟩
  rw [← hr0]
  rcases Nat.lt_trichotomy xt yt with g | g | g
  · have hr : Hid (r = true) := Lib.hid (by rw [hr0]; exact decide_eq_true (.inl g))
    clear hr0
    have g1 : ((xt : Nat) : Int) < (yt : Int) := by omega
    go_enter Tryz.func117, Tryz.ntmps117
    go_wp2
    go_ret
    exact ⟨by rw [hr.out]; rfl, ((Below.refl _ _).alloc (Nat.le_refl _) _).alloc (by simp) _⟩
  · subst g
    by_cases g : xh < yh
    · have hr : Hid (r = true) := Lib.hid (by rw [hr0]; exact decide_eq_true (.inr ⟨rfl, g⟩))
      clear hr0
      have g1 : ((xh : Nat) : Int) < (yh : Int) := by omega
      go_enter Tryz.func117, Tryz.ntmps117
      go_wp2
      go_ret
      exact ⟨by rw [hr.out]; rfl, ((Below.refl _ _).alloc (Nat.le_refl _) _).alloc (by simp) _⟩
    · have hr : Hid (r = false) := Lib.hid (by rw [hr0]; exact decide_eq_false (by omega))
      clear hr0
      have g1 : ¬ ((xh : Nat) : Int) < (yh : Int) := by omega
      go_enter Tryz.func117, Tryz.ntmps117
      go_wp2
      go_ret
      exact ⟨by rw [hr.out]; rfl, ((Below.refl _ _).alloc (Nat.le_refl _) _).alloc (by simp) _⟩
  · have hr : Hid (r = false) := Lib.hid (by rw [hr0]; exact decide_eq_false (by omega))
    clear hr0
    have g1 : ¬ ((xt : Nat) : Int) < (yt : Int) := by omega
    have g2 : ((xt : Int) == (yt : Int)) = false := by rw [beq_eq_false_iff_ne]; omega
    have g3 : ¬ ((xt : Int) = (yt : Int)) := by omega
    go_enter Tryz.func117, Tryz.ntmps117
    go_wp2
    go_ret
    exact ⟨by rw [hr.out]; rfl, ((Below.refl _ _).alloc (Nat.le_refl _) _).alloc (by simp) _⟩
set_option maxRecDepth 100000 in
set_option maxHeartbeats 2000000 in
theorem ahead12_tail (xt xh xx xm yt yh yx ym : Nat) (w : World) :
    Calls Tryz.prog 87 #[.agg #[.int .u32 (xt : Int), .int .u32 (xh : Int), .int .u64 (xx : Int), .int .u32 (xm : Int)], .agg #[.int .u32 (yt : Int), .int .u32 (yh : Int), .int .u64 (yx : Int), .int .u32 (ym : Int)], .int .i64 0] w fun e w' => e = .returned (.bool (decide (xt < yt ∨ xt = yt ∧ xh < yh))) ∧ Below w.heap.size w w' := by
  obtain ⟨r, hr0⟩ : ∃ r : Bool, r = decide (xt < yt ∨ xt = yt ∧ xh < yh) := ⟨_, rfl⟩
  rw [← hr0]
  rcases Nat.lt_trichotomy xt yt with g | g | g
  · have hr : Hid (r = true) := Lib.hid (by rw [hr0]; exact decide_eq_true (.inl g))
    clear hr0
    have g1 : ((xt : Nat) : Int) < (yt : Int) := by omega
    go_enter Tryz.func87, Tryz.ntmps87
    go_wp2
    go_ret
    exact ⟨by rw [hr.out]; rfl, ((Below.refl _ _).alloc (Nat.le_refl _) _).alloc (by simp) _⟩
  · subst g
    by_cases g : xh < yh
    · have hr : Hid (r = true) := Lib.hid (by rw [hr0]; exact decide_eq_true (.inr ⟨rfl, g⟩))
      clear hr0
      have g1 : ((xh : Nat) : Int) < (yh : Int) := by omega
      go_enter Tryz.func87, Tryz.ntmps87
      go_wp2
      go_ret
      exact ⟨by rw [hr.out]; rfl, ((Below.refl _ _).alloc (Nat.le_refl _) _).alloc (by simp) _⟩
    · have hr : Hid (r = false) := Lib.hid (by rw [hr0]; exact decide_eq_false (by omega))
      clear hr0
      have g1 : ¬ ((xh : Nat) : Int) < (yh : Int) := by omega
      go_enter Tryz.func87, Tryz.ntmps87
      go_wp2
      go_ret
      exact ⟨by rw [hr.out]; rfl, ((Below.refl _ _).alloc (Nat.le_refl _) _).alloc (by simp) _⟩
  · have hr : Hid (r = false) := Lib.hid (by rw [hr0]; exact decide_eq_false (by omega))
    clear hr0
    have g1 : ¬ ((xt : Nat) : Int) < (yt : Int) := by omega
    have g2 : ((xt : Int) == (yt : Int)) = false := by rw [beq_eq_false_iff_ne]; omega
    have g3 : ¬ ((xt : Int) = (yt : Int)) := by omega
    go_enter Tryz.func87, Tryz.ntmps87
    go_wp2
    go_ret
    exact ⟨by rw [hr.out]; rfl, ((Below.refl _ _).alloc (Nat.le_refl _) _).alloc (by simp) _⟩
set_option maxRecDepth 100000 in
set_option maxHeartbeats 2000000 in
theorem ahead12_head (xt xh xx xm yt yh yx ym : Nat) (w : World) :
    Calls Tryz.prog 87 #[.agg #[.int .u32 (xt : Int), .int .u32 (xh : Int), .int .u64 (xx : Int), .int .u32 (xm : Int)], .agg #[.int .u32 (yt : Int), .int .u32 (yh : Int), .int .u64 (yx : Int), .int .u32 (ym : Int)], .int .i64 1] w fun e w' => e = .returned (.bool (decide (xh < yh ∨ xh = yh ∧ xt < yt))) ∧ Below w.heap.size w w' := by
  obtain ⟨r, hr0⟩ : ∃ r : Bool, r = decide (xh < yh ∨ xh = yh ∧ xt < yt) := ⟨_, rfl⟩
  rw [← hr0]
  rcases Nat.lt_trichotomy xh yh with g | g | g
  · have hr : Hid (r = true) := Lib.hid (by rw [hr0]; exact decide_eq_true (.inl g))
    clear hr0
    have g1 : ((xh : Nat) : Int) < (yh : Int) := by omega
    go_enter Tryz.func87, Tryz.ntmps87
    go_wp2
    go_ret
    exact ⟨by rw [hr.out]; rfl, ((Below.refl _ _).alloc (Nat.le_refl _) _).alloc (by simp) _⟩
  · subst g
    by_cases g : xt < yt
    · have hr : Hid (r = true) := Lib.hid (by rw [hr0]; exact decide_eq_true (.inr ⟨rfl, g⟩))
      clear hr0
      have g1 : ((xt : Nat) : Int) < (yt : Int) := by omega
      go_enter Tryz.func87, Tryz.ntmps87
      go_wp2
      go_ret
      exact ⟨by rw [hr.out]; rfl, ((Below.refl _ _).alloc (Nat.le_refl _) _).alloc (by simp) _⟩
    · have hr : Hid (r = false) := Lib.hid (by rw [hr0]; exact decide_eq_false (by omega))
      clear hr0
      have g1 : ¬ ((xt : Nat) : Int) < (yt : Int) := by omega
      go_enter Tryz.func87, Tryz.ntmps87
      go_wp2
      go_ret
      exact ⟨by rw [hr.out]; rfl, ((Below.refl _ _).alloc (Nat.le_refl _) _).alloc (by simp) _⟩
  · have hr : Hid (r = false) := Lib.hid (by rw [hr0]; exact decide_eq_false (by omega))
    clear hr0
    have g1 : ¬ ((xh : Nat) : Int) < (yh : Int) := by omega
    have g2 : ((xh : Int) == (yh : Int)) = false := by rw [beq_eq_false_iff_ne]; omega
    have g3 : ¬ ((xh : Int) = (yh : Int)) := by omega
    go_enter Tryz.func87, Tryz.ntmps87
    go_wp2
    go_ret
    exact ⟨by rw [hr.out]; rfl, ((Below.refl _ _).alloc (Nat.le_refl _) _).alloc (by simp) _⟩
set_option maxRecDepth 100000 in
set_option maxHeartbeats 2000000 in
theorem better03_nat (xt xh xx xm yt yh yx ym : Nat) (w : World) :
    Calls Tryz.prog 118 #[.agg #[.int .u32 (xt : Int), .int .u32 (xh : Int), .int .u64 (xx : Int), .int .u32 (xm : Int)], .agg #[.int .u32 (yt : Int), .int .u32 (yh : Int), .int .u64 (yx : Int), .int .u32 (ym : Int)]] w fun e w' => e = .returned (.bool (decide (xx < yx ∨ xx = yx ∧ (xm + 1) % 4294967296 < (ym + 1) % 4294967296))) ∧ Below w.heap.size w w' := by
  have hw1 : IntKind.u32.wrap ((xm : Int) + 1) = (((xm + 1) % 4294967296 : Nat) : Int) := by rw [IntKind.wrap_u32]; omega
  have hw2 : IntKind.u32.wrap ((ym : Int) + 1) = (((ym + 1) % 4294967296 : Nat) : Int) := by rw [IntKind.wrap_u32]; omega
  generalize (xm + 1) % 4294967296 = xm1 at *
  generalize (ym + 1) % 4294967296 = ym1 at *
  obtain ⟨r, hr0⟩ : ∃ r : Bool, r = decide (xx < yx ∨ xx = yx ∧ xm1 < ym1) := ⟨_, rfl⟩
  rw [← hr0]
  rcases Nat.lt_trichotomy xx yx with g | g | g
  · have hr : Hid (r = true) := Lib.hid (by rw [hr0]; exact decide_eq_true (.inl g))
    clear hr0
    have g1 : ((xx : Nat) : Int) < (yx : Int) := by omega
    go_enter Tryz.func118, Tryz.ntmps118
    go_wp2
    go_ret
    exact ⟨by rw [hr.out]; rfl, ((Below.refl _ _).alloc (Nat.le_refl _) _).alloc (by simp) _⟩
  · subst g
    by_cases g : xm1 < ym1
    · have hr : Hid (r = true) := Lib.hid (by rw [hr0]; exact decide_eq_true (.inr ⟨rfl, g⟩))
      clear hr0
      have g1 : ((xm1 : Nat) : Int) < (ym1 : Int) := by omega
      go_enter Tryz.func118, Tryz.ntmps118
      go_wp2
      go_ret
      exact ⟨by rw [hr.out]; rfl, ((Below.refl _ _).alloc (Nat.le_refl _) _).alloc (by simp) _⟩
    · have hr : Hid (r = false) := Lib.hid (by rw [hr0]; exact decide_eq_false (by omega))
      clear hr0
      have g1 : ¬ ((xm1 : Nat) : Int) < (ym1 : Int) := by omega
      go_enter Tryz.func118, Tryz.ntmps118
      go_wp2
      go_ret
      exact ⟨by rw [hr.out]; rfl, ((Below.refl _ _).alloc (Nat.le_refl _) _).alloc (by simp) _⟩
  · have hr : Hid (r = false) := Lib.hid (by rw [hr0]; exact decide_eq_false (by omega))
    clear hr0
    have g1 : ¬ ((xx : Nat) : Int) < (yx : Int) := by omega
    have g2 : ((xx : Int) == (yx : Int)) = false := by rw [beq_eq_false_iff_ne]; omega
    have g3 : ¬ ((xx : Int) = (yx : Int)) := by omega
    go_enter Tryz.func118, Tryz.ntmps118
    go_wp2
    go_ret
    exact ⟨by rw [hr.out]; rfl, ((Below.refl _ _).alloc (Nat.le_refl _) _).alloc (by simp) _⟩
theorem ahead05_any (x y : Edg) (w : World) : Calls Tryz.prog 117 #[.agg #[.int .u32 (x.t.toNat : Int), .int .u32 (x.h.toNat : Int), .int .u64 (x.x.toNat : Int), .int .u32 (x.m.toNat : Int)], .agg #[.int .u32 (y.t.toNat : Int), .int .u32 (y.h.toNat : Int), .int .u64 (y.x.toNat : Int), .int .u32 (y.m.toNat : Int)]] w
    fun e w' => e = .returned (.bool (decide (pk false x < pk false y))) ∧ Below w.heap.size w w' := by
  refine (ahead05_nat _ _ _ _ _ _ _ _ w).mono fun e w' ⟨he, hb⟩ => ⟨he.trans ?_, hb⟩
  have h1 := x.h.toNat_lt
  have h2 := y.h.toNat_lt
  rw [decide_eq_decide.2 (show (x.t.toNat < y.t.toNat ∨ x.t.toNat = y.t.toNat ∧ x.h.toNat < y.h.toNat) ↔ pk false x < pk false y by unfold pk; simp only [Bool.false_eq_true, if_false]; omega)]
theorem ahead12_any (b : Bool) (x y : Edg) (w : World) : Calls Tryz.prog 87 #[.agg #[.int .u32 (x.t.toNat : Int), .int .u32 (x.h.toNat : Int), .int .u64 (x.x.toNat : Int), .int .u32 (x.m.toNat : Int)], .agg #[.int .u32 (y.t.toNat : Int), .int .u32 (y.h.toNat : Int), .int .u64 (y.x.toNat : Int), .int .u32 (y.m.toNat : Int)], .int .i64 (byNum b : Int)] w
    fun e w' => e = .returned (.bool (decide (pk b x < pk b y))) ∧ Below w.heap.size w w' := by
  have h1 := x.h.toNat_lt
  have h2 := y.h.toNat_lt
  have h3 := x.t.toNat_lt
  have h4 := y.t.toNat_lt
  cases b
  · refine (ahead12_tail _ _ _ _ _ _ _ _ w).mono fun e w' ⟨he, hb⟩ => ⟨he.trans ?_, hb⟩
    rw [decide_eq_decide.2 (show (x.t.toNat < y.t.toNat ∨ x.t.toNat = y.t.toNat ∧ x.h.toNat < y.h.toNat) ↔ pk false x < pk false y by unfold pk; simp only [Bool.false_eq_true, if_false]; omega)]
  · refine (ahead12_head _ _ _ _ _ _ _ _ w).mono fun e w' ⟨he, hb⟩ => ⟨he.trans ?_, hb⟩
    rw [decide_eq_decide.2 (show (x.h.toNat < y.h.toNat ∨ x.h.toNat = y.h.toNat ∧ x.t.toNat < y.t.toNat) ↔ pk true x < pk true y by unfold pk; simp only [if_true]; omega)]
theorem better03_any (x y : Edg) (w : World) : Calls Tryz.prog 118 #[.agg #[.int .u32 (x.t.toNat : Int), .int .u32 (x.h.toNat : Int), .int .u64 (x.x.toNat : Int), .int .u32 (x.m.toNat : Int)], .agg #[.int .u32 (y.t.toNat : Int), .int .u32 (y.h.toNat : Int), .int .u64 (y.x.toNat : Int), .int .u32 (y.m.toNat : Int)]] w
    fun e w' => e = .returned (.bool (decide (rk x < rk y))) ∧ Below w.heap.size w w' := by
  refine (better03_nat _ _ _ _ _ _ _ _ w).mono fun e w' ⟨he, hb⟩ => ⟨he.trans ?_, hb⟩
  rw [decide_eq_decide.2 (show (x.x.toNat < y.x.toNat ∨ x.x.toNat = y.x.toNat ∧ (x.m.toNat + 1) % 4294967296 < (y.m.toNat + 1) % 4294967296) ↔ rk x < rk y by unfold rk; omega)]
end Go.Proofs.YtolieljpnafbhaaGreatDoor
namespace Go.Proofs.YtolieljpnafbhaaGreatDoor
open Go.RowKit
theorem pairwise_get {b : Bool} {out : List Edg} (h : out.Pairwise (fun x y => pk b x < pk b y)) {i j : Nat} (hij : i < j) {x y : Edg} (hx : out[i]? = some x) (hy : out[j]? = some y) : pk b x < pk b y := by
  have hi := (List.getElem?_eq_some_iff.1 hx).1
  have hj := (List.getElem?_eq_some_iff.1 hy).1
  have := List.pairwise_iff_getElem.1 h i j hi hj hij
  rw [List.getElem?_eq_getElem hi] at hx
  rw [List.getElem?_eq_getElem hj] at hy
  rw [Option.some.inj hx, Option.some.inj hy] at this
  exact this
/-- An edge is laid in its place. -/
theorem Best.lay {b : Bool} {l out : List Edg} {x : Edg} (h : Best b l out) (hx : x.t ≠ x.h) {k : Nat} (hk : k ≤ out.length) (h1 : ∀ (i : Nat) (o : Edg), i < k → out[i]? = some o → pk b o < pk b x) (h2 : ∀ (i : Nat) (o : Edg), k ≤ i → out[i]? = some o → pk b x < pk b o) :
    Best b (l ++ [x]) (out.take k ++ x :: out.drop k) := by
  have hsp : out = out.take k ++ out.drop k := (List.take_append_drop k out).symm
  have hlt : ∀ o ∈ out.take k, pk b o < pk b x := fun o ho => by
    obtain ⟨i, hi, rfl⟩ := List.getElem_of_mem ho
    rw [List.length_take] at hi
    rw [List.getElem_take]
    exact h1 i _ (by omega) (List.getElem?_eq_getElem (by omega))
  have hgt : ∀ o ∈ out.drop k, pk b x < pk b o := fun o ho => by
    obtain ⟨i, hi, rfl⟩ := List.getElem_of_mem ho
    rw [List.length_drop] at hi
    rw [List.getElem_drop]
    exact h2 (k + i) _ (by omega) (List.getElem?_eq_getElem (by omega))
  have hne : ∀ o ∈ out, ¬ same o x := fun o ho hs => by
    have e := pk_same (b := b).2 hs
    rw [hsp] at ho
    rcases List.mem_append.1 ho with ho | ho
    · have := hlt o ho; omega
    · have := hgt o ho; omega
  have hr := h.rise
  rw [hsp, List.pairwise_append] at hr
  have hmem : ∀ o, o ∈ out.take k ++ x :: out.drop k ↔ o = x ∨ o ∈ out := fun o => by
    rw [List.mem_append, List.mem_cons]
    conv => rhs; rw [hsp, List.mem_append]
    constructor
    · rintro (h | h | h)
      · exact .inr (.inl h)
      · exact .inl h
      · exact .inr (.inr h)
    · rintro (h | h | h)
      · exact .inr (.inl h)
      · exact .inl h
      · exact .inr (.inr h)
  refine ⟨?_, fun o ho => ?_, fun y hy hn => ?_⟩
  · rw [List.pairwise_append, List.pairwise_cons]
    refine ⟨hr.1, ⟨hgt, hr.2.1⟩, fun o ho y hy => ?_⟩
    rcases List.mem_cons.1 hy with rfl | hy
    · exact hlt o ho
    · exact hr.2.2 o ho y hy
  · rcases (hmem o).1 ho with rfl | ho
    · refine ⟨by simp, hx, fun y hy hs => ?_⟩
      rcases List.mem_append.1 hy with hy | hy
      · obtain ⟨o', ho', hs'⟩ := h.all y hy (hs.symm.loop hx)
        exact absurd (hs'.trans hs) (hne o' ho')
      · rw [List.mem_singleton.1 hy]; exact Nat.le_refl _
    · obtain ⟨g1, g2, g3⟩ := h.mem o ho
      refine ⟨List.mem_append_left _ g1, g2, fun y hy hs => ?_⟩
      rcases List.mem_append.1 hy with hy | hy
      · exact g3 y hy hs
      · rw [List.mem_singleton.1 hy] at hs
        exact absurd hs.symm (hne o ho)
  · rcases List.mem_append.1 hy with hy | hy
    · obtain ⟨o, ho, hs⟩ := h.all y hy hn
      exact ⟨o, (hmem o).2 (.inr ho), hs⟩
    · rw [List.mem_singleton.1 hy]
      exact ⟨x, (hmem x).2 (.inl rfl), rfl, rfl⟩
/-- An edge takes another's place. -/
theorem Best.over {b : Bool} {l out : List Edg} {x o : Edg} (h : Best b l out) {k : Nat} (ho : out[k]? = some o) (hs : same o x) (hr : rk x < rk o) : Best b (l ++ [x]) (out.set k x) := by
  have hk := (List.getElem?_eq_some_iff.1 ho).1
  have hpk : pk b x = pk b o := (pk_same (b := b).2 hs).symm
  have hget : ∀ (i : Nat) (y : Edg), (out.set k x)[i]? = some y → (i = k ∧ y = x) ∨ (i ≠ k ∧ out[i]? = some y) := fun i y hy => by
    rw [List.getElem?_set] at hy
    split at hy
    · rename_i e
      first
        | exact .inl ⟨e.symm, (Option.some.inj hy).symm⟩
        | (rw [if_pos hk] at hy; exact .inl ⟨e.symm, (Option.some.inj hy).symm⟩)
    · rename_i e
      exact .inr ⟨fun e' => e e'.symm, hy⟩
  have hpkg : ∀ (i : Nat) (y : Edg), (out.set k x)[i]? = some y → ∃ z, out[i]? = some z ∧ pk b z = pk b y := fun i y hy => by
    rcases hget i y hy with ⟨rfl, rfl⟩ | ⟨_, hy⟩
    · exact ⟨o, ho, hpk.symm⟩
    · exact ⟨y, hy, rfl⟩
  have ho' := h.mem o (List.mem_of_getElem? ho)
  refine ⟨?_, fun y hy => ?_, fun y hy hn => ?_⟩
  · rw [List.pairwise_iff_getElem]
    intro i j hi hj hij
    obtain ⟨z1, g1, e1⟩ := hpkg i _ (List.getElem?_eq_getElem hi)
    obtain ⟨z2, g2, e2⟩ := hpkg j _ (List.getElem?_eq_getElem hj)
    rw [← e1, ← e2]
    exact pairwise_get h.rise hij g1 g2
  · obtain ⟨i, hi, rfl⟩ := List.getElem_of_mem hy
    rcases hget i _ (List.getElem?_eq_getElem hi) with ⟨_, e⟩ | ⟨hik, e⟩
    · rw [e]
      refine ⟨by simp, hs.loop ho'.2.1, fun z hz hzs => ?_⟩
      rcases List.mem_append.1 hz with hz | hz
      · have := ho'.2.2 z hz (hzs.trans hs.symm)
        omega
      · rw [List.mem_singleton.1 hz]; exact Nat.le_refl _
    · generalize (out.set k x)[i] = y at *
      obtain ⟨g1, g2, g3⟩ := h.mem y (List.mem_of_getElem? e)
      refine ⟨List.mem_append_left _ g1, g2, fun z hz hzs => ?_⟩
      rcases List.mem_append.1 hz with hz | hz
      · exact g3 z hz hzs
      · rw [List.mem_singleton.1 hz] at hzs
        have e1 := pk_same (b := b).2 (hs.trans hzs)
        rcases Nat.lt_or_gt_of_ne hik with hlt | hlt
        · have := pairwise_get h.rise hlt e ho; omega
        · have := pairwise_get h.rise hlt ho e; omega
  · have hin : ∀ (i : Nat) (z : Edg), out[i]? = some z → ∃ z' ∈ out.set k x, same z' z := fun i z hz => by
      by_cases hik : i = k
      · subst hik
        rw [ho] at hz
        cases hz
        exact ⟨x, List.mem_of_getElem? (i := i) (by rw [List.getElem?_set, if_pos rfl, if_pos hk]), hs.symm⟩
      · exact ⟨z, List.mem_of_getElem? (i := i) (by rw [List.getElem?_set, if_neg (fun e => hik e.symm)]; exact hz), rfl, rfl⟩
    rcases List.mem_append.1 hy with hy | hy
    · obtain ⟨z, hz, hzs⟩ := h.all y hy hn
      obtain ⟨i, hi, rfl⟩ := List.getElem_of_mem hz
      obtain ⟨z', h1, h2⟩ := hin i _ (List.getElem?_eq_getElem hi)
      exact ⟨z', h1, h2.trans hzs⟩
    · rw [List.mem_singleton.1 hy]
      obtain ⟨z', h1, h2⟩ := hin k o ho
      exact ⟨z', h1, h2.trans hs⟩
/-- An edge is left. -/
theorem Best.leave {b : Bool} {l out : List Edg} {x : Edg} (h : Best b l out) (hx : x.t = x.h ∨ ∃ o ∈ out, same o x ∧ rk o ≤ rk x) : Best b (l ++ [x]) out := by
  refine ⟨h.rise, fun o ho => ?_, fun y hy hn => ?_⟩
  · obtain ⟨g1, g2, g3⟩ := h.mem o ho
    refine ⟨List.mem_append_left _ g1, g2, fun y hy hs => ?_⟩
    rcases List.mem_append.1 hy with hy | hy
    · exact g3 y hy hs
    · rw [List.mem_singleton.1 hy] at hs ⊢
      rcases hx with hx | ⟨o', ho', hs', hr⟩
      · exact absurd hx (hs.symm.loop g2)
      · have e := pk_same (b := b).2 (hs'.trans hs)
        obtain ⟨i, hi, rfl⟩ := List.getElem_of_mem ho
        obtain ⟨j, hj, rfl⟩ := List.getElem_of_mem ho'
        rcases Nat.lt_trichotomy i j with hlt | rfl | hlt
        · have := pairwise_get h.rise hlt (List.getElem?_eq_getElem hi) (List.getElem?_eq_getElem hj); omega
        · exact hr
        · have := pairwise_get h.rise hlt (List.getElem?_eq_getElem hj) (List.getElem?_eq_getElem hi); omega
  · rcases List.mem_append.1 hy with hy | hy
    · exact h.all y hy hn
    · rw [List.mem_singleton.1 hy] at hn ⊢
      rcases hx with hx | ⟨o', ho', hs', _⟩
      · exact absurd hx hn
      · exact ⟨o', ho', hs'⟩
theorem edgRow_upd {l : List Edg} {i : Nat} (hi : i < l.length) (x : Edg) :
    edgRow (l.set i x) = ((((edgRow l).set (i * 4) (.int .u32 (x.t.toNat : Int))).set (i * 4 + 1) (.int .u32 (x.h.toNat : Int))).set (i * 4 + 2) (.int .u64 (x.x.toNat : Int))).set (i * 4 + 3) (.int .u32 (x.m.toNat : Int)) := by
  induction l generalizing i with
  | nil => cases hi
  | cons y l ih =>
    cases i with
    | zero => simp [edgRow, Edg.cells]
    | succ i =>
      rw [List.set_cons_succ, edgRow, edgRow, ih (by simpa using hi)]
      have e : (i + 1) * 4 = i * 4 + 1 + 1 + 1 + 1 := by omega
      rw [e]
      simp only [Edg.cells, List.cons_append, List.nil_append, List.set_cons_succ, Nat.add_assoc, Nat.reduceAdd]
theorem ownsEdges_set {w : World} {base g cap n : Nat} {l : List Edg} (h : ownsEdges w base (.slice (some ⟨g, 0, none⟩) n cap) l) {i : Nat} (hi : i < l.length) (x : Edg) :
    ownsEdges ((((w.setCell ⟨g, i * 4, none⟩ (.int .u32 (x.t.toNat : Int))).setCell ⟨g, i * 4 + 1, none⟩ (.int .u32 (x.h.toNat : Int))).setCell ⟨g, i * 4 + 2, none⟩ (.int .u64 (x.x.toNat : Int))).setCell ⟨g, i * 4 + 3, none⟩ (.int .u32 (x.m.toNat : Int))) base (.slice (some ⟨g, 0, none⟩) n cap) (l.set i x) := by
  have hn : n = l.length := by
    obtain ⟨a, c, e⟩ := ownsRow_slice h
    cases e
    rfl
  subst hn
  unfold ownsEdges at *
  rw [List.length_set, edgRow_upd hi]
  exact ((((World.ownsRow.stored h _ _).1.stored _ _).1.stored _ _).1.stored _ _).1
theorem ownsEdges_free {w : World} {base g cap n : Nat} {l : List Edg} (h : ownsEdges w base (.slice (some ⟨g, 0, none⟩) n cap) l) (j : Nat) : w.frozen? ⟨g, j, none⟩ = false := by
  have hn : n = l.length := by
    obtain ⟨a, c, e⟩ := ownsRow_slice h
    cases e
    rfl
  subst hn
  exact World.ownsRow.frozenAt h j
/-- An append to a row of the call's own: what was there ahead of the call stands. -/
theorem add_below {w W W' : World} {v v' : Value} {M : List Edg} {ob : Obj} (hb : Below w.heap.size w W) (hv : ownsEdges W w.heap.size v M) (ha : Appd v (W.alloc ob) W' v') : Below w.heap.size w W' := by
  obtain ⟨hg, _⟩ := ha
  have hs : W.heap.size < (W.alloc ob).heap.size := by simp
  refine hb.trans ⟨hg.os.trans rfl, hg.tape.trans rfl, hg.output.trans rfl, Nat.le_trans (Nat.le_of_lt hs) hg.size, fun x hx => ?_⟩
  have := hb.size
  refine (hg.block x (by omega) (fun e => ?_)).trans ((MapKept.heap_alloc W ob).2 x (by omega))
  have := (ownBlock_old hv x e.symm).2
  omega
end Go.Proofs.YtolieljpnafbhaaGreatDoor
namespace Go.Proofs.YtolieljpnafbhaaGreatDoor
open Go.RowKit Go.Maps
/-- What a call leaves that hands back edges in a row of its own. -/
def NewEdges (w : World) (es : List Edg) (e : Ending) (w' : World) : Prop := ∃ v, e = .returned v ∧ ownsEdges w' w.heap.size v es ∧ Below w.heap.size w w'
/-- Cells of a row of edges that may be read, at all later worlds. -/
theorem rdE_cells {w : World} {a : Option Addr} {n cap : Nat} {es : List Edg} (h : RdE w (.slice a n cap) es) : n = es.length ∧ ∀ W, Below w.heap.size w W → ∀ (i : Nat) (x : Edg), es[i]? = some x → ∃ b off, a = some ⟨b, off, none⟩ ∧ W.cell? ⟨b, off + i * 4, none⟩ = some (.int .u32 (x.t.toNat : Int)) ∧ W.cell? ⟨b, off + i * 4 + 1, none⟩ = some (.int .u32 (x.h.toNat : Int)) ∧ W.cell? ⟨b, off + i * 4 + 2, none⟩ = some (.int .u64 (x.x.toNat : Int)) ∧ W.cell? ⟨b, off + i * 4 + 3, none⟩ = some (.int .u32 (x.m.toNat : Int)) := by
  have hn : n = es.length := by
    obtain ⟨a', cap', he, _⟩ := h
    cases he
    rfl
  refine ⟨hn, fun W hB i x hx => ?_⟩
  obtain ⟨a', cap', hve, hce⟩ := h.below hB
  cases hve
  rcases hce with h0 | ⟨b, off, h1, hc⟩
  · have := lt_of_get hx
    omega
  · exact ⟨b, off, h1, hc i x hx⟩
theorem take_snoc {es : List Edg} {i : Nat} {x : Edg} (h : es[i]? = some x) : es.take (i + 1) = es.take i ++ [x] := by
  have hl := lt_of_get h
  rw [List.take_succ_eq_append_getElem hl]
  rw [List.getElem?_eq_getElem hl] at h
  rw [Option.some.inj h]
/-- A row of the call's own, stored into: what was there ahead of the call stands. -/
theorem below_stores {w W : World} {g : Nat} (hb : Below w.heap.size w W) (hg : w.heap.size ≤ g) (a1 a2 a3 a4 : Nat) (v1 v2 v3 v4 : Value) : Below w.heap.size w ((((W.setCell ⟨g, a1, none⟩ v1).setCell ⟨g, a2, none⟩ v2).setCell ⟨g, a3, none⟩ v3).setCell ⟨g, a4, none⟩ v4) :=
  (((hb.setCell hg _).setCell hg _).setCell hg _).setCell hg _
theorem heap_stores {W : World} {g b : Nat} {ob : Option Obj} (hb : W.heap[b]? = ob) (hne : b ≠ g) (a1 a2 a3 a4 : Nat) (v1 v2 v3 v4 : Value) : ((((W.setCell ⟨g, a1, none⟩ v1).setCell ⟨g, a2, none⟩ v2).setCell ⟨g, a3, none⟩ v3).setCell ⟨g, a4, none⟩ v4).heap[b]? = ob := by
  rw [Below.heap_setCell _ _ _ _ hne, Below.heap_setCell _ _ _ _ hne, Below.heap_setCell _ _ _ _ hne, Below.heap_setCell _ _ _ _ hne]
  exact hb
/-- The shift of a row's end by one place. -/
theorem shift_set {out : List Edg} {x y : Edg} {k at' : Nat} (hk : at' < k) (hkl : k ≤ out.length) (hy : out[k - 1]? = some y) : (out.take k ++ x :: out.drop k).set k y = out.take (k - 1) ++ y :: out.drop (k - 1) := by
  have h1 : (out.take k).length = k := by rw [List.length_take]; omega
  rw [List.set_append_right _ _ (by omega), h1, Nat.sub_self, List.set_cons_zero]
  obtain ⟨q, rfl⟩ : ∃ q, k = q + 1 := ⟨k - 1, by omega⟩
  rw [Nat.add_sub_cancel] at hy ⊢
  have hq : q < out.length := by omega
  rw [List.getElem?_eq_getElem hq] at hy
  rw [List.take_succ_eq_append_getElem hq, List.append_assoc, List.drop_eq_getElem_cons hq, Option.some.inj hy]
  rfl
theorem shift_get {out : List Edg} {x y : Edg} {k : Nat} (hk : 0 < k) (hkl : k ≤ out.length) (hy : out[k - 1]? = some y) : (out.take k ++ x :: out.drop k)[k - 1]? = some y := by
  rw [List.getElem?_append_left (by rw [List.length_take]; omega), List.getElem?_take, if_pos (by omega)]
  exact hy
theorem shift_last {out : List Edg} {x y : Edg} {k : Nat} (hkl : k ≤ out.length) : (out.take k ++ y :: out.drop k).set k x = out.take k ++ x :: out.drop k := by
  have h1 : (out.take k).length = k := by rw [List.length_take]; omega
  rw [List.set_append_right _ _ (by omega), h1, Nat.sub_self, List.set_cons_zero]
/-- Where Reduce is. -/
def RedHead (w : World) (es : List Edg) (i : Nat) (v : Value) (W : World) : Prop := ∃ out : List Edg, ownsEdges W w.heap.size v out ∧ Best false (es.take i) out ∧ out.length ≤ i ∧ Below w.heap.size w W
set_option maxRecDepth 100000 in
set_option maxHeartbeats 8000000 in
theorem reduce_any (v : Value) (es : List Edg) (w : World) (hv : RdE w v es) (hl : es.length ≤ 10000) : Calls Tryz.prog 86 #[v] w (NewEdges w (bestOf false es)) := by
  have HV := Lib.hid hv
  obtain ⟨a, cap, rfl, -⟩ := hv
  obtain ⟨-, hcells⟩ := rdE_cells HV.out
  have HC := Lib.hid hcells
  have HX : Hid (∀ i, i < es.length → ∃ x, es[i]? = some x) := Lib.hid (fun i hi => ⟨_, List.getElem?_eq_getElem hi⟩)
  have HALL : Hid (es.take es.length = es) := Lib.hid (List.take_of_length_le (Nat.le_refl _))
  clear hcells
  generalize hN : es.length = N at *
  have HN := Lib.hid hN
  clear hN
  go_enter Tryz.func86, Tryz.ntmps86
  go_wp2
  go_loopw [3, 4] (fun ov iv W => ∃ i : Nat, i ≤ N ∧ iv = .int .i64 (i : Int) ∧ RedHead w es i ov W) (fun _ iv _ => N - (intOf iv).toNat)
  case atStart => exact ⟨0, Nat.zero_le _, rfl, [], World.ownsRow_nil _ _ _ _, Best.nil _, Nat.le_refl _, Below.refl _ _⟩
  case round =>
    generalize u3 = ov at *
    generalize wr = W0 at *
    obtain ⟨i, hi, rfl, out, hr, hbest, hol, hb⟩ := hrel
    have HR := Lib.hid hr
    have HBEST := Lib.hid hbest
    have HB := Lib.hid hb
    have hz : w.heap.size ≤ W0.heap.size := hb.size
    clear hr hbest hb
    by_cases hlt : i < N
    · obtain ⟨x, hx⟩ := HX.out i hlt
      obtain ⟨be, oe, rfl, f0, f1, f2, f3⟩ := HC.out W0 HB.out i x hx
      have HTK := Lib.hid (take_snoc hx)
      clear hx
      go_upto_region 6 with (fail)
      have HB1 : Hid (Below W0.heap.size W0 (W0.alloc (.cells #[.int .u32 (x.t.toNat : Int), .int .u32 (x.h.toNat : Int), .int .u64 (x.x.toNat : Int), .int .u32 (x.m.toNat : Int)] 47))) := Lib.hid ((Below.refl _ _).alloc (Nat.le_refl _) _)
      have HQ1 : Hid ((W0.alloc (.cells #[.int .u32 (x.t.toNat : Int), .int .u32 (x.h.toNat : Int), .int .u64 (x.x.toNat : Int), .int .u32 (x.m.toNat : Int)] 47)).heap[W0.heap.size]? = some (.cells #[.int .u32 (x.t.toNat : Int), .int .u32 (x.h.toNat : Int), .int .u64 (x.x.toNat : Int), .int .u32 (x.m.toNat : Int)] 47)) := Lib.hid (heap_alloc_new W0 _)
      have hs1 : W0.heap.size < (W0.alloc (.cells #[.int .u32 (x.t.toNat : Int), .int .u32 (x.h.toNat : Int), .int .u64 (x.x.toNat : Int), .int .u32 (x.m.toNat : Int)] 47)).heap.size := by simp
      clear f0 f1 f2 f3
      generalize W0.alloc (.cells #[.int .u32 (x.t.toNat : Int), .int .u32 (x.h.toNat : Int), .int .u64 (x.x.toNat : Int), .int .u32 (x.m.toNat : Int)] 47) = W1 at *
      have HBW1 := Lib.hid (HB.out.trans (HB1.out.mono hz))
      have HR1 : Hid (ownsEdges W1 w.heap.size ov out) := Lib.hid (ownsRow_below HR.out HB1.out)
      have HNX : Hid (∀ y, ov.ownBlock = some y → y < W0.heap.size) := Lib.hid (fun y hy => (ownBlock_old HR.out y hy).1)
      generalize W0.heap.size = xb at *
      have hz1 : w.heap.size ≤ W1.heap.size := by omega
      clear HB HB1
      have hxc : ∀ W : World, W.heap[xb]? = some (.cells #[.int .u32 (x.t.toNat : Int), .int .u32 (x.h.toNat : Int), .int .u64 (x.x.toNat : Int), .int .u32 (x.m.toNat : Int)] 47) → W.cell? ⟨xb, 0, none⟩ = some (.int .u32 (x.t.toNat : Int)) ∧ W.cell? ⟨xb, 1, none⟩ = some (.int .u32 (x.h.toNat : Int)) ∧ W.cell? ⟨xb, 2, none⟩ = some (.int .u64 (x.x.toNat : Int)) ∧ W.cell? ⟨xb, 3, none⟩ = some (.int .u32 (x.m.toNat : Int)) := fun W hW => by
        refine ⟨?_, ?_, ?_, ?_⟩ <;> rw [cells_cell hW] <;> rfl
      have HXC := Lib.hid hxc
      clear hxc
      by_cases hloop : x.t = x.h
      · have HBL : Hid (Best false (es.take (i + 1)) out) := Lib.hid (by rw [HTK.out]; exact HBEST.out.leave (.inl hloop))
        obtain ⟨c0, c1, -, -⟩ := HXC.out W1 HQ1.out
        rw [hloop] at c0
        clear hloop
        go_wp2
        go_roundw
        case rel => exact ⟨i + 1, by omega, by go_num, out, HR1.out, HBL.out, by omega, HBW1.out⟩
        case measure => simp [intOf]; omega
      · obtain ⟨a1, a2, a3, a4, a5⟩ := u32_ne hloop
        have HLOOP := Lib.hid hloop
        obtain ⟨c0, c1, -, -⟩ := HXC.out W1 HQ1.out
        obtain ⟨oa, oc, hve⟩ : ∃ oa oc, ov = .slice oa out.length oc := ownsRow_slice HR1.out
        subst hve
        have HOC : Hid (∀ W, Below W1.heap.size W1 W → ∀ (j : Nat) (o : Edg), out[j]? = some o → ∃ g, oa = some ⟨g, 0, none⟩ ∧ W.cell? ⟨g, j * 4, none⟩ = some (.int .u32 (o.t.toNat : Int)) ∧ W.cell? ⟨g, j * 4 + 1, none⟩ = some (.int .u32 (o.h.toNat : Int)) ∧ W.cell? ⟨g, j * 4 + 2, none⟩ = some (.int .u64 (o.x.toNat : Int)) ∧ W.cell? ⟨g, j * 4 + 3, none⟩ = some (.int .u32 (o.m.toNat : Int))) := Lib.hid (fun W hB j o ho => by
          rcases ownsEdges_shape HR1.out with ⟨h1, h2⟩ | ⟨g, cap, h1, hg, hc1, hc2⟩
          · rw [h1] at ho; cases ho
          · cases h1
            obtain ⟨e0, e1, e2, e3⟩ := ownsEdges_cells HR1.out ho
            exact ⟨g, rfl, cellBelow hB e0, cellBelow hB e1, cellBelow hB e2, cellBelow hB e3⟩)
        have HOX : Hid (∀ j, j < out.length → ∃ o, out[j]? = some o) := Lib.hid (fun j hj => ⟨_, List.getElem?_eq_getElem hj⟩)
        generalize hn0 : out.length = n0 at *
        have HN0 := Lib.hid hn0
        clear hn0
        go_wp2
        go_loopw [6] (fun kv W => ∃ k : Nat, k ≤ n0 ∧ kv = .int .i64 (k : Int) ∧ (∀ (j : Nat) (o : Edg), j < k → out[j]? = some o → pk false o < pk false x) ∧ Below W1.heap.size W1 W) (fun kv _ => n0 - (intOf kv).toNat)
        case atStart => exact ⟨0, Nat.zero_le _, rfl, (fun j o hj => absurd hj (Nat.not_lt_zero _)), Below.refl _ _⟩
        case round =>
          generalize wr = W2 at *
          clear a1 a2 a3 a4 a5 c0 c1
          obtain ⟨k, hk, rfl, hlo, hb2⟩ := hrel
          have HLO := Lib.hid hlo
          have HB2 := Lib.hid hb2
          clear hlo hb2
          have HX2 : Hid (∀ W, Below W2.heap.size W2 W → W.heap[xb]? = some (.cells #[.int .u32 (x.t.toNat : Int), .int .u32 (x.h.toNat : Int), .int .u64 (x.x.toNat : Int), .int .u32 (x.m.toNat : Int)] 47)) := Lib.hid (fun W hB => ((hB.block _ (Nat.lt_of_lt_of_le hs1 HB2.out.size)).trans (HB2.out.block _ hs1)).trans HQ1.out)
          by_cases hkl : k < n0
          · obtain ⟨o, ho⟩ := HOX.out k hkl
            have HO := Lib.hid ho
            clear ho
            obtain ⟨g, rfl, -⟩ := HOC.out W2 HB2.out k o HO.out
            have HOW : Hid (∀ W, Below W2.heap.size W2 W → W.cell? ⟨g, k * 4, none⟩ = some (.int .u32 (o.t.toNat : Int)) ∧ W.cell? ⟨g, k * 4 + 1, none⟩ = some (.int .u32 (o.h.toNat : Int)) ∧ W.cell? ⟨g, k * 4 + 2, none⟩ = some (.int .u64 (o.x.toNat : Int)) ∧ W.cell? ⟨g, k * 4 + 3, none⟩ = some (.int .u32 (o.m.toNat : Int))) := Lib.hid (fun W hB => by
              obtain ⟨g', e, r⟩ := HOC.out W (HB2.out.trans (hB.mono HB2.out.size)) k o HO.out
              cases e
              exact r)
            have hcall := Lib.hid (fun W => ahead05_any o x W)
            obtain ⟨r, hr0⟩ : ∃ r : Bool, r = decide (pk false o < pk false x) := ⟨_, rfl⟩
            rw [← hr0] at hcall
            have HRR := Lib.hid hr0
            clear hr0
            go_wp2_with fail
            refine wp_region_quiet_in (Below W2.heap.size W2) (by kernel_rfl) (by kernel_rfl) ((Below.refl _ _).drew) ?_
            iterate 8 (refine q_op rfl (fun w' hw' => (by go_simp <;> rfl)) (fun K hK => ?_); go_simp; refine hK _ ?_; clear hK K)
            refine q_op rfl (fun w' hw' => (by obtain ⟨e0, e1, e2, e3⟩ := HOW.out w' hw'; go_simp <;> rfl)) (fun K hK => ?_); go_simp; refine hK _ ?_; clear hK K
            refine q_op rfl (fun w' hw' => (by obtain ⟨e0, e1, e2, e3⟩ := HXC.out w' (HX2.out w' hw'); go_simp <;> rfl)) (fun K hK => ?_); go_simp; refine hK _ ?_; clear hK K
            refine q_call rfl (fun w' hw' => (by go_simp <;> rfl)) (fun w' hw' => ((hcall.out w').mono fun e w'' ⟨he, hb⟩ => ⟨he, hw'.trans (hb.mono hw'.size)⟩)) (fun K hK => ?_); go_simp; refine hK _ ?_; clear hK K
            refine q_op rfl (fun w' hw' => (by go_simp <;> rfl)) (fun K hK => ?_); go_simp; refine hK _ ?_; clear hK K
            refine wpQuiet_nil ?_
            intro W3 hb3
            have HB3 := Lib.hid (HB2.out.trans (hb3.mono HB2.out.size))
            have HX3 : Hid (∀ W, Below W3.heap.size W3 W → W.heap[xb]? = some (.cells #[.int .u32 (x.t.toNat : Int), .int .u32 (x.h.toNat : Int), .int .u64 (x.x.toNat : Int), .int .u32 (x.m.toNat : Int)] 47)) := Lib.hid (fun W hB => HX2.out W (hb3.trans (hB.mono hb3.size)))
            clear hb3 HX2
            cases r with
            | true =>
              have HLO' : Hid (∀ (j : Nat) (o' : Edg), j < k + 1 → out[j]? = some o' → pk false o' < pk false x) := Lib.hid (fun j o' hj ho' => by
                rcases Nat.lt_or_ge j k with h | h
                · exact HLO.out j o' h ho'
                · obtain rfl : j = k := by omega
                  rw [HO.out] at ho'
                  rw [← Option.some.inj ho']
                  exact of_decide_eq_true HRR.out.symm)
              go_wp2
              go_roundw
              case rel => exact ⟨k + 1, by omega, by go_num, HLO'.out, HB3.out⟩
              case measure => simp [intOf]; omega
            | false =>
              have HGE : Hid (¬ pk false o < pk false x) := Lib.hid (of_decide_eq_false HRR.out.symm)
              have HOW3 : Hid (∀ W, Below W3.heap.size W3 W → W.cell? ⟨g, k * 4, none⟩ = some (.int .u32 (o.t.toNat : Int)) ∧ W.cell? ⟨g, k * 4 + 1, none⟩ = some (.int .u32 (o.h.toNat : Int)) ∧ W.cell? ⟨g, k * 4 + 2, none⟩ = some (.int .u64 (o.x.toNat : Int)) ∧ W.cell? ⟨g, k * 4 + 3, none⟩ = some (.int .u32 (o.m.toNat : Int))) := Lib.hid (fun W hB => by
                obtain ⟨g', e, r⟩ := HOC.out W (HB3.out.trans (hB.mono HB3.out.size)) k o HO.out
                cases e
                exact r)
              have hcall2 := Lib.hid (fun W => ahead05_any x o W)
              obtain ⟨r2, hr2⟩ : ∃ r : Bool, r = decide (pk false x < pk false o) := ⟨_, rfl⟩
              rw [← hr2] at hcall2
              have HRR2 := Lib.hid hr2
              clear hr2 hcall HOW
              go_wp2_with fail
              refine wp_region_quiet_in (Below W3.heap.size W3) (by kernel_rfl) (by kernel_rfl) ((Below.refl _ _).drew) ?_
              iterate 5 (refine q_op rfl (fun w' hw' => (by go_simp <;> rfl)) (fun K hK => ?_); go_simp; refine hK _ ?_; clear hK K)
              refine q_op rfl (fun w' hw' => (by obtain ⟨e0, e1, e2, e3⟩ := HXC.out w' (HX3.out w' hw'); go_simp <;> rfl)) (fun K hK => ?_); go_simp; refine hK _ ?_; clear hK K
              iterate 3 (refine q_op rfl (fun w' hw' => (by go_simp <;> rfl)) (fun K hK => ?_); go_simp; refine hK _ ?_; clear hK K)
              refine q_op rfl (fun w' hw' => (by obtain ⟨e0, e1, e2, e3⟩ := HOW3.out w' hw'; go_simp <;> rfl)) (fun K hK => ?_); go_simp; refine hK _ ?_; clear hK K
              refine q_call rfl (fun w' hw' => (by go_simp <;> rfl)) (fun w' hw' => ((hcall2.out w').mono fun e w'' ⟨he, hb⟩ => ⟨he, hw'.trans (hb.mono hw'.size)⟩)) (fun K hK => ?_); go_simp; refine hK _ ?_; clear hK K
              iterate 2 (refine q_op rfl (fun w' hw' => (by go_simp <;> rfl)) (fun K hK => ?_); go_simp; refine hK _ ?_; clear hK K)
              refine wpQuiet_nil ?_
              intro W4 hb4
              have HB4 := Lib.hid (HB3.out.trans (hb4.mono HB3.out.size))
              have HX4 : Hid (∀ W, Below W4.heap.size W4 W → W.heap[xb]? = some (.cells #[.int .u32 (x.t.toNat : Int), .int .u32 (x.h.toNat : Int), .int .u64 (x.x.toNat : Int), .int .u32 (x.m.toNat : Int)] 47)) := Lib.hid (fun W hB => HX3.out W (hb4.trans (hB.mono hb4.size)))
              clear hb4 HX3 hcall2 HOW3
              cases r2 with
              | false =>
                have HPK : Hid (pk false o = pk false x) := Lib.hid (by
                  have h1 := HGE.out
                  have h2 := of_decide_eq_false HRR2.out.symm
                  omega)
                have HOW4 : Hid (∀ W, Below W4.heap.size W4 W → W.cell? ⟨g, k * 4, none⟩ = some (.int .u32 (o.t.toNat : Int)) ∧ W.cell? ⟨g, k * 4 + 1, none⟩ = some (.int .u32 (o.h.toNat : Int)) ∧ W.cell? ⟨g, k * 4 + 2, none⟩ = some (.int .u64 (o.x.toNat : Int)) ∧ W.cell? ⟨g, k * 4 + 3, none⟩ = some (.int .u32 (o.m.toNat : Int))) := Lib.hid (fun W hB => by
                  obtain ⟨g', e, r⟩ := HOC.out W (HB4.out.trans (hB.mono HB4.out.size)) k o HO.out
                  cases e
                  exact r)
                have hcall3 := Lib.hid (fun W => better03_any x o W)
                obtain ⟨r3, hr3⟩ : ∃ r : Bool, r = decide (rk x < rk o) := ⟨_, rfl⟩
                rw [← hr3] at hcall3
                have HRR3 := Lib.hid hr3
                clear hr3
                go_wp2_with fail
                refine wp_region_quiet_in (Below W4.heap.size W4) (by kernel_rfl) (by kernel_rfl) ((Below.refl _ _).drew) ?_
                refine q_op rfl (fun w' hw' => (by obtain ⟨e0, e1, e2, e3⟩ := HXC.out w' (HX4.out w' hw'); go_simp <;> rfl)) (fun K hK => ?_); go_simp; refine hK _ ?_; clear hK K
                iterate 3 (refine q_op rfl (fun w' hw' => (by go_simp <;> rfl)) (fun K hK => ?_); go_simp; refine hK _ ?_; clear hK K)
                refine q_op rfl (fun w' hw' => (by obtain ⟨e0, e1, e2, e3⟩ := HOW4.out w' hw'; go_simp <;> rfl)) (fun K hK => ?_); go_simp; refine hK _ ?_; clear hK K
                refine q_call rfl (fun w' hw' => (by go_simp <;> rfl)) (fun w' hw' => ((hcall3.out w').mono fun e w'' ⟨he, hb⟩ => ⟨he, hw'.trans (hb.mono hw'.size)⟩)) (fun K hK => ?_); go_simp; refine hK _ ?_; clear hK K
                refine wpQuiet_nil ?_
                intro W5 hb5
                have HB5 := Lib.hid (HB4.out.trans (hb5.mono HB4.out.size))
                have HR5 : Hid (ownsEdges W5 w.heap.size (.slice (some ⟨g, 0, none⟩) n0 oc) out) := Lib.hid (ownsRow_below HR1.out HB5.out)
                have HX5 : Hid (W5.heap[xb]? = some (.cells #[.int .u32 (x.t.toNat : Int), .int .u32 (x.h.toNat : Int), .int .u64 (x.x.toNat : Int), .int .u32 (x.m.toNat : Int)] 47)) := Lib.hid (HX4.out W5 hb5)
                have HBW5 := Lib.hid (HBW1.out.trans (HB5.out.mono hz1))
                clear hb5 HX4 hcall3 HOW4
                cases r3 with
                | true =>
                  have HBO : Hid (Best false (es.take (i + 1)) (out.set k x)) := Lib.hid (by
                    rw [HTK.out]
                    exact HBEST.out.over HO.out (pk_same.1 HPK.out) (of_decide_eq_true HRR3.out.symm))
                  have hown := ownsEdges_set HR5.out (i := k) (by rw [HN0.out]; exact hkl) x
                  obtain ⟨e0, e1, e2, e3⟩ := ownsEdges_cells (by rw [HN0.out]; exact HR5.out) HO.out
                  obtain ⟨c0, c1, c2, c3⟩ := HXC.out W5 HX5.out
                  have z0 := ownsEdges_free HR5.out (k * 4)
                  have z1 := ownsEdges_free HR5.out (k * 4 + 1)
                  have z2 := ownsEdges_free HR5.out (k * 4 + 2)
                  have z3 := ownsEdges_free HR5.out (k * 4 + 3)
                  have hgw : w.heap.size ≤ g := ownsRow_block HR5.out g rfl
                  have HBS := Lib.hid (below_stores HBW5.out hgw (k * 4) (k * 4 + 1) (k * 4 + 2) (k * 4 + 3) (.int .u32 (x.t.toNat : Int)) (.int .u32 (x.h.toNat : Int)) (.int .u64 (x.x.toNat : Int)) (.int .u32 (x.m.toNat : Int)))
                  have HOWN := Lib.hid hown
                  clear hown
                  go_wp2
                  go_roundw
                  case rel => exact ⟨i + 1, by omega, by go_num, out.set k x, HOWN.out, HBO.out, by rw [List.length_set, HN0.out]; omega, HBS.out⟩
                  case measure => simp [intOf]; omega
                | false =>
                  have HBL : Hid (Best false (es.take (i + 1)) out) := Lib.hid (by
                    rw [HTK.out]
                    exact HBEST.out.leave (.inr ⟨o, List.mem_of_getElem? HO.out, pk_same.1 HPK.out, by have := of_decide_eq_false HRR3.out.symm; omega⟩))
                  go_wp2
                  go_roundw
                  case rel => exact ⟨i + 1, by omega, by go_num, out, HR5.out, HBL.out, by rw [HN0.out]; omega, HBW5.out⟩
                  case measure => simp [intOf]; omega
              | true =>
                have HLAY : Hid (Best false (es.take (i + 1)) (out.take k ++ x :: out.drop k)) := Lib.hid (by
                  rw [HTK.out]
                  refine HBEST.out.lay HLOOP.out (by rw [HN0.out]; exact hk) HLO.out (fun j o' hj ho' => ?_)
                  have h1 : pk false x < pk false o := of_decide_eq_true HRR2.out.symm
                  rcases Nat.eq_or_lt_of_le hj with rfl | hlt
                  · rw [HO.out] at ho'
                    rw [← Option.some.inj ho']
                    exact h1
                  · exact Nat.lt_trans h1 (pairwise_get HBEST.out.rise hlt HO.out ho'))
                have HBX := HB4
                clear HX4 HRR HRR2
                have HRx : Hid (ownsEdges W4 w.heap.size (.slice (some ⟨g, 0, none⟩) n0 oc) out) := Lib.hid (ownsRow_below HR1.out HBX.out)
                have hzx : w.heap.size ≤ W4.heap.size := Nat.le_trans hz1 HBX.out.size
                have hln : out.length ≤ 100000 := by rw [HN0.out]; omega
                have hxx : xb < W4.heap.size := Nat.lt_of_lt_of_le hs1 HBX.out.size
                have HX0 : Hid (W4.heap[xb]? = some (.cells #[.int .u32 (x.t.toNat : Int), .int .u32 (x.h.toNat : Int), .int .u64 (x.x.toNat : Int), .int .u32 (x.m.toNat : Int)] 47)) := Lib.hid ((HBX.out.block _ hs1).trans HQ1.out)
                obtain ⟨c0, c1, c2, c3⟩ := HXC.out W4 HX0.out
                go_wp2_with (at_builtin; refine wpList_append_edge rfl _ _ rfl w.heap.size _ out rfl HRx.out x 1 rfl hln hzx ?_)
                intro v6 W6 hr6 ha6
                have HB6 := Lib.hid (add_below (HBW1.out.trans (HBX.out.mono hz1)) HRx.out ha6)
                have hal : W4.heap.size < (W4.alloc (.cells #[.int .u32 (x.t.toNat : Int), .int .u32 (x.h.toNat : Int), .int .u64 (x.x.toNat : Int), .int .u32 (x.m.toNat : Int)] 47)).heap.size := by simp
                have HXB6 : Hid (W6.heap[xb]? = some (.cells #[.int .u32 (x.t.toNat : Int), .int .u32 (x.h.toNat : Int), .int .u64 (x.x.toNat : Int), .int .u32 (x.m.toNat : Int)] 47)) := Lib.hid (((ha6.1.block xb (by omega) (fun e => by have := HNX.out xb e.symm; omega)).trans ((MapKept.heap_alloc W4 _).2 xb hxx)).trans HX0.out)
                have hnx6 : ∀ y, v6.ownBlock = some y → xb ≠ y := fun y hy e => by
                  rcases ha6.2 with h | h
                  · rw [h] at hy
                    have := HNX.out y hy
                    omega
                  · rw [h] at hy
                    have := Option.some.inj hy
                    omega
                obtain ⟨n1, hn1⟩ : ∃ n1 : Nat, n1 = n0 + 1 := ⟨_, rfl⟩
                have hlen6 : (out ++ [x]).length = n1 := by rw [List.length_append, HN0.out, hn1]; rfl
                obtain ⟨g6, c6, rfl⟩ : ∃ g c, v6 = .slice (some ⟨g, 0, none⟩) n1 c := by
                  rcases ownsEdges_shape hr6 with ⟨h1, _⟩ | ⟨g, c, h1, _⟩
                  · simp at h1
                  · exact ⟨g, c, by rw [← hlen6]; exact h1⟩
                have hne6 : xb ≠ g6 := hnx6 g6 rfl
                have hg6 : w.heap.size ≤ g6 := ownsRow_block hr6 g6 rfl
                have hn1' : (n1 : Int) - 1 = (n0 : Int) := by omega
                have hn1p : n0 < n1 := by omega
                have hcap6 : n1 ≤ c6 ∧ c6 ≤ maxLen := by
                  rcases ownsEdges_shape hr6 with ⟨h1, _⟩ | ⟨g, c, h1, _, h2, h3⟩
                  · simp at h1
                  · rw [hlen6] at h1 h2
                    cases h1
                    exact ⟨h2, h3⟩
                obtain ⟨hcap61, hcap62⟩ := hcap6
                unfold maxLen at hcap62
                have HR6 : Hid (ownsEdges W6 w.heap.size (.slice (some ⟨g6, 0, none⟩) n1 c6) (out.take n0 ++ x :: out.drop n0)) := Lib.hid (by
                  rw [List.take_of_length_le (by rw [HN0.out]; exact Nat.le_refl _), List.drop_of_length_le (by rw [HN0.out]; exact Nat.le_refl _)]
                  exact hr6)
                have HN1 := Lib.hid hn1
                clear hr6 ha6 hnx6 hlen6 hn1 hal c0 c1 c2 c3
                go_wp2
                go_loopw [7] (fun kv W => ∃ (kk : Nat) (y : Edg), k ≤ kk ∧ kk ≤ n0 ∧ kv = .int .i64 (kk : Int) ∧ ownsEdges W w.heap.size (.slice (some ⟨g6, 0, none⟩) n1 c6) (out.take kk ++ y :: out.drop kk) ∧ Below w.heap.size w W ∧ W.heap[xb]? = some (.cells #[.int .u32 (x.t.toNat : Int), .int .u32 (x.h.toNat : Int), .int .u64 (x.x.toNat : Int), .int .u32 (x.m.toNat : Int)] 47)) (fun kv _ => (intOf kv).toNat)
                case atStart => exact ⟨n0, x, hk, Nat.le_refl _, rfl, HR6.out, HB6.out, HXB6.out⟩
                case round =>
                  generalize wr = W7 at *
                  obtain ⟨kk, y, hkk1, hkk2, rfl, hr7, hb7, hx7⟩ := hrel
                  have HR7 := Lib.hid hr7
                  have HB7 := Lib.hid hb7
                  have HX7 := Lib.hid hx7
                  clear hr7 hb7 hx7
                  have hMl : (out.take kk ++ y :: out.drop kk).length = n1 := by
                    rw [List.length_append, List.length_cons, List.length_take, List.length_drop, HN0.out, HN1.out]; omega
                  have HML := Lib.hid hMl
                  clear hMl
                  have HKY : Hid ((out.take kk ++ y :: out.drop kk)[kk]? = some y) := Lib.hid (by
                    rw [List.getElem?_append_right (by rw [List.length_take]; omega), List.length_take, HN0.out, Nat.min_eq_left hkk2, Nat.sub_self]; rfl)
                  obtain ⟨p0, p1, p2, p3⟩ := ownsEdges_cells (by rw [HML.out]; exact HR7.out) HKY.out
                  have z0 := ownsEdges_free HR7.out (kk * 4)
                  have z1 := ownsEdges_free HR7.out (kk * 4 + 1)
                  have z2 := ownsEdges_free HR7.out (kk * 4 + 2)
                  have z3 := ownsEdges_free HR7.out (kk * 4 + 3)
                  by_cases hgt : k < kk
                  · obtain ⟨q, hq⟩ : ∃ q : Nat, (q : Int) = (kk : Int) - 1 := ⟨kk - 1, by omega⟩
                    have hq' : (kk : Int) - 1 = (q : Int) := hq.symm
                    have hqk : kk - 1 = q := by omega
                    have HQK := Lib.hid hqk
                    have hqn : q < n1 := by omega
                    have hql : q < out.length := by rw [HN0.out]; omega
                    obtain ⟨z, hz⟩ : ∃ z, out[q]? = some z := ⟨_, List.getElem?_eq_getElem hql⟩
                    have hzz : out[kk - 1]? = some z := by rw [hqk]; exact hz
                    have HZ : Hid ((out.take kk ++ y :: out.drop kk)[q]? = some z) := Lib.hid (by
                      have := shift_get (x := y) (by omega) (by rw [HN0.out]; exact hkk2) hzz
                      rw [hqk] at this
                      exact this)
                    have HSET : Hid ((out.take kk ++ y :: out.drop kk).set kk z = out.take q ++ z :: out.drop q) := Lib.hid (by
                      have := shift_set (x := y) hgt (by rw [HN0.out]; exact hkk2) hzz
                      rw [hqk] at this
                      exact this)
                    have hown := ownsEdges_set HR7.out (i := kk) (by rw [HML.out]; omega) z
                    rw [HSET.out] at hown
                    have HOWN := Lib.hid hown
                    obtain ⟨s0, s1, s2, s3⟩ := ownsEdges_cells (by rw [HML.out]; exact HR7.out) HZ.out
                    have HBS := Lib.hid (below_stores HB7.out hg6 (kk * 4) (kk * 4 + 1) (kk * 4 + 2) (kk * 4 + 3) (.int .u32 (z.t.toNat : Int)) (.int .u32 (z.h.toNat : Int)) (.int .u64 (z.x.toNat : Int)) (.int .u32 (z.m.toNat : Int)))
                    have HXS := Lib.hid (heap_stores HX7.out hne6 (kk * 4) (kk * 4 + 1) (kk * 4 + 2) (kk * 4 + 3) (.int .u32 (z.t.toNat : Int)) (.int .u32 (z.h.toNat : Int)) (.int .u64 (z.x.toNat : Int)) (.int .u32 (z.m.toNat : Int)))
                    clear hq hqk hz hzz hown hql
                    go_wp2
                    go_roundw
                    case rel => exact ⟨q, z, by omega, by omega, by first | rfl | go_num, HOWN.out, HBS.out, HXS.out⟩
                    case measure => simp [intOf]; omega
                  · obtain rfl : kk = k := by omega
                    obtain ⟨c0, c1, c2, c3⟩ := HXC.out W7 HX7.out
                    have hown := ownsEdges_set HR7.out (i := kk) (by rw [HML.out]; omega) x
                    rw [shift_last (by rw [HN0.out]; exact hkk2)] at hown
                    have HOWN := Lib.hid hown
                    have HBS := Lib.hid (below_stores HB7.out hg6 (kk * 4) (kk * 4 + 1) (kk * 4 + 2) (kk * 4 + 3) (.int .u32 (x.t.toNat : Int)) (.int .u32 (x.h.toNat : Int)) (.int .u64 (x.x.toNat : Int)) (.int .u32 (x.m.toNat : Int)))
                    have hkn1 : kk < n1 := by omega
                    clear hown
                    go_wp2
                    go_roundw
                    case rel => exact ⟨i + 1, by omega, by go_num, out.take kk ++ x :: out.drop kk, HOWN.out, HLAY.out, by rw [List.length_append, List.length_cons, List.length_take, List.length_drop, HN0.out]; omega, HBS.out⟩
                    case measure => simp [intOf]; omega
          · obtain rfl : n0 = k := by omega
            have HLAY : Hid (Best false (es.take (i + 1)) (out.take n0 ++ x :: out.drop n0)) := Lib.hid (by
              rw [HTK.out]
              refine HBEST.out.lay HLOOP.out (by rw [HN0.out]; exact Nat.le_refl _) HLO.out (fun j o' hj ho' => ?_)
              have := lt_of_get ho'
              rw [HN0.out] at this
              omega)
            have hdd : decide ((n0 : Int) < (n0 : Int)) = false := decide_eq_false (by omega)
            have hdd' : decide (n0 < n0) = false := decide_eq_false (by omega)
            go_wp2_with fail
            go_quiet (fail)
            have hb3 : Below W2.heap.size W2 (W2.drewN nq) := below_drewN (Below.refl _ _) _
            have HB3 := Lib.hid (HB2.out.trans (hb3.mono HB2.out.size))
            clear hb3
            generalize W2.drewN nq = W3 at *
            go_wp2_with fail
            go_quiet (fail)
            have hb4 : Below W3.heap.size W3 (W3.drewN nq) := below_drewN (Below.refl _ _) _
            have HBX := Lib.hid (HB3.out.trans (hb4.mono HB3.out.size))
            clear hb4 hdd hdd'
            generalize W3.drewN nq = W4 at *
            have HRx : Hid (ownsEdges W4 w.heap.size (.slice oa n0 oc) out) := Lib.hid (ownsRow_below HR1.out HBX.out)
            have hzx : w.heap.size ≤ W4.heap.size := Nat.le_trans hz1 HBX.out.size
            have hln : out.length ≤ 100000 := by rw [HN0.out]; omega
            have hxx : xb < W4.heap.size := Nat.lt_of_lt_of_le hs1 HBX.out.size
            have HX0 : Hid (W4.heap[xb]? = some (.cells #[.int .u32 (x.t.toNat : Int), .int .u32 (x.h.toNat : Int), .int .u64 (x.x.toNat : Int), .int .u32 (x.m.toNat : Int)] 47)) := Lib.hid ((HBX.out.block _ hs1).trans HQ1.out)
            obtain ⟨c0, c1, c2, c3⟩ := HXC.out W4 HX0.out
            go_wp2_with (at_builtin; refine wpList_append_edge rfl _ _ rfl w.heap.size _ out rfl HRx.out x 1 rfl hln hzx ?_)
            intro v6 W6 hr6 ha6
            have HB6 := Lib.hid (add_below (HBW1.out.trans (HBX.out.mono hz1)) HRx.out ha6)
            have hal : W4.heap.size < (W4.alloc (.cells #[.int .u32 (x.t.toNat : Int), .int .u32 (x.h.toNat : Int), .int .u64 (x.x.toNat : Int), .int .u32 (x.m.toNat : Int)] 47)).heap.size := by simp
            have HXB6 : Hid (W6.heap[xb]? = some (.cells #[.int .u32 (x.t.toNat : Int), .int .u32 (x.h.toNat : Int), .int .u64 (x.x.toNat : Int), .int .u32 (x.m.toNat : Int)] 47)) := Lib.hid (((ha6.1.block xb (by omega) (fun e => by have := HNX.out xb e.symm; omega)).trans ((MapKept.heap_alloc W4 _).2 xb hxx)).trans HX0.out)
            have hnx6 : ∀ y, v6.ownBlock = some y → xb ≠ y := fun y hy e => by
              rcases ha6.2 with h | h
              · rw [h] at hy
                have := HNX.out y hy
                omega
              · rw [h] at hy
                have := Option.some.inj hy
                omega
            obtain ⟨n1, hn1⟩ : ∃ n1 : Nat, n1 = n0 + 1 := ⟨_, rfl⟩
            have hlen6 : (out ++ [x]).length = n1 := by rw [List.length_append, HN0.out, hn1]; rfl
            obtain ⟨g6, c6, rfl⟩ : ∃ g c, v6 = .slice (some ⟨g, 0, none⟩) n1 c := by
              rcases ownsEdges_shape hr6 with ⟨h1, _⟩ | ⟨g, c, h1, _⟩
              · simp at h1
              · exact ⟨g, c, by rw [← hlen6]; exact h1⟩
            have hne6 : xb ≠ g6 := hnx6 g6 rfl
            have hg6 : w.heap.size ≤ g6 := ownsRow_block hr6 g6 rfl
            have hn1' : (n1 : Int) - 1 = (n0 : Int) := by omega
            have hn1p : n0 < n1 := by omega
            have hcap6 : n1 ≤ c6 ∧ c6 ≤ maxLen := by
              rcases ownsEdges_shape hr6 with ⟨h1, _⟩ | ⟨g, c, h1, _, h2, h3⟩
              · simp at h1
              · rw [hlen6] at h1 h2
                cases h1
                exact ⟨h2, h3⟩
            obtain ⟨hcap61, hcap62⟩ := hcap6
            unfold maxLen at hcap62
            have HR6 : Hid (ownsEdges W6 w.heap.size (.slice (some ⟨g6, 0, none⟩) n1 c6) (out.take n0 ++ x :: out.drop n0)) := Lib.hid (by
              rw [List.take_of_length_le (by rw [HN0.out]; exact Nat.le_refl _), List.drop_of_length_le (by rw [HN0.out]; exact Nat.le_refl _)]
              exact hr6)
            have HN1 := Lib.hid hn1
            clear hr6 ha6 hnx6 hlen6 hn1 hal c0 c1 c2 c3
            go_wp2
            go_loopw [7] (fun kv W => ∃ (kk : Nat) (y : Edg), n0 ≤ kk ∧ kk ≤ n0 ∧ kv = .int .i64 (kk : Int) ∧ ownsEdges W w.heap.size (.slice (some ⟨g6, 0, none⟩) n1 c6) (out.take kk ++ y :: out.drop kk) ∧ Below w.heap.size w W ∧ W.heap[xb]? = some (.cells #[.int .u32 (x.t.toNat : Int), .int .u32 (x.h.toNat : Int), .int .u64 (x.x.toNat : Int), .int .u32 (x.m.toNat : Int)] 47)) (fun kv _ => (intOf kv).toNat)
            case atStart => exact ⟨n0, x, hk, Nat.le_refl _, rfl, HR6.out, HB6.out, HXB6.out⟩
            case round =>
              generalize wr = W7 at *
              obtain ⟨kk, y, hkk1, hkk2, rfl, hr7, hb7, hx7⟩ := hrel
              have HR7 := Lib.hid hr7
              have HB7 := Lib.hid hb7
              have HX7 := Lib.hid hx7
              clear hr7 hb7 hx7
              have hMl : (out.take kk ++ y :: out.drop kk).length = n1 := by
                rw [List.length_append, List.length_cons, List.length_take, List.length_drop, HN0.out, HN1.out]; omega
              have HML := Lib.hid hMl
              clear hMl
              have HKY : Hid ((out.take kk ++ y :: out.drop kk)[kk]? = some y) := Lib.hid (by
                rw [List.getElem?_append_right (by rw [List.length_take]; omega), List.length_take, HN0.out, Nat.min_eq_left hkk2, Nat.sub_self]; rfl)
              obtain ⟨p0, p1, p2, p3⟩ := ownsEdges_cells (by rw [HML.out]; exact HR7.out) HKY.out
              have z0 := ownsEdges_free HR7.out (kk * 4)
              have z1 := ownsEdges_free HR7.out (kk * 4 + 1)
              have z2 := ownsEdges_free HR7.out (kk * 4 + 2)
              have z3 := ownsEdges_free HR7.out (kk * 4 + 3)
              by_cases hgt : n0 < kk
              · omega
              · obtain rfl : kk = n0 := by omega
                obtain ⟨c0, c1, c2, c3⟩ := HXC.out W7 HX7.out
                have hown := ownsEdges_set HR7.out (i := kk) (by rw [HML.out]; omega) x
                rw [shift_last (by rw [HN0.out]; exact hkk2)] at hown
                have HOWN := Lib.hid hown
                have HBS := Lib.hid (below_stores HB7.out hg6 (kk * 4) (kk * 4 + 1) (kk * 4 + 2) (kk * 4 + 3) (.int .u32 (x.t.toNat : Int)) (.int .u32 (x.h.toNat : Int)) (.int .u64 (x.x.toNat : Int)) (.int .u32 (x.m.toNat : Int)))
                have hkn1 : kk < n1 := by omega
                clear hown
                go_wp2
                go_roundw
                case rel => exact ⟨i + 1, by omega, by go_num, out.take kk ++ x :: out.drop kk, HOWN.out, HLAY.out, by rw [List.length_append, List.length_cons, List.length_take, List.length_drop, HN0.out]; omega, HBS.out⟩
                case measure => simp [intOf]; omega
    · obtain rfl : N = i := by omega
      go_wp2
      go_ret
      refine ⟨_, rfl, ?_, HB.out⟩
      have h := HBEST.out
      rw [HALL.out] at h
      rw [← h.eq]
      exact HR.out
end Go.Proofs.YtolieljpnafbhaaGreatDoor
namespace Go.Proofs.YtolieljpnafbhaaGreatDoor
open Go.RowKit Go.Maps
theorem edgRow_one (l : List Edg) : ∀ u ∈ edgRow l, u.oneCell' = true := by
  induction l with
  | nil => intro u hu; cases hu
  | cons x l ih =>
    intro u hu
    rw [edgRow, List.mem_append] at hu
    rcases hu with hu | hu
    · simp [Edg.cells] at hu
      rcases hu with rfl | rfl | rfl | rfl <;> rfl
    · exact ih u hu
theorem rdE_row {w : World} {b off n cap : Nat} {es : List Edg} (h : RdE w (.slice (some ⟨b, off, none⟩) n cap) es) : ∀ j u, (edgRow es)[j]? = some u → w.cell? ((⟨b, off, none⟩ : Addr).add j) = some u := by
  intro j u hj
  obtain ⟨-, hc⟩ := rdE_cells h
  have hjl := lt_of_get hj
  rw [edgRow_length] at hjl
  have hi : j / 4 < es.length := by omega
  obtain ⟨b', off', he, h1, h2, h3, h4⟩ := hc w (Below.refl _ _) (j / 4) es[j / 4] (List.getElem?_eq_getElem hi)
  cases he
  have hg := edgRow_get (List.getElem?_eq_getElem hi) (j := j % 4) (by omega)
  rw [show j / 4 * 4 + j % 4 = j by omega, hj] at hg
  rw [Addr_add]
  have h012 : j % 4 = 0 ∨ j % 4 = 1 ∨ j % 4 = 2 ∨ j % 4 = 3 := by omega
  rcases h012 with e | e | e | e
  · rw [e] at hg
    cases hg
    rw [show off + j = off + j / 4 * 4 by omega]
    exact h1
  · rw [e] at hg
    cases hg
    rw [show off + j = off + j / 4 * 4 + 1 by omega]
    exact h2
  · rw [e] at hg
    cases hg
    rw [show off + j = off + j / 4 * 4 + 2 by omega]
    exact h3
  · rw [e] at hg
    cases hg
    rw [show off + j = off + j / 4 * 4 + 3 by omega]
    exact h4
/-- append(l, u...), u a row that may be read. -/
theorem wpList_append_rdE {w : World} {ops : Array Oper} {rest : List Oper} {op : Oper} {a : Act} {Q : Exit → Act → World → Prop} (hgd : op.guard = none) (s x : Operand) (ho : op.op = .call { callee := .builtin .append, args := #[s, x], argTypes := #[40, 40] }) (base : Nat) (v : Value) (l : List Edg) (hs : a.eval s = v) (hown : ownsEdges w base v l)
    (u : Value) (es : List Edg) (hx : a.eval x = u) (hr : RdE w u es) (hl : l.length + es.length ≤ 100000) (hbase : base ≤ w.heap.size)
    (k : ∀ v' w', ownsEdges w' base v' (l ++ es) → Appd v w w' v' → wpList Tryz.prog ops Q rest (a.put op.dst v') w') : wpList Tryz.prog ops Q (op :: rest) a w := by
  have hrw := hr
  obtain ⟨ad, cap, rfl, hc⟩ := hrw
  cases ad with
  | some ad =>
    have hcells : ∀ j u, (edgRow es)[j]? = some u → w.cell? (ad.add j) = some u := fun j u hj => by
      have hjl := lt_of_get hj
      rw [edgRow_length] at hjl
      rcases hc with h0 | ⟨b, off, ha, _⟩
      · omega
      · cases ha
        exact rdE_row hr j u hj
    refine wpList_append_at hgd s x 40 ho base 47 _ 4 24 Tryz.underlying40 info_edge rfl (by decide) v l.length (edgRow l) hs hown ad es.length cap (edgRow es) hx (edgRow_length es) hcells (edgRow_one es) (by unfold maxLen; omega) (by omega) hbase (fun v' w' h1 h2 => k v' w' ?_ h2)
    unfold ownsEdges
    rw [edgRow_append, List.length_append]
    exact h1
  | none =>
    have h0 : es = [] := by
      rcases hc with hc | ⟨b, off, ha, _⟩
      · exact List.length_eq_zero_iff.1 hc
      · cases ha
    subst h0
    obtain ⟨i0, hi0, hz0, hz1, hz2⟩ := info_parts info_edge
    have hst0 : ∀ ad, (storeCells ad []).run Tryz.prog w = .ok () w := fun _ => rfl
    obtain ⟨va, vc, hve⟩ : ∃ va vc, v = .slice va l.length vc := ownsRow_slice hown
    subst hve
    refine wpList_plain hgd fun K hK => ?_
    have hcap : l.length ≤ vc := by
      rcases ownsEdges_shape hown with ⟨h1, h2⟩ | ⟨g, c, h1, _, h2, _⟩
      · rw [h1]
        exact Nat.zero_le _
      · cases h1
        exact h2
    have hrun : (Builtin.append_ #[40, 40] op.type #[.slice va l.length vc, .slice none ([] : List Edg).length cap]).run Tryz.prog w = .ok (.slice va l.length vc) w := by
      cases va with
      | none => simp [Builtin.append_, run_underlying Tryz.underlying40, sizeOf, typeInfo, hi0, Builtin.lenOf, Builtin.firstCells, hcap]
      | some va => simp [Builtin.append_, run_underlying Tryz.underlying40, sizeOf, typeInfo, hi0, Builtin.lenOf, Builtin.firstCells, hst0, hcap]
    unfold Oper.wp execOp
    simp only [ho, resolve, invoke, builtin, Sem.run_bind, Sem.run_pure, Result.andThen_ok, List.map_toArray, List.map_cons, List.map_nil, hs, hx, hrun]
    refine hK _ _ (k _ _ (by rw [List.append_nil]; exact hown) ⟨⟨rfl, rfl, rfl, Nat.le_refl _, fun _ _ _ => rfl⟩, .inl rfl⟩)
theorem ownsEdges_none (w : World) : ownsEdges (w.alloc (.cells #[] 47)) w.heap.size (.slice (some ⟨w.heap.size, 0, none⟩) 0 0) [] :=
  ⟨by simp [edgRow], .inr ⟨w.heap.size, 0, #[], rfl, Nat.le_refl _, heap_alloc_new w _, Nat.le_refl _, Nat.zero_le _, by simp, by simp [edgRow]⟩⟩
/-- A part of a row that may be read. -/
theorem RdE.take {w : World} {a : Option Addr} {n cap k : Nat} {es : List Edg} (h : RdE w (.slice a n cap) es) (hk : k ≤ es.length) : RdE w (.slice a k cap) (es.take k) := by
  obtain ⟨a', cap', he, hc⟩ := h
  cases he
  have hl : (es.take k).length = k := by rw [List.length_take]; omega
  refine ⟨a, cap, by rw [hl], ?_⟩
  rcases hc with hc | ⟨b, off, rfl, hc⟩
  · exact .inl (by omega)
  · exact .inr ⟨b, off, rfl, fun j x hx => hc j x (by rw [List.getElem?_take] at hx; split at hx; exact hx; cases hx)⟩
theorem RdE.drop {w : World} {b off n cap k : Nat} {es : List Edg} (h : RdE w (.slice (some ⟨b, off, none⟩) n cap) es) (hk : k ≤ es.length) (c : Nat) : RdE w (.slice (some ⟨b, off + k * 4, none⟩) (n - k) c) (es.drop k) := by
  obtain ⟨a', cap', he, hc⟩ := h
  cases he
  have hl : (es.drop k).length = es.length - k := List.length_drop ..
  refine ⟨_, c, by rw [hl], ?_⟩
  rcases hc with hc | ⟨b', off', he, hc⟩
  · exact .inl (by omega)
  · cases he
    refine .inr ⟨b, off + k * 4, rfl, fun j x hx => ?_⟩
    rw [List.getElem?_drop] at hx
    have := hc (k + j) x hx
    rw [show off + k * 4 + j * 4 = off + (k + j) * 4 by omega]
    exact this
theorem RdE.none {w : World} {a : Option Addr} {cap : Nat} : RdE w (.slice a 0 cap) [] := ⟨a, cap, rfl, .inl rfl⟩
theorem appd_below {W0 W W' : World} {v v' : Value} (hb : Below W0.heap.size W0 W) (hv : ∀ y, v.ownBlock = some y → W0.heap.size ≤ y) (ha : Appd v W W' v') : Below W0.heap.size W0 W' ∧ ∀ y, v'.ownBlock = some y → W0.heap.size ≤ y := by
  obtain ⟨hg, h⟩ := ha
  have hs := hb.size
  refine ⟨hb.trans ⟨hg.os, hg.tape, hg.output, hg.size, fun x hx => hg.block x (by omega) (fun e => ?_)⟩, fun y hy => ?_⟩
  · have := hv x e.symm
    omega
  · rcases h with h | h
    · rw [h] at hy; exact hv y hy
    · rw [h] at hy; cases hy; exact hs
/-- Where Sorted is. -/
def SortedHead (w : World) (b : Bool) (r : List Edg) (i : Nat) (v : Value) (W : World) : Prop := ∃ out : List Edg, ownsEdges W w.heap.size v out ∧ Best b (r.take i) out ∧ out.length ≤ i ∧ Below w.heap.size w W
set_option maxRecDepth 100000 in
set_option maxHeartbeats 8000000 in
theorem sorted_any (v : Value) (es : List Edg) (b : Bool) (w : World) (hv : RdE w v es) (hl : es.length ≤ 10000) : Calls Tryz.prog 43 #[v, .int .i64 (byNum b : Int)] w (NewEdges w (bestOf b es)) := by
  have hred := Lib.hid (reduce_any v es w hv hl)
  have hrl : (bestOf false es).length ≤ 10000 := Nat.le_trans (bestOf_length _ _) hl
  have HB0 := Lib.hid (best_bestOf false es)
  have HEND : Hid (∀ out, Best b (bestOf false es) out → out = bestOf b es) := Lib.hid (fun out h => by rw [h.eq, bestOf_turn])
  obtain ⟨va, vn, vc, rfl⟩ : ∃ a n c, v = .slice a n c := by
    obtain ⟨a, c, rfl, _⟩ := hv
    exact ⟨a, _, c, rfl⟩
  clear hv hl
  generalize bestOf false es = r at *
  obtain ⟨bn, hbn⟩ : ∃ bn : Int, bn = (byNum b : Int) := ⟨_, rfl⟩
  have hcall := Lib.hid (fun W x y => ahead12_any b x y W)
  rw [← hbn] at hcall ⊢
  clear hbn
  go_enter Tryz.func43, Tryz.ntmps43
  go_wp2_with fail
  refine hred.out.mono ?_
  rintro e w1 ⟨rv, rfl, hr1, hb1⟩
  have HR1 := Lib.hid hr1
  have HB1 := Lib.hid hb1
  obtain ⟨ra, rc, rfl⟩ : ∃ ra rc, rv = .slice ra r.length rc := ownsRow_slice hr1
  have HV1 := Lib.hid (rdE_own hr1)
  obtain ⟨-, hcells⟩ := rdE_cells HV1.out
  have HC := Lib.hid hcells
  have HX : Hid (∀ i, i < r.length → ∃ x, r[i]? = some x) := Lib.hid (fun i hi => ⟨_, List.getElem?_eq_getElem hi⟩)
  have HALL : Hid (r.take r.length = r) := Lib.hid (List.take_of_length_le (Nat.le_refl _))
  clear hcells hr1 hb1 hred
  generalize hN : r.length = N at *
  have HN := Lib.hid hN
  clear hN
  go_wp2
  go_loopw [5, 7] (fun ov iv W => ∃ i : Nat, i ≤ N ∧ iv = .int .i64 (i : Int) ∧ SortedHead w1 b r i ov W) (fun _ iv _ => N - (intOf iv).toNat)
  case atStart => exact ⟨0, Nat.zero_le _, rfl, [], World.ownsRow_nil _ _ _ _, Best.nil _, Nat.le_refl _, Below.refl _ _⟩
  case round =>
    generalize u5 = ov at *
    generalize wr = W1 at *
    obtain ⟨i, hi, rfl, out, hr, hbest, hol, hb⟩ := hrel
    have HR := Lib.hid hr
    have HBEST := Lib.hid hbest
    have HB := Lib.hid hb
    have hz : w1.heap.size ≤ W1.heap.size := hb.size
    clear hr hbest hb
    by_cases hlt : i < N
    · obtain ⟨x, hx⟩ := HX.out i hlt
      have HXX := Lib.hid hx
      have HTK := Lib.hid (take_snoc hx)
      obtain ⟨re, ro, rfl, -⟩ := HC.out W1 HB.out i x hx
      have HXC : Hid (∀ W, Below W1.heap.size W1 W → W.cell? ⟨re, ro + i * 4, none⟩ = some (.int .u32 (x.t.toNat : Int)) ∧ W.cell? ⟨re, ro + i * 4 + 1, none⟩ = some (.int .u32 (x.h.toNat : Int)) ∧ W.cell? ⟨re, ro + i * 4 + 2, none⟩ = some (.int .u64 (x.x.toNat : Int)) ∧ W.cell? ⟨re, ro + i * 4 + 3, none⟩ = some (.int .u32 (x.m.toNat : Int))) := Lib.hid (fun W hB => by
        obtain ⟨b', o', e, g⟩ := HC.out W (HB.out.trans (hB.mono HB.out.size)) i x HXX.out
        cases e
        exact g)
      obtain ⟨oa, oc, hve⟩ : ∃ oa oc, ov = .slice oa out.length oc := ownsRow_slice HR.out
      subst hve
      have HRD : Hid (∀ W, Below W1.heap.size W1 W → RdE W (.slice oa out.length oc) out) := Lib.hid (fun W hB => (rdE_own HR.out).below hB)
      have hoc : out.length ≤ oc ∧ oc ≤ maxLen := by
        rcases ownsEdges_shape HR.out with ⟨h1, h2⟩ | ⟨g, c, h1, _, h2, h3⟩
        · rw [h1]
          exact ⟨Nat.zero_le _, by injection h2 with _ _ e3; rw [e3]; exact Nat.zero_le _⟩
        · cases h1
          exact ⟨h2, h3⟩
      obtain ⟨hoc1, hoc2⟩ := hoc
      unfold maxLen at hoc2
      have HOX : Hid (∀ j, j < out.length → ∃ o, out[j]? = some o) := Lib.hid (fun j hj => ⟨_, List.getElem?_eq_getElem hj⟩)
      have HNEW : Hid (∀ o ∈ out, pk b o ≠ pk b x) := Lib.hid (fun o ho e => by
        have h1 := (HBEST.out.mem o ho).1
        obtain ⟨j, hj, rfl⟩ := List.getElem_of_mem h1
        rw [List.getElem_take] at e
        rw [List.length_take] at hj
        have e' : pk false r[j] = pk false x := pk_same.2 (pk_same.1 e)
        have h2 := pairwise_get HB0.out.rise (show j < i by omega) (List.getElem?_eq_getElem (by omega)) HXX.out
        omega)
      have HLOOP : Hid (x.t ≠ x.h) := Lib.hid (HB0.out.mem x (List.mem_of_getElem? HXX.out)).2.1
      clear hx
      generalize hn0 : out.length = n0 at *
      have HN0 := Lib.hid hn0
      clear hn0
      go_wp2
      go_loopw [8] (fun kv W => ∃ k : Nat, k ≤ n0 ∧ kv = .int .i64 (k : Int) ∧ (∀ (j : Nat) (o : Edg), j < k → out[j]? = some o → pk b o < pk b x) ∧ Below W1.heap.size W1 W) (fun kv _ => n0 - (intOf kv).toNat)
      case atStart => exact ⟨0, Nat.zero_le _, rfl, (fun j o hj => absurd hj (Nat.not_lt_zero _)), Below.refl _ _⟩
      case round =>
        generalize wr = W2 at *
        obtain ⟨k, hk, rfl, hlo, hb2⟩ := hrel
        have HLO := Lib.hid hlo
        have HB2 := Lib.hid hb2
        clear hlo hb2
        by_cases hkl : k < n0
        · obtain ⟨o, ho⟩ := HOX.out k hkl
          have HO := Lib.hid ho
          clear ho
          obtain ⟨-, hcc⟩ := rdE_cells (by rw [← HN0.out] at HRD; exact HRD.out W2 HB2.out)
          obtain ⟨oe, oo, rfl, -⟩ := hcc W2 (Below.refl _ _) k o HO.out
          have HOW : Hid (∀ W, Below W2.heap.size W2 W → W.cell? ⟨oe, oo + k * 4, none⟩ = some (.int .u32 (o.t.toNat : Int)) ∧ W.cell? ⟨oe, oo + k * 4 + 1, none⟩ = some (.int .u32 (o.h.toNat : Int)) ∧ W.cell? ⟨oe, oo + k * 4 + 2, none⟩ = some (.int .u64 (o.x.toNat : Int)) ∧ W.cell? ⟨oe, oo + k * 4 + 3, none⟩ = some (.int .u32 (o.m.toNat : Int))) := Lib.hid (fun W hB => by
            obtain ⟨g', o', e, r⟩ := hcc W hB k o HO.out
            cases e
            exact r)
          clear hcc
          have hcall1 := Lib.hid (fun W => hcall.out W o x)
          obtain ⟨rr, hr0⟩ : ∃ r : Bool, r = decide (pk b o < pk b x) := ⟨_, rfl⟩
          rw [← hr0] at hcall1
          have HRR := Lib.hid hr0
          clear hr0
          go_wp2_with fail
          refine wp_region_quiet_in (Below W2.heap.size W2) (by kernel_rfl) (by kernel_rfl) ((Below.refl _ _).drew) ?_
          iterate 8 (refine q_op rfl (fun w' hw' => (by go_simp <;> rfl)) (fun K hK => ?_); go_simp; refine hK _ ?_; clear hK K)
          refine q_op rfl (fun w' hw' => (by obtain ⟨e0, e1, e2, e3⟩ := HOW.out w' hw'; go_simp <;> rfl)) (fun K hK => ?_); go_simp; refine hK _ ?_; clear hK K
          iterate 3 (refine q_op rfl (fun w' hw' => (by go_simp <;> rfl)) (fun K hK => ?_); go_simp; refine hK _ ?_; clear hK K)
          refine q_op rfl (fun w' hw' => (by obtain ⟨e0, e1, e2, e3⟩ := HXC.out w' (HB2.out.trans (hw'.mono HB2.out.size)); go_simp <;> rfl)) (fun K hK => ?_); go_simp; refine hK _ ?_; clear hK K
          refine q_op rfl (fun w' hw' => (by go_simp <;> rfl)) (fun K hK => ?_); go_simp; refine hK _ ?_; clear hK K
          refine q_call rfl (fun w' hw' => (by go_simp <;> rfl)) (fun w' hw' => ((hcall1.out w').mono fun e w'' ⟨he, hb⟩ => ⟨he, hw'.trans (hb.mono hw'.size)⟩)) (fun K hK => ?_); go_simp; refine hK _ ?_; clear hK K
          refine q_op rfl (fun w' hw' => (by go_simp <;> rfl)) (fun K hK => ?_); go_simp; refine hK _ ?_; clear hK K
          refine wpQuiet_nil ?_
          intro W3 hb3
          have HB3 := Lib.hid (HB2.out.trans (hb3.mono HB2.out.size))
          clear hb3 hcall1 HOW
          cases rr with
          | true =>
            have HLO' : Hid (∀ (j : Nat) (o' : Edg), j < k + 1 → out[j]? = some o' → pk b o' < pk b x) := Lib.hid (fun j o' hj ho' => by
              rcases Nat.lt_or_ge j k with h | h
              · exact HLO.out j o' h ho'
              · obtain rfl : j = k := by omega
                rw [HO.out] at ho'
                rw [← Option.some.inj ho']
                exact of_decide_eq_true HRR.out.symm)
            go_wp2
            go_roundw
            case rel => exact ⟨k + 1, by omega, by go_num, HLO'.out, HB3.out⟩
            case measure => simp [intOf]; omega
          | false =>
            have HLAY : Hid (Best b (r.take (i + 1)) (out.take k ++ x :: out.drop k)) := Lib.hid (by
              rw [HTK.out]
              refine HBEST.out.lay HLOOP.out (by rw [HN0.out]; exact hk) HLO.out (fun j o' hj ho' => ?_)
              have h0 := HNEW.out o (List.mem_of_getElem? HO.out)
              have h1 := of_decide_eq_false HRR.out.symm
              rcases Nat.eq_or_lt_of_le hj with rfl | hlt
              · rw [HO.out] at ho'
                rw [← Option.some.inj ho']
                omega
              · have := pairwise_get HBEST.out.rise hlt HO.out ho'
                omega)
            have HBX := HB3
            have HNONE : Hid (ownsEdges (W3.alloc (.cells #[] 47)) w1.heap.size (.slice (some ⟨W3.heap.size, 0, none⟩) 0 0) []) := Lib.hid (ownsRow_base (ownsEdges_none W3) (Nat.le_trans hz HBX.out.size))
            have HTKX : Hid (RdE (W3.alloc (.cells #[] 47)) (.slice (some ⟨oe, oo, none⟩) k oc) (out.take k)) := Lib.hid ((HRD.out _ (HBX.out.alloc HBX.out.size _)).take (by rw [HN0.out]; exact hk))
            have hlk : ([] : List Edg).length + (out.take k).length ≤ 100000 := by rw [List.length_take, List.length_nil]; omega
            have hzX : w1.heap.size ≤ (W3.alloc (.cells #[] 47)).heap.size := by have := HBX.out.size; simp; omega
            go_wp2_with (at_builtin; refine wpList_append_rdE rfl _ _ rfl w1.heap.size _ [] rfl HNONE.out _ (out.take k) rfl HTKX.out hlk hzX ?_)
            intro v4 W4 hr4 ha4
            obtain ⟨hb4, hv4⟩ := appd_below ((Below.refl W3.heap.size W3).alloc (Nat.le_refl _) _) (fun y hy => by cases hy; exact Nat.le_refl _) ha4
            have HR4 : Hid (ownsEdges W4 w1.heap.size v4 (out.take k)) := Lib.hid (by rw [← List.nil_append (out.take k)]; exact hr4)
            have HB4 := Lib.hid (HBX.out.trans (hb4.mono HBX.out.size))
            have HBX4 := Lib.hid hb4
            have HV4 := Lib.hid hv4
            obtain ⟨x0, x1, x2, x3⟩ := HXC.out W4 HB4.out
            have hlk4 : (out.take k).length ≤ 100000 := by rw [List.length_take]; omega
            have hz4 : w1.heap.size ≤ W4.heap.size := Nat.le_trans hz HB4.out.size
            clear hr4 ha4 hb4 hv4
            go_wp2_with (at_builtin; refine wpList_append_edge rfl _ _ rfl w1.heap.size _ (out.take k) rfl HR4.out x 1 rfl hlk4 hz4 ?_)
            intro v5 W5 hr5 ha5
            obtain ⟨hb5, hv5⟩ := appd_below (HBX4.out.alloc HBX4.out.size _) HV4.out ha5
            have HR5 := Lib.hid hr5
            have HB5 := Lib.hid (HBX.out.trans (hb5.mono HBX.out.size))
            have HBX5 := Lib.hid hb5
            have HV5 := Lib.hid hv5
            have hz5 : w1.heap.size ≤ W5.heap.size := Nat.le_trans hz HB5.out.size
            have hlk5 : (out.take k ++ [x]).length + (out.drop k).length ≤ 100000 := by rw [List.length_append, List.length_take, List.length_drop, List.length_singleton, HN0.out]; omega
            clear hr5 ha5 hb5 hv5 x0 x1 x2 x3
            have HDR : Hid (RdE W5 (.slice (some ⟨oe, oo + k * 4, none⟩) (n0 - k) (oc - k)) (out.drop k)) := Lib.hid (by
              have := HRD.out W5 HB5.out
              exact RdE.drop this (by rw [HN0.out]; exact hk) _)
            go_wp2_with (at_builtin; refine wpList_append_rdE rfl _ _ rfl w1.heap.size _ (out.take k ++ [x]) rfl HR5.out _ (out.drop k) rfl HDR.out hlk5 hz5 ?_)
            intro v6 W6 hr6 ha6
            obtain ⟨hb6, -⟩ := appd_below HBX5.out HV5.out ha6
            have HR6 : Hid (ownsEdges W6 w1.heap.size v6 (out.take k ++ x :: out.drop k)) := Lib.hid (by
              exact hr6)
            have HBWX := Lib.hid (HB.out.trans (HBX.out.mono hz))
            have HB6 := Lib.hid (HBWX.out.trans (hb6.mono HBWX.out.size))
            clear hr6 ha6 hb6
            go_wp2
            go_roundw
            case rel => exact ⟨i + 1, by omega, by go_num, out.take k ++ x :: out.drop k, HR6.out, HLAY.out, by rw [List.length_append, List.length_cons, List.length_take, List.length_drop, HN0.out]; omega, HB6.out⟩
            case measure => simp [intOf]; omega
        · obtain rfl : n0 = k := by omega
          have HLAY : Hid (Best b (r.take (i + 1)) (out.take n0 ++ x :: out.drop n0)) := Lib.hid (by
            rw [HTK.out]
            refine HBEST.out.lay HLOOP.out (by rw [HN0.out]; exact Nat.le_refl _) HLO.out (fun j o' hj ho' => ?_)
            have := lt_of_get ho'
            rw [HN0.out] at this
            omega)
          have hdd : decide ((n0 : Int) < (n0 : Int)) = false := decide_eq_false (by omega)
          have hdd' : decide (n0 < n0) = false := decide_eq_false (by omega)
          rcases Nat.eq_or_lt_of_le hoc1 with hcN | hcN
          case' inl => subst hcN
          all_goals
            go_wp2_with fail
            go_quiet (fail)
            have hb3 : Below W2.heap.size W2 (W2.drewN nq) := below_drewN (Below.refl _ _) _
            have HBX := Lib.hid (HB2.out.trans (hb3.mono HB2.out.size))
            clear hb3 hdd hdd'
            generalize W2.drewN nq = W3 at *
            have HNONE : Hid (ownsEdges (W3.alloc (.cells #[] 47)) w1.heap.size (.slice (some ⟨W3.heap.size, 0, none⟩) 0 0) []) := Lib.hid (ownsRow_base (ownsEdges_none W3) (Nat.le_trans hz HBX.out.size))
            have HTKX := Lib.hid ((HRD.out (W3.alloc (.cells #[] 47)) (HBX.out.alloc HBX.out.size _)).take (k := n0) (by rw [HN0.out]; exact hk))
            have hlk : ([] : List Edg).length + (out.take n0).length ≤ 100000 := by rw [List.length_take, List.length_nil]; omega
            have hzX : w1.heap.size ≤ (W3.alloc (.cells #[] 47)).heap.size := by have := HBX.out.size; simp; omega
            go_wp2_with (at_builtin; refine wpList_append_rdE rfl _ _ rfl w1.heap.size _ [] rfl HNONE.out _ (out.take n0) rfl HTKX.out hlk hzX ?_)
            intro v4 W4 hr4 ha4
            obtain ⟨hb4, hv4⟩ := appd_below ((Below.refl W3.heap.size W3).alloc (Nat.le_refl _) _) (fun y hy => by cases hy; exact Nat.le_refl _) ha4
            have HR4 : Hid (ownsEdges W4 w1.heap.size v4 (out.take n0)) := Lib.hid (by rw [← List.nil_append (out.take n0)]; exact hr4)
            have HB4 := Lib.hid (HBX.out.trans (hb4.mono HBX.out.size))
            have HBX4 := Lib.hid hb4
            have HV4 := Lib.hid hv4
            obtain ⟨x0, x1, x2, x3⟩ := HXC.out W4 HB4.out
            have hlk4 : (out.take n0).length ≤ 100000 := by rw [List.length_take]; omega
            have hz4 : w1.heap.size ≤ W4.heap.size := Nat.le_trans hz HB4.out.size
            clear hr4 ha4 hb4 hv4
            go_wp2_with (at_builtin; refine wpList_append_edge rfl _ _ rfl w1.heap.size _ (out.take n0) rfl HR4.out x 1 rfl hlk4 hz4 ?_)
            intro v5 W5 hr5 ha5
            obtain ⟨hb5, hv5⟩ := appd_below (HBX4.out.alloc HBX4.out.size _) HV4.out ha5
            have HR5 := Lib.hid hr5
            have HB5 := Lib.hid (HBX.out.trans (hb5.mono HBX.out.size))
            have HBX5 := Lib.hid hb5
            have HV5 := Lib.hid hv5
            have hz5 : w1.heap.size ≤ W5.heap.size := Nat.le_trans hz HB5.out.size
            have hlk5 : (out.take n0 ++ [x]).length + (out.drop n0).length ≤ 100000 := by rw [List.length_append, List.length_take, List.length_drop, List.length_singleton, HN0.out]; omega
            clear hr5 ha5 hb5 hv5 x0 x1 x2 x3
            have hdr : out.drop n0 = [] := List.drop_of_length_le (by rw [HN0.out]; exact Nat.le_refl _)
            have HDR := Lib.hid hdr
            have HLK5 := Lib.hid hlk5
            clear hdr hlk5
            go_wp2_with (at_builtin; refine wpList_append_rdE rfl _ _ rfl w1.heap.size _ (out.take n0 ++ [x]) rfl HR5.out _ (out.drop n0) rfl (by rw [HDR.out]; exact RdE.none) HLK5.out hz5 ?_)
            intro v6 W6 hr6 ha6
            obtain ⟨hb6, -⟩ := appd_below HBX5.out HV5.out ha6
            have HR6 : Hid (ownsEdges W6 w1.heap.size v6 (out.take n0 ++ x :: out.drop n0)) := Lib.hid (by
              exact hr6)
            have HBWX := Lib.hid (HB.out.trans (HBX.out.mono hz))
            have HB6 := Lib.hid (HBWX.out.trans (hb6.mono HBWX.out.size))
            clear hr6 ha6 hb6
            go_wp2
            go_roundw
            case rel => exact ⟨i + 1, by omega, by go_num, out.take n0 ++ x :: out.drop n0, HR6.out, HLAY.out, by rw [List.length_append, List.length_cons, List.length_take, List.length_drop, HN0.out]; omega, HB6.out⟩
            case measure => simp [intOf]; omega
    · obtain rfl : N = i := by omega
      go_wp2
      go_ret
      refine ⟨_, rfl, ?_, HB1.out.trans (HB.out.mono HB1.out.size)⟩
      have h := HBEST.out
      rw [HALL.out] at h
      rw [← HEND.out _ h]
      exact ownsRow_base HR.out HB1.out.size
end Go.Proofs.YtolieljpnafbhaaGreatDoor
