/-
  What prio.Key and milepostref15.Key compute, for any numbers.
-/
import Derived.Test.YtcegfmcbicpljaaRows
import Derived.WalkKit
import Derived.WalkSpells
import Derived.WalkLawsBesides
import Derived.Test.YtcegfmcbicpljaaQTail
import Derived.Deep.QuietTactic
import Derived.BigQuiet
namespace Go.Proofs.Ytcegfmcbicpljaa
open Go.RowKit

theorem ret_int {k : IntKind} {a b : Int} (h : a = b) : Ending.returned (.int k a) = .returned (.int k b) := by rw [h]

def clamp (lo x hi : Int) : Int := min (max lo x) hi
theorem clamp_lo (lo x hi : Int) (h : lo ≤ hi) : lo ≤ clamp lo x hi := by unfold clamp; omega
theorem clamp_hi (lo x hi : Int) : clamp lo x hi ≤ hi := by unfold clamp; omega

set_option maxHeartbeats 400000 in
theorem cut_any (lo x hi : Int) (w : World) :
    Calls Try.prog 14 #[.int .i64 lo, .int .i64 x, .int .i64 hi] w fun e w' => e = .returned (.int .i64 (clamp lo x hi)) ∧ w' = w := by
  unfold clamp
  go_enter Try.func14, Try.ntmps14
  go_wp2
  all_goals
    go_ret
    exact ⟨ret_int (by omega), rfl⟩

/-- What prio.Key computes. -/
def keyOf (i o s l g : Int) : Int := max 0 (1048576 + 2 * clamp 0 s 1073741824 + g + l - clamp 0 i 1073741824 - clamp 0 o 1073741824)

set_option maxHeartbeats 400000 in
theorem sum_any (b : Nat) (x0 x1 x2 x3 x4 x5 : Int) (w : World) 
   (h0 : w.cell? ⟨b, 0, none⟩ = some (.int .i64 x0)) (h1 : w.cell? ⟨b, 1, none⟩ = some (.int .i64 x1)) (h2 : w.cell? ⟨b, 2, none⟩ = some (.int .i64 x2))
   (h3 : w.cell? ⟨b, 3, none⟩ = some (.int .i64 x3)) (h4 : w.cell? ⟨b, 4, none⟩ = some (.int .i64 x4)) (h5 : w.cell? ⟨b, 5, none⟩ = some (.int .i64 x5))
   (b0 : 0 ≤ x0 ∧ x0 ≤ 4294967296) (b1 : 0 ≤ x1 ∧ x1 ≤ 4294967296) (b2 : 0 ≤ x2 ∧ x2 ≤ 4294967296) (b3 : 0 ≤ x3 ∧ x3 ≤ 4294967296) (b4 : -4294967296 ≤ x4 ∧ x4 ≤ 4294967296) (b5 : -4294967296 ≤ x5 ∧ x5 ≤ 4294967296) :
    Calls Try.prog 13 #[.slice (some ⟨b, 0, none⟩) 6 6] w fun e w' => e = .returned (.int .i64 (x0 + x1 + x2 + x3 + x4 + x5)) ∧ w' = w := by
  obtain ⟨b0, b0'⟩ := b0
  obtain ⟨b1, b1'⟩ := b1
  obtain ⟨b2, b2'⟩ := b2
  obtain ⟨b3, b3'⟩ := b3
  obtain ⟨b4, b4'⟩ := b4
  obtain ⟨b5, b5'⟩ := b5
  go_enter Try.func13, Try.ntmps13
  go_wp2
  refine wp_loop_rounds 7 ?_
  iterate 7 (rw [rounds_succ]; go_wp2)
  go_ret
  exact ⟨rfl, rfl⟩

theorem clamp_bd (x : Int) : 0 ≤ clamp 0 x 1073741824 ∧ clamp 0 x 1073741824 ≤ 1073741824 := ⟨clamp_lo _ _ _ (by decide), clamp_hi _ _ _⟩

set_option maxHeartbeats 400000 in
theorem key_any (i o s r l g : Int) (w : World) (hl : 0 ≤ l) (hl' : l ≤ 4294967295) (hg : 0 ≤ g) (hg' : g ≤ 4294967295) :
    Calls Try.prog 8 #[.int .i64 i, .int .i64 o, .int .i64 s, .agg #[.int .u32 r, .int .u32 l, .int .u32 g]] w
      fun e w' => e = .returned (.int .u64 (keyOf i o s l g)) ∧ Below w.heap.size w w' := by
  obtain ⟨i0, i1⟩ := clamp_bd i
  obtain ⟨o0, o1⟩ := clamp_bd o
  obtain ⟨s0, s1⟩ := clamp_bd s
  go_enter Try.func8, Try.ntmps8
  go_wp2
  refine wp_region_quiet_tail (fun w' => ∃ n, w' = (w.alloc (.cells #[.int .u32 r, .int .u32 l, .int .u32 g] 26)).drewN n) 15 (by kernel_rfl) (by kernel_rfl) ⟨1, rfl⟩ ?_
  simp only [List.take_succ_cons, List.take_zero, List.drop_succ_cons, List.drop_zero]
  repeat go_big_quiet_step ((go_at_call 14; exact Calls.quiet_of_same (cut_any _ _ _ _)))
  refine wpQuiet_nil ?_
  rintro _ ⟨nq, rfl⟩
  go_wp2_with fail
  refine (sum_any _ 1048576 (2 * clamp 0 s 1073741824) g l (-clamp 0 i 1073741824) (-clamp 0 o 1073741824) _ (by go_simp) (by go_simp) (by go_simp) (by go_simp) (by go_simp) (by go_simp) ⟨by omega, by omega⟩ ⟨by omega, by omega⟩ ⟨by omega, by omega⟩ ⟨by omega, by omega⟩ ⟨by omega, by omega⟩ ⟨by omega, by omega⟩).mono ?_
  rintro e w' ⟨rfl, rfl⟩
  go_wp2
  all_goals
    go_ret
    refine ⟨?_, ?_⟩
    · exact ret_int (by unfold keyOf; omega)
    · exact (below_drewN ((Below.refl _ _).alloc (Nat.le_refl _) _) _).alloc (by simp [World.drewN]) _

/-! The document's answer. -/

set_option maxHeartbeats 400000 in
theorem rcut_any (x : Int) (w : World) : Calls Try.prog 15 #[.int .i64 x] w fun e w' => e = .returned (.int .i64 (clamp 0 x 1073741824)) ∧ w' = w := by
  unfold clamp
  by_cases h0 : x < 0
  · go_enter Try.func15, Try.ntmps15
    go_wp2
    go_ret
    exact ⟨ret_int (by omega), rfl⟩
  · by_cases h1 : 1073741824 < x
    · go_enter Try.func15, Try.ntmps15
      go_wp2
      go_ret
      exact ⟨ret_int (by omega), rfl⟩
    · go_enter Try.func15, Try.ntmps15
      go_wp2
      go_ret
      exact ⟨ret_int (by omega), rfl⟩

set_option maxHeartbeats 400000 in
theorem rkey_any (i o s r l g : Int) (w : World) (hl : 0 ≤ l) (hl' : l ≤ 4294967295) (hg : 0 ≤ g) (hg' : g ≤ 4294967295) :
    Calls Try.prog 9 #[.int .i64 i, .int .i64 o, .int .i64 s, .agg #[.int .u32 r, .int .u32 l, .int .u32 g]] w
      fun e w' => e = .returned (.int .u64 (keyOf i o s l g)) ∧ Below w.heap.size w w' := by
  obtain ⟨i0, i1⟩ := clamp_bd i
  obtain ⟨o0, o1⟩ := clamp_bd o
  obtain ⟨s0, s1⟩ := clamp_bd s
  go_enter Try.func9, Try.ntmps9
  go_wp2
  go_quiet ((go_at_call 15; exact Calls.quiet_of_same (rcut_any _ _)))
  go_wp2
  all_goals
    go_ret
    refine ⟨?_, ?_⟩
    · exact ret_int (by unfold keyOf; omega)
    · exact below_drewN ((Below.refl _ _).alloc (Nat.le_refl _) _) _

end Go.Proofs.Ytcegfmcbicpljaa
