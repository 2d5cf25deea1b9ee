/-
  PrioSteps, walked: it returns true for any numbers.
-/
import Derived.Test.YtcegfmcbicpljaaLaws
import Derived.Lib.Hide
namespace Go.Proofs.Ytcegfmcbicpljaa
open Go.RowKit

/-- Both arguments in their boxes. -/
structure Bx (b : Nat) (i o s r l g : Int) (w : World) : Prop where
  c0 : w.cell? ⟨b, 0, none⟩ = some (.int .i64 i)
  c1 : w.cell? ⟨b, 1, none⟩ = some (.int .i64 o)
  c2 : w.cell? ⟨b, 2, none⟩ = some (.int .i64 s)
  d0 : w.cell? ⟨b + 1, 0, none⟩ = some (.int .u32 r)
  d1 : w.cell? ⟨b + 1, 1, none⟩ = some (.int .u32 l)
  d2 : w.cell? ⟨b + 1, 2, none⟩ = some (.int .u32 g)
  s0 : b < w.heap.size
  s1 : b + 1 < w.heap.size

theorem Bx.step {b : Nat} {i o s r l g : Int} {w w' : World} (h : Bx b i o s r l g w) (hb : Below w.heap.size w w') : Bx b i o s r l g w' :=
  have := h.s0
  have := h.s1
  ⟨by rw [hb.cell (by simp; omega)]; exact h.c0, by rw [hb.cell (by simp; omega)]; exact h.c1, by rw [hb.cell (by simp; omega)]; exact h.c2, by rw [hb.cell (by simp; omega)]; exact h.d0, by rw [hb.cell (by simp; omega)]; exact h.d1, by rw [hb.cell (by simp; omega)]; exact h.d2, by have := hb.size; omega, by have := hb.size; omega⟩

theorem Bx.start (i o s r l g : Int) (w : World) : Bx w.heap.size i o s r l g ((w.alloc (.cells #[.int .i64 i, .int .i64 o, .int .i64 s] 23)).alloc (.cells #[.int .u32 r, .int .u32 l, .int .u32 g] 26)) :=
  ⟨by go_simp, by go_simp, by go_simp, by go_simp, by go_simp, by go_simp, by simp; omega, by simp⟩

theorem key_le (i o s l g : Int) (hl' : l ≤ 4294967295) (hg' : g ≤ 4294967295) : keyOf i o s l g ≤ 1099511627776 := by
  have := clamp_bd i; have := clamp_bd o; have := clamp_bd s
  unfold keyOf; omega
theorem key_nn (i o s l g : Int) : 0 ≤ keyOf i o s l g := by unfold keyOf; omega

set_option maxHeartbeats 400000 in
theorem within_yes (n : Int) (w : World) (h : 0 ≤ n) (h' : n < 1073741824) : Calls Try.prog 11 #[.int .i64 n] w fun e w' => e = .returned (.bool true) ∧ w = w' := by
  go_enter Try.func11, Try.ntmps11
  go_wp2
  go_ret
  exact ⟨rfl, rfl⟩

set_option maxHeartbeats 400000 in
theorem within_no (n : Int) (w : World) (h : n < 0 ∨ 1073741824 ≤ n) : Calls Try.prog 11 #[.int .i64 n] w fun e w' => e = .returned (.bool false) ∧ w = w' := by
  rcases h with h | h
  · go_enter Try.func11, Try.ntmps11
    go_wp2
    go_ret
    exact ⟨rfl, rfl⟩
  · have h0 : 0 ≤ n := by omega
    have h1 : decide (n < 1073741824) = false := by simp; omega
    go_enter Try.func11, Try.ntmps11
    go_wp2
    go_ret
    exact ⟨rfl, rfl⟩

theorem steps_more (i o s l g : Int) (hs : 0 ≤ s) (hs' : s < 1073741824) : keyOf i o s l g ≤ keyOf i o (s + 1) l g := by
  unfold keyOf clamp; omega
theorem steps_ins (i o s l g : Int) (hs : 0 ≤ i) (hs' : i < 1073741824) : keyOf (i + 1) o s l g ≤ keyOf i o s l g := by
  unfold keyOf clamp; omega
theorem steps_same (i o s l g : Int) (hi : 0 ≤ i) (hi' : i < 1073741824) (ho : 0 ≤ o) (ho' : o < 1073741824) : keyOf i (o + 1) s l g = keyOf (i + 1) o s l g := by
  unfold keyOf clamp; omega
theorem steps_pos (i o s l g : Int) (hi : 0 ≤ i) (hi' : i < 1073741824) (hs : 0 ≤ s) (hs' : s < 1073741824) (h : ¬ keyOf (i + 1) o s l g = 0) :
    keyOf i o (s + 1) l g = keyOf i o s l g + 2 ∧ keyOf (i + 1) o s l g = keyOf i o s l g - 1 := by
  unfold keyOf clamp at *; omega

set_option maxHeartbeats 1000000 in
theorem steps_any (i o s r l g : Int) (w : World) (hl : 0 ≤ l) (hl' : l ≤ 4294967295) (hg : 0 ≤ g) (hg' : g ≤ 4294967295) :
    Calls Try.prog 4 #[.agg #[.int .i64 i, .int .i64 o, .int .i64 s], .agg #[.int .u32 r, .int .u32 l, .int .u32 g]] w
      fun e w' => e = .returned (.bool true) ∧ Below w.heap.size w w' := by
  have k0 := key_le i o s l g hl' hg'
  have hk : (keyOf i o s l g != keyOf i o s l g) = false := by simp
  go_enter Try.func4, Try.ntmps4
  go_wp2_with fail
  have hx := Bx.start i o s r l g w
  have hb : Below w.heap.size w ((w.alloc (.cells #[.int .i64 i, .int .i64 o, .int .i64 s] 23)).alloc (.cells #[.int .u32 r, .int .u32 l, .int .u32 g] 26)) := ((Below.refl _ _).alloc (Nat.le_refl _) _).alloc (by simp) _
  generalize hb0 : w.heap.size = b at *
  refine (key_any i o s r l g _ hl hl' hg hg').mono ?_
  rintro e w1 ⟨rfl, hb1⟩
  have hx1 := hx.step hb1
  have hB1 := below_key hb (by have := hx.s1; simp; omega) hb1
  clear hb1 hb hx
  obtain ⟨c0, c1, c2, d0, d1, d2, s0, s1⟩ := hx1
  have hx1 : Hid (Bx b i o s r l g w1) := Lib.hid ⟨c0, c1, c2, d0, d1, d2, s0, s1⟩
  have hB1 : Hid (Below b w w1) := Lib.hid hB1
  go_wp2_with fail
  refine (key_any _ _ _ _ _ _ _ hl hl' hg hg').mono ?_
  rintro e w2 ⟨rfl, hb2⟩
  have hb2 := below_key ((Below.refl _ _).alloc (Nat.le_refl _) _) (by simp) hb2
  have hx2 := hx1.out.step hb2
  have hB2 := below_key hB1.out (by omega) hb2
  clear hb2 c0 c1 c2 d0 d1 d2 s0 s1
  obtain ⟨c0, c1, c2, d0, d1, d2, s0, s1⟩ := hx2
  have hx2 : Hid (Bx b i o s r l g w2) := Lib.hid ⟨c0, c1, c2, d0, d1, d2, s0, s1⟩
  have hB2 : Hid (Below b w w2) := Lib.hid hB2
  by_cases hi : 0 ≤ i ∧ i < 1073741824
  rotate_left
  · go_wp2_with fail
    refine (within_no _ _ (by omega)).mono ?_
    rintro e w' ⟨rfl, rfl⟩
    go_wp2_with fail
    refine (works_any _).mono ?_
    rintro e w3 ⟨rfl, hb3⟩
    go_wp2_with fail
    go_ret
    subst hb0
    exact ⟨rfl, below_key hB2.out (by omega) hb3⟩
  by_cases ho : 0 ≤ o ∧ o < 1073741824
  rotate_left
  · go_wp2_with fail
    refine (within_yes _ _ (by omega) (by omega)).mono ?_
    rintro e w' ⟨rfl, rfl⟩
    go_wp2_with fail
    refine (within_no _ _ (by omega)).mono ?_
    rintro e w' ⟨rfl, rfl⟩
    go_wp2_with fail
    refine (works_any _).mono ?_
    rintro e w3 ⟨rfl, hb3⟩
    go_wp2_with fail
    go_ret
    subst hb0
    exact ⟨rfl, below_key hB2.out (by omega) hb3⟩
  by_cases hs : 0 ≤ s ∧ s < 1073741824
  rotate_left
  · go_wp2_with fail
    refine (within_yes _ _ (by omega) (by omega)).mono ?_
    rintro e w' ⟨rfl, rfl⟩
    go_wp2_with fail
    refine (within_yes _ _ (by omega) (by omega)).mono ?_
    rintro e w' ⟨rfl, rfl⟩
    go_wp2_with fail
    refine (within_no _ _ (by omega)).mono ?_
    rintro e w' ⟨rfl, rfl⟩
    go_wp2_with fail
    refine (works_any _).mono ?_
    rintro e w3 ⟨rfl, hb3⟩
    go_wp2_with fail
    go_ret
    subst hb0
    exact ⟨rfl, below_key hB2.out (by omega) hb3⟩
  go_wp2_with fail
  refine (within_yes _ _ (by omega) (by omega)).mono ?_
  rintro e w' ⟨rfl, rfl⟩
  go_wp2_with fail
  refine (within_yes _ _ (by omega) (by omega)).mono ?_
  rintro e w' ⟨rfl, rfl⟩
  go_wp2_with fail
  refine (within_yes _ _ (by omega) (by omega)).mono ?_
  rintro e w' ⟨rfl, rfl⟩
  have m1 := steps_more i o s l g (by omega) (by omega)
  have m2 := steps_ins i o s l g (by omega) (by omega)
  have m3 : Hid _ := Lib.hid (steps_same i o s l g (by omega) (by omega) (by omega) (by omega))
  have m4 : Hid _ := Lib.hid (steps_pos i o s l g (by omega) (by omega) (by omega) (by omega))
  have n2 := key_nn (i + 1) o s l g
  go_wp2_with fail
  refine (key_any _ _ _ _ _ _ _ hl hl' hg hg').mono ?_
  rintro e w3 ⟨rfl, hb3⟩
  have hx3 := hx2.out.step hb3
  have hB3 := below_key hB2.out (by omega) hb3
  clear hb3 c0 c1 c2 d0 d1 d2 s0 s1
  obtain ⟨c0, c1, c2, d0, d1, d2, s0, s1⟩ := hx3
  have hx3 : Hid (Bx b i o s r l g w3) := Lib.hid ⟨c0, c1, c2, d0, d1, d2, s0, s1⟩
  have hB3 : Hid (Below b w w3) := Lib.hid hB3
  go_wp2_with fail
  refine (key_any _ _ _ _ _ _ _ hl hl' hg hg').mono ?_
  rintro e w4 ⟨rfl, hb4⟩
  have hx4 := hx3.out.step hb4
  have hB4 := below_key hB3.out (by omega) hb4
  clear hb4 c0 c1 c2 d0 d1 d2 s0 s1
  obtain ⟨c0, c1, c2, d0, d1, d2, s0, s1⟩ := hx4
  have hx4 : Hid (Bx b i o s r l g w4) := Lib.hid ⟨c0, c1, c2, d0, d1, d2, s0, s1⟩
  have hB4 : Hid (Below b w w4) := Lib.hid hB4
  go_wp2_with fail
  refine (key_any _ _ _ _ _ _ _ hl hl' hg hg').mono ?_
  rintro e w5 ⟨rfl, hb5⟩
  have hB5 := below_key hB4.out (by omega) hb5
  clear hb5 c0 c1 c2 d0 d1 d2
  have hB5 : Hid (Below b w w5) := Lib.hid hB5
  rw [m3.out]
  have m5 : (keyOf (i + 1) o s l g != keyOf (i + 1) o s l g) = false := by simp
  generalize keyOf (i + 1) o s l g = A at *
  generalize keyOf i o (s + 1) l g = B at *
  generalize keyOf i o s l g = K at *
  clear hx1 hx2 hx3 hx4 hB1 hB2 hB3 hB4
  by_cases hz : A = 0
  · subst hz
    have hz' : ((0 : Int) == 0) = true := by simp
    go_wp2_with fail
    refine (works_any _).mono ?_
    rintro e w6 ⟨rfl, hb6⟩
    go_wp2_with fail
    go_ret
    subst hb0
    exact ⟨rfl, below_key hB5.out (by have := hB5.out.size; omega) hb6⟩
  · have hz' : (A == 0) = false := by simp [hz]
    obtain ⟨rfl, rfl⟩ := m4.out hz
    have p1 : (K + 2 == K + 2) = true := by simp
    have p2 : (K - 1 == K - 1) = true := by simp
    go_wp2_with fail
    refine (works_any _).mono ?_
    rintro e w6 ⟨rfl, hb6⟩
    go_wp2_with fail
    go_ret
    subst hb0
    exact ⟨rfl, below_key hB5.out (by have := hB5.out.size; omega) hb6⟩

end Go.Proofs.Ytcegfmcbicpljaa
