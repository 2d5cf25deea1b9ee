/-
  PrioVerts, PrioCuts and PrioBoth, walked: each returns true for any numbers.
-/
import Derived.Test.YtcegfmcbicpljaaLaws2
import Derived.IntWalk
namespace Go.Proofs.Ytcegfmcbicpljaa
open Go.RowKit

theorem verts_up (i o s l g n : Int) (hn : 0 ≤ n) : keyOf i o s l g ≤ keyOf i o s l (g + n) := by unfold keyOf; omega
theorem verts_same (i o s l g n : Int) : keyOf i o s (l + n) g = keyOf i o s l (g + n) := by unfold keyOf; omega
theorem verts_by (i o s l g n : Int) (hn : 0 ≤ n) (h : ¬ keyOf i o s l g = 0) : keyOf i o s l (g + n) = keyOf i o s l g + n := by unfold keyOf at *; omega

set_option maxHeartbeats 1000000 in
theorem verts_any (i o s r l g n : Int) (w : World) (hl : 0 ≤ l) (hl' : l ≤ 4294967295) (hg : 0 ≤ g) (hg' : g ≤ 4294967295) (hn : 0 ≤ n) (hn' : n ≤ 4294967295) :
    Calls Try.prog 5 #[.agg #[.int .i64 i, .int .i64 o, .int .i64 s], .agg #[.int .u32 r, .int .u32 l, .int .u32 g], .int .u32 n] w
      fun e w' => e = .returned (.bool true) ∧ Below w.heap.size w w' := by
  have k0 := key_le i o s l g hl' hg'
  have k1 := key_nn i o s l g
  go_enter Try.func5, Try.ntmps5
  go_wp2_with fail
  have hx := Bx.start i o s r l g w
  have hb : Below w.heap.size w ((w.alloc (.cells #[.int .i64 i, .int .i64 o, .int .i64 s] 23)).alloc (.cells #[.int .u32 r, .int .u32 l, .int .u32 g] 26)) := ((Below.refl _ _).alloc (Nat.le_refl _) _).alloc (by simp) _
  generalize hb0 : w.heap.size = b at *
  refine (key_any i o s r l g _ hl hl' hg hg').mono ?_
  rintro e w1 ⟨rfl, hb1⟩
  have hx1 := hx.step hb1
  have hB1 := below_key hb (by have := hx.s1; simp; omega) hb1
  clear hb1 hb hx
  obtain ⟨c0, c1, c2, d0, d1, d2, s0, s1⟩ := hx1
  have hx1 : Hid (Bx b i o s r l g w1) := Lib.hid ⟨c0, c1, c2, d0, d1, d2, s0, s1⟩
  have hB1 : Hid (Below b w w1) := Lib.hid hB1
  by_cases h1 : 4294967295 - n < g
  · go_wp2_with fail
    refine (works_any _).mono ?_
    rintro e w3 ⟨rfl, hb3⟩
    go_wp2_with fail
    go_ret
    subst hb0
    exact ⟨rfl, below_key ((hB1.out.alloc (by omega) _).alloc (by simp; omega) _) (by simp; omega) hb3⟩
  by_cases h2 : 4294967295 - n < l
  · have h1' : decide (4294967295 - n < g) = false := by simp; omega
    go_wp2_with fail
    refine (works_any _).mono ?_
    rintro e w3 ⟨rfl, hb3⟩
    go_wp2_with fail
    go_ret
    subst hb0
    exact ⟨rfl, below_key ((hB1.out.alloc (by omega) _).alloc (by simp; omega) _) (by simp; omega) hb3⟩
  have h1' : decide (4294967295 - n < g) = false := by simp; omega
  have h2' : decide (4294967295 - n < l) = false := by simp; omega
  have g1 : g + n ≤ 4294967295 := by omega
  have g2 : 0 ≤ g + n := by omega
  have l1 : l + n ≤ 4294967295 := by omega
  have l2 : 0 ≤ l + n := by omega
  go_wp2_with fail
  refine (key_any _ _ _ _ _ _ _ hl hl' (by omega) (by omega)).mono ?_
  rintro e w2 ⟨rfl, hb2⟩
  have e0 := hb2.cell (p := ⟨w1.heap.size + 1, 0, none⟩) (by simp)
  have e1 := hb2.cell (p := ⟨w1.heap.size + 1, 1, none⟩) (by simp)
  have e2 := hb2.cell (p := ⟨w1.heap.size + 1, 2, none⟩) (by simp)
  rw [World.cell?_alloc_at _ _ _ _ (by simp)] at e0 e1 e2
  simp at e0 e1 e2
  have hb2 := below_key (((Below.refl _ _).alloc (Nat.le_refl _) _).alloc (by simp) _) (by simp; omega) hb2
  have hx2 := hx1.out.step hb2
  have hB2 := below_key hB1.out (by omega) hb2
  clear hb2 c0 c1 c2 d0 d1 d2 s0 s1
  obtain ⟨c0, c1, c2, d0, d1, d2, s0, s1⟩ := hx2
  have hx2 : Hid (Bx b i o s r l g w2) := Lib.hid ⟨c0, c1, c2, d0, d1, d2, s0, s1⟩
  have hB2 : Hid (Below b w w2) := Lib.hid hB2
  go_wp2_with fail
  refine (key_any _ _ _ _ _ _ _ (by omega) (by omega) (by omega) (by omega)).mono ?_
  rintro e w3 ⟨rfl, hb3⟩
  have hB3 : Hid (Below b w w3) := Lib.hid (below_key hB2.out (by omega) hb3)
  clear hb3 c0 c1 c2 d0 d1 d2 e0 e1 e2 hx1 hx2 h1 h2 h1' h2' g1 g2 l1 l2
  have m1 := verts_up i o s l g n hn
  have m2 : Hid _ := Lib.hid (verts_by i o s l g n hn)
  rw [verts_same]
  have m3 : (keyOf i o s l (g + n) == keyOf i o s l (g + n)) = true := by simp
  generalize keyOf i o s l (g + n) = A at *
  generalize keyOf i o s l g = K at *
  have m1' : decide (K ≤ A) = true := by simpa using m1
  by_cases hz : K = 0
  · subst hz
    have hz' : ((0 : Int) == 0) = true := by simp
    go_wp2_with fail
    refine (works_any _).mono ?_
    rintro e w6 ⟨rfl, hb6⟩
    go_wp2_with fail
    go_ret
    subst hb0
    exact ⟨rfl, below_key hB3.out (by have := hB3.out.size; omega) hb6⟩
  · have hz' : (K == 0) = false := by simp [hz]
    obtain rfl := m2.out hz
    go_wp2_with fail
    refine (works_any _).mono ?_
    rintro e w6 ⟨rfl, hb6⟩
    go_wp2_with fail
    go_ret
    subst hb0
    exact ⟨rfl, below_key hB3.out (by have := hB3.out.size; omega) hb6⟩

/-! PrioCuts. -/

theorem cuts_key (i o s l g : Int) : keyOf (clamp 0 i 1073741824) (clamp 0 o 1073741824) (clamp 0 s 1073741824) l g = keyOf i o s l g := by
  have h : ∀ x, clamp 0 (clamp 0 x 1073741824) 1073741824 = clamp 0 x 1073741824 := fun x => by unfold clamp; omega
  unfold keyOf
  rw [h, h, h]

set_option maxHeartbeats 400000 in
theorem lcut_any (x : Int) (w : World) : Calls Try.prog 12 #[.int .i64 x] w fun e w' => e = .returned (.int .i64 (clamp 0 x 1073741824)) ∧ w' = w := by
  unfold clamp
  go_enter Try.func12, Try.ntmps12
  go_wp2
  all_goals
    go_ret
    exact ⟨ret_int (by omega), rfl⟩

set_option maxHeartbeats 1000000 in
theorem cuts_any (i o s r l g : Int) (w : World) (hl : 0 ≤ l) (hl' : l ≤ 4294967295) (hg : 0 ≤ g) (hg' : g ≤ 4294967295) :
    Calls Try.prog 6 #[.agg #[.int .i64 i, .int .i64 o, .int .i64 s], .agg #[.int .u32 r, .int .u32 l, .int .u32 g]] w
      fun e w' => e = .returned (.bool true) ∧ Below w.heap.size w w' := by
  go_enter Try.func6, Try.ntmps6
  go_wp2
  obtain ⟨w1, hw1⟩ : ∃ w1, w1 = (w.alloc (.cells #[.int .i64 i, .int .i64 o, .int .i64 s] 23)).alloc (.cells #[.int .u32 r, .int .u32 l, .int .u32 g] 26) := ⟨_, rfl⟩
  have hx : Bx w.heap.size i o s r l g w1 := by rw [hw1]; exact Bx.start i o s r l g w
  have hf : Hid (Below w.heap.size w w1) := by rw [hw1]; exact ((Below.refl _ _).alloc (Nat.le_refl _) _).alloc (by simp) _
  have hz1 : w1.heap.size = w.heap.size + 2 := by rw [hw1]; simp
  rw [← hw1]
  clear hw1
  have c0 : ∀ w', Below w1.heap.size w1 w' → w'.cell? ⟨w.heap.size, 0, none⟩ = some (.int .i64 i) := fun w' h => (hx.step h).c0
  have c1 : ∀ w', Below w1.heap.size w1 w' → w'.cell? ⟨w.heap.size, 1, none⟩ = some (.int .i64 o) := fun w' h => (hx.step h).c1
  have c2 : ∀ w', Below w1.heap.size w1 w' → w'.cell? ⟨w.heap.size, 2, none⟩ = some (.int .i64 s) := fun w' h => (hx.step h).c2
  have d0 : ∀ w', Below w1.heap.size w1 w' → w'.cell? ⟨w.heap.size + 1, 0, none⟩ = some (.int .u32 r) := fun w' h => (hx.step h).d0
  have d1 : ∀ w', Below w1.heap.size w1 w' → w'.cell? ⟨w.heap.size + 1, 1, none⟩ = some (.int .u32 l) := fun w' h => (hx.step h).d1
  have d2 : ∀ w', Below w1.heap.size w1 w' → w'.cell? ⟨w.heap.size + 1, 2, none⟩ = some (.int .u32 g) := fun w' h => (hx.step h).d2
  have hk : (keyOf i o s l g == keyOf (clamp 0 i 1073741824) (clamp 0 o 1073741824) (clamp 0 s 1073741824) l g) = true := by rw [cuts_key]; simp
  have hC0 : Below w1.heap.size w1 w1.drew := (Below.refl _ _).drew
  have Hz1 := Lib.hid hz1
  clear hx hz1
  refine wp_region_quiet_in (Below w1.heap.size w1) (by kernel_rfl) (by kernel_rfl) hC0 ?_
  iterate 7 (refine q_op rfl (fun w' hw' => (by go_simp; rfl)) (fun K hK => ?_); go_simp; refine hK _ ?_; clear hK K)
  refine q_call rfl (fun w' hw' => (by go_simp)) (fun w' hw' => ((key_any i o s r l g w' hl hl' hg hg').mono (fun e w'' h => ⟨h.1, hw'.trans (h.2.mono hw'.size)⟩))) (fun K hK => ?_); go_simp; refine hK _ ?_; clear hK K
  iterate 2 (refine q_op rfl (fun w' hw' => (by go_simp; rfl)) (fun K hK => ?_); go_simp; refine hK _ ?_; clear hK K)
  refine q_call rfl (fun w' hw' => (by go_simp)) (fun w' hw' => ((lcut_any i w').mono (fun e w'' h => ⟨h.1, by rw [h.2]; exact hw'⟩))) (fun K hK => ?_); go_simp; refine hK _ ?_; clear hK K
  iterate 2 (refine q_op rfl (fun w' hw' => (by go_simp; rfl)) (fun K hK => ?_); go_simp; refine hK _ ?_; clear hK K)
  refine q_call rfl (fun w' hw' => (by go_simp)) (fun w' hw' => ((lcut_any o w').mono (fun e w'' h => ⟨h.1, by rw [h.2]; exact hw'⟩))) (fun K hK => ?_); go_simp; refine hK _ ?_; clear hK K
  iterate 2 (refine q_op rfl (fun w' hw' => (by go_simp; rfl)) (fun K hK => ?_); go_simp; refine hK _ ?_; clear hK K)
  refine q_call rfl (fun w' hw' => (by go_simp)) (fun w' hw' => ((lcut_any s w').mono (fun e w'' h => ⟨h.1, by rw [h.2]; exact hw'⟩))) (fun K hK => ?_); go_simp; refine hK _ ?_; clear hK K
  refine q_op rfl (fun w' hw' => (by go_simp; rfl)) (fun K hK => ?_); go_simp; refine hK _ ?_; clear hK K
  refine q_call rfl (fun w' hw' => (by go_simp)) (fun w' hw' => ((key_any (clamp 0 i 1073741824) (clamp 0 o 1073741824) (clamp 0 s 1073741824) r l g w' hl hl' hg hg').mono (fun e w'' h => ⟨h.1, hw'.trans (h.2.mono hw'.size)⟩))) (fun K hK => ?_); go_simp; refine hK _ ?_; clear hK K
  iterate 2 (refine q_op rfl (fun w' hw' => (by go_simp; rfl)) (fun K hK => ?_); go_simp; refine hK _ ?_; clear hK K)
  refine q_call rfl (fun w' hw' => (by go_simp)) (fun w' hw' => ((works_any w').mono (fun e w'' h => ⟨h.1, hw'.trans (h.2.mono hw'.size)⟩))) (fun K hK => ?_); go_simp; refine hK _ ?_; clear hK K
  iterate 2 (refine q_op rfl (fun w' hw' => (by go_simp; rfl)) (fun K hK => ?_); go_simp; refine hK _ ?_; clear hK K)
  refine wpQuiet_nil ?_
  intro w' hw'
  go_wp2
  go_ret
  refine ⟨rfl, ?_⟩
  exact hf.out.trans (hw'.mono (by have := Hz1.out; omega))

/-! PrioBoth. -/

theorem both_swap (i o s l g : Int) : keyOf o i s l g = keyOf i o s l g := by unfold keyOf; omega
theorem both_move (a b s l g n : Int) (ha : 0 ≤ a) (ha' : a < 1048576) (hb : n ≤ b) (hb' : b < 1048576) (hn : 0 ≤ n) (hn' : n ≤ 65535) : keyOf (a + n) (b - n) s l g = keyOf a b s l g := by
  unfold keyOf clamp; omega
theorem tmod_bd (x : Int) : -1048576 < x.tmod 1048576 ∧ x.tmod 1048576 < 1048576 := by
  exact ⟨Int.lt_tmod_of_pos x (by decide), Int.tmod_lt_of_pos x (by decide)⟩

set_option maxHeartbeats 1000000 in
theorem both_any (i o s r l g n : Int) (w : World) (hl : 0 ≤ l) (hl' : l ≤ 4294967295) (hg : 0 ≤ g) (hg' : g ≤ 4294967295) (hn : 0 ≤ n) (hn' : n ≤ 65535) :
    Calls Try.prog 7 #[.agg #[.int .i64 i, .int .i64 o, .int .i64 s], .agg #[.int .u32 r, .int .u32 l, .int .u32 g], .int .u16 n] w
      fun e w' => e = .returned (.bool true) ∧ Below w.heap.size w w' := by
  go_enter Try.func7, Try.ntmps7
  go_wp2_with fail
  have hx := Bx.start i o s r l g w
  have hb : Below w.heap.size w ((w.alloc (.cells #[.int .i64 i, .int .i64 o, .int .i64 s] 23)).alloc (.cells #[.int .u32 r, .int .u32 l, .int .u32 g] 26)) := ((Below.refl _ _).alloc (Nat.le_refl _) _).alloc (by simp) _
  generalize hb0 : w.heap.size = b at *
  refine (key_any i o s r l g _ hl hl' hg hg').mono ?_
  rintro e w1 ⟨rfl, hb1⟩
  have hx1 := hx.step hb1
  have hB1 := below_key hb (by have := hx.s1; simp; omega) hb1
  clear hb1 hb hx
  obtain ⟨c0, c1, c2, d0, d1, d2, s0, s1⟩ := hx1
  have hx1 : Hid (Bx b i o s r l g w1) := Lib.hid ⟨c0, c1, c2, d0, d1, d2, s0, s1⟩
  have hB1 : Hid (Below b w w1) := Lib.hid hB1
  go_wp2_with fail
  refine (key_any o i s r l g _ hl hl' hg hg').mono ?_
  rintro e w2 ⟨rfl, hb2⟩
  have hx2 := hx1.out.step hb2
  have hB2 := below_key hB1.out (by omega) hb2
  clear hb2 c0 c1 c2 d0 d1 d2 s0 s1
  obtain ⟨c0, c1, c2, d0, d1, d2, s0, s1⟩ := hx2
  have hx2 : Hid (Bx b i o s r l g w2) := Lib.hid ⟨c0, c1, c2, d0, d1, d2, s0, s1⟩
  have hB2 : Hid (Below b w w2) := Lib.hid hB2
  rw [both_swap]
  have hk : (keyOf i o s l g != keyOf i o s l g) = false := by simp
  obtain ⟨a1, a2⟩ := tmod_bd i
  obtain ⟨b1, b2⟩ := tmod_bd o
  by_cases h1 : i.tmod 1048576 < 0
  · go_wp2_with fail
    refine (works_any _).mono ?_
    rintro e w3 ⟨rfl, hb3⟩
    go_wp2_with fail
    go_ret
    subst hb0
    exact ⟨rfl, below_key hB2.out (by omega) hb3⟩
  have h1' : decide (i.tmod 1048576 < 0) = false := by simp; omega
  have h1'' : 0 ≤ i.tmod 1048576 := by omega
  clear h1
  by_cases h2 : o.tmod 1048576 < n
  · go_wp2_with fail
    refine (works_any _).mono ?_
    rintro e w3 ⟨rfl, hb3⟩
    go_wp2_with fail
    go_ret
    subst hb0
    exact ⟨rfl, below_key hB2.out (by omega) hb3⟩
  have h2' : decide (o.tmod 1048576 < n) = false := by simp; omega
  have h2'' : n ≤ o.tmod 1048576 := by omega
  clear h2
  go_wp2
  have hm := both_move (i.tmod 1048576) (o.tmod 1048576) s l g n h1'' a2 h2'' b2 hn hn'
  have hk2 : (keyOf (i.tmod 1048576) (o.tmod 1048576) s l g == keyOf (i.tmod 1048576 + n) (o.tmod 1048576 - n) s l g) = true := by rw [hm]; simp
  clear hm hk h1' h2' c0 c1 c2 d0 d1 d2
  have hx := hx2.out
  have c2 : ∀ w', Below w2.heap.size w2 w' → w'.cell? ⟨b, 2, none⟩ = some (.int .i64 s) := fun w' h => (hx.step h).c2
  have d0 : ∀ w', Below w2.heap.size w2 w' → w'.cell? ⟨b + 1, 0, none⟩ = some (.int .u32 r) := fun w' h => (hx.step h).d0
  have d1 : ∀ w', Below w2.heap.size w2 w' → w'.cell? ⟨b + 1, 1, none⟩ = some (.int .u32 l) := fun w' h => (hx.step h).d1
  have d2 : ∀ w', Below w2.heap.size w2 w' → w'.cell? ⟨b + 1, 2, none⟩ = some (.int .u32 g) := fun w' h => (hx.step h).d2
  have hC0 : Below w2.heap.size w2 w2.drew := (Below.refl _ _).drew
  have z1 : IntKind.i64.wrap n = n := IntWalk.i64_in _ ⟨by omega, by omega⟩
  have z2 : IntKind.i64.wrap (i.tmod 1048576 + n) = i.tmod 1048576 + n := IntWalk.i64_in _ ⟨by omega, by omega⟩
  have z3 : IntKind.i64.wrap (o.tmod 1048576 - n) = o.tmod 1048576 - n := IntWalk.i64_in _ ⟨by omega, by omega⟩
  clear hx hx1 hx2
  refine wp_region_quiet_in (Below w2.heap.size w2) (by kernel_rfl) (by kernel_rfl) hC0 ?_
  iterate 5 (refine q_op rfl (fun w' hw' => (by go_simp; rfl)) (fun K hK => ?_); go_simp; refine hK _ ?_; clear hK K)
  refine q_call rfl (fun w' hw' => (by go_simp)) (fun w' hw' => ((key_any (i.tmod 1048576) (o.tmod 1048576) s r l g w' hl hl' hg hg').mono (fun e w'' h => ⟨h.1, hw'.trans (h.2.mono hw'.size)⟩))) (fun K hK => ?_); go_simp; refine hK _ ?_; clear hK K
  iterate 11 (refine q_op rfl (fun w' hw' => (by go_simp; rfl)) (fun K hK => ?_); go_simp; refine hK _ ?_; clear hK K)
  refine q_call rfl (fun w' hw' => (by go_simp)) (fun w' hw' => ((key_any (i.tmod 1048576 + n) (o.tmod 1048576 - n) s r l g w' hl hl' hg hg').mono (fun e w'' h => ⟨h.1, hw'.trans (h.2.mono hw'.size)⟩))) (fun K hK => ?_); go_simp; refine hK _ ?_; clear hK K
  iterate 2 (refine q_op rfl (fun w' hw' => (by go_simp; rfl)) (fun K hK => ?_); go_simp; refine hK _ ?_; clear hK K)
  refine q_call rfl (fun w' hw' => (by go_simp)) (fun w' hw' => ((works_any w').mono (fun e w'' h => ⟨h.1, hw'.trans (h.2.mono hw'.size)⟩))) (fun K hK => ?_); go_simp; refine hK _ ?_; clear hK K
  iterate 2 (refine q_op rfl (fun w' hw' => (by go_simp; rfl)) (fun K hK => ?_); go_simp; refine hK _ ?_; clear hK K)
  refine wpQuiet_nil ?_
  intro w' hw'
  go_wp2
  go_ret
  refine ⟨rfl, ?_⟩
  subst hb0
  exact hB2.out.trans (hw'.mono (by omega))

end Go.Proofs.Ytcegfmcbicpljaa
