/-
  The five laws of prio, walked: each returns true for any numbers, and leaves what was there as it was.
-/
import Derived.Test.YtcegfmcbicpljaaKey
namespace Go.Proofs.Ytcegfmcbicpljaa
open Go.RowKit

theorem below_key {B : Nat} {w0 w w' : World} (h : Below B w0 w) (hB : B ≤ w.heap.size) (h' : Below w.heap.size w w') : Below B w0 w' := h.trans (h'.mono hB)

set_option maxHeartbeats 400000 in
theorem works_any (w : World) : Calls Try.prog 10 #[] w fun e w' => e = .returned (.bool true) ∧ Below w.heap.size w w' := by
  have k1 : (keyOf 0 0 0 0 0 == 1048576) = true := by decide
  have k2 : (keyOf 3 2 4 5 1 == 1048585) = true := by decide
  go_enter Try.func10, Try.ntmps10
  go_wp2_with fail
  refine (key_any 0 0 0 0 0 0 _ (by omega) (by omega) (by omega) (by omega)).mono ?_
  rintro e w1 ⟨rfl, hb1⟩
  go_wp2_with fail
  refine (key_any 3 2 4 0 5 1 _ (by omega) (by omega) (by omega) (by omega)).mono ?_
  rintro e w2 ⟨rfl, hb2⟩
  go_wp2_with fail
  go_ret
  exact ⟨rfl, below_key hb1 hb1.size hb2⟩

set_option maxHeartbeats 400000 in
theorem keys_any (i o s r l g : Int) (w : World) (hl : 0 ≤ l) (hl' : l ≤ 4294967295) (hg : 0 ≤ g) (hg' : g ≤ 4294967295) :
    Calls Try.prog 3 #[.agg #[.int .i64 i, .int .i64 o, .int .i64 s], .agg #[.int .u32 r, .int .u32 l, .int .u32 g]] w
      fun e w' => e = .returned (.bool true) ∧ Below w.heap.size w w' := by
  go_enter Try.func3, Try.ntmps3
  go_wp2
  obtain ⟨w1, hw1⟩ : ∃ w1, w1 = (w.alloc (.cells #[.int .i64 i, .int .i64 o, .int .i64 s] 23)).alloc (.cells #[.int .u32 r, .int .u32 l, .int .u32 g] 26) := ⟨_, rfl⟩
  have hC0 : Below (w.heap.size + 2) w1 w1.drew := (Below.refl _ _).drew
  have c0 : ∀ w', Below (w.heap.size + 2) w1 w' → w'.cell? ⟨w.heap.size, 0, none⟩ = some (.int .i64 i) := fun w' h => by rw [h.cell (by simp), hw1]; go_simp
  have c1 : ∀ w', Below (w.heap.size + 2) w1 w' → w'.cell? ⟨w.heap.size, 1, none⟩ = some (.int .i64 o) := fun w' h => by rw [h.cell (by simp), hw1]; go_simp
  have c2 : ∀ w', Below (w.heap.size + 2) w1 w' → w'.cell? ⟨w.heap.size, 2, none⟩ = some (.int .i64 s) := fun w' h => by rw [h.cell (by simp), hw1]; go_simp
  have d0 : ∀ w', Below (w.heap.size + 2) w1 w' → w'.cell? ⟨w.heap.size + 1, 0, none⟩ = some (.int .u32 r) := fun w' h => by rw [h.cell (by simp), hw1]; go_simp
  have d1 : ∀ w', Below (w.heap.size + 2) w1 w' → w'.cell? ⟨w.heap.size + 1, 1, none⟩ = some (.int .u32 l) := fun w' h => by rw [h.cell (by simp), hw1]; go_simp
  have d2 : ∀ w', Below (w.heap.size + 2) w1 w' → w'.cell? ⟨w.heap.size + 1, 2, none⟩ = some (.int .u32 g) := fun w' h => by rw [h.cell (by simp), hw1]; go_simp
  have hs : ∀ w', Below (w.heap.size + 2) w1 w' → w.heap.size + 2 ≤ w'.heap.size := fun w' h => by have := h.size; rw [hw1] at this; simpa using this
  have hf : Hid (Below w.heap.size w w1) := by rw [hw1]; exact ((Below.refl _ _).alloc (Nat.le_refl _) _).alloc (by simp) _
  rw [← hw1]
  clear hw1
  refine wp_region_quiet_in (Below (w.heap.size + 2) w1) (by kernel_rfl) (by kernel_rfl) hC0 ?_
  have hk : (keyOf i o s l g == keyOf i o s l g) = true := by simp
  iterate 7 (refine q_op rfl (fun w' hw' => (by go_simp; rfl)) (fun K hK => ?_); go_simp; refine hK _ ?_; clear hK K)
  refine q_call rfl (fun w' hw' => (by go_simp)) (fun w' hw' => ((key_any i o s r l g w' hl hl' hg hg').mono (fun e w'' h => ⟨h.1, hw'.trans (h.2.mono (hs w' hw'))⟩))) (fun K hK => ?_); go_simp; refine hK _ ?_; clear hK K
  iterate 7 (refine q_op rfl (fun w' hw' => (by go_simp; rfl)) (fun K hK => ?_); go_simp; refine hK _ ?_; clear hK K)
  refine q_call rfl (fun w' hw' => (by go_simp)) (fun w' hw' => ((rkey_any i o s r l g w' hl hl' hg hg').mono (fun e w'' h => ⟨h.1, hw'.trans (h.2.mono (hs w' hw'))⟩))) (fun K hK => ?_); go_simp; refine hK _ ?_; clear hK K
  iterate 2 (refine q_op rfl (fun w' hw' => (by go_simp; rfl)) (fun K hK => ?_); go_simp; refine hK _ ?_; clear hK K)
  refine q_call rfl (fun w' hw' => (by go_simp)) (fun w' hw' => ((works_any w').mono (fun e w'' h => ⟨h.1, hw'.trans (h.2.mono (hs w' hw'))⟩))) (fun K hK => ?_); go_simp; refine hK _ ?_; clear hK K
  iterate 2 (refine q_op rfl (fun w' hw' => (by go_simp; rfl)) (fun K hK => ?_); go_simp; refine hK _ ?_; clear hK K)
  refine wpQuiet_nil ?_
  intro w' hw'
  go_wp2
  go_ret
  refine ⟨rfl, ?_⟩
  exact hf.out.trans (hw'.mono (by omega))

end Go.Proofs.Ytcegfmcbicpljaa
