/-
  PrioCuts: numbers below 0 count as 0, those above 2^30 as 2^30. No condition.
-/
import Derived.Test.YtcegfmcbicpljaaLift
namespace Go.Proofs.Ytcegfmcbicpljaa
open Go.ChangeShapes Go.WideShapes Go.ChangeAt Go.RowKit Go.Joins

set_option maxRecDepth 100000 in
theorem cuts_lifted (os : Os) (started : os.Started) (H : Type) (enc : TypeId × Value → H) :
    ReturnsInHanded {} Try.checked os 6 .any (Rows.prioCutsSpec.pre6 enc Try.prog Try.f6 Rows.prioCutsRow.domain false) (Rows.prioCutsSpec.post enc Try.prog Try.f6 false true false false) := by
  refine returnsInHanded_of_change (C := Try.checked) own started (by kernel_rfl) Try.func6
    (ChangeSpec.witness6 (enc := enc) (C := Try.checked) false ⟨#[], #[.agg #[.int .i64 0, .int .i64 0, .int .i64 0], .agg #[.int .u32 0, .int .u32 0, .int .u32 0]], []⟩ 8 (by kernel_rfl) (by kernel_rfl) (by kernel_rfl) (by kernel_rfl)) ?_
  intro W base args ds gs before hval0 hW _ _
  have hval : ∀ (j : Nat) t v, Try.f6.params[j]? = some t → args[j]? = some v → Value.okWide Try.prog W .any base t v := hval0
  have hW' := hW
  obtain ⟨p, q, hA0, hV, rfl, _, _⟩ := hW
  have hA : DataW.TrodAll enc Try.prog W 0 (fun _ => true) true Try.f6.params.toList args.toList ds p := hA0
  rw [Try.params6] at hA hval
  obtain ⟨v0, v1, d0, d1, p0, p1, rfl, rfl, rfl, h0, h1⟩ := trodAll_two hA
  obtain ⟨rfl, rfl⟩ := trodVars_none hV
  obtain ⟨c0, c1, c2, y0, y1, y2, m, rfl, rfl, rfl, hy0, hy1, hy2⟩ := open_agg3 Try.underlying23 (by kernel_rfl) cells23 (hval 0 23 v0 rfl rfl) h0
  obtain ⟨i, e0, rfl, wi⟩ := DataW.trod_int Try.underlying3 hy0
  obtain ⟨o, e1, rfl, wo⟩ := DataW.trod_int Try.underlying3 hy1
  obtain ⟨s, e2, rfl, ws⟩ := DataW.trod_int Try.underlying3 hy2
  simp at e0 e1 e2
  subst e0 e1 e2
  obtain ⟨c3, c4, c5, y3, y4, y5, k, rfl, rfl, rfl, hy3, hy4, hy5⟩ := open_agg3 Try.underlying26 (by kernel_rfl) cells26 (hval 1 26 v1 rfl rfl) h1
  obtain ⟨r, e3, rfl, wr⟩ := DataW.trod_int Try.underlying24 hy3
  obtain ⟨l, e4, rfl, wl⟩ := DataW.trod_int Try.underlying24 hy4
  obtain ⟨g, e5, rfl, wg⟩ := DataW.trod_int Try.underlying24 hy5
  simp at e3 e4 e5
  subst e3 e4 e5
  clear hA0 hval0
  simp only [List.append_nil] at hW'
  have bl := bounds_u32 wl
  have bg := bounds_u32 wg
  refine (cuts_any i o s r l g W (by omega) (by omega) (by omega) (by omega)).mono fun e W' ⟨he, hb⟩ => ?_
  subst he
  exact ⟨_, rfl, post_of_below (pa := []) (pv := []) hW' (fun _ _ _ => trodAll_mk1 (shut_bool Try.underlying4 _)) (fun sp _ => trodAll_mk2 (terms_read wi wo ws _ sp) (vert_reads wr wl wg _ sp)) (fun _ _ => rfl) rfl hb (ok_one (by kernel_rfl) rfl (okWide_bool_mk Try.underlying4 _))⟩

theorem cuts_proved : Rows.PrioCutsSaid :=
  OpenClaim.holds_of_wide 6 Try.f6 rfl rfl rfl rfl rfl rfl rfl ⟨rfl, rfl, rfl, rfl, rfl⟩ rfl rfl rfl rfl rfl (by kernel_rfl) Try.func6 (by kernel_rfl)
    (of_decide_eq_true (by kernel_rfl)) (by unfold Func.isWrapper; first | (rw [if_pos (by decide +kernel)]; kernel_rfl) | (rw [if_neg (by decide +kernel)]; exact ⟨rfl, rfl⟩))
    (fun os started H enc _ => cuts_lifted os started H enc)
#print axioms cuts_proved
end Go.Proofs.Ytcegfmcbicpljaa
