/-
  PrioVerts: a vertex that lies deeper, or more of whose neighbours are gone, comes later by as much. No condition.
-/
import Derived.Test.YtcegfmcbicpljaaLift
namespace Go.Proofs.Ytcegfmcbicpljaa
open Go.ChangeShapes Go.WideShapes Go.ChangeAt Go.RowKit Go.Joins

set_option maxRecDepth 100000 in
theorem verts_lifted (os : Os) (started : os.Started) (H : Type) (enc : TypeId × Value → H) :
    ReturnsInHanded {} Try.checked os 5 .any (Rows.prioVertsSpec.pre6 enc Try.prog Try.f5 Rows.prioVertsRow.domain false) (Rows.prioVertsSpec.post enc Try.prog Try.f5 false true false false) := by
  refine returnsInHanded_of_change (C := Try.checked) own started (by kernel_rfl) Try.func5
    (ChangeSpec.witness6 (enc := enc) (C := Try.checked) false ⟨#[], #[.agg #[.int .i64 0, .int .i64 0, .int .i64 0], .agg #[.int .u32 0, .int .u32 0, .int .u32 0], .int .u32 0], []⟩ 8 (by kernel_rfl) (by kernel_rfl) (by kernel_rfl) (by kernel_rfl)) ?_
  intro W base args ds gs before hval0 hW _ _
  have hval : ∀ (j : Nat) t v, Try.f5.params[j]? = some t → args[j]? = some v → Value.okWide Try.prog W .any base t v := hval0
  have hW' := hW
  obtain ⟨p, q, hA0, hV, rfl, _, _⟩ := hW
  have hA : DataW.TrodAll enc Try.prog W 0 (fun _ => true) true Try.f5.params.toList args.toList ds p := hA0
  rw [Try.params5] at hA hval
  obtain ⟨v0, v1, v2, d0, d1, d2, p0, p1, p2, rfl, rfl, rfl, h0, h1, h2⟩ := trodAll_three hA
  obtain ⟨rfl, rfl⟩ := trodVars_none hV
  obtain ⟨c0, c1, c2, y0, y1, y2, m, rfl, rfl, rfl, hy0, hy1, hy2⟩ := open_agg3 Try.underlying23 (by kernel_rfl) cells23 (hval 0 23 v0 rfl rfl) h0
  obtain ⟨i, e0, rfl, wi⟩ := DataW.trod_int Try.underlying3 hy0
  obtain ⟨o, e1, rfl, wo⟩ := DataW.trod_int Try.underlying3 hy1
  obtain ⟨s, e2, rfl, ws⟩ := DataW.trod_int Try.underlying3 hy2
  simp at e0 e1 e2
  subst e0 e1 e2
  obtain ⟨c3, c4, c5, y3, y4, y5, k, rfl, rfl, rfl, hy3, hy4, hy5⟩ := open_agg3 Try.underlying26 (by kernel_rfl) cells26 (hval 1 26 v1 rfl rfl) h1
  obtain ⟨r, e3, rfl, wr⟩ := DataW.trod_int Try.underlying24 hy3
  obtain ⟨l, e4, rfl, wl⟩ := DataW.trod_int Try.underlying24 hy4
  obtain ⟨g, e5, rfl, wg⟩ := DataW.trod_int Try.underlying24 hy5
  simp at e3 e4 e5
  subst e3 e4 e5
  obtain ⟨n, rfl, rfl, rfl, wn⟩ := open_int Try.underlying24 (hval 2 24 v2 rfl rfl) h2
  have bn := bounds_u32 wn
  clear hA0 hval0
  simp only [List.append_nil] at hW'
  have bl := bounds_u32 wl
  have bg := bounds_u32 wg
  refine (verts_any i o s r l g n W (by omega) (by omega) (by omega) (by omega) (by omega) (by omega)).mono fun e W' ⟨he, hb⟩ => ?_
  subst he
  exact ⟨_, rfl, post_of_below (pa := []) (pv := []) hW' (fun _ _ _ => trodAll_mk1 (shut_bool Try.underlying4 _)) (fun sp _ => trodAll_mk3 (terms_read wi wo ws _ sp) (vert_reads wr wl wg _ sp) (shut_int Try.underlying24 wn)) (fun _ _ => rfl) rfl hb (ok_one (by kernel_rfl) rfl (okWide_bool_mk Try.underlying4 _))⟩

theorem verts_proved : Rows.PrioVertsSaid :=
  OpenClaim.holds_of_wide 5 Try.f5 rfl rfl rfl rfl rfl rfl rfl ⟨rfl, rfl, rfl, rfl, rfl⟩ rfl rfl rfl rfl rfl (by kernel_rfl) Try.func5 (by kernel_rfl)
    (of_decide_eq_true (by kernel_rfl)) (by unfold Func.isWrapper; first | (rw [if_pos (by decide +kernel)]; kernel_rfl) | (rw [if_neg (by decide +kernel)]; exact ⟨rfl, rfl⟩))
    (fun os started H enc _ => verts_lifted os started H enc)
#print axioms verts_proved
end Go.Proofs.Ytcegfmcbicpljaa
