/-
  The step from a walk that leaves what was there as it was to the row's own words: the arguments, both structs by value.
-/
import Derived.Test.YtcegfmcbicpljaaLaws3
import Derived.ProofKit
import Derived.OpenShut
import Derived.Lib.SmallJoins
namespace Go.Proofs.Ytcegfmcbicpljaa
open Go.ChangeShapes Go.WideShapes Go.ChangeAt Go.RowKit Go.Joins

theorem own : ownKnob Try.prog.godebug = none := by kernel_rfl
theorem cells23 : Try.prog.cellsOf 23 = 3 := by kernel_rfl
theorem cells26 : Try.prog.cellsOf 26 = 3 := by kernel_rfl

section
variable {H : Type} {enc : TypeId × Value → H} {P : Program}
/-- Behind a call that leaves all that was there as it was, and hands back what the specification says: the row's post. -/
theorem post_of_below {f : Func} {s : ChangeSpec} {apart fresh handsOn again : Bool} {W W' : World} {args : Array Value} {v : Value} {ds gs : List (DataW H)} {before pa pv : List MemPlace}
    (hW : DataW.Whole enc P f.params.toList s.vars apart W args.toList ds gs before)
    (hres : ∀ (b : Nat) (sp : Nat → Bool) (hd : Bool), DataW.TrodAll enc P W' b sp hd f.resultTypes.toList (v.resultList f.resultTypes.size) (s.fn H (ds ++ gs)).results [])
    (hargs : ∀ sp : Nat → Bool, (∀ p ∈ before, sp p.block = true) → DataW.TrodAll enc P W' 0 sp true f.params.toList args.toList (s.fn H (ds ++ gs)).args pa)
    (hvars : ∀ sp : Nat → Bool, (∀ p ∈ before, sp p.block = true) → DataW.TrodVars enc P W' sp s.vars (s.fn H (ds ++ gs)).vars pv)
    (hps : before = pa ++ pv) (hb : Below W.heap.size W W')
    (hok : ∀ (j : Nat) (t : TypeId) (r : Value), f.resultTypes[j]? = some t → (v.resultList f.resultTypes.size)[j]? = some r → Value.okWide P W' .any 0 t r) :
    s.post enc P f apart fresh handsOn again W args v W' := by
  have hlt : ∀ p ∈ before, p.block < W.heap.size := fun p hp => hW.lt p hp
  have hold : ∀ p ∈ before, (fun b => decide (b < W.heap.size)) p.block = true := fun p hp => by simpa using hlt p hp
  refine ⟨ds, gs, before, [], pa, pv, hW, hres _ _ _, hargs _ hold, hvars _ hold, World.keptBut_mono (fun p hp => ⟨hp, ?_⟩) (hb.frame (· ∈ before)), fun _ => ?_⟩
  · rw [hps, List.mem_append] at hp
    exact Or.inr hp
  · obtain ⟨_, _, _, _, _, hz, hn⟩ := hW
    refine ⟨hok, _, _, ([] ++ pa) ++ pv, ⟨[] ++ pa, pv, trodAll_append (hargs _ (fun _ _ => rfl)) (hres _ _ _), hvars _ (fun _ _ => rfl), rfl, ?_, ?_⟩, ?_⟩
    · intro b off hp
      have hin : MemPlace.cell b off ∈ before := by rw [hps]; simpa using hp
      rw [hb.frozen (hlt _ hin)]
      exact hz b off hin
    · intro ha
      have := hn ha
      rw [hps] at this
      simpa using this
    · intro p hp _
      rw [hps]
      simpa using hp
end

theorem terms_read {H : Type} {enc : TypeId × Value → H} {i o s : Int} (wi : (Lit.int .i64 i).wf = true) (wo : (Lit.int .i64 o).wf = true) (ws : (Lit.int .i64 s).wf = true) (W' : World) (sp : Nat → Bool) :
    DataW.Trod enc Try.prog W' 0 sp true 23 (.agg #[.int .i64 i, .int .i64 o, .int .i64 s]) (.agg [.lit (.int .i64 i), .lit (.int .i64 o), .lit (.int .i64 s)]) [] :=
  shut_agg3 (y0 := (.lit (.int .i64 i), [])) (y1 := (.lit (.int .i64 o), [])) (y2 := (.lit (.int .i64 s), [])) Try.underlying23 (by kernel_rfl) cells23 ⟨1, by simp [DataW.trod, Try.underlying3, wi]⟩ ⟨1, by simp [DataW.trod, Try.underlying3, wo]⟩ ⟨1, by simp [DataW.trod, Try.underlying3, ws]⟩
theorem vert_reads {H : Type} {enc : TypeId × Value → H} {r l g : Int} (wr : (Lit.int .u32 r).wf = true) (wl : (Lit.int .u32 l).wf = true) (wg : (Lit.int .u32 g).wf = true) (W' : World) (sp : Nat → Bool) :
    DataW.Trod enc Try.prog W' 0 sp true 26 (.agg #[.int .u32 r, .int .u32 l, .int .u32 g]) (.agg [.lit (.int .u32 r), .lit (.int .u32 l), .lit (.int .u32 g)]) [] :=
  shut_agg3 (y0 := (.lit (.int .u32 r), [])) (y1 := (.lit (.int .u32 l), [])) (y2 := (.lit (.int .u32 g), [])) Try.underlying26 (by kernel_rfl) cells26 ⟨1, by simp [DataW.trod, Try.underlying24, wr]⟩ ⟨1, by simp [DataW.trod, Try.underlying24, wl]⟩ ⟨1, by simp [DataW.trod, Try.underlying24, wg]⟩

end Go.Proofs.Ytcegfmcbicpljaa
