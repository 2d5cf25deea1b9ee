/-
  ExtsortRefuses: what may not be sorted is told by name, and no file comes of it: whatever the number of frames, the order and the two names, the law returns true. Conditions: none but the row's own (the three listed tables hold what the text lays).
-/
import Derived.Test.YtolieljpnafbhaaGreatDoorG17
namespace Go.Proofs.YtolieljpnafbhaaGreatDoor.ExtsortRefuses
open Go.ChangeShapes Go.WideShapes Go.ChangeAt Go.RowKit Go.Joins

theorem walk (k : Nat) (hk : k < 256) (y : Int) (inn out : ByteArray) (w : World) : Calls Tryz.prog 6 #[.int .u8 (k : Int), .int .i64 y, .string inn, .string out] w fun e w' => e = .returned (.bool true) ∧ Below w.heap.size w w' :=
  extsortRefuses_any write_any (jobSort_small write_any sortSaid_twelve (by decide)) (by decide) k hk y inn out w

theorem u8_of {z : Int} (h : (Lit.int .u8 z).wf = true) : ∃ k : Nat, k < 256 ∧ z = (k : Int) := by
  simp [Lit.wf] at h
  have h0 : IntKind.u8.min = 0 := rfl
  have h1 : IntKind.u8.max = 255 := rfl
  rw [h0, h1] at h
  exact ⟨z.toNat, by omega, by omega⟩

set_option maxRecDepth 100000 in
theorem contract (H : Type) (enc : TypeId × Value → H) (W : World) (base : Nat) (args : Array Value) (ds gs : List (DataW H)) (before : List MemPlace)
    (hval : ∀ (j : Nat) t v, Tryz.f6.params[j]? = some t → args[j]? = some v → Value.okWide Tryz.prog W .any base t v)
    (hW : DataW.Whole enc Tryz.prog Tryz.f6.params.toList Rows.extsortRefusesSpec.vars false W args.toList ds gs before) :
    Calls Tryz.prog 6 args W fun e W' => ∃ v, e = .returned v ∧ Rows.extsortRefusesSpec.post enc Tryz.prog Tryz.f6 false true false false W args v W' := by
  have hW' := hW
  obtain ⟨p, q, hA0, hV, rfl, hfz, hnd⟩ := hW
  have hA : DataW.TrodAll enc Tryz.prog W 0 (fun _ => true) true Tryz.f6.params.toList args.toList ds p := hA0
  rw [Tryz.params6] at hA hval
  obtain ⟨v0, vs0, d0, ds0, p0, q0, hargs, rfl, rfl, h0, r0⟩ := trodAll_cons hA
  obtain ⟨v1, vs1, d1, ds1, p1, q1, rfl, rfl, rfl, h1, r1⟩ := trodAll_cons r0
  obtain ⟨v2, vs2, d2, ds2, p2, q2, rfl, rfl, rfl, h2, r2⟩ := trodAll_cons r1
  obtain ⟨v3, vs3, d3, ds3, p3, q3, rfl, rfl, rfl, h3, r3⟩ := trodAll_cons r2
  obtain ⟨rfl, rfl, rfl⟩ := trodAll_nil r3
  obtain rfl : args = #[v0, v1, v2, v3] := by cases args; simp_all
  obtain ⟨rfl, rfl⟩ := trodVars_none hV
  obtain ⟨a0, rfl, rfl, rfl, w0⟩ := open_int Tryz.underlying5 (hval 0 _ v0 rfl rfl) h0
  obtain ⟨a1, rfl, rfl, rfl, w1⟩ := open_int Tryz.underlying3 (hval 1 _ v1 rfl rfl) h1
  obtain ⟨a2, rfl, rfl, rfl, w2⟩ := ChangeMaps.open_string Tryz.underlying9 (hval 2 _ v2 rfl rfl) h2
  obtain ⟨a3, rfl, rfl, rfl, w3⟩ := ChangeMaps.open_string Tryz.underlying9 (hval 3 _ v3 rfl rfl) h3
  clear hA0
  simp only [List.append_nil] at hW'
  obtain ⟨k, hk, rfl⟩ := u8_of w0
  refine (walk k hk a1 a2 a3 W).mono fun e W' ⟨he, hg⟩ => ?_
  subst he
  exact ⟨_, rfl, post_of_below (pa := []) (pv := []) hW' (fun _ _ _ => (trodAll_cons_mk (shut_bool Tryz.underlying4 _) trodAll_mk0)) (fun sp _ => (trodAll_cons_mk (shut_int Tryz.underlying5 w0) (trodAll_cons_mk (shut_int Tryz.underlying3 w1) (trodAll_cons_mk (ChangeMaps.shut_string Tryz.underlying9 w2) (trodAll_cons_mk (ChangeMaps.shut_string Tryz.underlying9 w3) trodAll_mk0))))) (fun _ _ => rfl) rfl
    hg (ok_one (by kernel_rfl) rfl (okWide_bool_mk Tryz.underlying4 _))⟩

def start : Array Value := #[.int .u8 0, .int .i64 0, .string ⟨#[]⟩, .string ⟨#[]⟩]
theorem reads (os : Os) {H : Type} (enc : TypeId × Value → H) : ∃ places, DataW.whole enc Tryz.prog ((laidWorld os).forCall (fun _ _ => 0) ⟨#[], start, []⟩).memory Tryz.f6.params.toList Rows.extsortRefusesSpec.vars false start.toList 8 = some ([.lit (.int .u8 0), .lit (.int .i64 0), .lit (.string []), .lit (.string [])], [], places) :=
  ⟨[], by kernel_rfl⟩

theorem hv (os : Os) : ((laidWorld os).forCall (fun _ _ => 0) ⟨#[], start, []⟩).variablesB Tryz.checked.prog = true := by kernel_rfl
theorem hr (os : Os) : (((laidWorld os).forCall (fun _ _ => 0) ⟨#[], start, []⟩).heap.toList.drop Tryz.checked.prog.globals.size).take ((begin Tryz.checked.prog (fun _ _ => 0) default).world.heap.size - Tryz.checked.prog.globals.size) = (begin Tryz.checked.prog (fun _ _ => 0) default).world.heap.toList.drop Tryz.checked.prog.globals.size := by kernel_rfl
theorem hok (os : Os) : Input.okWideB Tryz.checked.prog ((laidWorld os).forCall (fun _ _ => 0) ⟨#[], start, []⟩) 6 ⟨#[], start, []⟩ = true := by kernel_rfl
theorem hsz (os : Os) {H : Type} (enc : TypeId × Value → H) : (OpenSpec.ofChange Rows.extsortRefusesSpec).bare.sizedB enc Tryz.prog Tryz.f6 false ((laidWorld os).forCall (fun _ _ => 0) ⟨#[], start, []⟩).memory start 8 = true := by kernel_rfl
theorem hno : Tryz.checked.prog.inits.idxOf? 6 = none := by kernel_rfl

theorem row (os : Os) {H : Type} (enc : TypeId × Value → H) : (OpenSpec.ofChange Rows.extsortRefusesSpec).preRow enc Tryz.prog Tryz.f6 Rows.extsortRefusesRow.domain false Rows.extsortRefusesRow.laid ((laidWorld os).forCall (fun _ _ => 0) ⟨#[], start, []⟩).memory start := by
  obtain ⟨places, hx⟩ := reads os enc
  exact OpenSpec.preRow_of_cond 8 hx (by kernel_rfl) (fun k hk => by cases hk) (hsz os enc) (laid_met os start)

set_option maxRecDepth 100000 in
theorem lifted (os : Os) (started : os.Started) (H : Type) (enc : TypeId × Value → H) (F : Stop.Interp) :
    ReturnsInHanded {} Tryz.checked os 6 .any ((OpenSpec.ofChange Rows.extsortRefusesSpec).preRow enc Tryz.prog Tryz.f6 Rows.extsortRefusesRow.domain false Rows.extsortRefusesRow.laid) (((OpenSpec.ofChange Rows.extsortRefusesSpec).at F).post enc Tryz.prog Tryz.f6 false true false false) := by
  refine returnsInHanded_of_row (C := Tryz.checked) (s := OpenSpec.ofChange Rows.extsortRefusesSpec) own started hno Tryz.func6
    (witness_row_at (enc := enc) (C := Tryz.checked) false (laidWorld os) start rfl (hv os) (hr os) (hok os) (row os enc)) ?_
  intro W base args ds gs before hval hW _ _ _ _ _ _
  exact contract H enc W base args ds gs before hval hW

set_option maxHeartbeats 4000000 in
set_option maxRecDepth 100000 in
theorem closed : joinedFacts Tryz.pinned.checked.prog 6 Tryz.f6 (OpenSpec.ofChange Rows.extsortRefusesSpec).bare Rows.extsortRefusesRow = true := by
  unfold joinedFacts
  repeat' with_reducible apply band
  all_goals as_aux_lemma => kernel_rfl

set_option maxRecDepth 100000 in
theorem said : Rows.ExtsortRefusesSaid :=
  OpenClaim.holds_of_cond 6 Tryz.f6 rfl rfl rfl rfl rfl rfl rfl ⟨rfl, rfl, rfl, rfl, rfl⟩ rfl rfl rfl rfl rfl (by kernel_rfl) Tryz.func6 closed
    (of_decide_eq_true (by kernel_rfl)) (by unfold Func.isWrapper; first | (rw [if_pos (by decide +kernel)]; kernel_rfl) | (rw [if_neg (by decide +kernel)]; exact ⟨rfl, rfl⟩))
    (fun os started H enc _ F => by rw [OpenClaim.pre_eq_preRow]; exact lifted os started H enc F)

theorem plain (f : FuncId) (fn : Func) (hf : Tryz.pinned.checked.prog.funcNamed "milepost/milepostlaw12.ExtsortRefuses" = some f) (hfn : Tryz.pinned.checked.prog.funcs[f]? = some fn) :
    false = Tryz.pinned.checked.prog.looks [] ∧ ∀ (j : Nat) t, fn.params[j]? = some t → Tryz.pinned.checked.prog.wantsStandIn t = false := by
  obtain rfl : f = 6 := Option.some.inj ((show Tryz.prog.funcNamed "milepost/milepostlaw12.ExtsortRefuses" = some 6 by kernel_rfl).symm.trans hf) |>.symm
  obtain rfl : fn = Tryz.f6 := (Option.some.inj (Tryz.func6.symm.trans hfn)).symm
  refine ⟨by kernel_rfl, fun j t ht => ?_⟩
  rw [Tryz.params6] at ht
  have hm := Array.mem_of_getElem? ht
  simp only [List.mem_toArray, List.mem_cons, List.not_mem_nil, or_false] at hm
  rcases hm with rfl | rfl | rfl | rfl
  · exact (show Tryz.prog.wantsStandIn 5 = false by kernel_rfl)
  · exact (show Tryz.prog.wantsStandIn 3 = false by kernel_rfl)
  · exact (show Tryz.prog.wantsStandIn 9 = false by kernel_rfl)
  · exact (show Tryz.prog.wantsStandIn 9 = false by kernel_rfl)

/-- The card. -/
theorem card : Rows.ExtsortRefusesCardSaid :=
  Claim7.holds_tied_plain_at .later [] _ _ _ _ said (fun _ h => by cases h) (by kernel_rfl) (fun _ h => by cases h) extsortRefuses_row_tie rfl ⟨rfl, rfl⟩ (by kernel_rfl) rfl plain (by kernel_rfl)
end Go.Proofs.YtolieljpnafbhaaGreatDoor.ExtsortRefuses
namespace Go.Proofs.YtolieljpnafbhaaGreatDoor
theorem extsortRefuses_proved : Rows.ExtsortRefusesCardSaid := ExtsortRefuses.card
end Go.Proofs.YtolieljpnafbhaaGreatDoor
