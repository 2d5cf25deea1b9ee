/-
  ExtsortSorts: a file of any edges is sorted: the other one has, byte for byte, what counts of them in order, and no further file is there: whatever the number of frames, the edges and the order, the law returns true. Conditions: none but the row's own (the three listed tables hold what the text lays).
-/
import Derived.Test.YtolieljpnafbhaaGreatDoorZ02
namespace Go.Proofs.YtolieljpnafbhaaGreatDoor.ExtsortSorts
open Go.ChangeShapes Go.WideShapes Go.ChangeAt Go.RowKit Go.Joins

theorem walk (k0 : Nat) (hk0 : k0 < 256) (v1 : Value) (es1 : List Edg) (k2 : Bool) (w : World) (hes1 : RdE w v1 es1) : Calls Tryz.prog 11 #[.int .u8 (k0 : Int), v1, .bool k2] w fun e w' => e = .returned (.bool true) ∧ Below w.heap.size w w' :=
  extsortSorts_any write_any (jobSort_any write_any (sortSaid_any (m := 2400) (by decide)) (Nat.le_refl _)) (by decide) k0 hk0 v1 es1 k2 w hes1

set_option maxRecDepth 100000 in
theorem contract (H : Type) (enc : TypeId × Value → H) (W : World) (base : Nat) (args : Array Value) (ds gs : List (DataW H)) (before : List MemPlace)
    (hval : ∀ (j : Nat) t v, Tryz.f11.params[j]? = some t → args[j]? = some v → Value.okWide Tryz.prog W .any base t v)
    (hW : DataW.Whole enc Tryz.prog Tryz.f11.params.toList Rows.extsortSortsSpec.vars false W args.toList ds gs before) :
    Calls Tryz.prog 11 args W fun e W' => ∃ v, e = .returned v ∧ Rows.extsortSortsSpec.post enc Tryz.prog Tryz.f11 false true false false W args v W' := by
  have hW' := hW
  obtain ⟨p, q, hA0, hV, rfl, hfz, hnd⟩ := hW
  have hA : DataW.TrodAll enc Tryz.prog W 0 (fun _ => true) true Tryz.f11.params.toList args.toList ds p := hA0
  rw [Tryz.params11] at hA hval
  obtain ⟨v0, vs0, d0, ds0, p0, q0, hargs, rfl, rfl, h0, r0⟩ := trodAll_cons hA
  obtain ⟨v1, vs1, d1, ds1, p1, q1, rfl, rfl, rfl, h1, r1⟩ := trodAll_cons r0
  obtain ⟨v2, vs2, d2, ds2, p2, q2, rfl, rfl, rfl, h2, r2⟩ := trodAll_cons r1
  obtain ⟨rfl, rfl, rfl⟩ := trodAll_nil r2
  obtain rfl : args = #[v0, v1, v2] := by cases args; simp_all
  obtain ⟨rfl, rfl⟩ := trodVars_none hV
  obtain ⟨a0, rfl, rfl, rfl, w0⟩ := open_int Tryz.underlying5 (hval 0 _ v0 rfl rfl) h0
  obtain ⟨a1, len1, cap1, rfl⟩ := okWide_slice Tryz.underlying40 (hval 1 _ v1 rfl rfl)
  obtain ⟨k2, rfl, rfl, rfl⟩ := open_bool Tryz.underlying4 (hval 2 _ v2 rfl rfl) h2
  clear hA0
  simp only [List.append_nil, List.nil_append] at hW'
  have hlt : ∀ x ∈ p1, x.block < W.heap.size := fun x hx => hW'.lt x hx
  obtain ⟨k0, hk0, rfl⟩ := u8_ofE w0
  obtain ⟨es1, hes1⟩ := opened_edges h1
  have harg1 : ∀ W', Below W.heap.size W W' → ∀ sp : Nat → Bool, (∀ x ∈ p1, sp x.block = true) → DataW.Trod enc Tryz.prog W' 0 sp true 40 (.slice a1 len1 cap1) d1 p1 := fun W' hg sp hsp =>
    WideElems.Trod_stays laidOutE (by kernel_rfl) (of_decide_eq_true (by kernel_rfl)) h1 (fun x hx => hg.same (hlt x hx)) hsp
  refine (walk k0 hk0 _ es1 k2 W hes1).mono fun e W' ⟨he, hg⟩ => ?_
  subst he
  exact ⟨_, rfl, post_of_below (pa := p1) (pv := []) hW' (fun _ _ _ => (trodAll_cons_mk (shut_bool Tryz.underlying4 _) trodAll_mk0)) (fun sp hsp => by
      have := trodAll_cons_mk (shut_int (enc := enc) (P := Tryz.prog) (w := W') (base := 0) (spare := sp) (held := true) Tryz.underlying5 w0) (trodAll_cons_mk (harg1 W' hg sp hsp) (trodAll_cons_mk (shut_bool (enc := enc) (P := Tryz.prog) (w := W') (base := 0) (spare := sp) (held := true) Tryz.underlying4 k2) trodAll_mk0))
      simp only [List.append_nil, List.nil_append] at this
      exact this) (fun _ _ => rfl) (by simp)
    hg (ok_one (by kernel_rfl) rfl (okWide_bool_mk Tryz.underlying4 _))⟩

def start : Array Value := #[.int .u8 0, .slice none 0 0, .bool false]
theorem reads (os : Os) {H : Type} (enc : TypeId × Value → H) : ∃ places, DataW.whole enc Tryz.prog ((laidWorld os).forCall (fun _ _ => 0) ⟨#[], start, []⟩).memory Tryz.f11.params.toList Rows.extsortSortsSpec.vars false start.toList 8 = some ([.lit (.int .u8 0), .nil, .lit (.bool false)], [], places) :=
  ⟨[], by kernel_rfl⟩

theorem hv (os : Os) : ((laidWorld os).forCall (fun _ _ => 0) ⟨#[], start, []⟩).variablesB Tryz.checked.prog = true := by kernel_rfl
theorem hr (os : Os) : (((laidWorld os).forCall (fun _ _ => 0) ⟨#[], start, []⟩).heap.toList.drop Tryz.checked.prog.globals.size).take ((begin Tryz.checked.prog (fun _ _ => 0) default).world.heap.size - Tryz.checked.prog.globals.size) = (begin Tryz.checked.prog (fun _ _ => 0) default).world.heap.toList.drop Tryz.checked.prog.globals.size := by kernel_rfl
theorem hok (os : Os) : Input.okWideB Tryz.checked.prog ((laidWorld os).forCall (fun _ _ => 0) ⟨#[], start, []⟩) 11 ⟨#[], start, []⟩ = true := by kernel_rfl
theorem hsz (os : Os) {H : Type} (enc : TypeId × Value → H) : (OpenSpec.ofChange Rows.extsortSortsSpec).bare.sizedB enc Tryz.prog Tryz.f11 false ((laidWorld os).forCall (fun _ _ => 0) ⟨#[], start, []⟩).memory start 8 = true := by kernel_rfl
theorem hno : Tryz.checked.prog.inits.idxOf? 11 = none := by kernel_rfl

theorem row (os : Os) {H : Type} (enc : TypeId × Value → H) : (OpenSpec.ofChange Rows.extsortSortsSpec).preRow enc Tryz.prog Tryz.f11 Rows.extsortSortsRow.domain false Rows.extsortSortsRow.laid ((laidWorld os).forCall (fun _ _ => 0) ⟨#[], start, []⟩).memory start := by
  obtain ⟨places, hx⟩ := reads os enc
  exact OpenSpec.preRow_of_cond 8 hx (by kernel_rfl) (fun k hk => by cases hk) (hsz os enc) (laid_met os start)

set_option maxRecDepth 100000 in
theorem lifted (os : Os) (started : os.Started) (H : Type) (enc : TypeId × Value → H) (F : Stop.Interp) :
    ReturnsInHanded {} Tryz.checked os 11 .any ((OpenSpec.ofChange Rows.extsortSortsSpec).preRow enc Tryz.prog Tryz.f11 Rows.extsortSortsRow.domain false Rows.extsortSortsRow.laid) (((OpenSpec.ofChange Rows.extsortSortsSpec).at F).post enc Tryz.prog Tryz.f11 false true false false) := by
  refine returnsInHanded_of_row (C := Tryz.checked) (s := OpenSpec.ofChange Rows.extsortSortsSpec) own started hno Tryz.func11
    (witness_row_at (enc := enc) (C := Tryz.checked) false (laidWorld os) start rfl (hv os) (hr os) (hok os) (row os enc)) ?_
  intro W base args ds gs before hval hW _ _ _ _ _ _
  exact contract H enc W base args ds gs before hval hW

set_option maxHeartbeats 4000000 in
set_option maxRecDepth 100000 in
theorem closed : joinedFacts Tryz.pinned.checked.prog 11 Tryz.f11 (OpenSpec.ofChange Rows.extsortSortsSpec).bare Rows.extsortSortsRow = true := by
  unfold joinedFacts
  repeat' with_reducible apply band
  all_goals as_aux_lemma => kernel_rfl

set_option maxRecDepth 100000 in
theorem said : Rows.ExtsortSortsSaid :=
  OpenClaim.holds_of_cond 11 Tryz.f11 rfl rfl rfl rfl rfl rfl rfl ⟨rfl, rfl, rfl, rfl, rfl⟩ rfl rfl rfl rfl rfl (by kernel_rfl) Tryz.func11 closed
    (of_decide_eq_true (by kernel_rfl)) (by unfold Func.isWrapper; first | (rw [if_pos (by decide +kernel)]; kernel_rfl) | (rw [if_neg (by decide +kernel)]; exact ⟨rfl, rfl⟩))
    (fun os started H enc _ F => by rw [OpenClaim.pre_eq_preRow]; exact lifted os started H enc F)

theorem plain (f : FuncId) (fn : Func) (hf : Tryz.pinned.checked.prog.funcNamed "milepost/milepostlaw12.ExtsortSorts" = some f) (hfn : Tryz.pinned.checked.prog.funcs[f]? = some fn) :
    false = Tryz.pinned.checked.prog.looks [] ∧ ∀ (j : Nat) t, fn.params[j]? = some t → Tryz.pinned.checked.prog.wantsStandIn t = false := by
  obtain rfl : f = 11 := Option.some.inj ((show Tryz.prog.funcNamed "milepost/milepostlaw12.ExtsortSorts" = some 11 by kernel_rfl).symm.trans hf) |>.symm
  obtain rfl : fn = Tryz.f11 := (Option.some.inj (Tryz.func11.symm.trans hfn)).symm
  refine ⟨by kernel_rfl, fun j t ht => ?_⟩
  rw [Tryz.params11] at ht
  have hm := Array.mem_of_getElem? ht
  simp only [List.mem_toArray, List.mem_cons, List.not_mem_nil, or_false] at hm
  rcases hm with rfl | rfl | rfl
  · exact (show Tryz.prog.wantsStandIn 5 = false by kernel_rfl)
  · exact (show Tryz.prog.wantsStandIn 40 = false by kernel_rfl)
  · exact (show Tryz.prog.wantsStandIn 4 = false by kernel_rfl)

/-- The card. -/
theorem card : Rows.ExtsortSortsCardSaid :=
  Claim7.holds_tied_plain_at .later [] _ _ _ _ said (fun _ h => by cases h) (by kernel_rfl) (fun _ h => by cases h) extsortSorts_row_tie rfl ⟨rfl, rfl⟩ (by kernel_rfl) rfl plain (by kernel_rfl)
end Go.Proofs.YtolieljpnafbhaaGreatDoor.ExtsortSorts
namespace Go.Proofs.YtolieljpnafbhaaGreatDoor
theorem extsortSorts_proved : Rows.ExtsortSortsCardSaid := ExtsortSorts.card
end Go.Proofs.YtolieljpnafbhaaGreatDoor
