/-
  StoreMakes: a generation's files are, byte for byte, the document's, and last; every vertex has its edges, out and in, and what is kept of it: whatever the net, the vertex and the edge asked for, the law returns true. Conditions: none but the row's own (the three listed tables hold what the text lays).
-/
import Derived.Test.YthkkgdpomhhjjaaGreatDoorQ18
namespace Go.Proofs.YthkkgdpomhhjjaaGreatDoor.StoreMakes
open Go.ChangeShapes Go.WideShapes Go.ChangeAt Go.RowKit Go.Joins
theorem walk (ev0 vv0:Value) (es0:List Edg) (vs0:List Vrt) (g0:Int) (fr0:Nat) (k1:Nat) (z2:Int) (w:World) (he0:RdE w ev0 es0) (hv0:RdV w vv0 vs0) (hf0:fr0 < 256) (hk1:k1 < 4294967296) (hz2:-9223372036854775808<=z2/\z2 < 9223372036854775808) (hp:PowAt w):Calls Tryz.prog 3 #[.agg #[ev0,vv0, .int .i64 g0, .int .u8 (fr0:Int)], .int .u32 (k1:Int), .int .i64 z2] w fun e w'=>e=.returned (.bool true)/\Below w.heap.size w w':=
 storeMakes_any write_any (jobSort_any write_any (sortSaid_any (m:=2400) (by decide)) (Nat.le_refl _)) (by decide) g0 fr0 k1 z2 w he0 hv0 hf0 hk1 hz2 hp
set_option maxRecDepth 100000 in
theorem contract (H:Type) (enc:TypeId × Value->H) (W:World) (base:Nat) (args:Array Value) (ds gs:List (DataW H)) (before:List MemPlace)
 (hval:∀ (j:Nat) t v,Tryz.f3.params[j]? = some t->args[j]? = some v->Value.okWide Tryz.prog W .any base t v)
 (hW:DataW.Whole enc Tryz.prog Tryz.f3.params.toList Rows.storeMakesSpec.vars false W args.toList ds gs before) (hp:PowAt W) :
 Calls Tryz.prog 3 args W fun e W'=>∃ v,e=.returned v/\Rows.storeMakesSpec.post enc Tryz.prog Tryz.f3 false true false false W args v W':=by
 have hW':=hW;obtain ⟨p,q,hA0,hV,rfl,hfz,hnd⟩:=hW;have hA:DataW.TrodAll enc Tryz.prog W 0 (fun _=>true) true Tryz.f3.params.toList args.toList ds p:=hA0;rw [Tryz.params3] at hA hval;obtain ⟨v0,vs0,d0,ds0,p0,q0,hargs,rfl,rfl,h0,r0⟩:=trodAll_cons hA;obtain ⟨v1,vs1,d1,ds1,p1,q1,rfl,rfl,rfl,h1,r1⟩:=trodAll_cons r0;obtain ⟨v2,vs2,d2,ds2,p2,q2,rfl,rfl,rfl,h2,r2⟩:=trodAll_cons r1;obtain ⟨rfl,rfl,rfl⟩:=trodAll_nil r2;obtain rfl:args=#[v0,v1,v2]:=by cases args;simp_all
 obtain ⟨rfl,rfl⟩:=trodVars_none hV;obtain ⟨ev0,vv0,es0,vs0,g0,fr0,rfl,he0,hv0,hg0,hf0⟩:=opened_net (hval 0 _ v0 rfl rfl) h0;obtain ⟨a1,rfl,rfl,rfl,w1⟩:=open_int Tryz.underlying26 (hval 1 _ v1 rfl rfl) h1;obtain ⟨z2,rfl,rfl,rfl,w2⟩:=open_int Tryz.underlying3 (hval 2 _ v2 rfl rfl) h2;clear hA0;simp only [List.append_nil] at hW';have hlt0:∀ x∈p0,x.block < W.heap.size:=fun x hx=>hW'.lt x (by simp [hx]);have harg0:∀ W',Below W.heap.size W W'->∀ sp:Nat->Bool,(∀ x∈p0,sp x.block=true)->DataW.Trod enc Tryz.prog W' 0 sp true 25 (.agg #[ev0,vv0, .int .i64 g0, .int .u8 (fr0:Int)]) d0 p0:=fun W' hg sp hsp=>
  WideElems.Trod_stays laidOutE (by kernel_rfl) (of_decide_eq_true (by kernel_rfl)) h0 (fun x hx=>hg.same (hlt0 x hx)) hsp
 obtain ⟨k1,hk1,rfl⟩:∃ k:Nat,k < 4294967296/\a1=(k:Int):=⟨(UInt32.ofNat a1.toNat).toNat,UInt32.toNat_lt _,u32_ofE w1⟩;have hz2:=i64_of w2;refine (walk ev0 vv0 es0 vs0 g0 fr0 k1 z2 W he0 hv0 hf0 hk1 hz2 hp).mono fun e W' ⟨he,hg⟩=>?_;subst he;exact ⟨_,rfl,post_of_below (pa:=p0) (pv:=[]) hW' (fun _ _ _=>(trodAll_cons_mk (shut_bool Tryz.underlying4 _) trodAll_mk0)) (fun sp hsp=>by
  have:=trodAll_cons_mk (harg0 W' hg sp (fun x hx=>hsp x (by simp [hx]))) (trodAll_cons_mk (shut_int (enc:=enc) (P:=Tryz.prog) (w:=W') (base:=0) (spare:=sp) (held:=true) Tryz.underlying26 w1) (trodAll_cons_mk (shut_int (enc:=enc) (P:=Tryz.prog) (w:=W') (base:=0) (spare:=sp) (held:=true) Tryz.underlying3 w2) trodAll_mk0));rw [show p0++([]++([]++[]))=p0 by simp] at this;exact this) (fun _ _=>rfl) (by simp)
  hg (ok_one (by kernel_rfl) rfl (okWide_bool_mk Tryz.underlying4 _))⟩
def start:Array Value:=#[.agg #[.slice none 0 0, .slice none 0 0, .int .i64 0, .int .u8 0], .int .u32 0, .int .i64 0]
theorem reads (os:Os) {H:Type} (enc:TypeId × Value->H):∃ places,DataW.whole enc Tryz.prog ((laidWorld os).forCall (fun _ _=>0) ⟨#[],start,[]⟩).memory Tryz.f3.params.toList Rows.storeMakesSpec.vars false start.toList 8=some ([.agg [.nil, .nil, .lit (.int .i64 0), .lit (.int .u8 0)], .lit (.int .u32 0), .lit (.int .i64 0)],[],places):=
 ⟨[],by kernel_rfl⟩
theorem hv (os:Os):((laidWorld os).forCall (fun _ _=>0) ⟨#[],start,[]⟩).variablesB Tryz.checked.prog=true:=by kernel_rfl
theorem hr (os:Os):(((laidWorld os).forCall (fun _ _=>0) ⟨#[],start,[]⟩).heap.toList.drop Tryz.checked.prog.globals.size).take ((begin Tryz.checked.prog (fun _ _=>0) default).world.heap.size - Tryz.checked.prog.globals.size)=(begin Tryz.checked.prog (fun _ _=>0) default).world.heap.toList.drop Tryz.checked.prog.globals.size:=by kernel_rfl
theorem hok (os:Os):Input.okWideB Tryz.checked.prog ((laidWorld os).forCall (fun _ _=>0) ⟨#[],start,[]⟩) 3 ⟨#[],start,[]⟩=true:=by kernel_rfl
theorem hsz (os:Os) {H:Type} (enc:TypeId × Value->H):(OpenSpec.ofChange Rows.storeMakesSpec).bare.sizedB enc Tryz.prog Tryz.f3 false ((laidWorld os).forCall (fun _ _=>0) ⟨#[],start,[]⟩).memory start 8=true:=by kernel_rfl
theorem hno:Tryz.checked.prog.inits.idxOf? 3=none:=by kernel_rfl
theorem row (os:Os) {H:Type} (enc:TypeId × Value->H):(OpenSpec.ofChange Rows.storeMakesSpec).preRow enc Tryz.prog Tryz.f3 Rows.storeMakesRow.domain false Rows.storeMakesRow.laid ((laidWorld os).forCall (fun _ _=>0) ⟨#[],start,[]⟩).memory start:=by
 obtain ⟨places,hx⟩:=reads os enc;exact OpenSpec.preRow_of_cond 8 hx (by kernel_rfl) (fun k hk=>by cases hk) (hsz os enc) (laid_met os start)
set_option maxRecDepth 100000 in
theorem lifted (os:Os) (started:os.Started) (H:Type) (enc:TypeId × Value->H) (F:Stop.Interp) :
 ReturnsInHanded {} Tryz.checked os 3 .any ((OpenSpec.ofChange Rows.storeMakesSpec).preRow enc Tryz.prog Tryz.f3 Rows.storeMakesRow.domain false Rows.storeMakesRow.laid) (((OpenSpec.ofChange Rows.storeMakesSpec).at F).post enc Tryz.prog Tryz.f3 false true false false):=by
 refine returnsInHanded_of_row (C:=Tryz.checked) (s:=OpenSpec.ofChange Rows.storeMakesSpec) own started hno Tryz.func3
  (witness_row_at (enc:=enc) (C:=Tryz.checked) false (laidWorld os) start rfl (hv os) (hr os) (hok os) (row os enc)) ?_
 intro W base args ds gs before hval hW _ _ _ hlaid _ _;exact contract H enc W base args ds gs before hval hW (pow_of_laid hlaid)
set_option maxHeartbeats 4000000 in
set_option maxRecDepth 100000 in
theorem closed:joinedFacts Tryz.pinned.checked.prog 3 Tryz.f3 (OpenSpec.ofChange Rows.storeMakesSpec).bare Rows.storeMakesRow=true:=by
 unfold joinedFacts;repeat' with_reducible apply band
 all_goals as_aux_lemma=>kernel_rfl
set_option maxRecDepth 100000 in
theorem said:Rows.StoreMakesSaid:=
 OpenClaim.holds_of_cond 3 Tryz.f3 rfl rfl rfl rfl rfl rfl rfl ⟨rfl,rfl,rfl,rfl,rfl⟩ rfl rfl rfl rfl rfl (by kernel_rfl) Tryz.func3 closed
  (of_decide_eq_true (by kernel_rfl)) (by unfold Func.isWrapper;first | (rw [if_pos (by decide +kernel)];kernel_rfl) | (rw [if_neg (by decide +kernel)];exact ⟨rfl,rfl⟩))
  (fun os started H enc _ F=>by rw [OpenClaim.pre_eq_preRow];exact lifted os started H enc F)
theorem plain (f:FuncId) (fn:Func) (hf:Tryz.pinned.checked.prog.funcNamed "milepost/milepostlaw13.StoreMakes"=some f) (hfn:Tryz.pinned.checked.prog.funcs[f]? = some fn) :
 false=Tryz.pinned.checked.prog.looks []/\∀ (j:Nat) t,fn.params[j]? = some t->Tryz.pinned.checked.prog.wantsStandIn t=false:=by
 obtain rfl:f=3:=Option.some.inj ((show Tryz.prog.funcNamed "milepost/milepostlaw13.StoreMakes"=some 3 by kernel_rfl).symm.trans hf) |>.symm;obtain rfl:fn=Tryz.f3:=(Option.some.inj (Tryz.func3.symm.trans hfn)).symm;refine ⟨by kernel_rfl,fun j t ht=>?_⟩;rw [Tryz.params3] at ht;have hm:=Array.mem_of_getElem? ht;simp only [List.mem_toArray,List.mem_cons,List.not_mem_nil,or_false] at hm;rcases hm with rfl | rfl | rfl
 ·exact (show Tryz.prog.wantsStandIn 25=false by kernel_rfl)
 ·exact (show Tryz.prog.wantsStandIn 26=false by kernel_rfl)
 ·exact (show Tryz.prog.wantsStandIn 3=false by kernel_rfl)
theorem card:Rows.StoreMakesCardSaid:=
 Claim7.holds_tied_plain_at .later [] _ _ _ _ said (fun _ h=>by cases h) (by kernel_rfl) (fun _ h=>by cases h) storeMakes_row_tie rfl ⟨rfl,rfl⟩ (by kernel_rfl) rfl plain (by kernel_rfl)
end Go.Proofs.YthkkgdpomhhjjaaGreatDoor.StoreMakes
namespace Go.Proofs.YthkkgdpomhhjjaaGreatDoor
theorem storeMakes_proved:Rows.StoreMakesCardSaid:=StoreMakes.card
end Go.Proofs.YthkkgdpomhhjjaaGreatDoor
