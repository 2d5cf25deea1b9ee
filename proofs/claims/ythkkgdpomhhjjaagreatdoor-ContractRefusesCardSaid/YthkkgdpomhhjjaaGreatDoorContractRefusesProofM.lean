/-
  ContractRefuses: without a pool, with few frames, and without a generation it is told why, and nothing is done: whatever the three numbers, the law returns true. Conditions: none but the row's own (the three listed tables hold what the text lays).
-/
import Derived.Test.YthkkgdpomhhjjaaGreatDoorR14
import Derived.Test.YthkkgdpomhhjjaaGreatDoorS01
namespace Go.Proofs.YthkkgdpomhhjjaaGreatDoor.ContractRefuses
open Go.ChangeShapes Go.WideShapes Go.ChangeAt Go.RowKit Go.Joins
theorem laid_pow {W:World} (h:laidMetH Tryz.prog Rows.contractRefusesRow.laid W):PowAt W:=by
 have h1:laidMet Tryz.prog [("math/bits.deBruijn32tab",Rows.laid_math_bits_deBruijn32tab),("math/bits.deBruijn64tab",Rows.laid_math_bits_deBruijn64tab),("internal/strconv.uint64pow10",Lib.tabData .u64 Lib.pow10Tab)] W:=h;exact tabIs_third powName (by kernel_rfl) Tryz.underlying311 Tryz.underlying62 (by kernel_rfl) (by kernel_rfl) h1
theorem walk (a0:Int) (k1 k2:Nat) (w:World) (h2:k2 < 256) (hp:PowAt w):Calls Tryz.prog 8 #[.int .i64 a0, .int .u32 (k1:Int), .int .u8 (k2:Int)] w fun e w'=>e=.returned (.bool true)/\Below w.heap.size w w':=
 contractRefuses_any write_any (jobSort_small write_any sortSaid_twelve (by decide)) (by decide) a0 k1 k2 h2 w hp
set_option maxRecDepth 100000 in
theorem contract (H:Type) (enc:TypeId × Value->H) (W:World) (base:Nat) (args:Array Value) (ds gs:List (DataW H)) (before:List MemPlace)
 (hval:∀ (j:Nat) t v,Tryz.f8.params[j]? = some t->args[j]? = some v->Value.okWide Tryz.prog W .any base t v)
 (hW:DataW.Whole enc Tryz.prog Tryz.f8.params.toList Rows.contractRefusesSpec.vars false W args.toList ds gs before) (hp:PowAt W) :
 Calls Tryz.prog 8 args W fun e W'=>∃ v,e=.returned v/\Rows.contractRefusesSpec.post enc Tryz.prog Tryz.f8 false true false false W args v W':=by
 have hW':=hW;obtain ⟨p,q,hA0,hV,rfl,hfz,hnd⟩:=hW;have hA:DataW.TrodAll enc Tryz.prog W 0 (fun _=>true) true Tryz.f8.params.toList args.toList ds p:=hA0;rw [Tryz.params8] at hA hval;obtain ⟨v0,vs0,d0,ds0,p0,q0,hargs,rfl,rfl,h0,r0⟩:=trodAll_cons hA;obtain ⟨v1,vs1,d1,ds1,p1,q1,rfl,rfl,rfl,h1,r1⟩:=trodAll_cons r0;obtain ⟨v2,vs2,d2,ds2,p2,q2,rfl,rfl,rfl,h2,r2⟩:=trodAll_cons r1;obtain ⟨rfl,rfl,rfl⟩:=trodAll_nil r2;obtain rfl:args=#[v0,v1,v2]:=by cases args;simp_all
 obtain ⟨rfl,rfl⟩:=trodVars_none hV;obtain ⟨a0,rfl,rfl,rfl,w0⟩:=open_int Tryz.underlying3 (hval 0 _ v0 rfl rfl) h0;obtain ⟨a1,rfl,rfl,rfl,w1⟩:=open_int Tryz.underlying26 (hval 1 _ v1 rfl rfl) h1;obtain ⟨a2,rfl,rfl,rfl,w2⟩:=open_int Tryz.underlying5 (hval 2 _ v2 rfl rfl) h2;clear hA0;simp only [List.append_nil] at hW';obtain ⟨k1,-,rfl⟩:∃ k:Nat,k < 4294967296/\a1=(k:Int):=⟨(UInt32.ofNat a1.toNat).toNat,UInt32.toNat_lt _,u32_ofE w1⟩;obtain ⟨k2,hk2,rfl⟩:=u8_ofE w2;refine (walk a0 k1 k2 W hk2 hp).mono fun e W' ⟨he,hg⟩=>?_;subst he;exact ⟨_,rfl,post_of_below (pa:=[]) (pv:=[]) hW' (fun _ _ _=>(trodAll_cons_mk (shut_bool Tryz.underlying4 _) trodAll_mk0)) (fun sp _=>(trodAll_cons_mk (shut_int Tryz.underlying3 w0) (trodAll_cons_mk (shut_int Tryz.underlying26 w1) (trodAll_cons_mk (shut_int Tryz.underlying5 w2) trodAll_mk0)))) (fun _ _=>rfl) rfl
  hg (ok_one (by kernel_rfl) rfl (okWide_bool_mk Tryz.underlying4 _))⟩
def start:Array Value:=#[.int .i64 0, .int .u32 0, .int .u8 0]
theorem reads (os:Os) {H:Type} (enc:TypeId × Value->H):∃ places,DataW.whole enc Tryz.prog ((laidWorld os).forCall (fun _ _=>0) ⟨#[],start,[]⟩).memory Tryz.f8.params.toList Rows.contractRefusesSpec.vars false start.toList 8=some ([.lit (.int .i64 0), .lit (.int .u32 0), .lit (.int .u8 0)],[],places):=
 ⟨[],by kernel_rfl⟩
theorem hv (os:Os):((laidWorld os).forCall (fun _ _=>0) ⟨#[],start,[]⟩).variablesB Tryz.checked.prog=true:=by kernel_rfl
theorem hr (os:Os):(((laidWorld os).forCall (fun _ _=>0) ⟨#[],start,[]⟩).heap.toList.drop Tryz.checked.prog.globals.size).take ((begin Tryz.checked.prog (fun _ _=>0) default).world.heap.size - Tryz.checked.prog.globals.size)=(begin Tryz.checked.prog (fun _ _=>0) default).world.heap.toList.drop Tryz.checked.prog.globals.size:=by kernel_rfl
theorem hok (os:Os):Input.okWideB Tryz.checked.prog ((laidWorld os).forCall (fun _ _=>0) ⟨#[],start,[]⟩) 8 ⟨#[],start,[]⟩=true:=by kernel_rfl
theorem hsz (os:Os) {H:Type} (enc:TypeId × Value->H):(OpenSpec.ofChange Rows.contractRefusesSpec).bare.sizedB enc Tryz.prog Tryz.f8 false ((laidWorld os).forCall (fun _ _=>0) ⟨#[],start,[]⟩).memory start 8=true:=by kernel_rfl
theorem hno:Tryz.checked.prog.inits.idxOf? 8=none:=by kernel_rfl
theorem row (os:Os) {H:Type} (enc:TypeId × Value->H):(OpenSpec.ofChange Rows.contractRefusesSpec).preRow enc Tryz.prog Tryz.f8 Rows.contractRefusesRow.domain false Rows.contractRefusesRow.laid ((laidWorld os).forCall (fun _ _=>0) ⟨#[],start,[]⟩).memory start:=by
 obtain ⟨places,hx⟩:=reads os enc;exact OpenSpec.preRow_of_cond 8 hx (by kernel_rfl) (fun k hk=>by cases hk) (hsz os enc) (laid_met os start)
set_option maxRecDepth 100000 in
theorem lifted (os:Os) (started:os.Started) (H:Type) (enc:TypeId × Value->H) (F:Stop.Interp) :
 ReturnsInHanded {} Tryz.checked os 8 .any ((OpenSpec.ofChange Rows.contractRefusesSpec).preRow enc Tryz.prog Tryz.f8 Rows.contractRefusesRow.domain false Rows.contractRefusesRow.laid) (((OpenSpec.ofChange Rows.contractRefusesSpec).at F).post enc Tryz.prog Tryz.f8 false true false false):=by
 refine returnsInHanded_of_row (C:=Tryz.checked) (s:=OpenSpec.ofChange Rows.contractRefusesSpec) own started hno Tryz.func8
  (witness_row_at (enc:=enc) (C:=Tryz.checked) false (laidWorld os) start rfl (hv os) (hr os) (hok os) (row os enc)) ?_
 intro W base args ds gs before hval hW _ _ _ hlaid _ _;exact contract H enc W base args ds gs before hval hW (laid_pow hlaid)
set_option maxRecDepth 100000 in
theorem said:Rows.ContractRefusesSaid:=
 OpenClaim.holds_of_cond 8 Tryz.f8 rfl rfl rfl rfl rfl rfl rfl ⟨rfl,rfl,rfl,rfl,rfl⟩ rfl rfl rfl rfl rfl (by kernel_rfl) Tryz.func8 closed
  (of_decide_eq_true (by kernel_rfl)) (by unfold Func.isWrapper;first | (rw [if_pos (by decide +kernel)];kernel_rfl) | (rw [if_neg (by decide +kernel)];exact ⟨rfl,rfl⟩))
  (fun os started H enc _ F=>by rw [OpenClaim.pre_eq_preRow];exact lifted os started H enc F)
theorem plain (f:FuncId) (fn:Func) (hf:Tryz.pinned.checked.prog.funcNamed "milepost/milepostlaw18.ContractRefuses"=some f) (hfn:Tryz.pinned.checked.prog.funcs[f]? = some fn) :
 false=Tryz.pinned.checked.prog.looks []/\∀ (j:Nat) t,fn.params[j]? = some t->Tryz.pinned.checked.prog.wantsStandIn t=false:=by
 obtain rfl:f=8:=Option.some.inj ((show Tryz.prog.funcNamed "milepost/milepostlaw18.ContractRefuses"=some 8 by kernel_rfl).symm.trans hf) |>.symm;obtain rfl:fn=Tryz.f8:=(Option.some.inj (Tryz.func8.symm.trans hfn)).symm;refine ⟨by kernel_rfl,fun j t ht=>?_⟩;rw [Tryz.params8] at ht;have hm:=Array.mem_of_getElem? ht;simp only [List.mem_toArray,List.mem_cons,List.not_mem_nil,or_false] at hm;rcases hm with rfl | rfl | rfl
 ·exact (show Tryz.prog.wantsStandIn 3=false by kernel_rfl)
 ·exact (show Tryz.prog.wantsStandIn 26=false by kernel_rfl)
 ·exact (show Tryz.prog.wantsStandIn 5=false by kernel_rfl)
theorem card:Rows.ContractRefusesCardSaid:=
 Claim7.holds_tied_plain_at .later [] _ _ _ _ said (fun _ h=>by cases h) (by kernel_rfl) (fun _ h=>by cases h) contractRefuses_row_tie rfl ⟨rfl,rfl⟩ (by kernel_rfl) rfl plain (by kernel_rfl)
end Go.Proofs.YthkkgdpomhhjjaaGreatDoor.ContractRefuses
namespace Go.Proofs.YthkkgdpomhhjjaaGreatDoor
theorem contractRefuses_proved:Rows.ContractRefusesCardSaid:=ContractRefuses.card
end Go.Proofs.YthkkgdpomhhjjaaGreatDoor
