/-
  Joined.
-/
import Derived.Test.YthkkgdpomhhjjaaGreatDoorQ17
namespace Go.Proofs.YthkkgdpomhhjjaaGreatDoor
section
open Go.RowKit Go.Maps
structure Asked (w:World) (g7:Nat) (l8:List TFile) (j:Nat) (nm:Name) (c:UInt8) (g0:Nat) (b:Value) (x:List UInt8):Prop where
 cell0:w.cell? ⟨g7,j*2,none⟩=some (.string nm)
 cell1:w.cell? ⟨g7,j*2+1,none⟩=some b
 rd:Rd w b x
 name:nm=sName c g0
 mem:nm∈l8.map (·.1)
 told:∀ p∈l8,p.1=nm->Rd w p.2.1 x
theorem Asked.below {w w':World} {g7:Nat} {l8:List TFile} {j:Nat} {nm:Name} {c:UInt8} {g0:Nat} {b:Value} {x:List UInt8} (h:Asked w g7 l8 j nm c g0 b x) (hb:Below w.heap.size w w'):Asked w' g7 l8 j nm c g0 b x:=
 ⟨cellBelow hb h.cell0,cellBelow hb h.cell1,h.rd.below hb,h.name,h.mem,fun p hp e=>(h.told p hp e).below hb⟩
theorem first_byte (c:UInt8) (l:List UInt8):∃ h:0 < (⟨(c::l).toArray⟩:ByteArray).size,(⟨(c::l).toArray⟩:ByteArray)[0]'h=c:=⟨Nat.succ_pos _,rfl⟩
theorem sName_first (c:UInt8) (k:Nat):∃ h:0 < (sName c k).size,(sName c k)[0]'h=c:=first_byte c (46::Lib.decDigits k)
theorem len_cons {α:Type} {us:List α} {n:Nat} (h:us.length=n+1):∃ a t,us=a::t/\t.length=n:=by
 match us,h with
 | a::t,h=>exact ⟨a,t,rfl,Nat.succ.inj h⟩
def asksRel (k bb xb xo:Nat) (vo vi gv hv xv:Value) (x:Vrt) (so si:List Edg):Nat->Value->World->Prop
 | 0,v,_=>v=.int .i64 0
 | 3,v,_=>v=.int .i64 0
 | 7,v,_=>v=.int .i64 0
 | 11,v,_=>v=vo
 | 12,v,_=>v=.agg #[gv,hv]
 | 13,v,_=>v=.int .u32 (k:Int)
 | 14,v,W=>RdE W v so
 | 15,v,_=>v=.bool true
 | 19,v,_=>v=vi
 | 20,v,_=>v=.agg #[gv,hv]
 | 21,v,_=>v=.int .u32 (k:Int)
 | 22,v,W=>RdE W v si
 | 23,v,_=>v=.bool true
 | 27,v,_=>v=.agg #[.int .u32 (x.r.toNat:Int), .int .u32 (x.l.toNat:Int), .int .u32 (x.g.toNat:Int)]
 | 28,v,_=>v=.pointer (some ⟨bb,1,none⟩)
 | 29,v,_=>v=xv
 | 30,v,_=>v=.int .u32 (k:Int)
 | 31,v,_=>v=.pointer (some ⟨xb,xo+k*3,none⟩)
 | 32,v,_=>v=.agg #[.int .u32 (x.r.toNat:Int), .int .u32 (x.l.toNat:Int), .int .u32 (x.g.toNat:Int)]
 | _,v,_=>v=.bool false
theorem asksRel_on {k bb xb xo:Nat} {vo vi gv hv xv:Value} {x:Vrt} {so si:List Edg} (i:Nat) (v:Value) (w w':World) (hb:Below w.heap.size w w') (h:asksRel k bb xb xo vo vi gv hv xv x so si i v w):asksRel k bb xb xo vo vi gv hv xv x so si i v w':=by
 match i,h with
 | 0,h=>exact h
 | 1,h=>exact h
 | 2,h=>exact h
 | 3,h=>exact h
 | 4,h=>exact h
 | 5,h=>exact h
 | 6,h=>exact h
 | 7,h=>exact h
 | 8,h=>exact h
 | 9,h=>exact h
 | 10,h=>exact h
 | 11,h=>exact h
 | 12,h=>exact h
 | 13,h=>exact h
 | 14,h=>exact RdE.below h hb
 | 15,h=>exact h
 | 16,h=>exact h
 | 17,h=>exact h
 | 18,h=>exact h
 | 19,h=>exact h
 | 20,h=>exact h
 | 21,h=>exact h
 | 22,h=>exact RdE.below h hb
 | 23,h=>exact h
 | 24,h=>exact h
 | 25,h=>exact h
 | 26,h=>exact h
 | 27,h=>exact h
 | 28,h=>exact h
 | 29,h=>exact h
 | 30,h=>exact h
 | 31,h=>exact h
 | 32,h=>exact h
 | 33,h=>exact h
 | _+34,h=>exact h
set_option maxRecDepth 100000 in
set_option maxHeartbeats 16000000 in
theorem storeMakes_any (HW:WriteSaid) {m:Nat} (HJS:JobSortSaid m) (hm:300<=m) {ev vv:Value} {es:List Edg} {vs:List Vrt} (gen:Int) (fr:Nat) (k:Nat) (i:Int) (w:World) (he:RdE w ev es) (hv:RdV w vv vs) (hf:fr < 256) (hk:k < 4294967296) (hi:-9223372036854775808<=i/\i < 9223372036854775808) (hp:PowAt w) :
 Calls Tryz.prog 3 #[.agg #[ev,vv, .int .i64 gen, .int .u8 (fr:Int)], .int .u32 (k:Int), .int .i64 i] w fun e w'=>e=.returned (.bool true)/\Below w.heap.size w w':=by
 have hworks:=Lib.hid (works13_any HW HJS (Nat.le_trans (by decide) hm));have HE:=Lib.hid he;have HV:=Lib.hid hv;have HP:=Lib.hid hp;have HB0:Hid (Below w.heap.size w (w.alloc (.cells #[ev,vv, .int .i64 gen, .int .u8 (fr:Int)] 25))):=Lib.hid ((Below.refl _ _).alloc (Nat.le_refl _) _);have HQ0:Hid ((w.alloc (.cells #[ev,vv, .int .i64 gen, .int .u8 (fr:Int)] 25)).heap[w.heap.size]? = some (.cells #[ev,vv, .int .i64 gen, .int .u8 (fr:Int)] 25)):=Lib.hid (heap_alloc_new w _);by_cases hvast:es.length<=300/\vs.length<=100
 ·obtain ⟨h1,h2⟩:=hvast;have HVAST:Hid (∀ W,Below w.heap.size w W->Calls Tryz.prog 10 #[.agg #[ev,vv, .int .i64 gen, .int .u8 (fr:Int)]] W fun e w'=>e=.returned (.bool false)/\Below W.heap.size W w'):=Lib.hid (fun W hW=>vast_no gen fr (HE.out.below hW) (HV.out.below hW) h1 h2);have HMADE:Hid (∀ W,Below w.heap.size w W->∀ g0:Nat,gen=(g0:Int)->g0<=1048576->Calls Tryz.prog 12 #[.agg #[ev,vv, .int .i64 gen, .int .u8 (fr:Int)]] W (NetMade W (8+fr % 40) g0 es vs)):=Lib.hid (fun W hW g0 hg hg'=>by
   rw [hg];exact madeNet_any HW HJS hm g0 fr (HE.out.below hW) (HV.out.below hW) h1 h2 hg' hf (HP.out.kept (hW.block _ HP.out.lt)))
  have HMOUT:Hid (∀ W,Below w.heap.size w W->gen < 0\/1048576 < gen->Calls Tryz.prog 12 #[.agg #[ev,vv, .int .i64 gen, .int .u8 (fr:Int)]] W fun e w'=>e=.returned (.tuple #[.pointer none, .pointer none, .bool false])/\Below W.heap.size W w'):=Lib.hid (fun W hW hg=>madeNet_out HW gen fr (HE.out.below hW) (HV.out.below hW) h1 h2 hg hf);obtain ⟨E,hE⟩:∃ E,E=es.length:=⟨_,rfl⟩;obtain ⟨V,hV⟩:∃ V,V=vs.length:=⟨_,rfl⟩;have HEL:=Lib.hid hE;have HVL:=Lib.hid hV;rw [<- hE] at h1;rw [<- hV] at h2;obtain ⟨ea,ec,hev,-⟩:=he;obtain ⟨va,vc,hvv,-⟩:=hv;rw [<- hE] at hev;rw [<- hV] at hvv;subst hev;subst hvv;clear hE hV hp;go_enter Tryz.func3,Tryz.ntmps3
  go_wp2_with fail
  generalize w.alloc (.cells #[.slice ea E ec, .slice va V vc, .int .i64 gen, .int .u8 (fr:Int)] 25)=W0 at *;have HK:Hid (∀ W,Below W0.heap.size W0 W->W.cell? ⟨w.heap.size,0,none⟩=some (.slice ea E ec)/\W.cell? ⟨w.heap.size,1,none⟩=some (.slice va V vc)/\W.cell? ⟨w.heap.size,2,none⟩=some (.int .i64 gen)/\W.cell? ⟨w.heap.size,3,none⟩=some (.int .u8 (fr:Int))):=Lib.hid (fun W hW=>by
   have hx:=(hW.block _ (lt_heap HQ0.out)).trans HQ0.out;refine ⟨?_,?_,?_,?_⟩<;>rw [cells_cell hx]<;>rfl)
  obtain ⟨bb,hbb⟩:∃ bb,bb=w.heap.size:=⟨_,rfl⟩;rw [<- hbb] at HK ⊢;clear hbb;refine (HVAST.out W0 HB0.out).mono ?_;rintro e W1 ⟨rfl,hb1⟩;have HBW:=Lib.hid hb1;have HW1:=Lib.hid (HB0.out.trans (hb1.mono HB0.out.size));obtain ⟨c0,c1,c2,c3⟩:=HK.out W1 hb1;clear hb1;by_cases hgen:gen < 0\/1048576 < gen
  ·have hmo:=Lib.hid (HMOUT.out W1 HW1.out hgen);clear hgen;go_wp2_with fail
   refine hmo.out.mono ?_;rintro e w3 ⟨rfl,hb3⟩;have HB3:=Lib.hid (HW1.out.trans (hb3.mono HW1.out.size));clear hb3 hmo c0 c1 c2 c3;go_wp2_with fail
   refine (hworks.out _).mono ?_;rintro e w4 ⟨rfl,hb4⟩;have HB4:=Lib.hid (HB3.out.trans (hb4.mono HB3.out.size));clear hb4;go_wp2;go_ret;exact ⟨rfl,HB4.out⟩
  ·obtain ⟨g0,hg0⟩:∃ g0:Nat,gen=(g0:Int):=⟨gen.toNat,by omega⟩;have HG1:Hid (g0<=1048576):=Lib.hid (by omega);have hma:=Lib.hid (HMADE.out W1 HW1.out g0 hg0 HG1.out);clear hgen HMADE HMOUT HVAST;subst hg0;go_wp2_with fail
   refine hma.out.mono ?_;rintro e w4 ⟨db,pb,gb,ob,ib,vb,d4,o4,L4,rfl,hh4,hr4,hg4⟩;obtain ⟨n,hn⟩:∃ n,n=8+fr % 40:=⟨_,rfl⟩;rw [<- hn] at hh4;clear hn;have HH4:=Lib.hid (hh4.rebase HBW.out);rw [<- HVL.out] at hg4;have HG4:=Lib.hid hg4;obtain ⟨f1,f2,f3⟩:=makeL_files L4 g0 es vs;have HFREE:Hid (∀ c,mget L4 (sName c g0)=none):=Lib.hid (fun c=>hr4.2.1 _ (nmX_ne c g0));have HNEED:Hid (need (makeL L4 g0 es vs)<=131072):=Lib.hid (Nat.le_trans (makeL_need _ _ _ _) (by have:=hr4.2.2;have:=HEL.out;have:=HVL.out;omega));have HLEN:Hid ((makeL L4 g0 es vs).length=4):=Lib.hid (by
    have hkk:(L4.map (·.1)).Nodup:=makeL_keys HFREE.out HH4.out.pool.keys;rw [makeL_len HFREE.out,rawL_one hr4 hkk])
   have HPG:Hid (∃ ps fl,mget (makeL L4 g0 es vs) nmX=some (.inl (ps,fl))):=Lib.hid (by
    obtain ⟨fl,h⟩:=hr4.1;exact ⟨_,fl,by rw [makeL_get _ _ _ _ _ (nmX_ne _ _).symm (nmX_ne _ _).symm (nmX_ne _ _).symm];exact h⟩)
   have HWHO:Hid (∀ x f,mget (makeL L4 g0 es vs) x=some f->x=nmX\/∃ ps,f=.inl (ps,true)):=Lib.hid (fun x f hx=>by
    by_cases e1:x=sName 101 g0
    ·rw [e1,f1] at hx;exact .inr ⟨_,(Option.some.inj hx).symm⟩
    ·by_cases e2:x=sName 114 g0
     ·rw [e2,f2] at hx;exact .inr ⟨_,(Option.some.inj hx).symm⟩
     ·by_cases e3:x=sName 118 g0
      ·rw [e3,f3] at hx;exact .inr ⟨_,(Option.some.inj hx).symm⟩
      ·left;rw [makeL_get _ _ _ _ _ e1 e2 e3] at hx;apply Classical.byContradiction;intro hne;rw [hr4.2.1 x hne] at hx;cases hx)
   have HFE:=Lib.hid f1;have HFR:=Lib.hid f2;have HFV:=Lib.hid f3;have HFR4:Hid (∀ b,w4.heap.size<=b->o4 b=none):=Lib.hid (fun b hb=>HH4.out.pool.fresh hb);generalize makeL L4 g0 es vs=LL at *;have hof:=Lib.hid (refOf_any (.slice ea E ec) (.slice va V vc) es vs w4 ((HE.out.below HB0.out).below HH4.out.below) ((HV.out.below HB0.out).below HH4.out.below) (by have:=HEL.out;omega) (by have:=HVL.out;omega));clear c0 c1 c2 c3;obtain ⟨c0,c1,c2,c3⟩:=HK.out w4 HH4.out.below;clear f1 f2 f3 hh4 hg4 hma;unfold ptrTo at *;go_wp2_with fail
   refine hof.out.mono ?_;rintro e w5 ⟨gv,hv5,rfl,hge5,hve5,hb5,hgn5,-⟩;have HGN5:=Lib.hid hgn5;clear hgn5;obtain ⟨N,hN⟩:∃ N,N=(bestOf false es).length:=⟨_,rfl⟩;have HNL:=Lib.hid hN;have hNl:N<=300:=by rw [hN];exact Nat.le_trans (bestOf_length _ _) (by have:=HEL.out;omega)
   have HGE5:=Lib.hid hge5;have HVE5:=Lib.hid hve5;obtain ⟨ga,gc,hgv,-⟩:=hge5;obtain ⟨ha,hc,hhv,-⟩:=hve5;rw [<- hN] at hgv;rw [<- HVL.out] at hhv;subst hgv;subst hhv;have HB5:=Lib.hid hb5;clear hb5 hof hN c0 c1 c2 c3;obtain ⟨c0,c1,c2,c3⟩:=HK.out w5 (HH4.out.below.trans (HB5.out.mono HH4.out.below.size));have hbl5:bb < w5.heap.size:=World.block_lt_of_cell? _ _ c0;have HB6:Hid (Below w5.heap.size w5 (w5.alloc (.cells #[.slice ga N gc, .slice ha V hc] 34))):=Lib.hid ((Below.refl _ _).alloc (Nat.le_refl _) _);have HQ6:Hid ((w5.alloc (.cells #[.slice ga N gc, .slice ha V hc] 34)).heap[w5.heap.size]? = some (.cells #[.slice ga N gc, .slice ha V hc] 34)):=Lib.hid (heap_alloc_new w5 _);go_wp2_with fail
   generalize w5.alloc (.cells #[.slice ga N gc, .slice ha V hc] 34)=W6 at *;have HFI:=Lib.hid (refFiles_any (.slice ga N gc) (.slice ha V hc) (bestOf false es) vs g0 W6 (HGE5.out.below HB6.out) (HVE5.out.below HB6.out) (by rw [<- HNL.out];omega) (by have:=HVL.out;omega) HG1.out);rw [bestOf_same,bestOf_turn] at HFI;have HKG:Hid (∀ W,Below W6.heap.size W6 W->W.cell? ⟨w5.heap.size,0,none⟩=some (.slice ga N gc)/\W.cell? ⟨w5.heap.size,1,none⟩=some (.slice ha V hc)):=Lib.hid (fun W hW=>by
    have hx:=(hW.block _ (lt_heap HQ6.out)).trans HQ6.out;refine ⟨?_,?_⟩<;>rw [cells_cell hx]<;>rfl)
   have HGE6:=Lib.hid (HGE5.out.below HB6.out);have HVE6:=Lib.hid (HVE5.out.below HB6.out);have HH6:=Lib.hid ((HH4.out.later HB5.out).later HB6.out);have HG6:=Lib.hid ((HG4.out.below HB5.out).below HB6.out);obtain ⟨bg,hbg⟩:∃ b,b=w5.heap.size:=⟨_,rfl⟩;rw [<- hbg] at HKG ⊢;have HBG:Hid (w4.heap.size<=bg):=Lib.hid (by rw [hbg];exact HB5.out.size);clear hbg HQ6 HB6 HGE5 HVE5 HH4 HG4 c0 c1 c2 c3 hbl5;refine HFI.out.mono ?_;rintro e w7 ⟨g7,b1,b2,b3,rfl,hq7,hr1,hr2,hr3,hb7⟩;have HB7:=Lib.hid hb7;have HH7:=Lib.hid (HH6.out.later hb7);have HG7:=Lib.hid (HG6.out.below hb7);have HQ7:=Lib.hid hq7;have HR7:=Lib.hid (And.intro hr1 (And.intro hr2 hr3));have hfi:=Lib.hid (kept_files HH7.out.kept (by rw [HLEN.out];decide));clear hb7 hq7 hr1 hr2 hr3 HFI HH6 HG6;unfold ptrTo at hfi;go_wp2_with fail
   refine hfi.out.mono ?_;rintro e w8 ⟨v8,l8,rfl,hfa8,hh8,hb8,hl8,-,hnm8,he8⟩;have HFA8:=Lib.hid hfa8;have HH8:=Lib.hid hh8.held;have HG8:=Lib.hid (HG7.out.below hb8);have HB8:=Lib.hid (HB7.out.trans (hb8.mono HB7.out.size));have HL8:Hid (l8.length=4):=Lib.hid (hl8.trans HLEN.out);have hasked:∀ (j:Nat) (nm:Name) (c:UInt8) (b:Value) (x:List UInt8),(w7.cell? ⟨g7,j*2,none⟩=some (.string nm)/\w7.cell? ⟨g7,j*2+1,none⟩=some b/\Rd w7 b x)->nm=sName c g0->(∃ ps,mget LL nm=some (.inl (ps,true))/\x=pagesFrom (tagOf nm) 0 ps)->Asked w8 g7 l8 j nm c g0 b x:=by
    rintro j nm c b x ⟨k1,k2,k3⟩ hnm ⟨ps,k4,k5⟩;refine ⟨cellBelow hb8 k1,cellBelow hb8 k2,k3.below hb8,hnm,by rw [hnm8,k4];rfl,fun p hp e=>?_⟩;have h6:=hh8.told he8 hp (ps:=ps) (by rw [e];exact k4);rw [e] at h6;have h7:=Rd_own (hfa8.each p hp);rw [h6,<- k5] at h7;exact h7
   have HASK:Hid (∀ j,j < 3->∃ nm c b x,Asked w8 g7 l8 j nm c g0 b x):=Lib.hid (fun j hj=>by
    match j,hj with
    | 0,_=>exact ⟨sName 101 g0,101,b1,_,hasked 0 _ _ _ _ ⟨by rw [cells_cell HQ7.out];rfl,by rw [cells_cell HQ7.out];rfl,HR7.out.1⟩ rfl ⟨_,HFE.out,rfl⟩⟩
    | 1,_=>exact ⟨sName 114 g0,114,b2,_,hasked 1 _ _ _ _ ⟨by rw [cells_cell HQ7.out];rfl,by rw [cells_cell HQ7.out];rfl,HR7.out.2.1⟩ rfl ⟨_,HFR.out,rfl⟩⟩
    | 2,_=>exact ⟨sName 118 g0,118,b3,_,hasked 2 _ _ _ _ ⟨by rw [cells_cell HQ7.out];rfl,by rw [cells_cell HQ7.out];rfl,HR7.out.2.2⟩ rfl ⟨_,HFV.out,rfl⟩⟩)
   clear hfa8 hh8 hb8 hl8 hnm8 he8 hfi HH7 HG7 HB7 HQ7 HR7 hasked;rcases HFA8.out.shape with ⟨hnil,-⟩ | ⟨g8,c8,hv8,-⟩
   ·have:=HL8.out;rw [hnil] at this;cases this
   rw [HL8.out] at hv8;subst hv8;have HNAME:Hid (∀ W,Below w8.heap.size w8 W->∀ c:UInt8,Calls Tryz.prog 18 #[.int .u8 (c.toNat:Int), .int .i64 (g0:Int)] W fun e w'=>e=.returned (.string (sName c g0))/\Below W.heap.size W w'):=Lib.hid (fun W hW c=>storeName_any c g0 ((HH8.out.gen HG1.out (HP.out.kept (HB0.out.block _ HP.out.lt))).below hW));have HFRG:Hid (∀ b,w4.heap.size<=b->o4 b=none):=Lib.hid (fun b hb=>HFR4.out b hb);have HGF:Hid (∀ b,(Value.slice ga N gc).ownBlock=some b->w4.heap.size<=b):=Lib.hid HGN5.out;have HGE8:=Lib.hid (HGE6.out.below HB8.out);have HKT:Hid (∀ W o' d',Moved (fun _=>False) n pb db w8 o4 d4 W o' d' LL->W.cell? ⟨bg,0,none⟩=some (.slice ga N gc)/\W.cell? ⟨bg,1,none⟩=some (.slice ha V hc)):=Lib.hid (fun W o' d' hmv=>by
    obtain ⟨k1,k2⟩:=HKG.out w8 HB8.out;exact ⟨hmv.cell k1 (HFRG.out bg HBG.out) (fun h=>h),hmv.cell k2 (HFRG.out bg HBG.out) (fun h=>h)⟩)
   go_wp2;go_loopw [13] (fun iv W=>∃ j:Nat,j<=3/\iv=.int .i64 (j:Int)/\Below w8.heap.size w8 W) (fun iv _=>3 - (intOf iv).toNat)
   case atStart=>exact ⟨0,Nat.zero_le _,rfl,Below.refl _ _⟩
   case round=>
    generalize wr=W at *;obtain ⟨j,hj,rfl,hbw⟩:=hrel;have HBW2:=Lib.hid hbw;clear hbw;by_cases hlt:j < 3
    ·obtain ⟨nm,c,b,x,hask⟩:=HASK.out j hlt;have HA:=Lib.hid (hask.below HBW2.out);have hfo:=Lib.hid (fileOf13_any (HFA8.out.below HBW2.out) (by rw [HL8.out];decide) nm hask.mem);clear hask HASK;obtain ⟨e0,e1⟩:=And.intro HA.out.cell0 HA.out.cell1;go_wp2_with fail
     refine hfo.out.mono ?_;rintro e w' ⟨p,hp,hpn,rfl,rfl⟩;have HQB:Hid (∀ W',Below W.heap.size W W'->Calls Tryz.prog 17 #[p.2.1,b] W' fun e w''=>e=.returned (.bool true)/\W'=w''):=Lib.hid (fun W' hW'=>eqBytes_same ((HA.out.told p hp hpn).below hW') (HA.out.rd.below hW'));have HNM:Hid (∀ W',Below W.heap.size W W'->Calls Tryz.prog 18 #[.int .u8 (c.toNat:Int), .int .i64 (g0:Int)] W' fun e w'=>e=.returned (.string (sName c g0))/\Below W'.heap.size W' w'):=Lib.hid (fun W' hW'=>HNAME.out W' (HBW2.out.trans (hW'.mono HBW2.out.size)) c);have HGC:Hid (∀ W',Below W.heap.size W W'->W'.cell? ⟨bb,2,none⟩=some (.int .i64 (g0:Int))):=Lib.hid (fun W' hW'=>(HK.out W' (((HH8.out.below).trans (HBW2.out.mono HH8.out.below.size)).trans (hW'.mono ((HH8.out.below).trans (HBW2.out.mono HH8.out.below.size)).size))).2.2.1);have hnm:=HA.out.name;clear hp hpn hfo e0 e1;generalize p.2.1=pv at *;subst hnm;have HFIRST:=Lib.hid (sName_first c g0);generalize sName c g0=nm at *;clear HNAME HFA8 HK HGE6 HVE6 HKG HFE HFR HFV HWHO HPG HFREE HE HV hworks HKT HGE8 HGF HFRG;go_wp2_with fail
     refine wq W ?_;iterate 8 (refine qo (fun K hK=>?_);go_simp;refine hK _ ?_;clear hK K)
     refine qo (fun K hK=>?_) (fun w' hw'=>by have z:=cellBelow hw' HA.out.cell1;go_simp<;>rfl);go_simp;refine hK _ ?_;clear hK K;refine qc (fun w' hw'=>(HQB.out w' hw').mono (fun e w'' h=>⟨h.1,h.2 ▸ hw'⟩)) (fun K hK=>?_);go_simp;refine hK _ ?_;clear hK K;iterate 7 (refine qo (fun K hK=>?_);go_simp;refine hK _ ?_;clear hK K)
     refine qo (fun K hK=>?_) (fun w' hw'=>by have z:=cellBelow hw' HA.out.cell0;go_simp<;>rfl);go_simp;refine hK _ ?_;clear hK K;refine q_op (v:=.int .u8 (c.toNat:Int)) rfl (fun w' hw'=>(by go_simp;obtain ⟨q1,q2⟩:=HFIRST.out;rw [dif_pos q1,q2];rfl)) (fun K hK=>?_);go_simp;refine hK _ ?_;clear hK K;refine qo (fun K hK=>?_);go_simp;refine hK _ ?_;clear hK K;refine qo (fun K hK=>?_) (fun w' hw'=>by have z:=HGC.out w' hw';go_simp<;>rfl);go_simp;refine hK _ ?_;clear hK K;refine qc (fun w' hw'=>(HNM.out w' hw').mono (fun e w'' h=>⟨h.1,hw'.trans (h.2.mono hw'.size)⟩)) (fun K hK=>?_);go_simp;refine hK _ ?_;clear hK K;iterate 4 (refine qo (fun K hK=>?_);go_simp;refine hK _ ?_;clear hK K)
     refine qo (fun K hK=>?_) (fun w' hw'=>by have z:=cellBelow hw' HA.out.cell0;go_simp<;>rfl);go_simp;refine hK _ ?_;clear hK K;iterate 2 (refine qo (fun K hK=>?_);go_simp;refine hK _ ?_;clear hK K)
     refine wpQuiet_nil ?_;intro W3 hb3;have HB3:=Lib.hid (HBW2.out.trans (hb3.mono HBW2.out.size));clear hb3;go_wp2;go_roundw
     case rel=>exact ⟨j+1,by omega,by go_num,HB3.out⟩
     case measure=>simp [intOf];omega
    ·obtain rfl:j=3:=by omega
     clear hlt hj HASK;have HHA:=Lib.hid (HH8.out.later HBW2.out);have hlo:=Lib.hid (held_loose HHA.out nmX HWHO.out HPG.out);unfold LoosePost ptrTo at hlo;go_wp2_with fail
     refine hlo.out.mono ?_;rintro e wA ⟨vl,nl,rfl,hpl,hbA⟩;have HBA:=Lib.hid (HBW2.out.trans (hbA.mono HBW2.out.size));obtain ⟨al,cl,hvl,hnl,hcl⟩:∃ al cl,vl=.slice al nl cl/\nl<=300000/\∀ i,i < nl->∃ gl,al=some ⟨gl,0,none⟩/\wA.cell? ⟨gl,i*2,none⟩=some (.string nmX):=by
      rcases hpl with ⟨rfl,rfl⟩ | ⟨gl,cl,rfl,h1,h2⟩
      ·exact ⟨_,_,rfl,Nat.zero_le _,fun i hi=>absurd hi (Nat.not_lt_zero _)⟩
      ·exact ⟨_,_,rfl,h1,fun i hi=>⟨gl,rfl,h2 i hi⟩⟩
     subst hvl;have HCL:=Lib.hid hcl;clear hpl hbA hlo hcl;go_wp2;go_loopw [17] (fun iv W=>∃ j:Nat,j<=nl/\iv=.int .i64 (j:Int)/\W=wA) (fun iv _=>nl - (intOf iv).toNat)
     case atStart=>exact ⟨0,Nat.zero_le _,rfl,rfl⟩
     case round=>
      obtain ⟨j,hj,rfl,rfl⟩:=hrel;by_cases hlt:j < nl
      ·obtain ⟨gl,rfl,hcl⟩:=HCL.out j hlt;unfold nmX at hcl;go_wp2;go_roundw
       case rel=>exact ⟨j+1,by omega,by go_num,trivial⟩
       case measure=>simp [intOf];omega
      ·obtain rfl:nl=j:=by omega
       clear hlt hj hnl HCL;have HHB:=Lib.hid (HH8.out.later HBA.out);have HGB:=Lib.hid (HG8.out.below HBA.out);have HSZ:Hid (∀ W',Below wr.heap.size wr W'->Calls Tryz.prog 20 #[ptrTo gb] W' fun e w'=>e=.returned (.int .i64 (V:Int))/\W'=w'):=Lib.hid (fun W' hW'=>graphSize_any (HGB.out.below hW'));have HKB0:Hid (∀ W',Below wr.heap.size wr W'->W'.cell? ⟨bb,1,none⟩=some (.slice va V vc)):=Lib.hid (fun W' hW'=>(HK.out W' (HHB.out.below.trans (hW'.mono HHB.out.below.size))).2.1);unfold ptrTo at HSZ;go_wp2_with fail
       refine wq wr ?_;iterate 5 (refine qo (fun K hK=>?_);go_simp;refine hK _ ?_;clear hK K)
       refine qc (fun w' hw'=>(HSZ.out w' hw').mono (fun e w'' h=>⟨h.1,h.2 ▸ hw'⟩)) (fun K hK=>?_);go_simp;refine hK _ ?_;clear hK K;refine qo (fun K hK=>?_);go_simp;refine hK _ ?_;clear hK K;refine qo (fun K hK=>?_) (fun w' hw'=>by have z:=HKB0.out w' hw';go_simp<;>rfl);go_simp;refine hK _ ?_;clear hK K;iterate 3 (refine qo (fun K hK=>?_);go_simp;refine hK _ ?_;clear hK K)
       refine wpQuiet_nil ?_;intro wB hbB;have HBB:=Lib.hid (HBA.out.trans (hbB.mono HBA.out.size));have HHC:=Lib.hid (HH8.out.later HBB.out);have HGC0:=Lib.hid (HG8.out.below HBB.out);have HMC:Hid (Moved (fun _=>False) n pb db w8 o4 d4 wB o4 d4 LL):=Lib.hid (Moved.ofBelow HH8.out.pool HBB.out);clear hbB HSZ HKB0 HHA HHB HGB HBA;by_cases hkV:k < V
       ·have Z1:Hid (decide (V<=k)=false):=Lib.hid (decide_eq_false (by omega));have hwk64:IntKind.i64.wrap (k:Int)=(k:Int):=wrap_in (by omega) (by omega);have hkL:k < vs.length:=by rw [<- HVL.out];exact hkV
        obtain ⟨x,hx⟩:∃ x,vs[k]? = some x:=⟨_,List.getElem?_eq_getElem hkL⟩;have hout:=Lib.hid (held_out HW HHC.out HNEED.out HGC0.out HFE.out (by have:=HEL.out;omega) hkV (by omega));unfold ptrTo at hout;go_wp2_with fail
        refine hout.out.mono ?_;rintro e w9 ⟨vo,d9,o9,rfl,hm9,hv9,hvf9⟩;have HM9:=Lib.hid (HMC.out.trans hm9 (fun _ _ h=>h));have HH9:=Lib.hid (HHC.out.moved hm9 (fun _ h=>h.elim));have HG9:=Lib.hid (HGC0.out.moved hm9);have HO9:=Lib.hid hv9;have HOF9:=Lib.hid hvf9;have hin:=Lib.hid (held_in HW HH9.out HNEED.out HG9.out HFR.out (by have:=HEL.out;omega) hkV (by omega));clear hm9 hv9 hvf9 hout HHC HGC0 HMC;unfold ptrTo at hin;go_wp2_with fail
        refine hin.out.mono ?_;rintro e wC ⟨vi,dC,oC,rfl,hmC,hvC,hvfC⟩;have HMC:=Lib.hid (HM9.out.trans hmC (fun _ _ h=>h));have HHD:=Lib.hid (HH9.out.moved hmC (fun _ h=>h.elim));have HGD:=Lib.hid (HG9.out.moved hmC);have HOC:=Lib.hid (hmC.ownsRow HO9.out (fun y hy=>⟨HOF9.out y hy,fun h=>h⟩));have HOFC:Hid (∀ y,vo.ownBlock=some y->oC y=none):=Lib.hid (fun y hy=>hmC.free (ownBlock_old HO9.out y hy).1 (HOF9.out y hy));have HIC:=Lib.hid hvC;have HIFC:=Lib.hid hvfC;have hgD:=HGD.out;rw [HVL.out] at hgD;have hve:=Lib.hid (held_vert HW HHD.out HNEED.out hgD HFV.out hkL hk);have hx':vs[k]=x:=by
         rw [List.getElem?_eq_getElem hkL] at hx;exact Option.some.inj hx
        rw [hx'] at hve;have HX:=Lib.hid hx;clear hmC hvC hvfC hin HM9 HH9 HG9 HO9 HOF9 hgD hx hx' hkL;unfold ptrTo vrtVal at hve;go_wp2_with fail
        refine hve.out.mono ?_;rintro e wD ⟨dD,oD,rfl,hmD⟩;have HMD:=Lib.hid (HMC.out.trans hmD (fun _ _ h=>h));have HOD:=Lib.hid (rdE_own (hmD.ownsRow HOC.out (fun y hy=>⟨HOFC.out y hy,fun h=>h⟩)));have HID:=Lib.hid (rdE_own (hmD.ownsRow HIC.out (fun y hy=>⟨HIFC.out y hy,fun h=>h⟩)));have HBX:Hid (Below wD.heap.size wD (wD.alloc (.cells #[.int .u32 (x.r.toNat:Int), .int .u32 (x.l.toNat:Int), .int .u32 (x.g.toNat:Int)] 55))):=Lib.hid ((Below.refl _ _).alloc (Nat.le_refl _) _);have HQX:Hid ((wD.alloc (.cells #[.int .u32 (x.r.toNat:Int), .int .u32 (x.l.toNat:Int), .int .u32 (x.g.toNat:Int)] 55)).heap[wD.heap.size]? = some (.cells #[.int .u32 (x.r.toNat:Int), .int .u32 (x.l.toNat:Int), .int .u32 (x.g.toNat:Int)] 55)):=Lib.hid (heap_alloc_new wD _);have HHX:=Lib.hid ((HHD.out.moved hmD (fun _ h=>h.elim)).later HBX.out);have HGX:=Lib.hid ((HGD.out.moved hmD).below HBX.out);have HMX:=Lib.hid (HMD.out.below HBX.out);have HVX:=Lib.hid ((HV.out.below HB0.out).below HHX.out.below);have HGRX:=Lib.hid (HGE8.out.moved HMX.out (fun b hb=>HFRG.out b (HGF.out b hb)));obtain ⟨kt0,kt1⟩:=HKT.out _ _ _ HMX.out;have kb1:=(HK.out _ HHX.out.below).2.1;have hqD:wD.heap.size < (wD.alloc (.cells #[.int .u32 (x.r.toNat:Int), .int .u32 (x.l.toNat:Int), .int .u32 (x.g.toNat:Int)] 55)).heap.size:=by simp
        have hz1:=Z1.out;clear hmD hve HHD HGD HMC HMD HOC HOFC HIC HIFC;obtain ⟨oa,oc,hos,-⟩:=HOD.out;obtain ⟨ia,ic,his,-⟩:=HID.out;subst hos;subst his;go_wp2_with fail
        generalize wD.alloc (.cells #[.int .u32 (x.r.toNat:Int), .int .u32 (x.l.toNat:Int), .int .u32 (x.g.toNat:Int)] 55)=WX at *;have HXB:Hid (∀ W',Below WX.heap.size WX W'->W'.cell? ⟨wD.heap.size,0,none⟩=some (.int .u32 (x.r.toNat:Int))/\W'.cell? ⟨wD.heap.size,1,none⟩=some (.int .u32 (x.l.toNat:Int))/\W'.cell? ⟨wD.heap.size,2,none⟩=some (.int .u32 (x.g.toNat:Int))):=Lib.hid (fun W' hW'=>by
         have hx:=(hW'.block _ (lt_heap HQX.out)).trans HQX.out;refine ⟨?_,?_,?_⟩<;>rw [cells_cell hx]<;>rfl)
        have HKB:Hid (∀ W',Below WX.heap.size WX W'->W'.cell? ⟨bb,1,none⟩=some (.slice va V vc)):=Lib.hid (fun W' hW'=>(HK.out W' (HHX.out.below.trans (hW'.mono HHX.out.below.size))).2.1);have HKGC:Hid (∀ W',Below WX.heap.size WX W'->W'.cell? ⟨bg,0,none⟩=some (.slice ga N gc)/\W'.cell? ⟨bg,1,none⟩=some (.slice ha V hc)):=Lib.hid (fun W' hW'=>by
         obtain ⟨k1,k2⟩:=HKT.out _ _ _ HMX.out;exact ⟨cellBelow hW' k1,cellBelow hW' k2⟩)
        obtain ⟨xb,xo,hxv,-⟩:=(rdV_cells HVX.out).2 WX (Below.refl _ _) k x HX.out;subst hxv;have HXV:Hid (∀ W',Below WX.heap.size WX W'->W'.cell? ⟨xb,xo+k*3,none⟩=some (.int .u32 (x.r.toNat:Int))/\W'.cell? ⟨xb,xo+k*3+1,none⟩=some (.int .u32 (x.l.toNat:Int))/\W'.cell? ⟨xb,xo+k*3+2,none⟩=some (.int .u32 (x.g.toNat:Int))):=Lib.hid (fun W' hW'=>by
         obtain ⟨b',o',e,g⟩:=(rdV_cells HVX.out).2 W' hW' k x HX.out;cases e;exact g)
        have hwk:IntKind.i64.wrap (k:Int)=(k:Int):=wrap_in (by omega) (by omega);have HODX:=Lib.hid (HOD.out.below HBX.out);have HIDX:=Lib.hid (HID.out.below HBX.out);have HGRX2:=Lib.hid HGRX.out;obtain ⟨ol,hol⟩:∃ q,q=(ofL false k (bestOf false es)).length:=⟨_,rfl⟩;obtain ⟨il,hil⟩:∃ q,q=(ofL true k (bestOf true es)).length:=⟨_,rfl⟩;rw [<- hol] at HODX HOD ⊢;rw [<- hil] at HIDX HID ⊢;clear hol hil HOD HID HBX HQX HVX HGRX HX hz1;generalize wD.heap.size=qD at *;have HROo:=Lib.hid (fun W' (hW':Below WX.heap.size WX W')=>refOut_any (.slice ga N gc) (.slice ha V hc) (bestOf false es) k W' (HGRX2.out.below hW') (by rw [<- HNL.out];omega));have HRIo:=Lib.hid (fun W' (hW':Below WX.heap.size WX W')=>refIn_any (.slice ga N gc) (.slice ha V hc) (bestOf false es) k W' (HGRX2.out.below hW') (by rw [<- HNL.out];omega));have HRO:Hid (∀ W',Below WX.heap.size WX W'->Calls Tryz.prog 25 #[.agg #[.slice ga N gc, .slice ha V hc], .int .u32 (k:Int)] W' (NewEdges W' (ofL false k (bestOf false es)))):=Lib.hid HROo.out;have HRI:Hid (∀ W',Below WX.heap.size WX W'->Calls Tryz.prog 26 #[.agg #[.slice ga N gc, .slice ha V hc], .int .u32 (k:Int)] W' (NewEdges W' (ofL true k (bestOf true es)))):=Lib.hid (fun W' hW'=>by rw [<- ofL_in];exact HRIo.out W' hW');have HSO:Hid (∀ W',Below WX.heap.size WX W'->∀ z,RdE W' z (ofL false k (bestOf false es))->Calls Tryz.prog 24 #[.slice oa ol oc,z] W' fun e w'=>e=.returned (.bool true)/\Below W'.heap.size W' w'):=Lib.hid (fun W' hW' z hz=>sameEdges_yes _ z _ W' (HODX.out.below hW') hz (Nat.le_trans (List.length_filter_le _ _) (by rw [<- HNL.out];omega)));have HSI:Hid (∀ W',Below WX.heap.size WX W'->∀ z,RdE W' z (ofL true k (bestOf true es))->Calls Tryz.prog 24 #[.slice ia il ic,z] W' fun e w'=>e=.returned (.bool true)/\Below W'.heap.size W' w'):=Lib.hid (fun W' hW' z hz=>sameEdges_yes _ z _ W' (HIDX.out.below hW') hz (Nat.le_trans (List.length_filter_le _ _) (by rw [best_len true false,<- HNL.out];omega)));clear HROo HRIo HGRX2 HODX HIDX;go_wp2;refine wp_region_relTail (Below WX.heap.size WX) (asksRel k bb xb xo (.slice oa ol oc) (.slice ia il ic) (.slice ga N gc) (.slice ha V hc) (.slice (some ⟨xb,xo,none⟩) V vc) x (ofL false k (bestOf false es)) (ofL true k (bestOf true es))) 34 (by kernel_rfl) (by kernel_rfl) (Below.refl _ _).drew (fun w1 w2 h1 h2=>h1.trans (h2.mono h1.size)) asksRel_on ?_ ?_
        ·intro i o ho a W hC hdep;match i,ho with
         | 0,ho=>
           cases ho;have h0:=hdep.old 19 rfl rfl;refine ⟨rfl,step_val (v:=.int .i64 0) (w':=W) ?_ (Below.refl _ _) rfl⟩;go_simp
         | 1,ho=>
           cases ho;obtain ⟨u,hu,rfl⟩:=hdep.get 0 rfl rfl rfl;refine ⟨rfl,step_val (v:=.bool false) (w':=W) ?_ (Below.refl _ _) rfl⟩;go_simp
         | 2,ho=>
           cases ho;obtain ⟨u,hu,rfl⟩:=hdep.get 1 rfl rfl rfl;refine ⟨rfl,step_val (v:=.bool false) (w':=W) ?_ (Below.refl _ _) rfl⟩;go_simp
         | 3,ho=>
           cases ho;obtain ⟨ug,hug,rfl⟩:=hdep.get 2 rfl rfl rfl;have h0:=hdep.old 21 rfl rfl;refine ⟨want_of rfl rfl rfl hug,step_val (v:=.int .i64 0) (w':=W) ?_ (Below.refl _ _) rfl⟩;go_simp
         | 4,ho=>
           cases ho;obtain ⟨ug,hug,rfl⟩:=hdep.get 2 rfl rfl rfl;obtain ⟨u,hu,rfl⟩:=hdep.get 3 rfl rfl rfl;refine ⟨want_of rfl rfl rfl hug,step_val (v:=.bool false) (w':=W) ?_ (Below.refl _ _) rfl⟩;go_simp
         | 5,ho=>
           cases ho;obtain ⟨u,hu,rfl⟩:=hdep.get 2 rfl rfl rfl;obtain ⟨z,hz,rfl⟩:=hdep.get 4 rfl rfl rfl;refine ⟨rfl,step_val (v:=.bool false) (w':=W) ?_ (Below.refl _ _) rfl⟩;go_simp
         | 6,ho=>
           cases ho;obtain ⟨u,hu,rfl⟩:=hdep.get 5 rfl rfl rfl;refine ⟨rfl,step_val (v:=.bool false) (w':=W) ?_ (Below.refl _ _) rfl⟩;go_simp
         | 7,ho=>
           cases ho;obtain ⟨ug,hug,rfl⟩:=hdep.get 6 rfl rfl rfl;have h0:=hdep.old 23 rfl rfl;refine ⟨want_of rfl rfl rfl hug,step_val (v:=.int .i64 0) (w':=W) ?_ (Below.refl _ _) rfl⟩;go_simp
         | 8,ho=>
           cases ho;obtain ⟨ug,hug,rfl⟩:=hdep.get 6 rfl rfl rfl;obtain ⟨u,hu,rfl⟩:=hdep.get 7 rfl rfl rfl;refine ⟨want_of rfl rfl rfl hug,step_val (v:=.bool false) (w':=W) ?_ (Below.refl _ _) rfl⟩;go_simp
         | 9,ho=>
           cases ho;obtain ⟨u,hu,rfl⟩:=hdep.get 6 rfl rfl rfl;obtain ⟨z,hz,rfl⟩:=hdep.get 8 rfl rfl rfl;refine ⟨rfl,step_val (v:=.bool false) (w':=W) ?_ (Below.refl _ _) rfl⟩;go_simp
         | 10,ho=>
           cases ho;obtain ⟨u,hu,rfl⟩:=hdep.get 9 rfl rfl rfl;refine ⟨rfl,step_val (v:=.bool false) (w':=W) ?_ (Below.refl _ _) rfl⟩;go_simp
         | 11,ho=>
           cases ho;obtain ⟨ug,hug,rfl⟩:=hdep.get 10 rfl rfl rfl;have h0:=hdep.old 18 rfl rfl;refine ⟨want_of rfl rfl rfl hug,step_val (v:=.slice oa ol oc) (w':=W) ?_ (Below.refl _ _) rfl⟩;go_simp
         | 12,ho=>
           cases ho;obtain ⟨ug,hug,rfl⟩:=hdep.get 10 rfl rfl rfl;have h0:=hdep.old 10 rfl rfl;obtain ⟨k0,k1⟩:=HKGC.out W hC;refine ⟨want_of rfl rfl rfl hug,step_val (v:=.agg #[.slice ga N gc, .slice ha V hc]) (w':=W) ?_ (Below.refl _ _) rfl⟩;go_simp
         | 13,ho=>
           cases ho;obtain ⟨ug,hug,rfl⟩:=hdep.get 10 rfl rfl rfl;have h0:=hdep.old 1 rfl rfl;refine ⟨want_of rfl rfl rfl hug,step_val (v:=.int .u32 (k:Int)) (w':=W) ?_ (Below.refl _ _) rfl⟩;go_simp
         | 14,ho=>
           cases ho;obtain ⟨ug,hug,rfl⟩:=hdep.get 10 rfl rfl rfl;obtain ⟨u,hu,rfl⟩:=hdep.get 12 rfl rfl rfl;obtain ⟨z,hz,rfl⟩:=hdep.get 13 rfl rfl rfl;refine ⟨want_of rfl rfl rfl hug,step_call (f:=25) (args:=#[.agg #[.slice ga N gc, .slice ha V hc], .int .u32 (k:Int)]) ?_ ((HRO.out W hC).mono ?_)⟩
           ·go_simp
           ·rintro e w' ⟨v,rfl,h1,h2⟩;exact ⟨v,rfl,h2,rdE_own h1⟩
         | 15,ho=>
           cases ho;obtain ⟨ug,hug,rfl⟩:=hdep.get 10 rfl rfl rfl;obtain ⟨u,hu,rfl⟩:=hdep.get 11 rfl rfl rfl;obtain ⟨z,hz,hzr⟩:=hdep.get 14 rfl rfl rfl;refine ⟨want_of rfl rfl rfl hug,step_call (f:=24) (args:=#[.slice oa ol oc,z]) ?_ ((HSO.out W hC z hzr).mono ?_)⟩
           ·go_simp
           ·rintro e w' ⟨rfl,h2⟩;exact ⟨_,rfl,h2,rfl⟩
         | 16,ho=>
           cases ho;obtain ⟨ug,hug,rfl⟩:=hdep.get 10 rfl rfl rfl;obtain ⟨u,hu,rfl⟩:=hdep.get 15 rfl rfl rfl;refine ⟨want_of rfl rfl rfl hug,step_val (v:=.bool false) (w':=W) ?_ (Below.refl _ _) rfl⟩;go_simp
         | 17,ho=>
           cases ho;obtain ⟨u,hu,rfl⟩:=hdep.get 10 rfl rfl rfl;obtain ⟨z,hz,rfl⟩:=hdep.get 16 rfl rfl rfl;refine ⟨rfl,step_val (v:=.bool false) (w':=W) ?_ (Below.refl _ _) rfl⟩;go_simp
         | 18,ho=>
           cases ho;obtain ⟨u,hu,rfl⟩:=hdep.get 17 rfl rfl rfl;refine ⟨rfl,step_val (v:=.bool false) (w':=W) ?_ (Below.refl _ _) rfl⟩;go_simp
         | 19,ho=>
           cases ho;obtain ⟨ug,hug,rfl⟩:=hdep.get 18 rfl rfl rfl;have h0:=hdep.old 20 rfl rfl;refine ⟨want_of rfl rfl rfl hug,step_val (v:=.slice ia il ic) (w':=W) ?_ (Below.refl _ _) rfl⟩;go_simp
         | 20,ho=>
           cases ho;obtain ⟨ug,hug,rfl⟩:=hdep.get 18 rfl rfl rfl;have h0:=hdep.old 10 rfl rfl;obtain ⟨k0,k1⟩:=HKGC.out W hC;refine ⟨want_of rfl rfl rfl hug,step_val (v:=.agg #[.slice ga N gc, .slice ha V hc]) (w':=W) ?_ (Below.refl _ _) rfl⟩;go_simp
         | 21,ho=>
           cases ho;obtain ⟨ug,hug,rfl⟩:=hdep.get 18 rfl rfl rfl;have h0:=hdep.old 1 rfl rfl;refine ⟨want_of rfl rfl rfl hug,step_val (v:=.int .u32 (k:Int)) (w':=W) ?_ (Below.refl _ _) rfl⟩;go_simp
         | 22,ho=>
           cases ho;obtain ⟨ug,hug,rfl⟩:=hdep.get 18 rfl rfl rfl;obtain ⟨u,hu,rfl⟩:=hdep.get 20 rfl rfl rfl;obtain ⟨z,hz,rfl⟩:=hdep.get 21 rfl rfl rfl;refine ⟨want_of rfl rfl rfl hug,step_call (f:=26) (args:=#[.agg #[.slice ga N gc, .slice ha V hc], .int .u32 (k:Int)]) ?_ ((HRI.out W hC).mono ?_)⟩
           ·go_simp
           ·rintro e w' ⟨v,rfl,h1,h2⟩;exact ⟨v,rfl,h2,rdE_own h1⟩
         | 23,ho=>
           cases ho;obtain ⟨ug,hug,rfl⟩:=hdep.get 18 rfl rfl rfl;obtain ⟨u,hu,rfl⟩:=hdep.get 19 rfl rfl rfl;obtain ⟨z,hz,hzr⟩:=hdep.get 22 rfl rfl rfl;refine ⟨want_of rfl rfl rfl hug,step_call (f:=24) (args:=#[.slice ia il ic,z]) ?_ ((HSI.out W hC z hzr).mono ?_)⟩
           ·go_simp
           ·rintro e w' ⟨rfl,h2⟩;exact ⟨_,rfl,h2,rfl⟩
         | 24,ho=>
           cases ho;obtain ⟨ug,hug,rfl⟩:=hdep.get 18 rfl rfl rfl;obtain ⟨u,hu,rfl⟩:=hdep.get 23 rfl rfl rfl;refine ⟨want_of rfl rfl rfl hug,step_val (v:=.bool false) (w':=W) ?_ (Below.refl _ _) rfl⟩;go_simp
         | 25,ho=>
           cases ho;obtain ⟨u,hu,rfl⟩:=hdep.get 18 rfl rfl rfl;obtain ⟨z,hz,rfl⟩:=hdep.get 24 rfl rfl rfl;refine ⟨rfl,step_val (v:=.bool false) (w':=W) ?_ (Below.refl _ _) rfl⟩;go_simp
         | 26,ho=>
           cases ho;obtain ⟨u,hu,rfl⟩:=hdep.get 25 rfl rfl rfl;refine ⟨rfl,step_val (v:=.bool false) (w':=W) ?_ (Below.refl _ _) rfl⟩;go_simp
         | 27,ho=>
           cases ho;obtain ⟨ug,hug,rfl⟩:=hdep.get 26 rfl rfl rfl;have h0:=hdep.old 22 rfl rfl;obtain ⟨k0,k1,k2⟩:=HXB.out W hC;refine ⟨want_of rfl rfl rfl hug,step_val (v:=.agg #[.int .u32 (x.r.toNat:Int), .int .u32 (x.l.toNat:Int), .int .u32 (x.g.toNat:Int)]) (w':=W) ?_ (Below.refl _ _) rfl⟩;go_simp
         | 28,ho=>
           cases ho;obtain ⟨ug,hug,rfl⟩:=hdep.get 26 rfl rfl rfl;have h0:=hdep.old 3 rfl rfl;refine ⟨want_of rfl rfl rfl hug,step_val (v:=.pointer (some ⟨bb,1,none⟩)) (w':=W) ?_ (Below.refl _ _) rfl⟩;go_simp
         | 29,ho=>
           cases ho;obtain ⟨ug,hug,rfl⟩:=hdep.get 26 rfl rfl rfl;obtain ⟨u,hu,rfl⟩:=hdep.get 28 rfl rfl rfl;have k0:=HKB.out W hC;refine ⟨want_of rfl rfl rfl hug,step_val (v:=.slice (some ⟨xb,xo,none⟩) V vc) (w':=W) ?_ (Below.refl _ _) rfl⟩;go_simp
         | 30,ho=>
           cases ho;obtain ⟨ug,hug,rfl⟩:=hdep.get 26 rfl rfl rfl;have h0:=hdep.old 1 rfl rfl;refine ⟨want_of rfl rfl rfl hug,step_val (v:=.int .u32 (k:Int)) (w':=W) ?_ (Below.refl _ _) rfl⟩;go_simp
         | 31,ho=>
           cases ho;obtain ⟨ug,hug,rfl⟩:=hdep.get 26 rfl rfl rfl;obtain ⟨u,hu,rfl⟩:=hdep.get 29 rfl rfl rfl;obtain ⟨z,hz,rfl⟩:=hdep.get 30 rfl rfl rfl;have y1:=hkV;have y2:=hwk;refine ⟨want_of rfl rfl rfl hug,step_val (v:=.pointer (some ⟨xb,xo+k*3,none⟩)) (w':=W) ?_ (Below.refl _ _) rfl⟩;go_simp
         | 32,ho=>
           cases ho;obtain ⟨ug,hug,rfl⟩:=hdep.get 26 rfl rfl rfl;obtain ⟨u,hu,rfl⟩:=hdep.get 31 rfl rfl rfl;obtain ⟨k0,k1,k2⟩:=HXV.out W hC;refine ⟨want_of rfl rfl rfl hug,step_val (v:=.agg #[.int .u32 (x.r.toNat:Int), .int .u32 (x.l.toNat:Int), .int .u32 (x.g.toNat:Int)]) (w':=W) ?_ (Below.refl _ _) rfl⟩;go_simp
         | 33,ho=>
           cases ho;obtain ⟨ug,hug,rfl⟩:=hdep.get 26 rfl rfl rfl;obtain ⟨u,hu,rfl⟩:=hdep.get 27 rfl rfl rfl;obtain ⟨z,hz,rfl⟩:=hdep.get 32 rfl rfl rfl;refine ⟨want_of rfl rfl rfl hug,step_val (v:=.bool false) (w':=W) ?_ (Below.refl _ _) rfl⟩;go_simp
         | _+34,ho=>cases ho
        ·intro us wY hbY hlen hu;have HBY:=Lib.hid hbY;have hl0:us.length=34:=hlen;clear hlen;obtain ⟨ux0,ut0,e0,hl1⟩:=len_cons hl0;obtain ⟨ux1,ut1,e1,hl2⟩:=len_cons hl1;obtain ⟨ux2,ut2,e2,hl3⟩:=len_cons hl2;obtain ⟨ux3,ut3,e3,hl4⟩:=len_cons hl3;obtain ⟨ux4,ut4,e4,hl5⟩:=len_cons hl4;obtain ⟨ux5,ut5,e5,hl6⟩:=len_cons hl5;obtain ⟨ux6,ut6,e6,hl7⟩:=len_cons hl6;obtain ⟨ux7,ut7,e7,hl8⟩:=len_cons hl7;obtain ⟨ux8,ut8,e8,hl9⟩:=len_cons hl8;obtain ⟨ux9,ut9,e9,hl10⟩:=len_cons hl9;obtain ⟨ux10,ut10,e10,hl11⟩:=len_cons hl10;obtain ⟨ux11,ut11,e11,hl12⟩:=len_cons hl11;obtain ⟨ux12,ut12,e12,hl13⟩:=len_cons hl12;obtain ⟨ux13,ut13,e13,hl14⟩:=len_cons hl13;obtain ⟨ux14,ut14,e14,hl15⟩:=len_cons hl14;obtain ⟨ux15,ut15,e15,hl16⟩:=len_cons hl15;obtain ⟨ux16,ut16,e16,hl17⟩:=len_cons hl16;obtain ⟨ux17,ut17,e17,hl18⟩:=len_cons hl17;obtain ⟨ux18,ut18,e18,hl19⟩:=len_cons hl18;obtain ⟨ux19,ut19,e19,hl20⟩:=len_cons hl19;obtain ⟨ux20,ut20,e20,hl21⟩:=len_cons hl20;obtain ⟨ux21,ut21,e21,hl22⟩:=len_cons hl21;obtain ⟨ux22,ut22,e22,hl23⟩:=len_cons hl22;obtain ⟨ux23,ut23,e23,hl24⟩:=len_cons hl23;obtain ⟨ux24,ut24,e24,hl25⟩:=len_cons hl24;obtain ⟨ux25,ut25,e25,hl26⟩:=len_cons hl25;obtain ⟨ux26,ut26,e26,hl27⟩:=len_cons hl26;obtain ⟨ux27,ut27,e27,hl28⟩:=len_cons hl27;obtain ⟨ux28,ut28,e28,hl29⟩:=len_cons hl28;obtain ⟨ux29,ut29,e29,hl30⟩:=len_cons hl29;obtain ⟨ux30,ut30,e30,hl31⟩:=len_cons hl30;obtain ⟨ux31,ut31,e31,hl32⟩:=len_cons hl31;obtain ⟨ux32,ut32,e32,hl33⟩:=len_cons hl32;obtain ⟨ux33,ut33,e33,hl34⟩:=len_cons hl33;have e34:=List.eq_nil_of_length_eq_zero hl34;subst e34;clear hl34;subst e33;clear hl33;subst e32;clear hl32;subst e31;clear hl31;subst e30;clear hl30;subst e29;clear hl29;subst e28;clear hl28;subst e27;clear hl27;subst e26;clear hl26;subst e25;clear hl25;subst e24;clear hl24;subst e23;clear hl23;subst e22;clear hl22;subst e21;clear hl21;subst e20;clear hl20;subst e19;clear hl19;subst e18;clear hl18;subst e17;clear hl17;subst e16;clear hl16;subst e15;clear hl15;subst e14;clear hl14;subst e13;clear hl13;subst e12;clear hl12;subst e11;clear hl11;subst e10;clear hl10;subst e9;clear hl9;subst e8;clear hl8;subst e7;clear hl7;subst e6;clear hl6;subst e5;clear hl5;subst e4;clear hl4;subst e3;clear hl3;subst e2;clear hl2;subst e1;clear hl1;subst e0;clear hl0
         ·skip
          obtain rfl:=hu 0 ux0 rfl;obtain rfl:=hu 1 ux1 rfl;obtain rfl:=hu 2 ux2 rfl;obtain rfl:=hu 3 ux3 rfl;obtain rfl:=hu 4 ux4 rfl;obtain rfl:=hu 5 ux5 rfl;obtain rfl:=hu 6 ux6 rfl;obtain rfl:=hu 7 ux7 rfl;obtain rfl:=hu 8 ux8 rfl;obtain rfl:=hu 9 ux9 rfl;obtain rfl:=hu 10 ux10 rfl;obtain rfl:=hu 11 ux11 rfl;obtain rfl:=hu 12 ux12 rfl;obtain rfl:=hu 13 ux13 rfl;obtain rfl:=hu 15 ux15 rfl;obtain rfl:=hu 16 ux16 rfl;obtain rfl:=hu 17 ux17 rfl;obtain rfl:=hu 18 ux18 rfl;obtain rfl:=hu 19 ux19 rfl;obtain rfl:=hu 20 ux20 rfl;obtain rfl:=hu 21 ux21 rfl;obtain rfl:=hu 23 ux23 rfl;obtain rfl:=hu 24 ux24 rfl;obtain rfl:=hu 25 ux25 rfl;obtain rfl:=hu 26 ux26 rfl;obtain rfl:=hu 27 ux27 rfl;obtain rfl:=hu 28 ux28 rfl;obtain rfl:=hu 29 ux29 rfl;obtain rfl:=hu 30 ux30 rfl;obtain rfl:=hu 31 ux31 rfl;obtain rfl:=hu 32 ux32 rfl;obtain rfl:=hu 33 ux33 rfl;obtain ⟨z14,z22⟩:RdE wY ux14 (ofL false k (bestOf false es))/\RdE wY ux22 (ofL true k (bestOf true es)):=⟨hu 14 ux14 rfl,hu 22 ux22 rfl⟩;clear hu hbY z14 z22;simp only [relPut,List.take_succ_cons,List.take_zero,List.drop_succ_cons,List.drop_zero];go_simp;obtain ⟨wT,hwT⟩:∃ w,w=wY:=⟨_,rfl⟩;have HHT:=Lib.hid (HHX.out.later HBY.out);have HGT:=Lib.hid (HGX.out.below HBY.out);have HMT:=Lib.hid (HMX.out.below HBY.out);rw [<- hwT] at HHT HGT HMT ⊢;clear hwT HBY HHX HGX HMX HRO HRI HSO HSI HXB HKB HXV HKGC;obtain ⟨o9T,ho9⟩:∃ q,q=oD:=⟨_,rfl⟩;obtain ⟨d9T,hd9⟩:∃ q,q=dD:=⟨_,rfl⟩;rw [<- ho9,<- hd9] at HHT HMT;rw [<- ho9] at HGT;clear ho9 hd9;have hed:=Lib.hid (held_edges HW HHT.out HNEED.out HGT.out HFE.out);rw [<- HNL.out] at hed;obtain ⟨kt0,kt1⟩:=HKT.out wT o9T d9T HMT.out;unfold ptrTo at hed;go_wp2_with fail
          refine hed.out.mono ?_;rintro e wE ⟨dE,oE,rfl,hmE⟩;have HHE:=Lib.hid (HHT.out.moved hmE (fun _ h=>h.elim));have HGE:=Lib.hid (HGT.out.moved hmE);have HME:=Lib.hid (HMT.out.trans hmE (fun _ _ h=>h));clear hmE hed HHT HGT HMT kt0 kt1;obtain ⟨kt0,kt1⟩:=HKT.out wE oE dE HME.out;by_cases hin:i < 0
          ·have HN:=Lib.hid (held_edge_neg HHE.out HGE.out hin);have hd1:decide (i < 0)=true:=decide_eq_true hin;clear hin;unfold ptrTo edgVal at HN;go_wp2_with fail
           refine HN.out.mono ?_;rintro e wF ⟨dF,oF,rfl,hmF⟩;have HHF:=Lib.hid ((HHE.out.moved hmF (fun _ h=>h.elim)).later ((Below.refl _ _).alloc (Nat.le_refl _) (.cells #[.int .u32 0, .int .u32 0, .int .u64 0, .int .u32 0] 64)));have HBF:=Lib.hid (HB0.out.trans (HHF.out.below.mono HB0.out.size));clear hmF HN HHE HGE kt0 kt1;simp only [edg0];go_wp2_with fail
           refine (hworks.out _).mono ?_;rintro e wz ⟨rfl,hbz⟩;have HBZ:=Lib.hid (HBF.out.trans (hbz.mono HBF.out.size));clear hbz;go_wp2;go_ret;exact ⟨rfl,HBZ.out⟩
          ·have hd1:decide (i < 0)=false:=decide_eq_false hin;obtain ⟨q,hq⟩:∃ q:Nat,i=(q:Int):=⟨i.toNat,by omega⟩;have hq63:q < 9223372036854775808:=by omega
           subst hq;clear hin hd1;by_cases hqN:N<=q
           ·have HN:=Lib.hid (held_edge_out HW HHE.out HNEED.out HGE.out HFE.out (i:=q) (by rw [<- HNL.out];exact hqN) hq63);have Z1:Hid (decide (N<=q)=true):=Lib.hid (decide_eq_true hqN);clear hqN hq63;unfold ptrTo edgVal at HN;go_wp2_with fail
            refine HN.out.mono ?_;rintro e wF ⟨dF,oF,rfl,hmF⟩;have HHF:=Lib.hid ((HHE.out.moved hmF (fun _ h=>h.elim)).later ((Below.refl _ _).alloc (Nat.le_refl _) (.cells #[.int .u32 0, .int .u32 0, .int .u64 0, .int .u32 0] 64)));have HBF:=Lib.hid (HB0.out.trans (HHF.out.below.mono HB0.out.size));have hz:=Z1.out;clear hmF HN HHE HGE kt0 kt1;simp only [edg0];go_wp2_with fail
            refine (hworks.out _).mono ?_;rintro e wz ⟨rfl,hbz⟩;have HBZ:=Lib.hid (HBF.out.trans (hbz.mono HBF.out.size));clear hbz;go_wp2;go_ret;exact ⟨rfl,HBZ.out⟩
           ·obtain ⟨y,hy⟩:∃ y,(bestOf false es)[q]? = some y:=⟨_,List.getElem?_eq_getElem (by rw [<- HNL.out];omega)⟩;have HN:=Lib.hid (held_edge HW HHE.out HNEED.out HGE.out HFE.out hy);have HGR:=Lib.hid (HGE8.out.moved HME.out (fun b hb=>HFRG.out b (HGF.out b hb)));have Z1:Hid (decide (N<=q)=false):=Lib.hid (decide_eq_false hqN);have HQN:Hid (q < N):=Lib.hid (by omega);clear hqN hq63;unfold ptrTo edgVal at HN;go_wp2_with fail
            refine HN.out.mono ?_;rintro e wF ⟨dF,oF,rfl,hmF⟩;have HMF:=Lib.hid (HME.out.trans hmF (fun _ _ h=>h));have HBX:Hid (Below wF.heap.size wF (wF.alloc (.cells #[.int .u32 (y.t.toNat:Int), .int .u32 (y.h.toNat:Int), .int .u64 (y.x.toNat:Int), .int .u32 (y.m.toNat:Int)] 64))):=Lib.hid ((Below.refl _ _).alloc (Nat.le_refl _) _);have HQX:Hid ((wF.alloc (.cells #[.int .u32 (y.t.toNat:Int), .int .u32 (y.h.toNat:Int), .int .u64 (y.x.toNat:Int), .int .u32 (y.m.toNat:Int)] 64)).heap[wF.heap.size]? = some (.cells #[.int .u32 (y.t.toNat:Int), .int .u32 (y.h.toNat:Int), .int .u64 (y.x.toNat:Int), .int .u32 (y.m.toNat:Int)] 64)):=Lib.hid (heap_alloc_new wF _);have HHF:=Lib.hid ((HHE.out.moved hmF (fun _ h=>h.elim)).later HBX.out);have HBF:=Lib.hid (HB0.out.trans (HHF.out.below.mono HB0.out.size));have HY:=Lib.hid hy;have hz:=Z1.out;clear hmF HN HHE HGE kt0 kt1 hy;go_wp2_with fail
            generalize wF.alloc (.cells #[.int .u32 (y.t.toNat:Int), .int .u32 (y.h.toNat:Int), .int .u64 (y.x.toNat:Int), .int .u32 (y.m.toNat:Int)] 64)=WX at *;have HXC:Hid (∀ W',Below WX.heap.size WX W'->(W'.cell? ⟨wF.heap.size,0,none⟩=some (.int .u32 (y.t.toNat:Int))/\W'.cell? ⟨wF.heap.size,1,none⟩=some (.int .u32 (y.h.toNat:Int))/\W'.cell? ⟨wF.heap.size,2,none⟩=some (.int .u64 (y.x.toNat:Int))/\W'.cell? ⟨wF.heap.size,3,none⟩=some (.int .u32 (y.m.toNat:Int)))):=Lib.hid (fun W' hW'=>by
             have hx:=(hW'.block _ (lt_heap HQX.out)).trans HQX.out;refine ⟨?_,?_,?_,?_⟩<;>rw [cells_cell hx]<;>rfl)
            have HKX:Hid (∀ W',Below WX.heap.size WX W'->W'.cell? ⟨bg,0,none⟩=some (.slice ga N gc)):=Lib.hid (fun W' hW'=>cellBelow hW' (cellBelow HBX.out (HKT.out wF oF dF HMF.out).1));have HGX:=Lib.hid ((HGE8.out.moved HMF.out (fun b hb=>HFRG.out b (HGF.out b hb))).below HBX.out);obtain ⟨qb,qof,hgx,-⟩:=(rdE_cells HGX.out).2 WX (Below.refl _ _) q y HY.out;subst hgx;have HGC:Hid (∀ W',Below WX.heap.size WX W'->W'.cell? ⟨qb,qof+q*4,none⟩=some (.int .u32 (y.t.toNat:Int))/\W'.cell? ⟨qb,qof+q*4+1,none⟩=some (.int .u32 (y.h.toNat:Int))/\W'.cell? ⟨qb,qof+q*4+2,none⟩=some (.int .u64 (y.x.toNat:Int))/\W'.cell? ⟨qb,qof+q*4+3,none⟩=some (.int .u32 (y.m.toNat:Int))):=Lib.hid (fun W' hW'=>by
             obtain ⟨b',o',e,g⟩:=(rdE_cells HGX.out).2 W' hW' q y HY.out;cases e;exact g)
            generalize wF.heap.size=qF at *;have hqn:=HQN.out;refine wq WX ?_;iterate 3 (refine qo (fun K hK=>?_);go_simp;refine hK _ ?_;clear hK K)
            refine qo (fun K hK=>?_) (fun w' hw'=>by obtain ⟨x0,x1,x2,x3⟩:=HXC.out w' hw';go_simp<;>rfl);go_simp;refine hK _ ?_;clear hK K;refine qo (fun K hK=>?_);go_simp;refine hK _ ?_;clear hK K;refine qo (fun K hK=>?_) (fun w' hw'=>by have z0:=HKX.out w' hw';go_simp<;>rfl);go_simp;refine hK _ ?_;clear hK K;refine qo (fun K hK=>?_);go_simp;refine hK _ ?_;clear hK K;refine qo (fun K hK=>?_) (fun w' hw'=>by have z0:=HQN.out;go_simp<;>rfl);go_simp;refine hK _ ?_;clear hK K;refine qo (fun K hK=>?_) (fun w' hw'=>by obtain ⟨y0,y1,y2,y3⟩:=HGC.out w' hw';go_simp<;>rfl);go_simp;refine hK _ ?_;clear hK K;iterate 3 (refine qo (fun K hK=>?_);go_simp;refine hK _ ?_;clear hK K)
            refine qc (fun w' hw'=>(hworks.out w').mono fun e w'' ⟨he,hb⟩=>⟨he,hw'.trans (hb.mono hw'.size)⟩) (fun K hK=>?_);go_simp;refine hK _ ?_;clear hK K;iterate 2 (refine qo (fun K hK=>?_);go_simp;refine hK _ ?_;clear hK K)
            refine wpQuiet_nil ?_;intro WZ hbz;have HBZ:=Lib.hid (HBF.out.trans (hbz.mono HBF.out.size));clear hbz;go_wp2;go_ret;exact ⟨rfl,HBZ.out⟩
       ·have Z1:Hid (decide (V<=k)=true):=Lib.hid (decide_eq_true (by omega));have hwk64:IntKind.i64.wrap (k:Int)=(k:Int):=wrap_in (by omega) (by omega);have hVk:V<=k:=by omega
        clear hkV;have hout:=Lib.hid (graphOut_no HGC0.out hVk hk);unfold ptrTo at hout;go_wp2_with fail
        refine hout.out.mono ?_;rintro e w9 ⟨rfl,hb9⟩;have HB9:=Lib.hid hb9;have hin:=Lib.hid (graphIn_no (HGC0.out.below hb9) hVk hk);clear hb9 hout;unfold ptrTo at hin;go_wp2_with fail
        refine hin.out.mono ?_;rintro e wC ⟨rfl,hbC⟩;have HBC:=Lib.hid (HB9.out.trans (hbC.mono HB9.out.size));have hve:=Lib.hid (graphVert_out (HGC0.out.below HBC.out) k hVk hk);clear hbC hin HB9;unfold ptrTo vrtVal vrt0 at hve;go_wp2_with fail
        refine hve.out.mono ?_;rintro e wD ⟨rfl,hbD⟩;have HBD:=Lib.hid ((HBC.out.trans (hbD.mono HBC.out.size)).alloc ((HBC.out.trans (hbD.mono HBC.out.size)).size) (.cells #[.int .u32 0, .int .u32 0, .int .u32 0] 55));have HHT:=Lib.hid (HHC.out.later HBD.out);have HGT:=Lib.hid (HGC0.out.below HBD.out);have HMT:=Lib.hid (HMC.out.below HBD.out);have kb1:=(HK.out _ HHT.out.below).2.1;have hz1:=Z1.out;clear hbD hve HBC HHC HGC0 HMC hVk;go_wp2_with fail
        generalize wD.alloc (.cells #[.int .u32 0, .int .u32 0, .int .u32 0] 55)=wT at *;clear HBD kb1 hz1;obtain ⟨o9T,ho9⟩:∃ q,q=o4:=⟨_,rfl⟩;obtain ⟨d9T,hd9⟩:∃ q,q=d4:=⟨_,rfl⟩;have HHT:Hid (Held W0 wT pb db n o9T d9T LL):=Lib.hid (by rw [ho9,hd9];exact HHT.out);have HGT:Hid (GraphAt wT o9T gb pb g0 V ob ib vb):=Lib.hid (by rw [ho9];exact HGT.out);have HMT:Hid (Moved (fun _=>False) n pb db w8 o4 d4 wT o9T d9T LL):=Lib.hid (by rw [ho9,hd9];exact HMT.out);clear ho9 hd9;have hed:=Lib.hid (held_edges HW HHT.out HNEED.out HGT.out HFE.out);rw [<- HNL.out] at hed;obtain ⟨kt0,kt1⟩:=HKT.out wT o9T d9T HMT.out;unfold ptrTo at hed;go_wp2_with fail
        refine hed.out.mono ?_;rintro e wE ⟨dE,oE,rfl,hmE⟩;have HHE:=Lib.hid (HHT.out.moved hmE (fun _ h=>h.elim));have HGE:=Lib.hid (HGT.out.moved hmE);have HME:=Lib.hid (HMT.out.trans hmE (fun _ _ h=>h));clear hmE hed HHT HGT HMT kt0 kt1;obtain ⟨kt0,kt1⟩:=HKT.out wE oE dE HME.out;by_cases hin:i < 0
        ·have HN:=Lib.hid (held_edge_neg HHE.out HGE.out hin);have hd1:decide (i < 0)=true:=decide_eq_true hin;clear hin;unfold ptrTo edgVal at HN;go_wp2_with fail
         refine HN.out.mono ?_;rintro e wF ⟨dF,oF,rfl,hmF⟩;have HHF:=Lib.hid ((HHE.out.moved hmF (fun _ h=>h.elim)).later ((Below.refl _ _).alloc (Nat.le_refl _) (.cells #[.int .u32 0, .int .u32 0, .int .u64 0, .int .u32 0] 64)));have HBF:=Lib.hid (HB0.out.trans (HHF.out.below.mono HB0.out.size));clear hmF HN HHE HGE kt0 kt1;simp only [edg0];go_wp2_with fail
         refine (hworks.out _).mono ?_;rintro e wz ⟨rfl,hbz⟩;have HBZ:=Lib.hid (HBF.out.trans (hbz.mono HBF.out.size));clear hbz;go_wp2;go_ret;exact ⟨rfl,HBZ.out⟩
        ·have hd1:decide (i < 0)=false:=decide_eq_false hin;obtain ⟨q,hq⟩:∃ q:Nat,i=(q:Int):=⟨i.toNat,by omega⟩;have hq63:q < 9223372036854775808:=by omega
         subst hq;clear hin hd1;by_cases hqN:N<=q
         ·have HN:=Lib.hid (held_edge_out HW HHE.out HNEED.out HGE.out HFE.out (i:=q) (by rw [<- HNL.out];exact hqN) hq63);have Z1:Hid (decide (N<=q)=true):=Lib.hid (decide_eq_true hqN);clear hqN hq63;unfold ptrTo edgVal at HN;go_wp2_with fail
          refine HN.out.mono ?_;rintro e wF ⟨dF,oF,rfl,hmF⟩;have HHF:=Lib.hid ((HHE.out.moved hmF (fun _ h=>h.elim)).later ((Below.refl _ _).alloc (Nat.le_refl _) (.cells #[.int .u32 0, .int .u32 0, .int .u64 0, .int .u32 0] 64)));have HBF:=Lib.hid (HB0.out.trans (HHF.out.below.mono HB0.out.size));have hz:=Z1.out;clear hmF HN HHE HGE kt0 kt1;simp only [edg0];go_wp2_with fail
          refine (hworks.out _).mono ?_;rintro e wz ⟨rfl,hbz⟩;have HBZ:=Lib.hid (HBF.out.trans (hbz.mono HBF.out.size));clear hbz;go_wp2;go_ret;exact ⟨rfl,HBZ.out⟩
         ·obtain ⟨y,hy⟩:∃ y,(bestOf false es)[q]? = some y:=⟨_,List.getElem?_eq_getElem (by rw [<- HNL.out];omega)⟩;have HN:=Lib.hid (held_edge HW HHE.out HNEED.out HGE.out HFE.out hy);have HGR:=Lib.hid (HGE8.out.moved HME.out (fun b hb=>HFRG.out b (HGF.out b hb)));have Z1:Hid (decide (N<=q)=false):=Lib.hid (decide_eq_false hqN);have HQN:Hid (q < N):=Lib.hid (by omega);clear hqN hq63;unfold ptrTo edgVal at HN;go_wp2_with fail
          refine HN.out.mono ?_;rintro e wF ⟨dF,oF,rfl,hmF⟩;have HMF:=Lib.hid (HME.out.trans hmF (fun _ _ h=>h));have HBX:Hid (Below wF.heap.size wF (wF.alloc (.cells #[.int .u32 (y.t.toNat:Int), .int .u32 (y.h.toNat:Int), .int .u64 (y.x.toNat:Int), .int .u32 (y.m.toNat:Int)] 64))):=Lib.hid ((Below.refl _ _).alloc (Nat.le_refl _) _);have HQX:Hid ((wF.alloc (.cells #[.int .u32 (y.t.toNat:Int), .int .u32 (y.h.toNat:Int), .int .u64 (y.x.toNat:Int), .int .u32 (y.m.toNat:Int)] 64)).heap[wF.heap.size]? = some (.cells #[.int .u32 (y.t.toNat:Int), .int .u32 (y.h.toNat:Int), .int .u64 (y.x.toNat:Int), .int .u32 (y.m.toNat:Int)] 64)):=Lib.hid (heap_alloc_new wF _);have HHF:=Lib.hid ((HHE.out.moved hmF (fun _ h=>h.elim)).later HBX.out);have HBF:=Lib.hid (HB0.out.trans (HHF.out.below.mono HB0.out.size));have HY:=Lib.hid hy;have hz:=Z1.out;clear hmF HN HHE HGE kt0 kt1 hy;go_wp2_with fail
          generalize wF.alloc (.cells #[.int .u32 (y.t.toNat:Int), .int .u32 (y.h.toNat:Int), .int .u64 (y.x.toNat:Int), .int .u32 (y.m.toNat:Int)] 64)=WX at *;have HXC:Hid (∀ W',Below WX.heap.size WX W'->(W'.cell? ⟨wF.heap.size,0,none⟩=some (.int .u32 (y.t.toNat:Int))/\W'.cell? ⟨wF.heap.size,1,none⟩=some (.int .u32 (y.h.toNat:Int))/\W'.cell? ⟨wF.heap.size,2,none⟩=some (.int .u64 (y.x.toNat:Int))/\W'.cell? ⟨wF.heap.size,3,none⟩=some (.int .u32 (y.m.toNat:Int)))):=Lib.hid (fun W' hW'=>by
           have hx:=(hW'.block _ (lt_heap HQX.out)).trans HQX.out;refine ⟨?_,?_,?_,?_⟩<;>rw [cells_cell hx]<;>rfl)
          have HKX:Hid (∀ W',Below WX.heap.size WX W'->W'.cell? ⟨bg,0,none⟩=some (.slice ga N gc)):=Lib.hid (fun W' hW'=>cellBelow hW' (cellBelow HBX.out (HKT.out wF oF dF HMF.out).1));have HGX:=Lib.hid ((HGE8.out.moved HMF.out (fun b hb=>HFRG.out b (HGF.out b hb))).below HBX.out);obtain ⟨qb,qof,hgx,-⟩:=(rdE_cells HGX.out).2 WX (Below.refl _ _) q y HY.out;subst hgx;have HGC:Hid (∀ W',Below WX.heap.size WX W'->W'.cell? ⟨qb,qof+q*4,none⟩=some (.int .u32 (y.t.toNat:Int))/\W'.cell? ⟨qb,qof+q*4+1,none⟩=some (.int .u32 (y.h.toNat:Int))/\W'.cell? ⟨qb,qof+q*4+2,none⟩=some (.int .u64 (y.x.toNat:Int))/\W'.cell? ⟨qb,qof+q*4+3,none⟩=some (.int .u32 (y.m.toNat:Int))):=Lib.hid (fun W' hW'=>by
           obtain ⟨b',o',e,g⟩:=(rdE_cells HGX.out).2 W' hW' q y HY.out;cases e;exact g)
          generalize wF.heap.size=qF at *;have hqn:=HQN.out;refine wq WX ?_;iterate 3 (refine qo (fun K hK=>?_);go_simp;refine hK _ ?_;clear hK K)
          refine qo (fun K hK=>?_) (fun w' hw'=>by obtain ⟨x0,x1,x2,x3⟩:=HXC.out w' hw';go_simp<;>rfl);go_simp;refine hK _ ?_;clear hK K;refine qo (fun K hK=>?_);go_simp;refine hK _ ?_;clear hK K;refine qo (fun K hK=>?_) (fun w' hw'=>by have z0:=HKX.out w' hw';go_simp<;>rfl);go_simp;refine hK _ ?_;clear hK K;refine qo (fun K hK=>?_);go_simp;refine hK _ ?_;clear hK K;refine qo (fun K hK=>?_) (fun w' hw'=>by have z0:=HQN.out;go_simp<;>rfl);go_simp;refine hK _ ?_;clear hK K;refine qo (fun K hK=>?_) (fun w' hw'=>by obtain ⟨y0,y1,y2,y3⟩:=HGC.out w' hw';go_simp<;>rfl);go_simp;refine hK _ ?_;clear hK K;iterate 3 (refine qo (fun K hK=>?_);go_simp;refine hK _ ?_;clear hK K)
          refine qc (fun w' hw'=>(hworks.out w').mono fun e w'' ⟨he,hb⟩=>⟨he,hw'.trans (hb.mono hw'.size)⟩) (fun K hK=>?_);go_simp;refine hK _ ?_;clear hK K;iterate 2 (refine qo (fun K hK=>?_);go_simp;refine hK _ ?_;clear hK K)
          refine wpQuiet_nil ?_;intro WZ hbz;have HBZ:=Lib.hid (HBF.out.trans (hbz.mono HBF.out.size));clear hbz;go_wp2;go_ret;exact ⟨rfl,HBZ.out⟩
 ·have HVAST:=Lib.hid (vast_yes gen fr (he.below HB0.out) (hv.below HB0.out) (by omega));clear hvast he hv hp;go_enter Tryz.func3,Tryz.ntmps3
  go_wp2_with fail
  refine HVAST.out.mono ?_;rintro e w1 ⟨rfl,hb1⟩;have HB1:=Lib.hid (HB0.out.trans (hb1.mono HB0.out.size));clear hb1;go_wp2_with fail
  refine (hworks.out _).mono ?_;rintro e w2 ⟨rfl,hb2⟩;have HB2:=Lib.hid (HB1.out.trans (hb2.mono HB1.out.size));clear hb2;go_wp2;go_ret;exact ⟨rfl,HB2.out⟩
end
end Go.Proofs.YthkkgdpomhhjjaaGreatDoor
