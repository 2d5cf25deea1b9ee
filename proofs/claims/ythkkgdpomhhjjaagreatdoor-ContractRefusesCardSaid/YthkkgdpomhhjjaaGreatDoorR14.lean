/-
  Joined.
-/
import Derived.Test.YthkkgdpomhhjjaaGreatDoorR13
namespace Go.Proofs.YthkkgdpomhhjjaaGreatDoor
section
open Go.RowKit Go.Maps
section
variable {w0 w w' W W':World} {pb db n gen done:Nat} {o o' o'':Owner} {d d' d'':Dsk} {L L' L'':Logic} {es:List Edg} {vs:List Vrt}
structure RnIn (w0 w:World) (pb db n:Nat) (o:Owner) (d:Dsk) (L:Logic) (gen done m:Nat) (es:List Edg) (vs:List Vrt):Prop where
 held:Held w0 w pb db n o d L
 frames:8<=n
 glt:gen+1 < 100
 e:mget L (sName 101 gen)=some (edgeFile (bestOf false es) true)
 r:mget L (sName 114 gen)=some (edgeFile (bestOf true es) true)
 v:mget L (sName 118 gen)=some (vertFile vs true)
 len:es.length<=1000
 top:vs.length<=1000
 ends:∀ x∈es,x.t.toNat < vs.length/\x.h.toNat < vs.length
 cands:(candsM es vs).length<=12
 free:∀ c,mget L (sName c (gen+1))=none
 nt:∀ k,mget L (tName k)=none
 most:(rawM es (chosenM es vs)).length<=m
 need:need L+24*((rawM es (chosenM es vs)).length+(upM es (chosenM es vs)).length+(downM es (chosenM es vs)).length)+8*es.length+4*vs.length+8<=131072
 dlt:done+(chosenM es vs).length < 4294967296
 deg:∀ v,v < vs.length->(inM es v).length*(outM es v).length<=100000
def RoundPost (w:World) (pb db n:Nat) (o:Owner) (d:Dsk) (L:Logic) (gen done:Nat) (es:List Edg) (vs:List Vrt) (e:Ending) (w':World):Prop:=
 ∃ d' o' L',e=.returned (.tuple #[.int .u32 ((chosenM es vs).length:Int), .int .i64 0])/\Moved (fun _=>False) n pb db w o d w' o' d' L'/\(chosenM es vs=[]->L'=L)/\(chosenM es vs≠[]->Rounded L L' gen (rawM es (chosenM es vs)) (upM es (chosenM es vs)) (downM es (chosenM es vs)) (vertsM es vs done gen (chosenM es vs)))
set_option maxRecDepth 100000 in
set_option maxHeartbeats 8000000 in
theorem round_any (HW:WriteSaid) {m:Nat} (HJS:JobSortSaid m) (h:RnIn w0 w pb db n o d L gen done m es vs) :
 Calls Tryz.prog 33 #[ptrTo pb, .int .i64 (gen:Int), .int .u32 (done:Int)] w (RoundPost w pb db n o d L gen done es vs):=by
 have H:=Lib.hid h;have hq:need L<=131072:=by have:=h.need;omega
 have hfr:=Lib.hid (poolFrames_any h.held.pool);have hop:=Lib.hid (storeOpen_any HW h.held.pool (gen:=gen) (.inl (by have:=h.glt;omega)) h.v h.e h.r);have hn8:¬ (n:Int) < 8:=by have:=h.frames;omega
 have HQ:=Lib.hid hq;obtain ⟨CH,hCH⟩:∃ l,l=chosenM es vs:=⟨_,rfl⟩;have HCH:=Lib.hid hCH;obtain ⟨PST,hPST⟩:∃ P,P=RoundPost w pb db n o d L gen done es vs:=⟨_,rfl⟩;have HPST:=Lib.hid hPST;rw [<- hPST];clear h hq hCH hPST;unfold ptrTo OpenGraphPost at *;go_enter Tryz.func33,Tryz.ntmps33
 go_wp2_with fail
 refine hfr.out.mono ?_;rintro e w1 ⟨rfl,rfl⟩;clear hfr;go_wp2_with fail
 refine hop.out.mono ?_;rintro e w2 ⟨v2,c2,d2,o2,rfl,hm2,he2,hok2,-⟩;have hc2:c2=0:=H.out.held.fine' hm2 he2 HQ.out;subst hc2;obtain ⟨gb,ob,ib,vb,rfl,hg2⟩:=hok2 rfl;have HM2:=Lib.hid hm2;have HG2:=Lib.hid hg2;have hlt:Hid (gb < w2.heap.size/\ob < w2.heap.size/\ib < w2.heap.size/\vb < w2.heap.size):=Lib.hid ⟨hg2.raw.lt,hg2.out.lt,hg2.inn.lt,hg2.verts.lt⟩;clear hm2 hg2 he2 hok2 hop;unfold ptrTo at *;obtain ⟨rb,hrb⟩:∃ x,x=w2.heap.size:=⟨_,rfl⟩;have HW3:Hid (RndAt (w2.alloc (.cells #[.pointer (some ⟨pb,0,none⟩), .pointer (some ⟨gb,0,none⟩), .int .i64 (gen:Int), .int .u32 (done:Int), .map none, .slice none 0 0, .slice none 0 0] 133)) w2.heap.size pb gb gen done (.map none) (.slice none 0 0) (.slice none 0 0)/\Moved (fun _=>False) n pb db w o d (w2.alloc (.cells #[.pointer (some ⟨pb,0,none⟩), .pointer (some ⟨gb,0,none⟩), .int .i64 (gen:Int), .int .u32 (done:Int), .map none, .slice none 0 0, .slice none 0 0] 133)) o2 d2 L/\GraphAt (w2.alloc (.cells #[.pointer (some ⟨pb,0,none⟩), .pointer (some ⟨gb,0,none⟩), .int .i64 (gen:Int), .int .u32 (done:Int), .map none, .slice none 0 0, .slice none 0 0] 133)) o2 gb pb gen vs.length ob ib vb):=Lib.hid ⟨heap_alloc_new _ _,HM2.out.alloc _,HG2.out.moved (Moved.ofBelow (n:=n) HM2.out.pool ((Below.refl _ _).alloc (Nat.le_refl _) _))⟩;go_wp2_with fail
 rw [<- hrb] at HW3 ⊢;generalize w2.alloc (.cells #[.pointer (some ⟨pb,0,none⟩), .pointer (some ⟨gb,0,none⟩), .int .i64 (gen:Int), .int .u32 (done:Int), .map none, .slice none 0 0, .slice none 0 0] 133)=W3 at *;have HRB:Hid (rb=w2.heap.size/\w.heap.size<=rb):=Lib.hid ⟨hrb,by rw [hrb];exact HM2.out.size⟩;have HNET3:Hid (NetIn w0 W3 pb db n o2 d2 L gb gen vs.length ob ib vb es):=Lib.hid ⟨H.out.held.moved HW3.out.2.1 (fun _ e=>e.elim),HQ.out,HW3.out.2.2,H.out.e,H.out.r,H.out.len,H.out.top,H.out.ends⟩;have HRO3:Hid (RndOf w0 W3 o2 rb gb ob ib vb):=Lib.hid ⟨by rw [hrb];exact (H.out.held.moved HM2.out (fun _ e=>e.elim)).below.size,HW3.out.1.lt,by rw [hrb];exact HM2.out.pool.fresh (Nat.le_refl _),by rw [hrb];exact hlt.out⟩;have hread:=Lib.hid (roundRead_any HW HNET3.out H.out.v HW3.out.1 HRO3.out);unfold RReadPost ptrTo at hread;clear hrb HG2 hlt;refine hread.out.mono ?_;rintro e w4 ⟨vv,d4,o4,rfl,hs4⟩;have HS4:=Lib.hid hs4;have HNET4:=Lib.hid (HNET3.out.movedR HRO3.out hs4.mv);have HRO4:=Lib.hid (HRO3.out.moved hs4.mv);have HM4:Hid (Moved (fun _=>False) n pb db w o d w4 o4 d4 L):=Lib.hid (HW3.out.2.1.trans hs4.mv (fun x hx e=>by have:=HRB.out.2;omega));have hch:=Lib.hid (roundChoose_any HW HNET4.out hs4.at' HRO4.out hs4.row hs4.own H.out.deg H.out.cands);rw [<- HCH.out] at hch;unfold ChoosePost ptrTo at hch;clear hs4 hread HNET3 HRO3;go_wp2_with fail
 refine hch.out.mono ?_;rintro e w5 ⟨mb,ov,S,d5,o5,rfl,hm5,hr5,hord5,hoo5,hco5,hmb5,hom5,hsame⟩;obtain ⟨oa,ok,rfl⟩:=ownsRow_slice hord5;obtain ⟨KN,hKN⟩:∃ k,k=CH.length:=⟨_,rfl⟩;have HM5:Hid (Moved (fun _=>False) n pb db w o d w5 o5 d5 L):=Lib.hid (HM4.out.trans hm5 (fun x hx e=>by have:=HRB.out.2;omega));have HR5:=Lib.hid hr5;have HC5:Hid (ownsNums w5 w4.heap.size (.slice oa CH.length ok) CH/\(∀ b,(Value.slice oa CH.length ok).ownBlock=some b->o5 b=none)/\ChosenAt w5 mb S/\w4.heap.size<=mb/\o5 mb=none/\∀ z,z∈S ↔ z∈CH):=Lib.hid ⟨hord5,hoo5,hco5,hmb5,hom5,hsame⟩;have HNET5:=Lib.hid (HNET4.out.movedR HRO4.out hm5);have HRO5:=Lib.hid (HRO4.out.moved hm5);have HV5:Hid (ownsVrts w5 W3.heap.size vv vs/\(∀ b,vv.ownBlock=some b->o5 b=none/\b < w4.heap.size)):=Lib.hid ⟨hm5.ownsRow HS4.out.row (fun b hb=>⟨HS4.out.own b hb,fun e=>by have h1:=ownsRow_block HS4.out.row b hb;have h2:=HW3.out.1.lt;omega⟩),fun b hb=>⟨hm5.free (ownBlock_old HS4.out.row b hb).1 (HS4.out.own b hb),(ownBlock_old HS4.out.row b hb).1⟩⟩;obtain ⟨-,-,-,-,-,c5,-⟩:=hr5.cells;rw [<- hKN] at c5;have HKN:Hid (KN=CH.length/\KN < 4294967296):=Lib.hid ⟨hKN,by have:=H.out.dlt;rw [<- HCH.out] at this;omega⟩;clear hm5 hr5 hord5 hoo5 hco5 hmb5 hom5 hsame hch hKN HNET4 HRO4 HM4;by_cases hz:KN=0
 ·have hzz:(KN:Int)=0:=by omega
  have HQF:Hid (PST (.returned (.tuple #[.int .u32 0, .int .i64 0])) w5):=Lib.hid (by
   have hn:chosenM es vs=[]:=by rw [<- HCH.out];exact List.length_eq_zero_iff.1 (by rw [<- HKN.out.1];exact hz)
   rw [HPST.out];exact ⟨d5,o5,L,by rw [hn];rfl,HM5.out,fun _=>rfl,fun h=>absurd hn h⟩)
  have hzb:((KN:Int) == 0)=true:=by rw [beq_iff_eq];exact hzz
  clear hz;go_wp2;exact HQF.out
 ·have hzz:¬ (KN:Int)=0:=by omega
  have HCN:Hid (CH≠[]):=Lib.hid (fun e=>hz (by rw [HKN.out.1,e];rfl));have HVN:Hid (vs.length≠0):=Lib.hid (by
   cases e:CH with
   | nil=>exact absurd e HCN.out
   | cons v l=>have:=chosen_lt (es:=es) (vs:=vs) (v:=v) (by rw [<- HCH.out,e];simp);omega)
  obtain ⟨g,vk,rfl⟩:∃ g k,vv=.slice (some ⟨g,0,none⟩) vs.length k:=by
   obtain ⟨-,⟨h1,h2⟩ | ⟨g,k,_,h1,_⟩⟩:=HV5.out.1
   ·exact absurd h2 HVN.out
   ·exact ⟨g,k,h1⟩
  have HG:Hid (rb < g/\g < w4.heap.size/\w.heap.size<=g/\rb≠g):=Lib.hid (by
   have h1:=ownsRow_block HV5.out.1 g rfl;have h2:=HW3.out.1.lt;have h3:=(HV5.out.2 g rfl).2;have h4:=HRB.out.2;exact ⟨by omega,h3,by omega,by omega⟩)
  have HWI:Hid (WriteIn w0 w5 pb db n o5 d5 L gb gen vs.length ob ib vb es rb mb g vk done (.slice oa CH.length ok) S CH vs W3.heap.size w4.heap.size):=Lib.hid
   ⟨HNET5.out,HR5.out,HRO5.out,HC5.out.2.2.1,HC5.out.2.2.2.2.1,HC5.out.1,HC5.out.2.1,HV5.out.1,rfl,(HV5.out.2 g rfl).1,HG.out.1,Nat.lt_of_lt_of_le HG.out.2.1 HC5.out.2.2.2.1,fun b hb=>Nat.lt_of_lt_of_le HG.out.2.1 (ownsRow_block HC5.out.1 b hb),HC5.out.2.2.2.2.2,fun v hv=>chosen_lt (es:=es) (by rw [<- HCH.out];exact hv),HCN.out⟩
  have hwr:=Lib.hid (roundWrite_any HW HJS H.out.frames HWI.out H.out.glt H.out.free H.out.nt (by rw [HCH.out];exact H.out.most) (by rw [HCH.out];exact H.out.need) (by rw [HCH.out];exact H.out.dlt) H.out.deg);unfold WritePost ptrTo at hwr;clear hz HWI;go_wp2_with fail
  refine hwr.out.mono ?_;rintro e w6 ⟨d6,o6,L6,rfl,hm6,hrd⟩;have hr6:RndAt w6 rb pb gb gen done (.map (some mb)) (.slice oa CH.length ok) (.slice (some ⟨g,0,none⟩) vs.length vk):=hm6.heap HR5.out HRO5.out.free HG.out.2.2.2;obtain ⟨-,-,-,-,-,c5',-⟩:=hr6.cells;rw [<- HKN.out.1] at c5';have wku:IntKind.u32.wrap (KN:Int)=(KN:Int):=wraps_u32 _ (by omega) (by have:=HKN.out.2;omega);have HQF:Hid (PST (.returned (.tuple #[.int .u32 (KN:Int), .int .i64 0])) w6):=Lib.hid (by
   rw [HPST.out];refine ⟨d6,o6,L6,by rw [<- HCH.out,HKN.out.1],HM5.out.trans hm6 (fun x hx e=>by have:=HG.out.2.2.1;omega),fun h=>absurd (HCH.out.trans h) HCN.out,fun _=>?_⟩;rw [<- HCH.out];exact hrd)
  clear hm6 hrd hr6 hwr c5 hzz;go_wp2;exact HQF.out
end
end
section
open Go.RowKit Go.Maps
theorem step_append_edge {w:World} {ops:Array Oper} {o:Oper} {a:Act} {K:Act->World->Prop} {Q:Exit->Act->World->Prop} {E:Prop} (hgd:o.guard=none) (s x:Operand) (ho:o.op=.call { callee:=.builtin .append,args:=#[s,x],argTypes:=#[22,22] }) (base:Nat) (v:Value) (l:List Edg) (hs:a.eval s=v) (hown:ownsEdges w base v l)
 (y:Edg) (xb c:Nat) (hx:a.eval x=.slice (some ⟨xb,0,none⟩) 1 c) (hxb:w.heap[xb]? = some (.cells #[.int .u32 (y.t.toNat:Int), .int .u32 (y.h.toNat:Int), .int .u64 (y.x.toNat:Int), .int .u32 (y.m.toNat:Int)] 64)) (hl:l.length<=100000) (hbase:base<=w.heap.size)
 (k:∀ v' w',ownsEdges w' base v' (l++[y])->Appd v w w' v'->K (a.put o.dst v') w'):if Region.wanted o (yielded ops a.tmps)=true then Oper.wp Tryz.prog o a w K Q else E:=by
 refine step_append_at hgd s x 22 ho base 64 _ 4 24 Tryz.underlying22 info_edge rfl (by decide) v l.length (edgRow l) hs hown ⟨xb,0,none⟩ 1 c y.cells hx rfl (fun j u hj=>?_) (by simp [Value.oneCell']) (by unfold maxLen;omega) (by omega) hbase (fun v' w' h1 h2=>k v' w' ?_ h2)
 ·rw [Addr_add,Nat.zero_add,cells_cell hxb];match j,hj with
  | 0,hj=>cases hj;rfl
  | 1,hj=>cases hj;rfl
  | 2,hj=>cases hj;rfl
  | 3,hj=>cases hj;rfl
  | j+4,hj=>cases hj
 ·unfold ownsEdges;rw [edgRow_append,List.length_append];exact h1
def smallE (n:Nat) (x:Edg):Edg:=⟨UInt32.ofNat (x.t.toNat % n),UInt32.ofNat (x.h.toNat % n),UInt64.ofNat (x.x.toNat % 288230376151711744),4294967295⟩
def smallL (n:Nat) (es:List Edg):List Edg:=if n=0 then [] else (es.take 80).map (smallE n)
theorem smallE_to {n:Nat} (x:Edg):(smallE n x).t.toNat=x.t.toNat % n/\(smallE n x).h.toNat=x.h.toNat % n/\(smallE n x).x.toNat=x.x.toNat % 288230376151711744/\(smallE n x).m.toNat=4294967295:=by
 have h1:=Nat.mod_le x.t.toNat n;have h2:=Nat.mod_le x.h.toNat n;have:=x.t.toNat_lt;have:=x.h.toNat_lt;refine ⟨?_,?_,?_,rfl⟩
 ·show (UInt32.ofNat _).toNat=_;rw [UInt32.toNat_ofNat'];exact Nat.mod_eq_of_lt (by omega)
 ·show (UInt32.ofNat _).toNat=_;rw [UInt32.toNat_ofNat'];exact Nat.mod_eq_of_lt (by omega)
 ·show (UInt64.ofNat _).toNat=_;rw [UInt64.toNat_ofNat'];exact Nat.mod_eq_of_lt (by omega)
def SmallPost (w:World) (n:Nat) (l:List Edg) (e:Ending) (w':World):Prop:=
 ∃ v,e=.returned (.tuple #[.int .i64 (n:Int),v])/\Below w.heap.size w w'/\ownsEdges w' w.heap.size v l
set_option maxRecDepth 100000 in
set_option maxHeartbeats 8000000 in
theorem small_any {w:World} {ev:Value} {es:List Edg} (N F:Nat) (hN:N < 256) (he:RdE w ev es) :
 Calls Tryz.prog 29 #[.agg #[.int .u8 (N:Int),ev, .int .u8 (F:Int)]] w (SmallPost w (N % 25) (smallL (N % 25) es)):=by
 obtain ⟨ea,ec,rfl,-⟩:=id he;have HE:=Lib.hid he;obtain ⟨V,hV⟩:∃ v,v=N % 25:=⟨_,rfl⟩;have hN1:wrap64 (N:Int)=(N:Int):=by unfold wrap64;omega
 have hN2:(N:Int).tmod 25=(V:Int):=by rw [hV];exact (Int.ofNat_tmod N 25).symm
 have HVL:Hid (V=N % 25/\V < 25):=Lib.hid ⟨hV,by omega⟩;rw [<- hV];obtain ⟨M,hM⟩:∃ m,m=es.length:=⟨_,rfl⟩;have HM:=Lib.hid hM;have HB0:Hid (Below w.heap.size w (w.alloc (.cells #[.int .u8 (N:Int), .slice ea M ec, .int .u8 (F:Int)] 69))):=Lib.hid ((Below.refl _ _).alloc (Nat.le_refl _) _);have HX0:Hid ((w.alloc (.cells #[.int .u8 (N:Int), .slice ea M ec, .int .u8 (F:Int)] 69)).heap[w.heap.size]? = some (.cells #[.int .u8 (N:Int), .slice ea M ec, .int .u8 (F:Int)] 69)):=Lib.hid (heap_alloc_new _ _);have HE0:Hid (RdE (w.alloc (.cells #[.int .u8 (N:Int), .slice ea M ec, .int .u8 (F:Int)] 69)) (.slice ea M ec) es):=Lib.hid (by rw [hM];exact he.below ((Below.refl _ _).alloc (Nat.le_refl _) _));obtain ⟨PST,hPST⟩:∃ P,P=SmallPost w V (smallL V es):=⟨_,rfl⟩;have HPST:=Lib.hid hPST;rw [<- hPST];rw [<- hM];clear he hV hM hPST hN;go_enter Tryz.func29,Tryz.ntmps29
 go_wp2_with fail
 generalize hwb:w.heap.size=wb at *;generalize w.alloc (.cells #[.int .u8 (N:Int), .slice ea M ec, .int .u8 (F:Int)] 69)=W0 at *;have HWB:Hid (w.heap.size=wb/\wb < W0.heap.size):=Lib.hid ⟨hwb,(Array.getElem?_eq_some_iff.1 HX0.out).1⟩;clear hwb hN1 hN2;go_loopw [5,6] (fun vl vi wr=>∃ (k:Nat) (acc:List Edg),vi=.int .i64 (k:Int)/\k<=M/\k<=80/\(k=0\/0 < V)/\Hid (acc=(es.take k).map (smallE V)/\Below W0.heap.size W0 wr/\ownsEdges wr W0.heap.size vl acc)) (fun _ vi _=>80 - (intOf vi).toNat)
 case atStart=>exact ⟨0,[],rfl,Nat.zero_le _,by omega, .inl rfl,Lib.hid ⟨rfl,Below.refl _ _,World.ownsRow_nil _ _ _ _⟩⟩
 case round=>
  generalize u5=lv at *;obtain ⟨k,acc,rfl,hk,hk8,hk0,HS⟩:=hrel;generalize wr=W1 at *;obtain ⟨la,lc,rfl⟩:=ownsRow_slice HS.out.2.2;have hbx:W1.heap[wb]? = some (.cells #[.int .u8 (N:Int), .slice ea M ec, .int .u8 (F:Int)] 69):=(HS.out.2.1.block _ HWB.out.2).trans HX0.out;have b1:W1.cell? ⟨wb,1,none⟩=some (.slice ea M ec):=by rw [cells_cell hbx];rfl
  clear hbx;by_cases h1:k < M
  ·have h1z:(k:Int) < (M:Int):=by omega
   by_cases h2:k < 80
   ·have h2z:(k:Int) < 80:=by omega
    by_cases h3:0 < V
    ·have h3z:(V:Int) > 0:=by omega
     have wk:IntKind.i64.wrap ((k:Int)+1)=((k+1:Nat):Int):=by rw [wrap_in]<;>omega
     have wv:IntKind.u32.wrap (V:Int)=(V:Int):=by have:=HVL.out;exact wraps_u32 _ (by omega) (by omega)
     obtain ⟨x,hx⟩:∃ x,es[k]? = some x:=⟨_,List.getElem?_eq_getElem (by have:=HM.out;omega)⟩;have HX:=Lib.hid hx;obtain ⟨a',cap',hve,hce⟩:=HE0.out.below HS.out.2.1;obtain ⟨rfl,-,rfl⟩:ea=a'/\M=es.length/\ec=cap':=by simpa using hve
     obtain ⟨b,off,rfl,hcf⟩:=hce.resolve_left (by have:=HM.out;omega);obtain ⟨q0,q1,q2,q3⟩:=hcf k _ hx;clear hce hcf hve hx;have hlb:=World.block_lt_of_cell? _ _ q0;obtain ⟨y,hy⟩:∃ y,y=smallE V x:=⟨_,rfl⟩;have HY:=Lib.hid hy;obtain ⟨y0,y1,y2,y3⟩:=smallE_to (n:=V) x;rw [<- hy] at y0 y1 y2 y3;have HB1:Hid (Below W0.heap.size W0 (W1.alloc (.cells #[.int .u32 (x.t.toNat:Int), .int .u32 (x.h.toNat:Int), .int .u64 (x.x.toNat:Int), .int .u32 (x.m.toNat:Int)] 64))):=Lib.hid (HS.out.2.1.alloc HS.out.2.1.size _);have HR1:Hid (ownsEdges (W1.alloc (.cells #[.int .u32 (x.t.toNat:Int), .int .u32 (x.h.toNat:Int), .int .u64 (x.x.toNat:Int), .int .u32 (x.m.toNat:Int)] 64)) W0.heap.size (.slice la acc.length lc) acc):=Lib.hid (World.ownsRow.alloc HS.out.2.2 _);have HXB:Hid ((W1.alloc (.cells #[.int .u32 (x.t.toNat:Int), .int .u32 (x.h.toNat:Int), .int .u64 (x.x.toNat:Int), .int .u32 (x.m.toNat:Int)] 64)).heap[W1.heap.size]? = some (.cells #[.int .u32 (x.t.toNat:Int), .int .u32 (x.h.toNat:Int), .int .u64 (x.x.toNat:Int), .int .u32 (x.m.toNat:Int)] 64)):=Lib.hid (heap_alloc_new _ _);have HL:Hid (acc=(es.take k).map (smallE V)/\acc.length<=80):=Lib.hid ⟨HS.out.1,by rw [HS.out.1,List.length_map,List.length_take];omega⟩;clear hy HS;go_wp2_with fail
     clear q0 q1 q2 q3 b1;generalize W1.heap.size=xb at *;generalize W1.alloc (.cells #[.int .u32 (x.t.toNat:Int), .int .u32 (x.h.toNat:Int), .int .u64 (x.x.toNat:Int), .int .u32 (x.m.toNat:Int)] 64)=W2 at *;have x0:W2.cell? ⟨xb,0,none⟩=some (.int .u32 (x.t.toNat:Int)):=by rw [cells_cell HXB.out];rfl
     have x1:W2.cell? ⟨xb,1,none⟩=some (.int .u32 (x.h.toNat:Int)):=by rw [cells_cell HXB.out];rfl
     have x2:W2.cell? ⟨xb,2,none⟩=some (.int .u64 (x.x.toNat:Int)):=by rw [cells_cell HXB.out];rfl
     have e0:(x.t.toNat:Int) % (V:Int)=(y.t.toNat:Int):=by rw [y0];omega
     have e1:(x.h.toNat:Int) % (V:Int)=(y.h.toNat:Int):=by rw [y1];omega
     have e2:(x.x.toNat:Int) % 288230376151711744=(y.x.toNat:Int):=by rw [y2];omega
     have t0:(x.t.toNat:Int).tmod (V:Int)=(y.t.toNat:Int):=by rw [y0];exact (Int.ofNat_tmod _ _).symm
     have t1:(x.h.toNat:Int).tmod (V:Int)=(y.h.toNat:Int):=by rw [y1];exact (Int.ofNat_tmod _ _).symm
     have t2:(x.x.toNat:Int).tmod 288230376151711744=(y.x.toNat:Int):=by rw [y2];exact (Int.ofNat_tmod _ _).symm
     have e3:(4294967295:Int)=(y.m.toNat:Int):=by rw [y3];rfl
     have h3n:¬ V=0:=by omega
     clear y0 y1 y2 y3;have hxlt:=World.block_lt_of_cell? _ _ x0;have HBD:Hid (∀ ob,Below W2.heap.size W2 (W2.drew.alloc ob)):=Lib.hid (fun ob=>(Below.refl _ _).drew.alloc (Nat.le_refl _) ob);have HBZ:Hid (W0.heap.size<=W2.heap.size):=Lib.hid HB1.out.size;go_region_law (refine step_append_edge rfl _ _ rfl W0.heap.size _ acc rfl (World.ownsRow.alloc (World.ownsRow.drew HR1.out) _) y _ 1 rfl (heap_alloc_new _ _) (by have:=HL.out;omega) (Nat.le_trans HBZ.out (HBD.out _).size) ?_;intro v5 w5 h5 ha;have HA5:=Lib.hid ha;have HO5:=Lib.hid h5;clear ha h5)
     all_goals
      obtain ⟨v5a,v5c,hv5⟩:=ownsRow_slice HO5.out;subst hv5;have HS2:Hid (acc++[y]=(es.take (k+1)).map (smallE V)/\Below W0.heap.size W0 w5/\ownsEdges w5 W0.heap.size (.slice v5a (acc++[y]).length v5c) (acc++[y])):=Lib.hid ⟨by
       rw [HL.out.1,HY.out,List.take_add_one,HX.out,List.map_append];rfl,(appd_below (HB1.out.trans ((HBD.out _).mono HBZ.out)) (fun b hb=>ownsRow_block HR1.out b hb) HA5.out).1,HO5.out⟩
      clear HA5 HO5 HR1 HBD t0 t1 t2 e0 e1 e2 e3 x0 x1 x2 hxlt;generalize (acc++[y]).length=L5 at *;go_wp2_with fail
      go_roundw
      case rel=>exact ⟨k+1,acc++[y],by go_num,by omega,by omega, .inr h3,HS2⟩
      case measure=>simp [intOf];omega
    ·have h3z:¬ (V:Int) > 0:=by omega
     have HQ:Hid (PST (.returned (.tuple #[.int .i64 (V:Int), .slice la acc.length lc])) W1):=Lib.hid (by
      rw [HPST.out];obtain rfl:k=0:=by omega
      have hb:=HB0.out;have hs:=HS.out;rw [HWB.out.1.symm] at hb;refine ⟨_,rfl,hb.trans (hs.2.1.mono hb.size),?_⟩;have e1:acc=smallL V es:=by rw [hs.1];unfold smallL;rw [if_pos (by omega)];rfl
      rw [<- e1];exact ownsRow_base hs.2.2 hb.size)
     clear HS;go_wp2;exact HQ.out
   ·have h2z:¬ (k:Int) < 80:=by omega
    have HQ:Hid (PST (.returned (.tuple #[.int .i64 (V:Int), .slice la acc.length lc])) W1):=Lib.hid (by
     rw [HPST.out];obtain rfl:k=80:=by omega
     have hb:=HB0.out;have hs:=HS.out;rw [HWB.out.1.symm] at hb;refine ⟨_,rfl,hb.trans (hs.2.1.mono hb.size),?_⟩;have e1:acc=smallL V es:=by rw [hs.1];unfold smallL;rw [if_neg (by omega)]
     rw [<- e1];exact ownsRow_base hs.2.2 hb.size)
    clear HS;go_wp2;exact HQ.out
  ·have h1z:¬ (k:Int) < (M:Int):=by omega
   have HQ:Hid (PST (.returned (.tuple #[.int .i64 (V:Int), .slice la acc.length lc])) W1):=Lib.hid (by
    rw [HPST.out];obtain rfl:k=M:=by omega
    have hb:=HB0.out;have hs:=HS.out;rw [HWB.out.1.symm] at hb;refine ⟨_,rfl,hb.trans (hs.2.1.mono hb.size),?_⟩;have e1:acc=smallL V es:=by
     rw [hs.1];unfold smallL;by_cases hV0:V=0
     ·rw [if_pos hV0];have hk00:k=0:=by omega
      rw [hk00];rfl
     ·rw [if_neg hV0,List.take_of_length_le (by have:=HM.out;omega),List.take_of_length_le (by have:=HM.out;omega)]
    rw [<- e1];exact ownsRow_base hs.2.2 hb.size)
   clear HS;go_wp2;exact HQ.out
def NewGenV (w:World) (es:List Edg) (vs:List Vrt) (e:Ending) (w':World):Prop:=∃ gv hv,e=.returned (.agg #[gv,hv])/\RdE w' gv es/\VertsAt w' hv vs/\Below w.heap.size w w'/\(∀ b,gv.ownBlock=some b->w.heap.size<=b)/\∀ b,hv.ownBlock=some b->w.heap.size<=b
set_option maxRecDepth 100000 in
set_option maxHeartbeats 2000000 in
theorem refOfV_any (ev vv:Value) (es:List Edg) (vs:List Vrt) (w:World) (he:RdE w ev es) (hv:RdV w vv vs) (h1:es.length<=1000) (h2:vs.length<=1000):Calls Tryz.prog 13 #[ev,vv] w (NewGenV w (bestOf false es) vs):=by
 have HB0:Hid (Below w.heap.size w (w.alloc (.cells #[.slice none 0 0, .slice none 0 0] 34))):=Lib.hid ((Below.refl _ _).alloc (Nat.le_refl _) _);have HX0:Hid ((w.alloc (.cells #[.slice none 0 0, .slice none 0 0] 34)).heap[w.heap.size]? = some (.cells #[.slice none 0 0, .slice none 0 0] 34)):=Lib.hid (heap_alloc_new w _);have HSO:=Lib.hid (sorted_any ev es false _ (he.below HB0.out) (by omega));have HV:=Lib.hid hv;have hsz0:w.heap.size < (w.alloc (.cells #[.slice none 0 0, .slice none 0 0] 34)).heap.size:=by simp
 clear he hv;go_enter Tryz.func13,Tryz.ntmps13
 go_wp2_with fail
 generalize w.alloc (.cells #[.slice none 0 0, .slice none 0 0] 34)=W0 at *;refine HSO.out.mono ?_;rintro e w1 ⟨gv,rfl,hg1,hb1⟩;obtain ⟨ga,gn,gc,rfl⟩:∃ a n c,gv=.slice a n c:=by
  obtain ⟨a,c,h,-⟩:=rdE_own hg1;exact ⟨a,_,c,h⟩
 have HGB:Hid (∀ b,(Value.slice ga gn gc).ownBlock=some b->w.heap.size < b):=Lib.hid (fun b hb=>by have:=ownsRow_block hg1 b hb;omega);have HG1:=Lib.hid (rdE_own hg1);have HB1:=Lib.hid hb1;have HV1:=Lib.hid ((HV.out.below HB0.out).below hb1);clear hg1 hb1 HSO;go_wp2_with
  (refine wpList_append_verts (w:=w1) (by first | rfl | (simp [Region.wanted,yielded];done)) _ _ rfl rfl _ vs rfl HV1.out (by omega) (fun v2 w2 HVs HVo HB2=>?_)
   obtain ⟨va,vn,vc,hvsh⟩:∃ a n c,v2=.slice a n c:=by
    obtain ⟨a,c,h,-⟩:=HVs.out;exact ⟨a,_,c,h⟩
   subst hvsh;have HX2:Hid (w2.heap[w.heap.size]? = some (.cells #[.slice none 0 0, .slice none 0 0] 34)):=Lib.hid (by
    rw [HB2.out.block _ (Nat.lt_of_lt_of_le hsz0 HB1.out.size),HB1.out.block _ hsz0];exact HX0.out)
   have hbl:w.heap.size < w2.heap.size:=(Array.getElem?_eq_some_iff.1 HX2.out).1;have k0:w2.cell? ⟨w.heap.size,0,none⟩=some (.slice none 0 0):=by rw [cells_cell HX2.out];rfl
   have k1:w2.cell? ⟨w.heap.size,1,none⟩=some (.slice none 0 0):=by rw [cells_cell HX2.out];rfl
   have z0:=cells_frozen HX2.out 0;have z1:=cells_frozen HX2.out 1;have HY:Hid (((w2.setCell ⟨w.heap.size,0,none⟩ (.slice ga gn gc)).setCell ⟨w.heap.size,1,none⟩ (.slice va vn vc)).heap[w.heap.size]? = some (.cells #[.slice ga gn gc, .slice va vn vc] 34)):=Lib.hid (by
    rw [cells_set (cells_set HX2.out 0 (.slice ga gn gc)) 1 (.slice va vn vc)];rfl)
   have HBE:Hid (Below w.heap.size w ((w2.setCell ⟨w.heap.size,0,none⟩ (.slice ga gn gc)).setCell ⟨w.heap.size,1,none⟩ (.slice va vn vc))):=Lib.hid (((HB0.out.trans ((HB1.out.trans (HB2.out.mono HB1.out.size)).mono HB0.out.size)).setCell (Nat.le_refl _) _).setCell (Nat.le_refl _) _);have HGE:Hid (RdE ((w2.setCell ⟨w.heap.size,0,none⟩ (.slice ga gn gc)).setCell ⟨w.heap.size,1,none⟩ (.slice va vn vc)) (.slice ga gn gc) (bestOf false es)):=Lib.hid ((HG1.out.below HB2.out).other (fun b hb=>by
    have:=HGB.out b hb;rw [Below.heap_setCell _ _ _ _ (show b≠w.heap.size by omega),Below.heap_setCell _ _ _ _ (show b≠w.heap.size by omega)]))
   have HVE:Hid (VertsAt ((w2.setCell ⟨w.heap.size,0,none⟩ (.slice ga gn gc)).setCell ⟨w.heap.size,1,none⟩ (.slice va vn vc)) (.slice va vn vc) vs):=Lib.hid (HVs.out.keptB (fun b hb=>by
    have h1:=HVo.out b hb;have h2:=HB1.out.size;rw [Below.heap_setCell _ _ _ _ (show b≠w.heap.size by omega),Below.heap_setCell _ _ _ _ (show b≠w.heap.size by omega)]))
   clear HX0)
 generalize ((w2.setCell ⟨w.heap.size,0,none⟩ (.slice ga gn gc)).setCell ⟨w.heap.size,1,none⟩ (.slice va vn vc))=w3 at *;have q0:w3.cell? ⟨w.heap.size,0,none⟩=some (.slice ga gn gc):=by rw [cells_cell HY.out];rfl
 have q1:w3.cell? ⟨w.heap.size,1,none⟩=some (.slice va vn vc):=by rw [cells_cell HY.out];rfl
 exact bodyPost_ret (v:=.agg #[.slice ga gn gc, .slice va vn vc]) (by simp [results,Tryz.results13,go_sem,q0,q1]) rfl ⟨_,_,rfl,HGE.out,HVE.out,HBE.out,fun b hb=>Nat.le_of_lt (HGB.out b hb),fun b hb=>Nat.le_trans (Nat.le_trans (Nat.le_of_lt hsz0) HB1.out.size) (HVo.out b hb)⟩
theorem wpList_append_vrt {w:World} {ops:Array Oper} {rest:List Oper} {op:Oper} {a:Act} {Q:Exit->Act->World->Prop} (hgd:op.guard=none) (s x:Operand) (ho:op.op=.call { callee:=.builtin .append,args:=#[s,x],argTypes:=#[23,23] }) (base:Nat) (v:Value) (l:List Vrt) (hs:a.eval s=v) (hown:ownsVrts w base v l)
 (y:Vrt) (c:Nat) (hx:a.eval x=.slice (some ⟨w.heap.size,0,none⟩) 1 c) (hl:l.length<=100000) (hbase:base<=w.heap.size)
 (k:∀ v' w',ownsVrts w' base v' (l++[y])->Appd v (w.alloc (.cells #[.int .u32 (y.r.toNat:Int), .int .u32 (y.l.toNat:Int), .int .u32 (y.g.toNat:Int)] 55)) w' v'->wpList Tryz.prog ops Q rest (a.put op.dst v') w') :
 wpList Tryz.prog ops Q (op::rest) a (w.alloc (.cells #[.int .u32 (y.r.toNat:Int), .int .u32 (y.l.toNat:Int), .int .u32 (y.g.toNat:Int)] 55)):=by
 refine wpList_append_at hgd s x 23 ho base 55 _ 3 12 Tryz.underlying23 info_vert rfl (by decide) v l.length (vrtRow l) hs (World.ownsRow.alloc hown _) ⟨w.heap.size,0,none⟩ 1 c [.int .u32 (y.r.toNat:Int), .int .u32 (y.l.toNat:Int), .int .u32 (y.g.toNat:Int)] hx rfl (fun j u hj=>?_) (by simp [Value.oneCell']) (by unfold maxLen;omega) (by omega) (by simp;omega) (fun v' w' h1 h2=>k v' w' ?_ h2)
 ·rw [Addr_add,Nat.zero_add];match j,hj with
  | 0,hj=>cases hj;simp
  | 1,hj=>cases hj;simp
  | 2,hj=>cases hj;simp
  | j+3,hj=>cases hj
 ·unfold ownsVrts;rw [vrtRow_append,List.length_append];exact h1
def vNew:Vrt:=⟨4294967295,0,0⟩
theorem bestOf_nil (b:Bool):bestOf b []=[]:=((best_bestOf b []).unique (Best.nil b))
set_option maxRecDepth 100000 in
set_option maxHeartbeats 4000000 in
theorem refBegin_any (n:Nat) (hn:n<=100) (w:World):Calls Tryz.prog 61 #[.int .i64 (n:Int), .slice none 0 0] w (NewGenV w [] (List.replicate n vNew)):=by
 have HN:=Lib.hid hn;have HB0:Hid (Below w.heap.size w (w.alloc (.cells #[.slice none 0 0, .slice none 0 0] 34))):=Lib.hid ((Below.refl _ _).alloc (Nat.le_refl _) _);have HX0:Hid ((w.alloc (.cells #[.slice none 0 0, .slice none 0 0] 34)).heap[w.heap.size]? = some (.cells #[.slice none 0 0, .slice none 0 0] 34)):=Lib.hid (heap_alloc_new _ _);have hsz0:w.heap.size < (w.alloc (.cells #[.slice none 0 0, .slice none 0 0] 34)).heap.size:=by simp
 have HSZ:=Lib.hid hsz0;clear hn hsz0;go_enter Tryz.func61,Tryz.ntmps61
 go_wp2_with fail
 generalize w.alloc (.cells #[.slice none 0 0, .slice none 0 0] 34)=W0 at *;go_loopw [5,6] (fun vl vi wr=>∃ (k:Nat),vi=.int .i64 (k:Int)/\k<=n/\Hid (Below W0.heap.size W0 wr/\ownsVrts wr W0.heap.size vl (List.replicate k vNew))) (fun _ vi _=>n - (intOf vi).toNat)
 case atStart=>exact ⟨0,rfl,Nat.zero_le _,Lib.hid ⟨Below.refl _ _,World.ownsRow_nil _ _ _ _⟩⟩
 case round=>
  generalize u5=lv at *;obtain ⟨k,rfl,hk,HS⟩:=hrel;generalize wr=W1 at *;obtain ⟨la,lc,hll⟩:=ownsRow_slice HS.out.2;rw [List.length_replicate] at hll;subst hll;by_cases hlt:k < n
  ·have hkz:(k:Int) < (n:Int):=by omega
   have wk:IntKind.i64.wrap ((k:Int)+1)=((k+1:Nat):Int):=by have:=HN.out;rw [wrap_in]<;>omega
   have hkl:k<=100000:=by have:=HN.out;omega
   go_wp2_with (at_builtin;go_loud (refine wpList_append_vrt rfl _ _ rfl W0.heap.size _ (List.replicate k vNew) rfl HS.out.2 vNew 1 (by simp [go_sem]) (by rw [List.length_replicate];exact hkl) HS.out.1.size ?_);intro v2 w2 h2 ha;have HS2:Hid (Below W0.heap.size W0 w2/\ownsVrts w2 W0.heap.size v2 (List.replicate (k+1) vNew)):=Lib.hid ⟨(appd_below (HS.out.1.alloc HS.out.1.size _) (fun b hb=>ownsRow_block HS.out.2 b hb) ha).1,by rw [List.replicate_succ'];exact h2⟩;clear h2 ha)
   clear HS hkl;go_roundw
   case rel=>exact ⟨k+1,by go_num,by omega,HS2⟩
   case measure=>simp [intOf];omega
  ·have hkz:¬ (k:Int) < (n:Int):=by omega
   obtain rfl:k=n:=by omega
   have hof:=Lib.hid (refOfV_any (.slice none 0 0) (.slice la k lc) [] (List.replicate k vNew) W1 (rdE_none W1) (verts_of_owns HS.out.2).1.rd (by simp) (by rw [List.length_replicate];have:=HN.out;omega));rw [bestOf_nil] at hof;go_wp2_with fail
   refine hof.out.mono ?_;rintro e w2 ⟨gv,hv,rfl,hg2,hv2,hb2,hgo2,hvo2⟩;obtain ⟨ga,gc,rfl,-⟩:=id hg2;obtain ⟨va,vc,rfl,-⟩:=id hv2;have hz1:=HS.out.1.size;have hz2:=HSZ.out;have HX2:Hid (w2.heap[w.heap.size]? = some (.cells #[.slice none 0 0, .slice none 0 0] 34)):=Lib.hid ((hb2.block _ (by omega)).trans ((HS.out.1.block _ hz2).trans HX0.out));have k0:w2.cell? ⟨w.heap.size,0,none⟩=some (.slice none 0 0):=by rw [cells_cell HX2.out];rfl
   have k1:w2.cell? ⟨w.heap.size,1,none⟩=some (.slice none 0 0):=by rw [cells_cell HX2.out];rfl
   have f0:=cells_frozen HX2.out 0;have f1:=cells_frozen HX2.out 1;have HBE:Hid (Below w.heap.size w ((w2.setCell ⟨w.heap.size,0,none⟩ (.slice ga ([]:List Edg).length gc)).setCell ⟨w.heap.size,1,none⟩ (.slice va (List.replicate k vNew).length vc))):=Lib.hid (((HB0.out.trans ((HS.out.1.trans (hb2.mono hz1)).mono (by omega))).setCell (Nat.le_refl _) _).setCell (Nat.le_refl _) _);have HY:Hid (((w2.setCell ⟨w.heap.size,0,none⟩ (.slice ga ([]:List Edg).length gc)).setCell ⟨w.heap.size,1,none⟩ (.slice va (List.replicate k vNew).length vc)).heap[w.heap.size]? = some (.cells #[.slice ga ([]:List Edg).length gc, .slice va (List.replicate k vNew).length vc] 34)):=Lib.hid (by
    rw [cells_set (cells_set HX2.out 0 (.slice ga ([]:List Edg).length gc)) 1 (.slice va (List.replicate k vNew).length vc)];rfl)
   have HGE:Hid (RdE ((w2.setCell ⟨w.heap.size,0,none⟩ (.slice ga ([]:List Edg).length gc)).setCell ⟨w.heap.size,1,none⟩ (.slice va (List.replicate k vNew).length vc)) (.slice ga ([]:List Edg).length gc) []):=Lib.hid ⟨ga,gc,rfl, .inl rfl⟩;have HVE:Hid (VertsAt ((w2.setCell ⟨w.heap.size,0,none⟩ (.slice ga ([]:List Edg).length gc)).setCell ⟨w.heap.size,1,none⟩ (.slice va (List.replicate k vNew).length vc)) (.slice va (List.replicate k vNew).length vc) (List.replicate k vNew)):=Lib.hid (hv2.keptB (fun b hb=>by
    have h1:=hvo2 b hb;rw [Below.heap_setCell _ _ _ _ (show b≠w.heap.size by omega),Below.heap_setCell _ _ _ _ (show b≠w.heap.size by omega)]))
   have HGO:Hid ((∀ b,(Value.slice ga ([]:List Edg).length gc).ownBlock=some b->w.heap.size<=b)/\∀ b,(Value.slice va (List.replicate k vNew).length vc).ownBlock=some b->w.heap.size<=b):=Lib.hid ⟨fun b hb=>by have:=hgo2 b hb;omega,fun b hb=>by have:=hvo2 b hb;omega⟩;rw [List.length_replicate] at HBE HY HGE HVE HGO ⊢;rw [List.length_nil] at HBE HY HGE HVE HGO ⊢;clear hg2 hv2 hb2 hgo2 hvo2 hof HX2 hz1 hz2;go_wp2_with fail
   generalize (w2.setCell ⟨w.heap.size,0,none⟩ (.slice ga 0 gc)).setCell ⟨w.heap.size,1,none⟩ (.slice va k vc)=w3 at *;have q0:w3.cell? ⟨w.heap.size,0,none⟩=some (.slice ga 0 gc):=by rw [cells_cell HY.out];rfl
   have q1:w3.cell? ⟨w.heap.size,1,none⟩=some (.slice va k vc):=by rw [cells_cell HY.out];rfl
   exact bodyPost_ret (v:=.agg #[.slice ga 0 gc, .slice va k vc]) (by simp [results,Tryz.results61,go_sem,q0,q1]) rfl ⟨_,_,rfl,HGE.out,HVE.out,HBE.out,HGO.out.1,HGO.out.2⟩
structure Gen0 (L:Logic) (l:List Edg) (n:Nat):Prop where
 e:mget L (sName 101 0)=some (edgeFile (bestOf false l) true)
 r:mget L (sName 114 0)=some (edgeFile (bestOf true l) true)
 v:mget L (sName 118 0)=some (vertFile (List.replicate n vNew) true)
 oth:∀ y,y≠sName 101 0->y≠sName 114 0->y≠sName 118 0->mget L y=none
 need:need L<=12*l.length+4*n
theorem gen0_of {L:Logic} {l:List Edg} {n:Nat} (h:RawL l L):Gen0 (mdel (makeL L 0 l (List.replicate n vNew)) nmX) l n:=by
 obtain ⟨f1,f2,f3⟩:=makeL_files L 0 l (List.replicate n vNew);refine ⟨by rw [mget_mdel,if_neg (nmX_ne _ _),f1],by rw [mget_mdel,if_neg (nmX_ne _ _),f2],by rw [mget_mdel,if_neg (nmX_ne _ _),f3],fun y h1 h2 h3=>?_,?_⟩
 ·rw [mget_mdel];by_cases e:y=nmX
  ·rw [if_pos e]
  ·rw [if_neg e,makeL_oth h1 h2 h3,h.2.1 y e]
 ·have g1:=need_mdel_le (makeL L 0 l (List.replicate n vNew)) nmX;have g2:=makeL_need L 0 l (List.replicate n vNew);have g3:=h.2.2;rw [List.length_replicate] at g2;omega
def Begun18 (w:World) (n:Nat) (l:List Edg) (N:Nat) (e:Ending) (w':World):Prop:=
 ∃ db pb o d L,e=.returned (.tuple #[ptrTo db,ptrTo pb])/\Held w w' pb db n o d L/\Gen0 L l N
theorem smallL_length (n:Nat) (es:List Edg):(smallL n es).length<=80:=by
 unfold smallL;split
 ·simp
 ·rw [List.length_map,List.length_take];omega
set_option maxRecDepth 100000 in
set_option maxHeartbeats 8000000 in
theorem begun18_any (HW:WriteSaid) {m:Nat} (HJS:JobSortSaid m) {w:World} {ev:Value} {es:List Edg} (N F:Nat) (hN:N < 256) (hF:F < 256) (he:RdE w ev es) (hm:(smallL (N % 25) es).length<=m) :
 Calls Tryz.prog 30 #[.agg #[.int .u8 (N:Int),ev, .int .u8 (F:Int)]] w (Begun18 w (8+F % 40) (smallL (N % 25) es) (N % 25)):=by
 have HSM:=Lib.hid (fun W (hW:Below w.heap.size w W)=>small_any N F hN (he.below hW));have HLN:=Lib.hid (smallL_length (N % 25) es);have HMM:=Lib.hid hm;obtain ⟨ea,ec,rfl,-⟩:=id he;generalize hV:N % 25=V at *;have HV:Hid (V < 25):=Lib.hid (by omega);obtain ⟨z,hz⟩:∃ z,z=F % 40:=⟨_,rfl⟩;have hF1:wrap64 (F:Int)=(F:Int):=by unfold wrap64;omega
 have hF2:(F:Int) % 40=(z:Int):=by omega
 have hF3:IntKind.i64.wrap (8+(z:Int))=((8+z:Nat):Int):=by rw [wrap_in]<;>omega
 have HZ:Hid (z < 40):=Lib.hid (by omega);rw [<- hz];generalize smallL V es=l at *;have HB0:Hid (Below w.heap.size w (w.alloc (.cells #[.int .u8 (N:Int), .slice ea es.length ec, .int .u8 (F:Int)] 69))):=Lib.hid ((Below.refl _ _).alloc (Nat.le_refl _) _);have HX0:Hid ((w.alloc (.cells #[.int .u8 (N:Int), .slice ea es.length ec, .int .u8 (F:Int)] 69)).heap[w.heap.size]? = some (.cells #[.int .u8 (N:Int), .slice ea es.length ec, .int .u8 (F:Int)] 69)):=Lib.hid (heap_alloc_new _ _);obtain ⟨PST,hPST⟩:∃ P,P=Begun18 w (8+z) l V:=⟨_,rfl⟩;have HPST:=Lib.hid hPST;rw [<- hPST];clear he hm hV hz hN hF hPST;generalize es.length=EL at *;go_enter Tryz.func30,Tryz.ntmps30
 go_wp2_with fail
 generalize hwb:w.heap.size=wb at *;generalize w.alloc (.cells #[.int .u8 (N:Int), .slice ea EL ec, .int .u8 (F:Int)] 69)=W0 at *;have HWB:Hid (w.heap.size=wb/\wb < W0.heap.size):=Lib.hid ⟨hwb,(Array.getElem?_eq_some_iff.1 HX0.out).1⟩;clear hwb;have hsm:=Lib.hid (HSM.out W0 HB0.out);unfold SmallPost at hsm;refine hsm.out.mono ?_;rintro e w1 ⟨v1,rfl,hb1,ho1⟩;obtain ⟨a1,c1,rfl⟩:=ownsRow_slice ho1;have hbx:w1.heap[wb]? = some (.cells #[.int .u8 (N:Int), .slice ea EL ec, .int .u8 (F:Int)] 69):=(hb1.block _ HWB.out.2).trans HX0.out;have b2:w1.cell? ⟨wb,2,none⟩=some (.int .u8 (F:Int)):=by rw [cells_cell hbx];rfl
 have HB1:Hid (Below wb w w1):=Lib.hid (HB0.out.trans (hb1.mono (Nat.le_of_lt HWB.out.2)));have hraw:=Lib.hid (raw_any HW (8+z) (by omega) (by have:=HZ.out;omega) _ l w1 (rdE_own ho1) (by have:=HLN.out;omega));unfold RawPost ptrTo at hraw;clear hb1 ho1 hbx hsm HSM;go_wp2_with fail
 refine hraw.out.mono ?_;rintro e w2 ⟨db,pb,o2,d2,L2,rfl,hh2,hr2⟩;have HH2:=Lib.hid hh2;have HR2:=Lib.hid hr2;have hbg:=Lib.hid (refBegin_any V (by have:=HV.out;omega) w2);clear hh2 hr2 hraw b2 hF1 hF2 hF3;unfold ptrTo NewGenV at *;go_wp2_with fail
 refine hbg.out.mono ?_;rintro e w3 ⟨gv,hv,rfl,-,hv3,hb3,-,ho3⟩;have HH3:=Lib.hid (HH2.out.later hb3);have hmk:=Lib.hid (held_make HW HJS HH3.out (by omega) HR2.out (gen:=0) (.inl (by decide)) HMM.out (by have:=HLN.out;omega) hv3 (fun b hb=>HH2.out.pool.fresh (ho3 b hb)) (by rw [List.length_replicate];have:=HV.out;omega));obtain ⟨va,vc,rfl,-⟩:=hv3;rw [List.length_replicate] at hmk ⊢;have hfd:∀ w:World,(Instr.field 34 (.agg #[gv, .slice va V vc]) 1).run Tryz.prog w=.ok (.slice va V vc) w:=fun _=>by kernel_rfl
 unfold HeldMake nmX ptrTo at hmk;clear hb3 ho3 hbg;go_wp2_with fail
 refine hmk.out.mono ?_;rintro e w4 ⟨d4,o4,rfl,hh4⟩;have HH4:=Lib.hid hh4;have hdr:Hid (Calls Tryz.prog 62 #[ptrTo pb, .string nmX] w4 fun e w'=>∃ d'' o'',e=.returned (.int .i64 0)/\Held w1 w' pb db (8+z) o'' d'' (mdel (makeL L2 0 l (List.replicate V vNew)) nmX)):=Lib.hid (by
  obtain ⟨fl,hfl⟩:=HR2.out.1;refine (drop_any hh4.pool (name:=nmX) (by rw [makeL_oth (nmX_ne _ _).symm (nmX_ne _ _).symm (nmX_ne _ _).symm];exact hfl)).mono ?_;rintro e w' ⟨c,d'',o'',L'',rfl,hp,ht,hg,hon,hdr⟩;have hm2:Moved (fun _=>False) (8+z) pb db w4 o4 d4 w' o'' d'' L'':=moved_of hp ht hg hon;have hh:=hh4.moved hm2 (fun _ e=>e.elim);rcases hdr with ⟨rfl,rfl⟩ | ⟨-,h2,-⟩
  ·exact ⟨d'',o'',rfl,hh⟩
  ·rw [hh.dead] at h2;cases h2)
 unfold nmX ptrTo at hdr;clear hh4 hmk;go_wp2_with fail
 refine hdr.out.mono ?_;rintro e w5 ⟨d5,o5,rfl,hh5⟩;have HQF:Hid (PST (.returned (.tuple #[ptrTo db,ptrTo pb])) w5):=Lib.hid (by
  rw [HPST.out];have h1:=gen0_of (n:=V) HR2.out;unfold nmX at h1;exact ⟨db,pb,o5,d5,_,rfl,hh5.rebase (by have:=HB1.out;rwa [HWB.out.1]),h1⟩)
 clear hh5 hdr;unfold ptrTo at HQF;go_wp2;exact HQF.out
end
section
open Go.RowKit Go.Maps
def esW:List Edg:=[⟨0,1,1,4294967295⟩,⟨1,2,1,4294967295⟩]
def vsW0:List Vrt:=[vNew,vNew,vNew]
def vsW1:List Vrt:=[⟨0,1,0⟩,⟨4294967295,1,2⟩,⟨1,1,0⟩]
def vsW2:List Vrt:=[⟨0,1,0⟩,⟨2,2,2⟩,⟨1,1,0⟩]
theorem best_esW (b:Bool):bestOf b esW=esW:=by
 refine (Best.eq ⟨?_,fun e he=>?_,fun x hx _=>⟨x,hx,rfl,rfl⟩⟩).symm
 ·cases b<;>decide
 ·refine ⟨he,?_,fun x hx hs=>?_⟩
  ·revert e;decide
  ·have h1:∀ x∈esW,∀ e∈esW,x.t=e.t->x=e:=by decide
   rw [h1 x hx e he hs.1];exact Nat.le_refl _
theorem smallW:smallL 3 [⟨0,1,1,0⟩,⟨1,2,1,0⟩]=esW:=by decide
theorem chosenW0:chosenM esW vsW0=[0,2]:=by
 unfold chosenM candsM candM nearM;unfold outM inM;simp only [best_esW];kernel_rfl
theorem chosenW1:chosenM [] vsW1=[1]:=by
 unfold chosenM candsM candM nearM;unfold outM inM;simp only [bestOf_nil];kernel_rfl
theorem chosenW2:chosenM [] vsW2=[]:=by
 unfold chosenM candsM candM nearM;unfold outM inM;simp only [bestOf_nil];kernel_rfl
theorem rawW0:rawM esW [0,2]=[]:=by
 unfold rawM stayM cutM;unfold outM inM;simp only [best_esW];kernel_rfl
theorem rawW1:rawM [] [1]=[]:=by
 unfold rawM stayM cutM;unfold outM inM;simp only [bestOf_nil];kernel_rfl
theorem upW0:upM esW [0,2]=[⟨0,1,1,4294967295⟩]:=by
 unfold upM outM;simp only [best_esW];kernel_rfl
theorem downW0:downM esW [0,2]=[⟨1,2,1,4294967295⟩]:=by
 unfold downM inM;simp only [best_esW];kernel_rfl
theorem upW1:upM [] [1]=[]:=by
 unfold upM outM;simp only [bestOf_nil];kernel_rfl
theorem downW1:downM [] [1]=[]:=by
 unfold downM inM;simp only [bestOf_nil];kernel_rfl
theorem vertsW0:vertsM esW vsW0 0 0 [0,2]=vsW1:=by
 unfold vertsM tookM nearM;unfold outM inM;simp only [best_esW];kernel_rfl
theorem vertsW1:vertsM [] vsW1 2 1 [1]=vsW2:=by
 unfold vertsM tookM nearM;unfold outM inM;simp only [bestOf_nil];kernel_rfl
section
variable {w0 w w':World} {pb db:Nat} {o:Owner} {d:Dsk} {L L':Logic}
theorem rnW0 (hh:Held w0 w pb db 8 o d L) (hg:Gen0 L esW 3) (m:Nat):RnIn w0 w pb db 8 o d L 0 0 m esW vsW0:=by
 have hn:=hg.need;have hl:esW.length=2:=rfl;refine ⟨hh,by decide,by decide,hg.e,hg.r,hg.v,by decide,by decide,by decide,?_,fun c=>hg.oth _ (sName_gen_ne (by decide)) (sName_gen_ne (by decide)) (sName_gen_ne (by decide)),fun k=>hg.oth _ (tName_sName _ (by decide) _ _).symm (tName_sName _ (by decide) _ _).symm (tName_sName _ (by decide) _ _).symm,?_,?_,?_,?_⟩
 ·unfold candsM;exact Nat.le_trans (List.length_filterMap_le _ _) (by decide)
 ·rw [chosenW0,rawW0];exact Nat.zero_le _
 ·rw [chosenW0,rawW0,upW0,downW0,hl];have:vsW0.length=3:=rfl;simp only [List.length_nil,List.length_singleton,this];omega
 ·rw [chosenW0];decide
 ·intro v _;have h1:(inM esW v).length<=2:=by unfold inM ofL;rw [best_esW];exact List.length_filter_le _ _
  have h2:(outM esW v).length<=2:=by unfold outM ofL;rw [best_esW];exact List.length_filter_le _ _
  exact Nat.le_trans (Nat.mul_le_mul h1 h2) (by decide)
theorem rnW1 (hh:Held w0 w pb db 8 o d L') (hg:Gen0 L esW 3) (hr:Rounded L L' 0 [] [⟨0,1,1,4294967295⟩] [⟨1,2,1,4294967295⟩] vsW1) (m:Nat):RnIn w0 w pb db 8 o d L' 1 2 m [] vsW1:=by
 have hn:=hg.need;have hl:esW.length=2:=rfl;have hk:=hr.need;have e1:=eN_le (bestOf false []);have e2:=eN_le (bestOf true []);have e3:=eN_le [⟨0,1,1,4294967295⟩];have e4:=eN_le [⟨1,2,1,4294967295⟩];have e5:vN vsW1<=4*vsW1.length:=vertFile_need _ _;rw [bestOf_nil] at e1 e2;rw [bestOf_nil,bestOf_nil] at hk;simp only [List.length_nil,List.length_singleton] at e1 e2 e3 e4;have e6:vsW1.length=3:=rfl;refine ⟨hh,by decide,by decide,hr.e,hr.r,hr.v,by decide,by decide,by decide,?_,fun c=>?_,fun k=>?_,?_,?_,?_,?_⟩
 ·unfold candsM;exact Nat.le_trans (List.length_filterMap_le _ _) (by decide)
 ·rw [hr.oth _ (sName_gen_ne (by decide)) (sName_gen_ne (by decide)) (sName_gen_ne (by decide)) (sName_gen_ne (by decide)) (sName_gen_ne (by decide))];exact hg.oth _ (sName_gen_ne (by decide)) (sName_gen_ne (by decide)) (sName_gen_ne (by decide))
 ·rw [hr.oth _ (tName_sName _ (by decide) _ _).symm (tName_sName _ (by decide) _ _).symm (tName_sName _ (by decide) _ _).symm (tName_sName _ (by decide) _ _).symm (tName_sName _ (by decide) _ _).symm];exact hg.oth _ (tName_sName _ (by decide) _ _).symm (tName_sName _ (by decide) _ _).symm (tName_sName _ (by decide) _ _).symm
 ·rw [chosenW1,rawW1];exact Nat.zero_le _
 ·rw [chosenW1,rawW1,upW1,downW1,e6];simp only [List.length_nil];omega
 ·rw [chosenW1];decide
 ·intro v _;have h1:(inM [] v).length<=0:=by unfold inM ofL;rw [bestOf_nil];exact List.length_filter_le _ _
  rw [Nat.le_zero.1 h1,Nat.zero_mul];exact Nat.zero_le _
theorem rnW2 {L0:Logic} (hh:Held w0 w pb db 8 o d L') (hg:Gen0 L0 esW 3) (h0:Rounded L0 L 0 [] [⟨0,1,1,4294967295⟩] [⟨1,2,1,4294967295⟩] vsW1) (hr:Rounded L L' 1 [] [] [] vsW2) (m:Nat):RnIn w0 w pb db 8 o d L' 2 3 m [] vsW2:=by
 have hn:=hg.need;have hl:esW.length=2:=rfl;have hk:=hr.need;have hk0:=h0.need;have e1:=eN_le (bestOf false []);have e2:=eN_le (bestOf true []);have e3:=eN_le [⟨0,1,1,4294967295⟩];have e4:=eN_le [⟨1,2,1,4294967295⟩];have e5:vN vsW1<=4*vsW1.length:=vertFile_need _ _;have e7:vN vsW2<=4*vsW2.length:=vertFile_need _ _;rw [bestOf_nil] at e1 e2;rw [bestOf_nil,bestOf_nil] at hk hk0;simp only [List.length_nil,List.length_singleton] at e1 e2 e3 e4;have e6:vsW1.length=3:=rfl;have e8:vsW2.length=3:=rfl;refine ⟨hh,by decide,by decide,hr.e,hr.r,hr.v,by decide,by decide,by decide,?_,fun c=>?_,fun k=>?_,?_,?_,?_,?_⟩
 ·unfold candsM;exact Nat.le_trans (List.length_filterMap_le _ _) (by decide)
 ·rw [hr.oth _ (sName_gen_ne (by decide)) (sName_gen_ne (by decide)) (sName_gen_ne (by decide)) (sName_gen_ne (by decide)) (sName_gen_ne (by decide)),h0.oth _ (sName_gen_ne (by decide)) (sName_gen_ne (by decide)) (sName_gen_ne (by decide)) (sName_gen_ne (by decide)) (sName_gen_ne (by decide))];exact hg.oth _ (sName_gen_ne (by decide)) (sName_gen_ne (by decide)) (sName_gen_ne (by decide))
 ·rw [hr.oth _ (tName_sName _ (by decide) _ _).symm (tName_sName _ (by decide) _ _).symm (tName_sName _ (by decide) _ _).symm (tName_sName _ (by decide) _ _).symm (tName_sName _ (by decide) _ _).symm,h0.oth _ (tName_sName _ (by decide) _ _).symm (tName_sName _ (by decide) _ _).symm (tName_sName _ (by decide) _ _).symm (tName_sName _ (by decide) _ _).symm (tName_sName _ (by decide) _ _).symm];exact hg.oth _ (tName_sName _ (by decide) _ _).symm (tName_sName _ (by decide) _ _).symm (tName_sName _ (by decide) _ _).symm
 ·rw [chosenW2];show (rawM [] []).length<=m;unfold rawM stayM;rw [bestOf_nil];exact Nat.zero_le _
 ·rw [chosenW2,e8];have r1:rawM [] []=[]:=by unfold rawM stayM;rw [bestOf_nil];rfl
  have r2:upM [] []=[]:=rfl;have r3:downM [] []=[]:=rfl;rw [r1,r2,r3];simp only [List.length_nil];omega
 ·rw [chosenW2];decide
 ·intro v _;have h1:(inM [] v).length<=0:=by unfold inM ofL;rw [bestOf_nil];exact List.length_filter_le _ _
  rw [Nat.le_zero.1 h1,Nat.zero_mul];exact Nat.zero_le _
end
end
section
open Go.RowKit Go.Maps
set_option maxRecDepth 100000 in
set_option maxHeartbeats 4000000 in
theorem works18_any (HW:WriteSaid) {m:Nat} (HJS:JobSortSaid m) (hm:2<=m) (w:World) :
 Calls Tryz.prog 31 #[] w fun e w'=>e=.returned (.bool true)/\Below w.heap.size w w':=by
 go_enter Tryz.func31,Tryz.ntmps31
 have HB0:Hid (Below w.heap.size w (w.alloc (.cells #[.int .u32 0, .int .u32 1, .int .u64 1, .int .u32 0, .int .u32 1, .int .u32 2, .int .u64 1, .int .u32 0] 64))):=Lib.hid ((Below.refl _ _).alloc (Nat.le_refl _) _);have HR0:Hid (RdE (w.alloc (.cells #[.int .u32 0, .int .u32 1, .int .u64 1, .int .u32 0, .int .u32 1, .int .u32 2, .int .u64 1, .int .u32 0] 64)) (.slice (some ⟨w.heap.size,0,none⟩) 2 2) [⟨0,1,1,0⟩,⟨1,2,1,0⟩]):=Lib.hid ⟨_,2,rfl, .inr ⟨w.heap.size,0,rfl,fun j x hx=>by
  match j,hx with
  | 0,hx=>cases hx;simp
  | 1,hx=>cases hx;simp
  | j+2,hx=>cases hx⟩⟩
 go_wp2_with fail
 generalize w.alloc (.cells #[.int .u32 0, .int .u32 1, .int .u64 1, .int .u32 0, .int .u32 1, .int .u32 2, .int .u64 1, .int .u32 0] 64)=W0 at *;have hbg:=Lib.hid (begun18_any HW HJS 3 0 (by decide) (by decide) HR0.out (by rw [show 3 % 25=3 from rfl,smallW];exact hm));unfold Begun18 at hbg;refine hbg.out.mono ?_;rintro e w1 ⟨db,pb,o1,d1,L1,rfl,hh1,hg1⟩;rw [show 3 % 25=3 from rfl,smallW] at hg1;have hh1':Held W0 w1 pb db 8 o1 d1 L1:=hh1;have HG1:=Lib.hid hg1;have HH1:=Lib.hid hh1';have hr0:=Lib.hid (round_any HW HJS (rnW0 hh1' hg1 m));unfold RoundPost at hr0;rw [chosenW0,rawW0,upW0,downW0,vertsW0] at hr0;clear hh1 hh1' hg1 hbg;unfold ptrTo at *;go_wp2_with fail
 refine hr0.out.mono ?_;rintro e w2 ⟨d2,o2,L2,rfl,hm2,-,hr2⟩;have HR2:=Lib.hid (hr2 (by decide));have HH2:=Lib.hid (HH1.out.moved hm2 (fun _ e=>e.elim));have hr1:=Lib.hid (round_any HW HJS (rnW1 HH2.out HG1.out HR2.out m));unfold RoundPost at hr1;rw [chosenW1,rawW1,upW1,downW1,vertsW1] at hr1;clear hm2 hr2 hr0;unfold ptrTo at *;go_wp2_with fail
 refine hr1.out.mono ?_;rintro e w3 ⟨d3,o3,L3,rfl,hm3,-,hr3⟩;have HR3:=Lib.hid (hr3 (by decide));have HH3:=Lib.hid (HH2.out.moved hm3 (fun _ e=>e.elim));have hr2:=Lib.hid (round_any HW HJS (rnW2 HH3.out HG1.out HR2.out HR3.out m));unfold RoundPost at hr2;rw [chosenW2] at hr2;clear hm3 hr3 hr1;unfold ptrTo at *;go_wp2_with fail
 refine hr2.out.mono ?_;rintro e w4 ⟨d4,o4,L4,rfl,hm4,hr4,-⟩;have HL:=Lib.hid (hr4 trivial);have HBE:Hid (Below w.heap.size w w4):=Lib.hid (by
  obtain rfl:=HL.out;exact HB0.out.trans ((HH3.out.moved hm4 (fun _ e=>e.elim)).below.mono HB0.out.size))
 clear hm4 hr4 hr2;go_wp2;go_ret;exact ⟨rfl,HBE.out⟩
end
section
open Go.RowKit Go.Maps
section
variable {w0 w w':World} {pb db n:Nat} {o o':Owner} {d d':Dsk} {L L':Logic}
def noneCode (gen:Int) (d:Dsk):Nat:=if gen < 0\/1048576 < gen then 1 else pfOpen d (sName 118 gen.toNat)
theorem pfOpen_none (h:PoolAt w pb db n o d L) {name:Name} (hL:mget L name=none):pfOpen d name≠0:=by
 obtain ⟨_,_,_,_,_,_,_,g⟩:=h;have h1:=g.names name;rw [hL] at h1;unfold pfOpen Dsk.sizeOf;cases hd:d.dead with
 | true=>simp
 | false=>
   cases hf:mget d.files name with
   | some f=>rw [hf] at h1;simp at h1
   | none=>by_cases hk:okName name=true<;>simp [hk]
theorem noneCode_ne (h:PoolAt w pb db n o d L) {gen:Int} (hL:mget L (sName 118 gen.toNat)=none):noneCode gen d≠0:=by
 unfold noneCode;split
 ·decide
 ·exact pfOpen_none h hL
def OpenNone (w:World) (gen:Int) (d:Dsk) (e:Ending) (w':World):Prop:=e=.returned (.tuple #[.pointer none, .int .i64 (noneCode gen d:Int)])/\Below w.heap.size w w'
set_option maxRecDepth 100000 in
set_option maxHeartbeats 4000000 in
theorem openNone_any (h:PoolAt w pb db n o d L) (gen:Int) (hL:mget L (sName 118 gen.toNat)=none) (hg:(gen < 0\/1048576 < gen)\/GenAt w o gen.toNat) :
 Calls Tryz.prog 34 #[ptrTo pb, .int .i64 gen] w (OpenNone w gen d):=by
 have hne:=noneCode_ne h hL;by_cases hb:gen < 0\/1048576 < gen
 ·have hc:noneCode gen d=1:=if_pos hb;have hr:=Lib.hid (storeRight_no gen hb w);unfold OpenNone;rw [hc];clear h hL hg hne hb hc;unfold ptrTo;go_enter Tryz.func34,Tryz.ntmps34
  go_wp2_with fail
  refine hr.out.mono ?_;rintro e w1 ⟨rfl,rfl⟩;go_wp2;go_ret2
  exact ⟨rfl,Below.refl _ _⟩
 ·have hga:=hg.resolve_left hb;obtain ⟨k,rfl⟩:∃ k:Nat,gen=(k:Int):=⟨gen.toNat,by omega⟩;rw [Int.toNat_natCast] at hL hga;have hc:noneCode (k:Int) d=pfOpen d (sName 118 k):=by unfold noneCode;rw [if_neg hb,Int.toNat_natCast]
  have hright:=Lib.hid (storeRight_yes k hga.le);have hnm:=Lib.hid (fun W (hW:Below w.heap.size w W)=>storeName_any 118 k (hga.below hW));have hop:Hid (∀ W,Below w.heap.size w W->Calls Tryz.prog 67 #[ptrTo pb, .string (sName 118 k), .int .i64 12] W (StreamOpenPost W pb (sName 118 k) 12 (pfOpen d (sName 118 k)))):=Lib.hid (fun W hW=>streamOpen_any (sz:=12) (h.below hW) _ (okName_1000 (sName_ok 118 (by decide) hga.le)) (by decide) (by decide));unfold OpenNone;rw [hc] at hne ⊢;clear h hL hg hb hc hga;generalize pfOpen d (sName 118 k)=c at *;have hcz:¬ (c:Int)=0:=by omega
  unfold ptrTo at *;go_enter Tryz.func34,Tryz.ntmps34
  go_wp2_with fail
  refine (hright.out _).mono ?_;rintro e w' ⟨rfl,rfl⟩;have HG0:Hid (GraphRaw (w.alloc (.cells #[.pointer none, .pointer none, .pointer none, .int .i64 0] 121)) w.heap.size (.pointer none) (.pointer none) (.pointer none) (.int .i64 0)):=Lib.hid ⟨_,heap_alloc_new w _⟩;have HB0:Hid (Below w.heap.size w (w.alloc (.cells #[.pointer none, .pointer none, .pointer none, .int .i64 0] 121))):=Lib.hid ((Below.refl _ _).alloc (Nat.le_refl _) _);go_wp2_with fail
  generalize w.alloc (.cells #[.pointer none, .pointer none, .pointer none, .int .i64 0] 121)=W0 at *;refine (hnm.out W0 HB0.out).mono ?_;rintro e w1 ⟨rfl,hb1⟩;have HG1:=Lib.hid (HG0.out.below hb1);have HB1:Hid (Below w.heap.size w w1):=Lib.hid (HB0.out.trans (hb1.mono HB0.out.size));have hco:=Lib.hid (hop.out w1 HB1.out);clear hb1 hnm;go_wp2_with fail
  refine hco.out.mono ?_;rintro e w2 ⟨v2,rfl,hb2,-,hbad⟩;obtain rfl:=hbad hne;have HG2:=Lib.hid (HG1.out.below hb2);have HB2:Hid (Below w.heap.size w w2):=Lib.hid (HB1.out.trans (hb2.mono HB1.out.size));obtain ⟨g0,g1,g2,g3,gz⟩:=HG2.out.cells;have gz2:=gz 2;have HB3:Hid (∀ v,Below w.heap.size w (w2.setCell ⟨w.heap.size,2,none⟩ v)):=Lib.hid (fun v=>HB2.out.setCell (by exact Nat.le_refl _) v);clear gz hb2 hbad hco hop hne;go_wp2;go_ret2
  exact ⟨rfl,HB3.out _⟩
set_option maxHeartbeats 2000000 in
theorem roundNil_any (gen:Int) (done:Nat) (w:World):Calls Tryz.prog 33 #[.pointer none, .int .i64 gen, .int .u32 (done:Int)] w fun e w'=>e=.returned (.tuple #[.int .u32 0, .int .i64 2])/\w'=w:=by
 go_enter Tryz.func33,Tryz.ntmps33
 go_wp2;go_ret2
 exact ⟨rfl,rfl⟩
set_option maxHeartbeats 2000000 in
theorem roundFew_any (h:PoolAt w pb db n o d L) (hn:n < 8) (gen:Int) (done:Nat):Calls Tryz.prog 33 #[ptrTo pb, .int .i64 gen, .int .u32 (done:Int)] w fun e w'=>e=.returned (.tuple #[.int .u32 0, .int .i64 1])/\w'=w:=by
 have hfr:=Lib.hid (poolFrames_any h);have hn8:(n:Int) < 8:=by omega
 clear h hn;unfold ptrTo at *;go_enter Tryz.func33,Tryz.ntmps33
 go_wp2_with fail
 refine hfr.out.mono ?_;rintro e w1 ⟨rfl,rfl⟩;go_wp2;go_ret2
 exact ⟨rfl,rfl⟩
set_option maxHeartbeats 2000000 in
theorem roundNone_any (h:PoolAt w pb db n o d L) (hn:8<=n) (gen:Int) (done:Nat) (hL:mget L (sName 118 gen.toNat)=none) (hg:(gen < 0\/1048576 < gen)\/GenAt w o gen.toNat) :
 Calls Tryz.prog 33 #[ptrTo pb, .int .i64 gen, .int .u32 (done:Int)] w fun e w'=>e=.returned (.tuple #[.int .u32 0, .int .i64 (noneCode gen d:Int)])/\Below w.heap.size w w':=by
 have hfr:=Lib.hid (poolFrames_any h);have hop:=Lib.hid (openNone_any h gen hL hg);have hn8:¬ (n:Int) < 8:=by omega
 have hcz:¬ (noneCode gen d:Int)=0:=by have:=noneCode_ne h hL;omega
 clear h hL hg hn;unfold ptrTo OpenNone at *;generalize noneCode gen d=c at *;go_enter Tryz.func33,Tryz.ntmps33
 go_wp2_with fail
 refine hfr.out.mono ?_;rintro e w1 ⟨rfl,rfl⟩;go_wp2_with fail
 refine hop.out.mono ?_;rintro e w2 ⟨rfl,hb⟩;have HB:=Lib.hid hb;clear hb hop hfr;go_wp2;go_ret2
 exact ⟨rfl,HB.out⟩
end
end
section
open Go.RowKit Go.Maps
theorem names_one {w0 w:World} {pb db n:Nat} {o:Owner} {d:Dsk} {L:Logic} {es:List Edg} (h:Held w0 w pb db n o d L) (hr:RawL es L) :
 Calls Tryz.prog 38 #[ptrTo db] w fun e w'=>∃ a cap,e=.returned (.slice a 1 cap)/\Below w.heap.size w w':=by
 have h1:=rawL_one hr h.pool.keys;have hc:=h.kept.count;have hd:DiskAt w db o d:=by
  obtain ⟨_,_,_,_,_,g,_,_⟩:=h.pool;exact g.disk
 refine (names_any hd (by omega)).mono ?_;rintro e w' ⟨v,ns,rfl,hp,hr,hb⟩;have hlen:ns.length=1:=by
  have:=hp.length_eq;rw [List.length_map] at this;omega
 rw [hlen] at hr;obtain ⟨a,cap,rfl⟩:=ownsRow_slice hr;exact ⟨a,cap,rfl,hb⟩
theorem sName_u1:sName 117 1=⟨#[117,46,49]⟩:=by kernel_rfl
set_option maxRecDepth 100000 in
set_option maxHeartbeats 8000000 in
theorem contractRefuses_any (HW:WriteSaid) {m:Nat} (HJS:JobSortSaid m) (hm:2<=m) (gen:Int) (done F:Nat) (hF:F < 256) (w:World) (hp:PowAt w) :
 Calls Tryz.prog 8 #[.int .i64 gen, .int .u32 (done:Int), .int .u8 (F:Int)] w fun e w'=>e=.returned (.bool true)/\Below w.heap.size w w':=by
 have HP:=Lib.hid hp;obtain ⟨z,hz⟩:∃ z,z=F % 7:=⟨_,rfl⟩;have hF1:wrap64 (F:Int)=(F:Int):=by unfold wrap64;omega
 have hF2:(F:Int) % 7=(z:Int):=by omega
 have hF3:IntKind.i64.wrap (1+(z:Int))=((1+z:Nat):Int):=by rw [wrap_in]<;>omega
 have HZ:Hid (z < 7):=Lib.hid (by omega);have HG:Hid ((gen < 0\/1048576 < gen)\/gen.toNat<=1048576):=Lib.hid (by omega);have hru:Hid (∀ W,Calls Tryz.prog 39 #[.int .u8 117, .int .i64 1] W fun e w'=>e=.returned (.string ⟨#[117,46,49]⟩)/\Below W.heap.size W w'):=Lib.hid (fun W=>by
  have h:=refName_any 117 1 (by decide) W;rw [sName_u1] at h;exact h)
 clear hz hF hp;go_enter Tryz.func8,Tryz.ntmps8
 go_wp2_with fail
 refine (roundNil_any gen done w).mono ?_;rintro e w' ⟨rfl,rfl⟩;have hraw:=Lib.hid (raw_any HW (1+z) (by omega) (by have:=HZ.out;omega) (.slice none 0 0) [] w' (rdE_none w') (by decide));unfold RawPost ptrTo at hraw;go_wp2_with fail
 refine hraw.out.mono ?_;rintro e w2 ⟨db,pb,o2,d2,L2,rfl,hh2,hr2⟩;have HH2:=Lib.hid hh2;have HR2:=Lib.hid hr2;have hfew:=Lib.hid (roundFew_any hh2.pool (by have:=HZ.out;omega) gen done);clear hh2 hr2 hraw hF1 hF2 hF3;unfold ptrTo at *;go_wp2_with fail
 refine hfew.out.mono ?_;rintro e w3 ⟨rfl,rfl⟩;have hraw:=Lib.hid (raw_any HW 8 (by decide) (by decide) (.slice none 0 0) [] w3 (rdE_none w3) (by decide));unfold RawPost ptrTo at hraw;clear hfew;go_wp2_with fail
 refine hraw.out.mono ?_;rintro e w4 ⟨db4,pb4,o4,d4,L4,rfl,hh4,hr4⟩;have HB4:=Lib.hid hh4.below;have HH2':=Lib.hid (HH2.out.later hh4.below);have HH4:=Lib.hid (hh4.rebase HH2.out.below);have HR4:=Lib.hid hr4;have hnone:=Lib.hid (roundNone_any hh4.pool (Nat.le_refl 8) gen done (hr4.2.1 _ (nmX_ne _ _)) (HG.out.imp id (fun h=>HH4.out.gen h HP.out)));have hne:=noneCode_ne hh4.pool (gen:=gen) (hr4.2.1 _ (nmX_ne _ _));have hop:Hid (∀ W,Below w4.heap.size w4 W->Calls Tryz.prog 34 #[ptrTo pb4, .int .i64 gen] W (OpenNone W gen d4)):=Lib.hid (fun W hW=>openNone_any (HH4.out.later hW).pool gen (HR4.out.2.1 _ (nmX_ne _ _)) (HG.out.imp id (fun h=>(HH4.out.later hW).gen h HP.out)));clear hh4 hr4 hraw HH2 HG HP HZ;unfold OpenNone at hop;obtain ⟨c,hc⟩:∃ c,c=noneCode gen d4:=⟨_,rfl⟩;rw [<- hc] at hnone hop hne;have hcz:¬ (c:Int)=0:=by omega
 clear hc hne;unfold ptrTo at *;go_wp2_with fail
 refine hnone.out.mono ?_;rintro e w5 ⟨rfl,hb5⟩;have HB5:=Lib.hid hb5;have hop5:=Lib.hid (hop.out w5 hb5);clear hb5 hnone hop;go_wp2_with fail
 refine hop5.out.mono ?_;rintro e w6 ⟨rfl,hb6⟩;have HB6:=Lib.hid (HB5.out.trans (hb6.mono HB5.out.size));have hn1:=Lib.hid (names_one (HH2'.out.later HB6.out) HR2.out);clear hb6 hop5 HB5;unfold ptrTo at *;go_wp2_with fail
 refine hn1.out.mono ?_;rintro e w7 ⟨a7,c7,rfl,hb7⟩;have HB7:=Lib.hid (HB6.out.trans (hb7.mono HB6.out.size));have hn2:=Lib.hid (names_one (HH4.out.later HB7.out) HR4.out);clear hb7 hn1 HB6;unfold ptrTo at *;go_wp2_with fail
 refine hn2.out.mono ?_;rintro e w8 ⟨a8,c8,rfl,hb8⟩;have HB8:=Lib.hid (HB7.out.trans (hb8.mono HB7.out.size));clear hb8 hn2 HB7;go_wp2_with fail
 refine (hru.out _).mono ?_;rintro e w9 ⟨rfl,hb9⟩;have HB9:=Lib.hid (HB8.out.trans (hb9.mono HB8.out.size));clear hb9 hru HB8;go_wp2_with fail
 refine (works18_any HW HJS hm _).mono ?_;rintro e w10 ⟨rfl,hb10⟩;have HBE:=Lib.hid ((HH4.out.later (HB9.out.trans (hb10.mono HB9.out.size))).below);clear hb10 HB9;go_wp2;go_ret;refine ⟨?_,HBE.out⟩;show Ending.returned (.bool ((c:Int) != 0))=_;rw [bne_iff_ne.2 hcz]
end
end Go.Proofs.YthkkgdpomhhjjaaGreatDoor
