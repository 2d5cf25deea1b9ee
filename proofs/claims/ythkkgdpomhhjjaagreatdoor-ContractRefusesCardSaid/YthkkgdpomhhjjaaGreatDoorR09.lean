/-
  Joined.
-/
import Derived.Test.YthkkgdpomhhjjaaGreatDoorR08
import Derived.Deep.RegionWith
import Derived.Laws.IdiomStrings
namespace Go.Proofs.YthkkgdpomhhjjaaGreatDoor
section
open Go.RowKit Go.Maps Go.MapKept
def sName (c:UInt8) (k:Nat):Name:=⟨([c,46]++Lib.decDigits k).toArray⟩
def PowAt (w:World):Prop:=Lib.TabIs Tryz.prog w "internal/strconv.uint64pow10" .u64 Lib.pow10Tab
theorem powName:Tryz.prog.globalNamed "internal/strconv.uint64pow10"=some 0:=by kernel_rfl
theorem PowAt.kept {w w':World} (h:PowAt w) (hb:w'.heap[(0:Nat)]? = w.heap[(0:Nat)]?):PowAt w':=by
 unfold PowAt Lib.TabIs World.var? at h ⊢;rw [powName] at h ⊢;simp only [Option.bind_some] at h ⊢;rw [hb];exact h
theorem PowAt.lt {w:World} (h:PowAt w):0 < w.heap.size:=by
 unfold PowAt Lib.TabIs World.var? at h;rw [powName] at h;simp only [Option.bind_some] at h;by_cases hl:0 < w.heap.size
 ·exact hl
 ·rw [Array.getElem?_eq_none (by omega)] at h;cases h
def GenAt (w:World) (o:Owner) (gen:Nat):Prop:=gen < 100\/(gen<=1048576/\PowAt w/\o 0=none)
theorem GenAt.le {w:World} {o:Owner} {gen:Nat} (h:GenAt w o gen):gen<=1048576:=h.elim (fun h=>by omega) (fun h=>h.1)
theorem GenAt.below {w w':World} {o:Owner} {gen:Nat} (h:GenAt w o gen) (hb:Below w.heap.size w w'):GenAt w' o gen:=
 h.imp id fun ⟨h1,h2,h3⟩=>⟨h1,h2.kept (hb.block _ h2.lt),h3⟩
theorem GenAt.moved {S:Nat->Prop} {n pb db gen:Nat} {w w':World} {o o':Owner} {d d':Dsk} {L':Logic} (h:GenAt w o gen) (hm:Moved S n pb db w o d w' o' d' L') (hs:∀ x,¬ S x):GenAt w' o' gen:=
 h.imp id fun ⟨h1,h2,h3⟩=>⟨h1,h2.kept (hm.block h2.lt h3 (hs _)),hm.free h2.lt h3⟩
theorem digits_lt:∀ (n k:Nat),k < 10 ^ (n+1)->(Lib.decDigits k).all okByte=true/\(Lib.decDigits k).length<=n+1:=by
 have hb:∀ j,j < 10->okByte (UInt8.ofNat (48+j))=true:=by decide
 intro n;induction n with
 | zero=>
   intro k hk;have h1:k < 10:=by simpa using hk
   rw [Lib.decDigits,dif_pos h1];exact ⟨by simp only [List.all_cons,List.all_nil,Bool.and_true];exact hb k h1,by simp⟩
 | succ n ih=>
   intro k hk;by_cases h1:k < 10
   ·rw [Lib.decDigits,dif_pos h1];exact ⟨by simp only [List.all_cons,List.all_nil,Bool.and_true];exact hb k h1,by simp⟩
   ·rw [Lib.decDigits,dif_neg h1];have hk':k / 10 < 10 ^ (n+1):=by
     rw [Nat.pow_succ] at hk;exact Nat.div_lt_of_lt_mul (by rw [Nat.mul_comm];exact hk)
    obtain ⟨h2,h3⟩:=ih _ hk';refine ⟨?_,by rw [List.length_append];simp;omega⟩;rw [List.all_append,h2,Bool.true_and];simp only [List.all_cons,List.all_nil,Bool.and_true];exact hb _ (by omega)
set_option maxRecDepth 100000 in
set_option maxHeartbeats 4000000 in
theorem storeName_small (c:UInt8) (k:Nat) (hk:k < 100) (w:World) :
 Calls Tryz.prog 18 #[.int .u8 (c.toNat:Int), .int .i64 (k:Int)] w fun e w'=>e=.returned (.string (sName c k))/\Below w.heap.size w w':=by
 have hit:=Lib.hid (fun W=>Any.strconv_Itoa_small (P:=Tryz.prog) (ρ:=Tryz.itoa_ren) { Tryz.itoa with } k hk W);have hk0:¬ (k:Int) < 0:=by omega
 have hdl:(Lib.decDigits k).length<=2:=by
  by_cases h:k < 10
  ·rw [Lib.decDigits_one h];simp
  ·rw [Lib.decDigits_two h hk];simp
 have HT:Hid ((⟨#[c,46]⟩:ByteArray)++⟨(Lib.decDigits k).toArray⟩=sName c k):=Lib.hid (by
  unfold sName;apply ByteArray.ext;simp)
 have hcv:Sem.run Tryz.prog (convert 39 9 (.slice (some ⟨w.heap.size,0,none⟩) 2 2)) (w.alloc (.cells #[.int .u8 (c.toNat:Int), .int .u8 46] 5)).drew=.ok (.string ⟨#[c,46]⟩) (w.alloc (.cells #[.int .u8 (c.toNat:Int), .int .u8 46] 5)).drew:=
  run_convert_bytes_back (P:=Tryz.prog) _ 39 9 5 ⟨w.heap.size,0,none⟩ 2 [c,46] Tryz.underlying39 Tryz.underlying5 Tryz.underlying9 (fun j hj=>by
   rw [Addr_add,Nat.zero_add];match j,hj with
   | 0,_=>simp
   | 1,_=>simp)
 generalize Lib.decDigits k=dg at *;go_enter Tryz.func18,Tryz.ntmps18
 go_wp2;go_region_with (go_at_call 51;refine (hit.out _).mono ?_;rintro e w' ⟨rfl,rfl⟩)
 all_goals
  go_wp2;go_ret;exact ⟨by rw [<- HT.out];rfl,((Below.refl _ _).alloc (Nat.le_refl _) _).drew⟩
def nameRel (c:UInt8) (k:Nat) (dg:List UInt8) (full:Name):Nat->Value->World->Prop
 | 0,v,_=>v=.int .u8 (c.toNat:Int)
 | 1,v,W=>∃ g,v=.slice (some ⟨g,0,none⟩) 2 2/\W.cell? ⟨g,0,none⟩=some (.int .u8 (c.toNat:Int))/\W.cell? ⟨g,1,none⟩=some (.int .u8 46)
 | 2,v,_=>v=.string ⟨#[c,46]⟩
 | 3,v,_=>v=.int .i64 (k:Int)
 | 4,v,_=>v=.string ⟨dg.toArray⟩
 | _,v,_=>v=.string full
theorem nameRel_on {c:UInt8} {k:Nat} {dg:List UInt8} {full:Name} (i:Nat) (v:Value) (w w':World) (hb:Below w.heap.size w w') (h:nameRel c k dg full i v w):nameRel c k dg full i v w':=by
 match i,h with
 | 0,h=>exact h
 | 1,⟨g,h1,h2,h3⟩=>exact ⟨g,h1,(hb.cell (World.block_lt_of_cell? w _ h2)).trans h2,(hb.cell (World.block_lt_of_cell? w _ h3)).trans h3⟩
 | 2,h=>exact h
 | 3,h=>exact h
 | 4,h=>exact h
 | _+5,h=>exact h
theorem below_grown (w:World) (k:Nat) (os:Array Obj):Below w.heap.size w (Go.Sort.grow (w.drewN k) os):=
 ⟨rfl,rfl,rfl,by show w.heap.size<=(w.heap++os).size;rw [Array.size_append];omega,fun j hj=>by show (w.heap++os)[j]? = w.heap[j]?;exact Array.getElem?_append_left hj⟩
set_option maxRecDepth 100000 in
set_option maxHeartbeats 4000000 in
theorem storeName_great (c:UInt8) (k:Nat) (hk:k<=1048576) (w:World) (hp:PowAt w) :
 Calls Tryz.prog 18 #[.int .u8 (c.toNat:Int), .int .i64 (k:Int)] w fun e w'=>e=.returned (.string (sName c k))/\Below w.heap.size w w':=by
 have hit:Hid (∀ W,Below w.heap.size w W->Calls Tryz.prog 51 #[.int .i64 (k:Int)] W fun e w'=>∃ v,e=.returned v/\Below W.heap.size W w'/\v=.string ⟨(Lib.decDigits k).toArray⟩):=Lib.hid (fun W hW=>by
  refine (Any.strconv_Itoa (P:=Tryz.prog) (ρ:=Tryz.itoa_ren) { Tryz.itoa with } (k:Int) (by omega) (by omega) W (hp.kept (hW.block _ hp.lt))).mono ?_;rintro e w' ⟨rfl,j,os,rfl⟩;rw [Lib.itoa_nonneg];exact ⟨_,rfl,below_grown _ _ _,rfl⟩)
 have hk0:¬ (k:Int) < 0:=by omega
 have HT:Hid ((⟨#[c,46]⟩:ByteArray)++⟨(Lib.decDigits k).toArray⟩=sName c k):=Lib.hid (by
  unfold sName;apply ByteArray.ext;simp)
 have hcv:Hid (∀ (W:World) (g:Nat),W.cell? ⟨g,0,none⟩=some (.int .u8 (c.toNat:Int))->W.cell? ⟨g,1,none⟩=some (.int .u8 46)->Sem.run Tryz.prog (convert 39 9 (.slice (some ⟨g,0,none⟩) 2 2)) W=.ok (.string ⟨#[c,46]⟩) W):=Lib.hid (fun W g h0 h1=>
  run_convert_bytes_back (P:=Tryz.prog) _ 39 9 5 ⟨g,0,none⟩ 2 [c,46] Tryz.underlying39 Tryz.underlying5 Tryz.underlying9 (fun j hj=>by
   rw [Addr_add,Nat.zero_add];match j,hj with
   | 0,_=>exact h0
   | 1,_=>exact h1))
 have hdl:(Lib.decDigits k).length<=7:=(digits_lt 6 k (by omega)).2;clear hp;generalize Lib.decDigits k=dg at *;generalize sName c k=full at *;go_enter Tryz.func18,Tryz.ntmps18
 go_wp2;refine wp_region_relB (Below w.heap.size w) (nameRel c k dg full) (by kernel_rfl) (by kernel_rfl) (Below.refl _ _).drew (fun w1 w2 h1 h2=>h1.trans (h2.mono h1.size)) nameRel_on ?_ ?_
 ·intro i o ho a W hC hdep;match i,ho with
  | 0,ho=>
    cases ho;have h0:=hdep.old 0 rfl rfl;refine step_val (v:=.int .u8 (c.toNat:Int)) (w':=W) ?_ (Below.refl _ _) rfl;go_simp
  | 1,ho=>
    cases ho;obtain ⟨v7,h7,rfl⟩:=hdep.get 0 rfl rfl rfl;refine step_val (v:=.slice (some ⟨W.heap.size,0,none⟩) 2 2) (w':=W.alloc (.cells #[.int .u8 (c.toNat:Int), .int .u8 46] 5)) ?_ ((Below.refl _ _).alloc (Nat.le_refl _) _) ⟨W.heap.size,rfl,by simp,by simp⟩;go_simp
  | 2,ho=>
    cases ho;obtain ⟨v8,h8,g,rfl,c0,c1⟩:=hdep.get 1 rfl rfl rfl;have hc:=hcv.out W g c0 c1;refine step_val (v:=.string ⟨#[c,46]⟩) (w':=W) ?_ (Below.refl _ _) rfl;go_simp
  | 3,ho=>
    cases ho;have h1:=hdep.old 1 rfl rfl;refine step_val (v:=.int .i64 (k:Int)) (w':=W) ?_ (Below.refl _ _) rfl;go_simp
  | 4,ho=>
    cases ho;obtain ⟨v10,h10,rfl⟩:=hdep.get 3 rfl rfl rfl;refine step_call (f:=51) (args:=#[.int .i64 (k:Int)]) ?_ (hit.out W hC);go_simp
  | 5,ho=>
    cases ho;obtain ⟨v9,h9,rfl⟩:=hdep.get 2 rfl rfl rfl;obtain ⟨v11,h11,rfl⟩:=hdep.get 4 rfl rfl rfl;refine step_val (v:=.string full) (w':=W) ?_ (Below.refl _ _) rfl;rw [<- HT.out];go_simp;omega
  | 6,ho=>
    cases ho;obtain ⟨v12,h12,rfl⟩:=hdep.get 5 rfl rfl rfl;refine step_val (v:=.string full) (w':=W) ?_ (Below.refl _ _) rfl;go_simp
  | _+7,ho=>cases ho
 ·intro listed a W inv hr;have HB:=Lib.hid inv.cls;obtain ⟨vs,hl,hp,rfl⟩:=rel_end inv hr (by kernel_rfl) (by kernel_rfl);match vs,hl with
  | [v0,v1,v2,v3,v4,v5,v6],_=>
    obtain rfl:=hp 6 v6 rfl;clear hp hl hr inv;simp only [relPut];go_simp;go_wp2;go_ret;exact ⟨rfl,HB.out⟩
theorem storeName_any (c:UInt8) (k:Nat) {w:World} {o:Owner} (h:GenAt w o k) :
 Calls Tryz.prog 18 #[.int .u8 (c.toNat:Int), .int .i64 (k:Int)] w fun e w'=>e=.returned (.string (sName c k))/\Below w.heap.size w w':=by
 rcases h with h | ⟨h1,h2,_⟩
 ·exact storeName_small c k h w
 ·exact storeName_great c k h1 w h2
set_option maxHeartbeats 1000000 in
theorem storeRight_yes (k:Nat) (hk:k<=1048576) (w:World):Calls Tryz.prog 66 #[.int .i64 (k:Int)] w fun e w'=>e=.returned (.bool true)/\w=w':=by
 have h1:(k:Int)<=1048576:=by omega
 have h2:(k:Int) >= 0:=by omega
 go_enter Tryz.func66,Tryz.ntmps66
 go_wp2;go_ret;exact ⟨rfl,rfl⟩
end
section
open Go.RowKit Go.Maps Go.MapKept
def vertFile (vs:List Vrt) (fl:Bool):LFile:=.inl (pagesOf (per 12) (vs.map Vrt.bytes),fl)
theorem sized_verts (vs:List Vrt):Sized 12 (vs.map Vrt.bytes):=fun r hr=>by
 obtain ⟨e,_,rfl⟩:=List.mem_map.1 hr;exact e.bytes_length
theorem vertFile_need (vs:List Vrt) (fl:Bool):(vertFile vs fl).need<=4*vs.length:=by
 unfold vertFile LFile.need;dsimp only;rw [pagesOf_length,List.length_map];have:pagesFor (per 12) vs.length<=vs.length:=by
  unfold pagesFor;have h12:per 12=20:=by decide
  rw [h12];omega
 omega
def VertsAt (w:World) (v:Value) (vs:List Vrt):Prop:=
 ∃ a cap,v=.slice a vs.length cap/\vs.length<=cap/\cap<=maxLen/\(vs.length=0\/∃ b off,a=some ⟨b,off,none⟩/\∀ i (h:i < vs.length),w.cell? ⟨b,off+i*3,none⟩=some (.int .u32 (vs[i].r.toNat:Int))/\w.cell? ⟨b,off+i*3+1,none⟩=some (.int .u32 (vs[i].l.toNat:Int))/\w.cell? ⟨b,off+i*3+2,none⟩=some (.int .u32 (vs[i].g.toNat:Int)))
theorem sName_ok (c:UInt8) (hc:okByte c=true) {k:Nat} (h:k<=1048576):okName (sName c k)=true:=by
 obtain ⟨h1,h2⟩:=digits_lt 6 k (by omega);unfold okName sName;have hs:(ByteArray.mk ([c,46]++Lib.decDigits k).toArray).size=2+(Lib.decDigits k).length:=by
  show Array.size _=_;simp;omega
 rw [hs];simp only [List.cons_append,List.nil_append,List.all_cons,h1,hc,Bool.and_eq_true,decide_eq_true_eq];refine ⟨⟨⟨trivial,by decide,trivial⟩,by omega⟩,by omega⟩
theorem sName_own (c:UInt8) (hc:c≠116) (k:Nat):ownName (sName c k)=false:=by
 unfold ownName sName dotT Lib.hasPrefix;simp [List.isPrefixOf];intro h;exact absurd h.symm hc
theorem sName_ne {c c':UInt8} (hc:c≠c') (k k':Nat):sName c k≠sName c' k':=by
 unfold sName;intro h;have h1:=congrArg (fun x:ByteArray=>x.data.toList) h;simp only [List.cons_append,List.cons.injEq] at h1;exact hc h1.1
theorem tName_sName (c:UInt8) (hc:c≠116) (k j:Nat):sName c k≠tName j:=fun e=>by
 have h1:=sName_own c hc k;rw [e,ownName_t] at h1;cases h1
noncomputable def makeL (L:Logic) (gen:Nat) (es:List Edg) (vs:List Vrt):Logic:=
 mput (mput (mput L (sName 101 gen) (edgeFile (bestOf false es) true)) (sName 114 gen) (edgeFile (bestOf true es) true)) (sName 118 gen) (vertFile vs true)
def ofMake (gen:Nat) (x:Name):Prop:=x=sName 101 gen\/x=sName 114 gen\/x=sName 118 gen\/∃ k,k < 128/\x=tName k
def MakePost (n pb db:Nat) (w:World) (o:Owner) (d:Dsk) (L:Logic) (gen:Nat) (es:List Edg) (vs:List Vrt) (e:Ending) (w':World):Prop:=
 ∃ c d' o' L',e=.returned (.int .i64 ((c:Nat):Int))/\Moved (fun _=>False) n pb db w o d w' o' d' L'/\(∀ x,¬ ofMake gen x->mget L' x=mget L x)/\((c=0/\L'=makeL L gen es vs)\/ErrN d d' (need L+20*es.length+4*vs.length) c)
section
variable {w w':World} {pb db n:Nat} {name:Name} {o o':Owner} {d d':Dsk} {L L':Logic}
set_option maxRecDepth 100000 in
set_option maxHeartbeats 8000000 in
theorem storeMake_any (HW:WriteSaid) {m:Nat} (HJS:JobSortSaid m) (h:PoolAt w pb db n o d L) (hn:8<=n) {es:List Edg} {fl:Bool} {raw:Name} {gen:Nat} (hg:GenAt w o gen) (hL:mget L raw=some (edgeFile es fl)) (hraw:ownName raw=false) (hm:es.length<=m)
 (he:mget L (sName 101 gen)=none) (hr:mget L (sName 114 gen)=none) (hv:mget L (sName 118 gen)=none) (hnt:∀ k,mget L (tName k)=none) {v:Value} {vs:List Vrt} (hvs:VertsAt w v vs) (hvo:∀ x,v.ownBlock=some x->o x=none) (hvl:vs.length < 65535) :
 Calls Tryz.prog 45 #[ptrTo pb, .string raw, .int .i64 (gen:Int),v] w (MakePost n pb db w o d L gen es vs):=by
 have hne1:raw≠sName 101 gen:=fun e=>by rw [e,he] at hL;cases hL
 have hne2:raw≠sName 114 gen:=fun e=>by rw [e,hr] at hL;cases hL
 have hright:=Lib.hid (storeRight_yes gen hg.le);have hnmE:=Lib.hid (fun W o' (hW:GenAt W o' gen)=>storeName_any 101 gen hW);have hnmR:=Lib.hid (fun W o' (hW:GenAt W o' gen)=>storeName_any 114 gen hW);have hnmV:=Lib.hid (fun W o' (hW:GenAt W o' gen)=>storeName_any 118 gen hW);have hs1:Hid (∀ W o' d',PoolAt W pb db n o' d' L->Calls Tryz.prog 77 #[ptrTo pb, .string raw, .string (sName 101 gen), .int .i64 0] W (SortsPost (fun _=>False) n pb db W o' d' L (sName 101 gen) (bestOf false es) es.length)):=Lib.hid (fun W o' d' hW=>
  sort_done (by':=false) HW HJS hW hn hL hne1 hraw (sName_own 101 (by decide) gen) (sName_ok 101 (by decide) hg.le) he hnt hm)
 obtain ⟨L1,hL1⟩:∃ L1,L1=mput L (sName 101 gen) (edgeFile (bestOf false es) true):=⟨_,rfl⟩;have hraw1:mget L1 raw=some (edgeFile es fl):=by rw [hL1,mget_mput,if_neg hne1,hL]
 have hr1:mget L1 (sName 114 gen)=none:=by rw [hL1,mget_mput,if_neg (sName_ne (by decide) _ _),hr]
 have hnt1:∀ k,mget L1 (tName k)=none:=fun k=>by rw [hL1,mget_mput,if_neg (fun e=>tName_sName 101 (by decide) gen k e.symm),hnt]
 have hs2:Hid (∀ W o' d',PoolAt W pb db n o' d' L1->Calls Tryz.prog 77 #[ptrTo pb, .string raw, .string (sName 114 gen), .int .i64 1] W (SortsPost (fun _=>False) n pb db W o' d' L1 (sName 114 gen) (bestOf true es) es.length)):=Lib.hid (fun W o' d' hW=>
  sort_done (by':=true) HW HJS hW hn hraw1 hne2 hraw (sName_own 114 (by decide) gen) (sName_ok 114 (by decide) hg.le) hr1 hnt1 hm)
 obtain ⟨L2,hL2⟩:∃ L2,L2=mput L1 (sName 114 gen) (edgeFile (bestOf true es) true):=⟨_,rfl⟩;have hv2:mget L2 (sName 118 gen)=none:=by rw [hL2,mget_mput,if_neg (sName_ne (by decide) _ _),hL1,mget_mput,if_neg (sName_ne (by decide) _ _),hv]
 have hokV:=sName_ok 118 (by decide) hg.le;have HGEN:=Lib.hid hg;have hcr:Hid (∀ W o' d',PoolAt W pb db n o' d' L2->Calls Tryz.prog 71 #[ptrTo pb, .string (sName 118 gen)] W (CreatePost n pb db W o' d' L2 (sName 118 gen))):=Lib.hid (fun W o' d' hW=>create_pool hW _ (okName_1000 hokV));have hcode:Hid (∀ d':Dsk,createCode d' L2 (sName 118 gen)=if d'.tick.dead=true then 6 else 0):=Lib.hid (fun d'=>by
  unfold createCode;rw [hokV,hv2];rfl)
 have hopen:Hid (∀ W o' d' L',PoolAt W pb db n o' d' L'->Calls Tryz.prog 67 #[ptrTo pb, .string (sName 118 gen), .int .i64 12] W (StreamOpenPost W pb (sName 118 gen) 12 (pfOpen d' (sName 118 gen)))):=Lib.hid (fun W o' d' L' hW=>streamOpen_any (sz:=12) hW _ (okName_1000 hokV) (by decide) (by decide));have hadd:Hid (∀ W o' d' sb rs,PoolAt W pb db n o' d' (mput L2 (sName 118 gen) (vertFile rs false))->StreamAt W sb pb (sName 118 gen) 12->o' sb=none->rs.length < 65535->∀ rv (x:Vrt),Rd W rv x.bytes->(∀ b,rv.ownBlock=some b->o' b=none) ->
  Calls Tryz.prog 72 #[ptrTo sb,rv] W (LaidPost (fun _=>False) n pb db W o' d' (mput L2 (sName 118 gen) (vertFile rs false)) (mput L2 (sName 118 gen) (vertFile (rs++[x]) false)))):=Lib.hid (fun W o' d' sb rs hW hst ho' hl rv x hr hro=>by
  have:=streamAdd_any HW hW hst ho' (by decide) (by decide) (by rw [mget_mput,if_pos rfl];rfl) (sized_verts rs) (by rw [List.length_map];exact hl) hr x.bytes_length hro;rw [mput_mput] at this;unfold vertFile at this ⊢;rw [List.map_append];exact this)
 have hfl:Hid (∀ W o' d',PoolAt W pb db n o' d' (mput L2 (sName 118 gen) (vertFile vs false))->Calls Tryz.prog 79 #[ptrTo pb, .string (sName 118 gen)] W (LaidPost (fun _=>False) n pb db W o' d' (mput L2 (sName 118 gen) (vertFile vs false)) (mput L2 (sName 118 gen) (vertFile vs true)))):=Lib.hid (fun W o' d' hW=>by
  have:=flush_pool HW hW (name:=sName 118 gen) (ps:=pagesOf (per 12) (vs.map Vrt.bytes)) (fl:=false) (by rw [mget_mput,if_pos rfl];rfl);rw [mput_mput] at this;exact this)
 have HK1:Hid ((L1.map (·.1)).Nodup):=Lib.hid (by rw [hL1];exact mput_keys h.keys);have HK2:Hid ((L2.map (·.1)).Nodup):=Lib.hid (by rw [hL2,hL1];exact mput_keys (mput_keys h.keys));have HN1:Hid (need L1<=need L+4*es.length):=Lib.hid (by
  have h1:=need_mput_le L (sName 101 gen) (edgeFile (bestOf false es) true);have h2:=edgeFile_need (bestOf false es) true;have h3:=bestOf_length false es;rw [hL1];omega)
 have HN2:Hid (∀ rs:List Vrt,rs.length<=vs.length->need (mput L2 (sName 118 gen) (vertFile rs false))<=need L+20*es.length+4*vs.length):=Lib.hid (fun rs hrs=>by
  have h1:=need_mput_le L1 (sName 114 gen) (edgeFile (bestOf true es) true);have h2:=edgeFile_need (bestOf true es) true;have h3:=bestOf_length true es;have h4:=need_mput_le L2 (sName 118 gen) (vertFile rs false);have h5:=vertFile_need rs false;have h6:=HN1.out;rw [<- hL2] at h1;omega)
 have HO1:Hid (∀ x,¬ ofMake gen x->mget L1 x=mget L x):=Lib.hid (fun x hx=>by rw [hL1,mget_mput,if_neg (fun e=>hx (.inl e))]);have HO2:Hid (∀ x,¬ ofMake gen x->mget L2 x=mget L x):=Lib.hid (fun x hx=>by rw [hL2,mget_mput,if_neg (fun e=>hx (.inr (.inl e))),HO1.out x hx]);have HEND:Hid (makeL L gen es vs=mput L2 (sName 118 gen) (vertFile vs true)):=Lib.hid (by unfold makeL;rw [hL2,hL1]);have HNE:Hid (∀ x,¬ ofMake gen x->¬ ofSort (sName 101 gen) x/\¬ ofSort (sName 114 gen) x/\x≠sName 118 gen):=Lib.hid (fun x hx=>⟨fun e=>hx (e.imp id (fun h=>.inr (.inr h))),fun e=>hx (.inr (e.imp id .inr)),fun e=>hx (.inr (.inr (.inl e)))⟩);have HL1e:Hid (∀ x,mget L1 x=mget (mput L (sName 101 gen) (edgeFile (bestOf false es) true)) x):=Lib.hid (fun x=>by rw [hL1]);have HL2e:Hid (∀ x,mget L2 x=mget (mput L1 (sName 114 gen) (edgeFile (bestOf true es) true)) x):=Lib.hid (fun x=>by rw [hL2]);have H:=Lib.hid h;have HVS:=Lib.hid hvs;have HVO:=Lib.hid hvo;obtain ⟨va,vc,rfl,hvc1,hvc2,-⟩:=hvs;unfold maxLen at hvc2;have hvw:Hid (∀ (x:Vrt) W,Calls Tryz.prog 78 #[.agg #[.int .u32 (x.r.toNat:Int), .int .u32 (x.l.toNat:Int), .int .u32 (x.g.toNat:Int)]] W (NewBytes W x.bytes)):=Lib.hid (fun x W=>vrtBytes_any x W);clear h hg hL hraw hm he hr hv hnt hvo hne1 hne2 hraw1 hr1 hnt1 hv2 hokV hL1 hL2;unfold ptrTo at *;generalize sName 101 gen=nE at *;generalize sName 114 gen=nR at *;generalize sName 118 gen=nV at *;go_enter Tryz.func45,Tryz.ntmps45
 go_wp2_with fail
 refine (hright.out _).mono ?_;rintro e w' ⟨rfl,rfl⟩;go_wp2_with fail
 refine (hnmE.out _ o HGEN.out).mono ?_;rintro e w1 ⟨rfl,hb1⟩;have HB1:=Lib.hid hb1;clear hb1;go_wp2_with fail
 refine (hs1.out w1 o d (H.out.below HB1.out)).mono ?_;rintro e w2 ⟨c2,d2,o2,L2',rfl,hm2,hot2,hc2⟩;have HM2:=Lib.hid ((Moved.ofBelow H.out HB1.out).trans hm2 (fun _ _ h=>h));have HOT2:=Lib.hid hot2;clear hm2 hot2;rcases hc2 with ⟨rfl,hl2⟩ | he2
 ·have HM2':Hid (Moved (fun _=>False) n pb db w o d w2 o2 d2 L1):=Lib.hid (HM2.out.congr HK1.out (fun x=>(HL1e.out x).trans (hl2 x).symm));clear hl2 HM2 HOT2;go_wp2_with fail
  refine (hnmR.out _ o2 (HGEN.out.moved HM2'.out (fun _ h=>h))).mono ?_;rintro e w3 ⟨rfl,hb3⟩;have HM3:=Lib.hid (HM2'.out.below hb3);clear hb3;go_wp2_with fail
  refine (hs2.out w3 o2 d2 HM3.out.pool).mono ?_;rintro e w4 ⟨c4,d4,o4,L4',rfl,hm4,hot4,hc4⟩;have HM4:=Lib.hid (HM3.out.trans hm4 (fun _ _ h=>h));have HOT4:=Lib.hid hot4;clear hm4 hot4;rcases hc4 with ⟨rfl,hl4⟩ | he4
  ·have HM4':Hid (Moved (fun _=>False) n pb db w o d w4 o4 d4 L2):=Lib.hid (HM4.out.congr HK2.out (fun x=>(HL2e.out x).trans (hl4 x).symm));clear hl4 HM4 HOT4;go_wp2_with fail
   refine (hnmV.out _ o4 (HGEN.out.moved HM4'.out (fun _ h=>h))).mono ?_;rintro e w5 ⟨rfl,hb5⟩;have HM5:=Lib.hid (HM4'.out.below hb5);clear hb5;have hcc:=Lib.hid (hcr.out w5 o4 d4 HM5.out.pool);unfold CreatePost at hcc;rw [hcode.out d4] at hcc;cases hd4:d4.tick.dead with
   | true=>
     rw [hd4,if_pos rfl] at hcc;have HD4:=Lib.hid hd4;clear hd4;go_wp2_with fail
     refine hcc.out.mono ?_;rintro e w6 ⟨d6,o6,rfl,hm6,-,hdd⟩;rw [if_neg (by decide)] at hm6;have HM6:=Lib.hid (HM5.out.trans hm6 (fun _ _ h=>h));have HDD:=Lib.hid (hdd (by first | exact HD4.out | trivial));clear hm6 hdd hcc;go_wp2;go_ret;exact ⟨6,d6,o6,L2,rfl,HM6.out,HO2.out, .inr (.inr ⟨rfl,HDD.out⟩)⟩
   | false=>
     rw [hd4,if_neg (by simp)] at hcc;clear hd4;go_wp2_with fail
     refine hcc.out.mono ?_;rintro e w6 ⟨d6,o6,rfl,hm6,hdd6,-⟩;simp only [if_true] at hm6;have hget:mget (mput L2 nV (.inl (([]:List Pg),true))) nV=some (.inl (([]:List Pg),true)):=by rw [mget_mput,if_pos rfl]
     have hpf:pfOpen d6 nV=0:=by
      rw [pfOpen_paged hm6.pool hget,hdd6 (by trivial)];rfl
     have hm6':Moved (fun _=>False) n pb db w5 o4 d4 w6 o6 d6 (mput L2 nV (vertFile [] false)):=
      ⟨(hm6.pool.weaken hget).congr (mput_keys HK2.out) (fun x=>by
        show mget (mput L2 nV (.inl (([]:List Pg),false))) x=_;rw [mget_mput,mget_mput,mget_mput];by_cases e:x=nV
        ·rw [if_pos e,if_pos e]
        ·rw [if_neg e,if_neg e,if_neg e]),hm6.turn,hm6.grow,hm6.on⟩
     have HM6:=Lib.hid (HM5.out.trans hm6' (fun _ _ h=>h));have hco:=Lib.hid (hopen.out w6 o6 d6 _ hm6.pool);rw [hpf] at hco;have HF6:=Lib.hid (fun x (hx:w6.heap.size<=x)=>hm6.pool.fresh hx);clear hm6 hm6' hdd6 hpf hget hcc;go_wp2_with fail
     refine hco.out.mono ?_;rintro e w7 ⟨v7,rfl,hb7,hok7,-⟩;obtain ⟨sb,rfl,hst7,hsb⟩:=hok7 rfl;have HM7:=Lib.hid (HM6.out.below hb7);have HST7:=Lib.hid hst7;have HOS7:Hid (o6 sb=none):=Lib.hid (HF6.out _ hsb);clear hb7 hst7 hok7 hco;unfold ptrTo;generalize hV:vs.length=V at *;have HV:=Lib.hid hV;clear hV;go_wp2;go_loopw [60] (fun i wr=>∃ (k:Nat) (d':Dsk) (o':Owner),k<=V/\i=.int .i64 (k:Int)/\Moved (fun _=>False) n pb db w o d wr o' d' (mput L2 nV (vertFile (vs.take k) false))/\StreamAt wr sb pb nV 12/\o' sb=none) (fun i _=>V - (intOf i).toNat)
     case atStart=>exact ⟨0,d6,o6,Nat.zero_le _,rfl,by simpa using HM7.out,HST7.out,HOS7.out⟩
     case round=>
      obtain ⟨k,d8,o8,hk,rfl,hm8,hst8,hos8⟩:=hrel;have HM8:=Lib.hid hm8;have HST8:=Lib.hid hst8;have HOS8:=Lib.hid hos8;have hsl8:=hst8.lt;by_cases hlt:k < V
      ·have hkv:k < vs.length:=by rw [HV.out];exact hlt
       obtain ⟨a',c',hve,-,-,hcs⟩:=HVS.out;cases hve;obtain hcs | ⟨b,off,rfl,hcs⟩:=hcs
       ·omega
       obtain ⟨g0,g1,g2⟩:=hcs k hkv;have e0:=hm8.cell g0 (HVO.out b rfl) (fun h=>h);have e1:=hm8.cell g1 (HVO.out b rfl) (fun h=>h);have e2:=hm8.cell g2 (HVO.out b rfl) (fun h=>h);have hbl:b < wr.heap.size:=World.block_lt_of_cell? _ _ e0;have HTK:Hid (vs.take k++[vs[k]]=vs.take (k+1)):=Lib.hid (by rw [List.take_succ_eq_append_getElem hkv]);have htl:(vs.take k).length < 65535:=by rw [List.length_take,HV.out];omega
       have hcallv:=Lib.hid (fun W=>hvw.out vs[k] W);have hcalla:=Lib.hid (fun W rv (hW:PoolAt W pb db n o8 d8 (mput L2 nV (vertFile (vs.take k) false))) (hst:StreamAt W sb pb nV 12) (hr:Rd W rv vs[k].bytes) (hro:∀ b,rv.ownBlock=some b->o8 b=none)=>hadd.out W o8 d8 sb (vs.take k) hW hst HOS8.out htl rv vs[k] hr hro);have hal:Hid (∀ ob:Obj,Moved (fun _=>False) n pb db w o d (wr.alloc ob) o8 d8 (mput L2 nV (vertFile (vs.take k) false))):=Lib.hid (fun ob=>HM8.out.alloc ob);have htl2:Hid ((vs.take k).length<=vs.length):=Lib.hid (by rw [List.length_take];omega);clear g0 g1 g2 hcs hm8 hst8 hos8;generalize vs[k]=y at *;go_wp2_with fail
       refine (hcallv.out _).mono ?_;rintro e w9 ⟨v9,rfl,ho9,hb9⟩;have HM9:=Lib.hid ((hal.out _).below hb9);have hst9:StreamAt w9 sb pb nV 12:=(HST8.out.below ((Below.refl _ _).alloc (Nat.le_refl _) _)).below hb9;have hfr9:∀ b,v9.ownBlock=some b->o8 b=none:=fun b hb=>HM8.out.pool.fresh (Nat.le_trans (by simp) (ownsRow_block ho9 b hb));have hca:=Lib.hid (hcalla.out w9 v9 HM9.out.pool hst9 (Rd_own ho9) hfr9);have HST9:=Lib.hid hst9;clear ho9 hb9 hst9 hfr9 e0 e1 e2 hcalla hcallv;go_wp2_with fail
       refine hca.out.mono ?_;rintro e w10 ⟨c10,d10,o10,rfl,hm10,he10⟩;have HST10:Hid (StreamAt w10 sb pb nV 12):=Lib.hid (HST9.out.moved hm10 HOS8.out (fun h=>h));have HOS10:Hid (o10 sb=none):=Lib.hid (hm10.free HST9.out.lt HOS8.out);by_cases hc:c10=0
       ·subst hc;rw [if_pos rfl,HTK.out] at hm10;have HM10:=Lib.hid (HM9.out.trans hm10 (fun _ _ h=>h));clear hm10 he10 hca;go_wp2;go_roundw
        case rel=>exact ⟨k+1,d10,o10,by omega,by go_num,HM10.out,HST10.out,HOS10.out⟩
        case measure=>simp [intOf];omega
       ·have hc':¬ (c10:Int)=0:=by omega
        rw [if_neg hc] at hm10;have HM10:=Lib.hid (HM9.out.trans hm10 (fun _ _ h=>h));have HE10:Hid (ErrN d d10 (need L+20*es.length+4*vs.length) c10):=Lib.hid (((he10.resolve_left hc).num (HN2.out (vs.take k) htl2.out)).later HM9.out.on.quota);clear hm10 he10 hca hc;go_wp2;go_ret;exact ⟨c10,d10,o10,_,rfl,HM10.out,fun x hx=>by rw [mget_mput,if_neg (HNE.out x hx).2.2,HO2.out x hx], .inr HE10.out⟩
      ·have htk:vs.take k=vs:=List.take_of_length_le (by rw [HV.out];omega);rw [htk] at HM8;have hff:=Lib.hid (hfl.out wr o8 d8 HM8.out.pool);clear htk hm8 hst8 hos8;go_wp2_with fail
       refine hff.out.mono ?_;rintro e w9 ⟨c9,d9,o9,rfl,hm9,he9⟩;have HM9:=Lib.hid (HM8.out.trans hm9 (fun _ _ h=>h));have HE9:=Lib.hid he9;clear hm9 he9 hff;go_wp2;go_ret;refine ⟨c9,d9,o9,_,rfl,HM9.out,fun x hx=>?_,?_⟩
       ·split
        ·rw [mget_mput,if_neg (HNE.out x hx).2.2,HO2.out x hx]
        ·rw [mget_mput,if_neg (HNE.out x hx).2.2,HO2.out x hx]
       ·rcases HE9.out with h | h
        ·subst h;exact .inl ⟨rfl,by rw [if_pos rfl];exact HEND.out.symm⟩
        ·exact .inr (by rw [HV.out];exact (h.num (HN2.out vs (by rw [HV.out];exact Nat.le_refl _))).later HM8.out.on.quota)
  ·have hc4':¬ (c4:Int)=0:=by have:=he4.ne;omega
   have HE4:Hid (ErrN d d4 (need L+20*es.length+4*vs.length) c4):=Lib.hid ((he4.mono (by have:=HN1.out;omega)).later HM3.out.on.quota);clear he4;go_wp2;go_ret;exact ⟨c4,d4,o4,L4',rfl,HM4.out,fun x hx=>(HOT4.out x (HNE.out x hx).2.1).trans (HO1.out x hx), .inr HE4.out⟩
 ·have hc2':¬ (c2:Int)=0:=by have:=he2.ne;omega
  have HE2:Hid (ErrN d d2 (need L+20*es.length+4*vs.length) c2):=Lib.hid (he2.mono (by omega));clear he2;go_wp2;go_ret;exact ⟨c2,d2,o2,L2',rfl,HM2.out,fun x hx=>HOT2.out x (HNE.out x hx).1, .inr HE2.out⟩
end
end
section
open Go.RowKit Go.Maps Go.MapKept
def GraphRaw (w:World) (gb:Nat) (x0 x1 x2 x3:Value):Prop:=∃ t,w.heap[gb]? = some (.cells #[x0,x1,x2,x3] t)
section
variable {S:Nat->Prop} {w w':World} {pb db n gb:Nat} {name:Name} {o o':Owner} {d d':Dsk} {L L':Logic} {x0 x1 x2 x3:Value}
theorem GraphRaw.kept (h:GraphRaw w gb x0 x1 x2 x3) (hb:w'.heap[gb]? = w.heap[gb]?):GraphRaw w' gb x0 x1 x2 x3:=by
 obtain ⟨t,h⟩:=h;exact ⟨t,hb.trans h⟩
theorem GraphRaw.lt (h:GraphRaw w gb x0 x1 x2 x3):gb < w.heap.size:=by
 obtain ⟨t,h⟩:=h;exact (Array.getElem?_eq_some_iff.1 h).1
theorem GraphRaw.below (h:GraphRaw w gb x0 x1 x2 x3) (hb:Below w.heap.size w w'):GraphRaw w' gb x0 x1 x2 x3:=h.kept (hb.block _ h.lt)
theorem GraphRaw.moved (h:GraphRaw w gb x0 x1 x2 x3) (hm:Moved S n pb db w o d w' o' d' L') (ho:o gb=none) (hs:¬ S gb):GraphRaw w' gb x0 x1 x2 x3:=h.kept (hm.block h.lt ho hs)
theorem GraphRaw.cells (h:GraphRaw w gb x0 x1 x2 x3):w.cell? ⟨gb,0,none⟩=some x0/\w.cell? ⟨gb,1,none⟩=some x1/\w.cell? ⟨gb,2,none⟩=some x2/\w.cell? ⟨gb,3,none⟩=some x3/\∀ j,w.frozen? ⟨gb,j,none⟩=false:=by
 obtain ⟨t,h⟩:=h;refine ⟨?_,?_,?_,?_,fun j=>cells_frozen h j⟩<;>rw [cells_cell h]<;>rfl
theorem GraphRaw.set0 (h:GraphRaw w gb x0 x1 x2 x3) (v:Value):GraphRaw (w.setCell ⟨gb,0,none⟩ v) gb v x1 x2 x3:=by
 obtain ⟨t,h⟩:=h;exact ⟨t,cells_set h 0 v⟩
theorem GraphRaw.set1 (h:GraphRaw w gb x0 x1 x2 x3) (v:Value):GraphRaw (w.setCell ⟨gb,1,none⟩ v) gb x0 v x2 x3:=by
 obtain ⟨t,h⟩:=h;exact ⟨t,cells_set h 1 v⟩
theorem GraphRaw.set2 (h:GraphRaw w gb x0 x1 x2 x3) (v:Value):GraphRaw (w.setCell ⟨gb,2,none⟩ v) gb x0 x1 v x3:=by
 obtain ⟨t,h⟩:=h;exact ⟨t,cells_set h 2 v⟩
theorem GraphRaw.set3 (h:GraphRaw w gb x0 x1 x2 x3) (v:Value):GraphRaw (w.setCell ⟨gb,3,none⟩ v) gb x0 x1 x2 v:=by
 obtain ⟨t,h⟩:=h;exact ⟨t,cells_set h 3 v⟩
structure GraphAt (w:World) (o:Owner) (gb pb gen N:Nat) (ob ib vb:Nat):Prop where
 raw:GraphRaw w gb (ptrTo ob) (ptrTo ib) (ptrTo vb) (.int .i64 (N:Int))
 out:StreamAt w ob pb (sName 101 gen) 20
 inn:StreamAt w ib pb (sName 114 gen) 20
 verts:StreamAt w vb pb (sName 118 gen) 12
 ogb:o gb=none
 oob:o ob=none
 oib:o ib=none
 ovb:o vb=none
theorem GraphAt.moved {gen N ob ib vb:Nat} (h:GraphAt w o gb pb gen N ob ib vb) (hm:Moved (fun _=>False) n pb db w o d w' o' d' L'):GraphAt w' o' gb pb gen N ob ib vb:=
 ⟨h.raw.moved hm h.ogb (fun h=>h),h.out.moved hm h.oob (fun h=>h),h.inn.moved hm h.oib (fun h=>h),h.verts.moved hm h.ovb (fun h=>h),hm.free h.raw.lt h.ogb,hm.free h.out.lt h.oob,hm.free h.inn.lt h.oib,hm.free h.verts.lt h.ovb⟩
theorem StreamAt.setOther {sb sz b j:Nat} {v:Value} (h:StreamAt w sb pb name sz) (hne:sb≠b):StreamAt (w.setCell ⟨b,j,none⟩ v) sb pb name sz:=h.kept (Below.heap_setCell _ _ _ _ hne)
def OpenGraphPost (n pb db:Nat) (w:World) (o:Owner) (d:Dsk) (L:Logic) (gen N:Nat) (e:Ending) (w':World):Prop:=
 ∃ v c d' o',e=.returned (.tuple #[v, .int .i64 ((c:Nat):Int)])/\Moved (fun _=>False) n pb db w o d w' o' d' L/\(c=0\/Err d d' L c)/\(c=0->∃ gb ob ib vb,v=ptrTo gb/\GraphAt w' o' gb pb gen N ob ib vb)/\(c≠0->v=.pointer none)
theorem pfOpen_err (h:PoolAt w pb db n o d L) {ps:List Pg} {fl:Bool} (hL:mget L name=some (.inl (ps,fl))) {c:Nat} (hc:pfOpen d name=c) (h0:c≠0):c=6/\d.dead=true:=by
 rw [pfOpen_paged h hL] at hc;split at hc
 ·exact ⟨hc.symm,by assumption⟩
 ·exact absurd hc.symm h0
set_option maxRecDepth 100000 in
set_option maxHeartbeats 8000000 in
theorem storeOpen_any (HW:WriteSaid) (h:PoolAt w pb db n o d L) {gen:Nat} (hg:GenAt w o gen) {vs:List Vrt} {es1 es2:List Edg} {fl0 fl1 fl2:Bool} (hv:mget L (sName 118 gen)=some (vertFile vs fl0)) (he:mget L (sName 101 gen)=some (edgeFile es1 fl1)) (hr:mget L (sName 114 gen)=some (edgeFile es2 fl2)) :
 Calls Tryz.prog 34 #[ptrTo pb, .int .i64 (gen:Int)] w (OpenGraphPost n pb db w o d L gen vs.length):=by
 have hright:=Lib.hid (storeRight_yes gen hg.le);have hnmE:=Lib.hid (fun W o' (hW:GenAt W o' gen)=>storeName_any 101 gen hW);have hnmR:=Lib.hid (fun W o' (hW:GenAt W o' gen)=>storeName_any 114 gen hW);have hnmV:=Lib.hid (fun W o' (hW:GenAt W o' gen)=>storeName_any 118 gen hW);have hoV:Hid (∀ W o' d',PoolAt W pb db n o' d' L->Calls Tryz.prog 67 #[ptrTo pb, .string (sName 118 gen), .int .i64 12] W (StreamOpenPost W pb (sName 118 gen) 12 (pfOpen d' (sName 118 gen)))/\∀ c,pfOpen d' (sName 118 gen)=c->c≠0->c=6/\d'.dead=true):=Lib.hid (fun W o' d' hW=>⟨streamOpen_any (sz:=12) hW _ (okName_1000 (h.ok hv)) (by decide) (by decide),fun c h1 h2=>pfOpen_err hW hv h1 h2⟩);have hoE:Hid (∀ W o' d',PoolAt W pb db n o' d' L->Calls Tryz.prog 67 #[ptrTo pb, .string (sName 101 gen), .int .i64 20] W (StreamOpenPost W pb (sName 101 gen) 20 (pfOpen d' (sName 101 gen)))/\∀ c,pfOpen d' (sName 101 gen)=c->c≠0->c=6/\d'.dead=true):=Lib.hid (fun W o' d' hW=>⟨streamOpen_any (sz:=20) hW _ (okName_1000 (h.ok he)) (by decide) (by decide),fun c h1 h2=>pfOpen_err hW he h1 h2⟩);have hoR:Hid (∀ W o' d',PoolAt W pb db n o' d' L->Calls Tryz.prog 67 #[ptrTo pb, .string (sName 114 gen), .int .i64 20] W (StreamOpenPost W pb (sName 114 gen) 20 (pfOpen d' (sName 114 gen)))/\∀ c,pfOpen d' (sName 114 gen)=c->c≠0->c=6/\d'.dead=true):=Lib.hid (fun W o' d' hW=>⟨streamOpen_any (sz:=20) hW _ (okName_1000 (h.ok hr)) (by decide) (by decide),fun c h1 h2=>pfOpen_err hW hr h1 h2⟩);have hlen:Hid (∀ W o' d' sb,PoolAt W pb db n o' d' L->StreamAt W sb pb (sName 118 gen) 12->o' sb=none->Calls Tryz.prog 59 #[ptrTo sb] W (Stays n pb db W o' d' L (numIs vs.length))):=Lib.hid (fun W o' d' sb hW hst ho'=>by
  have:=streamLen_any HW hW hst ho' (by decide) (by decide) hv (sized_verts vs);rw [List.length_map] at this;exact this)
 have H:=Lib.hid h;have HGEN:=Lib.hid hg;clear h hg hv he hr;unfold ptrTo at *;generalize vs.length=N at *;go_enter Tryz.func34,Tryz.ntmps34
 go_wp2_with fail
 refine (hright.out _).mono ?_;rintro e w' ⟨rfl,rfl⟩;have HG0:Hid (GraphRaw (w.alloc (.cells #[.pointer none, .pointer none, .pointer none, .int .i64 0] 121)) w.heap.size (.pointer none) (.pointer none) (.pointer none) (.int .i64 0)):=Lib.hid ⟨_,heap_alloc_new w _⟩;have HB0:Hid (Below w.heap.size w (w.alloc (.cells #[.pointer none, .pointer none, .pointer none, .int .i64 0] 121))):=Lib.hid ((Below.refl _ _).alloc (Nat.le_refl _) _);have HOG:Hid (o w.heap.size=none):=Lib.hid (H.out.fresh (Nat.le_refl _));go_wp2_with fail
 generalize w.alloc (.cells #[.pointer none, .pointer none, .pointer none, .int .i64 0] 121)=W0 at *;refine (hnmV.out _ o (HGEN.out.below HB0.out)).mono ?_;rintro e w1 ⟨rfl,hb1⟩;have HG1:=Lib.hid (HG0.out.below hb1);have HB1:Hid (Below w.heap.size w w1):=Lib.hid (HB0.out.trans (hb1.mono HB0.out.size));clear hb1;go_wp2_with fail
 obtain ⟨hcV,hbV⟩:=hoV.out w1 o d (H.out.below HB1.out);have HCV:=Lib.hid hcV;have HBV:=Lib.hid hbV;clear hcV hbV;generalize hp2:pfOpen d (sName 118 gen)=c2 at *;have HP2:=Lib.hid hp2;clear hp2;refine HCV.out.mono ?_;rintro e w2 ⟨v2,rfl,hb2,hok2,hbad2⟩;have HG2:=Lib.hid (HG1.out.below hb2);have HB2:Hid (Below w.heap.size w w2):=Lib.hid (HB1.out.trans (hb2.mono HB1.out.size));have hsz1:w.heap.size < w1.heap.size:=HG1.out.lt;have HM2':Hid (∀ v,Moved (fun _=>False) n pb db w o d (w2.setCell ⟨w.heap.size,2,none⟩ v) o d L):=Lib.hid (fun v=>(Moved.ofBelow H.out HB2.out).setCell _ _ HOG.out (.inr (Nat.le_refl _)));clear hb2;obtain ⟨g0,g1,g2,g3,gz⟩:=HG2.out.cells;have gz2:=gz 2;clear gz;by_cases hc2:c2=0
 ·subst hc2;obtain ⟨vb,rfl,hst2,hvb⟩:=hok2 rfl;have hne2:vb≠w.heap.size:=by omega
  have HV3:Hid (StreamAt (w2.setCell ⟨w.heap.size,2,none⟩ (.pointer (some ⟨vb,0,none⟩))) vb pb (sName 118 gen) 12):=Lib.hid (hst2.setOther hne2);have HG3:Hid (GraphRaw (w2.setCell ⟨w.heap.size,2,none⟩ (.pointer (some ⟨vb,0,none⟩))) w.heap.size (.pointer none) (.pointer none) (.pointer (some ⟨vb,0,none⟩)) (.int .i64 0)):=Lib.hid (HG2.out.set2 _);have HM3:=Lib.hid (HM2'.out (.pointer (some ⟨vb,0,none⟩)));have HOV:Hid (o vb=none):=Lib.hid (H.out.fresh (by omega));clear hok2 hbad2 hst2;unfold ptrTo;go_wp2_with fail
  generalize w2.setCell ⟨w.heap.size,2,none⟩ (.pointer (some ⟨vb,0,none⟩))=w3 at *;have hcl:=Lib.hid (hlen.out w3 o d vb HM3.out.pool HV3.out HOV.out);refine hcl.out.mono ?_;rintro e w4 ⟨c4,d4,o4,⟨x4,rfl,hx4⟩,hm4,he4⟩;have HX4:=Lib.hid hx4;have HE4:=Lib.hid he4;have HM4:=Lib.hid (HM3.out.trans hm4 (fun _ _ h=>h));have HG4:=Lib.hid (HG3.out.moved hm4 HOG.out (fun h=>h));have HV4:=Lib.hid (HV3.out.moved hm4 HOV.out (fun h=>h));have HOG4:Hid (o4 w.heap.size=none):=Lib.hid (hm4.free HG3.out.lt HOG.out);have HOV4:Hid (o4 vb=none):=Lib.hid (hm4.free HV3.out.lt HOV.out);clear hm4 he4 hx4 hcl g0 g1 g2 g3 gz2;obtain ⟨g0,g1,g2,g3,gz⟩:=HG4.out.cells;have gz3:=gz 3;clear gz;have HM5:Hid (Moved (fun _=>False) n pb db w o d (w4.setCell ⟨w.heap.size,3,none⟩ (.int .i64 (x4:Int))) o4 d4 L):=Lib.hid (HM4.out.setCell _ _ HOG4.out (.inr (Nat.le_refl _)));have HG5:Hid (GraphRaw (w4.setCell ⟨w.heap.size,3,none⟩ (.int .i64 (x4:Int))) w.heap.size (.pointer none) (.pointer none) (.pointer (some ⟨vb,0,none⟩)) (.int .i64 (x4:Int))):=Lib.hid (HG4.out.set3 _);have HV5:Hid (StreamAt (w4.setCell ⟨w.heap.size,3,none⟩ (.int .i64 (x4:Int))) vb pb (sName 118 gen) 12):=Lib.hid (HV4.out.setOther hne2);by_cases hc4:c4=0
  ·subst hc4;have HX:=Lib.hid (HX4.out rfl);go_wp2_with fail
   generalize w4.setCell ⟨w.heap.size,3,none⟩ (.int .i64 (x4:Int))=w5 at *;clear g0 g1 g2 g3 gz3;refine (hnmE.out _ o4 (HGEN.out.moved HM5.out (fun _ h=>h))).mono ?_;rintro e w6 ⟨rfl,hb6⟩;have HM6:=Lib.hid (HM5.out.below hb6);have HG6:=Lib.hid (HG5.out.below hb6);have HV6:=Lib.hid (HV5.out.below hb6);clear hb6;go_wp2_with fail
   obtain ⟨hcE,hbE⟩:=hoE.out w6 o4 d4 HM6.out.pool;have HCE:=Lib.hid hcE;have HBE:=Lib.hid hbE;clear hcE hbE;generalize hp7:pfOpen d4 (sName 101 gen)=c7 at *;clear hp7;refine HCE.out.mono ?_;rintro e w7 ⟨v7,rfl,hb7,hok7,hbad7⟩;have HM7:=Lib.hid (HM6.out.below hb7);have HG7:=Lib.hid (HG6.out.below hb7);have HV7:=Lib.hid (HV6.out.below hb7);have hs6:w.heap.size < w6.heap.size:=HG6.out.lt;clear hb7;obtain ⟨g0,g1,g2,g3,gz⟩:=HG7.out.cells;have gz0:=gz 0;clear gz;have HM8':Hid (∀ v,Moved (fun _=>False) n pb db w o d (w7.setCell ⟨w.heap.size,0,none⟩ v) o4 d4 L):=Lib.hid (fun v=>HM7.out.setCell _ _ HOG4.out (.inr (Nat.le_refl _)));by_cases hc7:c7=0
   ·subst hc7;obtain ⟨ob,rfl,hst7,hob⟩:=hok7 rfl;have hne7:ob≠w.heap.size:=by omega
    have HO8:Hid (StreamAt (w7.setCell ⟨w.heap.size,0,none⟩ (.pointer (some ⟨ob,0,none⟩))) ob pb (sName 101 gen) 20):=Lib.hid (hst7.setOther hne7);have HV8:Hid (StreamAt (w7.setCell ⟨w.heap.size,0,none⟩ (.pointer (some ⟨ob,0,none⟩))) vb pb (sName 118 gen) 12):=Lib.hid (HV7.out.setOther hne2);have HG8:Hid (GraphRaw (w7.setCell ⟨w.heap.size,0,none⟩ (.pointer (some ⟨ob,0,none⟩))) w.heap.size (.pointer (some ⟨ob,0,none⟩)) (.pointer none) (.pointer (some ⟨vb,0,none⟩)) (.int .i64 (x4:Int))):=Lib.hid (HG7.out.set0 _);have HM8:=Lib.hid (HM8'.out (.pointer (some ⟨ob,0,none⟩)));have HOB:Hid (o4 ob=none):=Lib.hid (HM6.out.pool.fresh hob);clear hok7 hbad7 hst7;unfold ptrTo;go_wp2_with fail
    generalize w7.setCell ⟨w.heap.size,0,none⟩ (.pointer (some ⟨ob,0,none⟩))=w8 at *;clear g0 g1 g2 g3 gz0;refine (hnmR.out _ o4 (HGEN.out.moved HM8.out (fun _ h=>h))).mono ?_;rintro e w9 ⟨rfl,hb9⟩;have HM9:=Lib.hid (HM8.out.below hb9);have HG9:=Lib.hid (HG8.out.below hb9);have HV9:=Lib.hid (HV8.out.below hb9);have HO9:=Lib.hid (HO8.out.below hb9);clear hb9;go_wp2_with fail
    obtain ⟨hcR,hbR⟩:=hoR.out w9 o4 d4 HM9.out.pool;have HCR:=Lib.hid hcR;have HBR:=Lib.hid hbR;clear hcR hbR;generalize hp10:pfOpen d4 (sName 114 gen)=c10 at *;clear hp10;refine HCR.out.mono ?_;rintro e w10 ⟨v10,rfl,hb10,hok10,hbad10⟩;have HM10:=Lib.hid (HM9.out.below hb10);have HG10:=Lib.hid (HG9.out.below hb10);have HV10:=Lib.hid (HV9.out.below hb10);have HO10:=Lib.hid (HO9.out.below hb10);have hs9:w.heap.size < w9.heap.size:=HG9.out.lt;clear hb10;obtain ⟨g0,g1,g2,g3,gz⟩:=HG10.out.cells;have gz1:=gz 1;clear gz;have HM11':Hid (∀ v,Moved (fun _=>False) n pb db w o d (w10.setCell ⟨w.heap.size,1,none⟩ v) o4 d4 L):=Lib.hid (fun v=>HM10.out.setCell _ _ HOG4.out (.inr (Nat.le_refl _)));by_cases hc10:c10=0
    ·subst hc10;obtain ⟨ib,rfl,hst10,hib⟩:=hok10 rfl;have hne10:ib≠w.heap.size:=by omega
     have hst11:=Lib.hid (hst10.setOther (j:=1) (v:=.pointer (some ⟨ib,0,none⟩)) hne10);have HOI:Hid (o4 ib=none):=Lib.hid (HM9.out.pool.fresh hib);clear hok10 hbad10 hst10;unfold ptrTo;go_wp2;go_ret2
     refine ⟨_,0,d4,o4,rfl,HM11'.out _, .inl rfl,fun _=>⟨w.heap.size,ob,ib,vb,rfl,⟨?_,HO10.out.setOther hne7,hst11.out,HV10.out.setOther hne2,HOG4.out,HOB.out,HOI.out,HOV4.out⟩⟩,fun h=>absurd rfl h⟩;rw [<- HX.out];exact HG10.out.set1 _
    ·obtain rfl:=hbad10 hc10;obtain ⟨h6,hdd⟩:=HBR.out c10 rfl hc10;have HDD:=Lib.hid hdd;subst h6;clear hok10 hbad10 hc10 hdd;go_wp2;go_ret2
     exact ⟨_,6,d4,o4,rfl,HM11'.out _, .inr (.inr ⟨rfl,HDD.out⟩),fun h=>absurd h (by decide),fun _=>rfl⟩
   ·obtain rfl:=hbad7 hc7;obtain ⟨h6,hdd⟩:=HBE.out c7 rfl hc7;have HDD:=Lib.hid hdd;subst h6;clear hok7 hbad7 hc7 hdd;go_wp2;go_ret2
    exact ⟨_,6,d4,o4,rfl,HM8'.out _, .inr (.inr ⟨rfl,HDD.out⟩),fun h=>absurd h (by decide),fun _=>rfl⟩
  ·have hc4':¬ (c4:Int)=0:=by omega
   have HE5:Hid (Err d d4 L c4):=Lib.hid (HE4.out.resolve_left hc4);have HC4:=Lib.hid hc4;clear hc4;go_wp2;go_ret2
   exact ⟨_,c4,d4,o4,rfl,HM5.out, .inr HE5.out,fun h=>absurd h HC4.out,fun _=>rfl⟩
 ·obtain rfl:=hbad2 hc2;obtain ⟨h6,hdd⟩:=HBV.out c2 rfl hc2;have HDD:=Lib.hid hdd;subst h6;clear hok2 hbad2 hc2 hdd;go_wp2;go_ret2
  exact ⟨_,6,d,o,rfl,HM2'.out _, .inr (.inr ⟨rfl,HDD.out⟩),fun h=>absurd h (by decide),fun _=>rfl⟩
end
end
section
open Go.RowKit Go.Maps Go.MapKept
section
variable {w w':World} {pb db n gb gen N ob ib vb:Nat} {name:Name} {o o':Owner} {d d':Dsk} {L L':Logic}
set_option maxHeartbeats 1000000 in
theorem graphSize_any (hg:GraphAt w o gb pb gen N ob ib vb):Calls Tryz.prog 20 #[ptrTo gb] w fun e w'=>e=.returned (.int .i64 (N:Int))/\w=w':=by
 obtain ⟨-,-,-,g3,-⟩:=hg.raw.cells;clear hg;unfold ptrTo;go_enter Tryz.func20,Tryz.ntmps20
 go_wp2;go_ret;exact ⟨rfl,rfl⟩
def vrtVal (x:Vrt):Value:=.agg #[.int .u32 (x.r.toNat:Int), .int .u32 (x.l.toNat:Int), .int .u32 (x.g.toNat:Int)]
def vrt0:Vrt:=⟨0,0,0⟩
def VertPost (n pb db:Nat) (w:World) (o:Owner) (d:Dsk) (L:Logic) (x:Vrt) (e:Ending) (w':World):Prop:=
 ∃ c d' o',e=.returned (.tuple #[vrtVal (if c=0 then x else vrt0), .int .i64 ((c:Nat):Int)])/\Moved (fun _=>False) n pb db w o d w' o' d' L/\(c=0\/Err d d' L c)
set_option maxRecDepth 100000 in
set_option maxHeartbeats 4000000 in
theorem graphVert_in (HW:WriteSaid) (h:PoolAt w pb db n o d L) (hg:GraphAt w o gb pb gen N ob ib vb) {vs:List Vrt} {fl:Bool} (hL:mget L (sName 118 gen)=some (vertFile vs fl)) (hN:N=vs.length) (v:Nat) (hv:v < vs.length) (hv':v < 4294967296) :
 Calls Tryz.prog 23 #[ptrTo gb, .int .u32 (v:Int)] w (VertPost n pb db w o d L vs[v]):=by
 have hget:Hid (∀ W,Below w.heap.size w W->Calls Tryz.prog 57 #[ptrTo vb, .int .i64 (v:Int)] W (RecPost n pb db W o d L vs[v].bytes)):=Lib.hid (fun W hW=>by
  have:=streamGet_in HW (h.below hW) (hg.verts.below hW) hg.ovb (by decide) (by decide) hL (sized_verts vs) (i:=v) (by rw [List.length_map];exact hv);rw [List.getElem_map] at this;exact this)
 obtain ⟨-,-,g2,g3,-⟩:=hg.raw.cells;have hgl:=hg.raw.lt;have H:=Lib.hid h;have hlt:¬ ((v:Int) >= (N:Int)):=by omega
 generalize vs[v]=x at *;clear h hg hL hN hv;unfold ptrTo at *;have HB0:Hid (Below w.heap.size w (w.alloc (.cells #[.int .u32 0, .int .u32 0, .int .u32 0] 55))):=Lib.hid ((Below.refl _ _).alloc (Nat.le_refl _) _);have HBX:Hid ((w.alloc (.cells #[.int .u32 0, .int .u32 0, .int .u32 0] 55)).heap[w.heap.size]? = some (.cells #[.int .u32 0, .int .u32 0, .int .u32 0] 55)):=Lib.hid (heap_alloc_new w _);have HOX:Hid (o w.heap.size=none):=Lib.hid (H.out.fresh (Nat.le_refl _));go_enter Tryz.func23,Tryz.ntmps23
 go_wp2_with fail
 generalize w.alloc (.cells #[.int .u32 0, .int .u32 0, .int .u32 0] 55)=W0 at *;refine (hget.out W0 HB0.out).mono ?_;rintro e w1 ⟨v1,c1,d1,o1,rfl,hm1,he1,hok1,hbad1⟩;have hbl:w.heap.size < W0.heap.size:=(Array.getElem?_eq_some_iff.1 HBX.out).1;have HM1:=Lib.hid ((Moved.ofBelow H.out HB0.out).trans hm1 (fun _ _ h=>h));have HX1:=Lib.hid (hm1.heap HBX.out HOX.out (fun h=>h));have HE1:=Lib.hid he1;have HOX1:Hid (o1 w.heap.size=none):=Lib.hid (hm1.free hbl HOX.out);clear hm1 he1;by_cases hc1:c1=0
 ·subst hc1;obtain ⟨ho1,hf1⟩:=hok1 rfl;obtain ⟨a1,k1,rfl⟩:=ownsRow_slice ho1;have HR1:=Lib.hid (Rd_own ho1);clear hok1 hbad1 ho1 hf1;go_wp2_with fail
  refine (readVrt_any _ x _ HR1.out).mono ?_;rintro e w2 ⟨rfl,hb2⟩;have HM2:=Lib.hid (HM1.out.below hb2);have hx2:w2.heap[w.heap.size]? = some (.cells #[.int .u32 0, .int .u32 0, .int .u32 0] 55):=by rw [hb2.block _ (Array.getElem?_eq_some_iff.1 HX1.out).1];exact HX1.out
  have k0:w2.cell? ⟨w.heap.size,0,none⟩=some (.int .u32 0):=by rw [cells_cell hx2];rfl
  have k1':w2.cell? ⟨w.heap.size,1,none⟩=some (.int .u32 0):=by rw [cells_cell hx2];rfl
  have k2':w2.cell? ⟨w.heap.size,2,none⟩=some (.int .u32 0):=by rw [cells_cell hx2];rfl
  have z0:=cells_frozen hx2 0;have z1:=cells_frozen hx2 1;have z2:=cells_frozen hx2 2;have hbl2:w.heap.size < w2.heap.size:=(Array.getElem?_eq_some_iff.1 hx2).1;have hx3:(((w2.setCell ⟨w.heap.size,0,none⟩ (.int .u32 (x.r.toNat:Int))).setCell ⟨w.heap.size,1,none⟩ (.int .u32 (x.l.toNat:Int))).setCell ⟨w.heap.size,2,none⟩ (.int .u32 (x.g.toNat:Int))).heap[w.heap.size]? = some (.cells #[.int .u32 (x.r.toNat:Int), .int .u32 (x.l.toNat:Int), .int .u32 (x.g.toNat:Int)] 55):=cells_set (cells_set (cells_set hx2 0 _) 1 _) 2 _;have HM3:Hid (Moved (fun _=>False) n pb db w o d (((w2.setCell ⟨w.heap.size,0,none⟩ (.int .u32 (x.r.toNat:Int))).setCell ⟨w.heap.size,1,none⟩ (.int .u32 (x.l.toNat:Int))).setCell ⟨w.heap.size,2,none⟩ (.int .u32 (x.g.toNat:Int))) o1 d1 L):=Lib.hid (((HM2.out.setCell ⟨w.heap.size,0,none⟩ _ HOX1.out (.inr (Nat.le_refl _))).setCell ⟨w.heap.size,1,none⟩ _ HOX1.out (.inr (Nat.le_refl _))).setCell ⟨w.heap.size,2,none⟩ _ HOX1.out (.inr (Nat.le_refl _)));have HX3:=Lib.hid hx3;clear hb2 hx2 hx3;go_wp2;generalize (((w2.setCell ⟨w.heap.size,0,none⟩ (.int .u32 (x.r.toNat:Int))).setCell ⟨w.heap.size,1,none⟩ (.int .u32 (x.l.toNat:Int))).setCell ⟨w.heap.size,2,none⟩ (.int .u32 (x.g.toNat:Int)))=w3 at *;have q0:w3.cell? ⟨w.heap.size,0,none⟩=some (.int .u32 (x.r.toNat:Int)):=by rw [cells_cell HX3.out];rfl
  have q1:w3.cell? ⟨w.heap.size,1,none⟩=some (.int .u32 (x.l.toNat:Int)):=by rw [cells_cell HX3.out];rfl
  have q2:w3.cell? ⟨w.heap.size,2,none⟩=some (.int .u32 (x.g.toNat:Int)):=by rw [cells_cell HX3.out];rfl
  clear k0 k1' k2' z0 z1 z2;exact bodyPost_ret (v:=.tuple #[.agg #[.int .u32 (x.r.toNat:Int), .int .u32 (x.l.toNat:Int), .int .u32 (x.g.toNat:Int)], .int .i64 0]) (by simp [results,Tryz.results23,go_sem,q0,q1,q2]) rfl ⟨0,d1,o1,rfl,HM3.out, .inl rfl⟩
 ·obtain rfl:=hbad1 hc1;have hc1':¬ (c1:Int)=0:=by omega
  have HC1:=Lib.hid hc1;have k0:w1.cell? ⟨w.heap.size,0,none⟩=some (.int .u32 0):=by rw [cells_cell HX1.out];rfl
  have k1':w1.cell? ⟨w.heap.size,1,none⟩=some (.int .u32 0):=by rw [cells_cell HX1.out];rfl
  have k2':w1.cell? ⟨w.heap.size,2,none⟩=some (.int .u32 0):=by rw [cells_cell HX1.out];rfl
  have z0:=cells_frozen HX1.out 0;have z1:=cells_frozen HX1.out 1;have z2:=cells_frozen HX1.out 2;have hbl1:w.heap.size < w1.heap.size:=(Array.getElem?_eq_some_iff.1 HX1.out).1;have hx3:(((w1.setCell ⟨w.heap.size,0,none⟩ (.int .u32 0)).setCell ⟨w.heap.size,1,none⟩ (.int .u32 0)).setCell ⟨w.heap.size,2,none⟩ (.int .u32 0)).heap[w.heap.size]? = some (.cells #[.int .u32 0, .int .u32 0, .int .u32 0] 55):=cells_set (cells_set (cells_set HX1.out 0 _) 1 _) 2 _;have HM3:Hid (Moved (fun _=>False) n pb db w o d (((w1.setCell ⟨w.heap.size,0,none⟩ (.int .u32 0)).setCell ⟨w.heap.size,1,none⟩ (.int .u32 0)).setCell ⟨w.heap.size,2,none⟩ (.int .u32 0)) o1 d1 L):=Lib.hid (((HM1.out.setCell ⟨w.heap.size,0,none⟩ _ HOX1.out (.inr (Nat.le_refl _))).setCell ⟨w.heap.size,1,none⟩ _ HOX1.out (.inr (Nat.le_refl _))).setCell ⟨w.heap.size,2,none⟩ _ HOX1.out (.inr (Nat.le_refl _)));have HX3:=Lib.hid hx3;clear hok1 hbad1 hc1 hx3;go_wp2;generalize (((w1.setCell ⟨w.heap.size,0,none⟩ (.int .u32 0)).setCell ⟨w.heap.size,1,none⟩ (.int .u32 0)).setCell ⟨w.heap.size,2,none⟩ (.int .u32 0))=w3 at *;have q0:w3.cell? ⟨w.heap.size,0,none⟩=some (.int .u32 0):=by rw [cells_cell HX3.out];rfl
  have q1:w3.cell? ⟨w.heap.size,1,none⟩=some (.int .u32 0):=by rw [cells_cell HX3.out];rfl
  have q2:w3.cell? ⟨w.heap.size,2,none⟩=some (.int .u32 0):=by rw [cells_cell HX3.out];rfl
  clear k0 k1' k2' z0 z1 z2;exact bodyPost_ret (v:=.tuple #[.agg #[.int .u32 0, .int .u32 0, .int .u32 0], .int .i64 (c1:Int)]) (by simp [results,Tryz.results23,go_sem,q0,q1,q2]) rfl ⟨c1,d1,o1,by rw [if_neg HC1.out];rfl,HM3.out,HE1.out⟩
end
end
section
open Go.RowKit Go.Maps Go.MapKept
section
variable {w w':World} {pb db n gb gen N sb:Nat} {name:Name} {o o':Owner} {d d':Dsk} {L L':Logic}
def ReadEPostE (E:Nat->Dsk->Prop) (n pb db:Nat) (w:World) (o:Owner) (d:Dsk) (L:Logic) (x:Edg) (e:Ending) (w':World):Prop:=
 ∃ c d' o' y,e=.returned (.tuple #[.agg #[.int .u32 (y.t.toNat:Int), .int .u32 (y.h.toNat:Int), .int .u64 (y.x.toNat:Int), .int .u32 (y.m.toNat:Int)], .int .i64 ((c:Nat):Int)])/\Moved (fun _=>False) n pb db w o d w' o' d' L/\E c d'/\(c=0->y=x)/\(c≠0->y=edg0)
def ReadEPost (n pb db:Nat) (w:World) (o:Owner) (d:Dsk) (L:Logic) (x:Edg) (e:Ending) (w':World):Prop:=
 ∃ c d' o' y,e=.returned (.tuple #[.agg #[.int .u32 (y.t.toNat:Int), .int .u32 (y.h.toNat:Int), .int .u64 (y.x.toNat:Int), .int .u32 (y.m.toNat:Int)], .int .i64 ((c:Nat):Int)])/\Moved (fun _=>False) n pb db w o d w' o' d' L/\(c=0\/Err d d' L c)/\(c=0->y=x)
def RecPostE (E:Nat->Dsk->Prop) (n pb db:Nat) (w:World) (o:Owner) (d:Dsk) (L:Logic) (r:Rec) (e:Ending) (w':World):Prop:=
 ∃ v c d' o',e=.returned (.tuple #[v, .int .i64 ((c:Nat):Int)])/\Moved (fun _=>False) n pb db w o d w' o' d' L/\E c d' /\
  (c=0->w'.ownsRow w.heap.size 5 1 v r.length (r.map bv)/\∀ x,v.ownBlock=some x->o' x=none)/\(c≠0->v=.slice none 0 0)
set_option maxRecDepth 100000 in
set_option maxHeartbeats 4000000 in
theorem storeRead_gen (E:Nat->Dsk->Prop) (h:PoolAt w pb db n o d L) {i:Int} {x:Edg} (hget0:∀ W,Below w.heap.size w W->Calls Tryz.prog 57 #[ptrTo sb, .int .i64 i] W (RecPostE E n pb db W o d L x.bytes)) :
 Calls Tryz.prog 60 #[ptrTo sb, .int .i64 i] w (ReadEPostE E n pb db w o d L x):=by
 have hget:=Lib.hid hget0;have H:=Lib.hid h;clear h hget0;unfold ptrTo at *;have HB0:Hid (Below w.heap.size w (w.alloc (.cells #[.int .u32 0, .int .u32 0, .int .u64 0, .int .u32 0] 64))):=Lib.hid ((Below.refl _ _).alloc (Nat.le_refl _) _);have HBX:Hid ((w.alloc (.cells #[.int .u32 0, .int .u32 0, .int .u64 0, .int .u32 0] 64)).heap[w.heap.size]? = some (.cells #[.int .u32 0, .int .u32 0, .int .u64 0, .int .u32 0] 64)):=Lib.hid (heap_alloc_new w _);have HOX:Hid (o w.heap.size=none):=Lib.hid (H.out.fresh (Nat.le_refl _));go_enter Tryz.func60,Tryz.ntmps60
 go_wp2_with fail
 generalize w.alloc (.cells #[.int .u32 0, .int .u32 0, .int .u64 0, .int .u32 0] 64)=W0 at *;refine (hget.out W0 HB0.out).mono ?_;rintro e w1 ⟨v1,c1,d1,o1,rfl,hm1,he1,hok1,hbad1⟩;have hbl:w.heap.size < W0.heap.size:=(Array.getElem?_eq_some_iff.1 HBX.out).1;have HM1:=Lib.hid ((Moved.ofBelow H.out HB0.out).trans hm1 (fun _ _ h=>h));have HX1:=Lib.hid (hm1.heap HBX.out HOX.out (fun h=>h));have HE1:=Lib.hid he1;have HOX1:Hid (o1 w.heap.size=none):=Lib.hid (hm1.free hbl HOX.out);clear hm1 he1;have hset:Hid (∀ (w2:World) (a b c e:Value),w2.heap[w.heap.size]? = some (.cells #[.int .u32 0, .int .u32 0, .int .u64 0, .int .u32 0] 64)->((((w2.setCell ⟨w.heap.size,0,none⟩ a).setCell ⟨w.heap.size,1,none⟩ b).setCell ⟨w.heap.size,2,none⟩ c).setCell ⟨w.heap.size,3,none⟩ e).heap[w.heap.size]? = some (.cells #[a,b,c,e] 64)):=Lib.hid (fun w2 a b c e hx=>cells_set (cells_set (cells_set (cells_set hx 0 _) 1 _) 2 _) 3 _);by_cases hc1:c1=0
 ·subst hc1;obtain ⟨ho1,hf1⟩:=hok1 rfl;obtain ⟨a1,k1,rfl⟩:=ownsRow_slice ho1;have HR1:=Lib.hid (Rd_own ho1);clear hok1 hbad1 ho1 hf1;go_wp2_with fail
  refine (readEdg_any _ x _ HR1.out).mono ?_;rintro e w2 ⟨rfl,hb2⟩;have HM2:=Lib.hid (HM1.out.below hb2);have hx2:w2.heap[w.heap.size]? = some (.cells #[.int .u32 0, .int .u32 0, .int .u64 0, .int .u32 0] 64):=by rw [hb2.block _ (Array.getElem?_eq_some_iff.1 HX1.out).1];exact HX1.out
  have k0:w2.cell? ⟨w.heap.size,0,none⟩=some (.int .u32 0):=by rw [cells_cell hx2];rfl
  have k1':w2.cell? ⟨w.heap.size,1,none⟩=some (.int .u32 0):=by rw [cells_cell hx2];rfl
  have k2':w2.cell? ⟨w.heap.size,2,none⟩=some (.int .u64 0):=by rw [cells_cell hx2];rfl
  have k3':w2.cell? ⟨w.heap.size,3,none⟩=some (.int .u32 0):=by rw [cells_cell hx2];rfl
  have z0:=cells_frozen hx2 0;have z1:=cells_frozen hx2 1;have z2:=cells_frozen hx2 2;have z3:=cells_frozen hx2 3;have hbl2:w.heap.size < w2.heap.size:=(Array.getElem?_eq_some_iff.1 hx2).1;have HX3:=Lib.hid (hset.out w2 (.int .u32 (x.t.toNat:Int)) (.int .u32 (x.h.toNat:Int)) (.int .u64 (x.x.toNat:Int)) (.int .u32 (x.m.toNat:Int)) hx2);have HM3:Hid (Moved (fun _=>False) n pb db w o d ((((w2.setCell ⟨w.heap.size,0,none⟩ (.int .u32 (x.t.toNat:Int))).setCell ⟨w.heap.size,1,none⟩ (.int .u32 (x.h.toNat:Int))).setCell ⟨w.heap.size,2,none⟩ (.int .u64 (x.x.toNat:Int))).setCell ⟨w.heap.size,3,none⟩ (.int .u32 (x.m.toNat:Int))) o1 d1 L):=Lib.hid ((((HM2.out.setCell ⟨w.heap.size,0,none⟩ _ HOX1.out (.inr (Nat.le_refl _))).setCell ⟨w.heap.size,1,none⟩ _ HOX1.out (.inr (Nat.le_refl _))).setCell ⟨w.heap.size,2,none⟩ _ HOX1.out (.inr (Nat.le_refl _))).setCell ⟨w.heap.size,3,none⟩ _ HOX1.out (.inr (Nat.le_refl _)));clear hb2 hx2;go_wp2;generalize ((((w2.setCell ⟨w.heap.size,0,none⟩ (.int .u32 (x.t.toNat:Int))).setCell ⟨w.heap.size,1,none⟩ (.int .u32 (x.h.toNat:Int))).setCell ⟨w.heap.size,2,none⟩ (.int .u64 (x.x.toNat:Int))).setCell ⟨w.heap.size,3,none⟩ (.int .u32 (x.m.toNat:Int)))=w3 at *;have q0:w3.cell? ⟨w.heap.size,0,none⟩=some (.int .u32 (x.t.toNat:Int)):=by rw [cells_cell HX3.out];rfl
  have q1:w3.cell? ⟨w.heap.size,1,none⟩=some (.int .u32 (x.h.toNat:Int)):=by rw [cells_cell HX3.out];rfl
  have q2:w3.cell? ⟨w.heap.size,2,none⟩=some (.int .u64 (x.x.toNat:Int)):=by rw [cells_cell HX3.out];rfl
  have q3:w3.cell? ⟨w.heap.size,3,none⟩=some (.int .u32 (x.m.toNat:Int)):=by rw [cells_cell HX3.out];rfl
  clear k0 k1' k2' k3' z0 z1 z2 z3;exact bodyPost_ret (v:=.tuple #[.agg #[.int .u32 (x.t.toNat:Int), .int .u32 (x.h.toNat:Int), .int .u64 (x.x.toNat:Int), .int .u32 (x.m.toNat:Int)], .int .i64 0]) (by simp [results,Tryz.results60,go_sem,q0,q1,q2,q3]) rfl ⟨0,d1,o1,x,rfl,HM3.out,HE1.out,fun _=>rfl,fun h=>absurd rfl h⟩
 ·obtain rfl:=hbad1 hc1;have hc1':¬ (c1:Int)=0:=by omega
  have HC1:=Lib.hid hc1;have k0:w1.cell? ⟨w.heap.size,0,none⟩=some (.int .u32 0):=by rw [cells_cell HX1.out];rfl
  have k1':w1.cell? ⟨w.heap.size,1,none⟩=some (.int .u32 0):=by rw [cells_cell HX1.out];rfl
  have k2':w1.cell? ⟨w.heap.size,2,none⟩=some (.int .u64 0):=by rw [cells_cell HX1.out];rfl
  have k3':w1.cell? ⟨w.heap.size,3,none⟩=some (.int .u32 0):=by rw [cells_cell HX1.out];rfl
  have z0:=cells_frozen HX1.out 0;have z1:=cells_frozen HX1.out 1;have z2:=cells_frozen HX1.out 2;have z3:=cells_frozen HX1.out 3;have hbl1:w.heap.size < w1.heap.size:=(Array.getElem?_eq_some_iff.1 HX1.out).1;have HX3:=Lib.hid (hset.out w1 (.int .u32 0) (.int .u32 0) (.int .u64 0) (.int .u32 0) HX1.out);have HM3:Hid (Moved (fun _=>False) n pb db w o d ((((w1.setCell ⟨w.heap.size,0,none⟩ (.int .u32 0)).setCell ⟨w.heap.size,1,none⟩ (.int .u32 0)).setCell ⟨w.heap.size,2,none⟩ (.int .u64 0)).setCell ⟨w.heap.size,3,none⟩ (.int .u32 0)) o1 d1 L):=Lib.hid ((((HM1.out.setCell ⟨w.heap.size,0,none⟩ _ HOX1.out (.inr (Nat.le_refl _))).setCell ⟨w.heap.size,1,none⟩ _ HOX1.out (.inr (Nat.le_refl _))).setCell ⟨w.heap.size,2,none⟩ _ HOX1.out (.inr (Nat.le_refl _))).setCell ⟨w.heap.size,3,none⟩ _ HOX1.out (.inr (Nat.le_refl _)));clear hok1 hbad1 hc1;go_wp2;generalize ((((w1.setCell ⟨w.heap.size,0,none⟩ (.int .u32 0)).setCell ⟨w.heap.size,1,none⟩ (.int .u32 0)).setCell ⟨w.heap.size,2,none⟩ (.int .u64 0)).setCell ⟨w.heap.size,3,none⟩ (.int .u32 0))=w3 at *;have q0:w3.cell? ⟨w.heap.size,0,none⟩=some (.int .u32 0):=by rw [cells_cell HX3.out];rfl
  have q1:w3.cell? ⟨w.heap.size,1,none⟩=some (.int .u32 0):=by rw [cells_cell HX3.out];rfl
  have q2:w3.cell? ⟨w.heap.size,2,none⟩=some (.int .u64 0):=by rw [cells_cell HX3.out];rfl
  have q3:w3.cell? ⟨w.heap.size,3,none⟩=some (.int .u32 0):=by rw [cells_cell HX3.out];rfl
  clear k0 k1' k2' k3' z0 z1 z2 z3;exact bodyPost_ret (v:=.tuple #[.agg #[.int .u32 0, .int .u32 0, .int .u64 0, .int .u32 0], .int .i64 (c1:Int)]) (by simp [results,Tryz.results60,go_sem,q0,q1,q2,q3]) rfl ⟨c1,d1,o1,edg0,rfl,HM3.out,HE1.out,fun h=>absurd h HC1.out,fun _=>rfl⟩
theorem storeRead_in (HW:WriteSaid) (h:PoolAt w pb db n o d L) (hst:StreamAt w sb pb name 20) (ho:o sb=none) {es:List Edg} {fl:Bool} (hL:mget L name=some (edgeFile es fl)) {i:Nat} {x:Edg} (hi:es[i]? = some x) :
 Calls Tryz.prog 60 #[ptrTo sb, .int .i64 (i:Int)] w (ReadEPost n pb db w o d L x):=by
 have hil:=lt_of_get hi;refine (storeRead_gen (fun c d'=>c=0\/Err d d' L c) h (x:=x) (fun W hW=>?_)).mono fun e w' ⟨c,d',o',y,h1,h2,h3,h4,_⟩=>⟨c,d',o',y,h1,h2,h3,h4⟩;have:=streamGet_in HW (h.below hW) (hst.below hW) ho (by decide) (by decide) hL (sized_edges es) (i:=i) (by rw [List.length_map];exact hil);rw [List.getElem_map] at this;rw [List.getElem?_eq_getElem hil] at hi;rw [Option.some.inj hi] at this;exact this
def endFn (b:Bool):FuncId:=if b then 56 else 55
set_option maxRecDepth 100000 in
set_option maxHeartbeats 1000000 in
theorem endOut_any (x:Edg) (w:World):Calls Tryz.prog 55 #[.agg #[.int .u32 (x.t.toNat:Int), .int .u32 (x.h.toNat:Int), .int .u64 (x.x.toNat:Int), .int .u32 (x.m.toNat:Int)]] w fun e w'=>e=.returned (.int .u32 (x.t.toNat:Int))/\Below w.heap.size w w':=by
 go_enter Tryz.func55,Tryz.ntmps55
 go_wp2;go_ret;exact ⟨rfl,(Below.refl _ _).alloc (Nat.le_refl _) _⟩
set_option maxRecDepth 100000 in
set_option maxHeartbeats 1000000 in
theorem endIn_any (x:Edg) (w:World):Calls Tryz.prog 56 #[.agg #[.int .u32 (x.t.toNat:Int), .int .u32 (x.h.toNat:Int), .int .u64 (x.x.toNat:Int), .int .u32 (x.m.toNat:Int)]] w fun e w'=>e=.returned (.int .u32 (x.h.toNat:Int))/\Below w.heap.size w w':=by
 go_enter Tryz.func56,Tryz.ntmps56
 go_wp2;go_ret;exact ⟨rfl,(Below.refl _ _).alloc (Nat.le_refl _) _⟩
theorem end_any (b:Bool) (x:Edg) (w:World):Calls Tryz.prog (endFn b) #[.agg #[.int .u32 (x.t.toNat:Int), .int .u32 (x.h.toNat:Int), .int .u64 (x.x.toNat:Int), .int .u32 (x.m.toNat:Int)]] w fun e w'=>e=.returned (.int .u32 (end1 b x:Int))/\Below w.heap.size w w':=by
 cases b
 ·exact endOut_any x w
 ·exact endIn_any x w
end
end
section
open Go.RowKit Go.Maps Go.MapKept
structure OfMem (w:World) (o:Owner) (xb kb fb vb sb:Nat) (b:Bool) (v bc:Nat):Prop where
 xs:∃ t,w.heap[xb]? = some (.cells #[ptrTo sb] t)
 bad:∃ t,w.heap[kb]? = some (.cells #[.int .i64 (bc:Int)] t)
 fn:∃ t,w.heap[fb]? = some (.cells #[.func (.func (endFn b)) #[] #[]] t)
 vtx:∃ t,w.heap[vb]? = some (.cells #[.int .u32 (v:Int)] t)
 oxb:o xb=none
 okb:o kb=none
 ofb:o fb=none
 ovb:o vb=none
 xk:xb≠kb
 fk:fb≠kb
 vk:vb≠kb
section
variable {w w':World} {pb db n sb xb kb fb vb v bc:Nat} {b:Bool} {name:Name} {o o':Owner} {d d':Dsk} {L L':Logic}
theorem lt_heap {w:World} {x:Nat} {ob:Obj} (h:w.heap[x]? = some ob):x < w.heap.size:=(Array.getElem?_eq_some_iff.1 h).1
theorem cellBelow {w w':World} (hb:Below w.heap.size w w') {a:Addr} {v:Value} (hc:w.cell? a=some v):w'.cell? a=some v:=(hb.cell (World.block_lt_of_cell? w a hc)).trans hc
theorem OfMem.lts (h:OfMem w o xb kb fb vb sb b v bc):xb < w.heap.size/\kb < w.heap.size/\fb < w.heap.size/\vb < w.heap.size:=by
 obtain ⟨_,h1⟩:=h.xs;obtain ⟨_,h2⟩:=h.bad;obtain ⟨_,h3⟩:=h.fn;obtain ⟨_,h4⟩:=h.vtx;exact ⟨lt_heap h1,lt_heap h2,lt_heap h3,lt_heap h4⟩
theorem OfMem.cells (h:OfMem w o xb kb fb vb sb b v bc):w.cell? ⟨xb,0,none⟩=some (ptrTo sb)/\w.cell? ⟨kb,0,none⟩=some (.int .i64 (bc:Int))/\w.cell? ⟨fb,0,none⟩=some (.func (.func (endFn b)) #[] #[])/\w.cell? ⟨vb,0,none⟩=some (.int .u32 (v:Int))/\w.frozen? ⟨kb,0,none⟩=false:=by
 obtain ⟨_,h1⟩:=h.xs;obtain ⟨_,h2⟩:=h.bad;obtain ⟨_,h3⟩:=h.fn;obtain ⟨_,h4⟩:=h.vtx;refine ⟨?_,?_,?_,?_,cells_frozen h2 _⟩
 ·rw [cells_cell h1];rfl
 ·rw [cells_cell h2];rfl
 ·rw [cells_cell h3];rfl
 ·rw [cells_cell h4];rfl
theorem OfMem.moved (h:OfMem w o xb kb fb vb sb b v bc) (hm:Moved (fun _=>False) n pb db w o d w' o' d' L'):OfMem w' o' xb kb fb vb sb b v bc:=by
 obtain ⟨l1,l2,l3,l4⟩:=h.lts;obtain ⟨t1,h1⟩:=h.xs;obtain ⟨t2,h2⟩:=h.bad;obtain ⟨t3,h3⟩:=h.fn;obtain ⟨t4,h4⟩:=h.vtx;exact ⟨⟨t1,hm.heap h1 h.oxb (fun h=>h)⟩,⟨t2,hm.heap h2 h.okb (fun h=>h)⟩,⟨t3,hm.heap h3 h.ofb (fun h=>h)⟩,⟨t4,hm.heap h4 h.ovb (fun h=>h)⟩,hm.free l1 h.oxb,hm.free l2 h.okb,hm.free l3 h.ofb,hm.free l4 h.ovb,h.xk,h.fk,h.vk⟩
theorem OfMem.below (h:OfMem w o xb kb fb vb sb b v bc) (hb:Below w.heap.size w w'):OfMem w' o xb kb fb vb sb b v bc:=by
 obtain ⟨l1,l2,l3,l4⟩:=h.lts;obtain ⟨t1,h1⟩:=h.xs;obtain ⟨t2,h2⟩:=h.bad;obtain ⟨t3,h3⟩:=h.fn;obtain ⟨t4,h4⟩:=h.vtx;exact ⟨⟨t1,(hb.block _ l1).trans h1⟩,⟨t2,(hb.block _ l2).trans h2⟩,⟨t3,(hb.block _ l3).trans h3⟩,⟨t4,(hb.block _ l4).trans h4⟩,h.oxb,h.okb,h.ofb,h.ovb,h.xk,h.fk,h.vk⟩
theorem OfMem.set (h:OfMem w o xb kb fb vb sb b v bc) (c:Nat):OfMem (w.setCell ⟨kb,0,none⟩ (.int .i64 (c:Int))) o xb kb fb vb sb b v c:=by
 obtain ⟨t1,h1⟩:=h.xs;obtain ⟨t2,h2⟩:=h.bad;obtain ⟨t3,h3⟩:=h.fn;obtain ⟨t4,h4⟩:=h.vtx;refine ⟨⟨t1,(Below.heap_setCell _ _ _ _ h.xk).trans h1⟩,⟨t2,cells_set h2 0 _⟩,⟨t3,(Below.heap_setCell _ _ _ _ h.fk).trans h3⟩,⟨t4,(Below.heap_setCell _ _ _ _ h.vk).trans h4⟩,h.oxb,h.okb,h.ofb,h.ovb,h.xk,h.fk,h.vk⟩
set_option maxRecDepth 100000 in
theorem run_endFn (b:Bool) (args:Array Value) (w:World):Sem.run Tryz.prog (callFunc (endFn b) args) w=.ok (.enter (endFn b) args) w:=by
 cases b
 ·show Sem.run Tryz.prog (callFunc 55 args) w=.ok (.enter 55 args) w;go_simp
 ·show Sem.run Tryz.prog (callFunc 56 args) w=.ok (.enter 56 args) w;go_simp
def TestPost (n pb db:Nat) (w:World) (o:Owner) (d:Dsk) (L:Logic) (xb kb fb vb sb:Nat) (b:Bool) (v bc:Nat) (x:Edg) (e:Ending) (w':World):Prop:=
 ∃ r c d' o',e=.returned (.bool r)/\Moved (·=kb) n pb db w o d w' o' d' L/\OfMem w' o' xb kb fb vb sb b v c/\((c=bc/\r=decide (v<=end1 b x))\/Err d d' L c)
set_option maxRecDepth 100000 in
set_option maxHeartbeats 4000000 in
theorem ofTest_any (HW:WriteSaid) (h:PoolAt w pb db n o d L) (hst:StreamAt w sb pb name 20) (ho:o sb=none) {es:List Edg} {fl:Bool} (hL:mget L name=some (edgeFile es fl)) (hm:OfMem w o xb kb fb vb sb b v bc) {i:Nat} {x:Edg} (hi:es[i]? = some x) :
 Calls Tryz.prog 89 #[.int .i64 (i:Int), .pointer (some ⟨xb,0,none⟩), .pointer (some ⟨kb,0,none⟩), .pointer (some ⟨fb,0,none⟩), .pointer (some ⟨vb,0,none⟩)] w (TestPost n pb db w o d L xb kb fb vb sb b v bc x):=by
 have hread:=Lib.hid (storeRead_in HW h hst ho hL hi);have HO:=Lib.hid hm;obtain ⟨c1,c2,c3,c4,-⟩:=hm.cells;obtain ⟨l1,l2,l3,l4⟩:=hm.lts;have HE:Hid (∀ (y:Edg) (W:World),Calls Tryz.prog (endFn b) #[.agg #[.int .u32 (y.t.toNat:Int), .int .u32 (y.h.toNat:Int), .int .u64 (y.x.toNat:Int), .int .u32 (y.m.toNat:Int)]] W fun e w'=>e=.returned (.int .u32 (end1 b y:Int))/\Below W.heap.size W w'):=Lib.hid (fun y W=>end_any b y W);clear h hst ho hL hi hm;unfold ptrTo at *;go_enter Tryz.func89,Tryz.ntmps89
 go_wp2_with fail
 refine hread.out.mono ?_;rintro e w1 ⟨c,d1,o1,y,rfl,hm1,he1,hy1⟩;have HM1:=Lib.hid hm1;have HE1:=Lib.hid he1;have HY1:=Lib.hid hy1;have HO1:=Lib.hid (HO.out.moved hm1);clear hm1 he1 hy1 c1 c2 c3 c4;have HB1:Hid (Below w1.heap.size w1 (w1.alloc (.cells #[.int .u32 (y.t.toNat:Int), .int .u32 (y.h.toNat:Int), .int .u64 (y.x.toNat:Int), .int .u32 (y.m.toNat:Int)] 64))):=Lib.hid ((Below.refl _ _).alloc (Nat.le_refl _) _);have HX1:Hid ((w1.alloc (.cells #[.int .u32 (y.t.toNat:Int), .int .u32 (y.h.toNat:Int), .int .u64 (y.x.toNat:Int), .int .u32 (y.m.toNat:Int)] 64)).heap[w1.heap.size]? = some (.cells #[.int .u32 (y.t.toNat:Int), .int .u32 (y.h.toNat:Int), .int .u64 (y.x.toNat:Int), .int .u32 (y.m.toNat:Int)] 64)):=Lib.hid (heap_alloc_new w1 _);have HOA:=Lib.hid (HO1.out.below HB1.out);have HMA:Hid (Moved (·=kb) n pb db w o d (w1.alloc (.cells #[.int .u32 (y.t.toNat:Int), .int .u32 (y.h.toNat:Int), .int .u64 (y.x.toNat:Int), .int .u32 (y.m.toNat:Int)] 64)) o1 d1 L):=Lib.hid ((HM1.out.below HB1.out).mono (fun _ _ h=>h.elim));have m2:=HO1.out.lts.2.1;have m5:=HOA.out.cells.2.2.2.2;have m6:=HOA.out.cells.2.1;have m7:=HO1.out.cells.2.1;obtain ⟨-,-,-,-,c5⟩:=HO1.out.cells;have HNE:Hid (w1.heap.size≠kb):=Lib.hid (by omega);have hsel:∀ (W:World) (bc':Nat),Moved (·=kb) n pb db w o d W o1 d1 L->OfMem W o1 xb kb fb vb sb b v bc'->(bc'=bc/\y=x\/Err d d1 L bc')->∀ W' r,Below W.heap.size W W'->r=decide (v<=end1 b y)->TestPost n pb db w o d L xb kb fb vb sb b v bc x (.returned (.bool r)) W':=by
  intro W bc' g1 g2 g3 W' r g4 g5;refine ⟨r,bc',d1,o1,rfl,g1.below g4,g2.below g4,g3.imp (fun ⟨a1,a2⟩=>⟨a1,by rw [g5,a2]⟩) id⟩
 have HSEL:=Lib.hid hsel;clear hsel;by_cases hc:c=0
 ·subst hc;have HF:Hid (bc=bc/\y=x\/Err d d1 L bc):=Lib.hid (.inl ⟨rfl,HY1.out rfl⟩);have HS2:=Lib.hid (HSEL.out _ _ HMA.out HOA.out HF.out);go_wp2;generalize w1.alloc (.cells #[.int .u32 (y.t.toNat:Int), .int .u32 (y.h.toNat:Int), .int .u64 (y.x.toNat:Int), .int .u32 (y.m.toNat:Int)] 64)=W at *;have q0:W.cell? ⟨w1.heap.size,0,none⟩=some (.int .u32 (y.t.toNat:Int)):=by rw [cells_cell HX1.out];rfl
  have q1:W.cell? ⟨w1.heap.size,1,none⟩=some (.int .u32 (y.h.toNat:Int)):=by rw [cells_cell HX1.out];rfl
  have q2:W.cell? ⟨w1.heap.size,2,none⟩=some (.int .u64 (y.x.toNat:Int)):=by rw [cells_cell HX1.out];rfl
  have q3:W.cell? ⟨w1.heap.size,3,none⟩=some (.int .u32 (y.m.toNat:Int)):=by rw [cells_cell HX1.out];rfl
  obtain ⟨-,-,k3,k4,-⟩:=(show OfMem W o1 xb kb fb vb sb b v _ from HOA.out).cells;have m9:w1.heap.size < W.heap.size:=lt_heap HX1.out;have Q0:=Lib.hid q0;have Q1:=Lib.hid q1;have Q2:=Lib.hid q2;have Q3:=Lib.hid q3;have K3:=Lib.hid k3;have K4:=Lib.hid k4;clear q0 q1 q2 q3 k3 k4;refine wq W ?_;refine qo (fun K hK=>?_) (fun w' hw'=>by have z3:=cellBelow hw' K3.out;go_simp<;>rfl);go_simp;refine hK _ ?_;clear hK K;refine qo (fun K hK=>?_) (fun w' hw'=>by have z0:=cellBelow hw' Q0.out;have z1:=cellBelow hw' Q1.out;have z2:=cellBelow hw' Q2.out;have z3:=cellBelow hw' Q3.out;go_simp<;>rfl);go_simp;refine hK _ ?_;clear hK K;refine q_call rfl (fun w' hw'=>(by go_simp;exact run_endFn b _ _)) (fun w' hw'=>((HE.out y w').mono (fun e w'' h=>⟨h.1,hw'.trans (h.2.mono hw'.size)⟩))) (fun K hK=>?_);go_simp;refine hK _ ?_;clear hK K;refine qo (fun K hK=>?_) (fun w' hw'=>by have z4:=cellBelow hw' K4.out;go_simp<;>rfl);go_simp;refine hK _ ?_;clear hK K;iterate 2 (refine qo (fun K hK=>?_);go_simp;refine hK _ ?_;clear hK K)
  refine wpQuiet_nil ?_;intro w4 hw4;have HW4:=Lib.hid hw4;clear hw4;go_wp2;go_ret;refine HS2.out _ _ HW4.out ?_;simp
 ·have hc':¬ (c:Int)=0:=by omega
  have HF:Hid (c=bc/\y=x\/Err d d1 L c):=Lib.hid (.inr (HE1.out.resolve_left hc));have hc'':((c:Int) != 0)=true:=by simp;exact hc
  have HX2:Hid (((w1.setCell ⟨kb,0,none⟩ (.int .i64 (c:Int))).alloc (.cells #[.int .u32 (y.t.toNat:Int), .int .u32 (y.h.toNat:Int), .int .u64 (y.x.toNat:Int), .int .u32 (y.m.toNat:Int)] 64)).heap[w1.heap.size]? = some (.cells #[.int .u32 (y.t.toNat:Int), .int .u32 (y.h.toNat:Int), .int .u64 (y.x.toNat:Int), .int .u32 (y.m.toNat:Int)] 64)):=Lib.hid (by
   have:=heap_alloc_new (w1.setCell ⟨kb,0,none⟩ (.int .i64 (c:Int))) (.cells #[.int .u32 (y.t.toNat:Int), .int .u32 (y.h.toNat:Int), .int .u64 (y.x.toNat:Int), .int .u32 (y.m.toNat:Int)] 64);rw [World.size_setCell] at this;exact this)
  have HMB:=Lib.hid (((HM1.out.mono (S':=(·=kb)) (fun _ _ h=>h.elim)).setCell ⟨kb,0,none⟩ (.int .i64 (c:Int)) HO1.out.okb (.inl rfl)).alloc (.cells #[.int .u32 (y.t.toNat:Int), .int .u32 (y.h.toNat:Int), .int .u64 (y.x.toNat:Int), .int .u32 (y.m.toNat:Int)] 64));have HOB:=Lib.hid ((HO1.out.set c).below ((Below.refl _ _).alloc (Nat.le_refl _) (.cells #[.int .u32 (y.t.toNat:Int), .int .u32 (y.h.toNat:Int), .int .u64 (y.x.toNat:Int), .int .u32 (y.m.toNat:Int)] 64)));have HS2:=Lib.hid (HSEL.out _ _ HMB.out HOB.out HF.out);clear HX1 HB1 HOA HMA;go_wp2;generalize (w1.setCell ⟨kb,0,none⟩ (.int .i64 (c:Int))).alloc (.cells #[.int .u32 (y.t.toNat:Int), .int .u32 (y.h.toNat:Int), .int .u64 (y.x.toNat:Int), .int .u32 (y.m.toNat:Int)] 64)=W at *;have q0:W.cell? ⟨w1.heap.size,0,none⟩=some (.int .u32 (y.t.toNat:Int)):=by rw [cells_cell HX2.out];rfl
  have q1:W.cell? ⟨w1.heap.size,1,none⟩=some (.int .u32 (y.h.toNat:Int)):=by rw [cells_cell HX2.out];rfl
  have q2:W.cell? ⟨w1.heap.size,2,none⟩=some (.int .u64 (y.x.toNat:Int)):=by rw [cells_cell HX2.out];rfl
  have q3:W.cell? ⟨w1.heap.size,3,none⟩=some (.int .u32 (y.m.toNat:Int)):=by rw [cells_cell HX2.out];rfl
  obtain ⟨-,-,k3,k4,-⟩:=(show OfMem W o1 xb kb fb vb sb b v _ from HOB.out).cells;have m9:w1.heap.size < W.heap.size:=lt_heap HX2.out;have Q0:=Lib.hid q0;have Q1:=Lib.hid q1;have Q2:=Lib.hid q2;have Q3:=Lib.hid q3;have K3:=Lib.hid k3;have K4:=Lib.hid k4;clear q0 q1 q2 q3 k3 k4;refine wq W ?_;refine qo (fun K hK=>?_) (fun w' hw'=>by have z3:=cellBelow hw' K3.out;go_simp<;>rfl);go_simp;refine hK _ ?_;clear hK K;refine qo (fun K hK=>?_) (fun w' hw'=>by have z0:=cellBelow hw' Q0.out;have z1:=cellBelow hw' Q1.out;have z2:=cellBelow hw' Q2.out;have z3:=cellBelow hw' Q3.out;go_simp<;>rfl);go_simp;refine hK _ ?_;clear hK K;refine q_call rfl (fun w' hw'=>(by go_simp;exact run_endFn b _ _)) (fun w' hw'=>((HE.out y w').mono (fun e w'' h=>⟨h.1,hw'.trans (h.2.mono hw'.size)⟩))) (fun K hK=>?_);go_simp;refine hK _ ?_;clear hK K;refine qo (fun K hK=>?_) (fun w' hw'=>by have z4:=cellBelow hw' K4.out;go_simp<;>rfl);go_simp;refine hK _ ?_;clear hK K;iterate 2 (refine qo (fun K hK=>?_);go_simp;refine hK _ ?_;clear hK K)
  refine wpQuiet_nil ?_;intro w4 hw4;have HW4:=Lib.hid hw4;clear hw4;go_wp2;go_ret;refine HS2.out _ _ HW4.out ?_;simp
def Rise (b:Bool) (es:List Edg):Prop:=∀ (i j:Nat) (x y:Edg),es[i]? = some x->es[j]? = some y->i<=j->end1 b x<=end1 b y
def Split (b:Bool) (v:Nat) (es:List Edg) (lo hi:Nat):Prop:=(∀ (j:Nat) (x:Edg),es[j]? = some x->j < lo->end1 b x < v)/\(∀ (j:Nat) (x:Edg),es[j]? = some x->hi<=j->v<=end1 b x)
theorem Split.up {b:Bool} {v:Nat} {es:List Edg} {lo hi m:Nat} {x:Edg} (h:Split b v es lo hi) (hr:Rise b es) (hm:es[m]? = some x) (hx:end1 b x < v):Split b v es (m+1) hi:=
 ⟨fun j y hy hj=>Nat.lt_of_le_of_lt (hr j m y x hy hm (by omega)) hx,h.2⟩
theorem Split.down {b:Bool} {v:Nat} {es:List Edg} {lo hi m:Nat} {x:Edg} (h:Split b v es lo hi) (hr:Rise b es) (hm:es[m]? = some x) (hx:v<=end1 b x):Split b v es lo m:=
 ⟨h.1,fun j y hy hj=>Nat.le_trans hx (hr m j x y hm hy hj)⟩
theorem Err.more {d d' d'':Dsk} {L:Logic} {c:Nat} (h:Err d d' L c) (ho:Onward d' d''):Err d d'' L c:=h.imp id (fun ⟨h1,h2⟩=>⟨h1,ho.dead h2⟩)
def SearchPost (n pb db:Nat) (w:World) (o:Owner) (d:Dsk) (L:Logic) (xb kb fb vb sb:Nat) (b:Bool) (v:Nat) (es:List Edg) (e:Ending) (w':World):Prop:=
 ∃ k c d' o',e=.returned (.int .i64 ((k:Nat):Int))/\k<=es.length/\Moved (·=kb) n pb db w o d w' o' d' L/\OfMem w' o' xb kb fb vb sb b v c/\((c=0/\Split b v es k k)\/Err d d' L c)
set_option maxRecDepth 100000 in
set_option maxHeartbeats 4000000 in
theorem search_any (HW:WriteSaid) (h:PoolAt w pb db n o d L) (hst:StreamAt w sb pb name 20) (ho:o sb=none) {es:List Edg} {fl:Bool} (hL:mget L name=some (edgeFile es fl)) (hk:sb≠kb) (hm:OfMem w o xb kb fb vb sb b v 0) (hr:Rise b es) (hN:es.length < 1000000) :
 Calls Tryz.prog 88 #[.int .i64 (es.length:Int), .func (.func 89) #[] #[.pointer (some ⟨xb,0,none⟩), .pointer (some ⟨kb,0,none⟩), .pointer (some ⟨fb,0,none⟩), .pointer (some ⟨vb,0,none⟩)]] w (SearchPost n pb db w o d L xb kb fb vb sb b v es):=by
 have htest:Hid (∀ W o' d' c (m:Nat) x,PoolAt W pb db n o' d' L->StreamAt W sb pb name 20->o' sb=none->OfMem W o' xb kb fb vb sb b v c->es[m]? = some x->Calls Tryz.prog 89 #[.int .i64 (m:Int), .pointer (some ⟨xb,0,none⟩), .pointer (some ⟨kb,0,none⟩), .pointer (some ⟨fb,0,none⟩), .pointer (some ⟨vb,0,none⟩)] W (TestPost n pb db W o' d' L xb kb fb vb sb b v c x)):=Lib.hid (fun W o' d' c m x a1 a2 a3 a4 a5=>ofTest_any HW a1 a2 a3 hL a4 a5);have H:=Lib.hid h;have HST:=Lib.hid hst;have HOS:=Lib.hid ho;have HM:=Lib.hid hm;have HR:=Lib.hid hr;have HES:Hid (∀ m,m < es.length->∃ x,es[m]? = some x):=Lib.hid (fun m hm=>⟨_,List.getElem?_eq_getElem hm⟩);have hsp:Hid (Split b v es 0 es.length):=Lib.hid ⟨fun j x _ hj=>absurd hj (Nat.not_lt_zero _),fun j x hx hj=>absurd (lt_of_get hx) (by omega)⟩;obtain ⟨N,hNe⟩:∃ N,N=es.length:=⟨_,rfl⟩;rw [<- hNe] at HES hsp hN ⊢;have HNE:=Lib.hid hNe;clear h hst ho hL hm hr hNe;go_enter Tryz.func88,Tryz.ntmps88
 go_wp2;go_loopw [5,6] (fun i j wr=>∃ (lo hi c:Nat) (d':Dsk) (o':Owner),lo<=hi/\hi<=N/\i=.int .i64 (lo:Int)/\j=.int .i64 (hi:Int)/\Moved (·=kb) n pb db w o d wr o' d' L/\OfMem wr o' xb kb fb vb sb b v c/\((c=0/\Split b v es lo hi)\/Err d d' L c)) (fun i j _=>(intOf j).toNat - (intOf i).toNat)
 case atStart=>exact ⟨0,N,0,d,o,Nat.zero_le _,Nat.le_refl _,rfl,rfl,Moved.refl _ H.out,HM.out, .inl ⟨rfl,hsp.out⟩⟩
 case round=>
  obtain ⟨lo,hi,c,d1,o1,hlh,hhN,rfl,rfl,hm1,hof1,hs1⟩:=hrel;have HM1:=Lib.hid hm1;have HO1:=Lib.hid hof1;have HS1:=Lib.hid hs1;clear hm1 hof1 hs1;by_cases hlt:lo < hi
  ·obtain ⟨m,hme⟩:∃ m,m=(lo+hi) / 2:=⟨_,rfl⟩;have hm1:lo<=m:=by omega
   have hm2:m < hi:=by omega
   have hmi:((lo:Int)+(hi:Int)) / 2=(m:Int):=by omega
   clear hme;obtain ⟨x,hx⟩:=HES.out m (by omega);have hca:=Lib.hid (htest.out wr o1 d1 c m _ HM1.out.pool (HST.out.moved HM1.out HOS.out hk) (HM1.out.free HST.out.lt HOS.out) HO1.out hx);have HX:=Lib.hid hx;clear hx;go_wp2_with fail
   clear hmi;refine hca.out.mono ?_;rintro e w2 ⟨r,c2,d2,o2,rfl,hm3,hof3,hs3⟩;have HM3:Hid (Moved (·=kb) n pb db w o d w2 o2 d2 L):=Lib.hid (HM1.out.trans hm3 (fun _ _ h=>h));have HO3:=Lib.hid hof3;have HS3:Hid ((c2=0/\(r=true->Split b v es lo m)/\(r=false->Split b v es (m+1) hi))\/Err d d2 L c2):=Lib.hid (by
    rcases hs3 with ⟨h1,h2⟩ | h2
    ·rcases HS1.out with ⟨h3,h4⟩ | h4
     ·refine .inl ⟨h1.trans h3,fun hr=>?_,fun hr=>?_⟩
      ·rw [hr] at h2;exact h4.down HR.out HX.out (of_decide_eq_true h2.symm)
      ·rw [hr] at h2;exact h4.up HR.out HX.out (Nat.lt_of_not_le (of_decide_eq_false h2.symm))
     ·rw [h1];exact .inr (h4.more hm3.on)
    ·exact .inr (h2.later HM1.out.on.quota))
   clear hm3 hof3 hs3 hca;cases r with
   | false=>
     have HS4:Hid (c2=0/\Split b v es (m+1) hi\/Err d d2 L c2):=Lib.hid (HS3.out.imp (fun h=>⟨h.1,h.2.2 rfl⟩) id);clear HS3;go_wp2;go_roundw
     case rel=>exact ⟨m+1,hi,c2,d2,o2,by omega,hhN,by go_num,rfl,HM3.out,HO3.out,HS4.out⟩
     case measure=>simp [intOf];omega
   | true=>
     have HS4:Hid (c2=0/\Split b v es lo m\/Err d d2 L c2):=Lib.hid (HS3.out.imp (fun h=>⟨h.1,h.2.1 rfl⟩) id);clear HS3;go_wp2;go_roundw
     case rel=>exact ⟨lo,m,c2,d2,o2,by omega,by omega,rfl,rfl,HM3.out,HO3.out,HS4.out⟩
     case measure=>simp [intOf];omega
  ·obtain rfl:lo=hi:=by omega
   go_wp2;go_ret;exact ⟨lo,c,d1,o1,rfl,by rw [<- HNE.out];exact hhN,HM1.out,HO1.out,HS1.out⟩
end
end
section
open Go.RowKit Go.Maps Go.MapKept
section
variable {w w':World} {pb db n sb gb gen N ob ib vb' v:Nat} {b:Bool} {name:Name} {o o':Owner} {d d':Dsk} {L L':Logic}
def ofL (b:Bool) (v:Nat) (es:List Edg):List Edg:=es.filter fun x=>end1 b x=v
theorem ofL_parts {es:List Edg} {k j:Nat} (hr:Rise b es) (hs:Split b v es k k) (hm:∀ x∈(es.drop k).take j,end1 b x=v) (hl:∀ x,es[k+j]? = some x->end1 b x≠v):(es.drop k).take j=ofL b v es:=by
 unfold ofL;have e:es=es.take k++((es.drop k).take j++(es.drop k).drop j):=by rw [List.take_append_drop,List.take_append_drop]
 conv=>rhs;rw [e]
 rw [List.filter_append,List.filter_append];have h1:(es.take k).filter (fun x=>decide (end1 b x=v))=[]:=by
  rw [List.filter_eq_nil_iff];intro x hx;obtain ⟨i,hi⟩:=List.mem_iff_getElem?.1 hx;have hik:i < k:=by have:=lt_of_get hi;rw [List.length_take] at this;omega
  rw [List.getElem?_take,if_pos hik] at hi;have:=hs.1 i x hi hik;simp;omega
 have h2:((es.drop k).take j).filter (fun x=>decide (end1 b x=v))=(es.drop k).take j:=by
  rw [List.filter_eq_self];intro x hx;simpa using hm x hx
 have h3:((es.drop k).drop j).filter (fun x=>decide (end1 b x=v))=[]:=by
  rw [List.filter_eq_nil_iff];intro x hx;obtain ⟨i,hi⟩:=List.mem_iff_getElem?.1 hx;rw [List.drop_drop,List.getElem?_drop] at hi;have hlt:=lt_of_get hi;have hy:es[k+j]? = some es[k+j]:=List.getElem?_eq_getElem (by omega);have h4:=hl _ hy;have h5:=hs.2 _ _ hy (by omega);have h6:=hr _ _ _ _ hy hi (by omega);simp;omega
 rw [h1,h2,h3];simp
def OfPost (n pb db:Nat) (w:World) (o:Owner) (d:Dsk) (L:Logic) (ts:List Edg) (e:Ending) (w':World):Prop:=
 ∃ v c d' o',e=.returned (.tuple #[v, .int .i64 ((c:Nat):Int)])/\Moved (fun _=>False) n pb db w o d w' o' d' L/\(c=0\/Err d d' L c)/\(c=0->ownsEdges w' w.heap.size v ts/\∀ x,v.ownBlock=some x->o' x=none)/\(c≠0->v=.slice none 0 0)
theorem three_boxes (w:World) (x y z:Value) (t1 t2 t3:TypeId) :
 Below w.heap.size w (((w.alloc (.cells #[x] t1)).alloc (.cells #[y] t2)).alloc (.cells #[z] t3))/\(((w.alloc (.cells #[x] t1)).alloc (.cells #[y] t2)).alloc (.cells #[z] t3)).heap[w.heap.size]? = some (.cells #[x] t1)/\(((w.alloc (.cells #[x] t1)).alloc (.cells #[y] t2)).alloc (.cells #[z] t3)).heap[w.heap.size+1]? = some (.cells #[y] t2)/\(((w.alloc (.cells #[x] t1)).alloc (.cells #[y] t2)).alloc (.cells #[z] t3)).heap[w.heap.size+2]? = some (.cells #[z] t3):=by
 have a1:=heap_alloc_new w (.cells #[x] t1);have a2:=heap_alloc_new (w.alloc (.cells #[x] t1)) (.cells #[y] t2);have a3:=heap_alloc_new ((w.alloc (.cells #[x] t1)).alloc (.cells #[y] t2)) (.cells #[z] t3);simp only [World.size_alloc,Nat.add_assoc] at a2 a3;refine ⟨(((Below.refl _ _).alloc (Nat.le_refl _) _).alloc (by simp) _).alloc (by simp;omega) _,?_,?_,a3⟩
 ·rw [(MapKept.heap_alloc _ _).2 _ (by simp;omega),(MapKept.heap_alloc _ _).2 _ (by simp)];exact a1
 ·rw [(MapKept.heap_alloc _ _).2 _ (by simp)];exact a2
theorem OfMem.kept {xb kb fb vb bc:Nat} (h:OfMem w o xb kb fb vb sb b v bc) (e:∀ x,x=xb\/x=kb\/x=fb\/x=vb->w'.heap[x]? = w.heap[x]?):OfMem w' o xb kb fb vb sb b v bc:=by
 obtain ⟨t1,h1⟩:=h.xs;obtain ⟨t2,h2⟩:=h.bad;obtain ⟨t3,h3⟩:=h.fn;obtain ⟨t4,h4⟩:=h.vtx;exact ⟨⟨t1,(e xb (.inl rfl)).trans h1⟩,⟨t2,(e kb (.inr (.inl rfl))).trans h2⟩,⟨t3,(e fb (.inr (.inr (.inl rfl)))).trans h3⟩,⟨t4,(e vb (.inr (.inr (.inr rfl)))).trans h4⟩,h.oxb,h.okb,h.ofb,h.ovb,h.xk,h.fk,h.vk⟩
set_option maxRecDepth 100000 in
set_option maxHeartbeats 8000000 in
theorem of_any (HW:WriteSaid) (h:PoolAt w pb db n o d L) (hst:StreamAt w sb pb name 20) (ho:o sb=none) {x1 x2 x3:Value} (hg:GraphRaw w gb x1 x2 x3 (.int .i64 (N:Int))) {es:List Edg} {fl:Bool} (hL:mget L name=some (edgeFile es fl)) (hr:Rise b es) (hN:es.length < 65536) (hv:v < N) (hv':v < 4294967296) :
 Calls Tryz.prog 54 #[ptrTo gb,ptrTo sb, .int .u32 (v:Int), .func (.func (endFn b)) #[] #[]] w (OfPost n pb db w o d L (ofL b v es)):=by
 have hlen:Hid (∀ W,Below w.heap.size w W->Calls Tryz.prog 59 #[ptrTo sb] W (Stays n pb db W o d L (numIs es.length))):=Lib.hid (fun W hW=>by
  have:=streamLen_any HW (h.below hW) (hst.below hW) ho (by decide) (by decide) hL (sized_edges es);rw [List.length_map] at this;exact this)
 have hsearch:Hid (∀ W o' d' xb kb fb vb,PoolAt W pb db n o' d' L->StreamAt W sb pb name 20->o' sb=none->sb≠kb->OfMem W o' xb kb fb vb sb b v 0->Calls Tryz.prog 88 #[.int .i64 (es.length:Int), .func (.func 89) #[] #[.pointer (some ⟨xb,0,none⟩), .pointer (some ⟨kb,0,none⟩), .pointer (some ⟨fb,0,none⟩), .pointer (some ⟨vb,0,none⟩)]] W (SearchPost n pb db W o' d' L xb kb fb vb sb b v es)):=Lib.hid (fun W o' d' xb kb fb vb a1 a2 a3 a4 a5=>search_any HW a1 a2 a3 hL a4 a5 hr (by omega));have hread:Hid (∀ W o' d' (i:Nat) x,PoolAt W pb db n o' d' L->StreamAt W sb pb name 20->o' sb=none->es[i]? = some x->Calls Tryz.prog 60 #[ptrTo sb, .int .i64 (i:Int)] W (ReadEPost n pb db W o' d' L x)):=Lib.hid (fun W o' d' i x a1 a2 a3 a4=>storeRead_in HW a1 a2 a3 hL a4);have HE:Hid (∀ (y:Edg) (W:World),Calls Tryz.prog (endFn b) #[.agg #[.int .u32 (y.t.toNat:Int), .int .u32 (y.h.toNat:Int), .int .u64 (y.x.toNat:Int), .int .u32 (y.m.toNat:Int)]] W fun e w'=>e=.returned (.int .u32 (end1 b y:Int))/\Below W.heap.size W w'):=Lib.hid (fun y W=>end_any b y W);have hparts:=Lib.hid (fun k j hs hm hl=>ofL_parts (b:=b) (v:=v) (es:=es) (k:=k) (j:=j) hr hs hm hl);obtain ⟨-,-,-,g3,-⟩:=hg.cells;have hgl:=hg.lt;have hsl:=hst.lt;have H:=Lib.hid h;have HST:=Lib.hid hst;have HOS:=Lib.hid ho;have hge:¬ ((v:Int) >= (N:Int)):=by omega
 have hge2:¬ ((N:Int)<=(v:Int)):=by omega
 generalize ofL b v es=ts at *;have HT:=Lib.hid (three_boxes w (ptrTo sb) (.int .u32 (v:Int)) (.func (.func (endFn b)) #[] #[]) 119 26 123);clear h hst ho hg hL hr;unfold ptrTo at *;go_enter Tryz.func54,Tryz.ntmps54
 go_wp2_with fail
 obtain ⟨b1,b2,b3,b4⟩:=HT.out;have HB1:=Lib.hid b1;have HX1:=Lib.hid b2;have HX2:=Lib.hid b3;have HX3:=Lib.hid b4;clear b1 b2 b3 b4 HT;unfold ptrTo at *;generalize ((w.alloc (.cells #[.pointer (some ⟨sb,0,none⟩)] 119)).alloc (.cells #[.int .u32 (v:Int)] 26)).alloc (.cells #[.func (.func (endFn b)) #[] #[]] 123)=W1 at *;have HVB:Hid (w.heap.size+1 < W1.heap.size/\w.heap.size+2 < W1.heap.size/\w.heap.size < W1.heap.size):=Lib.hid ⟨lt_heap HX2.out,lt_heap HX3.out,lt_heap HX1.out⟩;have HGE:Hid (w.heap.size<=w.heap.size+1/\w.heap.size<=w.heap.size+2):=Lib.hid ⟨by omega,by omega⟩;rw [show w.heap.size+1+1=w.heap.size+2 from rfl];generalize w.heap.size+2=fb at *;generalize w.heap.size+1=vb at *;have K2:Hid (W1.cell? ⟨vb,0,none⟩=some (.int .u32 (v:Int))):=Lib.hid (by rw [cells_cell HX2.out];rfl);have K4:Hid (W1.cell? ⟨gb,3,none⟩=some (.int .i64 (N:Int))):=Lib.hid (by rw [HB1.out.cell hgl];exact g3);have hwv:IntKind.i64.wrap (v:Int)=(v:Int):=by rw [wrap_in]<;>omega
 clear g3;refine wq W1 ?_;refine qo (fun K hK=>?_) (fun w' hw'=>by have z:=cellBelow hw' K2.out;go_simp<;>rfl);go_simp;refine hK _ ?_;clear hK K;iterate 4 (refine qo (fun K hK=>?_);go_simp;refine hK _ ?_;clear hK K)
 refine qo (fun K hK=>?_) (fun w' hw'=>by have z:=cellBelow hw' K4.out;go_simp<;>rfl);go_simp;refine hK _ ?_;clear hK K;refine qo (fun K hK=>?_);go_simp;refine hK _ ?_;clear hK K;refine wpQuiet_nil ?_;intro W2 hw2;have HB2:=Lib.hid (HB1.out.trans (hw2.mono HB1.out.size));have HY1:Hid (W2.heap[w.heap.size]? = _):=Lib.hid ((hw2.block _ HVB.out.2.2).trans HX1.out);have HY2:Hid (W2.heap[vb]? = _):=Lib.hid ((hw2.block _ HVB.out.1).trans HX2.out);have HY3:Hid (W2.heap[fb]? = _):=Lib.hid ((hw2.block _ HVB.out.2.1).trans HX3.out);have k1:W2.cell? ⟨w.heap.size,0,none⟩=some (.pointer (some ⟨sb,0,none⟩)):=by rw [cells_cell HY1.out];rfl
 clear hw2 HX1 HX2 HX3 HB1 HVB K2 K4 W1;go_wp2_with fail
 refine (hlen.out W2 HB2.out).mono ?_;rintro e w3 ⟨c3,d3,o3,⟨x3',rfl,hx3⟩,hm3,he3⟩;have HM3:Hid (Moved (fun _=>False) n pb db w o d w3 o3 d3 L):=Lib.hid ((Moved.ofBelow H.out HB2.out).trans hm3 (fun _ _ h=>h));have HFR:Hid (∀ x,w.heap.size<=x->o x=none):=Lib.hid (fun x hx=>H.out.fresh hx);have HST3:Hid (StreamAt w3 sb pb name 20):=Lib.hid (HST.out.moved HM3.out HOS.out (fun h=>h));have HOS3:Hid (o3 sb=none):=Lib.hid (HM3.out.free hsl HOS.out);have HOF3:Hid (∀ kb (w4:World),w3.heap.size<=kb->Below w3.heap.size w3 w4->(∃ t,w4.heap[kb]? = some (.cells #[.int .i64 0] t))->OfMem w4 o3 w.heap.size kb fb vb sb b v 0):=Lib.hid (fun kb w4 hkb hb4 hc=>by
  have q1:=hm3.heap HY1.out (HFR.out _ (Nat.le_refl _)) (fun h=>h);have q2:=hm3.heap HY2.out (HFR.out _ HGE.out.1) (fun h=>h);have q3:=hm3.heap HY3.out (HFR.out _ HGE.out.2) (fun h=>h);exact ⟨⟨_,(hb4.block _ (lt_heap q1)).trans q1⟩,hc,⟨_,(hb4.block _ (lt_heap q3)).trans q3⟩,⟨_,(hb4.block _ (lt_heap q2)).trans q2⟩,hm3.free (lt_heap HY1.out) (HFR.out _ (Nat.le_refl _)),hm3.pool.fresh hkb,hm3.free (lt_heap HY3.out) (HFR.out _ HGE.out.2),hm3.free (lt_heap HY2.out) (HFR.out _ HGE.out.1),fun e=>by have:=lt_heap q1;omega,fun e=>by have:=lt_heap q3;omega,fun e=>by have:=lt_heap q2;omega⟩)
 have HE3:=Lib.hid he3;have HX3:=Lib.hid hx3;clear hm3 he3 hx3 HY1 HY2 HY3 k1 HB2 W2;by_cases hc3:c3=0
 ·subst hc3;obtain rfl:=HX3.out rfl;clear HX3 HE3;have HB4:Hid (Below w3.heap.size w3 (w3.alloc (.cells #[.int .i64 0] 51))):=Lib.hid ((Below.refl _ _).alloc (Nat.le_refl _) _);have HO4:=Lib.hid (HOF3.out w3.heap.size _ (Nat.le_refl _) HB4.out ⟨_,heap_alloc_new w3 _⟩);have HM4:=Lib.hid (HM3.out.below HB4.out);have HST4:=Lib.hid (HST3.out.below HB4.out);have hsl3:=HST3.out.lt;clear HOF3;have hcs:=Lib.hid (hsearch.out _ o3 d3 w.heap.size w3.heap.size fb vb HM4.out.pool HST4.out HOS3.out (by omega) HO4.out);clear hsl3;go_wp2_with fail
  refine hcs.out.mono ?_;rintro e w5 ⟨k5,c5,d5,o5,rfl,hk5,hm5,hof5,hs5⟩;have hw34:w.heap.size<=w3.heap.size:=HM3.out.size;have HM5:Hid (Moved (fun _=>False) n pb db w o d w5 o5 d5 L):=Lib.hid (HM4.out.trans hm5 (fun x hx e=>by omega));have HST5:Hid (StreamAt w5 sb pb name 20):=Lib.hid (HST.out.moved HM5.out HOS.out (fun h=>h));have HOS5:Hid (o5 sb=none):=Lib.hid (HM5.out.free hsl HOS.out);have HO5:=Lib.hid hof5;have hk3:=hof5.cells.2.1;have HS5:Hid (c5=0/\Split b v es k5 k5\/Err d d5 L c5):=Lib.hid (hs5.imp id (fun h=>h.later HM4.out.on.quota));clear hm5 hof5 hs5 hcs HO4 HM4 HST4 HB4 HM3 HST3 HOS3;generalize w3.heap.size=kb at *;by_cases hc5:c5=0
  ·subst hc5;have HSP:Hid (Split b v es k5 k5):=Lib.hid (HS5.out.elim (fun h=>h.2) (fun h=>absurd rfl h.ne));clear HS5;obtain ⟨M,hM⟩:∃ M,M=es.length:=⟨_,rfl⟩;have HES:Hid (∀ m,m < M->∃ x,es[m]? = some x):=Lib.hid (fun m hm=>⟨_,List.getElem?_eq_getElem (by omega)⟩);rw [<- hM] at hk5 hN ⊢;have HME:=Lib.hid hM;clear hM;have hk3':w5.cell? ⟨kb,0,none⟩=some (.int .i64 0):=hk3;clear hk3;go_wp2;go_loopw [13,14] (fun i l wr=>∃ (j:Nat) (d':Dsk) (o':Owner),k5+j<=M/\i=.int .i64 ((k5+j:Nat):Int)/\Moved (fun _=>False) n pb db w o d wr o' d' L/\w5.heap.size<=wr.heap.size/\OfMem wr o' w.heap.size kb fb vb sb b v 0/\ownsEdges wr w5.heap.size l ((es.drop k5).take j)/\(∀ x,l.ownBlock=some x->o' x=none)/\(∀ x∈(es.drop k5).take j,end1 b x=v)) (fun i _ _=>M - (intOf i).toNat)
   case atStart=>exact ⟨0,d5,o5,hk5,rfl,HM5.out,Nat.le_refl _,HO5.out,World.ownsRow_nil _ _ _ 4,(fun x hx=>by cases hx),by simp⟩
   case round=>
    obtain ⟨j,d6,o6,hj,rfl,hm6,hz6,hof6,hl6,hlf6,hal6⟩:=hrel;have HM6:=Lib.hid hm6;have HO6:=Lib.hid hof6;have HL6:=Lib.hid hl6;have HLF6:=Lib.hid hlf6;have HAL6:=Lib.hid hal6;have HZ6:=Lib.hid hz6;obtain ⟨la,lc,rfl⟩:=ownsRow_slice hl6;have hjl:((es.drop k5).take j).length=j:=by rw [List.length_take,List.length_drop,<- HME.out];omega
    rw [hjl] at HL6 HLF6;simp only [hjl];have HJL:=Lib.hid hjl;have k1:=hof6.cells.1;unfold ptrTo at k1;clear hm6 hof6 hl6 hlf6 hal6 hjl hz6;by_cases hlt:k5+j < M
    ·obtain ⟨x,hx⟩:=HES.out _ hlt;have hrd:=Lib.hid (hread.out wr o6 d6 (k5+j) x HM6.out.pool (HST.out.moved HM6.out HOS.out (fun h=>h)) (HM6.out.free hsl HOS.out) hx);have HX:=Lib.hid hx;clear hx;go_wp2_with fail
     refine hrd.out.mono ?_;rintro e w7 ⟨c7,d7,o7,y,rfl,hm7,he7,hy7⟩;have HM7:Hid (Moved (fun _=>False) n pb db w o d w7 o7 d7 L):=Lib.hid (HM6.out.trans hm7 (fun _ _ h=>h));have HZ7:Hid (w5.heap.size<=w7.heap.size):=Lib.hid (Nat.le_trans HZ6.out hm7.size);have HO7:=Lib.hid (HO6.out.moved hm7);have HL7:Hid (ownsEdges w7 w5.heap.size (.slice la j lc) ((es.drop k5).take j)):=Lib.hid (hm7.ownsRow HL6.out (fun b hb=>⟨HLF6.out b hb,fun h=>h⟩));have HLF7:Hid (∀ x,(Value.slice la j lc).ownBlock=some x->o7 x=none):=Lib.hid (fun x hx=>hm7.free (ownBlock_old HL6.out x hx).1 (HLF6.out x hx));have HE7:=Lib.hid he7;have HY7:=Lib.hid hy7;clear hm7 he7 hy7 hrd k1;have HBA:Hid (Below w7.heap.size w7 (w7.alloc (.cells #[.int .u32 (y.t.toNat:Int), .int .u32 (y.h.toNat:Int), .int .u64 (y.x.toNat:Int), .int .u32 (y.m.toNat:Int)] 64))):=Lib.hid ((Below.refl _ _).alloc (Nat.le_refl _) _);by_cases hc7:c7=0
     ·subst hc7;obtain rfl:=HY7.out rfl;clear HY7 HE7;have HXA:Hid ((w7.alloc (.cells #[.int .u32 (y.t.toNat:Int), .int .u32 (y.h.toNat:Int), .int .u64 (y.x.toNat:Int), .int .u32 (y.m.toNat:Int)] 64)).heap[w7.heap.size]? = some (.cells #[.int .u32 (y.t.toNat:Int), .int .u32 (y.h.toNat:Int), .int .u64 (y.x.toNat:Int), .int .u32 (y.m.toNat:Int)] 64)):=Lib.hid (heap_alloc_new w7 _);have HMA:=Lib.hid (HM7.out.below HBA.out);have HOA:=Lib.hid (HO7.out.below HBA.out);have HLA:Hid (ownsEdges (w7.alloc (.cells #[.int .u32 (y.t.toNat:Int), .int .u32 (y.h.toNat:Int), .int .u64 (y.x.toNat:Int), .int .u32 (y.m.toNat:Int)] 64)) w5.heap.size (.slice la j lc) ((es.drop k5).take j)):=Lib.hid (World.ownsRow.alloc HL7.out _);have HZA:Hid (w5.heap.size<=(w7.alloc (.cells #[.int .u32 (y.t.toNat:Int), .int .u32 (y.h.toNat:Int), .int .u64 (y.x.toNat:Int), .int .u32 (y.m.toNat:Int)] 64)).heap.size):=Lib.hid (Nat.le_trans HZ7.out HBA.out.size);go_wp2;generalize w7.alloc (.cells #[.int .u32 (y.t.toNat:Int), .int .u32 (y.h.toNat:Int), .int .u64 (y.x.toNat:Int), .int .u32 (y.m.toNat:Int)] 64)=W at *;generalize w7.heap.size=ab at *;have Q0:Hid (W.cell? ⟨ab,0,none⟩=some (.int .u32 (y.t.toNat:Int))):=Lib.hid (by rw [cells_cell HXA.out];rfl);have Q1:Hid (W.cell? ⟨ab,1,none⟩=some (.int .u32 (y.h.toNat:Int))):=Lib.hid (by rw [cells_cell HXA.out];rfl);have Q2:Hid (W.cell? ⟨ab,2,none⟩=some (.int .u64 (y.x.toNat:Int))):=Lib.hid (by rw [cells_cell HXA.out];rfl);have Q3:Hid (W.cell? ⟨ab,3,none⟩=some (.int .u32 (y.m.toNat:Int))):=Lib.hid (by rw [cells_cell HXA.out];rfl);have K3:=Lib.hid HOA.out.cells.2.2.1;have K4:=Lib.hid HOA.out.cells.2.2.2.1;refine wq W ?_;refine qo (fun K hK=>?_) (fun w' hw'=>by have z3:=cellBelow hw' K3.out;go_simp<;>rfl);go_simp;refine hK _ ?_;clear hK K;refine qo (fun K hK=>?_) (fun w' hw'=>by have z0:=cellBelow hw' Q0.out;have z1:=cellBelow hw' Q1.out;have z2:=cellBelow hw' Q2.out;have z3:=cellBelow hw' Q3.out;go_simp<;>rfl);go_simp;refine hK _ ?_;clear hK K;refine q_call rfl (fun w' hw'=>(by go_simp;exact run_endFn b _ _)) (fun w' hw'=>((HE.out y w').mono (fun e w'' h=>⟨h.1,hw'.trans (h.2.mono hw'.size)⟩))) (fun K hK=>?_);go_simp;refine hK _ ?_;clear hK K;refine qo (fun K hK=>?_) (fun w' hw'=>by have z4:=cellBelow hw' K4.out;go_simp<;>rfl);go_simp;refine hK _ ?_;clear hK K;refine qo (fun K hK=>?_);go_simp;refine hK _ ?_;clear hK K;refine wpQuiet_nil ?_;intro W8 hw8;have HM8:=Lib.hid (HMA.out.below hw8);have HO8:=Lib.hid (HOA.out.below hw8);have HL8:Hid (ownsEdges W8 w5.heap.size (.slice la j lc) ((es.drop k5).take j)):=Lib.hid ((Moved.ofBelow HMA.out.pool hw8 (S:=fun _=>False)).ownsRow HLA.out (fun b hb=>⟨HLF7.out b hb,fun h=>h⟩));have HZ8:Hid (w5.heap.size<=W8.heap.size):=Lib.hid (Nat.le_trans HZA.out hw8.size);have z0:=cellBelow hw8 Q0.out;have z1:=cellBelow hw8 Q1.out;have z2:=cellBelow hw8 Q2.out;have z3:=cellBelow hw8 Q3.out;clear hw8 HMA HOA HLA HZA HXA HBA K3 K4 Q0 Q1 Q2 Q3 HM7 HO7 HL7 HZ7 W;by_cases hev:end1 b y=v
      ·have hkl:((es.drop k5).take j).length<=100000:=by rw [HJL.out];omega
       have HTK:Hid ((es.drop k5).take (j+1)=(es.drop k5).take j++[y]):=Lib.hid (by
        rw [List.take_add_one,List.getElem?_drop,HX.out];rfl)
       have hz8:=HZ8.out;have hev':(end1 b y:Int)=(v:Int):=by omega
       have HEV:=Lib.hid hev;clear hev;go_wp2_with (at_builtin;refine wpList_append_edge rfl _ _ rfl w5.heap.size _ _ rfl HL8.out y 1 rfl hkl hz8 ?_)
       intro l4 w4 hl4 ha4;obtain ⟨hm4,hlf4,hh4,hz4⟩:=ha4.moved HM8.out (fun x hx=>⟨HLF7.out x hx,Nat.le_trans HM5.out.size (ownsRow_block HL8.out x hx)⟩);have HM9:=Lib.hid hm4;have HO9:Hid (OfMem w4 o7 w.heap.size kb fb vb sb b v 0):=Lib.hid (HO8.out.kept (fun x hx=>by
        have hx5:x < w5.heap.size:=by
         obtain ⟨g1,g2,g3,g4⟩:=HO5.out.lts;rcases hx with h | h | h | h<;>omega
        exact hh4 x (by omega) (fun e=>by have:=ownsRow_block HL8.out x e;omega)))
       have HZ9:Hid (w5.heap.size<=w4.heap.size):=Lib.hid (Nat.le_trans hz8 hz4);rw [<- HTK.out] at hl4;have HL9:=Lib.hid hl4;have HLF9:=Lib.hid hlf4;clear hm4 hlf4 hh4 hz4 ha4 hl4 z0 z1 z2 z3 hz8;go_wp2;go_roundw
       case rel=>exact ⟨j+1,d7,o7,by omega,by go_num,HM9.out,HZ9.out,HO9.out,HL9.out,fun x hx=>(HLF9.out x hx).1,by rw [HTK.out];intro x hx;rcases List.mem_append.1 hx with h | h;exact HAL6.out x h;rw [List.mem_singleton.1 h];exact HEV.out⟩
       case measure=>simp [intOf];omega
      ·have hev':¬ (end1 b y:Int)=(v:Int):=by omega
       have hfin:(es.drop k5).take j=ts:=hparts.out k5 j HSP.out HAL6.out (fun x hx=>by rw [HX.out] at hx;cases hx;exact hev);have HF:=Lib.hid hfin;clear hfin hev;go_wp2;go_ret2
       exact ⟨_,0,d7,o7,rfl,HM8.out, .inl rfl,fun _=>⟨HF.out ▸ ownsRow_base HL8.out HM5.out.size,HLF7.out⟩,fun h=>absurd rfl h⟩
     ·have hc7':¬ (c7:Int)=0:=by omega
      have HC7:=Lib.hid hc7;have HE7':=Lib.hid ((HE7.out.resolve_left hc7).later HM6.out.on.quota);have HMA:=Lib.hid (HM7.out.below HBA.out);clear hc7;go_wp2;go_ret2
      exact ⟨_,c7,d7,o7,rfl,HMA.out, .inr HE7'.out,fun h=>absurd h HC7.out,fun _=>rfl⟩
    ·go_wp2;go_ret2
     have hjM:k5+j=M:=by omega
     have hfin:(es.drop k5).take j=ts:=hparts.out k5 j HSP.out HAL6.out (fun x hx=>by have:=lt_of_get hx;rw [<- HME.out] at this;omega);exact ⟨_,0,d6,o6,rfl,HM6.out, .inl rfl,fun _=>⟨hfin ▸ ownsRow_base HL6.out HM5.out.size,HLF6.out⟩,fun h=>absurd rfl h⟩
  ·have hc5':¬ (c5:Int)=0:=by omega
   have HE5:Hid (Err d d5 L c5):=Lib.hid (HS5.out.elim (fun h=>absurd h.1 hc5) id);have HC5:=Lib.hid hc5;clear hc5 HS5;go_wp2;go_quiet (fail)
   go_wp2;go_ret2
   exact ⟨_,c5,d5,o5,rfl,HM5.out.below (below_drewN (Below.refl _ _) _), .inr HE5.out,fun h=>absurd h HC5.out,fun _=>rfl⟩
 ·have hc3':¬ (c3:Int)=0:=by omega
  have HC3:=Lib.hid hc3;clear hc3;go_wp2;go_ret2
  exact ⟨_,c3,d3,o3,rfl,HM3.out,HE3.out,fun h=>absurd h HC3.out,fun _=>rfl⟩
end
end
section
open Go.RowKit Go.Maps Go.MapKept
section
variable {w w':World} {pb db n sb gb gen N ob ib vb v:Nat} {b:Bool} {name:Name} {o o':Owner} {d d':Dsk} {L L':Logic}
set_option maxRecDepth 100000 in
set_option maxHeartbeats 2000000 in
theorem graphOut_in (HW:WriteSaid) (h:PoolAt w pb db n o d L) (hg:GraphAt w o gb pb gen N ob ib vb) {es:List Edg} {fl:Bool} (hL:mget L (sName 101 gen)=some (edgeFile es fl)) (hr:Rise false es) (hN:es.length < 65536) (hv:v < N) (hv':v < 4294967296) :
 Calls Tryz.prog 21 #[ptrTo gb, .int .u32 (v:Int)] w (OfPost n pb db w o d L (ofL false v es)):=by
 have hof:=Lib.hid (of_any HW h hg.out hg.oob hg.raw hL hr hN hv hv');obtain ⟨g0,-,-,-,-⟩:=hg.raw.cells;clear h hg hL hr hN hv hv';unfold ptrTo endFn at *;go_enter Tryz.func21,Tryz.ntmps21
 go_wp2_with fail
 refine hof.out.mono ?_;rintro e w1 ⟨v1,c1,d1,o1,rfl,hm1,he1,hx1,hy1⟩;have hh:=Lib.hid (And.intro hm1 (And.intro he1 (And.intro hx1 hy1)));clear hm1 he1 hx1 hy1 hof;go_wp2;go_ret2
 exact ⟨v1,c1,d1,o1,rfl,hh.out.1,hh.out.2.1,hh.out.2.2.1,hh.out.2.2.2⟩
set_option maxRecDepth 100000 in
set_option maxHeartbeats 2000000 in
theorem graphIn_in (HW:WriteSaid) (h:PoolAt w pb db n o d L) (hg:GraphAt w o gb pb gen N ob ib vb) {es:List Edg} {fl:Bool} (hL:mget L (sName 114 gen)=some (edgeFile es fl)) (hr:Rise true es) (hN:es.length < 65536) (hv:v < N) (hv':v < 4294967296) :
 Calls Tryz.prog 22 #[ptrTo gb, .int .u32 (v:Int)] w (OfPost n pb db w o d L (ofL true v es)):=by
 have hof:=Lib.hid (of_any HW h hg.inn hg.oib hg.raw hL hr hN hv hv');obtain ⟨-,g1,-,-,-⟩:=hg.raw.cells;clear h hg hL hr hN hv hv';unfold ptrTo endFn at *;go_enter Tryz.func22,Tryz.ntmps22
 go_wp2_with fail
 refine hof.out.mono ?_;rintro e w1 ⟨v1,c1,d1,o1,rfl,hm1,he1,hx1,hy1⟩;have hh:=Lib.hid (And.intro hm1 (And.intro he1 (And.intro hx1 hy1)));clear hm1 he1 hx1 hy1 hof;go_wp2;go_ret2
 exact ⟨v1,c1,d1,o1,rfl,hh.out.1,hh.out.2.1,hh.out.2.2.1,hh.out.2.2.2⟩
set_option maxRecDepth 100000 in
set_option maxHeartbeats 2000000 in
theorem graphEdges_any (HW:WriteSaid) (h:PoolAt w pb db n o d L) (hg:GraphAt w o gb pb gen N ob ib vb) {es:List Edg} {fl:Bool} (hL:mget L (sName 101 gen)=some (edgeFile es fl)) :
 Calls Tryz.prog 27 #[ptrTo gb] w (Stays n pb db w o d L (numIs es.length)):=by
 have hlen:Hid (Calls Tryz.prog 59 #[ptrTo ob] w (Stays n pb db w o d L (numIs es.length))):=Lib.hid (by
  have:=streamLen_any HW h hg.out hg.oob (by decide) (by decide) hL (sized_edges es);rw [List.length_map] at this;exact this)
 obtain ⟨g0,-,-,-,-⟩:=hg.raw.cells;clear h hg hL;unfold ptrTo at *;go_enter Tryz.func27,Tryz.ntmps27
 go_wp2_with fail
 refine hlen.out.mono ?_;rintro e w1 ⟨c1,d1,o1,⟨x,rfl,hx⟩,hm1,he1⟩;have hh:=Lib.hid (And.intro hm1 (And.intro he1 hx));clear hm1 he1 hx hlen;go_wp2;go_ret2
 exact ⟨c1,d1,o1,⟨x,rfl,hh.out.2.2⟩,hh.out.1,hh.out.2.1⟩
end
end
section
open Go.RowKit
def BytesT (w:World) (base:Nat) (v:Value) (bs:List UInt8):Prop:=
 (v=.slice none 0 0/\bs=[]) \/
 ∃ g cap cur fz,v=.slice (some ⟨g,0,none⟩) bs.length cap/\base<=g/\w.heap[g]? = some (.cells cur 5 fz)/\(fz.2=0\/cur.size<=fz.1)/\bs.length<=cap/\cap<=maxLen/\cur.size=cap/\cur.toList.take bs.length=bs.map bv
theorem BytesT.nil (w:World) (base:Nat):BytesT w base (.slice none 0 0) []:=.inl ⟨rfl,rfl⟩
theorem BytesT.of {w:World} {base:Nat} {v:Value} {bs:List UInt8} (h:w.ownsRow base 5 1 v bs.length (bs.map bv)):BytesT w base v bs:=by
 obtain ⟨h0,⟨rfl,h1⟩ | ⟨g,cap,cur,rfl,h1,h2,h3,h4,h5,h6⟩⟩:=h
 ·exact .inl ⟨rfl,List.length_eq_zero_iff.1 h1⟩
 ·exact .inr ⟨g,cap,cur,(0,0),rfl,h1,h2, .inl rfl,h3,h4,by omega,by rw [Nat.mul_one] at h6;exact h6⟩
theorem BytesT.base {w:World} {base base':Nat} {v:Value} {bs:List UInt8} (h:BytesT w base v bs) (hb:base'<=base):BytesT w base' v bs:=by
 rcases h with h | ⟨g,cap,cur,fz,h1,h2,h3⟩
 ·exact .inl h
 ·exact .inr ⟨g,cap,cur,fz,h1,Nat.le_trans hb h2,h3⟩
theorem BytesT.lt {w:World} {base:Nat} {v:Value} {bs:List UInt8} (h:BytesT w base v bs):∀ k,v.ownBlock=some k->base<=k/\k < w.heap.size:=by
 intro k hk;rcases h with ⟨rfl,_⟩ | ⟨g,cap,cur,fz,rfl,h1,h2,_⟩
 ·cases hk
 ·cases hk;exact ⟨h1,(Array.getElem?_eq_some_iff.1 h2).1⟩
theorem BytesT.kept {w w':World} {base:Nat} {v:Value} {bs:List UInt8} (h:BytesT w base v bs) (hk:∀ k,v.ownBlock=some k->w'.heap[k]? = w.heap[k]?):BytesT w' base v bs:=by
 rcases h with h | ⟨g,cap,cur,fz,rfl,h1,h2,h3⟩
 ·exact .inl h
 ·exact .inr ⟨g,cap,cur,fz,rfl,h1,(hk g rfl).trans h2,h3⟩
theorem BytesT.cells {w:World} {base g cap n:Nat} {bs:List UInt8} (h:BytesT w base (.slice (some ⟨g,0,none⟩) n cap) bs) {j:Nat} (hj:j < bs.length):w.cell? ⟨g,j,none⟩=some (bv bs[j]):=by
 rcases h with ⟨h,_⟩ | ⟨g',cap',cur,fz,h,h1,h2,h3,h4,h5,h6,h7⟩
 ·cases h
 ·cases h;rw [cell_of_row w g j cur _ fz h2];have:(cur.toList.take bs.length)[j]? = (bs.map bv)[j]? := by rw [h7]
  rw [List.getElem?_take,if_pos hj,List.getElem?_map,List.getElem?_eq_getElem hj] at this;simpa using this
theorem BytesT.rd {w:World} {base:Nat} {v:Value} {bs:List UInt8} (h:BytesT w base v bs):Rd w v bs:=by
 rcases h with ⟨rfl,rfl⟩ | ⟨g,cap,cur,fz,rfl,h1,h2,h3,h4,h5,h6,h7⟩
 ·exact ⟨none,0,rfl,Nat.le_refl _,Nat.zero_le _, .inl rfl⟩
 ·refine ⟨some ⟨g,0,none⟩,cap,rfl,h4,h5, .inr ⟨g,0,rfl,fun j hj=>?_⟩⟩;rw [Nat.zero_add];exact BytesT.cells (.inr ⟨g,cap,cur,fz,rfl,h1,h2,h3,h4,h5,h6,h7⟩) hj
theorem run_append_byteT {w:World} (base ty:Nat) (v:Value) (bs:List UInt8) (h:BytesT w base v bs) (b c:Nat) (y:UInt8) (hb:w.cell? ⟨b,0,none⟩=some (bv y)) (hl:bs.length<=100000) (hbase:base<=w.heap.size) :
 ∃ v' w',(Builtin.append_ #[39,39] ty #[v, .slice (some ⟨b,0,none⟩) 1 c]).run Tryz.prog w=.ok v' w'/\BytesT w' base v' (bs++[y])/\w.grownBy w' v.ownBlock/\(v'.ownBlock=v.ownBlock\/v'.ownBlock=some w.heap.size):=by
 obtain ⟨i0,hi,hz0,hz1,hz2⟩:=info_parts info_u8;have hnews:∀ (j:Nat) (u:Value),[bv y][j]? = some u->w.cell? ((⟨b,0,none⟩:Addr).add j)=some u:=by
  intro j u hj;rw [Addr_add,Nat.zero_add];match j,hj with
  | 0,hj=>cases hj;exact hb
  | j+1,hj=>cases hj
 have hold:∀ g n cap,v=.slice (some ⟨g,0,none⟩) n cap->∀ (j:Nat) (u:Value),(bs.map bv)[j]? = some u->w.cell? ((⟨g,0,none⟩:Addr).add j)=some u:=by
  rintro g n cap rfl j u hj;rw [Addr_add,Nat.zero_add];have hjl:j < bs.length:=by have:=lt_of_get hj;rwa [List.length_map] at this
  rw [List.getElem?_map,List.getElem?_eq_getElem hjl] at hj;rw [h.cells hjl];simpa using hj
 rcases h with ⟨rfl,rfl⟩ | ⟨g,cap,cur,fz,rfl,h1,h2,h3,h4,h5,h6,h7⟩
 ·obtain ⟨v',w',r1,r2,r3,-,r5⟩:=run_append_own_at (P:=Tryz.prog) w base 39 ty 5 i0 (.int .u8 0) 1 1 Tryz.underlying39 hi hz0 hz1 hz2 rfl (by decide) (.slice none 0 0) 0 [] (World.ownsRow_nil _ _ _ _) ⟨b,0,none⟩ 1 c [bv y] rfl hnews (by simp [bv_oneCell]) (by unfold maxLen;omega) (by omega) hbase;exact ⟨v',w',r1,BytesT.of r2,r3,r5⟩
 ·have hgl:g < w.heap.size:=(Array.getElem?_eq_some_iff.1 h2).1;by_cases hroom:bs.length+1<=cap
  ·have hf:=run_firstCells_some (P:=Tryz.prog) w 1 1 ⟨b,0,none⟩ 1 c [bv y] rfl hnews;have hcell:w.cell? ⟨g,bs.length,none⟩=some cur[bs.length]:=by
    rw [cell_of_row w g bs.length cur _ fz h2];exact Array.getElem?_eq_getElem _
   have hfro:w.frozen? ⟨g,bs.length,none⟩=false:=by
    obtain ⟨lo,hi'⟩:=fz;simp only [World.frozen?,h2,Bool.and_eq_false_iff,decide_eq_false_iff_not];simp only at h3;omega
   have hst:(storeCells ⟨g,bs.length,none⟩ [bv y] 0).run Tryz.prog w=.ok () (w.setRow g (cur.setIfInBounds bs.length (bv y))):=by
    have hs:(store ⟨g,bs.length,none⟩ (bv y)).run Tryz.prog w=.ok () (w.setRow g (cur.setIfInBounds bs.length (bv y))):=by
     rw [run_store Tryz.prog w _ (bv y) _ (bv_oneCell y),hcell];simp [hfro,setCell_eq_setRow w g bs.length cur _ fz (bv y) h2]
    have hadd:(⟨g,bs.length,none⟩:Addr).add 0=⟨g,bs.length,none⟩:=by rw [Addr_add,Nat.add_zero]
    simp only [storeCells,Sem.run_bind,hadd,hs,Result.andThen_ok,Sem.run_pure]
   have hlen:(bs++[y]).length=bs.length+1:=by simp
   have hbl:bs.length < cur.toList.length:=by have:=Array.length_toList (xs:=cur);omega
   refine ⟨.slice (some ⟨g,0,none⟩) (bs.length+1) cap,w.setRow g (cur.setIfInBounds bs.length (bv y)),?_, .inr ⟨g,cap,cur.setIfInBounds bs.length (bv y),fz,by rw [hlen],h1,setRow_heap w g cur _ _ fz h2,by rw [Array.size_setIfInBounds];exact h3,by omega,h5,by rw [Array.size_setIfInBounds];exact h6,?_⟩,⟨rfl,rfl,rfl,by simp,fun k _ hk=>setRow_other w g k _ (fun e=>hk (by simp [Value.ownBlock,e]))⟩, .inl rfl⟩
   ·simp [Builtin.append_,run_underlying Tryz.underlying39,sizeOf,typeInfo,hi,hz1,Builtin.lenOf,hroom,hf,Addr_add,hst]
   ·rw [hlen,Array.toList_setIfInBounds,List.map_append,<- h7];rw [List.take_add_one,List.take_set_of_le (Nat.le_refl _),List.getElem?_set_self hbl];rfl
  ·have hr:=run_append_grow (P:=Tryz.prog) w 39 ty 5 i0 (.int .u8 0) Tryz.underlying39 hi hz0 ⟨g,0,none⟩ bs.length cap (bs.map bv) (by rw [hz1];simp) (hold g _ _ rfl) ⟨b,0,none⟩ 1 c [bv y] (by rw [hz1];rfl) hnews (by omega) (by omega) (growslice_fits (by omega) (by rw [hz2];omega));have hge:=grownCap_ge w (bs.length+1) cap 5;have hcm:grownCap w (bs.length+1) cap 5<=maxLen:=grownCap_le_maxLen w (bs.length+1) cap 5 (by unfold maxLen;omega);refine ⟨_,_,hr, .inr ⟨w.heap.size,_,_,(0,0),?_,hbase,heap_alloc_new w.drew _, .inl rfl,?_,hcm,?_,?_⟩,⟨rfl,rfl,rfl,by simp,fun k hk _=>(MapKept.heap_alloc w.drew _).2 k hk⟩, .inr rfl⟩
   ·simp
   ·simpa using hge
   ·simp only [Array.size_append,List.size_toArray,size_zeroCells,List.length_map,List.length_cons,List.length_nil];have hz:(Value.int IntKind.u8 0).cells.size=1:=rfl;rw [hz];omega
   ·simp only [Array.toList_append,List.append_assoc];rw [<- List.append_assoc,show (bs++[y]).length=(bs.map bv++[bv y]).length by simp,List.take_left];simp
end
end Go.Proofs.YthkkgdpomhhjjaaGreatDoor
