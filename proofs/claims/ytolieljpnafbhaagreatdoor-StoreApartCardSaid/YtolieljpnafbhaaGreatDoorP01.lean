/-
  Joined.
-/
import Derived.Test.YtolieljpnafbhaaGreatDoorV16
import Derived.Test.YtolieljpnafbhaaGreatDoorCards
import Derived.Test.YtolieljpnafbhaaGreatDoorTie
import Derived.WalkKit
import Derived.ProofKit
import Derived.OpenShut
import Derived.Deep.DeepHandedRow
import Derived.Lib.LaidTab
import Derived.Lib.SmallJoins
import Derived.Maps.OwnSet
import Derived.Maps.RangeWalk
import Derived.StillTail
import Derived.Deep.Quiet
import Derived.Deep.QuietTactic
import Derived.BigQuiet
import Derived.Test.YtolieljpnafbhaaGreatDoorRows
import Derived.WalkSpells
import Derived.WalkLawsBesides
import Derived.Lib.Hide
import Derived.Handy
import Derived.IntWalk
import Derived.Deep.LoopGhost
import Derived.Deep.RegionHeld3
import Derived.Deep.DeepCutAuto
import Derived.Laws.Tables
import Derived.Deep.WholeRow
import Derived.Lib.AppendZerosOnto
import Derived.Maps.AppendAt
import Derived.Deep.MidRow
import Derived.Lib.ConvBytes
import Derived.DeepKeys4
import Derived.Laws.CopyOwn
import Derived.Orders
import Derived.StillTailTactics
import Derived.Shelf.SlSortCmp.Whole1
import Derived.Ground.SlsfProg
import Derived.Shelf.SlGeneric
import Derived.Test.YtolieljpnafbhaaGreatDoorProg
import Derived.Sort.OwnSortedInts
import Derived.Shelf.SlSortCmp.NoneTotal
import Derived.Shelf.SlSortCmp.Insertion
import Derived.Sort.Grow
import Derived.Deep.AppendSrc
import Derived.Shelf.Strconv.Itoa3
import Derived.Shelf.Strings.Prefix
import Derived.Shelf.SlicesE.Delete
import Derived.Ground.NamesProg
import Derived.Ground.SlgnProg
import Derived.Shelf.LaysM
import Derived.Sort.WalkA
import Derived.Shelf.SlicesQ.Load
import Derived.Shelf.SlicesQ.Reverse
import Derived.Shelf.RegionOpenPlain
import Derived.Sort.WalkB3
import Derived.Sort.LotD5
import Derived.Sort.Walk7
import Derived.Deep.CutBlock
import Derived.Sort.WalkC
import Derived.Sort.WalkA6
import Derived.Sort.AssemblyPlain
import Derived.Sort.Walk13a
import Derived.Below
import Derived.Deep.RegionWith
import Derived.Laws.IdiomStrings
import Derived.Shelf.Sort.Plain
import Derived.Shelf.Slices.In.SortNone
import Derived.Laws.BytesArg
import Derived.Laws.OwnMore
namespace Go.Proofs.YtolieljpnafbhaaGreatDoor
section
open Go.RowKit Go.Maps Go.MapKept
section
variable {S:Nat->Prop} {w w':World} {pb db n gb:Nat} {name:Name} {o o':Owner} {d d':Dsk} {L L':Logic} {x0 x1 x2 x3:Value}
theorem GraphAt.below {gen N ob ib vb:Nat} (h:GraphAt w o gb pb gen N ob ib vb) (hb:Below w.heap.size w w'):GraphAt w' o gb pb gen N ob ib vb:=
 ⟨h.raw.below hb,h.out.below hb,h.inn.below hb,h.verts.below hb,h.ogb,h.oob,h.oib,h.ovb⟩
end
end
section
open Go.RowKit Go.Maps Go.MapKept
section
variable {w w':World} {pb db n cb kb sb jb byb made:Nat} {by':Bool} {inn out:Name} {o o':Owner} {d d':Dsk} {L L':Logic}
def NoOutPostC (cc:Nat) (n pb db:Nat) (w:World) (o:Owner) (d:Dsk) (L:Logic) (e:Ending) (w':World):Prop:=
 ∃ c d' o',e=.returned (.int .i64 ((c:Nat):Int))/\Moved (fun _=>False) n pb db w o d w' o' d' L/\(c=cc\/Err d d' L c)
set_option maxRecDepth 100000 in
set_option maxHeartbeats 8000000 in
theorem sort_noutC (cc:Nat) (hcc0:cc≠0) (HW:WriteSaid) (h:PoolAt w pb db n o d L) (hn:8<=n) {es:List Edg} {fl:Bool} (hL:mget L inn=some (edgeFile es fl)) (y:Int) (hy:y=0\/y=1) (hio:inn≠out) (hi:ownName inn=false) (ho:ownName out=false) (hs:out.size<=1000) (hout:∀ d':Dsk,d'.tick.dead=false->createCode d' L out=cc)
 (harm:d.armed=0) (hdead:d.dead=false) :
 Calls Tryz.prog 28 #[ptrTo pb, .string inn, .string out, .int .i64 y] w (NoOutPostC cc n pb db w o d L):=by
 have hccn:¬ (cc:Int)=0:=by omega
 have hp1:=Lib.hid (hasPre_any inn);have hp2:=Lib.hid (hasPre_any out);simp only [hi] at hp1;simp only [ho] at hp2;have hframes:=Lib.hid (fun W (hW:Below w.heap.size w W)=>poolFrames_any (h.below hW));have hopen:Hid (∀ W,Below w.heap.size w W->∀ jb byb by',JobAt W jb pb byb 0 by'->Calls Tryz.prog 72 #[ptrTo jb, .string inn] W (OpenSrcPost n pb db W o d L inn es.length)):=Lib.hid (fun W hW jb byb by' hj=>jobOpen_any HW (h.below hW) hj hL);have hcr:Hid (∀ W o' d',Moved (fun _=>False) n pb db w o d W o' d' L->Calls Tryz.prog 59 #[ptrTo pb, .string out] W fun e w'=>∃ d'' o'',e=.returned (.int .i64 (cc:Int))/\Moved (fun _=>False) n pb db W o' d' w' o'' d'' L):=Lib.hid (fun W o' d' hm=>by
  have hc:createCode d' L out=cc:=hout d' (by
   have ha:=hm.on.calm harm;unfold Dsk.tick;rw [if_neg (show ¬ 0 < d'.armed by omega)];exact ha.2 hdead)
  refine (create_pool hm.pool out hs).mono ?_;rintro e w' ⟨d'',o'',rfl,hm2,-⟩;rw [hc,if_neg hcc0] at hm2;rw [hc];exact ⟨d'',o'',rfl,hm2⟩)
 have hne:(inn.toList == out.toList)=false:=bytes_ne hio;have hn2:n<=4096:=by
  obtain ⟨fb,mb,l,hand,mf,hp,rfl,-⟩:=h;exact hp.most
 have H:=Lib.hid h;have hn8:¬ (n:Int) < 8:=by omega
 clear h hn hL hio hi ho hout hs harm hdead;have HBW:Hid (∀ v,Below w.heap.size w (w.alloc (.cells #[v] 3))):=Lib.hid (fun v=>(Below.refl _ _).alloc (Nat.le_refl _) _);unfold ptrTo at *;rcases hy with rfl | rfl;all_goals
  go_enter Tryz.func28,Tryz.ntmps28
  go_wp2_with fail
  refine (hp1.out _).mono ?_;rintro e w' ⟨rfl,rfl⟩;go_wp2_with fail
  refine (hp2.out _).mono ?_;rintro e w' ⟨rfl,rfl⟩;go_wp2_with fail
  refine (hframes.out _ (HBW.out _)).mono ?_;rintro e w' ⟨rfl,rfl⟩;go_wp2_with fail
 all_goals
  first
   | (refine (show Calls _ _ _ ((w.alloc (.cells #[.int .i64 0] 3)).alloc (.cells #[.pointer (some ⟨pb,0,none⟩), .func (.func 71) #[] #[.pointer (some ⟨w.heap.size,0,none⟩)], .int .i64 0] 124)) _ from ?_)
      have HC:Hid (∃ b,JobAt ((w.alloc (.cells #[.int .i64 0] 3)).alloc (.cells #[.pointer (some ⟨pb,0,none⟩), .func (.func 71) #[] #[.pointer (some ⟨w.heap.size,0,none⟩)], .int .i64 0] 124)) (w.heap.size+1) pb w.heap.size 0 b):=Lib.hid ⟨false,jobAt_new w pb 0 false rfl⟩;have HW1:Hid (Below w.heap.size w ((w.alloc (.cells #[.int .i64 0] 3)).alloc (.cells #[.pointer (some ⟨pb,0,none⟩), .func (.func 71) #[] #[.pointer (some ⟨w.heap.size,0,none⟩)], .int .i64 0] 124))):=Lib.hid ((HBW.out _).alloc (by simp) _);generalize (w.alloc (.cells #[.int .i64 0] 3)).alloc (.cells #[.pointer (some ⟨pb,0,none⟩), .func (.func 71) #[] #[.pointer (some ⟨w.heap.size,0,none⟩)], .int .i64 0] 124)=W1 at *)
   | (have HC:Hid (∃ b,JobAt ((w.alloc (.cells #[.int .i64 1] 3)).alloc (.cells #[.pointer (some ⟨pb,0,none⟩), .func (.func 71) #[] #[.pointer (some ⟨w.heap.size,0,none⟩)], .int .i64 0] 124)) (w.heap.size+1) pb w.heap.size 0 b):=Lib.hid ⟨true,jobAt_new w pb 1 true rfl⟩
      have HW1:Hid (Below w.heap.size w ((w.alloc (.cells #[.int .i64 1] 3)).alloc (.cells #[.pointer (some ⟨pb,0,none⟩), .func (.func 71) #[] #[.pointer (some ⟨w.heap.size,0,none⟩)], .int .i64 0] 124))):=Lib.hid ((HBW.out _).alloc (by simp) _);generalize (w.alloc (.cells #[.int .i64 1] 3)).alloc (.cells #[.pointer (some ⟨pb,0,none⟩), .func (.func 71) #[] #[.pointer (some ⟨w.heap.size,0,none⟩)], .int .i64 0] 124)=W1 at *)
  obtain ⟨b,hj⟩:=HC.out;refine (hopen.out W1 HW1.out _ _ b hj).mono ?_;clear hj;rintro e w2 ⟨v2,c2,d2,o2,rfl,hm2,he2,hok2⟩;have HM2:Hid (Moved (fun _=>False) n pb db w o d w2 o2 d2 L):=Lib.hid ((Moved.ofBelow H.out HW1.out).trans hm2 (fun _ _ h=>h));have HE2:=Lib.hid he2;clear hm2 he2;by_cases hc2:c2=0
  ·subst hc2;obtain ⟨cb,sb,rfl,-⟩:=hok2 rfl;have hcc:=Lib.hid (hcr.out w2 o2 d2 HM2.out);clear hok2;unfold ptrTo;go_wp2_with fail
   refine hcc.out.mono ?_;rintro e w3 ⟨d3,o3,rfl,hm3⟩;have HM3:=Lib.hid (HM2.out.trans hm3 (fun _ _ h=>h));clear hm3 hcc;go_wp2;go_ret;exact ⟨cc,d3,o3,rfl,HM3.out, .inl rfl⟩
  ·have hc2':¬ (c2:Int)=0:=by omega
   have HE3:=Lib.hid (HE2.out.resolve_left hc2);clear hc2 hok2;go_wp2;go_ret;exact ⟨c2,d2,o2,rfl,HM2.out, .inr HE3.out⟩
theorem sort_there (HW:WriteSaid) (h:PoolAt w pb db n o d L) (hn:8<=n) {es:List Edg} {fl:Bool} (hL:mget L inn=some (edgeFile es fl)) (y:Int) (hy:y=0\/y=1) (hio:inn≠out) (hi:ownName inn=false) (ho:ownName out=false) (hs:out.size<=1000) (hout:okName out=true) (hth:(mget L out).isSome=true)
 (harm:d.armed=0) (hdead:d.dead=false) :
 Calls Tryz.prog 28 #[ptrTo pb, .string inn, .string out, .int .i64 y] w (NoOutPostC 4 n pb db w o d L):=
 sort_noutC 4 (by decide) HW h hn hL y hy hio hi ho hs (fun d' hd=>by
  unfold createCode;rw [hd,hout,hth];rfl) harm hdead
end
end
section
open Go.RowKit Go.Maps
theorem rd_string {w:World} {v:Value} {bs:List UInt8} (h:Rd w v bs):Sem.run Tryz.prog (convert 57 9 v) w=.ok (.string ⟨bs.toArray⟩) w:=by
 obtain ⟨a,cap,rfl,hlc,hcm,hc⟩:=h;have go:∀ ad:Addr,a=some ad->(∀ (j:Nat) (hj:j < bs.length),w.cell? (ad.add j)=some (bv bs[j]))->Sem.run Tryz.prog (convert 57 9 (.slice a bs.length cap)) w=.ok (.string ⟨bs.toArray⟩) w:=fun ad e hcell=>by
  subst e;exact run_convert_bytes_back (P:=Tryz.prog) w 57 9 5 ad cap bs Tryz.underlying57 Tryz.underlying5 Tryz.underlying9 hcell
 rcases hc with hc | ⟨b,off,rfl,hcell⟩
 ·cases a with
  | none=>
    have hb:bs=[]:=List.length_eq_zero_iff.1 hc;subst hb;exact run_convert_bytes_nil w 57 5 Tryz.underlying57 Tryz.underlying5 0 cap 9 Tryz.underlying9
  | some ad=>exact go ad rfl (fun j hj=>by omega)
 ·exact go _ rfl (fun j hj=>by rw [Addr_add];exact hcell j hj)
theorem len_mput {L:Logic} {x:Name} (f:LFile) (h:mget L x=none):(mput L x f).length=L.length+1:=by
 unfold mput;rw [mdel_fresh h];rfl
end
section
open Go.RowKit Go.Maps Go.MapKept
theorem info_file:(Tryz.prog.info? 93).map (fun i=>(i.zero,i.size,i.bytes))=some (some (.agg #[.string ByteArray.empty, .slice none 0 0]),2,40):=by kernel_rfl
abbrev TFile:=Name × Value × List UInt8
def rowF:List TFile->List Value
 | []=>[]
 | p::l=>[.string p.1,p.2.1]++rowF l
theorem rowF_append (a b:List TFile):rowF (a++b)=rowF a++rowF b:=by
 induction a with
 | nil=>rfl
 | cons p a ih=>rw [List.cons_append,rowF,rowF,ih,List.append_assoc]
theorem rowF_get {l:List TFile} {i:Nat} {p:TFile} (h:l[i]? = some p):(rowF l)[i*2]? = some (.string p.1)/\(rowF l)[i*2+1]? = some p.2.1:=by
 induction l generalizing i with
 | nil=>cases h
 | cons q l ih=>
   cases i with
   | zero=>cases h;exact ⟨rfl,rfl⟩
   | succ i=>
     have:=ih (i:=i) (by simpa using h);rw [rowF,show (i+1)*2=i*2+1+1 by omega,show i*2+1+1+1=(i*2+1)+1+1 by omega];simpa using this
structure FilesAt (w:World) (base:Nat) (v:Value) (l:List TFile):Prop where
 row:w.ownsRow base 93 2 v l.length (rowF l)
 each:∀ p∈l,w.ownsRow base 5 1 p.2.1 p.2.2.length (p.2.2.map bv)
section
variable {w w':World} {base:Nat} {v v':Value} {l:List TFile}
theorem FilesAt.below (h:FilesAt w base v l) (hb:Below w.heap.size w w'):FilesAt w' base v l:=⟨ownsRow_below h.row hb,fun p hp=>ownsRow_below (h.each p hp) hb⟩
theorem FilesAt.cells {g cap n:Nat} (h:FilesAt w base (.slice (some ⟨g,0,none⟩) n cap) l) {i:Nat} {p:TFile} (hi:l[i]? = some p):w.cell? ⟨g,i*2,none⟩=some (.string p.1)/\w.cell? ⟨g,i*2+1,none⟩=some p.2.1:=by
 have hc:∀ (j:Nat) (u:Value),(rowF l)[j]? = some u->w.cell? ⟨g,j,none⟩=some u:=fun j u hj=>by
  have:=World.ownsRow.cells h.row (g:=g) rfl j u hj;rwa [Addr_add,Nat.zero_add] at this
 obtain ⟨h1,h2⟩:=rowF_get hi;exact ⟨hc _ _ h1,hc _ _ h2⟩
theorem FilesAt.shape (h:FilesAt w base v l):(l=[]/\v=.slice none 0 0)\/∃ g cap,v=.slice (some ⟨g,0,none⟩) l.length cap/\l.length<=cap/\cap<=maxLen:=by
 obtain ⟨_,⟨h1,h2⟩ | ⟨g,cap,cur,rfl,hg,hh,hc,hm,_⟩⟩:=h.row
 ·exact .inl ⟨List.eq_nil_of_length_eq_zero h2,h1⟩
 ·exact .inr ⟨g,cap,rfl,hc,hm⟩
end
theorem wpList_append_file {w:World} {ops:Array Oper} {rest:List Oper} {op:Oper} {a:Act} {Q:Exit->Act->World->Prop} (hgd:op.guard=none) (s x:Operand) (ho:op.op=.call { callee:=.builtin .append,args:=#[s,x],argTypes:=#[72,72] }) (base:Nat) (v:Value) (l:List TFile) (hs:a.eval s=v) (hown:w.ownsRow base 93 2 v l.length (rowF l))
 (y:TFile) (c:Nat) (hx:a.eval x=.slice (some ⟨w.heap.size,0,none⟩) 1 c) (hl:l.length<=1000) (hbase:base<=w.heap.size) (hcell:y.2.1.oneCell'=true)
 (k:∀ v' w',w'.ownsRow base 93 2 v' (l++[y]).length (rowF (l++[y]))->Appd v (w.alloc (.cells #[.string y.1,y.2.1] 93)) w' v'->wpList Tryz.prog ops Q rest (a.put op.dst v') w') :
 wpList Tryz.prog ops Q (op::rest) a (w.alloc (.cells #[.string y.1,y.2.1] 93)):=by
 refine wpList_append_at hgd s x 72 ho base 93 _ 2 40 Tryz.underlying72 info_file rfl (by decide) v l.length (rowF l) hs (World.ownsRow.alloc hown _) ⟨w.heap.size,0,none⟩ 1 c [.string y.1,y.2.1] hx rfl (fun j u hj=>?_) (fun u hu=>by
  simp only [List.mem_cons,List.not_mem_nil,or_false] at hu;rcases hu with rfl | rfl
  ·rfl
  ·exact hcell) (by unfold maxLen;omega) (by omega) (by simp;omega) (fun v' w' h1 h2=>k v' w' ?_ h2)
 ·rw [Addr_add,Nat.zero_add];match j,hj with
  | 0,hj=>cases hj;simp
  | 1,hj=>cases hj;simp
  | j+2,hj=>cases hj
 ·rw [rowF_append,List.length_append];exact h1
def FilesPost (w:World) (d:Dsk) (e:Ending) (w':World):Prop:=
 ∃ v l,e=.returned v/\FilesAt w' w.heap.size v l/\(l.map (·.1)).Perm (d.files.map (·.1))/\(∀ p∈l,∃ f,mget d.files p.1=some f/\p.2.2=f.now)/\Below w.heap.size w w'
set_option maxRecDepth 100000 in
set_option maxHeartbeats 4000000 in
theorem files_any {w:World} {db:Nat} {o:Owner} {d:Dsk} (h:DiskAt w db o d) (hn:d.files.length<=1000) (hs:∀ x∈d.files.map (·.1),x.size<=1000) :
 Calls Tryz.prog 38 #[ptrTo db] w (FilesPost w d):=by
 have hnames:=Lib.hid (names_any h hn);obtain ⟨mf,ml,l,h⟩:=h;have HD:=Lib.hid h;have HS:=Lib.hid hs;have HKEYS:Hid (d.files.map (·.1)=l.map (·.1)):=Lib.hid (by rw [<- h.strip,List.map_map];rfl);have HGET:Hid (∀ x,mget d.files x=(mget l x).map (·.2)):=Lib.hid (fun x=>by rw [<- h.strip];exact strip_get);have hclone:Hid (∀ W v bs,Rd W v bs->bs.length<=16777216->Calls Tryz.prog 82 #[v] W (NewBytes W bs)):=Lib.hid (fun W v bs hv hl=>clone_any v bs W hv (by omega));have HN:Hid (d.files.length<=1000):=Lib.hid hn;clear h hn hs;unfold ptrTo at *;go_enter Tryz.func38,Tryz.ntmps38
 go_wp2_with fail
 refine hnames.out.mono ?_;rintro e w1 ⟨vn,ns,rfl,hperm,hrow,hb1⟩;have HP:=Lib.hid hperm;have HR1:=Lib.hid hrow;have HB1:=Lib.hid hb1;have hnl:ns.length<=1000:=by have h1:=hperm.length_eq;rw [List.length_map] at h1;have:=HN.out;omega
 have HMEM:Hid (∀ i x,ns[i]? = some x->x.size<=1000/\∃ pf f,mget l x=some (pf,f)):=Lib.hid (fun i x hx=>by
  have h1:x∈d.files.map (·.1):=hperm.mem_iff.1 (List.mem_of_getElem? hx);refine ⟨HS.out x h1,?_⟩;rw [HKEYS.out,mem_keys] at h1;obtain ⟨⟨pf,f⟩,h2⟩:=Option.isSome_iff_exists.1 h1;exact ⟨pf,f,h2⟩)
 have HTK:Hid (∀ i x,ns[i]? = some x->ns.take (i+1)=ns.take i++[x]):=Lib.hid (fun i x hx=>by
  have hl:=lt_of_get hx;rw [List.take_succ_eq_append_getElem hl];rw [List.getElem?_eq_getElem hl] at hx;rw [Option.some.inj hx])
 have HALL:Hid (ns.take ns.length=ns):=Lib.hid (List.take_of_length_le (Nat.le_refl _));have HX:Hid (∀ i,i < ns.length->∃ x,ns[i]? = some x):=Lib.hid (fun i hi=>⟨_,List.getElem?_eq_getElem hi⟩);obtain ⟨an,cn,rfl⟩:=ownsRow_slice hrow;clear hperm hrow hb1 hnames;generalize hNN:ns.length=N at *;have HNN:=Lib.hid hNN;clear hNN;go_wp2;go_loopw [3,9] (fun v iv W=>∃ (i:Nat) (fs:List TFile),i<=N/\iv=.int .i64 (i:Int)/\FilesAt W w.heap.size v fs/\fs.map (·.1)=ns.take i/\(∀ p∈fs,∃ f,mget d.files p.1=some f/\p.2.2=f.now)/\W.ownsRow (w.heap.size+1) 9 1 (.slice an N cn) N (ns.map Value.string)/\Below w.heap.size w W) (fun _ iv _=>N - (intOf iv).toNat)
 case atStart=>exact ⟨0,[],Nat.zero_le _,rfl,⟨World.ownsRow_nil _ _ _ _,(fun p hp=>nomatch hp)⟩,rfl,(fun p hp=>nomatch hp),HR1.out,HB1.out⟩
 case round=>
  generalize u3=v at *;generalize wr=W at *;obtain ⟨i,fs,hi,rfl,hf,hfn,hfe,hr,hb⟩:=hrel;have HF:=Lib.hid hf;have HFN:=Lib.hid hfn;have HFE:=Lib.hid hfe;have HR:=Lib.hid hr;have HB:=Lib.hid hb;clear hf hfn hfe hr hb HR1 HB1;by_cases hlt:i < N
  ·obtain ⟨x,hx⟩:=HX.out i hlt;obtain ⟨hxs,pf,f,hxl⟩:=HMEM.out i x hx;have HD1:=Lib.hid (HD.out.below HB.out);have hcell:∃ g,an=some ⟨g,0,none⟩/\N<=cn/\cn<=maxLen/\W.cell? ⟨g,i,none⟩=some (.string x):=by
    obtain ⟨_,⟨h1,h2⟩ | ⟨g,cap,cur,h1,hg,hh,hc,hm,h3,h4⟩⟩:=HR.out
    ·omega
    ·cases h1;refine ⟨g,rfl,hc,hm,?_⟩;rw [cells_cell hh];have h5:(cur.toList.take (N*1))[i]? = (ns.map Value.string)[i]? := by rw [h4]
     rw [List.getElem?_take_of_lt (by omega)] at h5;rw [<- Array.getElem?_toList,h5,List.getElem?_map,hx];rfl
   obtain ⟨g,rfl,hcn1,hcn2,hc⟩:=hcell;unfold maxLen at hcn2;obtain ⟨⟨hc0,-⟩,-⟩:=HD1.out.head.cells;have hmem:(x,pf,f)∈l:=mget_mem hxl;have hfa:=HD1.out.each _ hmem;obtain ⟨fv,fu,⟨hp0,-⟩,-,hrow,-⟩:=hfa.cells;have hmost:=hfa.most.1;have HM:Hid (mget l x=some (pf,f)):=Lib.hid hxl;have HGX:Hid (mget d.files x=some f):=Lib.hid (by rw [HGET.out,hxl];rfl);have HTX:=Lib.hid (HTK.out i x hx);have hcl:=Lib.hid (hclone.out W fv f.now (Rd_own hrow) hmost);have hg:=good_string (s:=x) (by unfold maxLen;omega);obtain ⟨fa,fc,rfl⟩:=ownsRow_slice hrow;have HFL:Hid (fs.length=i):=Lib.hid (by
    have h1:=congrArg List.length HFN.out;rw [List.length_map,List.length_take,HNN.out] at h1;omega)
   have hz:∀ W:World,(zeroValue 157).run Tryz.prog W=.ok (.pointer none) W:=fun W=>by kernel_rfl
   clear hfa hrow hmem hxl hx;generalize hFN:f.now=bs at *;have HBS:=Lib.hid hFN;clear hFN;go_wp2_with (at_lookup;refine wpList_look _ rfl _ _ _ _ rfl 157 keyed_string string_inj Tryz.underlying137 (hz _) mf l rfl HD1.out.files x rfl hg ?_;rw [HM.out];simp only [Option.map_some,Option.getD_some,ptrTo])
   refine hcl.out.mono ?_;rintro e W2 ⟨cv,rfl,hrow2,hb2⟩;have HR2:=Lib.hid (ownsRow_base hrow2 HB.out.size);have HB2:=Lib.hid (HB.out.trans (hb2.mono HB.out.size));have HF2:=Lib.hid (HF.out.below hb2);have HRN2:=Lib.hid (ownsRow_below HR.out hb2);have HCV:=Lib.hid (Rd_own hrow2);have hz2:w.heap.size<=W2.heap.size:=HB2.out.size;have HNEW:Hid (∀ x,cv.ownBlock=some x->W.heap.size<=x/\x < W2.heap.size):=Lib.hid (fun x hx=>⟨ownsRow_block hrow2 x hx,(ownBlock_old hrow2 x hx).1⟩);have hW2:W.heap.size<=W2.heap.size:=hb2.size;obtain ⟨ca,cc,rfl⟩:=ownsRow_slice hrow2;have HOLD:Hid (∀ x,v.ownBlock=some x->x < W.heap.size):=Lib.hid (fun x hx=>(ownBlock_old HF.out.row x hx).1);clear hrow2 hb2 hcl;have hfsl:fs.length<=1000:=by rw [HFL.out];omega
   go_wp2_with (at_builtin;refine wpList_append_file rfl _ _ rfl w.heap.size _ fs rfl HF2.out.row (x, .slice ca bs.length cc,bs) 1 rfl hfsl hz2 rfl ?_)
   intro v3 W3 hrow3 ha3;obtain ⟨hg3,hb3⟩:=ha3;have hal:W2.heap.size < (W2.alloc (.cells #[.string x, .slice ca bs.length cc] 93)).heap.size:=by simp
   have hkeep:∀ y,y < W2.heap.size->v.ownBlock≠some y->W3.heap[y]? = W2.heap[y]? := fun y hy hne=>(hg3.block y (by omega) (fun e=>hne e.symm)).trans ((MapKept.heap_alloc W2 _).2 y hy);have HF3:Hid (FilesAt W3 w.heap.size v3 (fs++[(x, .slice ca bs.length cc,bs)])):=Lib.hid (by
    refine ⟨by rw [List.length_append];exact hrow3,fun p hp=>?_⟩;have hr:W2.ownsRow w.heap.size 5 1 p.2.1 p.2.2.length (p.2.2.map bv):=by
     rcases List.mem_append.1 hp with hp | hp
     ·exact HF2.out.each p hp
     ·rw [List.mem_singleton.1 hp];exact HR2.out
    exact ownsRow_heap hr (fun y hy=>hkeep y (ownBlock_old hr y hy).1 (fun e=>ownsRow_apart hr HF2.out.row (by decide) y hy e)))
   have HRN3:Hid (W3.ownsRow (w.heap.size+1) 9 1 (.slice (some ⟨g,0,none⟩) N cn) N (ns.map Value.string)):=Lib.hid (ownsRow_heap HRN2.out (fun y hy=>hkeep y (ownBlock_old HRN2.out y hy).1 (fun e=>ownsRow_apart HRN2.out HF2.out.row (by decide) y hy e)));have HB3:Hid (Below w.heap.size w W3):=Lib.hid (by
    refine HB2.out.trans ⟨hg3.os.trans rfl,hg3.tape.trans rfl,hg3.output.trans rfl,Nat.le_trans (Nat.le_of_lt hal) hg3.size,fun y hy=>hkeep y (by omega) (fun e=>?_)⟩;have:=(ownBlock_old HF2.out.row y e).2;omega)
   clear hg3 hb3 hkeep hrow3;go_wp2;go_roundw
   case rel=>exact ⟨i+1,fs++[(x, .slice ca bs.length cc,bs)],by omega,by go_num,HF3.out,by rw [List.map_append,HFN.out,HTX.out];rfl,(fun p hp=>(List.mem_append.1 hp).elim (HFE.out p) (fun hp=>by rw [List.mem_singleton.1 hp];exact ⟨f,HGX.out,HBS.out.symm⟩)),HRN3.out,HB3.out⟩
   case measure=>simp [intOf];omega
  ·obtain rfl:N=i:=by omega
   go_wp2;go_ret;refine ⟨v,fs,rfl,HF.out,?_,HFE.out,HB.out⟩;rw [HFN.out,HALL.out];exact HP.out
end
section
open Go.RowKit Go.Maps
section
variable {q q1 q2:Nat} {w0 w w':World} {pb db n pb1 db1 n1 pb2 db2 n2:Nat} {o o1 o1' o2:Owner} {d d1 d1' d2:Dsk} {L L1 L1' L2:Logic} {S:Nat->Prop}
def KeptFiles (q:Nat) (w0 w:World) (pb db n:Nat) (o:Owner) (d:Dsk) (L:Logic) (e:Ending) (w':World):Prop:=
 ∃ v l,e=.returned v/\FilesAt w' w.heap.size v l/\Kept q w0 w' pb db n o d L/\Below w.heap.size w w'/\l.length=L.length/\(l.map (·.1)).Nodup/\(∀ x,x∈l.map (·.1) ↔ (mget L x).isSome=true)/\(∀ p∈l,∃ f,mget d.files p.1=some f/\p.2.2=f.now)
theorem kept_files (h:Kept q w0 w pb db n o d L) (hl:L.length<=1000):Calls Tryz.prog 38 #[ptrTo db] w (KeptFiles q w0 w pb db n o d L):=by
 have hc:=h.count;have H:=h;obtain ⟨_,_,_,_,_,g,_,hs⟩:=h.pool;refine (files_any g.disk (by omega) (fun x hx=>?_)).mono ?_
 ·rw [mem_keys] at hx;exact okName_1000 (hs.ok x (by rw [<- hs.names];exact hx))
 ·rintro e w' ⟨v,l,rfl,hf,hp,he,hb⟩;refine ⟨v,l,rfl,hf,H.later hb,hb,?_,hp.nodup_iff.2 hs.dkeys,fun x=>?_,he⟩
  ·have:=hp.length_eq;rw [List.length_map,List.length_map] at this;omega
  ·rw [hp.mem_iff,mem_keys,hs.names]
theorem Kept.now (h:Kept q w0 w pb db n o d L) {name:Name} {ps:List Pg} (hL:mget L name=some (.inl (ps,true))) {f:DFile} (hf:mget d.files name=some f):f.now=pagesFrom (tagOf name) 0 ps:=by
 obtain ⟨_,_,_,_,_,_,_,hs⟩:=h.pool;obtain ⟨f',dp,k⟩:=hs.paged _ _ _ hL;rw [k.get] at hf;obtain rfl:=Option.some.inj hf;rw [k.now,(k.lasts rfl).1]
end
end
section
open Go.RowKit Go.Maps
section
variable {w0 w w':World} {pb db n:Nat} {o o':Owner} {d d':Dsk} {L L':Logic}
theorem Kept.held (h:Kept 131072 w0 w pb db n o d L):Held w0 w pb db n o d L:=⟨h.pool,h.new,h.below,h.armed,h.dead,h.quota⟩
end
end
section
open Go Go.RowKit
section
variable {P:Program} {C:World->Prop} {Pd:Nat->Value->World->Prop} {l h:List Oper} {a0:Act}
theorem want_of {o oj:Oper} {a:Act} {j k:Nat} {b:Bool} (hg:o.guard=some (j,b)) (ho:l[j]? = some oj) (hk:oj.dst=some k) (ht:a.tmps[k]? = some (.bool b)):Region.wanted o (yielded l.toArray a.tmps)=true:=by
 unfold Region.wanted yielded;rw [hg];simp [ho,hk,ht]
end
end
section
open Go.RowKit Go.Maps
section
variable {S:Nat->Prop} {w0 w w':World} {pb db n gb gen N ob ib vb:Nat} {o o':Owner} {d d':Dsk} {L L':Logic}
theorem GraphAt.movedS (h:GraphAt w o gb pb gen N ob ib vb) (hm:Moved S n pb db w o d w' o' d' L') (hs:∀ x,x < w.heap.size->¬ S x):GraphAt w' o' gb pb gen N ob ib vb:=
 ⟨h.raw.moved hm h.ogb (hs _ h.raw.lt),h.out.moved hm h.oob (hs _ h.out.lt),h.inn.moved hm h.oib (hs _ h.inn.lt),h.verts.moved hm h.ovb (hs _ h.verts.lt),hm.free h.raw.lt h.ogb,hm.free h.out.lt h.oob,hm.free h.inn.lt h.oib,hm.free h.verts.lt h.ovb⟩
def edgVal (x:Edg):Value:=.agg #[.int .u32 (x.t.toNat:Int), .int .u32 (x.h.toNat:Int), .int .u64 (x.x.toNat:Int), .int .u32 (x.m.toNat:Int)]
theorem held_edges (HW:WriteSaid) (h:Held w0 w pb db n o d L) (hq:need L<=131072) (hg:GraphAt w o gb pb gen N ob ib vb) {es:List Edg} {fl:Bool} (hL:mget L (sName 101 gen)=some (edgeFile es fl)) :
 Calls Tryz.prog 23 #[ptrTo gb] w fun e w'=>∃ d' o',e=.returned (.tuple #[.int .i64 (es.length:Int), .int .i64 0])/\Moved (fun _=>False) n pb db w o d w' o' d' L:=by
 refine (graphEdges_any HW h.pool hg hL).mono ?_;rintro e w' ⟨c,d',o',⟨x,rfl,hx⟩,hm,he⟩;have h0:c=0:=h.fine' hm he hq;subst h0;rw [hx rfl];exact ⟨d',o',rfl,hm⟩
theorem held_edge (HW:WriteSaid) (h:Held w0 w pb db n o d L) (hq:need L<=131072) (hg:GraphAt w o gb pb gen N ob ib vb) {es:List Edg} {fl:Bool} (hL:mget L (sName 101 gen)=some (edgeFile es fl)) {i:Nat} {x:Edg} (hi:es[i]? = some x) :
 Calls Tryz.prog 24 #[ptrTo gb, .int .i64 (i:Int)] w fun e w'=>∃ d' o',e=.returned (.tuple #[edgVal x, .int .i64 0])/\Moved (fun _=>False) n pb db w o d w' o' d' L:=by
 refine (graphEdge_in HW h.pool hg hL hi).mono ?_;rintro e w' ⟨c,d',o',y,rfl,hm,he,hy,-⟩;have h0:c=0:=h.fine' hm he hq;subst h0;rw [hy rfl];exact ⟨d',o',rfl,hm⟩
def HeldOf (n pb db:Nat) (w:World) (o:Owner) (d:Dsk) (L:Logic) (ts:List Edg) (e:Ending) (w':World):Prop:=
 ∃ v d' o',e=.returned (.tuple #[v, .int .i64 0])/\Moved (fun _=>False) n pb db w o d w' o' d' L/\ownsEdges w' w.heap.size v ts/\∀ x,v.ownBlock=some x->o' x=none
theorem held_out (HW:WriteSaid) (h:Held w0 w pb db n o d L) (hq:need L<=131072) (hg:GraphAt w o gb pb gen N ob ib vb) {es:List Edg} (hL:mget L (sName 101 gen)=some (edgeFile (bestOf false es) true)) (hl:es.length<=1000) {v:Nat} (hv:v < N) (hN:N<=1000) :
 Calls Tryz.prog 21 #[ptrTo gb, .int .u32 (v:Int)] w (HeldOf n pb db w o d L (ofL false v (bestOf false es))):=by
 refine (graphOut_in HW h.pool hg hL (rise_bestOf false es) (by have:=bestOf_length false es;omega) hv (by omega)).mono ?_;rintro e w' ⟨v',c,d',o',rfl,hm,he,hv',-⟩;have h0:c=0:=h.fine' hm he hq;subst h0;obtain ⟨h1,h2⟩:=hv' rfl;exact ⟨v',d',o',rfl,hm,h1,h2⟩
theorem held_in (HW:WriteSaid) (h:Held w0 w pb db n o d L) (hq:need L<=131072) (hg:GraphAt w o gb pb gen N ob ib vb) {es:List Edg} (hL:mget L (sName 114 gen)=some (edgeFile (bestOf true es) true)) (hl:es.length<=1000) {v:Nat} (hv:v < N) (hN:N<=1000) :
 Calls Tryz.prog 22 #[ptrTo gb, .int .u32 (v:Int)] w (HeldOf n pb db w o d L (ofL true v (bestOf true es))):=by
 refine (graphIn_in HW h.pool hg hL (rise_bestOf true es) (by have:=bestOf_length true es;omega) hv (by omega)).mono ?_;rintro e w' ⟨v',c,d',o',rfl,hm,he,hv',-⟩;have h0:c=0:=h.fine' hm he hq;subst h0;obtain ⟨h1,h2⟩:=hv' rfl;exact ⟨v',d',o',rfl,hm,h1,h2⟩
end
def undig (l:List UInt8):Nat:=l.foldl (fun a b=>a*10+(b.toNat - 48)) 0
theorem undig_dec (k:Nat):undig (Lib.decDigits k)=k:=by
 induction k using Nat.strongRecOn with
 | _ k ih=>
   have hd:∀ j,j < 10->(UInt8.ofNat (48+j)).toNat - 48=j:=by decide
   rw [Lib.decDigits];by_cases h:k < 10
   ·rw [dif_pos h];unfold undig;simp only [List.foldl_cons,List.foldl_nil];rw [hd k h];omega
   ·rw [dif_neg h];unfold undig;rw [List.foldl_append];have:=ih (k / 10) (by omega);unfold undig at this;rw [this];simp only [List.foldl_cons,List.foldl_nil];rw [hd (k % 10) (by omega)];omega
theorem sName_gen_ne {c c':UInt8} {k k':Nat} (h:k≠k'):sName c k≠sName c' k':=by
 unfold sName;intro e;have h1:=congrArg (fun x:ByteArray=>x.data.toList) e;simp only [List.cons_append,List.nil_append,List.cons.injEq] at h1;have h2:=congrArg undig h1.2.2;rw [undig_dec,undig_dec] at h2;exact h h2
end
section
open Go.RowKit Go.Maps
section
variable {w0 w w':World} {pb db n gen:Nat} {o o':Owner} {d d':Dsk} {L L':Logic}
set_option maxRecDepth 100000 in
set_option maxHeartbeats 2000000 in
theorem storeMake_there (HW:WriteSaid) (h:PoolAt w pb db n o d L) (hn:8<=n) (hg:GenAt w o gen) {raw:Name} {es:List Edg} {fl:Bool} (hL:mget L raw=some (edgeFile es fl)) (hraw:ownName raw=false) (hne:raw≠sName 101 gen) (hth:(mget L (sName 101 gen)).isSome=true) (harm:d.armed=0) (hdead:d.dead=false) (v:Value) :
 Calls Tryz.prog 17 #[ptrTo pb, .string raw, .int .i64 (gen:Int),v] w (NoOutPostC 4 n pb db w o d L):=by
 have hright:=Lib.hid (storeRight_yes gen hg.le);have hnm:=Lib.hid (storeName_any 101 gen hg);have hso:Hid (∀ W,Below w.heap.size w W->Calls Tryz.prog 28 #[ptrTo pb, .string raw, .string (sName 101 gen), .int .i64 0] W (NoOutPostC 4 n pb db W o d L)):=Lib.hid (fun W hW=>
  sort_there HW (h.below hW) hn hL 0 (.inl rfl) hne hraw (sName_own 101 (by decide) gen) (okName_1000 (sName_ok 101 (by decide) hg.le)) (sName_ok 101 (by decide) hg.le) hth harm hdead)
 have H:=Lib.hid h;clear h hg hL hraw hne hth harm hdead hn;unfold ptrTo at *;generalize sName 101 gen=nE at *;go_enter Tryz.func17,Tryz.ntmps17
 go_wp2_with fail
 refine (hright.out _).mono ?_;rintro e w' ⟨rfl,rfl⟩;go_wp2_with fail
 refine hnm.out.mono ?_;rintro e w1 ⟨rfl,hb1⟩;have HB1:=Lib.hid hb1;clear hb1;go_wp2_with fail
 refine (hso.out w1 HB1.out).mono ?_;rintro e w2 ⟨c,d2,o2,rfl,hm2,hc⟩;have HM2:=Lib.hid ((Moved.ofBelow H.out HB1.out).trans hm2 (fun _ _ h=>h));have HC:=Lib.hid hc;have hc0:¬ (c:Int)=0:=by
  rcases hc with h | h
  ·omega
  ·have:=h.ne;omega
 clear hm2 hc;go_wp2;go_ret;exact ⟨c,d2,o2,rfl,HM2.out,HC.out⟩
theorem held_there (HW:WriteSaid) (h:Held w0 w pb db n o d L) (hq:need L<=131072) (hn:8<=n) (hg:GenAt w o gen) {es:List Edg} {fl:Bool} (hL:mget L nmX=some (edgeFile es fl)) (hth:(mget L (sName 101 gen)).isSome=true) (v:Value) :
 Calls Tryz.prog 17 #[ptrTo pb, .string nmX, .int .i64 (gen:Int),v] w fun e w'=>∃ d' o',e=.returned (.int .i64 4)/\Moved (fun _=>False) n pb db w o d w' o' d' L:=by
 refine (storeMake_there HW h.pool hn hg hL (by decide) (nmX_ne _ _).symm hth h.armed h.dead v).mono ?_;rintro e w' ⟨c,d',o',rfl,hm,hc⟩;rcases hc with rfl | hc
 ·exact ⟨d',o',rfl,hm⟩
 ·have h0:c=0:=h.fine' hm (.inr hc) hq;exact absurd h0 hc.ne
def HeldMakeM (w0:World) (pb db n:Nat) (w:World) (o:Owner) (d:Dsk) (L:Logic) (e:Ending) (w':World):Prop:=
 ∃ d' o',e=.returned (.int .i64 0)/\Held w0 w' pb db n o' d' L/\Moved (fun _=>False) n pb db w o d w' o' d' L
theorem held_make2 (HW:WriteSaid) {m:Nat} (HJS:JobSortSaid m) (h:Held w0 w pb db n o d L) (hn:8<=n) {es:List Edg} {fl:Bool} (hL:mget L nmX=some (edgeFile es fl)) (hg:GenAt w o gen) (hm:es.length<=m) (hfree:∀ c,mget L (sName c gen)=none) (hnt:∀ k,mget L (tName k)=none)
 {v:Value} {vs:List Vrt} (hvs:VertsAt w v vs) (hvo:∀ x,v.ownBlock=some x->o x=none) (hneed:need L+20*es.length+4*vs.length<=131072) (hvl:vs.length<=1000) :
 Calls Tryz.prog 17 #[ptrTo pb, .string nmX, .int .i64 (gen:Int),v] w (HeldMakeM w0 pb db n w o d (makeL L gen es vs)):=by
 refine (storeMake_any HW HJS h.pool hn hg hL (by decide) hm (hfree _) (hfree _) (hfree _) hnt hvs hvo (by omega)).mono ?_;rintro e w' ⟨c,d',o',L',rfl,hmv,-,hc⟩;have h0:c=0:=h.fine hmv (hc.imp (fun h=>h.1) id) hneed;subst h0;rcases hc with ⟨_,rfl⟩ | hc
 ·exact ⟨d',o',rfl,h.moved hmv (fun _ h=>h.elim),hmv⟩
 ·exact absurd rfl hc.ne
def HeldOpenM (w0:World) (pb db n:Nat) (w:World) (o:Owner) (d:Dsk) (L:Logic) (gen N:Nat) (e:Ending) (w':World):Prop:=
 ∃ gb ob ib vb d' o',e=.returned (.tuple #[ptrTo gb, .int .i64 0])/\Held w0 w' pb db n o' d' L/\GraphAt w' o' gb pb gen N ob ib vb/\Moved (fun _=>False) n pb db w o d w' o' d' L
theorem held_openM (HW:WriteSaid) (h:Held w0 w pb db n o d L) (hq:need L<=131072) (hg:GenAt w o gen) {vs:List Vrt} {es1 es2:List Edg} {fl0 fl1 fl2:Bool} (hv:mget L (sName 118 gen)=some (vertFile vs fl0)) (he:mget L (sName 101 gen)=some (edgeFile es1 fl1)) (hr:mget L (sName 114 gen)=some (edgeFile es2 fl2)) :
 Calls Tryz.prog 18 #[ptrTo pb, .int .i64 (gen:Int)] w (HeldOpenM w0 pb db n w o d L gen vs.length):=by
 refine (storeOpen_any HW h.pool hg hv he hr).mono ?_;rintro e w' ⟨v,c,d',o',rfl,hm,hc,h1,-⟩;have h0:c=0:=h.fine' hm hc hq;subst h0;obtain ⟨gb,ob,ib,vb,rfl,hga⟩:=h1 rfl;exact ⟨gb,ob,ib,vb,d',o',rfl,h.moved hm (fun _ h=>h.elim),hga,hm⟩
theorem Kept.told {q:Nat} (h:Kept q w0 w pb db n o d L) {l:List TFile} (he:∀ p∈l,∃ f,mget d.files p.1=some f/\p.2.2=f.now) {p:TFile} (hp:p∈l) {ps:List Pg} (hL:mget L p.1=some (.inl (ps,true))):p.2.2=pagesFrom (tagOf p.1) 0 ps:=by
 obtain ⟨f,h1,h2⟩:=he p hp;rw [h2];exact h.now hL h1
theorem FilesAt.moved {base:Nat} {v:Value} {l:List TFile} (h:FilesAt w base v l) (hm:Moved (fun _=>False) n pb db w o d w' o' d' L') (ho:∀ x,base<=x->o x=none):FilesAt w' base v l:=
 ⟨hm.ownsRow h.row (fun b hb=>⟨ho b (ownsRow_block h.row b hb),fun h=>h⟩),fun p hp=>hm.ownsRow (h.each p hp) (fun b hb=>⟨ho b (ownsRow_block (h.each p hp) b hb),fun h=>h⟩)⟩
end
theorem makeL_get (L:Logic) (gen:Nat) (es:List Edg) (vs:List Vrt) (x:Name) (h1:x≠sName 101 gen) (h2:x≠sName 114 gen) (h3:x≠sName 118 gen):mget (makeL L gen es vs) x=mget L x:=by
 unfold makeL;rw [mget_mput,if_neg h3,mget_mput,if_neg h2,mget_mput,if_neg h1]
theorem makeL_len {L:Logic} {gen:Nat} {es:List Edg} {vs:List Vrt} (h:∀ c,mget L (sName c gen)=none):(makeL L gen es vs).length=L.length+3:=by
 unfold makeL;rw [len_mput _ (by rw [mget_mput,if_neg (sName_ne (by decide) _ _),mget_mput,if_neg (sName_ne (by decide) _ _),h]),len_mput _ (by rw [mget_mput,if_neg (sName_ne (by decide) _ _),h]),len_mput _ (h _)]
def FileOfPost13 (w:World) (l:List TFile) (name:Name) (e:Ending) (w':World):Prop:=∃ p∈l,p.1=name/\e=.returned (.tuple #[p.2.1, .bool true])/\w=w'
set_option maxRecDepth 100000 in
set_option maxHeartbeats 2000000 in
theorem fileOf13_any {w:World} {base:Nat} {v:Value} {l:List TFile} (h:FilesAt w base v l) (hl:l.length<=1000) (name:Name) (hn:name∈l.map (·.1)) :
 Calls Tryz.prog 50 #[v, .string name] w (FileOfPost13 w l name):=by
 have H:=Lib.hid h;rcases h.shape with ⟨rfl,_⟩ | ⟨g,cap,rfl,hc1,hc2⟩
 ·cases hn
 unfold maxLen at hc2;have HX:Hid (∀ i,i < l.length->∃ p,l[i]? = some p):=Lib.hid (fun i hi=>⟨_,List.getElem?_eq_getElem hi⟩);have HNE:Hid (¬ ∀ (i:Nat) (p:TFile),i < l.length->l[i]? = some p->p.1≠name):=Lib.hid (fun hall=>by
  obtain ⟨p,hp,rfl⟩:=List.mem_map.1 hn;obtain ⟨i,hi,rfl⟩:=List.getElem_of_mem hp;exact hall i _ hi (List.getElem?_eq_getElem hi) rfl)
 have HM:Hid (∀ (i:Nat) (p:TFile),l[i]? = some p->p∈l):=Lib.hid (fun i p hp=>List.mem_of_getElem? hp);clear h hn;generalize hN:l.length=N at *;have HNN:=Lib.hid hN;clear hN;go_enter Tryz.func50,Tryz.ntmps50
 go_wp2;go_loopw [6] (fun iv W=>∃ i:Nat,i<=N/\iv=.int .i64 (i:Int)/\(∀ (j:Nat) (p:TFile),j < i->l[j]? = some p->p.1≠name)/\W=w) (fun iv _=>N - (intOf iv).toNat)
 case atStart=>exact ⟨0,Nat.zero_le _,rfl,(fun j p hj=>absurd hj (Nat.not_lt_zero _)),rfl⟩
 case round=>
  obtain ⟨i,hi,rfl,hall,rfl⟩:=hrel;have HALL:=Lib.hid hall;clear hall;by_cases hlt:i < N
  ·obtain ⟨p,hp⟩:=HX.out i hlt;have HP:=Lib.hid hp;obtain ⟨e0,e1⟩:=H.out.cells hp;clear hp;by_cases he:p.1=name
   ·have HE:=Lib.hid he;rw [he] at e0;clear he;go_wp2;go_ret2
    exact ⟨p,HM.out i p HP.out,HE.out,rfl,rfl⟩
   ·have hb:=bytes_ne he;have HE:=Lib.hid he;clear he;generalize hpn:p.1=pn at *;have HPN:=Lib.hid hpn;clear hpn;go_wp2;go_roundw
    case rel=>exact ⟨i+1,by omega,by go_num,(fun j r hj hr=>by
     rcases Nat.lt_or_ge j i with h | h
     ·exact HALL.out j r h hr
     ·obtain rfl:j=i:=by omega
      rw [HP.out] at hr;rw [<- Option.some.inj hr,HPN.out];exact HE.out),trivial⟩
    case measure=>simp [intOf];omega
  ·obtain rfl:N=i:=by omega
   exact absurd HALL.out HNE.out
end
section
open Go.RowKit Go.Maps
def apartRel (bb base:Nat) (gen:Int) (pv vv:Value) (vs:List Vrt):Nat->Value->World->Prop
 | 0,v,_=>v=pv
 | 1,v,_=>v=.bool false
 | 2,v,_=>v=.bool false
 | 3,v,_=>v=pv
 | 4,v,_=>v=.pointer (some ⟨bb,2,none⟩)
 | 5,v,_=>v=.int .i64 gen
 | 6,v,W=>∃ g,v=.slice (some ⟨g,0,none⟩) 0 0/\base<=g/\g < W.heap.size
 | 7,v,_=>v=.pointer (some ⟨bb,1,none⟩)
 | 8,v,_=>v=vv
 | _,v,W=>VertsAt W v vs/\∀ x,v.ownBlock=some x->base<=x/\x < W.heap.size
theorem apartRel_on {bb base:Nat} {gen:Int} {pv vv:Value} {vs:List Vrt} (i:Nat) (v:Value) (w w':World) (hb:Below w.heap.size w w') (h:apartRel bb base gen pv vv vs i v w):apartRel bb base gen pv vv vs i v w':=by
 match i,h with
 | 0,h=>exact h
 | 1,h=>exact h
 | 2,h=>exact h
 | 3,h=>exact h
 | 4,h=>exact h
 | 5,h=>exact h
 | 6,⟨g,h1,h2,h3⟩=>exact ⟨g,h1,h2,Nat.lt_of_lt_of_le h3 hb.size⟩
 | 7,h=>exact h
 | 8,h=>exact h
 | _+9,⟨h1,h2⟩=>exact ⟨h1.below hb,fun x hx=>⟨(h2 x hx).1,Nat.lt_of_lt_of_le (h2 x hx).2 hb.size⟩⟩
def apartRel2 (bx bb base:Nat) (gen gen2:Int) (pv vv:Value) (vs:List Vrt):Nat->Value->World->Prop
 | 0,v,_=>v=pv
 | 1,v,_=>v=.pointer (some ⟨bx,2,none⟩)
 | 2,v,_=>v=.int .i64 gen
 | 3,v,_=>v=.int .i64 gen2
 | 4,v,W=>∃ g,v=.slice (some ⟨g,0,none⟩) 0 0/\base<=g/\g < W.heap.size
 | 5,v,_=>v=.pointer (some ⟨bb,1,none⟩)
 | 6,v,_=>v=vv
 | _,v,W=>VertsAt W v vs/\∀ x,v.ownBlock=some x->base<=x/\x < W.heap.size
theorem apartRel2_on {bx bb base:Nat} {gen gen2:Int} {pv vv:Value} {vs:List Vrt} (i:Nat) (v:Value) (w w':World) (hb:Below w.heap.size w w') (h:apartRel2 bx bb base gen gen2 pv vv vs i v w):apartRel2 bx bb base gen gen2 pv vv vs i v w':=by
 match i,h with
 | 0,h=>exact h
 | 1,h=>exact h
 | 2,h=>exact h
 | 3,h=>exact h
 | 4,⟨g,h1,h2,h3⟩=>exact ⟨g,h1,h2,Nat.lt_of_lt_of_le h3 hb.size⟩
 | 5,h=>exact h
 | 6,h=>exact h
 | _+7,⟨h1,h2⟩=>exact ⟨h1.below hb,fun x hx=>⟨(h2 x hx).1,Nat.lt_of_lt_of_le (h2 x hx).2 hb.size⟩⟩
set_option maxRecDepth 100000 in
set_option maxHeartbeats 16000000 in
theorem storeApart_any (HW:WriteSaid) {m:Nat} (HJS:JobSortSaid m) (hm:300<=m) {ev1 vv1 ev2 vv2:Value} {es1 es2:List Edg} {vs1 vs2:List Vrt} (gen1 gen2:Int) (fr1 fr2:Nat) (w:World) (he1:RdE w ev1 es1) (hv1:RdV w vv1 vs1) (he2:RdE w ev2 es2) (hv2:RdV w vv2 vs2) (hf1:fr1 < 256) (hp:PowAt w) :
 Calls Tryz.prog 13 #[.agg #[ev1,vv1, .int .i64 gen1, .int .u8 (fr1:Int)], .agg #[ev2,vv2, .int .i64 gen2, .int .u8 (fr2:Int)]] w fun e w'=>e=.returned (.bool true)/\Below w.heap.size w w':=by
 have hworks:=Lib.hid (works13_any HW HJS (Nat.le_trans (by decide) hm));have HE1:=Lib.hid he1;have HV1:=Lib.hid hv1;have HE2:=Lib.hid he2;have HV2:=Lib.hid hv2;have HP:=Lib.hid hp;obtain ⟨E1,hE1⟩:∃ E,E=es1.length:=⟨_,rfl⟩;obtain ⟨V1,hV1⟩:∃ V,V=vs1.length:=⟨_,rfl⟩;obtain ⟨E2,hE2⟩:∃ E,E=es2.length:=⟨_,rfl⟩;obtain ⟨V2,hV2⟩:∃ V,V=vs2.length:=⟨_,rfl⟩;have HEL1:=Lib.hid hE1;have HVL1:=Lib.hid hV1;have HVL2:=Lib.hid hV2;have HVY:Hid (300 < es1.length\/100 < vs1.length->∀ W,Below w.heap.size w W->Calls Tryz.prog 47 #[.agg #[ev1,vv1, .int .i64 gen1, .int .u8 (fr1:Int)]] W fun e w'=>e=.returned (.bool true)/\Below W.heap.size W w'):=Lib.hid (fun h W hW=>vast_yes gen1 fr1 (HE1.out.below hW) (HV1.out.below hW) h);have HVN:Hid (es1.length<=300->vs1.length<=100->∀ W,Below w.heap.size w W->Calls Tryz.prog 47 #[.agg #[ev1,vv1, .int .i64 gen1, .int .u8 (fr1:Int)]] W fun e w'=>e=.returned (.bool false)/\Below W.heap.size W w'):=Lib.hid (fun h1 h2 W hW=>vast_no gen1 fr1 (HE1.out.below hW) (HV1.out.below hW) h1 h2);have HVY2:Hid (300 < es2.length\/100 < vs2.length->∀ W,Below w.heap.size w W->Calls Tryz.prog 47 #[.agg #[ev2,vv2, .int .i64 gen2, .int .u8 (fr2:Int)]] W fun e w'=>e=.returned (.bool true)/\Below W.heap.size W w'):=Lib.hid (fun h W hW=>vast_yes gen2 fr2 (HE2.out.below hW) (HV2.out.below hW) h);have HVN2:Hid (es2.length<=300->vs2.length<=100->∀ W,Below w.heap.size w W->Calls Tryz.prog 47 #[.agg #[ev2,vv2, .int .i64 gen2, .int .u8 (fr2:Int)]] W fun e w'=>e=.returned (.bool false)/\Below W.heap.size W w'):=Lib.hid (fun h1 h2 W hW=>vast_no gen2 fr2 (HE2.out.below hW) (HV2.out.below hW) h1 h2);obtain ⟨ea1,ec1,hev1,-⟩:=he1;obtain ⟨va1,vc1,hvv1,-⟩:=hv1;obtain ⟨ea2,ec2,hev2,-⟩:=he2;obtain ⟨va2,vc2,hvv2,-⟩:=hv2;rw [<- hE1] at hev1;rw [<- hV1] at hvv1;rw [<- hE2] at hev2;rw [<- hV2] at hvv2;subst hev1 hvv1 hev2 hvv2;rw [<- hE1,<- hV1] at HVY HVN;rw [<- hE2,<- hV2] at HVY2 HVN2;clear hE1 hV1 hE2 hV2 hp;obtain ⟨WA,hWA⟩:∃ W,W=w.alloc (.cells #[.slice ea1 E1 ec1, .slice va1 V1 vc1, .int .i64 gen1, .int .u8 (fr1:Int)] 87):=⟨_,rfl⟩;have HBA:Hid (Below w.heap.size w WA):=Lib.hid (by rw [hWA];exact (Below.refl _ _).alloc (Nat.le_refl _) _);have HQA:Hid (WA.heap[w.heap.size]? = some (.cells #[.slice ea1 E1 ec1, .slice va1 V1 vc1, .int .i64 gen1, .int .u8 (fr1:Int)] 87)):=Lib.hid (by rw [hWA];exact heap_alloc_new w _);have hsA:WA.heap.size=w.heap.size+1:=by rw [hWA];simp
 have HB0':Hid (Below WA.heap.size WA (WA.alloc (.cells #[.slice ea2 E2 ec2, .slice va2 V2 vc2, .int .i64 gen2, .int .u8 (fr2:Int)] 87))):=Lib.hid ((Below.refl _ _).alloc (Nat.le_refl _) _);have HQB:Hid ((WA.alloc (.cells #[.slice ea2 E2 ec2, .slice va2 V2 vc2, .int .i64 gen2, .int .u8 (fr2:Int)] 87)).heap[WA.heap.size]? = some (.cells #[.slice ea2 E2 ec2, .slice va2 V2 vc2, .int .i64 gen2, .int .u8 (fr2:Int)] 87)):=Lib.hid (heap_alloc_new WA _);rw [hsA] at HQB;have HB0:=Lib.hid (HBA.out.trans (HB0'.out.mono HBA.out.size));go_enter Tryz.func13,Tryz.ntmps13
 go_wp2_with fail
 rw [<- hWA] at *;clear hWA hsA;generalize WA.alloc (.cells #[.slice ea2 E2 ec2, .slice va2 V2 vc2, .int .i64 gen2, .int .u8 (fr2:Int)] 87)=W0 at *;have HK:Hid (∀ W,Below W0.heap.size W0 W->(W.cell? ⟨w.heap.size,0,none⟩=some (.slice ea1 E1 ec1)/\W.cell? ⟨w.heap.size,1,none⟩=some (.slice va1 V1 vc1)/\W.cell? ⟨w.heap.size,2,none⟩=some (.int .i64 gen1)/\W.cell? ⟨w.heap.size,3,none⟩=some (.int .u8 (fr1:Int))) /\
  (W.cell? ⟨w.heap.size+1,0,none⟩=some (.slice ea2 E2 ec2)/\W.cell? ⟨w.heap.size+1,1,none⟩=some (.slice va2 V2 vc2)/\W.cell? ⟨w.heap.size+1,2,none⟩=some (.int .i64 gen2)/\W.cell? ⟨w.heap.size+1,3,none⟩=some (.int .u8 (fr2:Int)))):=Lib.hid (fun W hW=>by
  have hx0:W0.heap[w.heap.size]? = some (.cells #[.slice ea1 E1 ec1, .slice va1 V1 vc1, .int .i64 gen1, .int .u8 (fr1:Int)] 87):=(HB0'.out.block _ (lt_heap HQA.out)).trans HQA.out;have hx:=(hW.block _ (lt_heap hx0)).trans hx0;have hy:=(hW.block _ (lt_heap HQB.out)).trans HQB.out;refine ⟨⟨?_,?_,?_,?_⟩,?_,?_,?_,?_⟩<;>first | (rw [cells_cell hx]<;>rfl) | (rw [cells_cell hy]<;>rfl))
 clear HB0' HQA HQB;obtain ⟨bx,hbx⟩:∃ b,b=w.heap.size:=⟨_,rfl⟩;rw [<- hbx] at HK ⊢;clear hbx;obtain ⟨by',hby⟩:∃ b,b=bx+1:=⟨_,rfl⟩;rw [<- hby] at HK ⊢;clear hby
 by_cases hx1:E1<=300/\V1<=100
 ·obtain ⟨h1,h2⟩:=hx1;refine (HVN.out h1 h2 W0 HB0.out).mono ?_;rintro e wa ⟨rfl,hba⟩;have HBA':=Lib.hid hba;obtain ⟨⟨a0,a1,a2,a3⟩,b0,b1,b2,b3⟩:=HK.out wa hba;have HWA:=Lib.hid (HB0.out.trans (hba.mono HB0.out.size));clear hba;go_wp2_with fail
  by_cases hx2:E2<=300/\V2<=100
  ·obtain ⟨h3,h4⟩:=hx2;refine (HVN2.out h3 h4 wa HWA.out).mono ?_;rintro e wb ⟨rfl,hbb⟩;have HBB:=Lib.hid (HBA'.out.trans (hbb.mono HBA'.out.size));clear hbb a0 a1 a2 a3 b0 b1 b2 b3 HVN HVY HVN2 HVY2;obtain ⟨⟨a0,a1,a2,a3⟩,b0,b1,b2,b3⟩:=HK.out wb HBB.out;have HWB:=Lib.hid (HB0.out.trans (HBB.out.mono HB0.out.size));by_cases hg0:gen1 < 0
   ·have hd0:decide (gen1 < 0)=true:=decide_eq_true hg0;clear hg0;go_wp2_with fail
    refine (hworks.out _).mono ?_;rintro e wz ⟨rfl,hbz⟩;have HBZ:=Lib.hid (HWB.out.trans (hbz.mono HWB.out.size));clear hbz;go_wp2;go_ret;exact ⟨rfl,HBZ.out⟩
   ·have hd0:decide (gen1 < 0)=false:=decide_eq_false hg0;by_cases hg1:gen1 >= 1048576
    ·have hd1:decide (gen1 >= 1048576)=true:=decide_eq_true hg1;have hd1':decide (1048576<=gen1)=true:=decide_eq_true hg1;clear hg0 hg1;go_wp2_with fail
     refine (hworks.out _).mono ?_;rintro e wz ⟨rfl,hbz⟩;have HBZ:=Lib.hid (HWB.out.trans (hbz.mono HWB.out.size));clear hbz;go_wp2;go_ret;exact ⟨rfl,HBZ.out⟩
    ·obtain ⟨g,hgg⟩:∃ g:Nat,gen1=(g:Int):=⟨gen1.toNat,by omega⟩;subst hgg;clear hd0;have HGL:Hid (g < 1048576):=Lib.hid (by omega);have hd0:decide ((g:Int) < 0)=false:=decide_eq_false hg0;have hd1:decide ((g:Int) >= 1048576)=false:=decide_eq_false hg1;have hd1':decide ((1048576:Int)<=(g:Int))=false:=decide_eq_false (by omega);have hd1'':decide (1048576<=g)=false:=decide_eq_false (by omega);obtain ⟨g2,hg2⟩:∃ g2:Nat,g2=g+1:=⟨_,rfl⟩;have hwg:IntKind.i64.wrap ((g:Int)+1)=(g2:Int):=by rw [wrap_in (by omega) (by omega)];omega
     have HGL2:Hid (g2<=1048576):=Lib.hid (by omega);have HGN:Hid (g2≠g):=Lib.hid (by omega);clear hg2;obtain ⟨z,hz⟩:∃ z:Nat,z=fr1 % 40:=⟨_,rfl⟩;obtain ⟨n,hn⟩:∃ n:Nat,n=8+z:=⟨_,rfl⟩;have hz4:z < 40:=by omega
     have hzz:(fr1:Int) % 40=(z:Int):=by omega
     have hzt:(fr1:Int).tmod 40=(z:Int):=by rw [Int.tmod_eq_emod_of_nonneg (by omega)];exact hzz
     have hwf:IntKind.i64.wrap (fr1:Int)=(fr1:Int):=wrap_in (by omega) (by omega);have hwz:IntKind.i64.wrap (z:Int)=(z:Int):=wrap_in (by omega) (by omega);have hsum:(8:Int)+(z:Int)=(n:Int):=by omega
     have hwn:IntKind.i64.wrap (n:Int)=(n:Int):=wrap_in (by omega) (by omega);have hn8:8<=n:=by omega
     have hn4:n<=4096:=by omega
     clear hn hz hg0 hg1;have HPW:Hid (PowAt W0):=Lib.hid (HP.out.kept (HB0.out.block _ HP.out.lt));have HES:es1.length<=300:=by rw [<- HEL1.out];exact h1
     have HVS1:vs1.length<=100:=by rw [<- HVL1.out];exact h2
     have HVS2:vs2.length<=100:=by rw [<- HVL2.out];exact h4
     have HES':=Lib.hid HES;have HVS1':=Lib.hid HVS1;have HVS2':=Lib.hid HVS2;clear HES HVS1 HVS2;go_wp2_with fail
     refine (raw_any HW n (by omega) hn4 _ es1 wb (HE1.out.below HWB.out) (by have:=HES'.out;omega)).mono ?_;rintro e w1 ⟨db,pb,o1,d1,L1,rfl,hh1,hr1⟩;have HH1:=Lib.hid (hh1.rebase HBB.out);have HR1:=Lib.hid hr1;obtain ⟨flx,hflx⟩:=hr1.1;have HFX:=Lib.hid hflx;have HVA1:=Lib.hid ((HV1.out.below HWB.out).below hh1.below);clear hh1 hr1 hflx a0 a1 a2 a3 b0 b1 b2 b3;unfold ptrTo at *;go_wp2;refine wp_region_relTail (Below w1.heap.size w1) (apartRel bx w1.heap.size (g:Int) (.pointer (some ⟨pb,0,none⟩)) (.slice va1 V1 vc1) vs1) 10 (by kernel_rfl) (by kernel_rfl) (Below.refl _ _).drew (fun w1 w2 h1 h2=>h1.trans (h2.mono h1.size)) apartRel_on ?_ ?_
     ·intro i o ho a W hC hdep;obtain ⟨⟨a0,a1,a2,a3⟩,-⟩:=HK.out W (HH1.out.below.trans (hC.mono HH1.out.below.size));match i,ho with
      | 0,ho=>
        cases ho;have h0:=hdep.old 6 rfl rfl;refine ⟨rfl,step_val (v:=.pointer (some ⟨pb,0,none⟩)) (w':=W) ?_ (Below.refl _ _) rfl⟩;go_simp
      | 1,ho=>
        cases ho;obtain ⟨u,hu,rfl⟩:=hdep.get 0 rfl rfl rfl;refine ⟨rfl,step_val (v:=.bool false) (w':=W) ?_ (Below.refl _ _) rfl⟩;go_simp
      | 2,ho=>
        cases ho;obtain ⟨u,hu,rfl⟩:=hdep.get 1 rfl rfl rfl;refine ⟨rfl,step_val (v:=.bool false) (w':=W) ?_ (Below.refl _ _) rfl⟩;go_simp
      | 3,ho=>
        cases ho;obtain ⟨u,hu,rfl⟩:=hdep.get 2 rfl rfl rfl;have h0:=hdep.old 6 rfl rfl;refine ⟨want_of rfl rfl rfl hu,step_val (v:=.pointer (some ⟨pb,0,none⟩)) (w':=W) ?_ (Below.refl _ _) rfl⟩;go_simp
      | 4,ho=>
        cases ho;obtain ⟨u,hu,rfl⟩:=hdep.get 2 rfl rfl rfl;have h0:=hdep.old 2 rfl rfl;refine ⟨want_of rfl rfl rfl hu,step_val (v:=.pointer (some ⟨bx,2,none⟩)) (w':=W) ?_ (Below.refl _ _) rfl⟩;go_simp
      | 5,ho=>
        cases ho;obtain ⟨u,hu,rfl⟩:=hdep.get 2 rfl rfl rfl;obtain ⟨u4,hu4,rfl⟩:=hdep.get 4 rfl rfl rfl;refine ⟨want_of rfl rfl rfl hu,step_val (v:=.int .i64 (g:Int)) (w':=W) ?_ (Below.refl _ _) rfl⟩;go_simp
      | 6,ho=>
        cases ho;obtain ⟨u,hu,rfl⟩:=hdep.get 2 rfl rfl rfl;refine ⟨want_of rfl rfl rfl hu,step_val (v:=.slice (some ⟨W.heap.size,0,none⟩) 0 0) (w':=W.alloc (.cells #[] 36)) ?_ ((Below.refl _ _).alloc (Nat.le_refl _) _) ⟨W.heap.size,rfl,hC.size,by simp⟩⟩;go_simp
      | 7,ho=>
        cases ho;obtain ⟨u,hu,rfl⟩:=hdep.get 2 rfl rfl rfl;have h0:=hdep.old 2 rfl rfl;refine ⟨want_of rfl rfl rfl hu,step_val (v:=.pointer (some ⟨bx,1,none⟩)) (w':=W) ?_ (Below.refl _ _) rfl⟩;go_simp
      | 8,ho=>
        cases ho;obtain ⟨u,hu,rfl⟩:=hdep.get 2 rfl rfl rfl;obtain ⟨u4,hu4,rfl⟩:=hdep.get 7 rfl rfl rfl;refine ⟨want_of rfl rfl rfl hu,step_val (v:=.slice va1 V1 vc1) (w':=W) ?_ (Below.refl _ _) rfl⟩;go_simp
      | 9,ho=>
        cases ho;obtain ⟨u,hu,rfl⟩:=hdep.get 2 rfl rfl rfl;obtain ⟨u3,hu3,q,rfl,hq1,hq2⟩:=hdep.get 6 rfl rfl rfl;obtain ⟨u5,hu5,rfl⟩:=hdep.get 8 rfl rfl rfl;obtain ⟨v',W',hr,hb,hvs,hbl⟩:=run_append_verts (W:=W) q 22 _ vs1 (HVA1.out.below hC) (by have:=HVS1'.out;omega);refine ⟨want_of rfl rfl rfl hu,step_val (v:=v') (w':=W') ?_ hb ⟨hvs,fun x hx=>?_⟩⟩
        ·exact step_append_verts rfl (tmps_getD hu3) (tmps_getD hu5) hr
        ·rcases hbl x hx with rfl | ⟨q1,q2⟩
         ·exact ⟨hq1,Nat.lt_of_lt_of_le hq2 hb.size⟩
         ·exact ⟨Nat.le_trans hC.size q1,q2⟩
      | _+10,ho=>cases ho
     ·intro us w2 hb2 hl hu;match us,hl with
      | [u0,u1,u2,u3,u4,u5,u6,u7,u8,u9],_=>
        obtain rfl:=hu 0 u0 rfl;obtain rfl:=hu 1 u1 rfl;obtain rfl:=hu 2 u2 rfl;obtain rfl:=hu 3 u3 rfl;obtain rfl:=hu 4 u4 rfl;obtain rfl:=hu 5 u5 rfl;obtain rfl:=hu 7 u7 rfl;obtain rfl:=hu 8 u8 rfl;have h9:VertsAt w2 u9 vs1/\∀ x,u9.ownBlock=some x->w1.heap.size<=x/\x < w2.heap.size:=hu 9 u9 rfl;have hv9:=h9.1;have ho9:=h9.2;clear h9;have HH2:=Lib.hid (HH1.out.later hb2);have HFREE:Hid (∀ c k,mget L1 (sName c k)=none):=Lib.hid (fun c k=>HR1.out.2.1 _ (nmX_ne c k));have hmk:=Lib.hid (held_make2 HW HJS HH2.out hn8 HFX.out (HH2.out.gen (Nat.le_of_lt HGL.out) HPW.out) (by have:=HES'.out;omega) (fun c=>HFREE.out c g) (fun k=>HR1.out.2.1 _ (nmX_t k)) hv9 (fun x hx=>HH1.out.pool.fresh (ho9 x hx).1) (by have:=HR1.out.2.2;have:=HES'.out;have:=HVS1'.out;omega) (by have:=HVS1'.out;omega));clear hu hl hb2 hv9 ho9;unfold nmX ptrTo at hmk;simp only [relPut,List.take_succ_cons,List.take_zero,List.drop_succ_cons,List.drop_zero];go_simp;go_wp2_with fail
        refine hmk.out.mono ?_;rintro e w3 ⟨d3,o3,rfl,hh3,-⟩;have HH3:=Lib.hid hh3;obtain ⟨f1,f2,f3⟩:=makeL_files L1 g es1 vs1;have HN2:Hid (need (makeL L1 g es1 vs1)<=4000):=Lib.hid (Nat.le_trans (makeL_need _ _ _ _) (by have:=HR1.out.2.2;have:=HES'.out;have:=HVS1'.out;omega));have HFE:=Lib.hid f1;have HFR:=Lib.hid f2;have HFV:=Lib.hid f3;have HX2:Hid (mget (makeL L1 g es1 vs1) nmX=some (edgeFile es1 flx)):=Lib.hid (by rw [makeL_get _ _ _ _ _ (nmX_ne _ _).symm (nmX_ne _ _).symm (nmX_ne _ _).symm];exact HFX.out);have HFREE2:Hid (∀ c,mget (makeL L1 g es1 vs1) (sName c g2)=none):=Lib.hid (fun c=>by rw [makeL_get _ _ _ _ _ (sName_gen_ne HGN.out) (sName_gen_ne HGN.out) (sName_gen_ne HGN.out)];exact HFREE.out c _);have HNT2:Hid (∀ k,mget (makeL L1 g es1 vs1) (tName k)=none):=Lib.hid (fun k=>by rw [makeL_get _ _ _ _ _ (fun e=>tName_sName 101 (by decide) g k e.symm) (fun e=>tName_sName 114 (by decide) g k e.symm) (fun e=>tName_sName 118 (by decide) g k e.symm)];exact HR1.out.2.1 _ (nmX_t k));have HLEN2:Hid ((makeL L1 g es1 vs1).length=4):=Lib.hid (by rw [makeL_len (fun c=>HFREE.out c g),rawL_one HR1.out HH2.out.pool.keys]);have HWHO:Hid (∀ x f,mget (makeL L1 g es1 vs1) x=some f->x=nmX\/((x=sName 101 g\/x=sName 114 g\/x=sName 118 g)/\∃ ps,f=.inl (ps,true))):=Lib.hid (fun x f hx=>by
         by_cases e1:x=sName 101 g
         ·rw [e1,f1] at hx;exact .inr ⟨.inl e1,_,(Option.some.inj hx).symm⟩
         ·by_cases e2:x=sName 114 g
          ·rw [e2,f2] at hx;exact .inr ⟨.inr (.inl e2),_,(Option.some.inj hx).symm⟩
          ·by_cases e3:x=sName 118 g
           ·rw [e3,f3] at hx;exact .inr ⟨.inr (.inr e3),_,(Option.some.inj hx).symm⟩
           ·left;rw [makeL_get _ _ _ _ _ e1 e2 e3] at hx;apply Classical.byContradiction;intro hne;rw [HR1.out.2.1 x hne] at hx;cases hx)
        clear hh3 f1 f2 f3 hmk HH1 HH2 HFREE HFX;generalize makeL L1 g es1 vs1=L2 at *;have hfi:=Lib.hid (kept_files HH3.out.kept (by rw [HLEN2.out];decide));unfold ptrTo at hfi;go_wp2_with fail
        refine hfi.out.mono ?_;rintro e w4 ⟨v4,l4,rfl,hfa4,hh4,hb4,hl4,-,hnm4,he4⟩;have HFA4:=Lib.hid hfa4;have HH4:=Lib.hid hh4.held;have HNM4:=Lib.hid hnm4;have HBY4:Hid (∀ p∈l4,∀ ps,mget L2 p.1=some (.inl (ps,true))->p.2.2=pagesFrom (tagOf p.1) 0 ps):=Lib.hid (fun p hp ps hL=>hh4.told he4 hp hL);have HL4:Hid (l4.length=4):=Lib.hid (hl4.trans HLEN2.out);have HVA4:=Lib.hid (((HV2.out.below HB0.out).below hh4.held.below));have HFR4:Hid (∀ x,w3.heap.size<=x->o3 x=none):=Lib.hid (fun x hx=>HH3.out.pool.fresh hx);clear hfa4 hh4 hb4 hl4 hnm4 he4 hfi HH3;go_wp2;refine wp_region_relTail (Below w4.heap.size w4) (apartRel2 bx by' w4.heap.size (g:Int) (g2:Int) (.pointer (some ⟨pb,0,none⟩)) (.slice va2 V2 vc2) vs2) 8 (by kernel_rfl) (by kernel_rfl) (Below.refl _ _).drew (fun w1 w2 h1 h2=>h1.trans (h2.mono h1.size)) apartRel2_on ?_ ?_
        ·intro i o ho a W hC hdep;obtain ⟨⟨a0,a1,a2,a3⟩,b0,b1,b2,b3⟩:=HK.out W (HH4.out.below.trans (hC.mono HH4.out.below.size));match i,ho with
         | 0,ho=>
           cases ho;have h0:=hdep.old 6 rfl rfl;refine ⟨rfl,step_val (v:=.pointer (some ⟨pb,0,none⟩)) (w':=W) ?_ (Below.refl _ _) rfl⟩;go_simp
         | 1,ho=>
           cases ho;have h0:=hdep.old 2 rfl rfl;refine ⟨rfl,step_val (v:=.pointer (some ⟨bx,2,none⟩)) (w':=W) ?_ (Below.refl _ _) rfl⟩;go_simp
         | 2,ho=>
           cases ho;obtain ⟨u,hu,rfl⟩:=hdep.get 1 rfl rfl rfl;refine ⟨rfl,step_val (v:=.int .i64 (g:Int)) (w':=W) ?_ (Below.refl _ _) rfl⟩;go_simp
         | 3,ho=>
           cases ho;obtain ⟨u,hu,rfl⟩:=hdep.get 2 rfl rfl rfl;refine ⟨rfl,step_val (v:=.int .i64 (g2:Int)) (w':=W) ?_ (Below.refl _ _) rfl⟩;go_simp
         | 4,ho=>
           cases ho;refine ⟨rfl,step_val (v:=.slice (some ⟨W.heap.size,0,none⟩) 0 0) (w':=W.alloc (.cells #[] 36)) ?_ ((Below.refl _ _).alloc (Nat.le_refl _) _) ⟨W.heap.size,rfl,hC.size,by simp⟩⟩;go_simp
         | 5,ho=>
           cases ho;have h0:=hdep.old 3 rfl rfl;refine ⟨rfl,step_val (v:=.pointer (some ⟨by',1,none⟩)) (w':=W) ?_ (Below.refl _ _) rfl⟩;go_simp
         | 6,ho=>
           cases ho;obtain ⟨u,hu,rfl⟩:=hdep.get 5 rfl rfl rfl;refine ⟨rfl,step_val (v:=.slice va2 V2 vc2) (w':=W) ?_ (Below.refl _ _) rfl⟩;go_simp
         | 7,ho=>
           cases ho;obtain ⟨u3,hu3,q,rfl,hq1,hq2⟩:=hdep.get 4 rfl rfl rfl;obtain ⟨u5,hu5,rfl⟩:=hdep.get 6 rfl rfl rfl;obtain ⟨v',W',hr,hb,hvs,hbl⟩:=run_append_verts (W:=W) q 22 _ vs2 (HVA4.out.below hC) (by have:=HVS2'.out;omega);refine ⟨rfl,step_val (v:=v') (w':=W') ?_ hb ⟨hvs,fun x hx=>?_⟩⟩
           ·exact step_append_verts rfl (tmps_getD hu3) (tmps_getD hu5) hr
           ·rcases hbl x hx with rfl | ⟨q1,q2⟩
            ·exact ⟨hq1,Nat.lt_of_lt_of_le hq2 hb.size⟩
            ·exact ⟨Nat.le_trans hC.size q1,q2⟩
         | _+8,ho=>cases ho
        ·intro us w5 hb5 hl hu;match us,hl with
         | [u0,u1,u2,u3,u4,u5,u6,u7],_=>
           obtain rfl:=hu 0 u0 rfl;obtain rfl:=hu 1 u1 rfl;obtain rfl:=hu 2 u2 rfl;obtain rfl:=hu 3 u3 rfl;obtain rfl:=hu 5 u5 rfl;obtain rfl:=hu 6 u6 rfl;have h9:VertsAt w5 u7 vs2/\∀ x,u7.ownBlock=some x->w4.heap.size<=x/\x < w5.heap.size:=hu 7 u7 rfl;have hv7:=h9.1;have ho7:=h9.2;clear h9;have HH5:=Lib.hid (HH4.out.later hb5);have HFA5:=Lib.hid (HFA4.out.below hb5);have hmk:=Lib.hid (held_make2 HW HJS HH5.out hn8 HX2.out (HH5.out.gen HGL2.out HPW.out) (by have:=HES'.out;omega) HFREE2.out HNT2.out hv7 (fun x hx=>HH4.out.pool.fresh (ho7 x hx).1) (by have:=HN2.out;have:=HES'.out;have:=HVS2'.out;omega) (by have:=HVS2'.out;omega));clear hu hl hb5 hv7 ho7;unfold nmX ptrTo at hmk;simp only [relPut,List.take_succ_cons,List.take_zero,List.drop_succ_cons,List.drop_zero];go_simp;go_wp2_with fail
           refine hmk.out.mono ?_;rintro e w6 ⟨d6,o6,rfl,hh6,hm6⟩;have HH6:=Lib.hid hh6;have HFA6:=Lib.hid (HFA5.out.moved hm6 HFR4.out);have HFR6:Hid (∀ x,w3.heap.size<=x->x < w5.heap.size->o6 x=none):=Lib.hid (fun x h1 h2=>hm6.free h2 (HFR4.out x h1));obtain ⟨f1,f2,f3⟩:=makeL_files L2 g2 es1 vs2;have HGE:=Lib.hid f1;have HGR:=Lib.hid f2;have HGV:=Lib.hid f3;have HSAME:Hid (∀ c,mget (makeL L2 g2 es1 vs2) (sName c g)=mget L2 (sName c g)):=Lib.hid (fun c=>makeL_get _ _ _ _ _ (sName_gen_ne HGN.out.symm) (sName_gen_ne HGN.out.symm) (sName_gen_ne HGN.out.symm));have HX3:Hid (mget (makeL L2 g2 es1 vs2) nmX=some (edgeFile es1 flx)):=Lib.hid (by rw [makeL_get _ _ _ _ _ (nmX_ne _ _).symm (nmX_ne _ _).symm (nmX_ne _ _).symm];exact HX2.out);have HN3:Hid (need (makeL L2 g2 es1 vs2)<=131072):=Lib.hid (Nat.le_trans (makeL_need _ _ _ _) (by have:=HN2.out;have:=HES'.out;have:=HVS2'.out;omega));have HLEN3:Hid ((makeL L2 g2 es1 vs2).length=7):=Lib.hid (by rw [makeL_len HFREE2.out,HLEN2.out]);clear hh6 hm6 f1 f2 f3 hmk HH4 HH5 HFA4 HFA5;generalize makeL L2 g2 es1 vs2=L3 at *;have hfi:=Lib.hid (kept_files HH6.out.kept (by rw [HLEN3.out];decide));unfold ptrTo at hfi;go_wp2_with fail
           refine hfi.out.mono ?_;rintro e w7 ⟨v7,l7,rfl,hfa7,hh7,hb7,hl7,-,hnm7,he7⟩;have HFA7:=Lib.hid hfa7;have HFB7:=Lib.hid (HFA6.out.below hb7);have HH7:=Lib.hid hh7.held;have HBY7:Hid (∀ p∈l7,∀ ps,mget L3 p.1=some (.inl (ps,true))->p.2.2=pagesFrom (tagOf p.1) 0 ps):=Lib.hid (fun p hp ps hL=>hh7.told he7 hp hL);have HNM7:=Lib.hid hnm7;have HL7:Hid (l7.length=7):=Lib.hid (hl7.trans HLEN3.out);clear hfa7 hh7 hb7 hl7 hnm7 he7 hfi HH6 HFA6;have HFO:Hid (∀ W,Below w7.heap.size w7 W->∀ (i:Nat) (p:TFile),l4[i]? = some p->Calls Tryz.prog 50 #[v7, .string p.1] W (FileOfPost13 W l7 p.1)):=Lib.hid (fun W hW i p hp=>fileOf13_any (HFA7.out.below hW) (by rw [HL7.out];decide) p.1 (by
            have h1:=(HNM4.out p.1).1 (List.mem_map.2 ⟨p,List.mem_of_getElem? hp,rfl⟩);obtain ⟨f,hf⟩:=Option.isSome_iff_exists.1 h1;rw [HNM7.out];rcases HWHO.out _ _ hf with e | ⟨e | e | e,-⟩<;>rw [e]
            ·rw [HX3.out];rfl
            ·rw [HSAME.out,HFE.out];rfl
            ·rw [HSAME.out,HFR.out];rfl
            ·rw [HSAME.out,HFV.out];rfl))
           have HSB:Hid (∀ (p q:TFile),p∈l4->q∈l7->q.1=p.1->p.1≠nmX->∃ bs,∀ W,Below w7.heap.size w7 W->Rd W p.2.1 bs/\Rd W q.2.1 bs):=Lib.hid (fun p q hp hq hpq hne=>by
            have h1:=(HNM4.out p.1).1 (List.mem_map.2 ⟨p,hp,rfl⟩);obtain ⟨f,hf⟩:=Option.isSome_iff_exists.1 h1;obtain ⟨hc,ps,rfl⟩:=(HWHO.out _ _ hf).resolve_left hne;have hps:mget L3 p.1=some (.inl (ps,true)):=by
             rw [<- hf];rcases hc with e | e | e<;>rw [e,HSAME.out]
            have e1:=HBY4.out p hp ps hf;have e2:=HBY7.out q hq ps (by rw [hpq];exact hps);rw [hpq] at e2;refine ⟨pagesFrom (tagOf p.1) 0 ps,fun W hW=>⟨?_,?_⟩⟩
            ·rw [<- e1];exact (Rd_own (HFB7.out.each p hp)).below hW
            ·rw [<- e2];exact (Rd_own (HFA7.out.each q hq)).below hW)
           rcases HFB7.out.shape with ⟨hnil,-⟩ | ⟨g4,c4,hv4,-⟩
           ·have:=HL4.out;rw [hnil] at this;cases this
           rw [HL4.out] at hv4;subst hv4;have HP4:Hid (∀ i,i < 4->∃ p,l4[i]? = some p):=Lib.hid (fun i hi=>⟨_,List.getElem?_eq_getElem (by rw [HL4.out];exact hi)⟩);go_wp2;go_loopw [9] (fun iv W=>∃ i:Nat,i<=4/\iv=.int .i64 (i:Int)/\Below w7.heap.size w7 W) (fun iv _=>4 - (intOf iv).toNat)
           case atStart=>exact ⟨0,Nat.zero_le _,rfl,Below.refl _ _⟩
           case round=>
            generalize wr=W at *;obtain ⟨i,hi,rfl,hbw⟩:=hrel;have HBW:=Lib.hid hbw;clear hbw;by_cases hlt:i < 4
            ·obtain ⟨p,hp⟩:=HP4.out i hlt;have hfo:=Lib.hid (HFO.out W HBW.out i p hp);have HPM:=Lib.hid (List.mem_of_getElem? hp);have HCP:Hid (∀ W',Below W.heap.size W W'->W'.cell? ⟨g4,i*2,none⟩=some (.string p.1)/\W'.cell? ⟨g4,i*2+1,none⟩=some p.2.1):=Lib.hid (fun W' hW'=>(HFB7.out.below (HBW.out.trans (hW'.mono HBW.out.size))).cells hp);obtain ⟨e0,e1⟩:=HCP.out W (Below.refl _ _);clear hp;go_wp2_with fail
             refine hfo.out.mono ?_;rintro e w' ⟨q,hq,hqn,rfl,rfl⟩;have HQM:=Lib.hid hq;have HQN:=Lib.hid hqn;clear hq hqn hfo e0 e1;by_cases hnx:p.1=nmX
             ·rw [hnx] at HCP;unfold nmX at HCP;go_wp2_with fail
              refine wp_region_quiet_in (Below W.heap.size W) (by kernel_rfl) (by kernel_rfl) ((Below.refl _ _).drew) ?_;iterate 7 (refine q_op rfl (fun w' hw'=>(by go_simp<;>rfl)) (fun K hK=>?_);go_simp;refine hK _ ?_;clear hK K)
              refine q_op rfl (fun w' hw'=>(by obtain ⟨e0,e1⟩:=HCP.out w' hw';go_simp<;>rfl)) (fun K hK=>?_);go_simp;refine hK _ ?_;clear hK K;iterate 2 (refine q_op rfl (fun w' hw'=>(by go_simp<;>rfl)) (fun K hK=>?_);go_simp;refine hK _ ?_;clear hK K)
              iterate 9 go_big_quiet_skip
              iterate 2 (refine q_op rfl (fun w' hw'=>(by go_simp<;>rfl)) (fun K hK=>?_);go_simp;refine hK _ ?_;clear hK K)
              refine wpQuiet_nil ?_;intro W3 hb3;have HB3:=Lib.hid (HBW.out.trans (hb3.mono HBW.out.size));clear hb3;go_wp2;go_roundw
              case rel=>exact ⟨i+1,by omega,by go_num,HB3.out⟩
              case measure=>simp [intOf];omega
             ·obtain ⟨bs,hbs⟩:=HSB.out p q HPM.out HQM.out HQN.out hnx;have HBS:=Lib.hid hbs;have hb:=bytes_ne hnx;unfold nmX at hb hnx;have hb2:(p.1.toList == [120])=false:=by simpa [ByteArray.toList_eq] using hb
              have hb3:decide (p.1=⟨#[120]⟩)=false:=decide_eq_false hnx;have HPV:=Lib.hid (hbs W HBW.out);clear hbs hnx;generalize p.1=pn at *;generalize p.2.1=pv at *;generalize q.2.1=qv at *;go_wp2_with fail
              refine wp_region_quiet_in (Below W.heap.size W) (by kernel_rfl) (by kernel_rfl) ((Below.refl _ _).drew) ?_;iterate 7 (refine q_op rfl (fun w' hw'=>(by go_simp<;>rfl)) (fun K hK=>?_);go_simp;refine hK _ ?_;clear hK K)
              refine q_op rfl (fun w' hw'=>(by obtain ⟨e0,e1⟩:=HCP.out w' hw';go_simp<;>rfl)) (fun K hK=>?_);go_simp;refine hK _ ?_;clear hK K;refine q_op rfl (fun w' hw'=>(by have z:=hb;have z2:=hb2;have z3:=hb3;go_simp<;>rfl)) (fun K hK=>?_);go_simp;refine hK _ ?_;clear hK K;iterate 2 (refine q_op rfl (fun w' hw'=>(by go_simp<;>rfl)) (fun K hK=>?_);go_simp;refine hK _ ?_;clear hK K)
              refine q_op (v:=.string ⟨bs.toArray⟩) rfl (fun w' hw'=>(by go_simp<;>(rw [rd_string (HBS.out w' (HBW.out.trans (hw'.mono HBW.out.size))).2];rfl))) (fun K hK=>?_);go_simp;refine hK _ ?_;clear hK K;iterate 4 (refine q_op rfl (fun w' hw'=>(by go_simp<;>rfl)) (fun K hK=>?_);go_simp;refine hK _ ?_;clear hK K)
              refine q_op rfl (fun w' hw'=>(by obtain ⟨e0,e1⟩:=HCP.out w' hw';go_simp<;>rfl)) (fun K hK=>?_);go_simp;refine hK _ ?_;clear hK K;refine q_op (v:=.string ⟨bs.toArray⟩) rfl (fun w' hw'=>(by go_simp<;>(rw [rd_string (HBS.out w' (HBW.out.trans (hw'.mono HBW.out.size))).1];rfl))) (fun K hK=>?_);go_simp;refine hK _ ?_;clear hK K;iterate 3 (refine q_op rfl (fun w' hw'=>(by go_simp<;>rfl)) (fun K hK=>?_);go_simp;refine hK _ ?_;clear hK K)
              refine wpQuiet_nil ?_;intro W3 hb3;have HB3:=Lib.hid (HBW.out.trans (hb3.mono HBW.out.size));clear hb3;go_wp2;go_roundw
              case rel=>exact ⟨i+1,by omega,by go_num,HB3.out⟩
              case measure=>simp [intOf];omega
            ·obtain rfl:i=4:=by omega
             clear hlt hi;have HH8:=Lib.hid (HH7.out.later HBW.out);have hop:=Lib.hid (held_openM HW HH8.out HN3.out (HH8.out.gen (Nat.le_of_lt HGL.out) HPW.out) (vs:=vs1) (fl0:=true) (by rw [HSAME.out];exact HFV.out) (fl1:=true) (by rw [HSAME.out];exact HFE.out) (fl2:=true) (by rw [HSAME.out];exact HFR.out));rw [<- HVL1.out] at hop;obtain ⟨⟨a0,a1,a2,a3⟩,b0,b1,b2,b3⟩:=HK.out W HH8.out.below;unfold ptrTo at hop;go_wp2_with fail
             refine hop.out.mono ?_;rintro e w8 ⟨gb1,ob1,ib1,vb1,d8,o8,rfl,hh8,hg8,-⟩;have HH9:=Lib.hid hh8;have HG9:=Lib.hid hg8;have hop2:=Lib.hid (held_openM HW hh8 HN3.out (hh8.gen HGL2.out HPW.out) HGV.out HGE.out HGR.out);rw [<- HVL2.out] at hop2;clear hh8 hg8 hop a0 a1 a2 a3 b0 b1 b2 b3 HH8;obtain ⟨⟨a0,a1,a2,a3⟩,b0,b1,b2,b3⟩:=HK.out w8 HH9.out.below;unfold ptrTo at hop2;go_wp2_with fail
             refine hop2.out.mono ?_;rintro e w9 ⟨gb2,ob2,ib2,vb2,d9,o9,rfl,hh9,hg9,hm9⟩;have HHA:=Lib.hid hh9;have HGA:=Lib.hid (HG9.out.moved hm9);have HGB:=Lib.hid hg9;clear hh9 hg9 hm9 hop2 a0 a1 a2 a3 b0 b1 b2 b3 HH9 HG9;have HSZ1:Hid (∀ W',Below w9.heap.size w9 W'->Calls Tryz.prog 19 #[ptrTo gb1] W' fun e w'=>e=.returned (.int .i64 (V1:Int))/\W'=w'):=Lib.hid (fun W' hW'=>graphSize_any (HGA.out.below hW'));have HSZ2:Hid (∀ W',Below w9.heap.size w9 W'->Calls Tryz.prog 19 #[ptrTo gb2] W' fun e w'=>e=.returned (.int .i64 (V2:Int))/\W'=w'):=Lib.hid (fun W' hW'=>graphSize_any (HGB.out.below hW'));have HKC:Hid (∀ W',Below w9.heap.size w9 W'->W'.cell? ⟨bx,1,none⟩=some (.slice va1 V1 vc1)/\W'.cell? ⟨by',1,none⟩=some (.slice va2 V2 vc2)/\W'.cell? ⟨bx,2,none⟩=some (.int .i64 (g:Int))):=Lib.hid (fun W' hW'=>by
              obtain ⟨⟨a0,a1,a2,a3⟩,b0,b1,b2,b3⟩:=HK.out W' (HHA.out.below.trans (hW'.mono HHA.out.below.size));exact ⟨a1,b1,a2⟩)
             unfold ptrTo at HSZ1 HSZ2;go_wp2_with fail
             refine wp_region_mid (Below w9.heap.size w9) 26 rfl (by kernel_rfl) (by kernel_rfl) ((Below.refl _ _).drew) ?_;simp only [List.take_succ_cons,List.take_zero];iterate 8 (refine q_op rfl (fun w' hw'=>(by go_simp<;>rfl)) (fun K hK=>?_);go_simp;refine hK _ ?_;clear hK K)
             refine q_call rfl (fun w' hw'=>(by go_simp<;>rfl)) (fun w' hw'=>((HSZ1.out w' hw').mono (fun e w'' h=>⟨h.1,h.2 ▸ hw'⟩))) (fun K hK=>?_);go_simp;refine hK _ ?_;clear hK K;refine q_op rfl (fun w' hw'=>(by go_simp<;>rfl)) (fun K hK=>?_);go_simp;refine hK _ ?_;clear hK K;refine q_op rfl (fun w' hw'=>(by obtain ⟨k1,k2,k3⟩:=HKC.out w' hw';go_simp<;>rfl)) (fun K hK=>?_);go_simp;refine hK _ ?_;clear hK K;iterate 5 (refine q_op rfl (fun w' hw'=>(by go_simp<;>rfl)) (fun K hK=>?_);go_simp;refine hK _ ?_;clear hK K)
             refine q_call rfl (fun w' hw'=>(by go_simp<;>rfl)) (fun w' hw'=>((HSZ2.out w' hw').mono (fun e w'' h=>⟨h.1,h.2 ▸ hw'⟩))) (fun K hK=>?_);go_simp;refine hK _ ?_;clear hK K;refine q_op rfl (fun w' hw'=>(by go_simp<;>rfl)) (fun K hK=>?_);go_simp;refine hK _ ?_;clear hK K;refine q_op rfl (fun w' hw'=>(by obtain ⟨k1,k2,k3⟩:=HKC.out w' hw';go_simp<;>rfl)) (fun K hK=>?_);go_simp;refine hK _ ?_;clear hK K;iterate 6 (refine q_op rfl (fun w' hw'=>(by go_simp<;>rfl)) (fun K hK=>?_);go_simp;refine hK _ ?_;clear hK K)
             refine q_op rfl (fun w' hw'=>(by obtain ⟨k1,k2,k3⟩:=HKC.out w' hw';go_simp<;>rfl)) (fun K hK=>?_);go_simp;refine hK _ ?_;clear hK K;refine wpQuiet_nil ?_;intro wA hwA;refine ⟨_,_,rfl,(by go_simp<;>exact ⟨rfl,rfl⟩),?_⟩;have HHB:=Lib.hid (HHA.out.later hwA);have HGA2:=Lib.hid (HGA.out.below hwA);have HGB2:=Lib.hid (HGB.out.below hwA);refine (held_there HW HHB.out HN3.out hn8 (HHB.out.gen (Nat.le_of_lt HGL.out) HPW.out) HX3.out (by rw [HSAME.out,HFE.out];rfl) (.slice none 0 0)).mono ?_;rintro e wB ⟨dB,oB,rfl,hmB⟩;have HHC:=Lib.hid (HHB.out.moved hmB (fun _ h=>h.elim));have HGA3:=Lib.hid (HGA2.out.moved hmB);have HGB3:=Lib.hid (HGB2.out.moved hmB);clear hmB hwA HHA HHB HGA HGB HGA2 HGB2 HSZ1 HSZ2 HKC;refine ⟨_,rfl,?_⟩;go_simp;iterate 2 (refine q_op rfl (fun w' hw'=>(by go_simp<;>rfl)) (fun K hK=>?_);go_simp;refine hK _ ?_;clear hK K)
             refine wpQuiet_nil ?_;have hed1:=Lib.hid (held_edges HW HHC.out HN3.out HGA3.out (es:=bestOf false es1) (fl:=true) (by rw [HSAME.out];exact HFE.out));unfold ptrTo at hed1;go_wp2_with fail
             refine hed1.out.mono ?_;rintro e wC ⟨dC,oC,rfl,hmC⟩;have HHD:=Lib.hid (HHC.out.moved hmC (fun _ h=>h.elim));have HGA4:=Lib.hid (HGA3.out.moved hmC);have HGB4:=Lib.hid (HGB3.out.moved hmC);have hed2:=Lib.hid (held_edges HW HHD.out HN3.out HGB4.out HGE.out);clear hmC hed1 HHC HGA3 HGB3;unfold ptrTo at hed2;go_wp2_with fail
             refine hed2.out.mono ?_;rintro e wD ⟨dD,oD,rfl,hmD⟩;have hNl:(bestOf false es1).length<=300:=Nat.le_trans (bestOf_length _ _) HES'.out;generalize hN:(bestOf false es1).length=N at *;have HHE:=Lib.hid (HHD.out.moved hmD (fun _ h=>h.elim));have HGA5:=Lib.hid (HGA4.out.moved hmD);have HGB5:=Lib.hid (HGB4.out.moved hmD);have HXN:Hid (∀ i,i < N->∃ x,(bestOf false es1)[i]? = some x):=Lib.hid (fun i hi=>⟨_,List.getElem?_eq_getElem (by rw [hN];exact hi)⟩);have HEG1:Hid (∀ W o' d' (i:Nat) (x:Edg),Held W0 W pb db n o' d' L3->GraphAt W o' gb1 pb g V1 ob1 ib1 vb1->(bestOf false es1)[i]? = some x->Calls Tryz.prog 24 #[ptrTo gb1, .int .i64 (i:Int)] W fun e w'=>∃ d'' o'',e=.returned (.tuple #[edgVal x, .int .i64 0])/\Moved (fun _=>False) n pb db W o' d' w' o'' d'' L3):=Lib.hid (fun W o' d' i x hh hg hx=>held_edge HW hh HN3.out hg (fl:=true) (by rw [HSAME.out];exact HFE.out) hx);have HEG2:Hid (∀ W o' d' (i:Nat) (x:Edg),Held W0 W pb db n o' d' L3->GraphAt W o' gb2 pb g2 V2 ob2 ib2 vb2->(bestOf false es1)[i]? = some x->Calls Tryz.prog 24 #[ptrTo gb2, .int .i64 (i:Int)] W fun e w'=>∃ d'' o'',e=.returned (.tuple #[edgVal x, .int .i64 0])/\Moved (fun _=>False) n pb db W o' d' w' o'' d'' L3):=Lib.hid (fun W o' d' i x hh hg hx=>held_edge HW hh HN3.out hg HGE.out hx);clear hmD hed2 HHD HGA4 HGB4 hN;unfold ptrTo edgVal at *;go_wp2;go_loopw [18] (fun iv wr=>∃ (i:Nat) (d':Dsk) (o':Owner),i<=N/\iv=.int .i64 (i:Int)/\Held W0 wr pb db n o' d' L3/\GraphAt wr o' gb1 pb g V1 ob1 ib1 vb1/\GraphAt wr o' gb2 pb g2 V2 ob2 ib2 vb2) (fun iv _=>N - (intOf iv).toNat)
             case atStart=>exact ⟨0,dD,oD,Nat.zero_le _,rfl,HHE.out,HGA5.out,HGB5.out⟩
             case round=>
              obtain ⟨i,dE,oE,hi,rfl,hhE,hgE1,hgE2⟩:=hrel;have HHF:=Lib.hid hhE;have HGF1:=Lib.hid hgE1;have HGF2:=Lib.hid hgE2;clear hhE hgE1 hgE2 HHE HGA5 HGB5;by_cases hlt:i < N
              ·obtain ⟨x,hx⟩:=HXN.out i hlt;have HX:=Lib.hid hx;have hcg1:=Lib.hid (HEG1.out wr oE dE i x HHF.out HGF1.out hx);clear hx;go_wp2_with fail
               refine hcg1.out.mono ?_;rintro e wF ⟨dF,oF,rfl,hmF⟩;have hfreeF:oF wF.heap.size=none:=hmF.pool.fresh (Nat.le_refl _);have HHG:=Lib.hid ((HHF.out.moved hmF (fun _ h=>h.elim)).later ((Below.refl _ _).alloc (Nat.le_refl _) (.cells #[.int .u32 (x.t.toNat:Int), .int .u32 (x.h.toNat:Int), .int .u64 (x.x.toNat:Int), .int .u32 (x.m.toNat:Int)] 47)));have HGG1:=Lib.hid ((HGF1.out.moved hmF).below ((Below.refl _ _).alloc (Nat.le_refl _) (.cells #[.int .u32 (x.t.toNat:Int), .int .u32 (x.h.toNat:Int), .int .u64 (x.x.toNat:Int), .int .u32 (x.m.toNat:Int)] 47)));have HGG2:=Lib.hid ((HGF2.out.moved hmF).below ((Below.refl _ _).alloc (Nat.le_refl _) (.cells #[.int .u32 (x.t.toNat:Int), .int .u32 (x.h.toNat:Int), .int .u64 (x.x.toNat:Int), .int .u32 (x.m.toNat:Int)] 47)));have HQG:Hid ((wF.alloc (.cells #[.int .u32 (x.t.toNat:Int), .int .u32 (x.h.toNat:Int), .int .u64 (x.x.toNat:Int), .int .u32 (x.m.toNat:Int)] 47)).heap[wF.heap.size]? = some (.cells #[.int .u32 (x.t.toNat:Int), .int .u32 (x.h.toNat:Int), .int .u64 (x.x.toNat:Int), .int .u32 (x.m.toNat:Int)] 47)):=Lib.hid (heap_alloc_new wF _);clear hmF hcg1 HHF HGF1 HGF2;go_wp2_with fail
               generalize wF.alloc (.cells #[.int .u32 (x.t.toNat:Int), .int .u32 (x.h.toNat:Int), .int .u64 (x.x.toNat:Int), .int .u32 (x.m.toNat:Int)] 47)=wG at *;generalize wF.heap.size=qF at *;refine (HEG2.out wG oF dF i x HHG.out HGG2.out HX.out).mono ?_;rintro e wH ⟨dH,oH,rfl,hmH⟩;have HHH:=Lib.hid (HHG.out.moved hmH (fun _ h=>h.elim));have HGH1:=Lib.hid (HGG1.out.moved hmH);have HGH2:=Lib.hid (HGG2.out.moved hmH);have HQH:Hid (wH.heap[qF]? = some (.cells #[.int .u32 (x.t.toNat:Int), .int .u32 (x.h.toNat:Int), .int .u64 (x.x.toNat:Int), .int .u32 (x.m.toNat:Int)] 47)):=Lib.hid (hmH.heap HQG.out hfreeF (fun h=>h));clear hmH HHG HGG1 HGG2 HQG;have c0:wH.cell? ⟨qF,0,none⟩=some (.int .u32 (x.t.toNat:Int)):=by rw [cells_cell HQH.out];rfl
               have c1:wH.cell? ⟨qF,1,none⟩=some (.int .u32 (x.h.toNat:Int)):=by rw [cells_cell HQH.out];rfl
               have c2:wH.cell? ⟨qF,2,none⟩=some (.int .u64 (x.x.toNat:Int)):=by rw [cells_cell HQH.out];rfl
               have c3:wH.cell? ⟨qF,3,none⟩=some (.int .u32 (x.m.toNat:Int)):=by rw [cells_cell HQH.out];rfl
               have hqF:qF < wH.heap.size:=lt_heap HQH.out;have HHI:=Lib.hid (HHH.out.later ((Below.refl _ _).alloc (Nat.le_refl _) (.cells #[.int .u32 (x.t.toNat:Int), .int .u32 (x.h.toNat:Int), .int .u64 (x.x.toNat:Int), .int .u32 (x.m.toNat:Int)] 47)));have HGI1:=Lib.hid (HGH1.out.below ((Below.refl _ _).alloc (Nat.le_refl _) (.cells #[.int .u32 (x.t.toNat:Int), .int .u32 (x.h.toNat:Int), .int .u64 (x.x.toNat:Int), .int .u32 (x.m.toNat:Int)] 47)));have HGI2:=Lib.hid (HGH2.out.below ((Below.refl _ _).alloc (Nat.le_refl _) (.cells #[.int .u32 (x.t.toNat:Int), .int .u32 (x.h.toNat:Int), .int .u64 (x.x.toNat:Int), .int .u32 (x.m.toNat:Int)] 47)));go_wp2;go_roundw
               case rel=>exact ⟨i+1,dH,oH,by omega,by go_num,HHI.out,HGI1.out,HGI2.out⟩
               case measure=>simp [intOf];omega
              ·obtain rfl:N=i:=by omega
               have HBF:=Lib.hid (HB0.out.trans (HHF.out.below.mono HB0.out.size));clear hlt hi;go_wp2_with fail
               refine (hworks.out _).mono ?_;rintro e wz ⟨rfl,hbz⟩;have HBZ:=Lib.hid (HBF.out.trans (hbz.mono HBF.out.size));clear hbz;go_wp2;go_ret;exact ⟨rfl,HBZ.out⟩
  ·refine (HVY2.out (by omega) wa HWA.out).mono ?_;rintro e wb ⟨rfl,hbb⟩;have HBB:=Lib.hid (HWA.out.trans (hbb.mono HWA.out.size));clear hbb a0 a1 a2 a3 b0 b1 b2 b3 hx2;go_wp2_with fail
   refine (hworks.out _).mono ?_;rintro e wz ⟨rfl,hbz⟩;have HBZ:=Lib.hid (HBB.out.trans (hbz.mono HBB.out.size));clear hbz;go_wp2;go_ret;exact ⟨rfl,HBZ.out⟩
 ·refine (HVY.out (by omega) W0 HB0.out).mono ?_;rintro e wa ⟨rfl,hba⟩;have HBB:=Lib.hid (HB0.out.trans (hba.mono HB0.out.size));clear hba hx1;go_wp2_with fail
  refine (hworks.out _).mono ?_;rintro e wz ⟨rfl,hbz⟩;have HBZ:=Lib.hid (HBB.out.trans (hbz.mono HBB.out.size));clear hbz;go_wp2;go_ret;exact ⟨rfl,HBZ.out⟩
end
end Go.Proofs.YtolieljpnafbhaaGreatDoor
