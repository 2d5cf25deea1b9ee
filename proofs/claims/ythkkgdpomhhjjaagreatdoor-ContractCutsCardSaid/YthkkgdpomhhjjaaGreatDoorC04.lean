/-
  Joined.
-/
import Derived.Test.YthkkgdpomhhjjaaGreatDoorC03
import Derived.Shelf.SlSortCmp.NoneTotal
set_option maxRecDepth 100000
set_option maxHeartbeats 4000000
namespace Go.Proofs.YthkkgdpomhhjjaaGreatDoor
open Go.Proofs.Tryz
section
open Go.RowKit Go.Maps Go.MapKept
open Go.ChangeMaps (setBlock heap_setBlock_same heap_setBlock_other)
theorem Gw:(prog.info? 3).map (fun i=>(i.zero,i.size,i.bytes))=some (some (.int .i64 0),1,8):=by kernel_rfl
def told(fs:List bY)(name:Name)(lo hi:Nat)(k:Nat):List Nat:=(List.range k).filter (fun i=>iz name lo hi (fs.getD i bY.none))
theorem Nv{fs:List bY}{name:Name}{lo hi k:Nat}{f:bY}(h:fs[k]? = some f):told fs name lo hi (k+1)=if iz name lo hi f=true then told fs name lo hi k++[k] else told fs name lo hi k:=by
 unfold told;rw[List.range_succ,List.filter_append,List.filter_cons,pg h];split
 ·rfl
 ·simp
theorem UB{fs:List bY}{name:Name}{lo hi k:Nat}:∀i∈told fs name lo hi k,i<k:=fun i hi=>by
 unfold told at hi;exact List.mem_range.1 (List.mem_filter.1 hi).1
theorem xH(fs:List bY)(name:Name)(lo hi k:Nat):(told fs name lo hi k).length<=k:=by
 unfold told;have:=List.length_filter_le (fun i=>iz name lo hi (fs.getD i bY.none)) (List.range k);simpa using this
theorem C7(fs:List bY)(name:Name)(lo hi:Nat){ls:List Nat}(hp:ls.Perm (told fs name lo hi fs.length))(hr:ls.Pairwise (fun a b=>xE fs a<=xE fs b)):Told fs name lo hi ls:=by
 refine⟨fun i=>?_,hr,hp.nodup_iff.2 ?_⟩
 ·rw[hp.mem_iff];unfold told;rw[List.mem_filter,List.mem_range];constructor
  ·rintro⟨h1,h2⟩;refine⟨fs[i],List.getElem?_eq_getElem h1,?_⟩;rw[pg (List.getElem?_eq_getElem h1)]at h2;exact h2
  ·rintro⟨fr,h1,h2⟩;exact⟨aN h1,by rw[pg h1];exact h2⟩
 ·unfold told;exact List.nodup_range.filter _
def mr(i:Nat):Value:=.int .i64 (i:Int)
theorem Eg{W:World}{bx pb fb n i j ki kj:Nat}(h0:W.cell? ⟨bx,0,none⟩=some (ptrTo pb))(h1:W.cell? ⟨pb,1,none⟩=some (.slice (some ⟨fb,0,none⟩) n n))(hi:i<n)(hj:j<n)(h2:W.cell? ⟨fb,i*7+2,none⟩=some (.int .i64 (ki:Int)))(h3:W.cell? ⟨fb,j*7+2,none⟩=some (.int .i64 (kj:Int)))(TL:ki<65536)(hkj:kj<65536) :
 Calls prog 184 #[.int .i64 (i:Int),.int .i64 (j:Int),.pointer (some ⟨bx,0,none⟩)] W fun e w'=>e=.returned (.int .i64 ((ki:Int)-(kj:Int)))/\∃q,w'=W.drewN q:=by
 unfold ptrTo at h0;have hw:IntKind.i64.wrap ((ki:Int)-(kj:Int))=(ki:Int)-(kj:Int):=ax ae ae;go_enter func184,ntmps184;go_wp2;go_quiet (fail)
 go_wp2;go_ret;exact⟨rfl,_,rfl⟩
theorem Eh{fs:List bY}{name:Name}{lo hi:Nat}{wr:World}{base g cap n hand bx pb fb:Nat}{kOfs:Nat->Nat}(ho:wr.ownsRow base 3 1 (.slice (some ⟨g,0,none⟩) (told fs name lo hi n).length cap) (told fs name lo hi n).length ((told fs name lo hi n).map mr))(hh:hand<n)(hlt:∀i∈told fs name lo hi n,i<n)(hle:(told fs name lo hi n).length<=n)(hn:n<=4096)(h0:wr.cell? ⟨bx,0,none⟩=some (ptrTo pb))(h1:wr.cell? ⟨pb,1,none⟩=some (.slice (some ⟨fb,0,none⟩) n n))(hk:∀i,i<n->wr.cell? ⟨fb,i*7+2,none⟩=some (.int .i64 ((kOfs i:Nat):Int))/\kOfs i<65536)(g1:bx≠g)(g2:pb≠g)(g3:fb≠g) :
 Calls prog 183 #[.slice (some ⟨g,0,none⟩) (told fs name lo hi n).length cap,.func (.func 184) #[] #[.pointer (some ⟨bx,0,none⟩)]] wr fun e w'=>∃ls:List Nat,e=.returned (.tuple #[])/\ls.Perm (told fs name lo hi n) /\
  ls.Pairwise (fun a b=>kOfs a<=kOfs b)/\w'.ownsRow base 3 1 (.slice (some ⟨g,0,none⟩) (told fs name lo hi n).length cap) (told fs name lo hi n).length (ls.map mr)/\aH (·=g) wr w':=by
 generalize told fs name lo hi n=ts at *;letI:Inhabited (Fin n):=⟨⟨hand,hh⟩⟩
 let ss:List (Fin n):=ts.attach.map (fun x=>⟨x.1,hlt x.1 x.2⟩)
 have abW:ss.map (fun x=>x.1)=ts:=by
  simp only[ss,List.map_map,Function.comp_def];exact List.attach_map_subtype_val ts
 have ag1:ss.map (fun x:Fin n=>mr x.1)=ts.map mr:=by
  have:=congrArg (List.map mr) abW;rw[List.map_map]at this;exact this
 have ag2:ss.length=ts.length:=by simp[ss]
 have Yw:∀x y:Fin n,ltOf (fun x y:Fin n=>((kOfs x.1:Nat):Int)-((kOfs y.1:Nat):Int)) x y=decide (kOfs x.1<kOfs y.1):=fun x y=>by
  show decide (((kOfs x.1:Nat):Int)-((kOfs y.1:Nat):Int)<0)=_;by_cases h:kOfs x.1<kOfs y.1
  ·rw[decide_eq_true h,decide_eq_true ae]
  ·rw[decide_eq_false h,decide_eq_false ae]
 have yr:CmpReads prog 184 #[.pointer (some ⟨bx,0,none⟩)] (fun x:Fin n=>mr x.1) (fun x y=>((kOfs x.1:Nat):Int)-((kOfs y.1:Nat):Int)) g 0 ts.length wr:=fun m os dk _ x y=>by
  have ht:aH (·=g) wr (sortWorld (fun x:Fin n=>mr x.1) wr g 0 m dk os):=xG _ dk;exact Eg (ht.cell h0 g1) (ht.cell h1 g2) x.2 y.2 (ht.cell (hk x.1 x.2).1 g3) (ht.cell (hk y.1 y.2).1 g3) (hk x.1 x.2).2 (hk y.1 y.2).2
 refine(Ef (fun x:Fin n=>mr x.1) (fun _=>rfl) (fun x y=>((kOfs x.1:Nat):Int)-((kOfs y.1:Nat):Int)) ⟨fun x=>by rw[Yw];simp,fun x y z h1 h2=>by rw[Yw]at *;simp at *;omega,fun x y z h1 h2=>by rw[Yw]at *;simp at *;omega⟩
  184 #[.pointer (some ⟨bx,0,none⟩)] (ss:=ss) ag2 ae (by rw[ag1];exact ho) (enters_of func184 ag rfl) yr.lays).mono ?_
 rintro e w'⟨rfl,tl,hp,hr,kN,ht⟩;refine⟨tl.map (fun x=>x.1),rfl,?_,?_,?_,ht⟩
 ·rw[<- abW];exact hp.map _
 ·rw[List.pairwise_map];exact hr.imp (fun{a b}h=>by
   have h':¬(((kOfs b.1:Nat):Int)-((kOfs a.1:Nat):Int)<0):=h;show kOfs a.1<=kOfs b.1;omega)
 ·rw[List.map_map];exact kN
def Nw(w:World)(fs:List bY)(name:Name)(lo hi:Nat)(e:Ending)(w':World):Prop:=
 ∃v ls,e=.returned v/\w'.ownsRow w.heap.size 3 1 v ls.length (ls.map mr)/\Told fs name lo hi ls/\Below w.heap.size w w'
theorem C8{w:World}{pb db fb mb:Nat}{o:ar}{l:List iB}{hand mf:Nat}{d:Dsk}(h:br w pb db fb mb o l hand mf d)(hks:∀p∈l,p.2.k<65536)(name:Name)(lo hi:Nat) :
 Calls prog 121 #[ptrTo pb,.string name,.int .i64 (lo:Int),.int .i64 (hi:Int)] w (Nw w (l.map (·.2)) name lo hi):=by
 obtain⟨i0,uV,hz0,hz1,hz2⟩:=info_parts Gw;have H:=aa h;have vO:=aa h.row;have hn:=h.most;have HS:=aa h.shaped;have HKS:=aa hks;have Nu:=h.head.lt;have agX:=h.row.lt;have Gx:=h.hand;obtain⟨⟨-,hc1,-⟩,-⟩:=h.head.cells;clear h hks;unfold ptrTo;generalize hN:l.length=n at *;have HN:=aa hN;clear hN;go_enter func121,ntmps121;have hb1:Below w.heap.size w (w.alloc (.cells #[.pointer (some ⟨pb,0,none⟩)] 72)):=aj.alloc (Nat.le_refl _) _;have hx:=heap_alloc_new w (.cells #[.pointer (some ⟨pb,0,none⟩)] 72);have hsz:w.heap.size<(w.alloc (.cells #[.pointer (some ⟨pb,0,none⟩)] 72)).heap.size:=by simp
 have ni:(w.alloc (.cells #[.pointer (some ⟨pb,0,none⟩)] 72)).cell? ⟨pb,1,none⟩=some (.slice (some ⟨fb,0,none⟩) n n):=by rw[hb1.cell (p:=⟨pb,1,none⟩) Nu];exact hc1
 have nu:=aa (vO.o.below hb1);have cS:=aa hb1;have HX:=aa hx;clear hb1 hx hc1;go_wp2_with fail;generalize w.alloc (.cells #[.pointer (some ⟨pb,0,none⟩)] 72)=W1 at *;go_loopw [9,17] (fun v i wr=>∃k:Nat,k<=n/\i=.int .i64 (k:Int)/\wr.ownsRow (w.heap.size+1) 3 1 v (told (l.map (·.2)) name lo hi k).length ((told (l.map (·.2)) name lo hi k).map mr)/\Below (w.heap.size+1) W1 wr) (fun _ i _=>n-(intOf i).toNat)
 case atStart=>exact⟨0,Nat.zero_le _,rfl,ownsRow_nil _ _ _,Below.refl _ _⟩
 case round=>
  obtain⟨k,hk,rfl,ho,hb⟩:=hrel;by_cases hlt:k<n
  ·obtain⟨a,c,f,hi'⟩:=HS.o.get HN.o hlt;have hrow:dH wr fb l:=nu.o.kept (S:=fun x=>w.heap.size+1<=x) ⟨hb.os,hb.tape,hb.output,hb.size,fun x _ hx=>hb.block x ae⟩ ae;obtain⟨h0,h1,h2,h3,h4,h5,h6⟩:=hrow.seven hi';have Uz:wr.cell? ⟨pb,1,none⟩=some (.slice (some ⟨fb,0,none⟩) n n):=by rw[hb.cell (p:=⟨pb,1,none⟩) (show pb<w.heap.size+1 by omega)];exact ni
   have UA:f.k<65536:=HKS.o _ (List.mem_of_getElem? hi');have HST:=aa (Nv (name:=name) (lo:=lo) (hi:=hi) (cq hi'));have JE:=xH (l.map (·.2)) name lo hi k;have HB:=aa hb;have HO:=aa ho;have hbs:w.heap.size+1<=wr.heap.size:=Nat.le_trans hsz hb.size;clear hi' hb hrow ho;obtain⟨t,ht⟩:∃t,t=told (l.map (·.2)) name lo hi k:=⟨_,rfl⟩;rw[<- ht]at HST JE HO;clear ht;obtain⟨full,nm,fk,bs,bS,used⟩:=f;dsimp only at *;cases full with
   |false=>
     go_wp2;go_roundw
     case rel=>
      refine⟨k+1,ae,by go_num,?_,HB.o.alloc hbs _⟩;have e:=HST.o;rw[if_neg (by simp[iz])]at e;rw[e];exact HO.o.alloc _
     case measure=>simp[intOf];omega
   |true=>
     cases bS with
     |false=>
       go_wp2;go_roundw
       case rel=>
        refine⟨k+1,ae,by go_num,?_,HB.o.alloc hbs _⟩;have e:=HST.o;rw[if_neg (by simp[iz])]at e;rw[e];exact HO.o.alloc _
       case measure=>simp[intOf];omega
     |true=>
       by_cases uZ:nm=name
       ·have WK:(nm.toList == name.toList)=true:=by rw[uZ];exact beq_self_eq_true _
        have Gu:=aa uZ;clear uZ;by_cases Mg:lo<=fk
        ·by_cases hl2:fk<hi
         ·have ag3:((fk:Int) >= (lo:Int)):=by omega
          have ag4:((fk:Int)<(hi:Int)):=by omega
          go_wp2_with (at_builtin;refine wpList_append_own _ rfl _ _ 214 rfl (w.heap.size+1) 3 i0 (.int .i64 0) 1 8 Tryz.underlying214 uV hz0 hz1 hz2 rfl af _ _ _ rfl ((HO.o.alloc _).alloc _) ⟨wr.heap.size+1,0,none⟩ 1 1 [mr k] rfl rfl ?c1 ?c2 ?c3 ?c4 ?c5 ?_);case c1=>
           intro j u hj;match j,hj with
           |0,hj=>
             cases hj;simp[bG,mr]
          case c2=>simp[mr,Value.oneCell']
          case c3=>unfold maxLen;omega
          case c4=>omega
          case c5=>simp;omega
          intro v' w2 hown hgr _;have zj:Hid (Below (w.heap.size+1) W1 w2):=aa (((HB.o.alloc hbs _).alloc (by simp;omega) _).grown hgr (by simp;omega) (aG HO.o));have hO2:Hid (w2.ownsRow (w.heap.size+1) 3 1 v' (t++[k]).length ((t++[k]).map mr)):=aa (by simpa using hown);clear hown hgr;go_wp2;go_roundw
          case rel=>
           refine⟨k+1,ae,by go_num,?_,zj.o⟩;have e:=HST.o;rw[if_pos (by simp[iz,Gu.o];omega)]at e;rw[e];exact hO2.o
          case measure=>simp[intOf];omega
         ·have ag4:¬((fk:Int)<(hi:Int)):=by omega
          go_wp2;go_roundw
          case rel=>
           refine⟨k+1,ae,by go_num,?_,HB.o.alloc hbs _⟩;have e:=HST.o;rw[if_neg (by simp[iz];omega)]at e;rw[e];exact HO.o.alloc _
          case measure=>simp[intOf];omega
        ·have ag3:¬((fk:Int) >= (lo:Int)):=by omega
         go_wp2;go_roundw
         case rel=>
          refine⟨k+1,ae,by go_num,?_,HB.o.alloc hbs _⟩;have e:=HST.o;rw[if_neg (by simp[iz];omega)]at e;rw[e];exact HO.o.alloc _
         case measure=>simp[intOf];omega
       ·have WK:(nm.toList == name.toList)=false:=qu uZ;have Gu:=aa uZ;clear uZ;go_wp2;go_roundw
        case rel=>
         refine⟨k+1,ae,by go_num,?_,HB.o.alloc hbs _⟩;have e:=HST.o;rw[if_neg (by simp[iz,Gu.o])]at e;rw[e];exact HO.o.alloc _
        case measure=>simp[intOf];omega
  ·obtain rfl:k=n:=by omega
   have HB:=aa hb;obtain⟨a9,c9,rfl⟩:=az ho;have HO:=aa ho;have Uz:wr.cell? ⟨pb,1,none⟩=some (.slice (some ⟨fb,0,none⟩) k k):=by rw[hb.cell (p:=⟨pb,1,none⟩) (show pb<w.heap.size+1 by omega)];exact ni
   have uU:=aa Uz;have HRW:Hid (dH wr fb l):=aa (nu.o.kept (S:=fun x=>w.heap.size+1<=x) ⟨hb.os,hb.tape,hb.output,hb.size,fun x _ hx=>hb.block x ae⟩ ae);have my:Hid (wr.cell? ⟨w.heap.size,0,none⟩=some (ptrTo pb)):=aa (by
    rw[hb.cell (p:=⟨w.heap.size,0,none⟩) (show w.heap.size<w.heap.size+1 by omega),aq HX.o];rfl)
   have QD:Hid (Below w.heap.size w wr):=aa (cS.o.trans (hb.mono (Nat.le_succ _)));have hlen:(l.map (·.2)).length=k:=by rw[List.length_map,HN.o]
   have HLEN:=aa hlen;clear hb ho Uz hlen ni;rcases Nat.eq_zero_or_pos (told (l.map (·.2)) name lo hi k).length with hz | Yj
   ·have hnil:told (l.map (·.2)) name lo hi k=[]:=List.eq_nil_of_length_eq_zero hz;have abX:=aa hnil;rw[hz]at HO ⊢;clear hz hnil;have aM:=aa (AnyF.slices_SortFunc_none (P:=prog) (ρ:=Tryz.tS) { Tryz.Gv with } a9 c9 (.func (.func 184) #[] #[.pointer (some ⟨w.heap.size,0,none⟩)]) wr);go_wp2_with fail;refine aM.o.mono ?_;rintro e w'⟨rfl,rfl⟩;go_wp2;go_ret;refine⟨_,[],rfl,?_,C7 _ _ _ _ (by rw[HLEN.o,abX.o]) List.Pairwise.nil,QD.o⟩;have:=HO.o;rw[abX.o]at this;exact aV this (Nat.le_succ _)
   ·have J3:∃g,a9=some ⟨g,0,none⟩/\w.heap.size+1<=g:=by
     obtain⟨_,⟨h1,h2⟩|⟨g,cap,cur,h1,h2,_⟩⟩:=HO.o
     ·omega
     ·cases h1;exact⟨g,rfl,h2⟩
    obtain⟨g,rfl,hg⟩:=J3;have aM:=aa (Eh (name:=name) (lo:=lo) (hi:=hi) (bx:=w.heap.size) (fs:=l.map (·.2)) (kOfs:=fun i=>xE (l.map (·.2)) i) HO.o Gx (fun i hi=>UB i hi) (xH _ _ _ _ _) hn my.o uU.o (fun i hi=>by
     obtain⟨a,c,f,hi'⟩:=HS.o.get HN.o hi;refine⟨?_,?_⟩
     ·rw[(HRW.o.seven hi').2.2.1];unfold xE;rw[pg (cq hi')]
     ·unfold xE;rw[pg (cq hi')];exact HKS.o _ (List.mem_of_getElem? hi')) ae ae ae)
    go_wp2_with fail;refine aM.o.mono ?_;rintro e w'⟨ls,rfl,hp,hr,kN,ht⟩;have HP:=aa hp;have HR:=aa hr;have HO':=aa kN;have HT:=aa ht;have Px:ls.length=(told (l.map (·.2)) name lo hi k).length:=hp.length_eq;have HLL:=aa Px;clear hp hr kN ht Px;go_wp2;go_ret;refine⟨_,ls,rfl,?_,C7 _ _ _ _ (by rw[HLEN.o];exact HP.o) HR.o,QD.o.trans (HT.o.below (by have:=QD.o.size;omega) (fun x e=>by omega))⟩;rw[HLL.o];exact aV HO'.o (Nat.le_succ _)
def Fit(l:List iB):Prop:=∀p∈l,p.2.bytes.length<=240/\p.2.k<65536
theorem dH.set'{w:World}{fb:Nat}{l:List iB}(h:dH w fb l){i:Nat}{p q:iB}(hi:l[i]? = some p){j:Nat}(hj:j<7){v:Value}(hv:(bJ p.1 p.2).set j v=bJ q.1 q.2):dH (w.setCell ⟨fb,i*7+j,none⟩ v) fb (l.set i q):=by
 rw[Nat.mul_comm i 7];exact h.set hi hj hv
theorem br.mark{w:World}{pb db fb mb:Nat}{o:ar}{l:List iB}{hand mf:Nat}{d:Dsk}(h:br w pb db fb mb o l hand mf d){i:Nat}{v:Value}{f x:bY}(hi:l[i]? = some (v,f)){j:Nat}(hj:j<7){u:Value}(hv:(bJ v f).set j u=bJ v x)(h1:x.full=f.full)(h2:x.name=f.name)(h3:x.k=f.k)(h4:x.bytes=f.bytes):br (w.setCell ⟨fb,i*7+j,none⟩ u) pb db fb mb o (l.set i (v,x)) hand mf d:=by
 have ht:aH (fun y=>y=fb\/y=mb) w (w.setCell ⟨fb,i*7+j,none⟩ u):=(aH.refl _ _).setCell _ _ (.inl (.inl rfl));refine h.tR (h.row.set' hi hj hv) ht (fun _ _ h=>h) (fun y t hy=>by have:=h.owned y t hy;simpa using this) ?_ ?_
 ·obtain⟨m,m1,m2⟩:=h.tQ;exact⟨m,m1.turn ((aH.refl (·=fb) w).setCell _ _ (.inl rfl)) (ar.ne h.nY h.r7 af),m2.same (cq hi) h1 h2 h3⟩
 ·have he:=h.each _ (List.mem_of_getElem? hi);dsimp only at he ⊢;rw[h4];exact⟨((aH.refl (·=fb) w).setCell ⟨fb,i*7+j,none⟩ u (.inl rfl)).ownsRow he.1 (fun b hb=>ar.ne (he.2 b hb) h.r7 af),he.2⟩
theorem br.mE{w:World}{pb db fb mb:Nat}{o:ar}{l:List iB}{hand mf:Nat}{d:Dsk}(h:br w pb db fb mb o l hand mf d):o.In cz fb:=⟨_,h.r7,show 7<10 by decide⟩
def QE(w:World)(pb db fb mb:Nat)(o:ar)(l:List iB)(hand mf:Nat)(r:(Dsk×List bY)×Nat)(e:Ending)(w':World):Prop:=
 ∃o' l',e=.returned (.int .i64 (r.2:Int))/\br w' pb db fb mb o' l' hand mf r.1.1/\l'.map (·.2)=r.1.2/\l'.length=l.length/\Fit l'/\aH (o.In cz) w w'/\ct w.heap.size o o'
theorem Fit.set{l:List iB}(h:Fit l){i:Nat}{q:iB}(hq:q.2.bytes.length<=240/\q.2.k<65536):Fit (l.set i q):=fun p hp=>by
 rcases List.mem_or_eq_of_mem_set hp with hp | rfl
 ·exact h p hp
 ·exact hq
theorem Mh(HW:aQ){w:World}{pb db fb mb pf:Nat}{o:ar}{l:List iB}{hand mf:Nat}{d:Dsk}{name:Name}(h:br w pb db fb mb o l hand mf d)(ig:Fit l)(hs:name.size<=1000)(hp:nr w pf db name)(BP:o pf=none){v:Value}{base:Nat}{ls:List Nat}(hv:w.ownsRow base 3 1 v ls.length (ls.map mr))(mm:∀b,v.ownBlock=some b->o b=none)(TU:∀i∈ls,i<l.length)(Px:ls.length<=100000) :
 Calls prog 120 #[ptrTo pb,ptrTo pf,v] w (QE w pb db fb mb o l hand mf (lL name ls d (l.map (·.2)))):=by
 have H:=aa h;have HF:=aa ig;have HP:=aa hp;have Mi:=aa BP;have HV:=aa hv;have vQ:=aa mm;have HLS:=aa TU;obtain⟨va,vc,rfl⟩:=az hv;have anN:=hp.lt;have hn:=h.most;clear h ig hp BP hv mm TU;unfold ptrTo;generalize hN:ls.length=n at *;have HN:=aa hN;clear hN;go_enter func120,ntmps120;go_wp2;go_loopw [12] (fun i wr=>∃(j:Nat)(d':Dsk)(l':List iB)(o':ar),j<=n/\i=.int .i64 (j:Int)/\br wr pb db fb mb o' l' hand mf d'/\lL name ls d (l.map (·.2))=lL name (ls.drop j) d' (l'.map (·.2))/\l'.length=l.length/\Fit l'/\aH (o.In cz) w wr/\ct w.heap.size o o') (fun i _=>n-(intOf i).toNat)
 case atStart=>exact⟨0,d,l,o,Nat.zero_le _,rfl,H.o,rfl,rfl,HF.o,aH.refl _ _,ct.refl _ _⟩
 case round=>
  obtain⟨j,d',l',o',hj,rfl,FB,hput,hlen,Gy,ht,hg⟩:=hrel;by_cases hlt:j<n
  ·have lB:j<ls.length:=by rw[HN.o];exact hlt
   have hx:∃x,ls[j]? = some x:=⟨_,List.getElem?_eq_getElem lB⟩;obtain⟨x,hx⟩:=hx;have JB:x<l'.length:=by rw[hlen];exact HLS.o x (List.mem_of_getElem? hx)
   obtain⟨a,c,f,hi⟩:=FB.shaped.get rfl JB;have Gz:=Gy _ (List.mem_of_getElem? hi);obtain⟨Yx,UA⟩:=Gz;dsimp only at Yx UA;have hrow:=ht.ownsRow HV.o (fun b hb=>ar.dF (vQ.o b hb));have Py:∃g,va=some ⟨g,0,none⟩/\wr.cell? ⟨g,j,none⟩=some (mr x):=by
    obtain⟨_,⟨h1,h2⟩|⟨g,cap,cur,h1,h2,h3,h4,h5,h6,h7⟩⟩:=hrow
    ·omega
    ·cases h1;refine⟨g,rfl,?_⟩;rw[aq h3];have e:(cur.toList.take (n*1))[j]? = (ls.map mr)[j]? := by rw[h7]
     rw[List.getElem?_take_of_lt ae,List.getElem?_map,hx]at e;simpa using e
   obtain⟨g,rfl,hcx⟩:=Py;unfold mr at hcx;have tT:ls.drop j=x::ls.drop (j+1):=by
    rw[List.drop_eq_getElem_cons lB];congr 1;rw[List.getElem?_eq_getElem lB]at hx;exact Option.some.inj hx
   rw[tT,lL,pg (cq hi)]at hput;dsimp only at hput;have nw:=aa hput;have HP':=aa FB;have HI:=aa hi;have HLEN:=aa hlen;have yu:=aa Gy;have HT:=aa ht;have HG:=aa hg;have JQ:Hid (nr wr pf db name):=aa (HP.o.kept ht (ar.dF Mi.o));have aM:Hid (∀W,Below wr.heap.size wr W->Calls prog 182 #[ptrTo pf,.int .i64 (f.k:Int),.slice a f.bytes.length c] W fun e w'=>e=.returned (.int .i64 ((dA d' name f.k f.bytes).2:Int))/\cx W db o' (dA d' name f.k f.bytes).1 w'):=aa (fun W hW=>
    Gr HW (FB.lK.below hW) (JQ.o.below hW) hs f.k UA _ f.bytes Yx (fp (aW (FB.each _ (List.mem_of_getElem? hi)).1 hW)))
   have hxn:x<l.length:=by rw[<- hlen];exact JB
   have WL:Hid (∀W,Below wr.heap.size wr W->(W.cell? ⟨pb,1,none⟩=some (.slice (some ⟨fb,0,none⟩) l.length l.length)/\W.cell? ⟨fb,x*7+2,none⟩=some (.int .i64 (f.k:Int))/\W.cell? ⟨fb,x*7+3,none⟩=some (.slice a f.bytes.length c))):=aa (fun W hW=>by
    have h1:=FB.below hW;obtain⟨⟨-,g1,-⟩,-⟩:=h1.head.cells;obtain⟨-,-,g2,g3,-⟩:=h1.row.seven hi;rw[hlen]at g1;exact⟨g1,g2,g3⟩)
   clear hput FB hi hlen Gy ht hg hx JB hrow tT;unfold ptrTo at aM;generalize (dA d' name f.k f.bytes).1=d2 at *;generalize (dA d' name f.k f.bytes).2=cc at *;by_cases hc0:cc=0
   ·subst hc0;have GA:lL name ls d (l.map (·.2))=lL name (ls.drop (j+1)) d2 ((l'.map (·.2)).set x { f with bS:=false }):=by rw[nw.o,if_neg ah]
    have QF:=aa GA;clear GA nw;go_wp2;refine cE (Below wr.heap.size wr) 18 rfl ag ag (aj.drew) ?_;simp only[List.take_succ_cons,List.take_zero];iterate 4 (refine qz ?_)
    refine qz ?_ (fun w' hw'=>by have hc:=(WL.o w' hw').1;go_simp<;>rfl);iterate 4 (refine qz ?_)
    refine qz ?_ (fun w' hw'=>by have hc:=(WL.o w' hw').2.1;go_simp<;>rfl);iterate 3 (refine qz ?_)
    refine qz ?_ (fun w' hw'=>by have hc:=(WL.o w' hw').1;go_simp<;>rfl);iterate 3 (refine qz ?_)
    refine qz ?_ (fun w' hw'=>by have hc:=(WL.o w' hw').2.2;go_simp<;>rfl);refine wpQuiet_nil ?_;intro w3 hw3;refine⟨_,_,rfl,(by go_simp<;>exact⟨rfl,rfl⟩),?_⟩;refine(aM.o _ hw3).mono ?_;rintro e w4⟨rfl,oO⟩;obtain⟨o2,Mf,oM,hg2⟩:=cx.after hw3 oO;have pP:=aa (HP'.o.zF Mf oM hg2);have nM:=aa (HT.o.owned HG.o oM.aX);have yv:=aa (HG.o.trans hg2 HT.o.size);clear Mf oM hg2 oO hw3;obtain⟨⟨-,g1,-⟩,-⟩:=pP.o.head.cells;rw[HLEN.o]at g1;obtain⟨-,-,-,-,-,g5,-⟩:=pP.o.row.seven HI.o;have gz:=pP.o.row.free (x*7+5);refine⟨_,rfl,?_⟩;go_simp;refine qz ?_;refine wpQuiet_nil ?_;go_wp2;go_roundw
    case rel=>
     have hm:=pP.o.mark (j:=5) (u:=.bool false) (x:={ f with bS:=false }) HI.o af rfl rfl rfl rfl rfl;refine⟨j+1,d2,_,o2,ae,by go_num,hm,by rw[QF.o,map_set],by rw[List.length_set];exact HLEN.o,yu.o.set ⟨Yx,UA⟩,?_,yv.o⟩;exact nM.o.trans ((aH.refl (o2.In cz) w4).setCell ⟨fb,x*7+5,none⟩ (.bool false) (.inl pP.o.mE)) (fun y hy ⟨t,mq,oM⟩=>⟨t,by rw[<- yv.o y hy];exact mq,oM⟩)
    case measure=>simp[intOf];omega
   ·have GA:lL name ls d (l.map (·.2))=((d2,l'.map (·.2)),cc):=by rw[nw.o,if_pos hc0]
    have QF:=aa GA;have anP:¬(cc:Int)=0:=by omega
    clear GA nw hc0;go_wp2;refine cE (Below wr.heap.size wr) 18 rfl ag ag (aj.drew) ?_;simp only[List.take_succ_cons,List.take_zero];iterate 4 (refine qz ?_)
    refine qz ?_ (fun w' hw'=>by have hc:=(WL.o w' hw').1;go_simp<;>rfl);iterate 4 (refine qz ?_)
    refine qz ?_ (fun w' hw'=>by have hc:=(WL.o w' hw').2.1;go_simp<;>rfl);iterate 3 (refine qz ?_)
    refine qz ?_ (fun w' hw'=>by have hc:=(WL.o w' hw').1;go_simp<;>rfl);iterate 3 (refine qz ?_)
    refine qz ?_ (fun w' hw'=>by have hc:=(WL.o w' hw').2.2;go_simp<;>rfl);refine wpQuiet_nil ?_;intro w3 hw3;refine⟨_,_,rfl,(by go_simp<;>exact⟨rfl,rfl⟩),?_⟩;refine(aM.o _ hw3).mono ?_;rintro e w4⟨rfl,oO⟩;obtain⟨o2,Mf,oM,hg2⟩:=cx.after hw3 oO;have pP:=aa (HP'.o.zF Mf oM hg2);have nM:=aa (HT.o.owned HG.o oM.aX);have yv:=aa (HG.o.trans hg2 HT.o.size);clear Mf oM hg2 oO hw3;refine⟨_,rfl,?_⟩;go_simp;refine qz ?_;refine wpQuiet_nil ?_;go_wp2;go_ret;rw[QF.o];exact⟨o2,l',rfl,pP.o,rfl,HLEN.o,yu.o,nM.o,yv.o⟩
  ·obtain rfl:j=n:=by omega
   have tT:ls.drop j=[]:=List.drop_eq_nil_of_le (by rw[HN.o];exact Nat.le_refl _);rw[tT,lL]at hput;have nw:=aa hput;have HP':=aa FB;have HLEN:=aa hlen;have yu:=aa Gy;have HT:=aa ht;have HG:=aa hg;clear hput FB hlen Gy ht hg tT;go_wp2;go_ret;rw[nw.o];exact⟨o',l',rfl,HP'.o,rfl,HLEN.o,yu.o,HT.o,HG.o⟩
theorem Sound.fit{d:Dsk}{fs:List bY}{L:aC}(h:Sound d fs L):∀fr∈fs,fr.bytes.length<=240/\fr.k<65536:=fun fr dQ=>by
 cases hf:fr.full with
 |false=>rw[h.blank fr dQ hf];exact⟨by simp[bY.none],by simp[bY.none]⟩
 |true=>
   obtain⟨ps,fl,hL,hk⟩:=h.frames fr dQ hf;obtain⟨f,dp,q⟩:=h.dG _ _ _ hL;have:=aN hk;have:=q.most;exact⟨q.short _ (List.mem_of_getElem? hk),ae⟩
theorem Sound.vR{d:Dsk}{l:List iB}{L:aC}(h:Sound d (l.map (·.2)) L):Fit l:=fun p hp=>h.fit p.2 (List.mem_map.2 ⟨p,hp,rfl⟩)
theorem Sound.zJ{d:Dsk}{fs:List bY}{L:aC}(h:Sound d fs L){n:Name}{ps:List Pg}{fl:Bool}(hL:aA L n=some (.inl (ps,fl))) :
 ∃f dp,dz d fs n ps fl f dp/\(d.dead=false->d.sizeOf n=(256*dp.length,0)/\cA d n=0)/\(d.dead=true->d.sizeOf n=(0,6)/\cA d n=6):=by
 obtain⟨f,dp,q⟩:=h.dG _ _ _ hL;have hs:=Dsk.C0 (h.ok n (by rw[hL];rfl)) q.get;have hl:f.now.length=256*dp.length:=by rw[q.now,dN _ q.BS]
 refine⟨f,dp,q,fun hd=>?_,fun hd=>?_⟩
 ·rw[hd,if_neg ah,hl]at hs;refine⟨hs,?_⟩;unfold cA;rw[hs];simp
 ·rw[hd,if_pos rfl]at hs;refine⟨hs,?_⟩;unfold cA;rw[hs];simp
theorem Told.length_le{fs:List bY}{name:Name}{lo hi:Nat}{ls:List Nat}(t:Told fs name lo hi ls):ls.length<=fs.length:=by
 have hp:ls.Perm ((List.range fs.length).filter (fun x=>decide (x∈ls))):=by
  refine(List.perm_ext_iff_of_nodup t.nodup (List.nodup_range.filter _)).2 fun x=>?_;rw[List.mem_filter,List.mem_range,decide_eq_true_eq];refine⟨fun hx=>⟨?_,hx⟩,fun hx=>hx.2⟩;obtain⟨fr,h1,_⟩:=(t.mem x).1 hx;exact aN h1
 have h1:=List.length_filter_le (fun x=>decide (x∈ls)) (List.range fs.length);rw[hp.length_eq];simpa using h1
theorem bZ{n:Name}(h:bM n=true):n.size<=1000:=by have:=FZ h;omega
def ru(fs pZ:List bY):Prop:=pZ.length=fs.length/\∀(i:Nat)(fr:bY),fs[i]? = some fr->∃dd,pZ[i]? = some { fr with bS:=dd }/\(dd=true->fr.bS=true)
theorem ru.refl(fs:List bY):ru fs fs:=⟨rfl,fun _ fr h=>⟨fr.bS,h,id⟩⟩
def QG(w:World)(pb db fb mb:Nat)(o:ar)(l:List iB)(hand mf:Nat)(d:Dsk)(L:aC)(i:Nat)(e:Ending)(w':World):Prop:=
 ∃o' l' d' c,e=.returned (.int .i64 ((c:Nat):Int))/\br w' pb db fb mb o' l' hand mf d'/\Sound d' (l'.map (·.2)) L/\bK d d'/\ru (l.map (·.2)) (l'.map (·.2))/\(c=0\/kJ d d' L c) /\
  (c=0->∃fr,(l'.map (·.2))[i]? = some fr/\fr.bS=false)/\aH (o.In cz) w w'/\ct w.heap.size o o'
theorem QH(HW:aQ){w:World}{pb db fb mb:Nat}{o:ar}{l:List iB}{hand mf:Nat}{d:Dsk}{L:aC}(h:br w pb db fb mb o l hand mf d)(hg:Sound d (l.map (·.2)) L){i:Nat}{v:Value}{f:bY}(hi:l[i]? = some (v,f))(fq:f.full=true)(fS:f.bS=true) :
 Calls prog 239 #[ptrTo pb,.int .i64 (i:Int)] w (QG w pb db fb mb o l hand mf d L i):=by
 obtain⟨i0,uV,hz0,hz1,hz2⟩:=info_parts Gw;obtain⟨ps,fl,hL,Pk⟩:=hg.frames f (List.mem_of_getElem? (cq hi)) fq;obtain⟨df,dp,q,lM,kA⟩:=hg.zJ hL;have fw:=bZ (hg.ok f.name (by rw[hL];rfl));have ig:=hg.vR;have UA:=(ig _ (List.mem_of_getElem? hi)).2;have nZ:i<l.length:=aN hi;have hn:=h.most;have H:=aa h;have HG:=aa hg;have HI:=aa hi;have HQ:=aa q;have yu:=aa ig;have HL:=aa hL;have tU:=aa fq;have zK:=aa fS;have hcell:(w.cell? ⟨pb,1,none⟩=some (.slice (some ⟨fb,0,none⟩) l.length l.length)/\w.cell? ⟨fb,i*7+1,none⟩=some (.string f.name)/\w.cell? ⟨fb,i*7+2,none⟩=some (.int .i64 (f.k:Int))):=by
  obtain⟨⟨-,g1,-⟩,-⟩:=h.head.cells;obtain⟨-,g2,g3,-⟩:=h.row.seven hi;exact⟨g1,g2,g3⟩
 obtain⟨hc1,hc2,hc3⟩:=hcell;have aM:Hid (∀W,Below w.heap.size w W->Calls prog 119 #[ptrTo pb,.string f.name] W (zH W db d f.name)):=aa (fun W hW=>sR (h.below hW) f.name fw);have Bt:=aa (jN h.lK f.name).1;clear h hg hi q ig hL fq fS Pk;dsimp only at UA;unfold ptrTo at *;generalize hN:l.length=n at *;have HN:=aa hN;clear hN;cases hd:d.dead with
 |true=>
   obtain⟨-,BP⟩:=kA hd;have Mi:=aa BP;have HD:=aa hd;clear hd BP lM kA;go_enter func239,ntmps239;go_wp2;go_quiet (fail)
   go_wp2_with fail;refine(aM.o _ (below_drewN aj _)).mono ?_;rintro e w1⟨v1,n1,rfl,hb1,-⟩;rw[Mi.o];have hB:Below w.heap.size w w1:=(below_drewN aj _).trans hb1;have HB:=aa hB;clear hB hb1;go_wp2;go_ret;exact⟨o,l,d,6,rfl,H.o.below HB.o,HG.o,bK.refl d,ru.refl _,.inr (.inr ⟨rfl,HD.o⟩),fun h=>absurd h af,aH.aU HB.o,ct.refl _ _⟩
 |false=>
   obtain⟨hsz,BP⟩:=lM hd;have Mi:=aa BP;have ag5:=aa hsz;clear hd BP lM kA hsz;go_enter func239,ntmps239;go_wp2;go_quiet (fail)
   go_wp2_with fail;refine(aM.o _ (below_drewN aj _)).mono ?_;rintro e w1⟨v1,n1,rfl,hb1,hy⟩;obtain⟨Bu,pf,rfl,hp,hpl⟩:=hy Mi.o;rw[Mi.o];rw[ag5.o]at Bu;have hB:Below w.heap.size w w1:=(below_drewN aj _).trans hb1;have HB:=aa hB;have WJ:=aa hp;have ag6:w.heap.size<=pf:=by simpa using hpl
   have Gc:Hid (n1=dp.length):=aa (by dsimp only at Bu;omega);clear hB hb1 hp Bu hy hpl;unfold ptrTo;have gS:=aa (C8 (H.o.below HB.o) (fun p hp=>(yu.o p hp).2) f.name n1 f.k);unfold ptrTo at gS;go_wp2_with fail;refine gS.o.mono ?_;rintro e w2⟨v2,ls,rfl,ko,zL,hb2⟩;obtain⟨a2,c2,rfl⟩:=az ko;have cX:=aa (HB.o.trans (hb2.mono HB.o.size));have p7:=aa ko;have HT:=aa zL;have abY:ls.length<=n:=by
    have h1:=zL.length_le;rw[List.length_map,HN.o]at h1;exact h1
   have QI:=aa (WJ.o.below hb2);have hs2:w.heap.size<=w2.heap.size:=cX.o.size;have hs1:w1.heap.size<=w2.heap.size:=hb2.size;clear ko zL hb2;go_wp2_with (at_builtin;refine wpList_append_own _ rfl _ _ 214 rfl w1.heap.size 3 i0 (.int .i64 0) 1 8 Tryz.underlying214 uV hz0 hz1 hz2 rfl af _ _ _ rfl (p7.o.alloc _) ⟨w2.heap.size,0,none⟩ 1 1 [mr i] rfl rfl ?c1 ?c2 ?c3 ?c4 ?c5 ?_);case c1=>
    intro j u hj;match j,hj with
    |0,hj=>
      cases hj;simp[bG,mr]
   case c2=>simp[mr,Value.oneCell']
   case c3=>unfold maxLen;omega
   case c4=>omega
   case c5=>simp;omega
   intro v3 w3 iJ Yy _;have JK:Hid (Below w.heap.size w w3):=aa ((cX.o.alloc cX.o.size _).grown Yy (by simp;omega) (fun k hk=>by have:=aG p7.o k hk;have:=HB.o.size;omega));have hO3:Hid (w3.ownsRow w1.heap.size 3 1 v3 (ls++[i]).length ((ls++[i]).map mr)):=aa (by simpa using iJ);have ag7:Hid (nr w3 pf db f.name):=aa (by
    obtain⟨t,ht⟩:=QI.o;have anQ:=WJ.o.lt;have ag8:=QI.o.lt;refine⟨t,?_⟩;rw[Yy.block pf (by simp;omega) (fun e=>by have:=aG p7.o pf e.symm;omega),(MapKept.heap_alloc _ _).2 pf ag8];exact ht)
   obtain⟨a3,c3,rfl⟩:=az iJ;clear iJ Yy;have abZ:∀x∈ls++[i],x<l.length:=fun x hx=>by
    rcases List.mem_append.1 hx with hx | hx
    ·obtain⟨fr,h1,_⟩:=(HT.o.mem x).1 hx;have:=aN h1;rwa [List.length_map]at this
    ·rw[List.mem_singleton.1 hx,HN.o];exact nZ
   have lN:=aa (Mh HW (H.o.below JK.o) yu.o fw ag7.o (eK H.o.owned ag6) hO3.o (fun b hb=>eK H.o.owned (by have:=aG hO3.o b hb;have:=HB.o.size;omega)) abZ (by simp;omega));obtain⟨d',pZ,ec,hr,Mb,yl,tV,tW,he⟩:=Sound.Uv HL.o (ls++[i]) d (l.map (·.2)) df dp HG.o HQ.o (by
    have h1:=HT.o;rw[Gc.o]at h1;exact h1.Qs HG.o (cq HI.o) tU.o zK.o)
   rw[hr]at lN;have HG':=aa Mb;have HON:=aa yl;have QJ:=aa tV;have Mj:=aa tW;have HE:=aa he;unfold ptrTo at lN;clear hr Mb yl tV tW he abZ;go_wp2_with fail;refine lN.o.mono ?_;rintro e w4⟨o',l',rfl,oO,hl4,Mk,QK,tG,hg4⟩;dsimp only at hl4 oO;have xD:=aa oO;have Ml:=aa hl4;have uX:=aa ((aH.aU JK.o).trans tG (fun _ _ h=>h):aH (o.In cz) w w4);have tq:Hid (ct w.heap.size o o'):=aa (fun x hx=>hg4 x (Nat.lt_of_lt_of_le hx JK.o.size));clear oO hl4 Mk QK tG hg4;go_wp2;go_ret;refine⟨o',l',d',ec,rfl,xD.o,by rw[Ml.o];exact HG'.o,HON.o,⟨by rw[Ml.o];exact QJ.o,fun j fr hj=>?_⟩,HE.o,fun hc=>?_,uX.o,tq.o⟩
   ·obtain⟨dd,h1,h2,_⟩:=Mj.o j fr hj;exact⟨dd,by rw[Ml.o];exact h1,h2⟩
   ·obtain⟨dd,h1,_,_,h4⟩:=Mj.o i f (cq HI.o);exact⟨_,by rw[Ml.o];exact h1,h4 hc ah⟩
def mF(fs pZ:List bY):Prop:=pZ.length=fs.length/\∀(j:Nat)(x:bY),pZ[j]? = some x->x.full=true->∃y,fs[j]? = some y/\y.full=true/\y.name=x.name/\y.k=x.k
theorem mF.refl(fs:List bY):mF fs fs:=⟨rfl,fun _ x h hf=>⟨x,h,hf,rfl,rfl⟩⟩
theorem mF.trans{a b c:List bY}(h:mF a b)(k:mF b c):mF a c:=⟨k.1.trans h.1,fun j x hx hf=>by
 obtain⟨y,h1,h2,h3,h4⟩:=k.2 j x hx hf;obtain⟨z,g1,g2,g3,g4⟩:=h.2 j y h1 h2;exact⟨z,g1,g2,g3.trans h3,g4.trans h4⟩⟩
def lQ(fs pZ:List bY):Prop:=pZ.length=fs.length/\∀(j:Nat)(x:bY),fs[j]? = some x->∃u,pZ[j]? = some { x with used:=u }
theorem lQ.refl(fs:List bY):lQ fs fs:=⟨rfl,fun _ x h=>⟨x.used,h⟩⟩
theorem lQ.C9{fs pZ:List bY}(h:lQ fs pZ):mF fs pZ:=⟨h.1,fun j x hx hf=>by
 have hl:j<fs.length:=by rw[<- h.1];exact aN hx
 obtain⟨u,hu⟩:=h.2 j fs[j] (List.getElem?_eq_getElem hl);rw[hx]at hu;cases hu;exact⟨fs[j],List.getElem?_eq_getElem hl,hf,rfl,rfl⟩⟩
theorem ru.C9{fs pZ:List bY}(h:ru fs pZ):mF fs pZ:=⟨h.1,fun j x hx hf=>by
 have hl:j<fs.length:=by rw[<- h.1];exact aN hx
 obtain⟨u,hu,_⟩:=h.2 j fs[j] (List.getElem?_eq_getElem hl);rw[hx]at hu;cases hu;exact⟨fs[j],List.getElem?_eq_getElem hl,hf,rfl,rfl⟩⟩
theorem mF.none{fs:List bY}{i:Nat}(hi:i<fs.length):mF fs (fs.set i bY.none):=⟨List.length_set,fun j x hx hf=>by
 rw[eY hi]at hx;by_cases e:j=i
 ·rw[if_pos e]at hx;cases hx;cases hf
 ·rw[if_neg e]at hx;exact⟨x,hx,hf,rfl,rfl⟩⟩
theorem lQ.set{fs pZ:List bY}(h:lQ fs pZ){i:Nat}{x:bY}(hi:pZ[i]? = some x)(u:Bool):lQ fs (pZ.set i { x with used:=u }):=⟨List.length_set.trans h.1,fun j y hy=>by
 obtain⟨v,hv⟩:=h.2 j y hy;rw[eY (aN hi)];by_cases e:j=i
 ·subst e;rw[hv]at hi;cases hi;exact⟨u,by rw[if_pos rfl]⟩
 ·exact⟨v,by rw[if_neg e];exact hv⟩⟩
theorem lQ.sound{d:Dsk}{fs pZ:List bY}{L:aC}(h:lQ fs pZ)(hg:Sound d fs L)(hall:∀fr∈fs,fr.full=true):Sound d pZ L:=
 hg.used h.1 fun i f f' hi hi'=>by
  obtain⟨u,hu⟩:=h.2 i f hi;rw[hi']at hu;cases hu;exact⟨rfl,fun hf=>by rw[hall f (List.mem_of_getElem? hi)]at hf;cases hf⟩
def QL(w:World)(pb db fb mb:Nat)(o:ar)(l:List iB)(mf:Nat)(d:Dsk)(L:aC)(e:Ending)(w':World):Prop:=
 ∃o' l' QM d' c i,e=.returned (.tuple #[.int .i64 ((i:Nat):Int),.int .i64 ((c:Nat):Int)])/\br w' pb db fb mb o' l' QM mf d'/\Sound d' (l'.map (·.2)) L/\bK d d'/\(c=0\/kJ d d' L c) /\
  (c=0->∃p,l'[i]? = some p/\p.2.full=false)/\mF (l.map (·.2)) (l'.map (·.2))/\aH (o.In cz) w w'/\ct w.heap.size o o'
theorem Nx(i n:Nat):((i:Int)+1)%(n:Int)=(((i+1)%n:Nat):Int):=by
 rw[Int.natCast_emod];rfl
def Yz(fs:List bY)(k:Nat):Prop:=∀(j:Nat)(x:bY),j<k->fs[j]? = some x->x.full=true
theorem GC(HW:aQ){w:World}{pb db fb mb:Nat}{o:ar}{l:List iB}{hand mf:Nat}{d:Dsk}{L:aC}(h:br w pb db fb mb o l hand mf d)(hg:Sound d (l.map (·.2)) L) :
 Calls prog 197 #[ptrTo pb] w (QL w pb db fb mb o l mf d L):=by
 have H:=aa h;have HG:=aa hg;have vO:=aa h.row;have hn:=h.most;have HS:=aa h.shaped;have Gx:=h.hand;have Nu:=h.head.lt;obtain⟨⟨-,hc1,-,hc3,-⟩,-⟩:=h.head.cells;clear h hg;unfold ptrTo;generalize hN:l.length=n at *;have HN:=aa hN;clear hN;go_enter func197,ntmps197;go_wp2;go_step3
 go_wp2;go_loopw [15] (fun i wr=>∃k:Nat,k<=n/\i=.int .i64 (k:Int)/\Yz (l.map (·.2)) k/\Below w.heap.size w wr) (fun i _=>n-(intOf i).toNat)
 case atStart=>exact⟨0,Nat.zero_le _,rfl,fun j x hj=>absurd hj (Nat.not_lt_zero j),Below.refl _ _⟩
 case round=>
  obtain⟨k,hk,rfl,hft,hb⟩:=hrel;by_cases hlt:k<n
  ·obtain⟨a,c,f,hi⟩:=HS.o.get HN.o hlt;obtain⟨h0,h1,h2,h3,h4,h5,h6⟩:=(vO.o.below hb).seven hi;have zr:wr.cell? ⟨pb,1,none⟩=some (.slice (some ⟨fb,0,none⟩) n n):=by rw[hb.cell (p:=⟨pb,1,none⟩) Nu];exact hc1
   have HB:=aa hb;have UC:=aa hft;have HI:=aa hi;clear hi hb hft;cases fq:f.full with
   |false=>
     rw[fq]at h0;have tU:=aa fq;clear fq;go_wp2;rw[Exit.noGoto_ret];go_ret2;exact⟨o,l,hand,d,0,k,rfl,H.o.below (HB.o.alloc HB.o.size _),HG.o,bK.refl d,.inl rfl,fun _=>⟨_,HI.o,tU.o⟩,mF.refl _,aH.aU (HB.o.alloc HB.o.size _),ct.refl _ _⟩
   |true=>
     rw[fq]at h0;have tU:=aa fq;clear fq;go_wp2;go_roundw
     case rel=>
      refine⟨k+1,ae,by go_num,fun j x hj hx=>?_,HB.o.alloc HB.o.size _⟩;by_cases e:j=k
      ·subst e;rw[cq HI.o]at hx;cases hx;exact tU.o
      ·exact UC.o j x ae hx
     case measure=>simp[intOf];omega
  ·obtain rfl:k=n:=by omega
   have hall:∀fr∈l.map (·.2),fr.full=true:=fun fr dQ=>by
    obtain⟨j,hj⟩:=List.mem_iff_getElem?.1 dQ;exact hft j fr (by have:=aN hj;rw[List.length_map,HN.o]at this;exact this) hj
   have BV:=aa hall;have H1:=aa (H.o.below hb);have HB:=aa hb;clear hft hb hall hc1 hc3;obtain⟨⟨-,hc1,-,hc3,-⟩,-⟩:=H1.o.head.cells;rw[HN.o]at hc1;go_wp2;go_step3
   go_wp2;generalize wr=W1 at *;go_loopw [6,35] (fun i c wr=>∃(tt ii:Nat)(l2:List iB),tt<=2*k/\c=.int .i64 (tt:Int)/\i=.int .i64 (ii:Int)/\ii=(hand+tt)%k/\br wr pb db fb mb o l2 hand mf d/\lQ (l.map (·.2)) (l2.map (·.2)) /\
    (∀s,s<tt->∀x,(l2.map (·.2))[(hand+s)%k]? = some x->x.used=false)/\aH (·=fb) W1 wr) (fun _ c _=>2*k-(intOf c).toNat)
   case atStart=>exact⟨0,hand,l,ae,rfl,rfl,(Nat.mod_eq_of_lt Gx).symm,H1.o,lQ.refl _,fun s hs=>absurd hs (Nat.not_lt_zero s),aH.refl _ _⟩
   case round=>
    obtain⟨tt,ii,l2,htt,rfl,rfl,UD,j5,hst,hsw,oM⟩:=hrel;have r8:l2.length=k:=by
     have:=hst.1;rw[List.length_map,List.length_map,HN.o]at this;exact this
    have hik:ii<k:=by rw[UD];exact Nat.mod_lt _ ae
    obtain⟨a,c,f,hi⟩:=j5.shaped.get r8 hik;obtain⟨h0,h1,h2,h3,h4,h5,h6⟩:=j5.row.seven hi;have hz:=j5.row.free (ii*7+6);obtain⟨⟨-,hc1,-,hc3,-⟩,-⟩:=j5.head.cells;rw[r8]at hc1;have hm:=Nx ii k;have HII:=aa UD;have pP:=aa j5;have HST:=aa hst;have HSW:=aa hsw;have nM:=aa oM;have zM:=aa r8;have HI:=aa hi;have HM:=aa hm;clear UD j5 hst hsw oM r8 hi hm;by_cases QN:tt<2*k/\f.used=true
    ·obtain⟨hlt,hu⟩:=QN;rw[hu]at h6;clear hu;go_wp2;go_roundw
     case rel=>
      have tW:=pP.o.mark (j:=6) (u:=.bool false) (x:={ f with used:=false }) HI.o af rfl rfl rfl rfl rfl;refine⟨tt+1,(ii+1)%k,_,ae,by go_num,?_,?_,tW,?_,?_,nM.o.setCell _ _ (.inl rfl)⟩
      ·rw[HM.o]
      ·rw[HII.o,Nat.mod_add_mod,Nat.add_assoc]
      ·rw[map_set];exact HST.o.set (cq HI.o) false
      ·intro s hs x hx;rw[map_set,eY (by rw[List.length_map,zM.o];exact hik)]at hx;by_cases e:(hand+s)%k=ii
       ·rw[if_pos e]at hx;cases hx;rfl
       ·rw[if_neg e]at hx;refine HSW.o s ?_ x hx;rcases Nat.lt_or_ge s tt with h | h
        ·exact h
        ·obtain rfl:s=tt:=by omega
         exact absurd HII.o.symm e
     case measure=>simp[intOf];omega
    ·have F0:f.used=false:=by
      by_cases hlt:tt<2*k
      ·cases hu:f.used with
       |false=>rfl
       |true=>exact absurd ⟨hlt,hu⟩ QN
      ·obtain rfl:tt=2*k:=by omega
       refine HSW.o 0 ae f ?_;have e1:ii=hand:=by rw[HII.o,Nat.mul_comm,Nat.add_mul_mod_self_left,Nat.mod_eq_of_lt Gx]
       rw[Nat.add_zero,Nat.mod_eq_of_lt Gx,<- e1];exact cq HI.o
     rw[F0]at h6;clear QN F0;have fq:f.full=true:=by
      have hl:ii<(l.map (·.2)).length:=by rw[List.length_map,HN.o];exact hik
      obtain⟨u,hu⟩:=HST.o.2 ii _ (List.getElem?_eq_getElem hl);rw[cq HI.o]at hu;have e:=Option.some.inj hu;dsimp only at e;have h1:=BV.o _ (List.getElem_mem hl);rw[e];exact h1
     have Pz:Hid (Sound d (l2.map (·.2)) L):=aa (HST.o.sound HG.o BV.o);have HTW:Hid (aH (o.In cz) w wr):=aa ((aH.aU HB.o).trans nM.o (fun x _ e=>e▸H.o.mE));have tU:=aa fq;have hnk:f.name.size<=1000/\f.k<9223372036854775808:=by
      obtain⟨ps,fl,hL,BK⟩:=Pz.o.frames f (List.mem_of_getElem? (cq HI.o)) fq;have:=(Pz.o.vR _ (List.mem_of_getElem? HI.o)).2;exact⟨bZ (Pz.o.ok f.name (by rw[hL];rfl)),by dsimp only at this;omega⟩
     obtain⟨TW,hkb⟩:=hnk;clear fq;cases fS:f.bS with
     |false=>
       rw[fS]at h5;have zK:=aa fS;clear fS;by_cases hlt:tt<2*k;all_goals
        go_wp2_with fail;refine(vP (pP.o.below ai) HI.o tU.o TW hkb).mono ?_;rintro e w6⟨rfl,hp6,UE⟩;have GD:=aa hp6;have Ql:=aa UE;clear hp6 UE;obtain⟨⟨-,hc1,-⟩,hz3,-⟩:=GD.o.head.cells;obtain⟨⟨-,-,-,hc3,-⟩,-⟩:=GD.o.head.cells;rw[List.length_set,zM.o]at hc1;go_wp2;rw[Exit.noGoto_ret];go_ret2;rw[HM.o];have nZ:ii<l2.length:=aN HI.o;refine⟨o,l2.set ii (.slice none 0 0,bY.none),(ii+1)%k,d,0,ii,rfl,GD.o.vD ((aH.refl (·=pb) w6).setCell ⟨pb,3,none⟩ _ (.inl rfl)) (GD.o.head.Eb _) (by rw[List.length_set,zM.o];exact Nat.mod_lt _ ae) GD.o.full,?_,bK.refl d,.inl rfl,fun _=>⟨(.slice none 0 0,bY.none),by rw[eY nZ,if_pos rfl],rfl⟩,?_,?_,ct.refl _ _⟩
        ·rw[map_set];exact Pz.o.reset (cq HI.o) zK.o rfl (.inl rfl)
        ·rw[map_set];exact HST.o.C9.trans (mF.none (by rw[List.length_map];exact nZ))
        ·refine((HTW.o.alloc _).trans (Ql.o.mono (S':=o.In cz) (fun x _ e=>e.elim (fun e=>e▸GD.o.mE) (fun e=>e ▸ ⟨_,GD.o.nY,show 8<10 by decide⟩))) ?_).trans ((aH.refl (o.In cz) w6).setCell ⟨pb,3,none⟩ _ (.inl ⟨_,GD.o.yq,show 6<10 by decide⟩)) ?_;all_goals
          intro x hx ⟨t,h1,h2⟩;exact⟨t,by exact h1,h2⟩
     |true=>
       rw[fS]at h5;have zK:=aa fS;clear fS;by_cases hlt:tt<2*k;all_goals
        go_wp2_with fail;refine(QH HW (pP.o.below ai) Pz.o HI.o tU.o zK.o).mono ?_;rintro e w5⟨o5,l5,d5,c5,rfl,FD,Jl,ab1,YA,PA,ab2,rO,BW⟩;have Mm:=aa FD;have Ny:=aa Jl;have ab3:=aa ab1;have YB:=aa YA;have QO:=aa PA;have UF:=aa ab2;have HTA:Hid (aH (o.In cz) w w5):=aa ((HTW.o.alloc _).trans rO (fun _ _ h=>h));have HGA:Hid (ct w.heap.size o o5):=aa (fun x hx=>BW x (by have:=HTW.o.size;simp;omega));have WM:l5.length=k:=by
         have:=YA.1;rw[List.length_map,List.length_map,zM.o]at this;exact this
        have Mn:=aa WM;clear FD Jl ab1 YA PA ab2 rO BW WM;by_cases Bq:c5=0
        ·subst Bq;have hf5:∃v5 f5,l5[ii]? = some (v5,f5)/\f5.full=true/\f5.bS=false/\f5.name=f.name/\f5.k=f.k:=by
          obtain⟨fr,h1,h2⟩:=UF.o rfl;obtain⟨dd,g1,_⟩:=YB.o.2 ii f (cq HI.o);rw[h1]at g1;have e:=Option.some.inj g1;have hl5:ii<l5.length:=by rw[Mn.o];exact hik
          have e2:l5[ii].2=fr:=by
           rw[List.getElem?_map,List.getElem?_eq_getElem hl5]at h1;exact Option.some.inj h1
          refine⟨l5[ii].1,fr,by rw[List.getElem?_eq_getElem hl5,<- e2],?_,h2,by rw[e],by rw[e]⟩;rw[e];exact tU.o
         obtain⟨v5,f5,UG,ab4,ab5,ab6,ab7⟩:=hf5;have HI5:=aa UG;have ahb:=aa ab5;have ahc:f5.name.size<=1000:=by rw[ab6];exact TW
         have ahd:f5.k<9223372036854775808:=by rw[ab7];exact hkb
         have YC:=aa (vP Mm.o UG ab4 ahc ahd);clear UG ab5 ab4 ab6 ab7;go_wp2_with fail;refine YC.o.mono ?_;rintro e w6⟨rfl,hp6,UE⟩;have GD:=aa hp6;have Ql:=aa UE;clear hp6 UE;obtain⟨⟨-,hc1,-⟩,hz3,-⟩:=GD.o.head.cells;obtain⟨⟨-,-,-,hc3,-⟩,-⟩:=GD.o.head.cells;rw[List.length_set,Mn.o]at hc1;go_wp2;rw[Exit.noGoto_ret];go_ret2;rw[HM.o];have nZ:ii<l5.length:=aN HI5.o;refine⟨o5,l5.set ii (.slice none 0 0,bY.none),(ii+1)%k,d5,0,ii,rfl,GD.o.vD ((aH.refl (·=pb) w6).setCell ⟨pb,3,none⟩ _ (.inl rfl)) (GD.o.head.Eb _) (by rw[List.length_set,Mn.o];exact Nat.mod_lt _ ae) GD.o.full,?_,ab3.o,.inl rfl,fun _=>⟨(.slice none 0 0,bY.none),by rw[eY nZ,if_pos rfl],rfl⟩,?_,?_,HGA.o⟩
         ·rw[map_set];exact Ny.o.reset (cq HI5.o) ahb.o rfl (.inl rfl)
         ·rw[map_set];exact(HST.o.C9.trans YB.o.C9).trans (mF.none (by rw[List.length_map];exact nZ))
         ·refine(HTA.o.trans (Ql.o.mono (S':=o5.In cz) (fun x _ e=>e.elim (fun e=>e▸GD.o.mE) (fun e=>e ▸ ⟨_,GD.o.nY,show 8<10 by decide⟩))) ?_).trans ((aH.refl (o5.In cz) w6).setCell ⟨pb,3,none⟩ _ (.inl ⟨_,GD.o.yq,show 6<10 by decide⟩)) ?_;all_goals
           intro x hx ⟨t,h1,h2⟩;exact⟨t,by first | (rw[<- HGA.o x hx];exact h1) | exact h1,h2⟩
        ·have ab9:¬(c5:Int)=0:=by omega
         obtain⟨⟨-,-,-,hc3,-⟩,hz3,-⟩:=Mm.o.head.cells;have Nz:=aa Bq;clear Bq;go_wp2;rw[Exit.noGoto_ret];go_ret2;refine⟨o5,l5,ii,d5,c5,0,rfl,Mm.o.vD ((aH.refl (·=pb) w5).setCell ⟨pb,3,none⟩ _ (.inl rfl)) (Mm.o.head.Eb _) (by rw[Mn.o];exact hik) Mm.o.full,Ny.o,ab3.o,QO.o,fun h=>absurd h Nz.o,HST.o.C9.trans YB.o.C9,?_,HGA.o⟩;exact HTA.o.trans ((aH.refl (o5.In cz) w5).setCell ⟨pb,3,none⟩ _ (.inl ⟨_,Mm.o.yq,show 6<10 by decide⟩)) (fun x hx ⟨t,h1,h2⟩=>⟨t,by rw[<- HGA.o x hx];exact h1,h2⟩)
theorem BX(name:Name){B:Nat}(fs:List bY)(h:∀f∈fs,f.full=true->f.bS=true->f.name=name->f.k<B):∀n0,n0<=B->eT name n0 fs<=B:=by
 induction fs with
 |nil=>intro n0 hn;exact hn
 |cons f fs ih=>
   intro n0 hn;have hf:=h f ah;unfold eT at ih ⊢;rw[List.foldl_cons];refine ih (fun g hg=>h g (by simp[hg])) _ ?_;unfold gO;split
   ·rename_i hc
    have:=hf hc.1 hc.2.1 hc.2.2;omega
   ·exact hn
theorem tX(name:Name)(fs:List bY):∀n0,n0<=eT name n0 fs:=by
 induction fs with
 |nil=>intro n0;exact Nat.le_refl _
 |cons f fs ih=>
   intro n0;unfold eT at ih ⊢;rw[List.foldl_cons];refine Nat.le_trans ?_ (ih _);unfold gO;split<;>omega
theorem BZ(name:Name)(fs:List bY){f:bY}(hf:f∈fs)(h1:f.full=true)(h2:f.bS=true)(h3:f.name=name):∀n0,f.k+1<=eT name n0 fs:=by
 induction fs with
 |nil=>cases hf
 |cons g fs ih=>
   intro n0;unfold eT at ih ⊢;rw[List.foldl_cons];rcases List.mem_cons.1 hf with rfl | hf
   ·refine Nat.le_trans ?_ (tX name fs _);unfold gO;rw[if_pos ⟨h1,h2,h3⟩];omega
   ·exact ih hf _
theorem Sound.eT{d:Dsk}{fs:List bY}{L:aC}(h:Sound d fs L){n:Name}{ps:List Pg}{fl:Bool}(hL:aA L n=some (.inl (ps,fl))){f:bR}{dp:List Pg}(q:dz d fs n ps fl f dp):eT n dp.length fs=ps.length:=by
 refine Nat.le_antisymm (BX n fs (fun g hg h1 _ h3=>?_) _ q.le) ?_
 ·obtain⟨Gh,kO,Bp,hk⟩:=h.frames g hg h1;rw[h3,hL]at Bp;cases Bp;exact aN hk
 ·rcases Nat.eq_or_lt_of_le q.le with e | hlt
  ·rw[<- e];exact tX _ _ _
  ·rcases q.each (ps.length-1) ae with h1 |⟨j,g,g1,g2,g3,g4,g5⟩
   ·omega
   ·have:=BZ n fs (List.mem_of_getElem? g1) g2 g3 g4 dp.length;omega
def ep(d:Dsk)(ps:List Pg):Nat×Nat:=if d.dead=true then (0,6) else (ps.length,0)
theorem qx{w:World}{pb db fb mb:Nat}{o:ar}{l:List iB}{hand mf:Nat}{d:Dsk}{L:aC}(h:br w pb db fb mb o l hand mf d)(hg:Sound d (l.map (·.2)) L){name:Name}{ps:List Pg}{fl:Bool}(hL:aA L name=some (.inl (ps,fl))) :
 Calls prog 92 #[ptrTo pb,.string name] w fun e w'=>e=.returned (.tuple #[.int .i64 ((ep d ps).1:Int),.int .i64 ((ep d ps).2:Int)])/\Below w.heap.size w w':=by
 obtain⟨f,dp,q,lM,kA⟩:=hg.zJ hL;refine(C6 h (fun p hp=>(hg.vR p hp).2) name (bZ (hg.ok name (by rw[hL];rfl)))).mono ?_;rintro e w'⟨rfl,hb⟩;refine⟨?_,hb⟩;unfold ep;cases hd:d.dead with
 |true=>
   rw[(kA hd).2];rfl
 |false=>
   rw[(lM hd).2,(lM hd).1,if_pos rfl,show 256*dp.length/256=dp.length by omega,hg.eT hL q];rfl
theorem Sound.read{d:Dsk}{fs:List bY}{L:aC}(h:Sound d fs L){n:Name}{ps:List Pg}{fl:Bool}(hL:aA L n=some (.inl (ps,fl))){f:bR}{dp:List Pg}(q:dz d fs n ps fl f dp)(hd:d.dead=false){k:Nat}{b:Pg}(hk:ps[k]? = some b)(hno:¬eR fs n k):k<dp.length/\d.read n (256*k) 256=(dt (je n) k b,0):=by
 have yo:=aN hk;rcases q.each k yo with⟨h1,h2⟩| h1
 ·refine⟨h1,?_⟩;have fw:bM n=true:=h.ok n (by rw[hL];rfl);unfold Dsk.read;rw[hd,if_neg ah,fw,if_neg ah,q.get];dsimp only;rw[q.now,BR q.BS h1,Nat.zero_add];have e:dp[k]=b:=by
   rw[hk,List.getElem?_eq_getElem h1]at h2;exact Option.some.inj h2
  rw[e]
 ·exact absurd h1 hno
theorem Sound.mark{d:Dsk}{fs:List bY}{L:aC}(h:Sound d fs L){i:Nat}{x:bY}(hi:fs[i]? = some x)(hx:x.full=true)(u:Bool):Sound d (fs.set i { x with used:=u }) L:=
 h.used List.length_set fun j f f' hj hj'=>by
  rw[eY (aN hi)]at hj';by_cases e:j=i
  ·rw[if_pos e]at hj';rw[e,hi]at hj;cases hj;cases hj';exact⟨rfl,fun hf=>by rw[hx]at hf;cases hf⟩
  ·rw[if_neg e,hj]at hj';cases hj';exact⟨rfl,fun _=>rfl⟩
def NA(w:World)(pb db fb mb n:Nat)(o:ar)(d:Dsk)(L:aC)(name:Name)(k:Nat)(e:Ending)(w':World):Prop:=
 ∃o' l' QM Yt d' c i,e=.returned (.tuple #[.int .i64 ((i:Nat):Int),.int .i64 ((c:Nat):Int)])/\br w' pb db fb mb o' l' QM Yt d'/\l'.length=n/\Sound d' (l'.map (·.2)) L/\bK d d'/\(c=0\/kJ d d' L c) /\
  (c=0->∃v f,l'[i]? = some (v,f)/\f.full=true/\f.name=name/\f.k=k)/\aH (o.In cz) w w'/\ct w.heap.size o o'
theorem NB(HW:aQ){w:World}{pb db fb mb:Nat}{o:ar}{l:List iB}{hand mf:Nat}{d:Dsk}{L:aC}(h:br w pb db fb mb o l hand mf d)(hg:Sound d (l.map (·.2)) L){name:Name}{ps:List Pg}{fl:Bool}(hL:aA L name=some (.inl (ps,fl))){k:Nat}{b:Pg}(hk:ps[k]? = some b) :
 Calls prog 137 #[ptrTo pb,.string name,.int .i64 (k:Int)] w (NA w pb db fb mb l.length o d L name k):=by
 obtain⟨f,dp,q,lM,kA⟩:=hg.zJ hL;have hs:=bZ (hg.ok name (by rw[hL];rfl));have yo:=aN hk;have jc:=q.most;have hbl:b.length<=240:=q.short b (List.mem_of_getElem? hk);have aM:=aa (qx h hg hL);have H:=aa h;have HG:=aa hg;have HL:=aa hL;have HK:=aa hk;have HQ:=aa q;have aca:=aa lM;have akY:=aa kA;have hn:=h.most;have Nu:=h.head.lt;obtain⟨m,dY,cP⟩:=h.tQ;have eo:=aa dY;have eu:=aa cP;have Qn:=aa (rq (s:=name) (n:=k) (by unfold maxLen;omega) ae);clear h hg hL hk q lM kA dY cP;unfold ptrTo at *;unfold ep at aM;cases hd:d.dead with
 |true=>
   rw[hd,if_pos rfl]at aM;have HD:=aa hd;clear hd;go_enter func137,ntmps137;go_wp2_with fail;refine aM.o.mono ?_;rintro e w1⟨rfl,hb⟩;have HB:=aa hb;clear hb;go_wp2;go_ret2;exact⟨o,l,hand,mf,d,6,0,rfl,H.o.below HB.o,rfl,HG.o,bK.refl d,.inr (.inr ⟨rfl,HD.o⟩),fun h=>absurd h af,aH.aU HB.o,ct.refl _ _⟩
 |false=>
   rw[hd,if_neg ah]at aM;have HD:=aa hd;clear hd;have JD:¬((k:Int) >= (ps.length:Int)):=by omega
   have JI:¬((k:Int)<0):=by omega
   generalize hP:ps.length=P at *;have HP:=aa hP;clear hP;cases Ei:aA m (name,k) with
   |some i=>
     have QP:=aa Ei;clear Ei;obtain⟨fr,hi,tK,hf2,hf3⟩:=(eu.o name k i).1 QP.o;have nZ:i<l.length:=by have:=aN hi;rwa [List.length_map]at this
     go_enter func137,ntmps137;go_wp2_with fail;refine aM.o.mono ?_;rintro e w1⟨rfl,hb⟩;have HB:=aa hb;have H1:=aa (H.o.below hb);have eF:Hid (jg w1 mb m):=aa (eo.o.kept (hb.block mb eo.o.lt));clear hb;obtain⟨⟨-,hc1,hc2,-⟩,-⟩:=H1.o.head.cells;have hz:∀W:World,(zeroValue 3).run prog W=.ok (.int .i64 0) W:=fun W=>by kernel_rfl
     obtain⟨a,c,f0,hi'⟩:=H1.o.shaped.get rfl nZ;obtain rfl:f0=fr:=by
      have:=cq hi';rw[hi]at this;exact(Option.some.inj this).symm
     obtain⟨-,-,-,-,-,-,h6⟩:=H1.o.row.seven hi';have WC:=H1.o.row.free (i*7+6);have HI':=aa hi';clear hi hi';go_wp2_with (at_lookup;refine bX _ rfl _ _ _ _ rfl 3 jM fF Tryz.underlying148 (hz _) mb m rfl eF.o (name,k) rfl Qn.o ?_;unfold pW;rw[QP.o];simp only[Option.map_some,Option.getD_some,Option.isSome_some]);go_ret2;have tW:=H1.o.mark (j:=6) (u:=.bool true) (x:={ f0 with used:=true }) HI'.o af rfl rfl rfl rfl rfl;refine⟨o,_,hand,mf,d,0,i,rfl,tW,List.length_set,?_,bK.refl d,.inl rfl,fun _=>⟨.slice a f0.bytes.length c,{ f0 with used:=true },by rw[eY nZ,if_pos rfl],tK,hf2,hf3⟩,(aH.aU HB.o).setCell _ _ (.inl H.o.mE),ct.refl _ _⟩;rw[map_set];exact HG.o.mark (cq HI'.o) tK true
   |none=>
     have QP:=aa Ei;clear Ei;have vH:∀(j:Nat)(fj:bY),(l.map (·.2))[j]? = some fj->fj.full=true->fj.name=name->fj.k=k->False:=fun j fj h1 h2 h3 h4=>by
      have:=(eu.o name k j).2 ⟨fj,h1,h2,h3,h4⟩;rw[QP.o]at this;cases this
     have YD:=aa vH;obtain⟨hkd,Bn⟩:=HG.o.read HL.o HQ.o HD.o HK.o (fun⟨j,fr,h1,h2,_,h4,h5⟩=>vH j fr h1 h2 h4 h5);obtain⟨hsz,BP⟩:=aca.o HD.o;have LX:=aa Bn;have Bt:=aa hsz;have Mi:=aa BP;have ahe:Hid (dp.length<=65536):=aa (by have:=HQ.o.le;have:=HP.o;omega);clear vH Bn hsz BP;go_enter func137,ntmps137;go_wp2_with fail;refine aM.o.mono ?_;rintro e w1⟨rfl,hb⟩;have HB:=aa hb;have H1:=aa (H.o.below hb);have eF:Hid (jg w1 mb m):=aa (eo.o.kept (hb.block mb eo.o.lt));clear hb;obtain⟨⟨hc0,-,hc2,-⟩,-⟩:=H1.o.head.cells;unfold ptrTo at hc0;have hz:∀W:World,(zeroValue 3).run prog W=.ok (.int .i64 0) W:=fun W=>by kernel_rfl
     go_wp2_with (at_lookup;refine bX _ rfl _ _ _ _ rfl 3 jM fF Tryz.underlying148 (hz _) mb m rfl eF.o (name,k) rfl Qn.o ?_;unfold pW;rw[QP.o];simp only[Option.map_none,Option.getD_none,Option.isSome_none]);refine(zG H1.o.lK name hs).mono ?_;rintro e w2⟨v2,rfl,hb2,hy,-⟩;obtain⟨pf,rfl,hp,hpl⟩:=hy Mi.o;rw[Mi.o];have WJ:=aa hp;have H2:=aa (H1.o.below hb2);have cX:=aa (HB.o.trans (hb2.mono HB.o.size));clear hb2 hy hp hz;unfold ptrTo;go_wp2_with fail;refine(Nt H2.o.lK WJ.o hs k (256*dp.length) b Bt.o ae (by have:=ahe.o;omega) LX.o hbl).mono ?_;rintro e w3⟨v3,rfl,iJ,hb3⟩;obtain⟨a3,c3,rfl⟩:=az iJ;have H3:=aa (H2.o.below hb3);have jC:=aa (cX.o.trans (hb3.mono cX.o.size));have mB:=aa iJ;have hs3:w.heap.size<=w2.heap.size:=cX.o.size;have WN:Hid (∀b',(Value.slice a3 b.length c3).ownBlock=some b'->o b'=none):=aa (fun b' hb'=>eK H.o.owned (by have:=aG iJ b' hb';omega));have FE:Hid (∀b',(Value.slice a3 b.length c3).ownBlock=some b'->b'<w3.heap.size):=aa (fun b' hb'=>(aL iJ b' hb').1);clear iJ hb3;go_wp2_with fail;refine(GC HW H3.o HG.o).mono ?_;rintro e w4⟨o4,l4,GF,d4,c4,i4,rfl,oO,hg4,tY,u6,QQ,GG,tG,NC⟩;have xD:=aa oO;have tq:=aa hg4;have QR:=aa tY;have B0:=aa u6;have YE:=aa QQ;have zN:=aa GG;have uX:=aa ((aH.aU jC.o).trans tG (fun _ _ h=>h):aH (o.In cz) w w4);have J4:Hid (ct w.heap.size o o4):=aa (fun x hx=>NC x (Nat.lt_of_lt_of_le hx jC.o.size));have TX:Hid (w4.ownsRow w2.heap.size 5 1 (.slice a3 b.length c3) b.length (b.map bv)):=aa (tG.ownsRow mB.o (fun b' hb'=>ar.dF (WN.o b' hb')));have YF:Hid (∀b',(Value.slice a3 b.length c3).ownBlock=some b'->o4 b'=none):=aa (fun b' hb'=>by rw[NC b' (FE.o b' hb')];exact WN.o b' hb');clear oO hg4 tY u6 QQ GG tG NC;by_cases gZ:c4=0
     ·subst gZ;obtain⟨p4,xz,J6⟩:=YE.o rfl;have HI4:=aa xz;have YG:=aN xz;have QS:=aa J6;have zO:∀(j:Nat)(fj:bY),(l4.map (·.2))[j]? = some fj->fj.full=true->fj.name=name->fj.k=k->False:=fun j fj h1 h2 h3 h4=>by
       obtain⟨y,g1,g2,g3,g4⟩:=zN.o.2 j fj h1 h2;exact YD.o j y g1 g2 (g3.trans h3) (g4.trans h4)
      have QT:=aa zO;have nx:=aa (Gs xD.o xz J6 ⟨true,name,k,b,false,true⟩ TX.o YF.o zO hs (by show k<_;omega) false);unfold ptrTo at nx;dsimp only at nx;clear xz J6 zO;go_wp2_with fail;refine nx.o.mono ?_;rintro e w5⟨rfl,⟨mf5,FD⟩,rO⟩;have Mm:=aa FD;have D4:=aa rO;clear FD rO;go_wp2;go_ret2;refine⟨_,_,GF,mf5,d4,0,i4,rfl,Mm.o,by rw[List.length_set];simpa using zN.o.1,?_,QR.o,.inl rfl,fun _=>⟨.slice a3 b.length c3,⟨true,name,k,b,false,true⟩,by rw[eY YG,if_pos rfl],rfl,rfl,rfl⟩,?_,?_⟩
      ·rw[map_set];have uY:p4.2.bS=false:=by
        rw[tq.o.blank p4.2 (List.mem_of_getElem? (cq HI4.o)) QS.o];rfl
       exact tq.o.reset (cq HI4.o) uY rfl (.inr ⟨rfl,⟨ps,fl,HL.o,HK.o⟩,fun i' fi' _ h1 h2 h3 h4=>QT.o i' fi' h1 h2 h3 h4⟩)
      ·refine uX.o.trans D4.o (fun x hx e=>?_);have h1:o4.In cz x:=by
        rcases e with rfl | rfl | rfl
        ·exact xD.o.mE
        ·exact⟨_,xD.o.nY,show 8<10 by decide⟩
        ·exact⟨_,xD.o.yq,show 6<10 by decide⟩
       obtain⟨t,g1,g2⟩:=h1;exact⟨t,by rw[<- J4.o x hx];exact g1,g2⟩
      ·exact J4.o.trans (ar.tH (n:=w2.heap.size) (fun b' hb'=>aG TX.o b' hb')) hs3
     ·have tZ:¬(c4:Int)=0:=by omega
      have Bv:=aa gZ;clear gZ;go_wp2;go_ret2;exact⟨o4,l4,GF,mf,d4,c4,0,rfl,xD.o,by simpa using zN.o.1,tq.o,QR.o,B0.o,fun h=>absurd h Bv.o,uX.o,J4.o⟩
def gP(w:World)(pb db n:Nat)(o:ar)(d:Dsk)(L:aC)(b:Pg)(e:Ending)(w':World):Prop:=
 ∃v c d' o',e=.returned (.tuple #[v,.int .i64 ((c:Nat):Int)])/\aP w' pb db n o' d' L/\aH (o.In cz) w w'/\ct w.heap.size o o'/\bK d d'/\(c=0\/kJ d d' L c) /\
  (c=0->w'.ownsRow w.heap.size 5 1 v b.length (b.map bv)/\∀x,v.ownBlock=some x->o' x=none)/\(c≠0->v=.slice none 0 0)
theorem pj(HW:aQ){w:World}{pb db n:Nat}{o:ar}{d:Dsk}{L:aC}(h:aP w pb db n o d L){name:Name}{ps:List Pg}{fl:Bool}(hL:aA L name=some (.inl (ps,fl))){k:Nat}{b:Pg}(hk:ps[k]? = some b) :
 Calls prog 93 #[ptrTo pb,.string name,.int .i64 (k:Int)] w (gP w pb db n o d L b):=by
 obtain⟨fb,mb,l,hand,mf,hp,rfl,hg⟩:=h;have hbl:b.length<=240:=by
  obtain⟨f,dp,q⟩:=hg.dG _ _ _ hL;exact q.short b (List.mem_of_getElem? hk)
 have aM:=aa (NB HW hp hg hL hk);have HL:=aa hL;have HK:=aa hk;clear hp hg hL hk;unfold ptrTo at *;go_enter func93,ntmps93;go_wp2_with fail;refine aM.o.mono ?_;rintro e w1⟨o1,l1,WO,mf1,d1,c1,i1,rfl,zu,WQ,hg1,acd,tu,ace,mq,acf⟩;have JX:=aa zu;have Jm:=aa hg1;have WR:=aa WQ;have acg:=aa acd;have Da:=aa tu;have ahh:=aa ace;have P6:=aa mq;have ach:=aa acf;clear WQ zu hg1 acd tu ace mq acf;by_cases hc:c1=0
 ·subst hc;obtain⟨v1,f1,rX,tK,hf2,hf3⟩:=ahh.o rfl;have anS:=aN rX;have hbf:f1.bytes=b:=by
   obtain⟨Gh,kO,Bp,BK⟩:=Jm.o.frames f1 (List.mem_of_getElem? (cq rX)) tK;rw[hf2,HL.o]at Bp;cases Bp;rw[hf3,HK.o]at BK;exact(Option.some.inj BK).symm
  have HBF:=aa hbf;have hrow:=(JX.o.each _ (List.mem_of_getElem? rX)).1;dsimp only at hrow;obtain⟨a1,cc1,rfl⟩:=az hrow;rw[hbf]at hrow rX;have F7:=aa hrow;obtain⟨-,-,-,h3,-⟩:=JX.o.row.seven rX;obtain⟨⟨-,hc1,-⟩,-⟩:=JX.o.head.cells;clear rX tK hf2 hf3 hbf hrow;go_wp2_with fail;refine(fQ _ b _ (fp F7.o) ae).mono ?_;rintro e w2⟨v2,rfl,ko,hb2⟩;go_wp2;go_ret2;refine⟨v2,0,d1,o1,rfl,⟨fb,mb,l1,WO,mf1,JX.o.below hb2,WR.o,Jm.o⟩,P6.o.bN hb2,ach.o,acg.o,.inl rfl,fun _=>⟨aV ko P6.o.size,fun x hx=>eK JX.o.owned (aG ko x hx)⟩,fun h=>absurd rfl h⟩
 ·have hc':¬(c1:Int)=0:=by omega
  have HC:=aa hc;clear hc;go_wp2;go_ret2;exact⟨_,c1,d1,o1,rfl,⟨fb,mb,l1,WO,mf1,JX.o,WR.o,Jm.o⟩,P6.o,ach.o,acg.o,Da.o,fun h=>absurd h HC.o,fun _=>rfl⟩
theorem br.lay{w:World}{pb db fb mb:Nat}{o:ar}{l:List iB}{hand mf:Nat}{d:Dsk}(h:br w pb db fb mb o l hand mf d){i:Nat}{u:Value}{f:bY}(hi:l[i]? = some (u,f)){v:Value}{b:Pg}{base:Nat}(hv:w.ownsRow base 5 1 v b.length (b.map bv))(mm:∀x,v.ownBlock=some x->o x=none) :
 br (((w.setCell ⟨fb,i*7+3,none⟩ v).setCell ⟨fb,i*7+5,none⟩ (.bool true)).setCell ⟨fb,i*7+6,none⟩ (.bool true)) pb db fb mb (o.put v (9,0)) (l.set i (v,{ f with bytes:=b,bS:=true,used:=true })) hand mf d:=by
 have nZ:=aN hi;have r1:=h.row.set' (q:=(v,{ f with bytes:=b })) hi (j:=3) af (v:=v) rfl;have g1:(l.set i (v,{ f with bytes:=b }))[i]? = some (v,{ f with bytes:=b }):=by rw[eY nZ,if_pos rfl]
 have r2:=r1.set' (q:=(v,{ f with bytes:=b,bS:=true })) g1 (j:=5) af (v:=.bool true) rfl;have g2:((l.set i (v,{ f with bytes:=b })).set i (v,{ f with bytes:=b,bS:=true }))[i]? = some (v,{ f with bytes:=b,bS:=true }):=by rw[eY (by rw[List.length_set];exact nZ),if_pos rfl]
 have r3:=r2.set' (q:=(v,{ f with bytes:=b,bS:=true,used:=true })) g2 (j:=6) af (v:=.bool true) rfl;rw[List.set_set,List.set_set]at r3;have ht:aH (·=fb) w (((w.setCell ⟨fb,i*7+3,none⟩ v).setCell ⟨fb,i*7+5,none⟩ (.bool true)).setCell ⟨fb,i*7+6,none⟩ (.bool true)):=(((aH.refl (·=fb) w).setCell ⟨fb,i*7+3,none⟩ v (.inl rfl)).setCell ⟨fb,i*7+5,none⟩ (.bool true) (.inl rfl)).setCell ⟨fb,i*7+6,none⟩ (.bool true) (.inl rfl);have WS:∀x,v.ownBlock=some x->x<w.heap.size:=fun x hx=>(aL hv x hx).1;refine h.tR r3 (ht.mono fun _ _ e=>.inl e) (ar.tI mm) (fun x t hx=>Nat.lt_of_lt_of_le (ar.vF h.owned WS x t hx) ht.size) ?_ ?_
 ·obtain⟨m,m1,m2⟩:=h.tQ;exact⟨m,m1.turn ht (ar.ne h.nY h.r7 af),m2.same (cq hi) rfl rfl rfl⟩
 ·exact⟨aV (ht.ownsRow hv (fun x hx e=>by have:=mm x hx;rw[e,h.r7]at this;cases this)) (Nat.zero_le _),fun x hx=>ar.zt hx⟩
def ny(w:World)(pb db n:Nat)(o:ar)(d:Dsk)(L L':aC)(e:Ending)(w':World):Prop:=
 ∃c d' o',e=.returned (.int .i64 ((c:Nat):Int))/\aP w' pb db n o' d' (if c=0 then L' else L)/\aH (o.In cz) w w'/\ct w.heap.size o o'/\bK d d'/\(c=0\/kJ d d' L c)
theorem br.WT{w:World}{pb db fb mb:Nat}{o:ar}{l:List iB}{hand mf:Nat}{d:Dsk}(h:br w pb db fb mb o l hand mf d):o.In cz mb:=⟨_,h.nY,show 8<10 by decide⟩
theorem br.aci{w:World}{pb db fb mb:Nat}{o:ar}{l:List iB}{hand mf:Nat}{d:Dsk}(h:br w pb db fb mb o l hand mf d):o.In cz pb:=⟨_,h.yq,show 6<10 by decide⟩
theorem UH{n:Nat}{o o':ar}(hg:ct n o o'){C:Nat->Prop}{x:Nat}(hx:x<n)(h:o'.In C x):o.In C x:=by
 obtain⟨t,h1,h2⟩:=h;exact⟨t,by rw[<- hg x hx];exact h1,h2⟩
theorem B5(HW:aQ){w:World}{pb db n:Nat}{o:ar}{d:Dsk}{L:aC}(h:aP w pb db n o d L){name:Name}{ps:List Pg}{fl:Bool}(hL:aA L name=some (.inl (ps,fl))){k:Nat}(hk:k<=ps.length)(BK:k<65536){v:Value}{b:Pg}(hv:Rd w v b)(hb:b.length<=240)(mm:∀x,v.ownBlock=some x->o x=none) :
 Calls prog 155 #[ptrTo pb,.string name,.int .i64 (k:Int),v] w (ny w pb db n o d L (aS L name (.inl (dh ps k b,false)))):=by
 obtain⟨fb,mb,l,hand,mf,hp,rfl,hg⟩:=h;have hs:=bZ (hg.ok name (by rw[hL];rfl));have aM:=aa (qx hp hg hL);have H:=aa hp;have HG:=aa hg;have HL:=aa hL;have HV:=aa hv;have vQ:=aa mm;have HK:=aa hk;have FH:=aa hb;obtain⟨va,vc,rfl,-⟩:=hv;have hn:=hp.most;have Nu:=hp.head.lt;obtain⟨m,dY,cP⟩:=hp.tQ;have eo:=aa dY;have eu:=aa cP;have Qn:=aa (rq (s:=name) (n:=k) (by unfold maxLen;omega) ae);have ak0:¬((b.length:Int)>240):=by omega
 have JD:¬((k:Int)>(ps.length:Int)):=by omega
 have JI:¬((k:Int)<0):=by omega
 clear hp hg hL dY cP mm hk hb;unfold ptrTo at *;unfold ep at aM;generalize hP:ps.length=P at *;have HP:=aa hP;clear hP;generalize hB:b.length=B at *;have HB:=aa hB;clear hB;cases hd:d.dead with
 |true=>
   rw[hd,if_pos rfl]at aM;have HD:=aa hd;clear hd;go_enter func155,ntmps155;go_wp2_with fail;refine aM.o.mono ?_;rintro e w1⟨rfl,hb⟩;have cS:=aa hb;clear hb;go_wp2;go_ret;exact⟨6,d,o,rfl,⟨fb,mb,l,hand,mf,H.o.below cS.o,rfl,HG.o⟩,aH.aU cS.o,ct.refl _ _,bK.refl d,.inr (.inr ⟨rfl,HD.o⟩)⟩
 |false=>
   rw[hd,if_neg ah]at aM;clear hd;have hz:∀W:World,(zeroValue 3).run prog W=.ok (.int .i64 0) W:=fun W=>by kernel_rfl
   cases Ei:aA m (name,k) with
   |some i=>
     have QP:=aa Ei;clear Ei;obtain⟨fr,hi,tK,hf2,hf3⟩:=(eu.o name k i).1 QP.o;have nZ:i<l.length:=by have:=aN hi;rwa [List.length_map]at this
     go_enter func155,ntmps155;go_wp2_with fail;refine aM.o.mono ?_;rintro e w1⟨rfl,hb⟩;have cS:=aa hb;have H1:=aa (H.o.below hb);have eF:Hid (jg w1 mb m):=aa (eo.o.kept (hb.block mb eo.o.lt));clear hb;obtain⟨⟨-,hc1,hc2,-⟩,-⟩:=H1.o.head.cells;obtain⟨a,c,f0,hi'⟩:=H1.o.shaped.get rfl nZ;obtain rfl:f0=fr:=by
      have:=cq hi';rw[hi]at this;exact(Option.some.inj this).symm
     have HI':=aa hi';have UI:=aa (HV.o.below cS.o);clear hi hi';go_wp2_with (first | (at_lookup;refine bX _ rfl _ _ _ _ rfl 3 jM fF Tryz.underlying148 (hz _) mb m rfl eF.o (name,k) rfl Qn.o ?_;unfold pW;rw[QP.o];simp only[Option.map_some,Option.getD_some,Option.isSome_some]) | fail);have uY:=aa (fQ _ b w1 UI.o (by have:=HB.o;have:=FH.o;omega));refine uY.o.mono ?_;rintro e w2⟨v2,rfl,ko,hb2⟩;obtain⟨a2,c2,rfl⟩:=az ko;have H2:=aa (H1.o.below hb2);have cX:=aa (cS.o.trans (hb2.mono cS.o.size));have p7:=aa ko;have hs1:w.heap.size<=w1.heap.size:=cS.o.size;have WU:Hid (∀x,(Value.slice a2 b.length c2).ownBlock=some x->o x=none):=aa (fun x hx=>eK H.o.owned (Nat.le_trans hs1 (aG ko x hx)));clear ko hb2 hc1 hc2;obtain⟨-,-,-,h3,-,h5,h6⟩:=H2.o.row.seven HI'.o;have z3:=H2.o.row.free (i*7+3);have z5:=H2.o.row.free (i*7+5);have z6:=H2.o.row.free (i*7+6);go_wp2;go_ret;have YH:=H2.o.lay HI'.o p7.o WU.o;have YI:=HG.o.write (cq HI'.o) HL.o (u:=true) (by rw[HP.o];exact HK.o) BK (b:=b) (by rw[HB.o];exact FH.o) (.inl ⟨tK,hf2,hf3⟩);refine⟨0,d,_,rfl,⟨fb,mb,_,hand,mf,YH,List.length_set,?_⟩,?_,?_,bK.refl d,.inl rfl⟩
     ·rw[if_pos rfl,map_set];subst hf2 hf3;rw[tK];exact YI
     ·exact(((aH.aU cX.o).setCell ⟨fb,i*7+3,none⟩ _ (.inl H.o.mE)).setCell ⟨fb,i*7+5,none⟩ (.bool true) (.inl H.o.mE)).setCell ⟨fb,i*7+6,none⟩ (.bool true) (.inl H.o.mE)
     ·exact ar.tH (fun x hx=>Nat.le_trans hs1 (aG p7.o x hx))
   |none=>
     have QP:=aa Ei;clear Ei;have vH:∀(j:Nat)(fj:bY),(l.map (·.2))[j]? = some fj->fj.full=true->fj.name=name->fj.k=k->False:=fun j fj h1 h2 h3 h4=>by
      have:=(eu.o name k j).2 ⟨fj,h1,h2,h3,h4⟩;rw[QP.o]at this;cases this
     have YD:=aa vH;clear vH;go_enter func155,ntmps155;go_wp2_with fail;refine aM.o.mono ?_;rintro e w1⟨rfl,hb⟩;have cS:=aa hb;have H1:=aa (H.o.below hb);have eF:Hid (jg w1 mb m):=aa (eo.o.kept (hb.block mb eo.o.lt));have UI:=aa (HV.o.below hb);clear hb;obtain⟨⟨-,-,hc2,-⟩,-⟩:=H1.o.head.cells;go_wp2_with (first | (at_lookup;refine bX _ rfl _ _ _ _ rfl 3 jM fF Tryz.underlying148 (hz _) mb m rfl eF.o (name,k) rfl Qn.o ?_;unfold pW;rw[QP.o];simp only[Option.map_none,Option.getD_none,Option.isSome_none]) | fail);refine(GC HW H1.o HG.o).mono ?_;rintro e w4⟨o4,l4,GF,d4,c4,i4,rfl,oO,hg4,tY,u6,QQ,GG,tG,NC⟩;have xD:=aa oO;have tq:=aa hg4;have QR:=aa tY;have B0:=aa u6;have YE:=aa QQ;have zN:=aa GG;have hs1:w.heap.size<=w1.heap.size:=cS.o.size;have uX:=aa ((aH.aU cS.o).trans tG (fun _ _ h=>h):aH (o.In cz) w w4);have J4:Hid (ct w.heap.size o o4):=aa (fun x hx=>NC x (Nat.lt_of_lt_of_le hx cS.o.size));have J7:Hid (Rd w4 (.slice va B vc) b):=aa (tG.rd UI.o (fun x hx=>ar.dF (vQ.o x hx)));have oP:w.heap.size<=w4.heap.size:=uX.o.size;clear oO hg4 tY u6 QQ GG tG NC hc2;by_cases gZ:c4=0
     ·subst gZ;obtain⟨p4,xz,J6⟩:=YE.o rfl;have HI4:=aa xz;have YG:=aN xz;have QS:=aa J6;have zO:∀(j:Nat)(fj:bY),(l4.map (·.2))[j]? = some fj->fj.full=true->fj.name=name->fj.k=k->False:=fun j fj h1 h2 h3 h4=>by
       obtain⟨y,g1,g2,g3,g4⟩:=zN.o.2 j fj h1 h2;exact YD.o j y g1 g2 (g3.trans h3) (g4.trans h4)
      have QT:=aa zO;have nx:=aa (Gs xD.o xz J6 ⟨true,name,k,[],false,false⟩ (a:=none) (c:=0) (base:=0) (ownsRow_nil _ _ _) (fun x hx=>by cases hx) zO hs (by show k<_;omega) false);unfold ptrTo at nx;dsimp only at nx;clear xz J6 zO;go_wp2_with fail;refine nx.o.mono ?_;rintro e w5⟨rfl,⟨mf5,FD⟩,rO⟩;have acj:o4.put (.slice none ([]:Pg).length 0) (9,0)=o4:=rfl;rw[acj]at FD;have Mm:=aa FD;have D4:=aa (uX.o.trans rO (fun x hx e=>by
       have h1:o4.In cz x:=by
        rcases e with rfl | rfl | rfl
        ·exact xD.o.mE
        ·exact xD.o.WT
        ·exact xD.o.aci
       exact UH J4.o hx h1))
      have ND:Hid (Rd w5 (.slice va B vc) b):=aa (rO.rd J7.o (fun x hx e=>by
       have Qw:=vQ.o x hx;rcases e with rfl | rfl | rfl
       ·rw[H.o.r7]at Qw;cases Qw
       ·rw[H.o.nY]at Qw;cases Qw
       ·rw[H.o.yq]at Qw;cases Qw))
      clear FD rO;have UG:(l4.set i4 (Value.slice none ([]:Pg).length 0,(⟨true,name,k,[],false,false⟩:bY)))[i4]? = some (Value.slice none ([]:Pg).length 0,⟨true,name,k,[],false,false⟩):=by rw[eY YG,if_pos rfl]
      have HI5:=aa UG;clear UG;obtain⟨⟨-,hc1,-⟩,-⟩:=Mm.o.head.cells;go_wp2_with fail;have uY:=aa (fQ _ b w5 ND.o (by have:=HB.o;have:=FH.o;omega));refine uY.o.mono ?_;rintro e w6⟨v6,rfl,ho6,yw⟩;obtain⟨a6,c6,rfl⟩:=az ho6;have H6:=aa (Mm.o.below yw);have Ql:=aa (D4.o.bN yw);have YJ:=aa ho6;have hs5:w.heap.size<=w5.heap.size:=D4.o.size;have HF6:Hid (∀x,(Value.slice a6 b.length c6).ownBlock=some x->o4 x=none):=aa (fun x hx=>eK Mm.o.owned (aG ho6 x hx));clear ho6 yw hc1;obtain⟨-,-,-,h3,-,h5,h6⟩:=H6.o.row.seven HI5.o;have z3:=H6.o.row.free (i4*7+3);have z5:=H6.o.row.free (i4*7+5);have z6:=H6.o.row.free (i4*7+6);go_wp2;go_ret;have YH:=H6.o.lay HI5.o YJ.o HF6.o;have ahk:p4.2.bS=false:=by
       rw[tq.o.blank p4.2 (List.mem_of_getElem? (cq HI4.o)) QS.o];rfl
      have YI:=tq.o.write (cq HI4.o) HL.o (u:=true) (by rw[HP.o];exact HK.o) BK (b:=b) (by rw[HB.o];exact FH.o) (.inr ⟨ahk,fun i' fi' _ h1 h2 h3 h4=>QT.o i' fi' h1 h2 h3 h4⟩);refine⟨0,d4,_,rfl,⟨fb,mb,_,GF,mf5,YH,by rw[List.length_set,List.length_set];simpa using zN.o.1,?_⟩,?_,?_,QR.o,.inl rfl⟩
      ·rw[if_pos rfl,List.set_set,map_set];exact YI
      ·exact((Ql.o.setCell ⟨fb,i4*7+3,none⟩ _ (.inl H.o.mE)).setCell ⟨fb,i4*7+5,none⟩ (.bool true) (.inl H.o.mE)).setCell ⟨fb,i4*7+6,none⟩ (.bool true) (.inl H.o.mE)
      ·exact J4.o.trans (ar.tH (n:=w5.heap.size) (fun x hx=>aG YJ.o x hx)) hs5
     ·have tZ:¬(c4:Int)=0:=by omega
      have Bv:=aa gZ;clear gZ;go_wp2;go_ret;refine⟨c4,d4,o4,rfl,⟨fb,mb,l4,GF,mf,xD.o,by simpa using zN.o.1,?_⟩,uX.o,J4.o,QR.o,B0.o⟩;rw[if_neg Bv.o];exact tq.o
theorem kJ.later{d d1 d2:Dsk}{L:aC}{c:Nat}(hq:d1.bD=d.bD)(h:kJ d1 d2 L c):kJ d d2 L c:=by
 rcases h with⟨h1,h2⟩| h
 ·exact .inl ⟨h1,by rw[<- hq];exact h2⟩
 ·exact .inr h
theorem Sound.synced{d:Dsk}{fs:List bY}{L:aC}(h:Sound d fs L){name:Name}{ps:List Pg}{fl:Bool}(hL:aA L name=some (.inl (ps,fl)))(hno:∀k,¬eR fs name k) :
 Sound (d.sync name).1 fs (if (d.sync name).2=0 then aS L name (.inl (ps,true)) else L)/\bK d (d.sync name).1/\((d.sync name).2=0\/kJ d (d.sync name).1 L (d.sync name).2):=by
 obtain⟨f,dp,q⟩:=h.dG _ _ _ hL;have fw:bM name=true:=h.ok name (by rw[hL];rfl);unfold Dsk.sync;cases hd:d.tick.dead with
 |true=>exact⟨h.tick,bK.tick d,.inr (.inr ⟨rfl,hd⟩)⟩
 |false=>
   rw[if_neg ah,fw,if_neg ah,q.get];dsimp only;exact⟨h.sync hL hno q.get rfl rfl,(bK.tick d).of rfl rfl rfl,.inl rfl⟩
theorem NF(HW:aQ){w:World}{pb db n:Nat}{o:ar}{d:Dsk}{L:aC}(h:aP w pb db n o d L){name:Name}{ps:List Pg}{fl:Bool}(hL:aA L name=some (.inl (ps,fl))) :
 Calls prog 79 #[ptrTo pb,.string name] w (ny w pb db n o d L (aS L name (.inl (ps,true)))):=by
 obtain⟨fb,mb,l,hand,mf,hp,rfl,hg⟩:=h;obtain⟨df,dp,q,lM,kA⟩:=hg.zJ hL;have fw:=bZ (hg.ok name (by rw[hL];rfl));have ig:=hg.vR;have hn:=hp.most;have H:=aa hp;have HG:=aa hg;have HQ:=aa q;have yu:=aa ig;have HL:=aa hL;have aM:=aa (sR hp name fw);have HLEN:Hid (l.length<=4096):=aa hn;have hhi:Hid (∀p,eR (l.map (·.2)) name p->p<16777216):=aa (fun p ⟨j,fr,h1,_,_,_,h5⟩=>by
  have:=(hg.fit fr (List.mem_of_getElem? h1)).2;omega)
 clear hp hg q ig hL;unfold ptrTo at *;cases hd:d.dead with
 |true=>
   obtain⟨-,BP⟩:=kA hd;have Mi:=aa BP;have HD:=aa hd;clear hd BP lM kA;go_enter func79,ntmps79;go_wp2_with fail;refine aM.o.mono ?_;rintro e w1⟨v1,n1,rfl,hb1,-⟩;rw[Mi.o];have HB:=aa hb1;clear hb1;go_wp2;go_ret;exact⟨6,d,o,rfl,⟨fb,mb,l,hand,mf,H.o.below HB.o,rfl,HG.o⟩,aH.aU HB.o,ct.refl _ _,bK.refl d,.inr (.inr ⟨rfl,HD.o⟩)⟩
 |false=>
   obtain⟨hsz,BP⟩:=lM hd;have Mi:=aa BP;clear hd BP lM kA hsz;go_enter func79,ntmps79;go_wp2_with fail;refine aM.o.mono ?_;rintro e w1⟨v1,n1,rfl,hb1,hy⟩;obtain⟨-,pf,rfl,hp,hpl⟩:=hy Mi.o;rw[Mi.o];have HB:=aa hb1;have WJ:=aa hp;clear hb1 hp hy;unfold ptrTo;have gS:=aa (C8 (H.o.below HB.o) (fun p hp=>(yu.o p hp).2) name 0 16777216);unfold ptrTo at gS;go_wp2_with fail;refine gS.o.mono ?_;rintro e w2⟨v2,ls,rfl,ko,zL,hb2⟩;have cX:=aa (HB.o.trans (hb2.mono HB.o.size));have p7:=aa ko;have HT:=aa zL;have abY:Hid (ls.length<=100000):=aa (by
    have h1:=zL.length_le;rw[List.length_map]at h1;have:=HLEN.o;omega)
   have QI:=aa (WJ.o.below hb2);have TU:Hid (∀x∈ls,x<l.length):=aa (fun x hx=>by
    obtain⟨fr,h1,_⟩:=(HT.o.mem x).1 hx;have:=aN h1;rwa [List.length_map]at this)
   have BP:=aa (eK H.o.owned hpl);have lN:=aa (Mh HW (H.o.below cX.o) yu.o fw QI.o BP.o p7.o (fun b hb=>eK H.o.owned (by have:=aG p7.o b hb;have:=HB.o.size;omega)) TU.o abY.o);obtain⟨d',pZ,ec,hr,Mb,yl,tV,tW,he⟩:=Sound.Uv HL.o ls d (l.map (·.2)) df dp HG.o HQ.o (HT.o.Uv HG.o hhi.o);rw[hr]at lN;have HG':=aa Mb;have HON:=aa yl;have Mj:=aa tW;have HE:=aa he;have QJ:=aa tV;unfold ptrTo at lN;clear hr Mb yl tV tW he ko zL hb2;go_wp2_with fail;refine lN.o.mono ?_;rintro e w4⟨o',l',rfl,oO,hl4,Mk,QK,tG,hg4⟩;dsimp only at hl4 oO;have xD:=aa oO;have Ml:=aa hl4;have WV:=aa Mk;have uX:=aa ((aH.aU cX.o).trans tG (fun _ _ h=>h):aH (o.In cz) w w4);have tq:Hid (ct w.heap.size o o'):=aa (fun x hx=>hg4 x (Nat.lt_of_lt_of_le hx cX.o.size));have QS:Hid (nr w4 pf db name):=aa (QI.o.kept tG (ar.dF BP.o));clear oO hl4 Mk QK tG hg4;by_cases hc:ec=0
   ·subst hc;have hno:∀k,¬eR pZ name k:=fun k ⟨j,fj,g1,g2,g3,g4,g5⟩=>by
     have lB:j<(l.map (·.2)).length:=by rw[<- QJ.o];exact aN g1
     obtain⟨dd,s1,s2,s3,s4⟩:=Mj.o j _ (List.getElem?_eq_getElem lB);rw[g1]at s1;have e1:=Option.some.inj s1;subst e1;dsimp only at g2 g3 g4 g5;have hm:j∈ls:=(HT.o.mem j).2 ⟨_,List.getElem?_eq_getElem lB,gA.2 ⟨g2,s2 g3,g4,Nat.zero_le _,hhi.o _ ⟨j,_,List.getElem?_eq_getElem lB,g2,s2 g3,g4,rfl⟩⟩⟩;have:=s4 rfl hm;rw[this]at g3;cases g3
    obtain⟨hs1,hs2,hs3⟩:=HG'.o.synced HL.o hno;have iU:=aa hs1;have eM:=aa hs2;have fy:=aa hs3;have nx:=aa (JY xD.o.lK QS.o fw);unfold ptrTo at nx;clear hno hs1 hs2 hs3;generalize (d'.sync name).1=d5 at *;generalize (d'.sync name).2=c5 at *;go_wp2_with fail;refine nx.o.mono ?_;rintro e w5⟨rfl,o5,Yd,rO,BW⟩;have Mm:=aa (xD.o.zF Yd rO BW);have D4:=aa (uX.o.owned tq.o rO.aX);have Ny:=aa (tq.o.trans BW uX.o.size);clear Yd rO BW;go_wp2;go_ret;refine⟨c5,d5,o5,rfl,⟨fb,mb,l',hand,mf,Mm.o,WV.o,by rw[Ml.o];exact iU.o⟩,D4.o,Ny.o,HON.o.trans eM.o,fy.o.imp id (kJ.later HON.o.bD)⟩
   ·have hc':¬(ec:Int)=0:=by omega
    have HC:=aa hc;clear hc;go_wp2;go_ret;refine⟨ec,d',o',rfl,⟨fb,mb,l',hand,mf,xD.o,WV.o,by rw[Ml.o,if_neg HC.o];exact HG'.o⟩,uX.o,tq.o,HON.o,HE.o⟩
def fc(name:Name)(f:bY):bY:=if f.full=true/\f.name=name then bY.none else f
def lS(name:Name)(k:Nat)(fs:List bY):List bY:=(fs.take k).map (fc name)++fs.drop k
theorem GH(name:Name)(fs:List bY):lS name 0 fs=fs:=by rfl
theorem J8(name:Name)(fs:List bY):lS name fs.length fs=fs.map (fc name):=by simp[lS]
theorem r9(name:Name)(k:Nat)(fs:List bY):(lS name k fs).length=fs.length:=by
 grind [lS]
theorem zP(name:Name){k:Nat}{fs:List bY}(h:k<=fs.length)(j:Nat):(lS name k fs)[j]? = if j<k then (fs[j]?).map (fc name) else fs[j]? := by
 grind [lS]
theorem GI(name:Name){k:Nat}{fs:List bY}{f:bY}(h:fs[k]? = some f):lS name (k+1) fs=(lS name k fs).set k (fc name f):=by
 have hk:=aN h;apply List.ext_getElem?;grind [r9,zP]
theorem lg{name:Name}{f:bY}(h:(fc name f).full=true):fc name f=f/\f.full=true/\f.name≠name:=by
 unfold fc at h ⊢;split at h
 ·cases h
 grind
theorem GJ{name:Name}{fs:List bY}{j:Nat}{x:bY}(h:(fs.map (fc name))[j]? = some x):∃y,fs[j]? = some y/\x=fc name y:=by
 grind
theorem se{name n:Name}{fs:List bY}{k:Nat}(hn:n≠name):eR (fs.map (fc name)) n k↔eR fs n k:=by
 constructor
 ·rintro⟨j,x,h,h1,h2,h3,h4⟩;obtain⟨y,hy,rfl⟩:=GJ h;obtain⟨e,g1,g2⟩:=lg h1;rw[e]at h2 h3 h4;exact⟨j,y,hy,g1,h2,h3,h4⟩
 ·rintro⟨j,y,h,h1,h2,h3,h4⟩;refine⟨j,y,?_,h1,h2,h3,h4⟩;grind [fc]
theorem Sound.UJ{d:Dsk}{fs:List bY}{L:aC}(h:Sound d fs L){name:Name}{ps:List Pg}{fl:Bool}(hL:aA L name=some (.inl (ps,fl))){f:bR}{dp:List Pg}(q:dz d fs name ps fl f dp) :
 Sound d (fs.map (fc name)) (aS L name (.inl (dp,false))) where
 keys:=cD h.keys
 fG:=h.fG
 names:=fun n=>by
  grind [cH,names]
 ok:=fun n hn=>by
  grind [cH,ok]
 dG:=fun n Gh kO hg=>by
  rw[ay]at hg;by_cases e:n=name
  ·rw[if_pos e]at hg;cases hg;subst e;exact⟨f,_,q.get,q.now,Nat.le_refl _,Nat.le_trans q.le q.most,q.BS,q.BS,fun k hk=>.inl ⟨hk,rfl⟩,fun e=>(by cases e),q.kx⟩
  ·rw[if_neg e]at hg;obtain⟨f',dp',q'⟩:=h.dG n Gh kO hg;refine⟨f',dp',q'.get,q'.now,q'.le,q'.most,q'.short,q'.BS,fun k hk=>(q'.each k hk).imp id (se e).2,fun e'=>?_,q'.kx⟩;grind [dz.gp,se]
 lJ:=fun n f' ls hg=>by
  grind [ay,lJ]
 frames:=fun fr dQ hf=>by
  grind [lg,frames,ay]
 blank:=fun fr dQ hf=>by
  grind [fc,blank]
 once:=fun i j fi fj hi hj h1 h2 h3 h4=>by
  grind [lg,once]
 di:=fun n s hs=>by
  grind [cH,di]
theorem Db{κ υ:Type}[DecidableEq κ](m:List (κ×υ))(k:κ)(v:υ):b7 (aS m k v) k=b7 m k:=by
 unfold aS b7;simp
def Mo(d':Dsk)(L L':aC)(name:Name)(c:Nat):Prop:=c=0/\L'=b7 L name\/c=6/\d'.dead=true/\∃dp,L'=aS L name (.inl (dp,false))
theorem Sound.UK{d:Dsk}{fs:List bY}{L:aC}(h:Sound d fs L){name:Name}{ps:List Pg}{fl:Bool}(hL:aA L name=some (.inl (ps,fl))) :
 ∃L',Sound (d.remove name).1 (fs.map (fc name)) L'/\bK d (d.remove name).1/\Mo (d.remove name).1 L L' name (d.remove name).2:=by
 obtain⟨f,dp,q⟩:=h.dG _ _ _ hL;have fw:bM name=true:=h.ok name (by grind);have he:=h.UJ hL q;unfold Dsk.remove;cases hd:d.tick.dead with
 |true=>exact⟨_,he.tick,bK.tick d,.inr ⟨rfl,hd,dp,rfl⟩⟩
 |false=>
   rw[if_neg ah,fw,if_neg ah,q.get];dsimp only;refine⟨b7 L name,?_,(bK.tick d).of rfl rfl rfl,.inl ⟨rfl,rfl⟩⟩;grind [Db,drop,lg]
theorem qi{α:Type}{l:List α}{j:Nat}{x:α}(h:l[j]? = some x):l.set j x=l:=by
 apply List.ext_getElem?;intro i;rw[eY (aN h)];by_cases e:i=j
 ·subst e;rw[if_pos rfl,h]
 ·rw[if_neg e]
def GK(w:World)(pb db n:Nat)(o:ar)(d:Dsk)(L:aC)(name:Name)(e:Ending)(w':World):Prop:=
 ∃c d' o' L',e=.returned (.int .i64 ((c:Nat):Int))/\aP w' pb db n o' d' L'/\aH (o.In cz) w w'/\ct w.heap.size o o'/\bK d d'/\Mo d' L L' name c
theorem ua{w:World}{pb db nf:Nat}{o:ar}{d:Dsk}{L:aC}(h:aP w pb db nf o d L){name:Name}{ps:List Pg}{fl:Bool}(hL:aA L name=some (.inl (ps,fl))) :
 Calls prog 62 #[ptrTo pb,.string name] w (GK w pb db nf o d L name):=by
 obtain⟨fb,mb,l,hand,mf,hp,hnf,hg⟩:=h;have HNF:=aa hnf;clear hnf;have fw:=bZ (hg.ok name (by rw[hL];rfl));have ig:=hg.vR;have hn:=hp.most;have H:=aa hp;have yu:=aa ig;have vO:=aa hp.row;have HS:=aa hp.shaped;have HNS:Hid (∀fr∈l.map (·.2),fr.full=true->fr.name.size<=1000):=aa (fun fr dQ hf=>by
  obtain⟨Gh,kO,r1,_⟩:=hg.frames fr dQ hf;exact bZ (hg.ok _ (by rw[r1];rfl)))
 obtain⟨L',hs1,hs2,hs3⟩:=hg.UK hL;have iU:=aa hs1;have eM:=aa hs2;have fy:=aa hs3;obtain⟨⟨-,hc1,-⟩,-⟩:=hp.head.cells;have ahm:Hid (∀W o',cJ W db o' d->Calls prog 96 #[ptrTo db,.string name] W fun e w'=>e=.returned (.int .i64 ((d.remove name).2:Int))/\cx W db o' (d.remove name).1 w'):=aa (fun W o' hW=>JO hW name fw);clear hp hg ig hL hs1 hs2 hs3;unfold ptrTo at *;generalize (d.remove name).1=d5 at *;generalize (d.remove name).2=c5 at *;generalize hN:l.length=n at *;have HN:=aa hN;clear hN;go_enter func62,ntmps62;go_wp2;go_loopw [16] (fun i wr=>∃k:Nat,k<=n/\i=.int .i64 (k:Int)/\Below w.heap.size w wr) (fun i _=>n-(intOf i).toNat)
 case atStart=>exact⟨0,Nat.zero_le _,rfl,Below.refl _ _⟩
 case round=>
  obtain⟨k,hk,rfl,hb⟩:=hrel;by_cases hlt:k<n
  ·obtain⟨a,c,f,hi⟩:=HS.o.get HN.o hlt;obtain⟨h0,h1,h2,h3,h4,h5,h6⟩:=(vO.o.below hb).seven hi;have zr:wr.cell? ⟨pb,1,none⟩=some (.slice (some ⟨fb,0,none⟩) n n):=by rw[hb.cell (p:=⟨pb,1,none⟩) (World.block_lt_of_cell? _ _ hc1)];exact hc1
   have HB:=aa hb;clear hi hb;obtain⟨full,nm,fk,bs,bS,used⟩:=f;dsimp only at *;by_cases uZ:nm=name;case' pos=>have WK:(nm.toList == name.toList)=true:=by rw[uZ];exact beq_self_eq_true _
   case' neg=>have WK:(nm.toList == name.toList)=false:=qu uZ
   all_goals
    clear uZ;cases full
   all_goals
    go_wp2;go_roundw
    case rel=>exact⟨k+1,ae,by go_num,HB.o.alloc HB.o.size _⟩
    case measure=>simp[intOf];omega
  ·obtain rfl:k=n:=by omega
   have H1:=aa (H.o.below hb);have HB:=aa hb;have zr:wr.cell? ⟨pb,1,none⟩=some (.slice (some ⟨fb,0,none⟩) k k):=by rw[hb.cell (p:=⟨pb,1,none⟩) (World.block_lt_of_cell? _ _ hc1)];exact hc1
   clear hb hc1;go_wp2;generalize wr=W1 at *;go_loopw [40] (fun i wr=>∃(j:Nat)(l2:List iB),j<=k/\i=.int .i64 (j:Int)/\br wr pb db fb mb o l2 hand mf d/\l2.map (·.2)=lS name j (l.map (·.2))/\aH (o.In cz) W1 wr) (fun i _=>k-(intOf i).toNat)
   case atStart=>exact⟨0,l,Nat.zero_le _,rfl,H1.o,(GH _ _).symm,aH.refl _ _⟩
   case round=>
    obtain⟨j,l2,hj,rfl,j5,hl2,oM⟩:=hrel;have r8:l2.length=k:=by
     have:=congrArg List.length hl2;rw[List.length_map,r9,List.length_map,HN.o]at this;exact this
    by_cases hlt:j<k
    ·obtain⟨a,c,f,hi⟩:=j5.shaped.get r8 hlt;have hfo:(l.map (·.2))[j]? = some f:=by
      have:=cq hi;rw[hl2,zP _ (by rw[List.length_map,HN.o];omega),if_neg (Nat.lt_irrefl _)]at this;exact this
     have hsu:=GI name hfo;obtain⟨h0,h1,h2,h3,h4,h5,h6⟩:=j5.row.seven hi;have UA:=(yu.o _ (List.mem_of_getElem? (show l[j]? = some ((l[j]'(by rw[HN.o];exact hlt)).1,f) from by
      have lB:j<l.length:=by rw[HN.o];exact hlt
      rw[List.getElem?_eq_getElem lB];rw[List.getElem?_map,List.getElem?_eq_getElem lB]at hfo;have:=Option.some.inj hfo;rw[<- this]))).2
     dsimp only at UA;have TW:=HNS.o f (List.mem_of_getElem? hfo);have pP:=aa j5;have Jn:=aa hl2;have nM:=aa oM;have HI:=aa hi;have HSU:=aa hsu;have zM:=aa r8;have ahn:=aa TW;clear j5 hl2 oM hi hsu r8 hfo TW;by_cases hm:f.full=true/\f.name=name
     ·obtain⟨dY,cP⟩:=hm;have WK:(f.name.toList == name.toList)=true:=by rw[cP];exact beq_self_eq_true _
      have eo:=aa dY;have eu:=aa cP;have aM:Hid (∀W,Below wr.heap.size wr W->Calls prog 95 #[ptrTo pb,.int .i64 (j:Int)] W fun e w'=>e=.returned (.tuple #[])/\br w' pb db fb mb o (l2.set j (.slice none 0 0,bY.none)) hand mf d/\aH (o.In cz) wr w'):=aa (fun W hW=>
       (vP (pP.o.below hW) HI.o eo.o (ahn.o eo.o) (by show f.k<_;omega)).mono (fun e w' ⟨q1,q2,q3⟩=>⟨q1,q2,(aH.aU hW).trans q3 (fun x _ e=>by
         rcases e with rfl | rfl
         ·exact pP.o.mE
         ·exact pP.o.WT)⟩))
      unfold ptrTo at aM;rw[dY]at h0;clear dY cP;go_wp2_with fail;refine(aM.o _ ai).mono ?_;rintro e w3⟨rfl,Pv,yz⟩;have HP3:=aa Pv;have q9:=aa yz;clear Pv yz;go_wp2;go_roundw
      case rel=>
       refine⟨j+1,_,ae,by go_num,HP3.o,?_,nM.o.trans q9.o (fun _ _ h=>h)⟩;rw[map_set,Jn.o,HSU.o];unfold fc;rw[if_pos ⟨eo.o,eu.o⟩]
      case measure=>simp[intOf];omega
     ·have GL:(l2.map (·.2))=lS name (j+1) (l.map (·.2)):=by
       rw[HSU.o];unfold fc;rw[if_neg hm,<- Jn.o];exact(qi (cq HI.o)).symm
      have WW:=aa GL;clear GL;cases Gz:f.full with
      |false=>
        rw[Gz]at h0;clear hm Gz;go_wp2;go_roundw
        case rel=>exact⟨j+1,l2,ae,by go_num,pP.o.below ai,WW.o,nM.o.bN ai⟩
        case measure=>simp[intOf];omega
      |true=>
        have WK:(f.name.toList == name.toList)=false:=qu (fun e=>hm ⟨Gz,e⟩);rw[Gz]at h0;clear hm Gz;go_wp2;go_roundw
        case rel=>exact⟨j+1,l2,ae,by go_num,pP.o.below ai,WW.o,nM.o.bN ai⟩
        case measure=>simp[intOf];omega
    ·obtain rfl:j=k:=by omega
     have pP:=aa j5;have Jn:=aa hl2;have nM:=aa oM;have zM:=aa r8;clear j5 hl2 oM r8;obtain⟨⟨hc0,-⟩,-⟩:=pP.o.head.cells;unfold ptrTo at hc0;go_wp2_with fail;refine(ahm.o _ o pP.o.lK).mono ?_;rintro e w5⟨rfl,o5,Yd,rO,BW⟩;have hg2:ct wr.heap.size o o5:=BW;go_wp2;go_ret;have hall:l2.map (·.2)=(l.map (·.2)).map (fc name):=by
      rw[Jn.o,<- J8,List.length_map,HN.o]
     have hT:aH (o.In cz) w wr:=(aH.aU HB.o).trans nM.o (fun _ _ h=>h);refine⟨c5,d5,o5,L',rfl,⟨fb,mb,l2,hand,mf,pP.o.zF Yd rO BW,by rw[zM.o];exact HNF.o,by rw[hall];exact iU.o⟩,hT.trans rO.aX (fun _ _ h=>h),fun x hx=>BW x (Nat.lt_of_lt_of_le hx hT.size),eM.o,fy.o⟩
def eO:iB:=(.slice none 0 0,bY.none)
def oh:Array Value:=#[.bool false,.string ByteArray.empty,.int .i64 0,.slice none 0 0,.int .i64 0,.bool false,.bool false]
theorem QU(n:Nat):madeCells oh (n*7)=(rowOf (List.replicate n eO)).toArray:=by
 apply Array.ext_getElem?;intro i;by_cases hi:i<n*7
 ·have h1:(List.replicate n eO)[i/7]? = some eO:=by
   grind
  have hj:i%7<7:=Nat.mod_lt _ af;have h2:=C5 h1 hj;rw[show 7*(i/7)+i%7=i by omega]at h2;have h3:(rowOf (List.replicate n eO)).toArray[i]? = (bJ eO.1 eO.2)[i%7]? := by grind
  rw[h3];unfold madeCells;rw[Array.getElem?_map,Array.getElem?_range,if_pos hi];show some (oh[i%7]!)=(bJ eO.1 eO.2)[i%7]?;generalize i%7=j at hj;match j,hj with
  |0,_=>rfl
  |1,_=>rfl
  |2,_=>rfl
  |3,_=>rfl
  |4,_=>rfl
  |5,_=>rfl
  |6,_=>rfl
 grind [size_madeCells,tP]
theorem GM:(prog.info? 172).map (fun i=>(i.zero,i.size,i.bytes))=some (some (.agg oh),7,72):=by kernel_rfl
def xI(w:World)(db n:Nat)(o:ar)(d:Dsk)(L:aC)(e:Ending)(w':World):Prop:=
 ∃pb o',e=.returned (.tuple #[ptrTo pb,.int .i64 0])/\aP w' pb db n o' d L/\Below w.heap.size w w'/\ct w.heap.size o o'/\w.heap.size<=pb
theorem GN{w:World}{db:Nat}{o:ar}{d:Dsk}{L:aC}(h:cJ w db o d)(n:Nat)(h1:1<=n)(h2:n<=4096)(hg:Sound d (List.replicate n bY.none) L) :
 Calls prog 70 #[ptrTo db,.int .i64 (n:Int)] w (xI w db n o d L):=by
 obtain⟨i0,uV,hz0,hz1,hz2⟩:=info_parts GM;have vG:∀W:World,(Instr.makeSlice 147 (.int .i64 (n:Int)) (.int .i64 (n:Int))).run prog W=.ok (.slice (some ⟨W.heap.size,0,none⟩) n n) (W.alloc (.cells (rowOf (List.replicate n eO)).toArray 172)):=fun W=>by
  have hr:=run_make (P:=prog) W 147 172 i0 (.agg oh) Tryz.underlying147 uV hz0 .i64 .i64 n n ae ae (by grind) ae;simp only[Int.toNat_natCast]at hr;rw[hz1,show(Value.agg oh).cells=oh from rfl,QU]at hr;exact hr
 have UL:∀(t:TypeId)(W:World),(Instr.makeMap t none).run prog W=.ok (.map (some W.heap.size)) (W.alloc (.map #[] 0)):=fun _ _=>rfl;have H:=aa h;have HG:=aa hg;clear h hg;unfold ptrTo;go_enter func70,ntmps70;go_wp2;go_returns;have hB:Below w.heap.size w (((w.alloc (.cells (rowOf (List.replicate n eO)).toArray 172)).alloc (.map #[] 0)).alloc (.cells #[ptrTo db,.slice (some ⟨w.heap.size,0,none⟩) n n,.map (some (w.heap.size+1)),.int .i64 0,.int .i64 0,.int .i64 0] 150)):=(ai.alloc ah _).alloc (by simp;omega) _;have zo:∀x t,o x=some t->x<w.heap.size:=by
  obtain⟨_,_,_,hd⟩:=H.o;exact hd.owned
 have s1:(w.alloc (.cells (rowOf (List.replicate n eO)).toArray 172)).heap.size=w.heap.size+1:=by simp
 have s2:((w.alloc (.cells (rowOf (List.replicate n eO)).toArray 172)).alloc (.map #[] 0)).heap.size=w.heap.size+1+1:=by simp
 have hh:∀(W:World)(ob:Obj)(b:Nat),b<W.heap.size->(W.alloc ob).heap[b]? = W.heap[b]? := fun W ob b hb=>(MapKept.heap_alloc W ob).2 b hb;let o':ar:=((o.set w.heap.size (7,0)).set (w.heap.size+1) (8,0)).set (w.heap.size+1+1) (6,0)
 have hgrow:ct w.heap.size o o':=(((ct.refl _ _).set (Nat.le_refl _) _).set ae _).set ae _;have xC:∀x t,o x=some t->o' x=some t:=fun x t hx=>by rw[hgrow x (zo x t hx)];exact hx
 have hlt:∀x t,o' x=some t->x<w.heap.size+3:=fun x t hx=>by
  grind [ar.eX]
 refine⟨w.heap.size+1+1,o',rfl,⟨w.heap.size,w.heap.size+1,List.replicate n eO,0,0,?_,List.length_replicate,?_⟩,hB,hgrow,ae⟩
 ·refine { lK:=?_,yq:=ar.qi _ _ _,r7:=?_,nY:=?_,head:=⟨150,?_⟩,row:=⟨172,?_⟩,tQ:=⟨[],?_,?_⟩,each:=?_,hand:=?_,most:=?_,full:=Nat.zero_le _ }
  ·exact H.o.kept (S:=fun _=>False) (aH.aU hB) (fun _ _ _ _ h=>h) xC (fun x t hx=>by have:=hlt x t hx;simp_all)
  ·grind [ar.eX,ar.qi]
  ·grind [ar.eX,ar.qi]
  ·grind [World.alloc,ptrTo]
  ·grind [heap_alloc_new]
  ·have m1:=bO.made (w.alloc (.cells (rowOf (List.replicate n eO)).toArray 172)) prog 170 ew (fun i:Nat=>.int .i64 (i:Int));grind [bO.kept]
  ·intro nm k i;constructor
   ·intro h;cases h
   ·rintro⟨fr,h1,h2,_⟩;rw[List.getElem?_map,List.getElem?_replicate]at h1;split at h1
    ·cases h1;cases h2
    grind
  ·intro p hp;rw[List.eq_of_mem_replicate hp];exact⟨ownsRow_nil _ _ _,fun b hb=>by grind [eO,Value.ownBlock]⟩
  ·grind
  grind
 ·rw[List.map_replicate];exact HG.o
end
section
open Go.RowKit Go.Maps Go.MapKept
structure aw(S:Nat->Prop)(n pb db:Nat)(w:World)(o:ar)(d:Dsk)(w':World)(o':ar)(d':Dsk)(L':aC):Prop where
 aX:aP w' pb db n o' d' L'
 turn:aH (fun x=>o.In cz x\/S x) w w'
 grow:ct w.heap.size o o'
 on:bK d d'
section
variable {S S':Nat->Prop} {n pb db:Nat} {w w' w'':World} {o o' gL:ar} {d d' gw:Dsk} {L L' xJ:aC}
theorem aP.owned(h:aP w pb db n o d L):∀x t,o x=some t->x<w.heap.size:=by
 obtain⟨_,_,_,_,_,h,_,_⟩:=h;exact h.owned
theorem aw.refl(S:Nat->Prop)(h:aP w pb db n o d L):aw S n pb db w o d w o d L:=⟨h,aH.refl _ _,ct.refl _ _,bK.refl _⟩
theorem aw.size(h:aw S n pb db w o d w' o' d' L'):w.heap.size<=w'.heap.size:=h.turn.size
theorem aw.trans(h:aw S n pb db w o d w' o' d' L')(k:aw S' n pb db w' o' d' w'' gL gw xJ)(hs:∀x,x<w.heap.size->S' x->S x):aw S n pb db w o d w'' gL gw xJ:=
 ⟨k.aX,h.turn.trans k.turn (fun x hx e=>e.imp (fun⟨t,h1,h2⟩=>⟨t,by rw[<- h.grow x hx];exact h1,h2⟩) (hs x hx)),h.grow.trans k.grow h.size,h.on.trans k.on⟩
theorem aw.mono(h:aw S n pb db w o d w' o' d' L')(hs:∀x,x<w.heap.size->S x->S' x):aw S' n pb db w o d w' o' d' L':=
 ⟨h.aX,h.turn.mono fun x hx e=>e.imp id (hs x hx),h.grow,h.on⟩
theorem aw.below(h:aw S n pb db w o d w' o' d' L')(hb:Below w'.heap.size w' w''):aw S n pb db w o d w'' o' d' L':=
 ⟨h.aX.below hb,h.turn.bN hb,h.grow,h.on⟩
theorem aw.aU(h:aP w pb db n o d L)(hb:Below w.heap.size w w'):aw S n pb db w o d w' o d L:=(aw.refl S h).below hb
theorem aw.alloc(h:aw S n pb db w o d w' o' d' L')(ob:Obj):aw S n pb db w o d (w'.alloc ob) o' d' L':=h.below (aj.alloc (Nat.le_refl _) ob)
theorem aw.drew(h:aw S n pb db w o d w' o' d' L'):aw S n pb db w o d w'.drew o' d' L':=h.below aj.drew
theorem aw.drewN(h:aw S n pb db w o d w' o' d' L')(k:Nat):aw S n pb db w o d (w'.drewN k) o' d' L':=h.below (below_drewN aj k)
theorem aw.free(h:aw S n pb db w o d w' o' d' L'){x:Nat}(hx:x<w.heap.size)(ho:o x=none):o' x=none:=by rw[h.grow x hx];exact ho
theorem aw.block(h:aw S n pb db w o d w' o' d' L'){x:Nat}(hx:x<w.heap.size)(ho:o x=none)(hs:¬S x):w'.heap[x]? = w.heap[x]? :=
 h.turn.block x hx (fun e=>e.elim (ar.dF ho) hs)
theorem aw.not{x:Nat}(ho:o x=none)(hs:¬S x):¬(o.In cz x\/S x):=fun e=>e.elim (ar.dF ho) hs
theorem aw.heap(h:aw S n pb db w o d w' o' d' L'){x:Nat}{ob:Obj}(hb:w.heap[x]? = some ob)(ho:o x=none)(hs:¬S x):w'.heap[x]? = some ob:=by
 grind [block]
theorem aw.cell(h:aw S n pb db w o d w' o' d' L'){a:Addr}{v:Value}(hc:w.cell? a=some v)(ho:o a.block=none)(hs:¬S a.block):w'.cell? a=some v:=
 h.turn.cell hc (aw.not ho hs)
theorem aw.ownsRow(h:aw S n pb db w o d w' o' d' L'){base:Nat}{e:TypeId}{size:Nat}{v:Value}{k:Nat}{xs:List Value}(hr:w.ownsRow base e size v k xs)(hs:∀b,v.ownBlock=some b->o b=none/\¬S b):w'.ownsRow base e size v k xs:=
 h.turn.ownsRow hr fun b hb=>aw.not (hs b hb).1 (hs b hb).2
theorem aw.rd(h:aw S n pb db w o d w' o' d' L'){v:Value}{bs:List UInt8}(hr:Rd w v bs)(hs:∀b,v.ownBlock=some b->o b=none/\¬S b):Rd w' v bs:=
 h.turn.rd hr fun b hb=>aw.not (hs b hb).1 (hs b hb).2
theorem aP.turned(h:aP w pb db n o d L){b:Nat}(ho:o b=none)(ht:aH (·=b) w w'):aP w' pb db n o d L:=
 h.kept ht (fun x hx e=>by grind [ar.dF]) (fun _ _ h=>h) (fun x t hx=>Nat.lt_of_lt_of_le (h.owned x t hx) ht.size)
theorem aw.setCell(h:aw S n pb db w o d w' o' d' L')(a:Addr)(v:Value)(ho:o' a.block=none)(hs:S a.block\/w.heap.size<=a.block):aw S n pb db w o d (w'.setCell a v) o' d' L':=
 ⟨h.aX.turned ho ((aH.refl (·=a.block) w').setCell a v (.inl rfl)),h.turn.setCell a v (hs.imp Or.inr id),h.grow,h.on⟩
theorem aw.setCells(h:aw S n pb db w o d w' o' d' L')(b off:Nat)(vs:List Value)(ho:o' b=none)(hs:S b\/w.heap.size<=b):aw S n pb db w o d (w'.setCells b off vs) o' d' L':=
 ⟨h.aX.turned ho ((aH.refl (·=b) w').setCells b off vs (.inl rfl)),h.turn.setCells b off vs (hs.imp Or.inr id),h.grow,h.on⟩
theorem aw.turned(h:aw S n pb db w o d w' o' d' L'){b:Nat}(ho:o' b=none)(hs:S b\/w.heap.size<=b)(ht:aH (·=b) w' w''):aw S n pb db w o d w'' o' d' L':=
 ⟨h.aX.turned ho ht,h.turn.trans ht (fun x hx e=>by grind),h.grow,h.on⟩
theorem aw.grown(h:aw S n pb db w o d w' o' d' L'){row:Option Nat}(hg:w'.grownBy w'' row)(hr:∀k,row=some k->o' k=none/\(S k\/w.heap.size<=k)):aw S n pb db w o d w'' o' d' L':=by
 have ht:aH (fun x=>row=some x) w' w'':=⟨hg.os,hg.tape,hg.output,hg.size,fun x hx hn=>hg.block x hx (fun e=>hn e.symm)⟩;refine⟨h.aX.kept ht (fun x hx e=>ar.dF (hr x e).1 hx) (fun _ _ h=>h) (fun x t hx=>Nat.lt_of_lt_of_le (h.aX.owned x t hx) ht.size),h.turn.trans ht (fun x hx e=>?_),h.grow,h.on⟩;grind
theorem aP.fresh(h:aP w pb db n o d L){x:Nat}(hx:w.heap.size<=x):o x=none:=eK h.owned hx
theorem aP.congr(h:aP w pb db n o d L)(hk:(L'.map (·.1)).Nodup)(he:∀x,aA L' x=aA L x):aP w pb db n o d L':=by
 obtain⟨fb,mb,l,hand,mf,h,hl,g⟩:=h;exact⟨fb,mb,l,hand,mf,h,hl,{ keys:=hk,fG:=g.fG,names:=fun x=>by grind [Sound.names],ok:=fun x=>by grind [Sound.ok],dG:=fun x ps fl=>by grind [Sound.dG],lJ:=fun x f ls=>by grind [Sound.lJ],frames:=fun fr dQ hf=>by grind [Sound.frames],blank:=g.blank,once:=g.once,di:=fun x s=>by grind [Sound.di] }⟩
theorem aP.keys(h:aP w pb db n o d L):(L.map (·.1)).Nodup:=by
 obtain⟨_,_,_,_,_,_,_,g⟩:=h;exact g.keys
theorem aP.ok(h:aP w pb db n o d L){x:Name}{f:gR}(hx:aA L x=some f):bM x=true:=by
 obtain⟨_,_,_,_,_,_,_,g⟩:=h;grind [Sound.ok]
theorem aw.congr(h:aw S n pb db w o d w' o' d' L')(hk:(xJ.map (·.1)).Nodup)(he:∀x,aA xJ x=aA L' x):aw S n pb db w o d w' o' d' xJ:=⟨h.aX.congr hk he,h.turn,h.grow,h.on⟩
theorem zQ(hk:(L.map (·.1)).Nodup)(BK:(L'.map (·.1)).Nodup)(he:∀x,aA L' x=aA L x):need L'=need L:=by
 unfold need;rw[tN BK,tN hk];have hp:(L'.map (·.1)).Perm (L.map (·.1)):=tM BK hk fun x=>by grind [mem_keys]
 grind
end
theorem kJ.calm{d d':Dsk}{L:aC}{c:Nat}(h:kJ d d' L c)(ha:d.cL=0)(hd:d.dead=false)(yl:bK d d'):c=5/\d.bD<need L:=by
 rcases h with h |⟨_,h⟩
 ·exact h
 grind [bK.calm]
end
end Go.Proofs.YthkkgdpomhhjjaaGreatDoor
