/-
  Joined.
-/
import Derived.Test.YthkkgdpomhhjjaaGreatDoorD03
import Derived.Shelf.SlSortCmp.NoneTotal
set_option maxRecDepth 100000
set_option maxHeartbeats 4000000
namespace Go.Proofs.YthkkgdpomhhjjaaGreatDoor
open Go.Proofs.Tryz
section
open Go.RowKit Go.Maps Go.MapKept
open Go.ChangeMaps (setBlock heap_setBlock_same heap_setBlock_other)
theorem GK:(prog.info? 3).map (fun i=>(i.zero,i.size,i.bytes))=some (some (.int .i64 0),1,8):=by kernel_rfl
def told(fs:List bZ)(name:Name)(lo hi:Nat)(k:Nat):List Nat:=(List.range k).filter (fun i=>iB name lo hi (fs.getD i bZ.none))
theorem NI{fs:List bZ}{name:Name}{lo hi k:Nat}{f:bZ}(h:fs[k]? = some f):told fs name lo hi (k+1)=if iB name lo hi f=true then told fs name lo hi k++[k] else told fs name lo hi k:=by
 unfold told;rw[List.range_succ,List.filter_append,List.filter_cons,pw h];split
 ·rfl
 ·simp
theorem UM{fs:List bZ}{name:Name}{lo hi k:Nat}:∀i∈told fs name lo hi k,i<k:=fun i hi=>by
 unfold told at hi;exact List.mem_range.1 (List.mem_filter.1 hi).1
theorem xO(fs:List bZ)(name:Name)(lo hi k:Nat):(told fs name lo hi k).length<=k:=by
 unfold told;have:=List.length_filter_le (fun i=>iB name lo hi (fs.getD i bZ.none)) (List.range k);simpa using this
theorem Dh(fs:List bZ)(name:Name)(lo hi:Nat){ls:List Nat}(hp:ls.Perm (told fs name lo hi fs.length))(hr:ls.Pairwise (fun a b=>xK fs a<=xK fs b)):Told fs name lo hi ls:=by
 refine⟨fun i=>?_,hr,hp.nodup_iff.2 ?_⟩
 ·rw[hp.mem_iff];unfold told;rw[List.mem_filter,List.mem_range];constructor
  ·rintro⟨h1,h2⟩;refine⟨fs[i],List.getElem?_eq_getElem h1,?_⟩;rw[pw (List.getElem?_eq_getElem h1)]at h2;exact h2
  ·rintro⟨fr,h1,h2⟩;exact⟨aM h1,by rw[pw h1];exact h2⟩
 ·unfold told;exact List.nodup_range.filter _
def mC(i:Nat):Value:=.int .i64 (i:Int)
theorem Et{W:World}{bx pb fb n i j ki kj:Nat}(h0:W.cell? ⟨bx,0,none⟩=some (ptrTo pb))(h1:W.cell? ⟨pb,1,none⟩=some (.slice (some ⟨fb,0,none⟩) n n))(hi:i<n)(hj:j<n)(h2:W.cell? ⟨fb,i*7+2,none⟩=some (.int .i64 (ki:Int)))(h3:W.cell? ⟨fb,j*7+2,none⟩=some (.int .i64 (kj:Int)))(TZ:ki<65536)(hkj:kj<65536) :
 Calls prog 184 #[.int .i64 (i:Int),.int .i64 (j:Int),.pointer (some ⟨bx,0,none⟩)] W fun e w'=>e=.returned (.int .i64 ((ki:Int)-(kj:Int)))/\∃q,w'=W.drewN q:=by
 unfold ptrTo at h0;have hw:IntKind.i64.wrap ((ki:Int)-(kj:Int))=(ki:Int)-(kj:Int):=ax ae ae;go_enter func184,ntmps184;go_wp2;go_quiet (fail)
 go_wp2;go_ret;exact⟨rfl,_,rfl⟩
theorem Eu{fs:List bZ}{name:Name}{lo hi:Nat}{wr:World}{base g cap n hand bx pb fb:Nat}{kOfs:Nat->Nat}(ho:wr.ownsRow base 3 1 (.slice (some ⟨g,0,none⟩) (told fs name lo hi n).length cap) (told fs name lo hi n).length ((told fs name lo hi n).map mC))(hh:hand<n)(hlt:∀i∈told fs name lo hi n,i<n)(hle:(told fs name lo hi n).length<=n)(hn:n<=4096)(h0:wr.cell? ⟨bx,0,none⟩=some (ptrTo pb))(h1:wr.cell? ⟨pb,1,none⟩=some (.slice (some ⟨fb,0,none⟩) n n))(hk:∀i,i<n->wr.cell? ⟨fb,i*7+2,none⟩=some (.int .i64 ((kOfs i:Nat):Int))/\kOfs i<65536)(g1:bx≠g)(g2:pb≠g)(g3:fb≠g) :
 Calls prog 183 #[.slice (some ⟨g,0,none⟩) (told fs name lo hi n).length cap,.func (.func 184) #[] #[.pointer (some ⟨bx,0,none⟩)]] wr fun e w'=>∃ls:List Nat,e=.returned (.tuple #[])/\ls.Perm (told fs name lo hi n) /\
  ls.Pairwise (fun a b=>kOfs a<=kOfs b)/\w'.ownsRow base 3 1 (.slice (some ⟨g,0,none⟩) (told fs name lo hi n).length cap) (told fs name lo hi n).length (ls.map mC)/\aH (·=g) wr w':=by
 generalize told fs name lo hi n=ts at *;letI:Inhabited (Fin n):=⟨⟨hand,hh⟩⟩
 let ss:List (Fin n):=ts.attach.map (fun x=>⟨x.1,hlt x.1 x.2⟩)
 have acn:ss.map (fun x=>x.1)=ts:=by
  simp only[ss,List.map_map,Function.comp_def];exact List.attach_map_subtype_val ts
 have aht:ss.map (fun x:Fin n=>mC x.1)=ts.map mC:=by
  have:=congrArg (List.map mC) acn;rw[List.map_map]at this;exact this
 have ahu:ss.length=ts.length:=by simp[ss]
 have YO:∀x y:Fin n,ltOf (fun x y:Fin n=>((kOfs x.1:Nat):Int)-((kOfs y.1:Nat):Int)) x y=decide (kOfs x.1<kOfs y.1):=fun x y=>by
  show decide (((kOfs x.1:Nat):Int)-((kOfs y.1:Nat):Int)<0)=_;by_cases h:kOfs x.1<kOfs y.1
  ·rw[decide_eq_true h,decide_eq_true ae]
  ·rw[decide_eq_false h,decide_eq_false ae]
 have yG:CmpReads prog 184 #[.pointer (some ⟨bx,0,none⟩)] (fun x:Fin n=>mC x.1) (fun x y=>((kOfs x.1:Nat):Int)-((kOfs y.1:Nat):Int)) g 0 ts.length wr:=fun m os dk _ x y=>by
  have ht:aH (·=g) wr (sortWorld (fun x:Fin n=>mC x.1) wr g 0 m dk os):=xN _ dk;exact Et (ht.cell h0 g1) (ht.cell h1 g2) x.2 y.2 (ht.cell (hk x.1 x.2).1 g3) (ht.cell (hk y.1 y.2).1 g3) (hk x.1 x.2).2 (hk y.1 y.2).2
 refine(Es (fun x:Fin n=>mC x.1) (fun _=>rfl) (fun x y=>((kOfs x.1:Nat):Int)-((kOfs y.1:Nat):Int)) ⟨fun x=>by rw[YO];simp,fun x y z h1 h2=>by rw[YO]at *;simp at *;omega,fun x y z h1 h2=>by rw[YO]at *;simp at *;omega⟩
  184 #[.pointer (some ⟨bx,0,none⟩)] (ss:=ss) ahu ae (by rw[aht];exact ho) (enters_of func184 ag rfl) yG.lays).mono ?_
 rintro e w'⟨rfl,tl,hp,hr,kN,ht⟩;refine⟨tl.map (fun x=>x.1),rfl,?_,?_,?_,ht⟩
 ·rw[<- acn];exact hp.map _
 ·rw[List.pairwise_map];exact hr.imp (fun{a b}h=>by
   have h':¬(((kOfs b.1:Nat):Int)-((kOfs a.1:Nat):Int)<0):=h;show kOfs a.1<=kOfs b.1;omega)
 ·rw[List.map_map];exact kN
def NJ(w:World)(fs:List bZ)(name:Name)(lo hi:Nat)(e:Ending)(w':World):Prop:=
 ∃v ls,e=.returned v/\w'.ownsRow w.heap.size 3 1 v ls.length (ls.map mC)/\Told fs name lo hi ls/\Below w.heap.size w w'
theorem Di{w:World}{pb db fb mb:Nat}{o:ar}{l:List iD}{hand mf:Nat}{d:Dsk}(h:br w pb db fb mb o l hand mf d)(hks:∀p∈l,p.2.k<65536)(name:Name)(lo hi:Nat) :
 Calls prog 121 #[ptrTo pb,.string name,.int .i64 (lo:Int),.int .i64 (hi:Int)] w (NJ w (l.map (·.2)) name lo hi):=by
 obtain⟨i0,rV,hz0,hz1,hz2⟩:=info_parts GK;have H:=aa h;have vT:=aa h.row;have hn:=h.most;have HS:=aa h.shaped;have HKS:=aa hks;have NH:=h.head.lt;have ahp:=h.row.lt;have GL:=h.hand;obtain⟨⟨-,hc1,-⟩,-⟩:=h.head.cells;clear h hks;unfold ptrTo;generalize hN:l.length=n at *;have HN:=aa hN;clear hN;go_enter func121,ntmps121;have hb1:Below w.heap.size w (w.alloc (.cells #[.pointer (some ⟨pb,0,none⟩)] 72)):=aj.alloc (Nat.le_refl _) _;have hx:=heap_alloc_new w (.cells #[.pointer (some ⟨pb,0,none⟩)] 72);have hsz:w.heap.size<(w.alloc (.cells #[.pointer (some ⟨pb,0,none⟩)] 72)).heap.size:=by simp
 have nu:(w.alloc (.cells #[.pointer (some ⟨pb,0,none⟩)] 72)).cell? ⟨pb,1,none⟩=some (.slice (some ⟨fb,0,none⟩) n n):=by rw[hb1.cell (p:=⟨pb,1,none⟩) NH];exact hc1
 have ny:=aa (vT.o.below hb1);have cT:=aa hb1;have HX:=aa hx;clear hb1 hx hc1;go_wp2_with fail;generalize w.alloc (.cells #[.pointer (some ⟨pb,0,none⟩)] 72)=W1 at *;go_loopw [9,17] (fun v i wr=>∃k:Nat,k<=n/\i=.int .i64 (k:Int)/\wr.ownsRow (w.heap.size+1) 3 1 v (told (l.map (·.2)) name lo hi k).length ((told (l.map (·.2)) name lo hi k).map mC)/\Below (w.heap.size+1) W1 wr) (fun _ i _=>n-(intOf i).toNat)
 case atStart=>exact⟨0,Nat.zero_le _,rfl,ownsRow_nil _ _ _,Below.refl _ _⟩
 case round=>
  obtain⟨k,hk,rfl,ho,hb⟩:=hrel;by_cases hlt:k<n
  ·obtain⟨a,c,f,hi'⟩:=HS.o.get HN.o hlt;have hrow:dK wr fb l:=ny.o.kept (S:=fun x=>w.heap.size+1<=x) ⟨hb.os,hb.tape,hb.output,hb.size,fun x _ hx=>hb.block x ae⟩ ae;obtain⟨h0,h1,h2,h3,h4,h5,h6⟩:=hrow.seven hi';have UK:wr.cell? ⟨pb,1,none⟩=some (.slice (some ⟨fb,0,none⟩) n n):=by rw[hb.cell (p:=⟨pb,1,none⟩) (show pb<w.heap.size+1 by omega)];exact nu
   have UL:f.k<65536:=HKS.o _ (List.mem_of_getElem? hi');have HST:=aa (NI (name:=name) (lo:=lo) (hi:=hi) (cu hi'));have JV:=xO (l.map (·.2)) name lo hi k;have HB:=aa hb;have HO:=aa ho;have hbs:w.heap.size+1<=wr.heap.size:=Nat.le_trans hsz hb.size;clear hi' hb hrow ho;obtain⟨t,ht⟩:∃t,t=told (l.map (·.2)) name lo hi k:=⟨_,rfl⟩;rw[<- ht]at HST JV HO;clear ht;obtain⟨full,nm,fk,bs,bS,used⟩:=f;dsimp only at *;cases full with
   |false=>
     go_wp2;go_roundw
     case rel=>
      refine⟨k+1,ae,by go_num,?_,HB.o.alloc hbs _⟩;have e:=HST.o;rw[if_neg (by simp[iB])]at e;rw[e];exact HO.o.alloc _
     case measure=>simp[intOf];omega
   |true=>
     cases bS with
     |false=>
       go_wp2;go_roundw
       case rel=>
        refine⟨k+1,ae,by go_num,?_,HB.o.alloc hbs _⟩;have e:=HST.o;rw[if_neg (by simp[iB])]at e;rw[e];exact HO.o.alloc _
       case measure=>simp[intOf];omega
     |true=>
       by_cases vh:nm=name
       ·have Xa:(nm.toList == name.toList)=true:=by rw[vh];exact beq_self_eq_true _
        have GI:=aa vh;clear vh;by_cases Kg:lo<=fk
        ·by_cases hl2:fk<hi
         ·have ahv:((fk:Int) >= (lo:Int)):=by omega
          have ahw:((fk:Int)<(hi:Int)):=by omega
          go_wp2_with (at_builtin;refine wpList_append_own _ rfl _ _ 214 rfl (w.heap.size+1) 3 i0 (.int .i64 0) 1 8 Tryz.underlying214 rV hz0 hz1 hz2 rfl af _ _ _ rfl ((HO.o.alloc _).alloc _) ⟨wr.heap.size+1,0,none⟩ 1 1 [mC k] rfl rfl ?c1 ?c2 ?c3 ?c4 ?c5 ?_);case c1=>
           intro j u hj;match j,hj with
           |0,hj=>
             cases hj;simp[bG,mC]
          case c2=>simp[mC,Value.oneCell']
          case c3=>unfold maxLen;omega
          case c4=>omega
          case c5=>simp;omega
          intro v' w2 hown hgr _;have zu:Hid (Below (w.heap.size+1) W1 w2):=aa (((HB.o.alloc hbs _).alloc (by simp;omega) _).grown hgr (by simp;omega) (aF HO.o));have hO2:Hid (w2.ownsRow (w.heap.size+1) 3 1 v' (t++[k]).length ((t++[k]).map mC)):=aa (by simpa using hown);clear hown hgr;go_wp2;go_roundw
          case rel=>
           refine⟨k+1,ae,by go_num,?_,zu.o⟩;have e:=HST.o;rw[if_pos (by simp[iB,GI.o];omega)]at e;rw[e];exact hO2.o
          case measure=>simp[intOf];omega
         ·have ahw:¬((fk:Int)<(hi:Int)):=by omega
          go_wp2;go_roundw
          case rel=>
           refine⟨k+1,ae,by go_num,?_,HB.o.alloc hbs _⟩;have e:=HST.o;rw[if_neg (by simp[iB];omega)]at e;rw[e];exact HO.o.alloc _
          case measure=>simp[intOf];omega
        ·have ahv:¬((fk:Int) >= (lo:Int)):=by omega
         go_wp2;go_roundw
         case rel=>
          refine⟨k+1,ae,by go_num,?_,HB.o.alloc hbs _⟩;have e:=HST.o;rw[if_neg (by simp[iB];omega)]at e;rw[e];exact HO.o.alloc _
         case measure=>simp[intOf];omega
       ·have Xa:(nm.toList == name.toList)=false:=qC vh;have GI:=aa vh;clear vh;go_wp2;go_roundw
        case rel=>
         refine⟨k+1,ae,by go_num,?_,HB.o.alloc hbs _⟩;have e:=HST.o;rw[if_neg (by simp[iB,GI.o])]at e;rw[e];exact HO.o.alloc _
        case measure=>simp[intOf];omega
  ·obtain rfl:k=n:=by omega
   have HB:=aa hb;obtain⟨a9,c9,rfl⟩:=az ho;have HO:=aa ho;have UK:wr.cell? ⟨pb,1,none⟩=some (.slice (some ⟨fb,0,none⟩) k k):=by rw[hb.cell (p:=⟨pb,1,none⟩) (show pb<w.heap.size+1 by omega)];exact nu
   have uZ:=aa UK;have HRW:Hid (dK wr fb l):=aa (ny.o.kept (S:=fun x=>w.heap.size+1<=x) ⟨hb.os,hb.tape,hb.output,hb.size,fun x _ hx=>hb.block x ae⟩ ae);have mD:Hid (wr.cell? ⟨w.heap.size,0,none⟩=some (ptrTo pb)):=aa (by
    rw[hb.cell (p:=⟨w.heap.size,0,none⟩) (show w.heap.size<w.heap.size+1 by omega),aq HX.o];rfl)
   have QS:Hid (Below w.heap.size w wr):=aa (cT.o.trans (hb.mono (Nat.le_succ _)));have hlen:(l.map (·.2)).length=k:=by rw[List.length_map,HN.o]
   have HLEN:=aa hlen;clear hb ho UK hlen nu;rcases Nat.eq_zero_or_pos (told (l.map (·.2)) name lo hi k).length with hz | YB
   ·have hnil:told (l.map (·.2)) name lo hi k=[]:=List.eq_nil_of_length_eq_zero hz;have aco:=aa hnil;rw[hz]at HO ⊢;clear hz hnil;have aN:=aa (AnyF.slices_SortFunc_none (P:=prog) (ρ:=Tryz.tX) { Tryz.GJ with } a9 c9 (.func (.func 184) #[] #[.pointer (some ⟨w.heap.size,0,none⟩)]) wr);go_wp2_with fail;refine aN.o.mono ?_;rintro e w'⟨rfl,rfl⟩;go_wp2;go_ret;refine⟨_,[],rfl,?_,Dh _ _ _ _ (by rw[HLEN.o,aco.o]) List.Pairwise.nil,QS.o⟩;have:=HO.o;rw[aco.o]at this;exact aU this (Nat.le_succ _)
   ·have Kh:∃g,a9=some ⟨g,0,none⟩/\w.heap.size+1<=g:=by
     obtain⟨_,⟨h1,h2⟩|⟨g,cap,cur,h1,h2,_⟩⟩:=HO.o
     ·omega
     ·cases h1;exact⟨g,rfl,h2⟩
    obtain⟨g,rfl,hg⟩:=Kh;have aN:=aa (Eu (name:=name) (lo:=lo) (hi:=hi) (bx:=w.heap.size) (fs:=l.map (·.2)) (kOfs:=fun i=>xK (l.map (·.2)) i) HO.o GL (fun i hi=>UM i hi) (xO _ _ _ _ _) hn mD.o uZ.o (fun i hi=>by
     obtain⟨a,c,f,hi'⟩:=HS.o.get HN.o hi;refine⟨?_,?_⟩
     ·rw[(HRW.o.seven hi').2.2.1];unfold xK;rw[pw (cu hi')]
     ·unfold xK;rw[pw (cu hi')];exact HKS.o _ (List.mem_of_getElem? hi')) ae ae ae)
    go_wp2_with fail;refine aN.o.mono ?_;rintro e w'⟨ls,rfl,hp,hr,kN,ht⟩;have HP:=aa hp;have HR:=aa hr;have HO':=aa kN;have HT:=aa ht;have FP:ls.length=(told (l.map (·.2)) name lo hi k).length:=hp.length_eq;have HLL:=aa FP;clear hp hr kN ht FP;go_wp2;go_ret;refine⟨_,ls,rfl,?_,Dh _ _ _ _ (by rw[HLEN.o];exact HP.o) HR.o,QS.o.trans (HT.o.below (by have:=QS.o.size;omega) (fun x e=>by omega))⟩;rw[HLL.o];exact aU HO'.o (Nat.le_succ _)
def Fit(l:List iD):Prop:=∀p∈l,p.2.bytes.length<=240/\p.2.k<65536
theorem dK.set'{w:World}{fb:Nat}{l:List iD}(h:dK w fb l){i:Nat}{p q:iD}(hi:l[i]? = some p){j:Nat}(hj:j<7){v:Value}(hv:(bJ p.1 p.2).set j v=bJ q.1 q.2):dK (w.setCell ⟨fb,i*7+j,none⟩ v) fb (l.set i q):=by
 rw[Nat.mul_comm i 7];exact h.set hi hj hv
theorem br.mark{w:World}{pb db fb mb:Nat}{o:ar}{l:List iD}{hand mf:Nat}{d:Dsk}(h:br w pb db fb mb o l hand mf d){i:Nat}{v:Value}{f x:bZ}(hi:l[i]? = some (v,f)){j:Nat}(hj:j<7){u:Value}(hv:(bJ v f).set j u=bJ v x)(h1:x.full=f.full)(h2:x.name=f.name)(h3:x.k=f.k)(h4:x.bytes=f.bytes):br (w.setCell ⟨fb,i*7+j,none⟩ u) pb db fb mb o (l.set i (v,x)) hand mf d:=by
 have ht:aH (fun y=>y=fb\/y=mb) w (w.setCell ⟨fb,i*7+j,none⟩ u):=(aH.refl _ _).setCell _ _ (.inl (.inl rfl));refine h.tW (h.row.set' hi hj hv) ht (fun _ _ h=>h) (fun y t hy=>by have:=h.owned y t hy;simpa using this) ?_ ?_
 ·obtain⟨m,m1,m2⟩:=h.tV;exact⟨m,m1.turn ((aH.refl (·=fb) w).setCell _ _ (.inl rfl)) (ar.ne h.oq h.r7 af),m2.same (cu hi) h1 h2 h3⟩
 ·have he:=h.each _ (List.mem_of_getElem? hi);dsimp only at he ⊢;rw[h4];exact⟨((aH.refl (·=fb) w).setCell ⟨fb,i*7+j,none⟩ u (.inl rfl)).ownsRow he.1 (fun b hb=>ar.ne (he.2 b hb) h.r7 af),he.2⟩
theorem br.mJ{w:World}{pb db fb mb:Nat}{o:ar}{l:List iD}{hand mf:Nat}{d:Dsk}(h:br w pb db fb mb o l hand mf d):o.In cB fb:=⟨_,h.r7,show 7<10 by decide⟩
def QT(w:World)(pb db fb mb:Nat)(o:ar)(l:List iD)(hand mf:Nat)(r:(Dsk×List bZ)×Nat)(e:Ending)(w':World):Prop:=
 ∃o' l',e=.returned (.int .i64 (r.2:Int))/\br w' pb db fb mb o' l' hand mf r.1.1/\l'.map (·.2)=r.1.2/\l'.length=l.length/\Fit l'/\aH (o.In cB) w w'/\cw w.heap.size o o'
theorem Fit.set{l:List iD}(h:Fit l){i:Nat}{q:iD}(hq:q.2.bytes.length<=240/\q.2.k<65536):Fit (l.set i q):=fun p hp=>by
 rcases List.mem_or_eq_of_mem_set hp with hp | rfl
 ·exact h p hp
 ·exact hq
theorem Mx(HW:aP){w:World}{pb db fb mb pf:Nat}{o:ar}{l:List iD}{hand mf:Nat}{d:Dsk}{name:Name}(h:br w pb db fb mb o l hand mf d)(il:Fit l)(hs:name.size<=1000)(hp:nx w pf db name)(B6:o pf=none){v:Value}{base:Nat}{ls:List Nat}(hv:w.ownsRow base 3 1 v ls.length (ls.map mC))(my:∀b,v.ownBlock=some b->o b=none)(T6:∀i∈ls,i<l.length)(FP:ls.length<=100000) :
 Calls prog 120 #[ptrTo pb,ptrTo pf,v] w (QT w pb db fb mb o l hand mf (lT name ls d (l.map (·.2)))):=by
 have H:=aa h;have HF:=aa il;have HP:=aa hp;have My:=aa B6;have HV:=aa hv;have vV:=aa my;have HLS:=aa T6;obtain⟨va,vc,rfl⟩:=az hv;have aoy:=hp.lt;have hn:=h.most;clear h il hp B6 hv my T6;unfold ptrTo;generalize hN:ls.length=n at *;have HN:=aa hN;clear hN;go_enter func120,ntmps120;go_wp2;go_loopw [12] (fun i wr=>∃(j:Nat)(d':Dsk)(l':List iD)(o':ar),j<=n/\i=.int .i64 (j:Int)/\br wr pb db fb mb o' l' hand mf d'/\lT name ls d (l.map (·.2))=lT name (ls.drop j) d' (l'.map (·.2))/\l'.length=l.length/\Fit l'/\aH (o.In cB) w wr/\cw w.heap.size o o') (fun i _=>n-(intOf i).toNat)
 case atStart=>exact⟨0,d,l,o,Nat.zero_le _,rfl,H.o,rfl,rfl,HF.o,aH.refl _ _,cw.refl _ _⟩
 case round=>
  obtain⟨j,d',l',o',hj,rfl,FM,hput,hlen,GM,ht,hg⟩:=hrel;by_cases hlt:j<n
  ·have kY:j<ls.length:=by rw[HN.o];exact hlt
   have hx:∃x,ls[j]? = some x:=⟨_,List.getElem?_eq_getElem kY⟩;obtain⟨x,hx⟩:=hx;have CX:x<l'.length:=by rw[hlen];exact HLS.o x (List.mem_of_getElem? hx)
   obtain⟨a,c,f,hi⟩:=FM.shaped.get rfl CX;have GN:=GM _ (List.mem_of_getElem? hi);obtain⟨YP,UL⟩:=GN;dsimp only at YP UL;have hrow:=ht.ownsRow HV.o (fun b hb=>ar.dI (vV.o b hb));have Xb:∃g,va=some ⟨g,0,none⟩/\wr.cell? ⟨g,j,none⟩=some (mC x):=by
    obtain⟨_,⟨h1,h2⟩|⟨g,cap,cur,h1,h2,h3,h4,h5,h6,h7⟩⟩:=hrow
    ·omega
    ·cases h1;refine⟨g,rfl,?_⟩;rw[aq h3];have e:(cur.toList.take (n*1))[j]? = (ls.map mC)[j]? := by rw[h7]
     rw[List.getElem?_take_of_lt ae,List.getElem?_map,hx]at e;simpa using e
   obtain⟨g,rfl,hcx⟩:=Xb;unfold mC at hcx;have tY:ls.drop j=x::ls.drop (j+1):=by
    rw[List.drop_eq_getElem_cons kY];congr 1;rw[List.getElem?_eq_getElem kY]at hx;exact Option.some.inj hx
   rw[tY,lT,pw (cu hi)]at hput;dsimp only at hput;have nz:=aa hput;have HP':=aa FM;have HI:=aa hi;have HLEN:=aa hlen;have yH:=aa GM;have HT:=aa ht;have HG:=aa hg;have J7:Hid (nx wr pf db name):=aa (HP.o.kept ht (ar.dI My.o));have aN:Hid (∀W,Below wr.heap.size wr W->Calls prog 182 #[ptrTo pf,.int .i64 (f.k:Int),.slice a f.bytes.length c] W fun e w'=>e=.returned (.int .i64 ((dD d' name f.k f.bytes).2:Int))/\cz W db o' (dD d' name f.k f.bytes).1 w'):=aa (fun W hW=>
    GF HW (FM.lS.below hW) (J7.o.below hW) hs f.k UL _ f.bytes YP (fw (aV (FM.each _ (List.mem_of_getElem? hi)).1 hW)))
   have hxn:x<l.length:=by rw[<- hlen];exact CX
   have Xc:Hid (∀W,Below wr.heap.size wr W->(W.cell? ⟨pb,1,none⟩=some (.slice (some ⟨fb,0,none⟩) l.length l.length)/\W.cell? ⟨fb,x*7+2,none⟩=some (.int .i64 (f.k:Int))/\W.cell? ⟨fb,x*7+3,none⟩=some (.slice a f.bytes.length c))):=aa (fun W hW=>by
    have h1:=FM.below hW;obtain⟨⟨-,g1,-⟩,-⟩:=h1.head.cells;obtain⟨-,-,g2,g3,-⟩:=h1.row.seven hi;rw[hlen]at g1;exact⟨g1,g2,g3⟩)
   clear hput FM hi hlen GM ht hg hx CX hrow tY;unfold ptrTo at aN;generalize (dD d' name f.k f.bytes).1=d2 at *;generalize (dD d' name f.k f.bytes).2=cc at *;by_cases hc0:cc=0
   ·subst hc0;have GQ:lT name ls d (l.map (·.2))=lT name (ls.drop (j+1)) d2 ((l'.map (·.2)).set x { f with bS:=false }):=by rw[nz.o,if_neg ah]
    have QU:=aa GQ;clear GQ nz;go_wp2;refine cG (Below wr.heap.size wr) 18 rfl ag ag (aj.drew) ?_;simp only[List.take_succ_cons,List.take_zero];iterate 4 (refine qz ?_)
    refine qz ?_ (fun w' hw'=>by have hc:=(Xc.o w' hw').1;go_simp<;>rfl);iterate 4 (refine qz ?_)
    refine qz ?_ (fun w' hw'=>by have hc:=(Xc.o w' hw').2.1;go_simp<;>rfl);iterate 3 (refine qz ?_)
    refine qz ?_ (fun w' hw'=>by have hc:=(Xc.o w' hw').1;go_simp<;>rfl);iterate 3 (refine qz ?_)
    refine qz ?_ (fun w' hw'=>by have hc:=(Xc.o w' hw').2.2;go_simp<;>rfl);refine wpQuiet_nil ?_;intro w3 hw3;refine⟨_,_,rfl,(by go_simp<;>exact⟨rfl,rfl⟩),?_⟩;refine(aN.o _ hw3).mono ?_;rintro e w4⟨rfl,oW⟩;obtain⟨o2,Mw,oU,hg2⟩:=cz.after hw3 oW;have pU:=aa (HP'.o.zQ Mw oU hg2);have nQ:=aa (HT.o.owned HG.o oU.aX);have yI:=aa (HG.o.trans hg2 HT.o.size);clear Mw oU hg2 oW hw3;obtain⟨⟨-,g1,-⟩,-⟩:=pU.o.head.cells;rw[HLEN.o]at g1;obtain⟨-,-,-,-,-,g5,-⟩:=pU.o.row.seven HI.o;have gz:=pU.o.row.free (x*7+5);refine⟨_,rfl,?_⟩;go_simp;refine qz ?_;refine wpQuiet_nil ?_;go_wp2;go_roundw
    case rel=>
     have hm:=pU.o.mark (j:=5) (u:=.bool false) (x:={ f with bS:=false }) HI.o af rfl rfl rfl rfl rfl;refine⟨j+1,d2,_,o2,ae,by go_num,hm,by rw[QU.o,map_set],by rw[List.length_set];exact HLEN.o,yH.o.set ⟨YP,UL⟩,?_,yI.o⟩;exact nQ.o.trans ((aH.refl (o2.In cB) w4).setCell ⟨fb,x*7+5,none⟩ (.bool false) (.inl pU.o.mJ)) (fun y hy ⟨t,mB,oU⟩=>⟨t,by rw[<- yI.o y hy];exact mB,oU⟩)
    case measure=>simp[intOf];omega
   ·have GQ:lT name ls d (l.map (·.2))=((d2,l'.map (·.2)),cc):=by rw[nz.o,if_pos hc0]
    have QU:=aa GQ;have aoA:¬(cc:Int)=0:=by omega
    clear GQ nz hc0;go_wp2;refine cG (Below wr.heap.size wr) 18 rfl ag ag (aj.drew) ?_;simp only[List.take_succ_cons,List.take_zero];iterate 4 (refine qz ?_)
    refine qz ?_ (fun w' hw'=>by have hc:=(Xc.o w' hw').1;go_simp<;>rfl);iterate 4 (refine qz ?_)
    refine qz ?_ (fun w' hw'=>by have hc:=(Xc.o w' hw').2.1;go_simp<;>rfl);iterate 3 (refine qz ?_)
    refine qz ?_ (fun w' hw'=>by have hc:=(Xc.o w' hw').1;go_simp<;>rfl);iterate 3 (refine qz ?_)
    refine qz ?_ (fun w' hw'=>by have hc:=(Xc.o w' hw').2.2;go_simp<;>rfl);refine wpQuiet_nil ?_;intro w3 hw3;refine⟨_,_,rfl,(by go_simp<;>exact⟨rfl,rfl⟩),?_⟩;refine(aN.o _ hw3).mono ?_;rintro e w4⟨rfl,oW⟩;obtain⟨o2,Mw,oU,hg2⟩:=cz.after hw3 oW;have pU:=aa (HP'.o.zQ Mw oU hg2);have nQ:=aa (HT.o.owned HG.o oU.aX);have yI:=aa (HG.o.trans hg2 HT.o.size);clear Mw oU hg2 oW hw3;refine⟨_,rfl,?_⟩;go_simp;refine qz ?_;refine wpQuiet_nil ?_;go_wp2;go_ret;rw[QU.o];exact⟨o2,l',rfl,pU.o,rfl,HLEN.o,yH.o,nQ.o,yI.o⟩
  ·obtain rfl:j=n:=by omega
   have tY:ls.drop j=[]:=List.drop_eq_nil_of_le (by rw[HN.o];exact Nat.le_refl _);rw[tY,lT]at hput;have nz:=aa hput;have HP':=aa FM;have HLEN:=aa hlen;have yH:=aa GM;have HT:=aa ht;have HG:=aa hg;clear hput FM hlen GM ht hg tY;go_wp2;go_ret;rw[nz.o];exact⟨o',l',rfl,HP'.o,rfl,HLEN.o,yH.o,HT.o,HG.o⟩
theorem Sound.fit{d:Dsk}{fs:List bZ}{L:aD}(h:Sound d fs L):∀fr∈fs,fr.bytes.length<=240/\fr.k<65536:=fun fr dS=>by
 cases hf:fr.full with
 |false=>rw[h.blank fr dS hf];exact⟨by simp[bZ.none],by simp[bZ.none]⟩
 |true=>
   obtain⟨ps,fl,hL,hk⟩:=h.frames fr dS hf;obtain⟨f,dp,q⟩:=h.dJ _ _ _ hL;have:=aM hk;have:=q.most;exact⟨q.short _ (List.mem_of_getElem? hk),ae⟩
theorem Sound.vW{d:Dsk}{l:List iD}{L:aD}(h:Sound d (l.map (·.2)) L):Fit l:=fun p hp=>h.fit p.2 (List.mem_map.2 ⟨p,hp,rfl⟩)
theorem Sound.zU{d:Dsk}{fs:List bZ}{L:aD}(h:Sound d fs L){n:Name}{ps:List Pg}{fl:Bool}(hL:aB L n=some (.inl (ps,fl))) :
 ∃f dp,dC d fs n ps fl f dp/\(d.dead=false->d.sizeOf n=(256*dp.length,0)/\cC d n=0)/\(d.dead=true->d.sizeOf n=(0,6)/\cC d n=6):=by
 obtain⟨f,dp,q⟩:=h.dJ _ _ _ hL;have hs:=Dsk.De (h.ok n (by rw[hL];rfl)) q.get;have hl:f.now.length=256*dp.length:=by rw[q.now,dQ _ q.B9]
 refine⟨f,dp,q,fun hd=>?_,fun hd=>?_⟩
 ·rw[hd,if_neg ah,hl]at hs;refine⟨hs,?_⟩;unfold cC;rw[hs];simp
 ·rw[hd,if_pos rfl]at hs;refine⟨hs,?_⟩;unfold cC;rw[hs];simp
theorem Told.length_le{fs:List bZ}{name:Name}{lo hi:Nat}{ls:List Nat}(t:Told fs name lo hi ls):ls.length<=fs.length:=by
 have hp:ls.Perm ((List.range fs.length).filter (fun x=>decide (x∈ls))):=by
  refine(List.perm_ext_iff_of_nodup t.nodup (List.nodup_range.filter _)).2 fun x=>?_;rw[List.mem_filter,List.mem_range,decide_eq_true_eq];refine⟨fun hx=>⟨?_,hx⟩,fun hx=>hx.2⟩;obtain⟨fr,h1,_⟩:=(t.mem x).1 hx;exact aM h1
 have h1:=List.length_filter_le (fun x=>decide (x∈ls)) (List.range fs.length);rw[hp.length_eq];simpa using h1
theorem b6{n:Name}(h:bM n=true):n.size<=1000:=by have:=Gg h;omega
def rz(fs qb:List bZ):Prop:=qb.length=fs.length/\∀(i:Nat)(fr:bZ),fs[i]? = some fr->∃dd,qb[i]? = some { fr with bS:=dd }/\(dd=true->fr.bS=true)
theorem rz.refl(fs:List bZ):rz fs fs:=⟨rfl,fun _ fr h=>⟨fr.bS,h,id⟩⟩
def QV(w:World)(pb db fb mb:Nat)(o:ar)(l:List iD)(hand mf:Nat)(d:Dsk)(L:aD)(i:Nat)(e:Ending)(w':World):Prop:=
 ∃o' l' d' c,e=.returned (.int .i64 ((c:Nat):Int))/\br w' pb db fb mb o' l' hand mf d'/\Sound d' (l'.map (·.2)) L/\bK d d'/\rz (l.map (·.2)) (l'.map (·.2))/\(c=0\/kI d d' L c) /\
  (c=0->∃fr,(l'.map (·.2))[i]? = some fr/\fr.bS=false)/\aH (o.In cB) w w'/\cw w.heap.size o o'
theorem QW(HW:aP){w:World}{pb db fb mb:Nat}{o:ar}{l:List iD}{hand mf:Nat}{d:Dsk}{L:aD}(h:br w pb db fb mb o l hand mf d)(hg:Sound d (l.map (·.2)) L){i:Nat}{v:Value}{f:bZ}(hi:l[i]? = some (v,f))(fy:f.full=true)(fV:f.bS=true) :
 Calls prog 239 #[ptrTo pb,.int .i64 (i:Int)] w (QV w pb db fb mb o l hand mf d L i):=by
 obtain⟨i0,rV,hz0,hz1,hz2⟩:=info_parts GK;obtain⟨ps,fl,hL,Py⟩:=hg.frames f (List.mem_of_getElem? (cu hi)) fy;obtain⟨df,dp,q,lU,kC⟩:=hg.zU hL;have eD:=b6 (hg.ok f.name (by rw[hL];rfl));have il:=hg.vW;have UL:=(il _ (List.mem_of_getElem? hi)).2;have kB:i<l.length:=aM hi;have hn:=h.most;have H:=aa h;have HG:=aa hg;have HI:=aa hi;have HQ:=aa q;have yH:=aa il;have HL:=aa hL;have tZ:=aa fy;have zV:=aa fV;have hcell:(w.cell? ⟨pb,1,none⟩=some (.slice (some ⟨fb,0,none⟩) l.length l.length)/\w.cell? ⟨fb,i*7+1,none⟩=some (.string f.name)/\w.cell? ⟨fb,i*7+2,none⟩=some (.int .i64 (f.k:Int))):=by
  obtain⟨⟨-,g1,-⟩,-⟩:=h.head.cells;obtain⟨-,g2,g3,-⟩:=h.row.seven hi;exact⟨g1,g2,g3⟩
 obtain⟨hc1,hc2,hc3⟩:=hcell;have aN:Hid (∀W,Below w.heap.size w W->Calls prog 119 #[ptrTo pb,.string f.name] W (zS W db d f.name)):=aa (fun W hW=>sV (h.below hW) f.name eD);have Mz:=aa (jR h.lS f.name).1;clear h hg hi q il hL fy fV Py;dsimp only at UL;unfold ptrTo at *;generalize hN:l.length=n at *;have HN:=aa hN;clear hN;cases hd:d.dead with
 |true=>
   obtain⟨-,B6⟩:=kC hd;have My:=aa B6;have HD:=aa hd;clear hd B6 lU kC;go_enter func239,ntmps239;go_wp2;go_quiet (fail)
   go_wp2_with fail;refine(aN.o _ (below_drewN aj _)).mono ?_;rintro e w1⟨v1,n1,rfl,hb1,-⟩;rw[My.o];have hB:Below w.heap.size w w1:=(below_drewN aj _).trans hb1;have HB:=aa hB;clear hB hb1;go_wp2;go_ret;exact⟨o,l,d,6,rfl,H.o.below HB.o,HG.o,bK.refl d,rz.refl _,.inr (.inr ⟨rfl,HD.o⟩),fun h=>absurd h af,aH.aW HB.o,cw.refl _ _⟩
 |false=>
   obtain⟨hsz,B6⟩:=lU hd;have My:=aa B6;have ahx:=aa hsz;clear hd B6 lU kC hsz;go_enter func239,ntmps239;go_wp2;go_quiet (fail)
   go_wp2_with fail;refine(aN.o _ (below_drewN aj _)).mono ?_;rintro e w1⟨v1,n1,rfl,hb1,hy⟩;obtain⟨BF,pf,rfl,hp,hpl⟩:=hy My.o;rw[My.o];rw[ahx.o]at BF;have hB:Below w.heap.size w w1:=(below_drewN aj _).trans hb1;have HB:=aa hB;have WZ:=aa hp;have ahy:w.heap.size<=pf:=by simpa using hpl
   have Gq:Hid (n1=dp.length):=aa (by dsimp only at BF;omega);clear hB hb1 hp BF hy hpl;unfold ptrTo;have gU:=aa (Di (H.o.below HB.o) (fun p hp=>(yH.o p hp).2) f.name n1 f.k);unfold ptrTo at gU;go_wp2_with fail;refine gU.o.mono ?_;rintro e w2⟨v2,ls,rfl,kr,zW,hb2⟩;obtain⟨a2,c2,rfl⟩:=az kr;have cZ:=aa (HB.o.trans (hb2.mono HB.o.size));have qd:=aa kr;have HT:=aa zW;have acp:ls.length<=n:=by
    have h1:=zW.length_le;rw[List.length_map,HN.o]at h1;exact h1
   have QX:=aa (WZ.o.below hb2);have hs2:w.heap.size<=w2.heap.size:=cZ.o.size;have hs1:w1.heap.size<=w2.heap.size:=hb2.size;clear kr zW hb2;go_wp2_with (at_builtin;refine wpList_append_own _ rfl _ _ 214 rfl w1.heap.size 3 i0 (.int .i64 0) 1 8 Tryz.underlying214 rV hz0 hz1 hz2 rfl af _ _ _ rfl (qd.o.alloc _) ⟨w2.heap.size,0,none⟩ 1 1 [mC i] rfl rfl ?c1 ?c2 ?c3 ?c4 ?c5 ?_);case c1=>
    intro j u hj;match j,hj with
    |0,hj=>
      cases hj;simp[bG,mC]
   case c2=>simp[mC,Value.oneCell']
   case c3=>unfold maxLen;omega
   case c4=>omega
   case c5=>simp;omega
   intro v3 w3 iN YQ _;have JZ:Hid (Below w.heap.size w w3):=aa ((cZ.o.alloc cZ.o.size _).grown YQ (by simp;omega) (fun k hk=>by have:=aF qd.o k hk;have:=HB.o.size;omega));have hO3:Hid (w3.ownsRow w1.heap.size 3 1 v3 (ls++[i]).length ((ls++[i]).map mC)):=aa (by simpa using iN);have ahz:Hid (nx w3 pf db f.name):=aa (by
    obtain⟨t,ht⟩:=QX.o;have aoB:=WZ.o.lt;have ahA:=QX.o.lt;refine⟨t,?_⟩;rw[YQ.block pf (by simp;omega) (fun e=>by have:=aF qd.o pf e.symm;omega),(MapKept.heap_alloc _ _).2 pf ahA];exact ht)
   obtain⟨a3,c3,rfl⟩:=az iN;clear iN YQ;have acr:∀x∈ls++[i],x<l.length:=fun x hx=>by
    rcases List.mem_append.1 hx with hx | hx
    ·obtain⟨fr,h1,_⟩:=(HT.o.mem x).1 hx;have:=aM h1;rwa [List.length_map]at this
    ·rw[List.mem_singleton.1 hx,HN.o];exact kB
   have lV:=aa (Mx HW (H.o.below JZ.o) yH.o eD ahz.o (eP H.o.owned ahy) hO3.o (fun b hb=>eP H.o.owned (by have:=aF hO3.o b hb;have:=HB.o.size;omega)) acr (by simp;omega));obtain⟨d',qb,ec,hr,Mt,yD,ue,uf,he⟩:=Sound.UF HL.o (ls++[i]) d (l.map (·.2)) df dp HG.o HQ.o (by
    have h1:=HT.o;rw[Gq.o]at h1;exact h1.QG HG.o (cu HI.o) tZ.o zV.o)
   rw[hr]at lV;have HG':=aa Mt;have HON:=aa yD;have QY:=aa ue;have MA:=aa uf;have HE:=aa he;unfold ptrTo at lV;clear hr Mt yD ue uf he acr;go_wp2_with fail;refine lV.o.mono ?_;rintro e w4⟨o',l',rfl,oW,hl4,MB,QZ,tK,hg4⟩;dsimp only at hl4 oW;have tO:=aa oW;have MC:=aa hl4;have ve:=aa ((aH.aW JZ.o).trans tK (fun _ _ h=>h):aH (o.In cB) w w4);have p8:Hid (cw w.heap.size o o'):=aa (fun x hx=>hg4 x (Nat.lt_of_lt_of_le hx JZ.o.size));clear oW hl4 MB QZ tK hg4;go_wp2;go_ret;refine⟨o',l',d',ec,rfl,tO.o,by rw[MC.o];exact HG'.o,HON.o,⟨by rw[MC.o];exact QY.o,fun j fr hj=>?_⟩,HE.o,fun hc=>?_,ve.o,p8.o⟩
   ·obtain⟨dd,h1,h2,_⟩:=MA.o j fr hj;exact⟨dd,by rw[MC.o];exact h1,h2⟩
   ·obtain⟨dd,h1,_,_,h4⟩:=MA.o i f (cu HI.o);exact⟨_,by rw[MC.o];exact h1,h4 hc ah⟩
def mK(fs qb:List bZ):Prop:=qb.length=fs.length/\∀(j:Nat)(x:bZ),qb[j]? = some x->x.full=true->∃y,fs[j]? = some y/\y.full=true/\y.name=x.name/\y.k=x.k
theorem mK.refl(fs:List bZ):mK fs fs:=⟨rfl,fun _ x h hf=>⟨x,h,hf,rfl,rfl⟩⟩
theorem mK.trans{a b c:List bZ}(h:mK a b)(k:mK b c):mK a c:=⟨k.1.trans h.1,fun j x hx hf=>by
 obtain⟨y,h1,h2,h3,h4⟩:=k.2 j x hx hf;obtain⟨z,g1,g2,g3,g4⟩:=h.2 j y h1 h2;exact⟨z,g1,g2,g3.trans h3,g4.trans h4⟩⟩
def lW(fs qb:List bZ):Prop:=qb.length=fs.length/\∀(j:Nat)(x:bZ),fs[j]? = some x->∃u,qb[j]? = some { x with used:=u }
theorem lW.refl(fs:List bZ):lW fs fs:=⟨rfl,fun _ x h=>⟨x.used,h⟩⟩
theorem lW.Dj{fs qb:List bZ}(h:lW fs qb):mK fs qb:=⟨h.1,fun j x hx hf=>by
 have hl:j<fs.length:=by rw[<- h.1];exact aM hx
 obtain⟨u,hu⟩:=h.2 j fs[j] (List.getElem?_eq_getElem hl);rw[hx]at hu;cases hu;exact⟨fs[j],List.getElem?_eq_getElem hl,hf,rfl,rfl⟩⟩
theorem rz.Dj{fs qb:List bZ}(h:rz fs qb):mK fs qb:=⟨h.1,fun j x hx hf=>by
 have hl:j<fs.length:=by rw[<- h.1];exact aM hx
 obtain⟨u,hu,_⟩:=h.2 j fs[j] (List.getElem?_eq_getElem hl);rw[hx]at hu;cases hu;exact⟨fs[j],List.getElem?_eq_getElem hl,hf,rfl,rfl⟩⟩
theorem mK.none{fs:List bZ}{i:Nat}(hi:i<fs.length):mK fs (fs.set i bZ.none):=⟨List.length_set,fun j x hx hf=>by
 rw[fc hi]at hx;by_cases e:j=i
 ·rw[if_pos e]at hx;cases hx;cases hf
 ·rw[if_neg e]at hx;exact⟨x,hx,hf,rfl,rfl⟩⟩
theorem lW.set{fs qb:List bZ}(h:lW fs qb){i:Nat}{x:bZ}(hi:qb[i]? = some x)(u:Bool):lW fs (qb.set i { x with used:=u }):=⟨List.length_set.trans h.1,fun j y hy=>by
 obtain⟨v,hv⟩:=h.2 j y hy;rw[fc (aM hi)];by_cases e:j=i
 ·subst e;rw[hv]at hi;cases hi;exact⟨u,by rw[if_pos rfl]⟩
 ·exact⟨v,by rw[if_neg e];exact hv⟩⟩
theorem lW.sound{d:Dsk}{fs qb:List bZ}{L:aD}(h:lW fs qb)(hg:Sound d fs L)(hall:∀fr∈fs,fr.full=true):Sound d qb L:=
 hg.used h.1 fun i f f' hi hi'=>by
  obtain⟨u,hu⟩:=h.2 i f hi;rw[hi']at hu;cases hu;exact⟨rfl,fun hf=>by rw[hall f (List.mem_of_getElem? hi)]at hf;cases hf⟩
def Q4(w:World)(pb db fb mb:Nat)(o:ar)(l:List iD)(mf:Nat)(d:Dsk)(L:aD)(e:Ending)(w':World):Prop:=
 ∃o' l' Q5 d' c i,e=.returned (.tuple #[.int .i64 ((i:Nat):Int),.int .i64 ((c:Nat):Int)])/\br w' pb db fb mb o' l' Q5 mf d'/\Sound d' (l'.map (·.2)) L/\bK d d'/\(c=0\/kI d d' L c) /\
  (c=0->∃p,l'[i]? = some p/\p.2.full=false)/\mK (l.map (·.2)) (l'.map (·.2))/\aH (o.In cB) w w'/\cw w.heap.size o o'
theorem NK(i n:Nat):((i:Int)+1)%(n:Int)=(((i+1)%n:Nat):Int):=by
 rw[Int.natCast_emod];rfl
def YR(fs:List bZ)(k:Nat):Prop:=∀(j:Nat)(x:bZ),j<k->fs[j]? = some x->x.full=true
theorem GR(HW:aP){w:World}{pb db fb mb:Nat}{o:ar}{l:List iD}{hand mf:Nat}{d:Dsk}{L:aD}(h:br w pb db fb mb o l hand mf d)(hg:Sound d (l.map (·.2)) L) :
 Calls prog 197 #[ptrTo pb] w (Q4 w pb db fb mb o l mf d L):=by
 have H:=aa h;have HG:=aa hg;have vT:=aa h.row;have hn:=h.most;have HS:=aa h.shaped;have GL:=h.hand;have NH:=h.head.lt;obtain⟨⟨-,hc1,-,hc3,-⟩,-⟩:=h.head.cells;clear h hg;unfold ptrTo;generalize hN:l.length=n at *;have HN:=aa hN;clear hN;go_enter func197,ntmps197;go_wp2;go_step3
 go_wp2;go_loopw [15] (fun i wr=>∃k:Nat,k<=n/\i=.int .i64 (k:Int)/\YR (l.map (·.2)) k/\Below w.heap.size w wr) (fun i _=>n-(intOf i).toNat)
 case atStart=>exact⟨0,Nat.zero_le _,rfl,fun j x hj=>absurd hj (Nat.not_lt_zero j),Below.refl _ _⟩
 case round=>
  obtain⟨k,hk,rfl,hft,hb⟩:=hrel;by_cases hlt:k<n
  ·obtain⟨a,c,f,hi⟩:=HS.o.get HN.o hlt;obtain⟨h0,h1,h2,h3,h4,h5,h6⟩:=(vT.o.below hb).seven hi;have zC:wr.cell? ⟨pb,1,none⟩=some (.slice (some ⟨fb,0,none⟩) n n):=by rw[hb.cell (p:=⟨pb,1,none⟩) NH];exact hc1
   have HB:=aa hb;have UN:=aa hft;have HI:=aa hi;clear hi hb hft;cases fy:f.full with
   |false=>
     rw[fy]at h0;have tZ:=aa fy;clear fy;go_wp2;rw[Exit.noGoto_ret];go_ret2;exact⟨o,l,hand,d,0,k,rfl,H.o.below (HB.o.alloc HB.o.size _),HG.o,bK.refl d,.inl rfl,fun _=>⟨_,HI.o,tZ.o⟩,mK.refl _,aH.aW (HB.o.alloc HB.o.size _),cw.refl _ _⟩
   |true=>
     rw[fy]at h0;have tZ:=aa fy;clear fy;go_wp2;go_roundw
     case rel=>
      refine⟨k+1,ae,by go_num,fun j x hj hx=>?_,HB.o.alloc HB.o.size _⟩;by_cases e:j=k
      ·subst e;rw[cu HI.o]at hx;cases hx;exact tZ.o
      ·exact UN.o j x ae hx
     case measure=>simp[intOf];omega
  ·obtain rfl:k=n:=by omega
   have hall:∀fr∈l.map (·.2),fr.full=true:=fun fr dS=>by
    obtain⟨j,hj⟩:=List.mem_iff_getElem?.1 dS;exact hft j fr (by have:=aM hj;rw[List.length_map,HN.o]at this;exact this) hj
   have Cb:=aa hall;have H1:=aa (H.o.below hb);have HB:=aa hb;clear hft hb hall hc1 hc3;obtain⟨⟨-,hc1,-,hc3,-⟩,-⟩:=H1.o.head.cells;rw[HN.o]at hc1;go_wp2;go_step3
   go_wp2;generalize wr=W1 at *;go_loopw [6,35] (fun i c wr=>∃(tt ii:Nat)(l2:List iD),tt<=2*k/\c=.int .i64 (tt:Int)/\i=.int .i64 (ii:Int)/\ii=(hand+tt)%k/\br wr pb db fb mb o l2 hand mf d/\lW (l.map (·.2)) (l2.map (·.2)) /\
    (∀s,s<tt->∀x,(l2.map (·.2))[(hand+s)%k]? = some x->x.used=false)/\aH (·=fb) W1 wr) (fun _ c _=>2*k-(intOf c).toNat)
   case atStart=>exact⟨0,hand,l,ae,rfl,rfl,(Nat.mod_eq_of_lt GL).symm,H1.o,lW.refl _,fun s hs=>absurd hs (Nat.not_lt_zero s),aH.refl _ _⟩
   case round=>
    obtain⟨tt,ii,l2,htt,rfl,rfl,UO,j7,hst,hsw,oU⟩:=hrel;have r8:l2.length=k:=by
     have:=hst.1;rw[List.length_map,List.length_map,HN.o]at this;exact this
    have hik:ii<k:=by rw[UO];exact Nat.mod_lt _ ae
    obtain⟨a,c,f,hi⟩:=j7.shaped.get r8 hik;obtain⟨h0,h1,h2,h3,h4,h5,h6⟩:=j7.row.seven hi;have hz:=j7.row.free (ii*7+6);obtain⟨⟨-,hc1,-,hc3,-⟩,-⟩:=j7.head.cells;rw[r8]at hc1;have hm:=NK ii k;have HII:=aa UO;have pU:=aa j7;have HST:=aa hst;have HSW:=aa hsw;have nQ:=aa oU;have zX:=aa r8;have HI:=aa hi;have HM:=aa hm;clear UO j7 hst hsw oU r8 hi hm;by_cases Q6:tt<2*k/\f.used=true
    ·obtain⟨hlt,hu⟩:=Q6;rw[hu]at h6;clear hu;go_wp2;go_roundw
     case rel=>
      have uf:=pU.o.mark (j:=6) (u:=.bool false) (x:={ f with used:=false }) HI.o af rfl rfl rfl rfl rfl;refine⟨tt+1,(ii+1)%k,_,ae,by go_num,?_,?_,uf,?_,?_,nQ.o.setCell _ _ (.inl rfl)⟩
      ·rw[HM.o]
      ·rw[HII.o,Nat.mod_add_mod,Nat.add_assoc]
      ·rw[map_set];exact HST.o.set (cu HI.o) false
      ·intro s hs x hx;rw[map_set,fc (by rw[List.length_map,zX.o];exact hik)]at hx;by_cases e:(hand+s)%k=ii
       ·rw[if_pos e]at hx;cases hx;rfl
       ·rw[if_neg e]at hx;refine HSW.o s ?_ x hx;rcases Nat.lt_or_ge s tt with h | h
        ·exact h
        ·obtain rfl:s=tt:=by omega
         exact absurd HII.o.symm e
     case measure=>simp[intOf];omega
    ·have Gh:f.used=false:=by
      by_cases hlt:tt<2*k
      ·cases hu:f.used with
       |false=>rfl
       |true=>exact absurd ⟨hlt,hu⟩ Q6
      ·obtain rfl:tt=2*k:=by omega
       refine HSW.o 0 ae f ?_;have e1:ii=hand:=by rw[HII.o,Nat.mul_comm,Nat.add_mul_mod_self_left,Nat.mod_eq_of_lt GL]
       rw[Nat.add_zero,Nat.mod_eq_of_lt GL,<- e1];exact cu HI.o
     rw[Gh]at h6;clear Q6 Gh;have fy:f.full=true:=by
      have hl:ii<(l.map (·.2)).length:=by rw[List.length_map,HN.o];exact hik
      obtain⟨u,hu⟩:=HST.o.2 ii _ (List.getElem?_eq_getElem hl);rw[cu HI.o]at hu;have e:=Option.some.inj hu;dsimp only at e;have h1:=Cb.o _ (List.getElem_mem hl);rw[e];exact h1
     have PL:Hid (Sound d (l2.map (·.2)) L):=aa (HST.o.sound HG.o Cb.o);have HTW:Hid (aH (o.In cB) w wr):=aa ((aH.aW HB.o).trans nQ.o (fun x _ e=>e▸H.o.mJ));have tZ:=aa fy;have hnk:f.name.size<=1000/\f.k<9223372036854775808:=by
      obtain⟨ps,fl,hL,BX⟩:=PL.o.frames f (List.mem_of_getElem? (cu HI.o)) fy;have:=(PL.o.vW _ (List.mem_of_getElem? HI.o)).2;exact⟨b6 (PL.o.ok f.name (by rw[hL];rfl)),by dsimp only at this;omega⟩
     obtain⟨T8,hkb⟩:=hnk;clear fy;cases fV:f.bS with
     |false=>
       rw[fV]at h5;have zV:=aa fV;clear fV;by_cases hlt:tt<2*k;all_goals
        go_wp2_with fail;refine(vU (pU.o.below ai) HI.o tZ.o T8 hkb).mono ?_;rintro e w6⟨rfl,hp6,UQ⟩;have GU:=aa hp6;have Qz:=aa UQ;clear hp6 UQ;obtain⟨⟨-,hc1,-⟩,hz3,-⟩:=GU.o.head.cells;obtain⟨⟨-,-,-,hc3,-⟩,-⟩:=GU.o.head.cells;rw[List.length_set,zX.o]at hc1;go_wp2;rw[Exit.noGoto_ret];go_ret2;rw[HM.o];have kB:ii<l2.length:=aM HI.o;refine⟨o,l2.set ii (.slice none 0 0,bZ.none),(ii+1)%k,d,0,ii,rfl,GU.o.vI ((aH.refl (·=pb) w6).setCell ⟨pb,3,none⟩ _ (.inl rfl)) (GU.o.head.En _) (by rw[List.length_set,zX.o];exact Nat.mod_lt _ ae) GU.o.full,?_,bK.refl d,.inl rfl,fun _=>⟨(.slice none 0 0,bZ.none),by rw[fc kB,if_pos rfl],rfl⟩,?_,?_,cw.refl _ _⟩
        ·rw[map_set];exact PL.o.reset (cu HI.o) zV.o rfl (.inl rfl)
        ·rw[map_set];exact HST.o.Dj.trans (mK.none (by rw[List.length_map];exact kB))
        ·refine((HTW.o.alloc _).trans (Qz.o.mono (S':=o.In cB) (fun x _ e=>e.elim (fun e=>e▸GU.o.mJ) (fun e=>e ▸ ⟨_,GU.o.oq,show 8<10 by decide⟩))) ?_).trans ((aH.refl (o.In cB) w6).setCell ⟨pb,3,none⟩ _ (.inl ⟨_,GU.o.yF,show 6<10 by decide⟩)) ?_;all_goals
          intro x hx ⟨t,h1,h2⟩;exact⟨t,by exact h1,h2⟩
     |true=>
       rw[fV]at h5;have zV:=aa fV;clear fV;by_cases hlt:tt<2*k;all_goals
        go_wp2_with fail;refine(QW HW (pU.o.below ai) PL.o HI.o tZ.o zV.o).mono ?_;rintro e w5⟨o5,l5,d5,c5,rfl,FN,PG,acu,YS,PM,acv,rO,Cc⟩;have MD:=aa FN;have HG5:=aa PG;have acw:=aa acu;have YT:=aa YS;have Q7:=aa PM;have UR:=aa acv;have HTA:Hid (aH (o.In cB) w w5):=aa ((HTW.o.alloc _).trans rO (fun _ _ h=>h));have HGA:Hid (cw w.heap.size o o5):=aa (fun x hx=>Cc x (by have:=HTW.o.size;simp;omega));have Xd:l5.length=k:=by
         have:=YS.1;rw[List.length_map,List.length_map,zX.o]at this;exact this
        have ME:=aa Xd;clear FN PG acu YS PM acv rO Cc Xd;by_cases BC:c5=0
        ·subst BC;have hf5:∃v5 f5,l5[ii]? = some (v5,f5)/\f5.full=true/\f5.bS=false/\f5.name=f.name/\f5.k=f.k:=by
          obtain⟨fr,h1,h2⟩:=UR.o rfl;obtain⟨dd,g1,_⟩:=YT.o.2 ii f (cu HI.o);rw[h1]at g1;have e:=Option.some.inj g1;have hl5:ii<l5.length:=by rw[ME.o];exact hik
          have e2:l5[ii].2=fr:=by
           rw[List.getElem?_map,List.getElem?_eq_getElem hl5]at h1;exact Option.some.inj h1
          refine⟨l5[ii].1,fr,by rw[List.getElem?_eq_getElem hl5,<- e2],?_,h2,by rw[e],by rw[e]⟩;rw[e];exact tZ.o
         obtain⟨v5,f5,UT,acx,acy,acz,acA⟩:=hf5;have HI5:=aa UT;have ahD:=aa acy;have ahE:f5.name.size<=1000:=by rw[acz];exact T8
         have ahF:f5.k<9223372036854775808:=by rw[acA];exact hkb
         have YU:=aa (vU MD.o UT acx ahE ahF);clear UT acy acx acz acA;go_wp2_with fail;refine YU.o.mono ?_;rintro e w6⟨rfl,hp6,UQ⟩;have GU:=aa hp6;have Qz:=aa UQ;clear hp6 UQ;obtain⟨⟨-,hc1,-⟩,hz3,-⟩:=GU.o.head.cells;obtain⟨⟨-,-,-,hc3,-⟩,-⟩:=GU.o.head.cells;rw[List.length_set,ME.o]at hc1;go_wp2;rw[Exit.noGoto_ret];go_ret2;rw[HM.o];have kB:ii<l5.length:=aM HI5.o;refine⟨o5,l5.set ii (.slice none 0 0,bZ.none),(ii+1)%k,d5,0,ii,rfl,GU.o.vI ((aH.refl (·=pb) w6).setCell ⟨pb,3,none⟩ _ (.inl rfl)) (GU.o.head.En _) (by rw[List.length_set,ME.o];exact Nat.mod_lt _ ae) GU.o.full,?_,acw.o,.inl rfl,fun _=>⟨(.slice none 0 0,bZ.none),by rw[fc kB,if_pos rfl],rfl⟩,?_,?_,HGA.o⟩
         ·rw[map_set];exact HG5.o.reset (cu HI5.o) ahD.o rfl (.inl rfl)
         ·rw[map_set];exact(HST.o.Dj.trans YT.o.Dj).trans (mK.none (by rw[List.length_map];exact kB))
         ·refine(HTA.o.trans (Qz.o.mono (S':=o5.In cB) (fun x _ e=>e.elim (fun e=>e▸GU.o.mJ) (fun e=>e ▸ ⟨_,GU.o.oq,show 8<10 by decide⟩))) ?_).trans ((aH.refl (o5.In cB) w6).setCell ⟨pb,3,none⟩ _ (.inl ⟨_,GU.o.yF,show 6<10 by decide⟩)) ?_;all_goals
           intro x hx ⟨t,h1,h2⟩;exact⟨t,by first | (rw[<- HGA.o x hx];exact h1) | exact h1,h2⟩
        ·have acC:¬(c5:Int)=0:=by omega
         obtain⟨⟨-,-,-,hc3,-⟩,hz3,-⟩:=MD.o.head.cells;have NL:=aa BC;clear BC;go_wp2;rw[Exit.noGoto_ret];go_ret2;refine⟨o5,l5,ii,d5,c5,0,rfl,MD.o.vI ((aH.refl (·=pb) w5).setCell ⟨pb,3,none⟩ _ (.inl rfl)) (MD.o.head.En _) (by rw[ME.o];exact hik) MD.o.full,HG5.o,acw.o,Q7.o,fun h=>absurd h NL.o,HST.o.Dj.trans YT.o.Dj,?_,HGA.o⟩;exact HTA.o.trans ((aH.refl (o5.In cB) w5).setCell ⟨pb,3,none⟩ _ (.inl ⟨_,MD.o.yF,show 6<10 by decide⟩)) (fun x hx ⟨t,h1,h2⟩=>⟨t,by rw[<- HGA.o x hx];exact h1,h2⟩)
theorem Ce(name:Name){B:Nat}(fs:List bZ)(h:∀f∈fs,f.full=true->f.bS=true->f.name=name->f.k<B):∀n0,n0<=B->eX name n0 fs<=B:=by
 induction fs with
 |nil=>intro n0 hn;exact hn
 |cons f fs ih=>
   intro n0 hn;have hf:=h f ah;unfold eX at ih ⊢;rw[List.foldl_cons];refine ih (fun g hg=>h g (by simp[hg])) _ ?_;unfold gQ;split
   ·rename_i hc
    have:=hf hc.1 hc.2.1 hc.2.2;omega
   ·exact hn
theorem ug(name:Name)(fs:List bZ):∀n0,n0<=eX name n0 fs:=by
 induction fs with
 |nil=>intro n0;exact Nat.le_refl _
 |cons f fs ih=>
   intro n0;unfold eX at ih ⊢;rw[List.foldl_cons];refine Nat.le_trans ?_ (ih _);unfold gQ;split<;>omega
theorem Cf(name:Name)(fs:List bZ){f:bZ}(hf:f∈fs)(h1:f.full=true)(h2:f.bS=true)(h3:f.name=name):∀n0,f.k+1<=eX name n0 fs:=by
 induction fs with
 |nil=>cases hf
 |cons g fs ih=>
   intro n0;unfold eX at ih ⊢;rw[List.foldl_cons];rcases List.mem_cons.1 hf with rfl | hf
   ·refine Nat.le_trans ?_ (ug name fs _);unfold gQ;rw[if_pos ⟨h1,h2,h3⟩];omega
   ·exact ih hf _
theorem Sound.eX{d:Dsk}{fs:List bZ}{L:aD}(h:Sound d fs L){n:Name}{ps:List Pg}{fl:Bool}(hL:aB L n=some (.inl (ps,fl))){f:bR}{dp:List Pg}(q:dC d fs n ps fl f dp):eX n dp.length fs=ps.length:=by
 refine Nat.le_antisymm (Ce n fs (fun g hg h1 _ h3=>?_) _ q.le) ?_
 ·obtain⟨Gv,kO,BB,hk⟩:=h.frames g hg h1;rw[h3,hL]at BB;cases BB;exact aM hk
 ·rcases Nat.eq_or_lt_of_le q.le with e | hlt
  ·rw[<- e];exact ug _ _ _
  ·rcases q.each (ps.length-1) ae with h1 |⟨j,g,g1,g2,g3,g4,g5⟩
   ·omega
   ·have:=Cf n fs (List.mem_of_getElem? g1) g2 g3 g4 dp.length;omega
def ew(d:Dsk)(ps:List Pg):Nat×Nat:=if d.dead=true then (0,6) else (ps.length,0)
theorem qD{w:World}{pb db fb mb:Nat}{o:ar}{l:List iD}{hand mf:Nat}{d:Dsk}{L:aD}(h:br w pb db fb mb o l hand mf d)(hg:Sound d (l.map (·.2)) L){name:Name}{ps:List Pg}{fl:Bool}(hL:aB L name=some (.inl (ps,fl))) :
 Calls prog 92 #[ptrTo pb,.string name] w fun e w'=>e=.returned (.tuple #[.int .i64 ((ew d ps).1:Int),.int .i64 ((ew d ps).2:Int)])/\Below w.heap.size w w':=by
 obtain⟨f,dp,q,lU,kC⟩:=hg.zU hL;refine(Dg h (fun p hp=>(hg.vW p hp).2) name (b6 (hg.ok name (by rw[hL];rfl)))).mono ?_;rintro e w'⟨rfl,hb⟩;refine⟨?_,hb⟩;unfold ew;cases hd:d.dead with
 |true=>
   rw[(kC hd).2];rfl
 |false=>
   rw[(lU hd).2,(lU hd).1,if_pos rfl,show 256*dp.length/256=dp.length by omega,hg.eX hL q];rfl
theorem Sound.read{d:Dsk}{fs:List bZ}{L:aD}(h:Sound d fs L){n:Name}{ps:List Pg}{fl:Bool}(hL:aB L n=some (.inl (ps,fl))){f:bR}{dp:List Pg}(q:dC d fs n ps fl f dp)(hd:d.dead=false){k:Nat}{b:Pg}(hk:ps[k]? = some b)(hno:¬eW fs n k):k<dp.length/\d.read n (256*k) 256=(dx (ji n) k b,0):=by
 have yE:=aM hk;rcases q.each k yE with⟨h1,h2⟩| h1
 ·refine⟨h1,?_⟩;have eD:bM n=true:=h.ok n (by rw[hL];rfl);unfold Dsk.read;rw[hd,if_neg ah,eD,if_neg ah,q.get];dsimp only;rw[q.now,B8 q.B9 h1,Nat.zero_add];have e:dp[k]=b:=by
   rw[hk,List.getElem?_eq_getElem h1]at h2;exact Option.some.inj h2
  rw[e]
 ·exact absurd h1 hno
theorem Sound.mark{d:Dsk}{fs:List bZ}{L:aD}(h:Sound d fs L){i:Nat}{x:bZ}(hi:fs[i]? = some x)(hx:x.full=true)(u:Bool):Sound d (fs.set i { x with used:=u }) L:=
 h.used List.length_set fun j f f' hj hj'=>by
  rw[fc (aM hi)]at hj';by_cases e:j=i
  ·rw[if_pos e]at hj';rw[e,hi]at hj;cases hj;cases hj';exact⟨rfl,fun hf=>by rw[hx]at hf;cases hf⟩
  ·rw[if_neg e,hj]at hj';cases hj';exact⟨rfl,fun _=>rfl⟩
def NN(w:World)(pb db fb mb n:Nat)(o:ar)(d:Dsk)(L:aD)(name:Name)(k:Nat)(e:Ending)(w':World):Prop:=
 ∃o' l' Q5 YL d' c i,e=.returned (.tuple #[.int .i64 ((i:Nat):Int),.int .i64 ((c:Nat):Int)])/\br w' pb db fb mb o' l' Q5 YL d'/\l'.length=n/\Sound d' (l'.map (·.2)) L/\bK d d'/\(c=0\/kI d d' L c) /\
  (c=0->∃v f,l'[i]? = some (v,f)/\f.full=true/\f.name=name/\f.k=k)/\aH (o.In cB) w w'/\cw w.heap.size o o'
theorem NP(HW:aP){w:World}{pb db fb mb:Nat}{o:ar}{l:List iD}{hand mf:Nat}{d:Dsk}{L:aD}(h:br w pb db fb mb o l hand mf d)(hg:Sound d (l.map (·.2)) L){name:Name}{ps:List Pg}{fl:Bool}(hL:aB L name=some (.inl (ps,fl))){k:Nat}{b:Pg}(hk:ps[k]? = some b) :
 Calls prog 137 #[ptrTo pb,.string name,.int .i64 (k:Int)] w (NN w pb db fb mb l.length o d L name k):=by
 obtain⟨f,dp,q,lU,kC⟩:=hg.zU hL;have hs:=b6 (hg.ok name (by rw[hL];rfl));have yE:=aM hk;have jg:=q.most;have hbl:b.length<=240:=q.short b (List.mem_of_getElem? hk);have aN:=aa (qD h hg hL);have H:=aa h;have HG:=aa hg;have HL:=aa hL;have HK:=aa hk;have HQ:=aa q;have acD:=aa lU;have alK:=aa kC;have hn:=h.most;have NH:=h.head.lt;obtain⟨m,ee,cQ⟩:=h.tV;have eu:=aa ee;have eB:=aa cQ;have QB:=aa (ry (s:=name) (n:=k) (by unfold maxLen;omega) ae);clear h hg hL hk q lU kC ee cQ;unfold ptrTo at *;unfold ew at aN;cases hd:d.dead with
 |true=>
   rw[hd,if_pos rfl]at aN;have HD:=aa hd;clear hd;go_enter func137,ntmps137;go_wp2_with fail;refine aN.o.mono ?_;rintro e w1⟨rfl,hb⟩;have HB:=aa hb;clear hb;go_wp2;go_ret2;exact⟨o,l,hand,mf,d,6,0,rfl,H.o.below HB.o,rfl,HG.o,bK.refl d,.inr (.inr ⟨rfl,HD.o⟩),fun h=>absurd h af,aH.aW HB.o,cw.refl _ _⟩
 |false=>
   rw[hd,if_neg ah]at aN;have HD:=aa hd;clear hd;have JU:¬((k:Int) >= (ps.length:Int)):=by omega
   have JP:¬((k:Int)<0):=by omega
   generalize hP:ps.length=P at *;have HP:=aa hP;clear hP;cases Ev:aB m (name,k) with
   |some i=>
     have Q8:=aa Ev;clear Ev;obtain⟨fr,hi,tP,hf2,hf3⟩:=(eB.o name k i).1 Q8.o;have kB:i<l.length:=by have:=aM hi;rwa [List.length_map]at this
     go_enter func137,ntmps137;go_wp2_with fail;refine aN.o.mono ?_;rintro e w1⟨rfl,hb⟩;have HB:=aa hb;have H1:=aa (H.o.below hb);have eC:Hid (jl w1 mb m):=aa (eu.o.kept (hb.block mb eu.o.lt));clear hb;obtain⟨⟨-,hc1,hc2,-⟩,-⟩:=H1.o.head.cells;have hz:∀W:World,(zeroValue 3).run prog W=.ok (.int .i64 0) W:=fun W=>by kernel_rfl
     obtain⟨a,c,f0,hi'⟩:=H1.o.shaped.get rfl kB;obtain rfl:f0=fr:=by
      have:=cu hi';rw[hi]at this;exact(Option.some.inj this).symm
     obtain⟨-,-,-,-,-,-,h6⟩:=H1.o.row.seven hi';have WU:=H1.o.row.free (i*7+6);have HI':=aa hi';clear hi hi';go_wp2_with (at_lookup;refine bY _ rfl _ _ _ _ rfl 3 jQ fG Tryz.underlying148 (hz _) mb m rfl eC.o (name,k) rfl QB.o ?_;unfold p7;rw[Q8.o];simp only[Option.map_some,Option.getD_some,Option.isSome_some]);go_ret2;have uf:=H1.o.mark (j:=6) (u:=.bool true) (x:={ f0 with used:=true }) HI'.o af rfl rfl rfl rfl rfl;refine⟨o,_,hand,mf,d,0,i,rfl,uf,List.length_set,?_,bK.refl d,.inl rfl,fun _=>⟨.slice a f0.bytes.length c,{ f0 with used:=true },by rw[fc kB,if_pos rfl],tP,hf2,hf3⟩,(aH.aW HB.o).setCell _ _ (.inl H.o.mJ),cw.refl _ _⟩;rw[map_set];exact HG.o.mark (cu HI'.o) tP true
   |none=>
     have Q8:=aa Ev;clear Ev;have vM:∀(j:Nat)(fj:bZ),(l.map (·.2))[j]? = some fj->fj.full=true->fj.name=name->fj.k=k->False:=fun j fj h1 h2 h3 h4=>by
      have:=(eB.o name k j).2 ⟨fj,h1,h2,h3,h4⟩;rw[Q8.o]at this;cases this
     have YV:=aa vM;obtain⟨hkd,Bx⟩:=HG.o.read HL.o HQ.o HD.o HK.o (fun⟨j,fr,h1,h2,_,h4,h5⟩=>vM j fr h1 h2 h4 h5);obtain⟨hsz,B6⟩:=acD.o HD.o;have Mp:=aa Bx;have Mz:=aa hsz;have My:=aa B6;have ahG:Hid (dp.length<=65536):=aa (by have:=HQ.o.le;have:=HP.o;omega);clear vM Bx hsz B6;go_enter func137,ntmps137;go_wp2_with fail;refine aN.o.mono ?_;rintro e w1⟨rfl,hb⟩;have HB:=aa hb;have H1:=aa (H.o.below hb);have eC:Hid (jl w1 mb m):=aa (eu.o.kept (hb.block mb eu.o.lt));clear hb;obtain⟨⟨hc0,-,hc2,-⟩,-⟩:=H1.o.head.cells;unfold ptrTo at hc0;have hz:∀W:World,(zeroValue 3).run prog W=.ok (.int .i64 0) W:=fun W=>by kernel_rfl
     go_wp2_with (at_lookup;refine bY _ rfl _ _ _ _ rfl 3 jQ fG Tryz.underlying148 (hz _) mb m rfl eC.o (name,k) rfl QB.o ?_;unfold p7;rw[Q8.o];simp only[Option.map_none,Option.getD_none,Option.isSome_none]);refine(zR H1.o.lS name hs).mono ?_;rintro e w2⟨v2,rfl,hb2,hy,-⟩;obtain⟨pf,rfl,hp,hpl⟩:=hy My.o;rw[My.o];have WZ:=aa hp;have H2:=aa (H1.o.below hb2);have cZ:=aa (HB.o.trans (hb2.mono HB.o.size));clear hb2 hy hp hz;unfold ptrTo;go_wp2_with fail;refine(NG H2.o.lS WZ.o hs k (256*dp.length) b Mz.o ae (by have:=ahG.o;omega) Mp.o hbl).mono ?_;rintro e w3⟨v3,rfl,iN,hb3⟩;obtain⟨a3,c3,rfl⟩:=az iN;have H3:=aa (H2.o.below hb3);have jF:=aa (cZ.o.trans (hb3.mono cZ.o.size));have mG:=aa iN;have hs3:w.heap.size<=w2.heap.size:=cZ.o.size;have Xe:Hid (∀b',(Value.slice a3 b.length c3).ownBlock=some b'->o b'=none):=aa (fun b' hb'=>eP H.o.owned (by have:=aF iN b' hb';omega));have FQ:Hid (∀b',(Value.slice a3 b.length c3).ownBlock=some b'->b'<w3.heap.size):=aa (fun b' hb'=>(aL iN b' hb').1);clear iN hb3;go_wp2_with fail;refine(GR HW H3.o HG.o).mono ?_;rintro e w4⟨o4,l4,GV,d4,c4,i4,rfl,oW,hg4,uh,vp,Q9,GX,tK,NQ⟩;have tO:=aa oW;have p8:=aa hg4;have Ra:=aa uh;have Cg:=aa vp;have YW:=aa Q9;have zY:=aa GX;have ve:=aa ((aH.aW jF.o).trans tK (fun _ _ h=>h):aH (o.In cB) w w4);have Ki:Hid (cw w.heap.size o o4):=aa (fun x hx=>NQ x (Nat.lt_of_lt_of_le hx jF.o.size));have T9:Hid (w4.ownsRow w2.heap.size 5 1 (.slice a3 b.length c3) b.length (b.map bv)):=aa (tK.ownsRow mG.o (fun b' hb'=>ar.dI (Xe.o b' hb')));have YX:Hid (∀b',(Value.slice a3 b.length c3).ownBlock=some b'->o4 b'=none):=aa (fun b' hb'=>by rw[NQ b' (FQ.o b' hb')];exact Xe.o b' hb');clear oW hg4 uh vp Q9 GX tK NQ;by_cases ik:c4=0
     ·subst ik;obtain⟨p4,xG,Kj⟩:=YW.o rfl;have HI4:=aa xG;have YY:=aM xG;have Rb:=aa Kj;have zZ:∀(j:Nat)(fj:bZ),(l4.map (·.2))[j]? = some fj->fj.full=true->fj.name=name->fj.k=k->False:=fun j fj h1 h2 h3 h4=>by
       obtain⟨y,g1,g2,g3,g4⟩:=zY.o.2 j fj h1 h2;exact YV.o j y g1 g2 (g3.trans h3) (g4.trans h4)
      have Rc:=aa zZ;have nA:=aa (GG tO.o xG Kj ⟨true,name,k,b,false,true⟩ T9.o YX.o zZ hs (by show k<_;omega) false);unfold ptrTo at nA;dsimp only at nA;clear xG Kj zZ;go_wp2_with fail;refine nA.o.mono ?_;rintro e w5⟨rfl,⟨mf5,FN⟩,rO⟩;have MD:=aa FN;have Eh:=aa rO;clear FN rO;go_wp2;go_ret2;refine⟨_,_,GV,mf5,d4,0,i4,rfl,MD.o,by rw[List.length_set];simpa using zY.o.1,?_,Ra.o,.inl rfl,fun _=>⟨.slice a3 b.length c3,⟨true,name,k,b,false,true⟩,by rw[fc YY,if_pos rfl],rfl,rfl,rfl⟩,?_,?_⟩
      ·rw[map_set];have zK:p4.2.bS=false:=by
        rw[p8.o.blank p4.2 (List.mem_of_getElem? (cu HI4.o)) Rb.o];rfl
       exact p8.o.reset (cu HI4.o) zK rfl (.inr ⟨rfl,⟨ps,fl,HL.o,HK.o⟩,fun i' fi' _ h1 h2 h3 h4=>Rc.o i' fi' h1 h2 h3 h4⟩)
      ·refine ve.o.trans Eh.o (fun x hx e=>?_);have h1:o4.In cB x:=by
        rcases e with rfl | rfl | rfl
        ·exact tO.o.mJ
        ·exact⟨_,tO.o.oq,show 8<10 by decide⟩
        ·exact⟨_,tO.o.yF,show 6<10 by decide⟩
       obtain⟨t,g1,g2⟩:=h1;exact⟨t,by rw[<- Ki.o x hx];exact g1,g2⟩
      ·exact Ki.o.trans (ar.tL (n:=w2.heap.size) (fun b' hb'=>aF T9.o b' hb')) hs3
     ·have ui:¬(c4:Int)=0:=by omega
      have BG:=aa ik;clear ik;go_wp2;go_ret2;exact⟨o4,l4,GV,mf,d4,c4,0,rfl,tO.o,by simpa using zY.o.1,p8.o,Ra.o,Cg.o,fun h=>absurd h BG.o,ve.o,Ki.o⟩
def gR(w:World)(pb db n:Nat)(o:ar)(d:Dsk)(L:aD)(b:Pg)(e:Ending)(w':World):Prop:=
 ∃v c d' o',e=.returned (.tuple #[v,.int .i64 ((c:Nat):Int)])/\aQ w' pb db n o' d' L/\aH (o.In cB) w w'/\cw w.heap.size o o'/\bK d d'/\(c=0\/kI d d' L c) /\
  (c=0->w'.ownsRow w.heap.size 5 1 v b.length (b.map bv)/\∀x,v.ownBlock=some x->o' x=none)/\(c≠0->v=.slice none 0 0)
theorem pz(HW:aP){w:World}{pb db n:Nat}{o:ar}{d:Dsk}{L:aD}(h:aQ w pb db n o d L){name:Name}{ps:List Pg}{fl:Bool}(hL:aB L name=some (.inl (ps,fl))){k:Nat}{b:Pg}(hk:ps[k]? = some b) :
 Calls prog 93 #[ptrTo pb,.string name,.int .i64 (k:Int)] w (gR w pb db n o d L b):=by
 obtain⟨fb,mb,l,hand,mf,hp,rfl,hg⟩:=h;have hbl:b.length<=240:=by
  obtain⟨f,dp,q⟩:=hg.dJ _ _ _ hL;exact q.short b (List.mem_of_getElem? hk)
 have aN:=aa (NP HW hp hg hL hk);have HL:=aa hL;have HK:=aa hk;clear hp hg hL hk;unfold ptrTo at *;go_enter func93,ntmps93;go_wp2_with fail;refine aN.o.mono ?_;rintro e w1⟨o1,l1,Xf,mf1,d1,c1,i1,rfl,zE,Xg,hg1,acF,tA,acG,mB,acH⟩;have Kc:=aa zE;have JB:=aa hg1;have Xh:=aa Xg;have acI:=aa acF;have Dk:=aa tA;have ahJ:=aa acG;have Qk:=aa mB;have acJ:=aa acH;clear Xg zE hg1 acF tA acG mB acH;by_cases hc:c1=0
 ·subst hc;obtain⟨v1,f1,rX,tP,hf2,hf3⟩:=ahJ.o rfl;have aoD:=aM rX;have hbf:f1.bytes=b:=by
   obtain⟨Gv,kO,BB,BX⟩:=JB.o.frames f1 (List.mem_of_getElem? (cu rX)) tP;rw[hf2,HL.o]at BB;cases BB;rw[hf3,HK.o]at BX;exact(Option.some.inj BX).symm
  have HBF:=aa hbf;have hrow:=(Kc.o.each _ (List.mem_of_getElem? rX)).1;dsimp only at hrow;obtain⟨a1,cc1,rfl⟩:=az hrow;rw[hbf]at hrow rX;have Gj:=aa hrow;obtain⟨-,-,-,h3,-⟩:=Kc.o.row.seven rX;obtain⟨⟨-,hc1,-⟩,-⟩:=Kc.o.head.cells;clear rX tP hf2 hf3 hbf hrow;go_wp2_with fail;refine(fT _ b _ (fw Gj.o) ae).mono ?_;rintro e w2⟨v2,rfl,kr,hb2⟩;go_wp2;go_ret2;refine⟨v2,0,d1,o1,rfl,⟨fb,mb,l1,Xf,mf1,Kc.o.below hb2,Xh.o,JB.o⟩,Qk.o.bN hb2,acJ.o,acI.o,.inl rfl,fun _=>⟨aU kr Qk.o.size,fun x hx=>eP Kc.o.owned (aF kr x hx)⟩,fun h=>absurd rfl h⟩
 ·have hc':¬(c1:Int)=0:=by omega
  have HC:=aa hc;clear hc;go_wp2;go_ret2;exact⟨_,c1,d1,o1,rfl,⟨fb,mb,l1,Xf,mf1,Kc.o,Xh.o,JB.o⟩,Qk.o,acJ.o,acI.o,Dk.o,fun h=>absurd h HC.o,fun _=>rfl⟩
theorem br.lay{w:World}{pb db fb mb:Nat}{o:ar}{l:List iD}{hand mf:Nat}{d:Dsk}(h:br w pb db fb mb o l hand mf d){i:Nat}{u:Value}{f:bZ}(hi:l[i]? = some (u,f)){v:Value}{b:Pg}{base:Nat}(hv:w.ownsRow base 5 1 v b.length (b.map bv))(my:∀x,v.ownBlock=some x->o x=none) :
 br (((w.setCell ⟨fb,i*7+3,none⟩ v).setCell ⟨fb,i*7+5,none⟩ (.bool true)).setCell ⟨fb,i*7+6,none⟩ (.bool true)) pb db fb mb (o.put v (9,0)) (l.set i (v,{ f with bytes:=b,bS:=true,used:=true })) hand mf d:=by
 have kB:=aM hi;have r1:=h.row.set' (q:=(v,{ f with bytes:=b })) hi (j:=3) af (v:=v) rfl;have g1:(l.set i (v,{ f with bytes:=b }))[i]? = some (v,{ f with bytes:=b }):=by rw[fc kB,if_pos rfl]
 have r2:=r1.set' (q:=(v,{ f with bytes:=b,bS:=true })) g1 (j:=5) af (v:=.bool true) rfl;have g2:((l.set i (v,{ f with bytes:=b })).set i (v,{ f with bytes:=b,bS:=true }))[i]? = some (v,{ f with bytes:=b,bS:=true }):=by rw[fc (by rw[List.length_set];exact kB),if_pos rfl]
 have r3:=r2.set' (q:=(v,{ f with bytes:=b,bS:=true,used:=true })) g2 (j:=6) af (v:=.bool true) rfl;rw[List.set_set,List.set_set]at r3;have ht:aH (·=fb) w (((w.setCell ⟨fb,i*7+3,none⟩ v).setCell ⟨fb,i*7+5,none⟩ (.bool true)).setCell ⟨fb,i*7+6,none⟩ (.bool true)):=(((aH.refl (·=fb) w).setCell ⟨fb,i*7+3,none⟩ v (.inl rfl)).setCell ⟨fb,i*7+5,none⟩ (.bool true) (.inl rfl)).setCell ⟨fb,i*7+6,none⟩ (.bool true) (.inl rfl);have UU:∀x,v.ownBlock=some x->x<w.heap.size:=fun x hx=>(aL hv x hx).1;refine h.tW r3 (ht.mono fun _ _ e=>.inl e) (ar.tM my) (fun x t hx=>Nat.lt_of_lt_of_le (ar.vK h.owned UU x t hx) ht.size) ?_ ?_
 ·obtain⟨m,m1,m2⟩:=h.tV;exact⟨m,m1.turn ht (ar.ne h.oq h.r7 af),m2.same (cu hi) rfl rfl rfl⟩
 ·exact⟨aU (ht.ownsRow hv (fun x hx e=>by have:=my x hx;rw[e,h.r7]at this;cases this)) (Nat.zero_le _),fun x hx=>ar.zD hx⟩
def nB(w:World)(pb db n:Nat)(o:ar)(d:Dsk)(L L':aD)(e:Ending)(w':World):Prop:=
 ∃c d' o',e=.returned (.int .i64 ((c:Nat):Int))/\aQ w' pb db n o' d' (if c=0 then L' else L)/\aH (o.In cB) w w'/\cw w.heap.size o o'/\bK d d'/\(c=0\/kI d d' L c)
theorem br.Xi{w:World}{pb db fb mb:Nat}{o:ar}{l:List iD}{hand mf:Nat}{d:Dsk}(h:br w pb db fb mb o l hand mf d):o.In cB mb:=⟨_,h.oq,show 8<10 by decide⟩
theorem br.acK{w:World}{pb db fb mb:Nat}{o:ar}{l:List iD}{hand mf:Nat}{d:Dsk}(h:br w pb db fb mb o l hand mf d):o.In cB pb:=⟨_,h.yF,show 6<10 by decide⟩
theorem UW{n:Nat}{o o':ar}(hg:cw n o o'){C:Nat->Prop}{x:Nat}(hx:x<n)(h:o'.In C x):o.In C x:=by
 obtain⟨t,h1,h2⟩:=h;exact⟨t,by rw[<- hg x hx];exact h1,h2⟩
theorem Ch(HW:aP){w:World}{pb db n:Nat}{o:ar}{d:Dsk}{L:aD}(h:aQ w pb db n o d L){name:Name}{ps:List Pg}{fl:Bool}(hL:aB L name=some (.inl (ps,fl))){k:Nat}(hk:k<=ps.length)(BX:k<65536){v:Value}{b:Pg}(hv:Rd w v b)(hb:b.length<=240)(my:∀x,v.ownBlock=some x->o x=none) :
 Calls prog 155 #[ptrTo pb,.string name,.int .i64 (k:Int),v] w (nB w pb db n o d L (aS L name (.inl (dr ps k b,false)))):=by
 obtain⟨fb,mb,l,hand,mf,hp,rfl,hg⟩:=h;have hs:=b6 (hg.ok name (by rw[hL];rfl));have aN:=aa (qD hp hg hL);have H:=aa hp;have HG:=aa hg;have HL:=aa hL;have HV:=aa hv;have vV:=aa my;have HK:=aa hk;have z7:=aa hb;obtain⟨va,vc,rfl,-⟩:=hv;have hn:=hp.most;have NH:=hp.head.lt;obtain⟨m,ee,cQ⟩:=hp.tV;have eu:=aa ee;have eB:=aa cQ;have QB:=aa (ry (s:=name) (n:=k) (by unfold maxLen;omega) ae);have alM:¬((b.length:Int)>240):=by omega
 have JU:¬((k:Int)>(ps.length:Int)):=by omega
 have JP:¬((k:Int)<0):=by omega
 clear hp hg hL ee cQ my hk hb;unfold ptrTo at *;unfold ew at aN;generalize hP:ps.length=P at *;have HP:=aa hP;clear hP;generalize hB:b.length=B at *;have HB:=aa hB;clear hB;cases hd:d.dead with
 |true=>
   rw[hd,if_pos rfl]at aN;have HD:=aa hd;clear hd;go_enter func155,ntmps155;go_wp2_with fail;refine aN.o.mono ?_;rintro e w1⟨rfl,hb⟩;have cT:=aa hb;clear hb;go_wp2;go_ret;exact⟨6,d,o,rfl,⟨fb,mb,l,hand,mf,H.o.below cT.o,rfl,HG.o⟩,aH.aW cT.o,cw.refl _ _,bK.refl d,.inr (.inr ⟨rfl,HD.o⟩)⟩
 |false=>
   rw[hd,if_neg ah]at aN;clear hd;have hz:∀W:World,(zeroValue 3).run prog W=.ok (.int .i64 0) W:=fun W=>by kernel_rfl
   cases Ev:aB m (name,k) with
   |some i=>
     have Q8:=aa Ev;clear Ev;obtain⟨fr,hi,tP,hf2,hf3⟩:=(eB.o name k i).1 Q8.o;have kB:i<l.length:=by have:=aM hi;rwa [List.length_map]at this
     go_enter func155,ntmps155;go_wp2_with fail;refine aN.o.mono ?_;rintro e w1⟨rfl,hb⟩;have cT:=aa hb;have H1:=aa (H.o.below hb);have eC:Hid (jl w1 mb m):=aa (eu.o.kept (hb.block mb eu.o.lt));clear hb;obtain⟨⟨-,hc1,hc2,-⟩,-⟩:=H1.o.head.cells;obtain⟨a,c,f0,hi'⟩:=H1.o.shaped.get rfl kB;obtain rfl:f0=fr:=by
      have:=cu hi';rw[hi]at this;exact(Option.some.inj this).symm
     have HI':=aa hi';have UX:=aa (HV.o.below cT.o);clear hi hi';go_wp2_with (first | (at_lookup;refine bY _ rfl _ _ _ _ rfl 3 jQ fG Tryz.underlying148 (hz _) mb m rfl eC.o (name,k) rfl QB.o ?_;unfold p7;rw[Q8.o];simp only[Option.map_some,Option.getD_some,Option.isSome_some]) | fail);have zK:=aa (fT _ b w1 UX.o (by have:=HB.o;have:=z7.o;omega));refine zK.o.mono ?_;rintro e w2⟨v2,rfl,kr,hb2⟩;obtain⟨a2,c2,rfl⟩:=az kr;have H2:=aa (H1.o.below hb2);have cZ:=aa (cT.o.trans (hb2.mono cT.o.size));have qd:=aa kr;have hs1:w.heap.size<=w1.heap.size:=cT.o.size;have Xj:Hid (∀x,(Value.slice a2 b.length c2).ownBlock=some x->o x=none):=aa (fun x hx=>eP H.o.owned (Nat.le_trans hs1 (aF kr x hx)));clear kr hb2 hc1 hc2;obtain⟨-,-,-,h3,-,h5,h6⟩:=H2.o.row.seven HI'.o;have z3:=H2.o.row.free (i*7+3);have z5:=H2.o.row.free (i*7+5);have z6:=H2.o.row.free (i*7+6);go_wp2;go_ret;have YZ:=H2.o.lay HI'.o qd.o Xj.o;have Y0:=HG.o.write (cu HI'.o) HL.o (u:=true) (by rw[HP.o];exact HK.o) BX (b:=b) (by rw[HB.o];exact z7.o) (.inl ⟨tP,hf2,hf3⟩);refine⟨0,d,_,rfl,⟨fb,mb,_,hand,mf,YZ,List.length_set,?_⟩,?_,?_,bK.refl d,.inl rfl⟩
     ·rw[if_pos rfl,map_set];subst hf2 hf3;rw[tP];exact Y0
     ·exact(((aH.aW cZ.o).setCell ⟨fb,i*7+3,none⟩ _ (.inl H.o.mJ)).setCell ⟨fb,i*7+5,none⟩ (.bool true) (.inl H.o.mJ)).setCell ⟨fb,i*7+6,none⟩ (.bool true) (.inl H.o.mJ)
     ·exact ar.tL (fun x hx=>Nat.le_trans hs1 (aF qd.o x hx))
   |none=>
     have Q8:=aa Ev;clear Ev;have vM:∀(j:Nat)(fj:bZ),(l.map (·.2))[j]? = some fj->fj.full=true->fj.name=name->fj.k=k->False:=fun j fj h1 h2 h3 h4=>by
      have:=(eB.o name k j).2 ⟨fj,h1,h2,h3,h4⟩;rw[Q8.o]at this;cases this
     have YV:=aa vM;clear vM;go_enter func155,ntmps155;go_wp2_with fail;refine aN.o.mono ?_;rintro e w1⟨rfl,hb⟩;have cT:=aa hb;have H1:=aa (H.o.below hb);have eC:Hid (jl w1 mb m):=aa (eu.o.kept (hb.block mb eu.o.lt));have UX:=aa (HV.o.below hb);clear hb;obtain⟨⟨-,-,hc2,-⟩,-⟩:=H1.o.head.cells;go_wp2_with (first | (at_lookup;refine bY _ rfl _ _ _ _ rfl 3 jQ fG Tryz.underlying148 (hz _) mb m rfl eC.o (name,k) rfl QB.o ?_;unfold p7;rw[Q8.o];simp only[Option.map_none,Option.getD_none,Option.isSome_none]) | fail);refine(GR HW H1.o HG.o).mono ?_;rintro e w4⟨o4,l4,GV,d4,c4,i4,rfl,oW,hg4,uh,vp,Q9,GX,tK,NQ⟩;have tO:=aa oW;have p8:=aa hg4;have Ra:=aa uh;have Cg:=aa vp;have YW:=aa Q9;have zY:=aa GX;have hs1:w.heap.size<=w1.heap.size:=cT.o.size;have ve:=aa ((aH.aW cT.o).trans tK (fun _ _ h=>h):aH (o.In cB) w w4);have Ki:Hid (cw w.heap.size o o4):=aa (fun x hx=>NQ x (Nat.lt_of_lt_of_le hx cT.o.size));have Kk:Hid (Rd w4 (.slice va B vc) b):=aa (tK.rd UX.o (fun x hx=>ar.dI (vV.o x hx)));have oX:w.heap.size<=w4.heap.size:=ve.o.size;clear oW hg4 uh vp Q9 GX tK NQ hc2;by_cases ik:c4=0
     ·subst ik;obtain⟨p4,xG,Kj⟩:=YW.o rfl;have HI4:=aa xG;have YY:=aM xG;have Rb:=aa Kj;have zZ:∀(j:Nat)(fj:bZ),(l4.map (·.2))[j]? = some fj->fj.full=true->fj.name=name->fj.k=k->False:=fun j fj h1 h2 h3 h4=>by
       obtain⟨y,g1,g2,g3,g4⟩:=zY.o.2 j fj h1 h2;exact YV.o j y g1 g2 (g3.trans h3) (g4.trans h4)
      have Rc:=aa zZ;have nA:=aa (GG tO.o xG Kj ⟨true,name,k,[],false,false⟩ (a:=none) (c:=0) (base:=0) (ownsRow_nil _ _ _) (fun x hx=>by cases hx) zZ hs (by show k<_;omega) false);unfold ptrTo at nA;dsimp only at nA;clear xG Kj zZ;go_wp2_with fail;refine nA.o.mono ?_;rintro e w5⟨rfl,⟨mf5,FN⟩,rO⟩;have acL:o4.put (.slice none ([]:Pg).length 0) (9,0)=o4:=rfl;rw[acL]at FN;have MD:=aa FN;have Eh:=aa (ve.o.trans rO (fun x hx e=>by
       have h1:o4.In cB x:=by
        rcases e with rfl | rfl | rfl
        ·exact tO.o.mJ
        ·exact tO.o.Xi
        ·exact tO.o.acK
       exact UW Ki.o hx h1))
      have NR:Hid (Rd w5 (.slice va B vc) b):=aa (rO.rd Kk.o (fun x hx e=>by
       have QL:=vV.o x hx;rcases e with rfl | rfl | rfl
       ·rw[H.o.r7]at QL;cases QL
       ·rw[H.o.oq]at QL;cases QL
       ·rw[H.o.yF]at QL;cases QL))
      clear FN rO;have UT:(l4.set i4 (Value.slice none ([]:Pg).length 0,(⟨true,name,k,[],false,false⟩:bZ)))[i4]? = some (Value.slice none ([]:Pg).length 0,⟨true,name,k,[],false,false⟩):=by rw[fc YY,if_pos rfl]
      have HI5:=aa UT;clear UT;obtain⟨⟨-,hc1,-⟩,-⟩:=MD.o.head.cells;go_wp2_with fail;have zK:=aa (fT _ b w5 NR.o (by have:=HB.o;have:=z7.o;omega));refine zK.o.mono ?_;rintro e w6⟨v6,rfl,ho6,FR⟩;obtain⟨a6,c6,rfl⟩:=az ho6;have H6:=aa (MD.o.below FR);have Qz:=aa (Eh.o.bN FR);have Y1:=aa ho6;have hs5:w.heap.size<=w5.heap.size:=Eh.o.size;have HF6:Hid (∀x,(Value.slice a6 b.length c6).ownBlock=some x->o4 x=none):=aa (fun x hx=>eP MD.o.owned (aF ho6 x hx));clear ho6 FR hc1;obtain⟨-,-,-,h3,-,h5,h6⟩:=H6.o.row.seven HI5.o;have z3:=H6.o.row.free (i4*7+3);have z5:=H6.o.row.free (i4*7+5);have z6:=H6.o.row.free (i4*7+6);go_wp2;go_ret;have YZ:=H6.o.lay HI5.o Y1.o HF6.o;have ahM:p4.2.bS=false:=by
       rw[p8.o.blank p4.2 (List.mem_of_getElem? (cu HI4.o)) Rb.o];rfl
      have Y0:=p8.o.write (cu HI4.o) HL.o (u:=true) (by rw[HP.o];exact HK.o) BX (b:=b) (by rw[HB.o];exact z7.o) (.inr ⟨ahM,fun i' fi' _ h1 h2 h3 h4=>Rc.o i' fi' h1 h2 h3 h4⟩);refine⟨0,d4,_,rfl,⟨fb,mb,_,GV,mf5,YZ,by rw[List.length_set,List.length_set];simpa using zY.o.1,?_⟩,?_,?_,Ra.o,.inl rfl⟩
      ·rw[if_pos rfl,List.set_set,map_set];exact Y0
      ·exact((Qz.o.setCell ⟨fb,i4*7+3,none⟩ _ (.inl H.o.mJ)).setCell ⟨fb,i4*7+5,none⟩ (.bool true) (.inl H.o.mJ)).setCell ⟨fb,i4*7+6,none⟩ (.bool true) (.inl H.o.mJ)
      ·exact Ki.o.trans (ar.tL (n:=w5.heap.size) (fun x hx=>aF Y1.o x hx)) hs5
     ·have ui:¬(c4:Int)=0:=by omega
      have BG:=aa ik;clear ik;go_wp2;go_ret;refine⟨c4,d4,o4,rfl,⟨fb,mb,l4,GV,mf,tO.o,by simpa using zY.o.1,?_⟩,ve.o,Ki.o,Ra.o,Cg.o⟩;rw[if_neg BG.o];exact p8.o
theorem kI.later{d d1 d2:Dsk}{L:aD}{c:Nat}(hq:d1.bD=d.bD)(h:kI d1 d2 L c):kI d d2 L c:=by
 rcases h with⟨h1,h2⟩| h
 ·exact .inl ⟨h1,by rw[<- hq];exact h2⟩
 ·exact .inr h
theorem Sound.synced{d:Dsk}{fs:List bZ}{L:aD}(h:Sound d fs L){name:Name}{ps:List Pg}{fl:Bool}(hL:aB L name=some (.inl (ps,fl)))(hno:∀k,¬eW fs name k) :
 Sound (d.sync name).1 fs (if (d.sync name).2=0 then aS L name (.inl (ps,true)) else L)/\bK d (d.sync name).1/\((d.sync name).2=0\/kI d (d.sync name).1 L (d.sync name).2):=by
 obtain⟨f,dp,q⟩:=h.dJ _ _ _ hL;have eD:bM name=true:=h.ok name (by rw[hL];rfl);unfold Dsk.sync;cases hd:d.tick.dead with
 |true=>exact⟨h.tick,bK.tick d,.inr (.inr ⟨rfl,hd⟩)⟩
 |false=>
   rw[if_neg ah,eD,if_neg ah,q.get];dsimp only;exact⟨h.sync hL hno q.get rfl rfl,(bK.tick d).of rfl rfl rfl,.inl rfl⟩
theorem NS(HW:aP){w:World}{pb db n:Nat}{o:ar}{d:Dsk}{L:aD}(h:aQ w pb db n o d L){name:Name}{ps:List Pg}{fl:Bool}(hL:aB L name=some (.inl (ps,fl))) :
 Calls prog 79 #[ptrTo pb,.string name] w (nB w pb db n o d L (aS L name (.inl (ps,true)))):=by
 obtain⟨fb,mb,l,hand,mf,hp,rfl,hg⟩:=h;obtain⟨df,dp,q,lU,kC⟩:=hg.zU hL;have eD:=b6 (hg.ok name (by rw[hL];rfl));have il:=hg.vW;have hn:=hp.most;have H:=aa hp;have HG:=aa hg;have HQ:=aa q;have yH:=aa il;have HL:=aa hL;have aN:=aa (sV hp name eD);have HLEN:Hid (l.length<=4096):=aa hn;have hhi:Hid (∀p,eW (l.map (·.2)) name p->p<16777216):=aa (fun p ⟨j,fr,h1,_,_,_,h5⟩=>by
  have:=(hg.fit fr (List.mem_of_getElem? h1)).2;omega)
 clear hp hg q il hL;unfold ptrTo at *;cases hd:d.dead with
 |true=>
   obtain⟨-,B6⟩:=kC hd;have My:=aa B6;have HD:=aa hd;clear hd B6 lU kC;go_enter func79,ntmps79;go_wp2_with fail;refine aN.o.mono ?_;rintro e w1⟨v1,n1,rfl,hb1,-⟩;rw[My.o];have HB:=aa hb1;clear hb1;go_wp2;go_ret;exact⟨6,d,o,rfl,⟨fb,mb,l,hand,mf,H.o.below HB.o,rfl,HG.o⟩,aH.aW HB.o,cw.refl _ _,bK.refl d,.inr (.inr ⟨rfl,HD.o⟩)⟩
 |false=>
   obtain⟨hsz,B6⟩:=lU hd;have My:=aa B6;clear hd B6 lU kC hsz;go_enter func79,ntmps79;go_wp2_with fail;refine aN.o.mono ?_;rintro e w1⟨v1,n1,rfl,hb1,hy⟩;obtain⟨-,pf,rfl,hp,hpl⟩:=hy My.o;rw[My.o];have HB:=aa hb1;have WZ:=aa hp;clear hb1 hp hy;unfold ptrTo;have gU:=aa (Di (H.o.below HB.o) (fun p hp=>(yH.o p hp).2) name 0 16777216);unfold ptrTo at gU;go_wp2_with fail;refine gU.o.mono ?_;rintro e w2⟨v2,ls,rfl,kr,zW,hb2⟩;have cZ:=aa (HB.o.trans (hb2.mono HB.o.size));have qd:=aa kr;have HT:=aa zW;have acp:Hid (ls.length<=100000):=aa (by
    have h1:=zW.length_le;rw[List.length_map]at h1;have:=HLEN.o;omega)
   have QX:=aa (WZ.o.below hb2);have T6:Hid (∀x∈ls,x<l.length):=aa (fun x hx=>by
    obtain⟨fr,h1,_⟩:=(HT.o.mem x).1 hx;have:=aM h1;rwa [List.length_map]at this)
   have B6:=aa (eP H.o.owned hpl);have lV:=aa (Mx HW (H.o.below cZ.o) yH.o eD QX.o B6.o qd.o (fun b hb=>eP H.o.owned (by have:=aF qd.o b hb;have:=HB.o.size;omega)) T6.o acp.o);obtain⟨d',qb,ec,hr,Mt,yD,ue,uf,he⟩:=Sound.UF HL.o ls d (l.map (·.2)) df dp HG.o HQ.o (HT.o.UF HG.o hhi.o);rw[hr]at lV;have HG':=aa Mt;have HON:=aa yD;have MA:=aa uf;have HE:=aa he;have QY:=aa ue;unfold ptrTo at lV;clear hr Mt yD ue uf he kr zW hb2;go_wp2_with fail;refine lV.o.mono ?_;rintro e w4⟨o',l',rfl,oW,hl4,MB,QZ,tK,hg4⟩;dsimp only at hl4 oW;have tO:=aa oW;have MC:=aa hl4;have Xk:=aa MB;have ve:=aa ((aH.aW cZ.o).trans tK (fun _ _ h=>h):aH (o.In cB) w w4);have p8:Hid (cw w.heap.size o o'):=aa (fun x hx=>hg4 x (Nat.lt_of_lt_of_le hx cZ.o.size));have Rb:Hid (nx w4 pf db name):=aa (QX.o.kept tK (ar.dI B6.o));clear oW hl4 MB QZ tK hg4;by_cases hc:ec=0
   ·subst hc;have hno:∀k,¬eW qb name k:=fun k ⟨j,fj,g1,g2,g3,g4,g5⟩=>by
     have kY:j<(l.map (·.2)).length:=by rw[<- QY.o];exact aM g1
     obtain⟨dd,s1,s2,s3,s4⟩:=MA.o j _ (List.getElem?_eq_getElem kY);rw[g1]at s1;have e1:=Option.some.inj s1;subst e1;dsimp only at g2 g3 g4 g5;have hm:j∈ls:=(HT.o.mem j).2 ⟨_,List.getElem?_eq_getElem kY,gD.2 ⟨g2,s2 g3,g4,Nat.zero_le _,hhi.o _ ⟨j,_,List.getElem?_eq_getElem kY,g2,s2 g3,g4,rfl⟩⟩⟩;have:=s4 rfl hm;rw[this]at g3;cases g3
    obtain⟨hs1,hs2,hs3⟩:=HG'.o.synced HL.o hno;have iY:=aa hs1;have eR:=aa hs2;have fB:=aa hs3;have nA:=aa (Kd tO.o.lS Rb.o eD);unfold ptrTo at nA;clear hno hs1 hs2 hs3;generalize (d'.sync name).1=d5 at *;generalize (d'.sync name).2=c5 at *;go_wp2_with fail;refine nA.o.mono ?_;rintro e w5⟨rfl,o5,Yv,rO,Cc⟩;have MD:=aa (tO.o.zQ Yv rO Cc);have Eh:=aa (ve.o.owned p8.o rO.aX);have HG5:=aa (p8.o.trans Cc ve.o.size);clear Yv rO Cc;go_wp2;go_ret;refine⟨c5,d5,o5,rfl,⟨fb,mb,l',hand,mf,MD.o,Xk.o,by rw[MC.o];exact iY.o⟩,Eh.o,HG5.o,HON.o.trans eR.o,fB.o.imp id (kI.later HON.o.bD)⟩
   ·have hc':¬(ec:Int)=0:=by omega
    have HC:=aa hc;clear hc;go_wp2;go_ret;refine⟨ec,d',o',rfl,⟨fb,mb,l',hand,mf,tO.o,Xk.o,by rw[MC.o,if_neg HC.o];exact HG'.o⟩,ve.o,p8.o,HON.o,HE.o⟩
def fo(name:Name)(f:bZ):bZ:=if f.full=true/\f.name=name then bZ.none else f
def lX(name:Name)(k:Nat)(fs:List bZ):List bZ:=(fs.take k).map (fo name)++fs.drop k
theorem GY(name:Name)(fs:List bZ):lX name 0 fs=fs:=by rfl
theorem Kl(name:Name)(fs:List bZ):lX name fs.length fs=fs.map (fo name):=by simp[lX]
theorem r9(name:Name)(k:Nat)(fs:List bZ):(lX name k fs).length=fs.length:=by
 grind [lX]
theorem z8(name:Name){k:Nat}{fs:List bZ}(h:k<=fs.length)(j:Nat):(lX name k fs)[j]? = if j<k then (fs[j]?).map (fo name) else fs[j]? := by
 grind [lX]
theorem GZ(name:Name){k:Nat}{fs:List bZ}{f:bZ}(h:fs[k]? = some f):lX name (k+1) fs=(lX name k fs).set k (fo name f):=by
 have hk:=aM h;apply List.ext_getElem?;grind [r9,z8]
theorem lh{name:Name}{f:bZ}(h:(fo name f).full=true):fo name f=f/\f.full=true/\f.name≠name:=by
 unfold fo at h ⊢;split at h
 ·cases h
 grind
theorem G0{name:Name}{fs:List bZ}{j:Nat}{x:bZ}(h:(fs.map (fo name))[j]? = some x):∃y,fs[j]? = some y/\x=fo name y:=by
 grind
theorem se{name n:Name}{fs:List bZ}{k:Nat}(hn:n≠name):eW (fs.map (fo name)) n k↔eW fs n k:=by
 constructor
 ·rintro⟨j,x,h,h1,h2,h3,h4⟩;obtain⟨y,hy,rfl⟩:=G0 h;obtain⟨e,g1,g2⟩:=lh h1;rw[e]at h2 h3 h4;exact⟨j,y,hy,g1,h2,h3,h4⟩
 ·rintro⟨j,y,h,h1,h2,h3,h4⟩;refine⟨j,y,?_,h1,h2,h3,h4⟩;grind [fo]
theorem Sound.UY{d:Dsk}{fs:List bZ}{L:aD}(h:Sound d fs L){name:Name}{ps:List Pg}{fl:Bool}(hL:aB L name=some (.inl (ps,fl))){f:bR}{dp:List Pg}(q:dC d fs name ps fl f dp) :
 Sound d (fs.map (fo name)) (aS L name (.inl (dp,false))) where
 keys:=cF h.keys
 fH:=h.fH
 names:=fun n=>by
  grind [cI,names]
 ok:=fun n hn=>by
  grind [cI,ok]
 dJ:=fun n Gv kO hg=>by
  rw[ay]at hg;by_cases e:n=name
  ·rw[if_pos e]at hg;cases hg;subst e;exact⟨f,_,q.get,q.now,Nat.le_refl _,Nat.le_trans q.le q.most,q.B9,q.B9,fun k hk=>.inl ⟨hk,rfl⟩,fun e=>(by cases e),q.ky⟩
  ·rw[if_neg e]at hg;obtain⟨f',dp',q'⟩:=h.dJ n Gv kO hg;refine⟨f',dp',q'.get,q'.now,q'.le,q'.most,q'.short,q'.B9,fun k hk=>(q'.each k hk).imp id (se e).2,fun e'=>?_,q'.ky⟩;grind [dC.gw,se]
 lQ:=fun n f' ls hg=>by
  grind [ay,lQ]
 frames:=fun fr dS hf=>by
  grind [lh,frames,ay]
 blank:=fun fr dS hf=>by
  grind [fo,blank]
 once:=fun i j fi fj hi hj h1 h2 h3 h4=>by
  grind [lh,once]
 dt:=fun n s hs=>by
  grind [cI,dt]
theorem Dl{κ υ:Type}[DecidableEq κ](m:List (κ×υ))(k:κ)(v:υ):b8 (aS m k v) k=b8 m k:=by
 unfold aS b8;simp
def MF(d':Dsk)(L L':aD)(name:Name)(c:Nat):Prop:=c=0/\L'=b8 L name\/c=6/\d'.dead=true/\∃dp,L'=aS L name (.inl (dp,false))
theorem Sound.UZ{d:Dsk}{fs:List bZ}{L:aD}(h:Sound d fs L){name:Name}{ps:List Pg}{fl:Bool}(hL:aB L name=some (.inl (ps,fl))) :
 ∃L',Sound (d.remove name).1 (fs.map (fo name)) L'/\bK d (d.remove name).1/\MF (d.remove name).1 L L' name (d.remove name).2:=by
 obtain⟨f,dp,q⟩:=h.dJ _ _ _ hL;have eD:bM name=true:=h.ok name (by grind);have he:=h.UY hL q;unfold Dsk.remove;cases hd:d.tick.dead with
 |true=>exact⟨_,he.tick,bK.tick d,.inr ⟨rfl,hd,dp,rfl⟩⟩
 |false=>
   rw[if_neg ah,eD,if_neg ah,q.get];dsimp only;refine⟨b8 L name,?_,(bK.tick d).of rfl rfl rfl,.inl ⟨rfl,rfl⟩⟩;grind [Dl,drop,lh]
theorem qp{α:Type}{l:List α}{j:Nat}{x:α}(h:l[j]? = some x):l.set j x=l:=by
 apply List.ext_getElem?;intro i;rw[fc (aM h)];by_cases e:i=j
 ·subst e;rw[if_pos rfl,h]
 ·rw[if_neg e]
def G1(w:World)(pb db n:Nat)(o:ar)(d:Dsk)(L:aD)(name:Name)(e:Ending)(w':World):Prop:=
 ∃c d' o' L',e=.returned (.int .i64 ((c:Nat):Int))/\aQ w' pb db n o' d' L'/\aH (o.In cB) w w'/\cw w.heap.size o o'/\bK d d'/\MF d' L L' name c
theorem uj{w:World}{pb db nf:Nat}{o:ar}{d:Dsk}{L:aD}(h:aQ w pb db nf o d L){name:Name}{ps:List Pg}{fl:Bool}(hL:aB L name=some (.inl (ps,fl))) :
 Calls prog 62 #[ptrTo pb,.string name] w (G1 w pb db nf o d L name):=by
 obtain⟨fb,mb,l,hand,mf,hp,hnf,hg⟩:=h;have HNF:=aa hnf;clear hnf;have eD:=b6 (hg.ok name (by rw[hL];rfl));have il:=hg.vW;have hn:=hp.most;have H:=aa hp;have yH:=aa il;have vT:=aa hp.row;have HS:=aa hp.shaped;have HNS:Hid (∀fr∈l.map (·.2),fr.full=true->fr.name.size<=1000):=aa (fun fr dS hf=>by
  obtain⟨Gv,kO,r1,_⟩:=hg.frames fr dS hf;exact b6 (hg.ok _ (by rw[r1];rfl)))
 obtain⟨L',hs1,hs2,hs3⟩:=hg.UZ hL;have iY:=aa hs1;have eR:=aa hs2;have fB:=aa hs3;obtain⟨⟨-,hc1,-⟩,-⟩:=hp.head.cells;have ahO:Hid (∀W o',cK W db o' d->Calls prog 96 #[ptrTo db,.string name] W fun e w'=>e=.returned (.int .i64 ((d.remove name).2:Int))/\cz W db o' (d.remove name).1 w'):=aa (fun W o' hW=>J4 hW name eD);clear hp hg il hL hs1 hs2 hs3;unfold ptrTo at *;generalize (d.remove name).1=d5 at *;generalize (d.remove name).2=c5 at *;generalize hN:l.length=n at *;have HN:=aa hN;clear hN;go_enter func62,ntmps62;go_wp2;go_loopw [16] (fun i wr=>∃k:Nat,k<=n/\i=.int .i64 (k:Int)/\Below w.heap.size w wr) (fun i _=>n-(intOf i).toNat)
 case atStart=>exact⟨0,Nat.zero_le _,rfl,Below.refl _ _⟩
 case round=>
  obtain⟨k,hk,rfl,hb⟩:=hrel;by_cases hlt:k<n
  ·obtain⟨a,c,f,hi⟩:=HS.o.get HN.o hlt;obtain⟨h0,h1,h2,h3,h4,h5,h6⟩:=(vT.o.below hb).seven hi;have zC:wr.cell? ⟨pb,1,none⟩=some (.slice (some ⟨fb,0,none⟩) n n):=by rw[hb.cell (p:=⟨pb,1,none⟩) (World.block_lt_of_cell? _ _ hc1)];exact hc1
   have HB:=aa hb;clear hi hb;obtain⟨full,nm,fk,bs,bS,used⟩:=f;dsimp only at *;by_cases vh:nm=name;case' pos=>have Xa:(nm.toList == name.toList)=true:=by rw[vh];exact beq_self_eq_true _
   case' neg=>have Xa:(nm.toList == name.toList)=false:=qC vh
   all_goals
    clear vh;cases full
   all_goals
    go_wp2;go_roundw
    case rel=>exact⟨k+1,ae,by go_num,HB.o.alloc HB.o.size _⟩
    case measure=>simp[intOf];omega
  ·obtain rfl:k=n:=by omega
   have H1:=aa (H.o.below hb);have HB:=aa hb;have zC:wr.cell? ⟨pb,1,none⟩=some (.slice (some ⟨fb,0,none⟩) k k):=by rw[hb.cell (p:=⟨pb,1,none⟩) (World.block_lt_of_cell? _ _ hc1)];exact hc1
   clear hb hc1;go_wp2;generalize wr=W1 at *;go_loopw [40] (fun i wr=>∃(j:Nat)(l2:List iD),j<=k/\i=.int .i64 (j:Int)/\br wr pb db fb mb o l2 hand mf d/\l2.map (·.2)=lX name j (l.map (·.2))/\aH (o.In cB) W1 wr) (fun i _=>k-(intOf i).toNat)
   case atStart=>exact⟨0,l,Nat.zero_le _,rfl,H1.o,(GY _ _).symm,aH.refl _ _⟩
   case round=>
    obtain⟨j,l2,hj,rfl,j7,hl2,oU⟩:=hrel;have r8:l2.length=k:=by
     have:=congrArg List.length hl2;rw[List.length_map,r9,List.length_map,HN.o]at this;exact this
    by_cases hlt:j<k
    ·obtain⟨a,c,f,hi⟩:=j7.shaped.get r8 hlt;have hfo:(l.map (·.2))[j]? = some f:=by
      have:=cu hi;rw[hl2,z8 _ (by rw[List.length_map,HN.o];omega),if_neg (Nat.lt_irrefl _)]at this;exact this
     have hsu:=GZ name hfo;obtain⟨h0,h1,h2,h3,h4,h5,h6⟩:=j7.row.seven hi;have UL:=(yH.o _ (List.mem_of_getElem? (show l[j]? = some ((l[j]'(by rw[HN.o];exact hlt)).1,f) from by
      have kY:j<l.length:=by rw[HN.o];exact hlt
      rw[List.getElem?_eq_getElem kY];rw[List.getElem?_map,List.getElem?_eq_getElem kY]at hfo;have:=Option.some.inj hfo;rw[<- this]))).2
     dsimp only at UL;have T8:=HNS.o f (List.mem_of_getElem? hfo);have pU:=aa j7;have JC:=aa hl2;have nQ:=aa oU;have HI:=aa hi;have HSU:=aa hsu;have zX:=aa r8;have ahP:=aa T8;clear j7 hl2 oU hi hsu r8 hfo T8;by_cases hm:f.full=true/\f.name=name
     ·obtain⟨ee,cQ⟩:=hm;have Xa:(f.name.toList == name.toList)=true:=by rw[cQ];exact beq_self_eq_true _
      have eu:=aa ee;have eB:=aa cQ;have aN:Hid (∀W,Below wr.heap.size wr W->Calls prog 95 #[ptrTo pb,.int .i64 (j:Int)] W fun e w'=>e=.returned (.tuple #[])/\br w' pb db fb mb o (l2.set j (.slice none 0 0,bZ.none)) hand mf d/\aH (o.In cB) wr w'):=aa (fun W hW=>
       (vU (pU.o.below hW) HI.o eu.o (ahP.o eu.o) (by show f.k<_;omega)).mono (fun e w' ⟨q1,q2,q3⟩=>⟨q1,q2,(aH.aW hW).trans q3 (fun x _ e=>by
         rcases e with rfl | rfl
         ·exact pU.o.mJ
         ·exact pU.o.Xi)⟩))
      unfold ptrTo at aN;rw[ee]at h0;clear ee cQ;go_wp2_with fail;refine(aN.o _ ai).mono ?_;rintro e w3⟨rfl,PJ,yJ⟩;have HP3:=aa PJ;have rp:=aa yJ;clear PJ yJ;go_wp2;go_roundw
      case rel=>
       refine⟨j+1,_,ae,by go_num,HP3.o,?_,nQ.o.trans rp.o (fun _ _ h=>h)⟩;rw[map_set,JC.o,HSU.o];unfold fo;rw[if_pos ⟨eu.o,eB.o⟩]
      case measure=>simp[intOf];omega
     ·have G2:(l2.map (·.2))=lX name (j+1) (l.map (·.2)):=by
       rw[HSU.o];unfold fo;rw[if_neg hm,<- JC.o];exact(qp (cu HI.o)).symm
      have Xl:=aa G2;clear G2;cases GN:f.full with
      |false=>
        rw[GN]at h0;clear hm GN;go_wp2;go_roundw
        case rel=>exact⟨j+1,l2,ae,by go_num,pU.o.below ai,Xl.o,nQ.o.bN ai⟩
        case measure=>simp[intOf];omega
      |true=>
        have Xa:(f.name.toList == name.toList)=false:=qC (fun e=>hm ⟨GN,e⟩);rw[GN]at h0;clear hm GN;go_wp2;go_roundw
        case rel=>exact⟨j+1,l2,ae,by go_num,pU.o.below ai,Xl.o,nQ.o.bN ai⟩
        case measure=>simp[intOf];omega
    ·obtain rfl:j=k:=by omega
     have pU:=aa j7;have JC:=aa hl2;have nQ:=aa oU;have zX:=aa r8;clear j7 hl2 oU r8;obtain⟨⟨hc0,-⟩,-⟩:=pU.o.head.cells;unfold ptrTo at hc0;go_wp2_with fail;refine(ahO.o _ o pU.o.lS).mono ?_;rintro e w5⟨rfl,o5,Yv,rO,Cc⟩;have hg2:cw wr.heap.size o o5:=Cc;go_wp2;go_ret;have hall:l2.map (·.2)=(l.map (·.2)).map (fo name):=by
      rw[JC.o,<- Kl,List.length_map,HN.o]
     have hT:aH (o.In cB) w wr:=(aH.aW HB.o).trans nQ.o (fun _ _ h=>h);refine⟨c5,d5,o5,L',rfl,⟨fb,mb,l2,hand,mf,pU.o.zQ Yv rO Cc,by rw[zX.o];exact HNF.o,by rw[hall];exact iY.o⟩,hT.trans rO.aX (fun _ _ h=>h),fun x hx=>Cc x (Nat.lt_of_lt_of_le hx hT.size),eR.o,fB.o⟩
def eT:iD:=(.slice none 0 0,bZ.none)
def oy:Array Value:=#[.bool false,.string ByteArray.empty,.int .i64 0,.slice none 0 0,.int .i64 0,.bool false,.bool false]
theorem Re(n:Nat):madeCells oy (n*7)=(rowOf (List.replicate n eT)).toArray:=by
 apply Array.ext_getElem?;intro i;by_cases hi:i<n*7
 ·have h1:(List.replicate n eT)[i/7]? = some eT:=by
   grind
  have hj:i%7<7:=Nat.mod_lt _ af;have h2:=Df h1 hj;rw[show 7*(i/7)+i%7=i by omega]at h2;have h3:(rowOf (List.replicate n eT)).toArray[i]? = (bJ eT.1 eT.2)[i%7]? := by grind
  rw[h3];unfold madeCells;rw[Array.getElem?_map,Array.getElem?_range,if_pos hi];show some (oy[i%7]!)=(bJ eT.1 eT.2)[i%7]?;generalize i%7=j at hj;match j,hj with
  |0,_=>rfl
  |1,_=>rfl
  |2,_=>rfl
  |3,_=>rfl
  |4,_=>rfl
  |5,_=>rfl
  |6,_=>rfl
 grind [size_madeCells,tU]
theorem G3:(prog.info? 172).map (fun i=>(i.zero,i.size,i.bytes))=some (some (.agg oy),7,72):=by kernel_rfl
def xP(w:World)(db n:Nat)(o:ar)(d:Dsk)(L:aD)(e:Ending)(w':World):Prop:=
 ∃pb o',e=.returned (.tuple #[ptrTo pb,.int .i64 0])/\aQ w' pb db n o' d L/\Below w.heap.size w w'/\cw w.heap.size o o'/\w.heap.size<=pb
theorem G4{w:World}{db:Nat}{o:ar}{d:Dsk}{L:aD}(h:cK w db o d)(n:Nat)(h1:1<=n)(h2:n<=4096)(hg:Sound d (List.replicate n bZ.none) L) :
 Calls prog 70 #[ptrTo db,.int .i64 (n:Int)] w (xP w db n o d L):=by
 obtain⟨i0,rV,hz0,hz1,hz2⟩:=info_parts G3;have vL:∀W:World,(Instr.makeSlice 147 (.int .i64 (n:Int)) (.int .i64 (n:Int))).run prog W=.ok (.slice (some ⟨W.heap.size,0,none⟩) n n) (W.alloc (.cells (rowOf (List.replicate n eT)).toArray 172)):=fun W=>by
  have hr:=run_make (P:=prog) W 147 172 i0 (.agg oy) Tryz.underlying147 rV hz0 .i64 .i64 n n ae ae (by grind) ae;simp only[Int.toNat_natCast]at hr;rw[hz1,show(Value.agg oy).cells=oy from rfl,Re]at hr;exact hr
 have U0:∀(t:TypeId)(W:World),(Instr.makeMap t none).run prog W=.ok (.map (some W.heap.size)) (W.alloc (.map #[] 0)):=fun _ _=>rfl;have H:=aa h;have HG:=aa hg;clear h hg;unfold ptrTo;go_enter func70,ntmps70;go_wp2;go_returns;have hB:Below w.heap.size w (((w.alloc (.cells (rowOf (List.replicate n eT)).toArray 172)).alloc (.map #[] 0)).alloc (.cells #[ptrTo db,.slice (some ⟨w.heap.size,0,none⟩) n n,.map (some (w.heap.size+1)),.int .i64 0,.int .i64 0,.int .i64 0] 150)):=(ai.alloc ah _).alloc (by simp;omega) _;have zA:∀x t,o x=some t->x<w.heap.size:=by
  obtain⟨_,_,_,hd⟩:=H.o;exact hd.owned
 have s1:(w.alloc (.cells (rowOf (List.replicate n eT)).toArray 172)).heap.size=w.heap.size+1:=by simp
 have s2:((w.alloc (.cells (rowOf (List.replicate n eT)).toArray 172)).alloc (.map #[] 0)).heap.size=w.heap.size+1+1:=by simp
 have hh:∀(W:World)(ob:Obj)(b:Nat),b<W.heap.size->(W.alloc ob).heap[b]? = W.heap[b]? := fun W ob b hb=>(MapKept.heap_alloc W ob).2 b hb;let o':ar:=((o.set w.heap.size (7,0)).set (w.heap.size+1) (8,0)).set (w.heap.size+1+1) (6,0)
 have hgrow:cw w.heap.size o o':=(((cw.refl _ _).set (Nat.le_refl _) _).set ae _).set ae _;have xJ:∀x t,o x=some t->o' x=some t:=fun x t hx=>by rw[hgrow x (zA x t hx)];exact hx
 have hlt:∀x t,o' x=some t->x<w.heap.size+3:=fun x t hx=>by
  grind [ar.e9]
 refine⟨w.heap.size+1+1,o',rfl,⟨w.heap.size,w.heap.size+1,List.replicate n eT,0,0,?_,List.length_replicate,?_⟩,hB,hgrow,ae⟩
 ·refine { lS:=?_,yF:=ar.qp _ _ _,r7:=?_,oq:=?_,head:=⟨150,?_⟩,row:=⟨172,?_⟩,tV:=⟨[],?_,?_⟩,each:=?_,hand:=?_,most:=?_,full:=Nat.zero_le _ }
  ·exact H.o.kept (S:=fun _=>False) (aH.aW hB) (fun _ _ _ _ h=>h) xJ (fun x t hx=>by have:=hlt x t hx;simp_all)
  ·grind [ar.e9,ar.qp]
  ·grind [ar.e9,ar.qp]
  ·grind [World.alloc,ptrTo]
  ·grind [heap_alloc_new]
  ·have m1:=bO.made (w.alloc (.cells (rowOf (List.replicate n eT)).toArray 172)) prog 170 eE (fun i:Nat=>.int .i64 (i:Int));grind [bO.kept]
  ·intro nm k i;constructor
   ·intro h;cases h
   ·rintro⟨fr,h1,h2,_⟩;rw[List.getElem?_map,List.getElem?_replicate]at h1;split at h1
    ·cases h1;cases h2
    grind
  ·intro p hp;rw[List.eq_of_mem_replicate hp];exact⟨ownsRow_nil _ _ _,fun b hb=>by grind [eT,Value.ownBlock]⟩
  ·grind
  grind
 ·rw[List.map_replicate];exact HG.o
end
section
open Go.RowKit Go.Maps Go.MapKept
structure au(S:Nat->Prop)(n pb db:Nat)(w:World)(o:ar)(d:Dsk)(w':World)(o':ar)(d':Dsk)(L':aD):Prop where
 aX:aQ w' pb db n o' d' L'
 turn:aH (fun x=>o.In cB x\/S x) w w'
 grow:cw w.heap.size o o'
 on:bK d d'
section
variable {S S':Nat->Prop} {n pb db:Nat} {w w' w'':World} {o o' gP:ar} {d d' gB:Dsk} {L L' xQ:aD}
theorem aQ.owned(h:aQ w pb db n o d L):∀x t,o x=some t->x<w.heap.size:=by
 obtain⟨_,_,_,_,_,h,_,_⟩:=h;exact h.owned
theorem au.refl(S:Nat->Prop)(h:aQ w pb db n o d L):au S n pb db w o d w o d L:=⟨h,aH.refl _ _,cw.refl _ _,bK.refl _⟩
theorem au.size(h:au S n pb db w o d w' o' d' L'):w.heap.size<=w'.heap.size:=h.turn.size
theorem au.trans(h:au S n pb db w o d w' o' d' L')(k:au S' n pb db w' o' d' w'' gP gB xQ)(hs:∀x,x<w.heap.size->S' x->S x):au S n pb db w o d w'' gP gB xQ:=
 ⟨k.aX,h.turn.trans k.turn (fun x hx e=>e.imp (fun⟨t,h1,h2⟩=>⟨t,by rw[<- h.grow x hx];exact h1,h2⟩) (hs x hx)),h.grow.trans k.grow h.size,h.on.trans k.on⟩
theorem au.mono(h:au S n pb db w o d w' o' d' L')(hs:∀x,x<w.heap.size->S x->S' x):au S' n pb db w o d w' o' d' L':=
 ⟨h.aX,h.turn.mono fun x hx e=>e.imp id (hs x hx),h.grow,h.on⟩
theorem au.below(h:au S n pb db w o d w' o' d' L')(hb:Below w'.heap.size w' w''):au S n pb db w o d w'' o' d' L':=
 ⟨h.aX.below hb,h.turn.bN hb,h.grow,h.on⟩
theorem au.aW(h:aQ w pb db n o d L)(hb:Below w.heap.size w w'):au S n pb db w o d w' o d L:=(au.refl S h).below hb
theorem au.alloc(h:au S n pb db w o d w' o' d' L')(ob:Obj):au S n pb db w o d (w'.alloc ob) o' d' L':=h.below (aj.alloc (Nat.le_refl _) ob)
theorem au.drew(h:au S n pb db w o d w' o' d' L'):au S n pb db w o d w'.drew o' d' L':=h.below aj.drew
theorem au.drewN(h:au S n pb db w o d w' o' d' L')(k:Nat):au S n pb db w o d (w'.drewN k) o' d' L':=h.below (below_drewN aj k)
theorem au.free(h:au S n pb db w o d w' o' d' L'){x:Nat}(hx:x<w.heap.size)(ho:o x=none):o' x=none:=by rw[h.grow x hx];exact ho
theorem au.block(h:au S n pb db w o d w' o' d' L'){x:Nat}(hx:x<w.heap.size)(ho:o x=none)(hs:¬S x):w'.heap[x]? = w.heap[x]? :=
 h.turn.block x hx (fun e=>e.elim (ar.dI ho) hs)
theorem au.not{x:Nat}(ho:o x=none)(hs:¬S x):¬(o.In cB x\/S x):=fun e=>e.elim (ar.dI ho) hs
theorem au.heap(h:au S n pb db w o d w' o' d' L'){x:Nat}{ob:Obj}(hb:w.heap[x]? = some ob)(ho:o x=none)(hs:¬S x):w'.heap[x]? = some ob:=by
 grind [block]
theorem au.cell(h:au S n pb db w o d w' o' d' L'){a:Addr}{v:Value}(hc:w.cell? a=some v)(ho:o a.block=none)(hs:¬S a.block):w'.cell? a=some v:=
 h.turn.cell hc (au.not ho hs)
theorem au.ownsRow(h:au S n pb db w o d w' o' d' L'){base:Nat}{e:TypeId}{size:Nat}{v:Value}{k:Nat}{xs:List Value}(hr:w.ownsRow base e size v k xs)(hs:∀b,v.ownBlock=some b->o b=none/\¬S b):w'.ownsRow base e size v k xs:=
 h.turn.ownsRow hr fun b hb=>au.not (hs b hb).1 (hs b hb).2
theorem au.rd(h:au S n pb db w o d w' o' d' L'){v:Value}{bs:List UInt8}(hr:Rd w v bs)(hs:∀b,v.ownBlock=some b->o b=none/\¬S b):Rd w' v bs:=
 h.turn.rd hr fun b hb=>au.not (hs b hb).1 (hs b hb).2
theorem aQ.turned(h:aQ w pb db n o d L){b:Nat}(ho:o b=none)(ht:aH (·=b) w w'):aQ w' pb db n o d L:=
 h.kept ht (fun x hx e=>by grind [ar.dI]) (fun _ _ h=>h) (fun x t hx=>Nat.lt_of_lt_of_le (h.owned x t hx) ht.size)
theorem au.setCell(h:au S n pb db w o d w' o' d' L')(a:Addr)(v:Value)(ho:o' a.block=none)(hs:S a.block\/w.heap.size<=a.block):au S n pb db w o d (w'.setCell a v) o' d' L':=
 ⟨h.aX.turned ho ((aH.refl (·=a.block) w').setCell a v (.inl rfl)),h.turn.setCell a v (hs.imp Or.inr id),h.grow,h.on⟩
theorem au.setCells(h:au S n pb db w o d w' o' d' L')(b off:Nat)(vs:List Value)(ho:o' b=none)(hs:S b\/w.heap.size<=b):au S n pb db w o d (w'.setCells b off vs) o' d' L':=
 ⟨h.aX.turned ho ((aH.refl (·=b) w').setCells b off vs (.inl rfl)),h.turn.setCells b off vs (hs.imp Or.inr id),h.grow,h.on⟩
theorem au.turned(h:au S n pb db w o d w' o' d' L'){b:Nat}(ho:o' b=none)(hs:S b\/w.heap.size<=b)(ht:aH (·=b) w' w''):au S n pb db w o d w'' o' d' L':=
 ⟨h.aX.turned ho ht,h.turn.trans ht (fun x hx e=>by grind),h.grow,h.on⟩
theorem au.grown(h:au S n pb db w o d w' o' d' L'){row:Option Nat}(hg:w'.grownBy w'' row)(hr:∀k,row=some k->o' k=none/\(S k\/w.heap.size<=k)):au S n pb db w o d w'' o' d' L':=by
 have ht:aH (fun x=>row=some x) w' w'':=⟨hg.os,hg.tape,hg.output,hg.size,fun x hx hn=>hg.block x hx (fun e=>hn e.symm)⟩;refine⟨h.aX.kept ht (fun x hx e=>ar.dI (hr x e).1 hx) (fun _ _ h=>h) (fun x t hx=>Nat.lt_of_lt_of_le (h.aX.owned x t hx) ht.size),h.turn.trans ht (fun x hx e=>?_),h.grow,h.on⟩;grind
theorem aQ.fresh(h:aQ w pb db n o d L){x:Nat}(hx:w.heap.size<=x):o x=none:=eP h.owned hx
theorem aQ.congr(h:aQ w pb db n o d L)(hk:(L'.map (·.1)).Nodup)(he:∀x,aB L' x=aB L x):aQ w pb db n o d L':=by
 obtain⟨fb,mb,l,hand,mf,h,hl,g⟩:=h;exact⟨fb,mb,l,hand,mf,h,hl,{ keys:=hk,fH:=g.fH,names:=fun x=>by grind [Sound.names],ok:=fun x=>by grind [Sound.ok],dJ:=fun x ps fl=>by grind [Sound.dJ],lQ:=fun x f ls=>by grind [Sound.lQ],frames:=fun fr dS hf=>by grind [Sound.frames],blank:=g.blank,once:=g.once,dt:=fun x s=>by grind [Sound.dt] }⟩
theorem aQ.keys(h:aQ w pb db n o d L):(L.map (·.1)).Nodup:=by
 obtain⟨_,_,_,_,_,_,_,g⟩:=h;exact g.keys
theorem aQ.ok(h:aQ w pb db n o d L){x:Name}{f:gT}(hx:aB L x=some f):bM x=true:=by
 obtain⟨_,_,_,_,_,_,_,g⟩:=h;grind [Sound.ok]
theorem au.congr(h:au S n pb db w o d w' o' d' L')(hk:(xQ.map (·.1)).Nodup)(he:∀x,aB xQ x=aB L' x):au S n pb db w o d w' o' d' xQ:=⟨h.aX.congr hk he,h.turn,h.grow,h.on⟩
theorem Aa(hk:(L.map (·.1)).Nodup)(BX:(L'.map (·.1)).Nodup)(he:∀x,aB L' x=aB L x):need L'=need L:=by
 unfold need;rw[tS BX,tS hk];have hp:(L'.map (·.1)).Perm (L.map (·.1)):=tR BX hk fun x=>by grind [mem_keys]
 grind
end
theorem kI.calm{d d':Dsk}{L:aD}{c:Nat}(h:kI d d' L c)(ha:d.cM=0)(hd:d.dead=false)(yD:bK d d'):c=5/\d.bD<need L:=by
 rcases h with h |⟨_,h⟩
 ·exact h
 grind [bK.calm]
end
end Go.Proofs.YthkkgdpomhhjjaaGreatDoor
