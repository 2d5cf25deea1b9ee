/-
  Joined.
-/
import Derived.Test.YthkkgdpomhhjjaaGreatDoorK03
import Derived.Shelf.SlSortCmp.NoneTotal
set_option maxRecDepth 100000
set_option maxHeartbeats 4000000
namespace Go.Proofs.YthkkgdpomhhjjaaGreatDoor
open Go.Proofs.Tryz
section
open Go.RowKit Go.Maps Go.MapKept
open Go.ChangeMaps (setBlock heap_setBlock_same heap_setBlock_other)
theorem G7:(prog.info? 3).map (fun i=>(i.zero,i.size,i.bytes))=some (some (.int .i64 0),1,8):=by kernel_rfl
def told(fs:List bZ)(name:Name)(lo hi:Nat)(k:Nat):List Nat:=(List.range k).filter (fun i=>iK name lo hi (fs.getD i bZ.none))
theorem Oe{fs:List bZ}{name:Name}{lo hi k:Nat}{f:bZ}(h:fs[k]? = some f):told fs name lo hi (k+1)=if iK name lo hi f=true then told fs name lo hi k++[k] else told fs name lo hi k:=by
 unfold told;rw[List.range_succ,List.filter_append,List.filter_cons,pF h];split
 ·rfl
 ·simp
theorem Vy{fs:List bZ}{name:Name}{lo hi k:Nat}:∀i∈told fs name lo hi k,i<k:=fun i hi=>by
 unfold told at hi;exact List.mem_range.1 (List.mem_filter.1 hi).1
theorem yl(fs:List bZ)(name:Name)(lo hi k:Nat):(told fs name lo hi k).length<=k:=by
 unfold told;have:=List.length_filter_le (fun i=>iK name lo hi (fs.getD i bZ.none)) (List.range k);simpa using this
theorem Du(fs:List bZ)(name:Name)(lo hi:Nat){ls:List Nat}(hp:ls.Perm (told fs name lo hi fs.length))(hr:ls.Pairwise (fun a b=>yf fs a<=yf fs b)):Told fs name lo hi ls:=by
 refine⟨fun i=>?_,hr,hp.nodup_iff.2 ?_⟩
 ·rw[hp.mem_iff];unfold told;rw[List.mem_filter,List.mem_range];constructor
  ·rintro⟨h1,h2⟩;refine⟨fs[i],List.getElem?_eq_getElem h1,?_⟩;rw[pF (List.getElem?_eq_getElem h1)]at h2;exact h2
  ·rintro⟨fr,h1,h2⟩;exact⟨aN h1,by rw[pF h1];exact h2⟩
 ·unfold told;exact List.nodup_range.filter _
def mL(i:Nat):Value:=.int .i64 (i:Int)
theorem EJ{W:World}{bx pb fb n i j ki kj:Nat}(h0:W.cell? ⟨bx,0,none⟩=some (ptrTo pb))(h1:W.cell? ⟨pb,1,none⟩=some (.slice (some ⟨fb,0,none⟩) n n))(hi:i<n)(hj:j<n)(h2:W.cell? ⟨fb,i*7+2,none⟩=some (.int .i64 (ki:Int)))(h3:W.cell? ⟨fb,j*7+2,none⟩=some (.int .i64 (kj:Int)))(MG:ki<65536)(hkj:kj<65536) :
 Calls prog 184 #[.int .i64 (i:Int),.int .i64 (j:Int),.pointer (some ⟨bx,0,none⟩)] W fun e w'=>e=.returned (.int .i64 ((ki:Int)-(kj:Int)))/\∃q,w'=W.drewN q:=by
 unfold ptrTo at h0;have hw:IntKind.i64.wrap ((ki:Int)-(kj:Int))=(ki:Int)-(kj:Int):=aw af af;go_enter func184,ntmps184;go_wp2;go_quiet (fail)
 go_wp2;go_ret;exact⟨rfl,_,rfl⟩
theorem EK{fs:List bZ}{name:Name}{lo hi:Nat}{wr:World}{base g cap n hand bx pb fb:Nat}{kOfs:Nat->Nat}(ho:wr.ownsRow base 3 1 (.slice (some ⟨g,0,none⟩) (told fs name lo hi n).length cap) (told fs name lo hi n).length ((told fs name lo hi n).map mL))(hh:hand<n)(hlt:∀i∈told fs name lo hi n,i<n)(hle:(told fs name lo hi n).length<=n)(hn:n<=4096)(h0:wr.cell? ⟨bx,0,none⟩=some (ptrTo pb))(h1:wr.cell? ⟨pb,1,none⟩=some (.slice (some ⟨fb,0,none⟩) n n))(hk:∀i,i<n->wr.cell? ⟨fb,i*7+2,none⟩=some (.int .i64 ((kOfs i:Nat):Int))/\kOfs i<65536)(g1:bx≠g)(g2:pb≠g)(g3:fb≠g) :
 Calls prog 183 #[.slice (some ⟨g,0,none⟩) (told fs name lo hi n).length cap,.func (.func 184) #[] #[.pointer (some ⟨bx,0,none⟩)]] wr fun e w'=>∃ls:List Nat,e=.returned (.tuple #[])/\ls.Perm (told fs name lo hi n) /\
  ls.Pairwise (fun a b=>kOfs a<=kOfs b)/\w'.ownsRow base 3 1 (.slice (some ⟨g,0,none⟩) (told fs name lo hi n).length cap) (told fs name lo hi n).length (ls.map mL)/\aG (·=g) wr w':=by
 generalize told fs name lo hi n=ts at *;letI:Inhabited (Fin n):=⟨⟨hand,hh⟩⟩
 let ss:List (Fin n):=ts.attach.map (fun x=>⟨x.1,hlt x.1 x.2⟩)
 have adt:ss.map (fun x=>x.1)=ts:=by
  simp only[ss,List.map_map,Function.comp_def];exact List.attach_map_subtype_val ts
 have aim:ss.map (fun x:Fin n=>mL x.1)=ts.map mL:=by
  have:=congrArg (List.map mL) adt;rw[List.map_map]at this;exact this
 have ain:ss.length=ts.length:=by simp[ss]
 have ZC:∀x y:Fin n,ltOf (fun x y:Fin n=>((kOfs x.1:Nat):Int)-((kOfs y.1:Nat):Int)) x y=decide (kOfs x.1<kOfs y.1):=fun x y=>by
  show decide (((kOfs x.1:Nat):Int)-((kOfs y.1:Nat):Int)<0)=_;by_cases h:kOfs x.1<kOfs y.1
  ·rw[decide_eq_true h,decide_eq_true af]
  ·rw[decide_eq_false h,decide_eq_false af]
 have yU:CmpReads prog 184 #[.pointer (some ⟨bx,0,none⟩)] (fun x:Fin n=>mL x.1) (fun x y=>((kOfs x.1:Nat):Int)-((kOfs y.1:Nat):Int)) g 0 ts.length wr:=fun m os dk _ x y=>by
  have ht:aG (·=g) wr (sortWorld (fun x:Fin n=>mL x.1) wr g 0 m dk os):=yj _ dk;exact EJ (ht.cell h0 g1) (ht.cell h1 g2) x.2 y.2 (ht.cell (hk x.1 x.2).1 g3) (ht.cell (hk y.1 y.2).1 g3) (hk x.1 x.2).2 (hk y.1 y.2).2
 refine(EI (fun x:Fin n=>mL x.1) (fun _=>rfl) (fun x y=>((kOfs x.1:Nat):Int)-((kOfs y.1:Nat):Int)) ⟨fun x=>by rw[ZC];simp,fun x y z h1 h2=>by rw[ZC]at *;simp at *;omega,fun x y z h1 h2=>by rw[ZC]at *;simp at *;omega⟩
  184 #[.pointer (some ⟨bx,0,none⟩)] (ss:=ss) ain af (by rw[aim];exact ho) (enters_of func184 ah rfl) yU.lays).mono ?_
 rintro e w'⟨rfl,tl,hp,hr,jM,ht⟩;refine⟨tl.map (fun x=>x.1),rfl,?_,?_,?_,ht⟩
 ·rw[<- adt];exact hp.map _
 ·rw[List.pairwise_map];exact hr.imp (fun{a b}h=>by
   have h':¬(((kOfs b.1:Nat):Int)-((kOfs a.1:Nat):Int)<0):=h;show kOfs a.1<=kOfs b.1;omega)
 ·rw[List.map_map];exact jM
def Og(w:World)(fs:List bZ)(name:Name)(lo hi:Nat)(e:Ending)(w':World):Prop:=
 ∃v ls,e=.returned v/\w'.ownsRow w.heap.size 3 1 v ls.length (ls.map mL)/\Told fs name lo hi ls/\Below w.heap.size w w'
theorem Dv{w:World}{pb db fb mb:Nat}{o:au}{l:List iM}{hand mf:Nat}{d:Dsk}(h:bz w pb db fb mb o l hand mf d)(hks:∀p∈l,p.2.k<65536)(name:Name)(lo hi:Nat) :
 Calls prog 121 #[ptrTo pb,.string name,.int .i64 (lo:Int),.int .i64 (hi:Int)] w (Og w (l.map (·.2)) name lo hi):=by
 obtain⟨i0,tK,hz0,hz1,hz2⟩:=info_parts G7;have H:=ae h;have wG:=ae h.row;have hn:=h.most;have HS:=ae h.shaped;have HKS:=ae hks;have Od:=h.head.lt;have aii:=h.row.lt;have G8:=h.hand;obtain⟨⟨-,hc1,-⟩,-⟩:=h.head.cells;clear h hks;unfold ptrTo;generalize hN:l.length=n at *;have HN:=ae hN;clear hN;go_enter func121,ntmps121;have hb1:Below w.heap.size w (w.alloc (.cells #[.pointer (some ⟨pb,0,none⟩)] 72)):=ak.alloc (Nat.le_refl _) _;have hx:=heap_alloc_new w (.cells #[.pointer (some ⟨pb,0,none⟩)] 72);have hsz:w.heap.size<(w.alloc (.cells #[.pointer (some ⟨pb,0,none⟩)] 72)).heap.size:=by simp
 have mO:(w.alloc (.cells #[.pointer (some ⟨pb,0,none⟩)] 72)).cell? ⟨pb,1,none⟩=some (.slice (some ⟨fb,0,none⟩) n n):=by rw[hb1.cell (p:=⟨pb,1,none⟩) Od];exact hc1
 have nN:=ae (wG.out.below hb1);have cO:=ae hb1;have HX:=ae hx;clear hb1 hx hc1;go_wp2_with fail;generalize w.alloc (.cells #[.pointer (some ⟨pb,0,none⟩)] 72)=W1 at *;go_loopw [9,17] (fun v i wr=>∃k:Nat,k<=n/\i=.int .i64 (k:Int)/\wr.ownsRow (w.heap.size+1) 3 1 v (told (l.map (·.2)) name lo hi k).length ((told (l.map (·.2)) name lo hi k).map mL)/\Below (w.heap.size+1) W1 wr) (fun _ i _=>n-(intOf i).toNat)
 case atStart=>exact⟨0,Nat.zero_le _,rfl,ownsRow_nil _ _ _,Below.refl _ _⟩
 case round=>
  obtain⟨k,hk,rfl,ho,hb⟩:=hrel;by_cases hlt:k<n
  ·obtain⟨a,c,f,hi'⟩:=HS.out.get HN.out hlt;have hrow:dF wr fb l:=nN.out.kept (S:=fun x=>w.heap.size+1<=x) ⟨hb.os,hb.tape,hb.output,hb.size,fun x _ hx=>hb.block x af⟩ af;obtain⟨h0,h1,h2,h3,h4,h5,h6⟩:=hrow.seven hi';have Vw:wr.cell? ⟨pb,1,none⟩=some (.slice (some ⟨fb,0,none⟩) n n):=by rw[hb.cell (p:=⟨pb,1,none⟩) (show pb<w.heap.size+1 by omega)];exact mO
   have Vx:f.k<65536:=HKS.out _ (List.mem_of_getElem? hi');have HST:=ae (Oe (name:=name) (lo:=lo) (hi:=hi) (cu hi'));have zo:=yl (l.map (·.2)) name lo hi k;have HB:=ae hb;have HO:=ae ho;have hbs:w.heap.size+1<=wr.heap.size:=Nat.le_trans hsz hb.size;clear hi' hb hrow ho;obtain⟨t,ht⟩:∃t,t=told (l.map (·.2)) name lo hi k:=⟨_,rfl⟩;rw[<- ht]at HST zo HO;clear ht;obtain⟨full,nm,fk,bs,bU,used⟩:=f;dsimp only at *;cases full with
   |false=>
     go_wp2;go_roundw
     case rel=>
      refine⟨k+1,af,by go_num,?_,HB.out.alloc hbs _⟩;have e:=HST.out;rw[if_neg (by simp[iK])]at e;rw[e];exact HO.out.alloc _
     case measure=>simp[intOf];omega
   |true=>
     cases bU with
     |false=>
       go_wp2;go_roundw
       case rel=>
        refine⟨k+1,af,by go_num,?_,HB.out.alloc hbs _⟩;have e:=HST.out;rw[if_neg (by simp[iK])]at e;rw[e];exact HO.out.alloc _
       case measure=>simp[intOf];omega
     |true=>
       by_cases vJ:nm=name
       ·have XU:(nm.toList == name.toList)=true:=by rw[vJ];exact beq_self_eq_true _
        have G5:=ae vJ;clear vJ;by_cases JS:lo<=fk
        ·by_cases hl2:fk<hi
         ·have aio:((fk:Int) >= (lo:Int)):=by omega
          have aip:((fk:Int)<(hi:Int)):=by omega
          go_wp2_with (at_builtin;refine wpList_append_own _ rfl _ _ 214 rfl (w.heap.size+1) 3 i0 (.int .i64 0) 1 8 Tryz.underlying214 tK hz0 hz1 hz2 rfl ag _ _ _ rfl ((HO.out.alloc _).alloc _) ⟨wr.heap.size+1,0,none⟩ 1 1 [mL k] rfl rfl ?c1 ?c2 ?c3 ?c4 ?c5 ?_);case c1=>
           intro j u hj;match j,hj with
           |0,hj=>
             cases hj;simp[bI,mL]
          case c2=>simp[mL,Value.oneCell']
          case c3=>unfold maxLen;omega
          case c4=>omega
          case c5=>simp;omega
          intro v' w2 hown hgr _;have zt:Hid (Below (w.heap.size+1) W1 w2):=ae (((HB.out.alloc hbs _).alloc (by simp;omega) _).grown hgr (by simp;omega) (aI HO.out));have hO2:Hid (w2.ownsRow (w.heap.size+1) 3 1 v' (t++[k]).length ((t++[k]).map mL)):=ae (by simpa using hown);clear hown hgr;go_wp2;go_roundw
          case rel=>
           refine⟨k+1,af,by go_num,?_,zt.out⟩;have e:=HST.out;rw[if_pos (by simp[iK,G5.out];omega)]at e;rw[e];exact hO2.out
          case measure=>simp[intOf];omega
         ·have aip:¬((fk:Int)<(hi:Int)):=by omega
          go_wp2;go_roundw
          case rel=>
           refine⟨k+1,af,by go_num,?_,HB.out.alloc hbs _⟩;have e:=HST.out;rw[if_neg (by simp[iK];omega)]at e;rw[e];exact HO.out.alloc _
          case measure=>simp[intOf];omega
        ·have aio:¬((fk:Int) >= (lo:Int)):=by omega
         go_wp2;go_roundw
         case rel=>
          refine⟨k+1,af,by go_num,?_,HB.out.alloc hbs _⟩;have e:=HST.out;rw[if_neg (by simp[iK];omega)]at e;rw[e];exact HO.out.alloc _
         case measure=>simp[intOf];omega
       ·have XU:(nm.toList == name.toList)=false:=qJ vJ;have G5:=ae vJ;clear vJ;go_wp2;go_roundw
        case rel=>
         refine⟨k+1,af,by go_num,?_,HB.out.alloc hbs _⟩;have e:=HST.out;rw[if_neg (by simp[iK,G5.out])]at e;rw[e];exact HO.out.alloc _
        case measure=>simp[intOf];omega
  ·obtain rfl:k=n:=by omega
   have HB:=ae hb;obtain⟨a9,c9,rfl⟩:=aA ho;have HO:=ae ho;have Vw:wr.cell? ⟨pb,1,none⟩=some (.slice (some ⟨fb,0,none⟩) k k):=by rw[hb.cell (p:=⟨pb,1,none⟩) (show pb<w.heap.size+1 by omega)];exact mO
   have vG:=ae Vw;have HRW:Hid (dF wr fb l):=ae (nN.out.kept (S:=fun x=>w.heap.size+1<=x) ⟨hb.os,hb.tape,hb.output,hb.size,fun x _ hx=>hb.block x af⟩ af);have mM:Hid (wr.cell? ⟨w.heap.size,0,none⟩=some (ptrTo pb)):=ae (by
    rw[hb.cell (p:=⟨w.heap.size,0,none⟩) (show w.heap.size<w.heap.size+1 by omega),ar HX.out];rfl)
   have Rl:Hid (Below w.heap.size w wr):=ae (cO.out.trans (hb.mono (Nat.le_succ _)));have hlen:(l.map (·.2)).length=k:=by rw[List.length_map,HN.out]
   have HLEN:=ae hlen;clear hb ho Vw hlen mO;rcases Nat.eq_zero_or_pos (told (l.map (·.2)) name lo hi k).length with hz | Zq
   ·have hnil:told (l.map (·.2)) name lo hi k=[]:=List.eq_nil_of_length_eq_zero hz;have adu:=ae hnil;rw[hz]at HO ⊢;clear hz hnil;have aM:=ae (AnyF.slices_SortFunc_none (P:=prog) (ρ:=Tryz.uq) { Tryz.G6 with } a9 c9 (.func (.func 184) #[] #[.pointer (some ⟨w.heap.size,0,none⟩)]) wr);go_wp2_with fail;refine aM.out.mono ?_;rintro e w'⟨rfl,rfl⟩;go_wp2;go_ret;refine⟨_,[],rfl,?_,Du _ _ _ _ (by rw[HLEN.out,adu.out]) List.Pairwise.nil,Rl.out⟩;have:=HO.out;rw[adu.out]at this;exact aU this (Nat.le_succ _)
   ·have KA:∃g,a9=some ⟨g,0,none⟩/\w.heap.size+1<=g:=by
     obtain⟨_,⟨h1,h2⟩|⟨g,cap,cur,h1,h2,_⟩⟩:=HO.out
     ·omega
     ·cases h1;exact⟨g,rfl,h2⟩
    obtain⟨g,rfl,hg⟩:=KA;have aM:=ae (EK (name:=name) (lo:=lo) (hi:=hi) (bx:=w.heap.size) (fs:=l.map (·.2)) (kOfs:=fun i=>yf (l.map (·.2)) i) HO.out G8 (fun i hi=>Vy i hi) (yl _ _ _ _ _) hn mM.out vG.out (fun i hi=>by
     obtain⟨a,c,f,hi'⟩:=HS.out.get HN.out hi;refine⟨?_,?_⟩
     ·rw[(HRW.out.seven hi').2.2.1];unfold yf;rw[pF (cu hi')]
     ·unfold yf;rw[pF (cu hi')];exact HKS.out _ (List.mem_of_getElem? hi')) af af af)
    go_wp2_with fail;refine aM.out.mono ?_;rintro e w'⟨ls,rfl,hp,hr,jM,ht⟩;have HP:=ae hp;have HR:=ae hr;have HO':=ae jM;have HT:=ae ht;have Qe:ls.length=(told (l.map (·.2)) name lo hi k).length:=hp.length_eq;have HLL:=ae Qe;clear hp hr jM ht Qe;go_wp2;go_ret;refine⟨_,ls,rfl,?_,Du _ _ _ _ (by rw[HLEN.out];exact HP.out) HR.out,Rl.out.trans (HT.out.below (by have:=Rl.out.size;omega) (fun x e=>by omega))⟩;rw[HLL.out];exact aU HO'.out (Nat.le_succ _)
def Fit(l:List iM):Prop:=∀p∈l,p.2.bytes.length<=240/\p.2.k<65536
theorem dF.set'{w:World}{fb:Nat}{l:List iM}(h:dF w fb l){i:Nat}{p q:iM}(hi:l[i]? = some p){j:Nat}(hj:j<7){v:Value}(hv:(bJ p.1 p.2).set j v=bJ q.1 q.2):dF (w.setCell ⟨fb,i*7+j,none⟩ v) fb (l.set i q):=by
 rw[Nat.mul_comm i 7];exact h.set hi hj hv
theorem bz.mark{w:World}{pb db fb mb:Nat}{o:au}{l:List iM}{hand mf:Nat}{d:Dsk}(h:bz w pb db fb mb o l hand mf d){i:Nat}{v:Value}{f x:bZ}(hi:l[i]? = some (v,f)){j:Nat}(hj:j<7){u:Value}(hv:(bJ v f).set j u=bJ v x)(h1:x.full=f.full)(h2:x.name=f.name)(h3:x.k=f.k)(h4:x.bytes=f.bytes):bz (w.setCell ⟨fb,i*7+j,none⟩ u) pb db fb mb o (l.set i (v,x)) hand mf d:=by
 have ht:aG (fun y=>y=fb\/y=mb) w (w.setCell ⟨fb,i*7+j,none⟩ u):=(aG.refl _ _).setCell _ _ (.inl (.inl rfl));refine h.uo (h.row.set' hi hj hv) ht (fun _ _ h=>h) (fun y t hy=>by have:=h.owned y t hy;simpa using this) ?_ ?_
 ·obtain⟨m,m1,m2⟩:=h.um;exact⟨m,m1.turn ((aG.refl (·=fb) w).setCell _ _ (.inl rfl)) (au.ne h.oK h.sj ag),m2.same (cu hi) h1 h2 h3⟩
 ·have he:=h.each _ (List.mem_of_getElem? hi);dsimp only at he ⊢;rw[h4];exact⟨((aG.refl (·=fb) w).setCell ⟨fb,i*7+j,none⟩ u (.inl rfl)).ownsRow he.1 (fun b hb=>au.ne (he.2 b hb) h.sj ag),he.2⟩
theorem bz.mV{w:World}{pb db fb mb:Nat}{o:au}{l:List iM}{hand mf:Nat}{d:Dsk}(h:bz w pb db fb mb o l hand mf d):o.In cM fb:=⟨_,h.sj,show 7<10 by decide⟩
def Rm(w:World)(pb db fb mb:Nat)(o:au)(l:List iM)(hand mf:Nat)(r:(Dsk×List bZ)×Nat)(e:Ending)(w':World):Prop:=
 ∃o' l',e=.returned (.int .i64 (r.2:Int))/\bz w' pb db fb mb o' l' hand mf r.1.1/\l'.map (·.2)=r.1.2/\l'.length=l.length/\Fit l'/\aG (o.In cM) w w'/\cF w.heap.size o o'
theorem Fit.set{l:List iM}(h:Fit l){i:Nat}{q:iM}(hq:q.2.bytes.length<=240/\q.2.k<65536):Fit (l.set i q):=fun p hp=>by
 rcases List.mem_or_eq_of_mem_set hp with hp | rfl
 ·exact h p hp
 ·exact hq
theorem MW(HW:aP){w:World}{pb db fb mb pf:Nat}{o:au}{l:List iM}{hand mf:Nat}{d:Dsk}{name:Name}(h:bz w pb db fb mb o l hand mf d)(iA:Fit l)(hs:name.size<=1000)(hp:nM w pf db name)(Cj:o pf=none){v:Value}{base:Nat}{ls:List Nat}(hv:w.ownsRow base 3 1 v ls.length (ls.map mL))(mG:∀b,v.ownBlock=some b->o b=none)(UO:∀i∈ls,i<l.length)(Qe:ls.length<=100000) :
 Calls prog 120 #[ptrTo pb,ptrTo pf,v] w (Rm w pb db fb mb o l hand mf (lY name ls d (l.map (·.2)))):=by
 have H:=ae h;have HF:=ae iA;have HP:=ae hp;have MX:=ae Cj;have HV:=ae hv;have wN:=ae mG;have HLS:=ae UO;obtain⟨va,vc,rfl⟩:=aA hv;have apb:=hp.lt;have hn:=h.most;clear h iA hp Cj hv mG UO;unfold ptrTo;generalize hN:ls.length=n at *;have HN:=ae hN;clear hN;go_enter func120,ntmps120;go_wp2;go_loopw [12] (fun i wr=>∃(j:Nat)(d':Dsk)(l':List iM)(o':au),j<=n/\i=.int .i64 (j:Int)/\bz wr pb db fb mb o' l' hand mf d'/\lY name ls d (l.map (·.2))=lY name (ls.drop j) d' (l'.map (·.2))/\l'.length=l.length/\Fit l'/\aG (o.In cM) w wr/\cF w.heap.size o o') (fun i _=>n-(intOf i).toNat)
 case atStart=>exact⟨0,d,l,o,Nat.zero_le _,rfl,H.out,rfl,rfl,HF.out,aG.refl _ _,cF.refl _ _⟩
 case round=>
  obtain⟨j,d',l',o',hj,rfl,Ga,hput,hlen,G9,ht,hg⟩:=hrel;by_cases hlt:j<n
  ·have lQ:j<ls.length:=by rw[HN.out];exact hlt
   have hx:∃x,ls[j]? = some x:=⟨_,List.getElem?_eq_getElem lQ⟩;obtain⟨x,hx⟩:=hx;have El:x<l'.length:=by rw[hlen];exact HLS.out x (List.mem_of_getElem? hx)
   obtain⟨a,c,f,hi⟩:=Ga.shaped.get rfl El;have Ha:=G9 _ (List.mem_of_getElem? hi);obtain⟨ZE,Vx⟩:=Ha;dsimp only at ZE Vx;have hrow:=ht.ownsRow HV.out (fun b hb=>au.dE (wN.out b hb));have XV:∃g,va=some ⟨g,0,none⟩/\wr.cell? ⟨g,j,none⟩=some (mL x):=by
    obtain⟨_,⟨h1,h2⟩|⟨g,cap,cur,h1,h2,h3,h4,h5,h6,h7⟩⟩:=hrow
    ·omega
    ·cases h1;refine⟨g,rfl,?_⟩;rw[ar h3];have e:(cur.toList.take (n*1))[j]? = (ls.map mL)[j]? := by rw[h7]
     rw[List.getElem?_take_of_lt af,List.getElem?_map,hx]at e;simpa using e
   obtain⟨g,rfl,hcx⟩:=XV;unfold mL at hcx;have ur:ls.drop j=x::ls.drop (j+1):=by
    rw[List.drop_eq_getElem_cons lQ];congr 1;rw[List.getElem?_eq_getElem lQ]at hx;exact Option.some.inj hx
   rw[ur,lY,pF (cu hi)]at hput;dsimp only at hput;have nO:=ae hput;have HP':=ae Ga;have HI:=ae hi;have HLEN:=ae hlen;have yV:=ae G9;have HT:=ae ht;have HG:=ae hg;have Ko:Hid (nM wr pf db name):=ae (HP.out.kept ht (au.dE MX.out));have aM:Hid (∀W,Below wr.heap.size wr W->Calls prog 182 #[ptrTo pf,.int .i64 (f.k:Int),.slice a f.bytes.length c] W fun e w'=>e=.returned (.int .i64 ((dA d' name f.k f.bytes).2:Int))/\cy W db o' (dA d' name f.k f.bytes).1 w'):=ae (fun W hW=>
    G2 HW (Ga.mK.below hW) (Ko.out.below hW) hs f.k Vx _ f.bytes ZE (fH (aW (Ga.each _ (List.mem_of_getElem? hi)).1 hW)))
   have hxn:x<l.length:=by rw[<- hlen];exact El
   have XW:Hid (∀W,Below wr.heap.size wr W->(W.cell? ⟨pb,1,none⟩=some (.slice (some ⟨fb,0,none⟩) l.length l.length)/\W.cell? ⟨fb,x*7+2,none⟩=some (.int .i64 (f.k:Int))/\W.cell? ⟨fb,x*7+3,none⟩=some (.slice a f.bytes.length c))):=ae (fun W hW=>by
    have h1:=Ga.below hW;obtain⟨⟨-,g1,-⟩,-⟩:=h1.head.cells;obtain⟨-,-,g2,g3,-⟩:=h1.row.seven hi;rw[hlen]at g1;exact⟨g1,g2,g3⟩)
   clear hput Ga hi hlen G9 ht hg hx El hrow ur;unfold ptrTo at aM;generalize (dA d' name f.k f.bytes).1=d2 at *;generalize (dA d' name f.k f.bytes).2=cc at *;by_cases hc0:cc=0
   ·subst hc0;have Hb:lY name ls d (l.map (·.2))=lY name (ls.drop (j+1)) d2 ((l'.map (·.2)).set x { f with bU:=false }):=by rw[nO.out,if_neg ai]
    have Rn:=ae Hb;clear Hb nO;go_wp2;refine cE (Below wr.heap.size wr) 18 rfl ah ah (ak.drew) ?_;simp only[List.take_succ_cons,List.take_zero];iterate 4 (refine qz ?_)
    refine qz ?_ (fun w' hw'=>by have hc:=(XW.out w' hw').1;go_simp<;>rfl);iterate 4 (refine qz ?_)
    refine qz ?_ (fun w' hw'=>by have hc:=(XW.out w' hw').2.1;go_simp<;>rfl);iterate 3 (refine qz ?_)
    refine qz ?_ (fun w' hw'=>by have hc:=(XW.out w' hw').1;go_simp<;>rfl);iterate 3 (refine qz ?_)
    refine qz ?_ (fun w' hw'=>by have hc:=(XW.out w' hw').2.2;go_simp<;>rfl);refine wpQuiet_nil ?_;intro w3 hw3;refine⟨_,_,rfl,(by go_simp<;>exact⟨rfl,rfl⟩),?_⟩;refine(aM.out _ hw3).mono ?_;rintro e w4⟨rfl,po⟩;obtain⟨o2,Kw,oJ,hg2⟩:=cy.after hw3 po;have p8:=ae (HP'.out.Ac Kw oJ hg2);have mP:=ae (HT.out.owned HG.out oJ.aY);have uu:=ae (HG.out.trans hg2 HT.out.size);clear Kw oJ hg2 po hw3;obtain⟨⟨-,g1,-⟩,-⟩:=p8.out.head.cells;rw[HLEN.out]at g1;obtain⟨-,-,-,-,-,g5,-⟩:=p8.out.row.seven HI.out;have gz:=p8.out.row.free (x*7+5);refine⟨_,rfl,?_⟩;go_simp;refine qz ?_;refine wpQuiet_nil ?_;go_wp2;go_roundw
    case rel=>
     have hm:=p8.out.mark (j:=5) (u:=.bool false) (x:={ f with bU:=false }) HI.out ag rfl rfl rfl rfl rfl;refine⟨j+1,d2,_,o2,af,by go_num,hm,by rw[Rn.out,map_set],by rw[List.length_set];exact HLEN.out,yV.out.set ⟨ZE,Vx⟩,?_,uu.out⟩;exact mP.out.trans ((aG.refl (o2.In cM) w4).setCell ⟨fb,x*7+5,none⟩ (.bool false) (.inl p8.out.mV)) (fun y hy ⟨t,mJ,oJ⟩=>⟨t,by rw[<- uu.out y hy];exact mJ,oJ⟩)
    case measure=>simp[intOf];omega
   ·have Hb:lY name ls d (l.map (·.2))=((d2,l'.map (·.2)),cc):=by rw[nO.out,if_pos hc0]
    have Rn:=ae Hb;have apd:¬(cc:Int)=0:=by omega
    clear Hb nO hc0;go_wp2;refine cE (Below wr.heap.size wr) 18 rfl ah ah (ak.drew) ?_;simp only[List.take_succ_cons,List.take_zero];iterate 4 (refine qz ?_)
    refine qz ?_ (fun w' hw'=>by have hc:=(XW.out w' hw').1;go_simp<;>rfl);iterate 4 (refine qz ?_)
    refine qz ?_ (fun w' hw'=>by have hc:=(XW.out w' hw').2.1;go_simp<;>rfl);iterate 3 (refine qz ?_)
    refine qz ?_ (fun w' hw'=>by have hc:=(XW.out w' hw').1;go_simp<;>rfl);iterate 3 (refine qz ?_)
    refine qz ?_ (fun w' hw'=>by have hc:=(XW.out w' hw').2.2;go_simp<;>rfl);refine wpQuiet_nil ?_;intro w3 hw3;refine⟨_,_,rfl,(by go_simp<;>exact⟨rfl,rfl⟩),?_⟩;refine(aM.out _ hw3).mono ?_;rintro e w4⟨rfl,po⟩;obtain⟨o2,Kw,oJ,hg2⟩:=cy.after hw3 po;have p8:=ae (HP'.out.Ac Kw oJ hg2);have mP:=ae (HT.out.owned HG.out oJ.aY);have uu:=ae (HG.out.trans hg2 HT.out.size);clear Kw oJ hg2 po hw3;refine⟨_,rfl,?_⟩;go_simp;refine qz ?_;refine wpQuiet_nil ?_;go_wp2;go_ret;rw[Rn.out];exact⟨o2,l',rfl,p8.out,rfl,HLEN.out,yV.out,mP.out,uu.out⟩
  ·obtain rfl:j=n:=by omega
   have ur:ls.drop j=[]:=List.drop_eq_nil_of_le (by rw[HN.out];exact Nat.le_refl _);rw[ur,lY]at hput;have nO:=ae hput;have HP':=ae Ga;have HLEN:=ae hlen;have yV:=ae G9;have HT:=ae ht;have HG:=ae hg;clear hput Ga hlen G9 ht hg ur;go_wp2;go_ret;rw[nO.out];exact⟨o',l',rfl,HP'.out,rfl,HLEN.out,yV.out,HT.out,HG.out⟩
theorem Sound.fit{d:Dsk}{fs:List bZ}{L:aH}(h:Sound d fs L):∀fr∈fs,fr.bytes.length<=240/\fr.k<65536:=fun fr dQ=>by
 cases hf:fr.full with
 |false=>rw[h.blank fr dQ hf];exact⟨by simp[bZ.none],by simp[bZ.none]⟩
 |true=>
   obtain⟨ps,fl,hL,hk⟩:=h.frames fr dQ hf;obtain⟨f,dp,q⟩:=h.dI _ _ _ hL;have:=aN hk;have:=q.most;exact⟨q.short _ (List.mem_of_getElem? hk),af⟩
theorem Sound.wR{d:Dsk}{l:List iM}{L:aH}(h:Sound d (l.map (·.2)) L):Fit l:=fun p hp=>h.fit p.2 (List.mem_map.2 ⟨p,hp,rfl⟩)
theorem Sound.Ag{d:Dsk}{fs:List bZ}{L:aH}(h:Sound d fs L){n:Name}{ps:List Pg}{fl:Bool}(hL:aB L n=some (.inl (ps,fl))) :
 ∃f dp,dz d fs n ps fl f dp/\(d.dead=false->d.sizeOf n=(256*dp.length,0)/\cN d n=0)/\(d.dead=true->d.sizeOf n=(0,6)/\cN d n=6):=by
 obtain⟨f,dp,q⟩:=h.dI _ _ _ hL;have hs:=Dsk.Dr (h.ok n (by rw[hL];rfl)) q.get;have hl:f.now.length=256*dp.length:=by rw[q.now,dN _ q.Cm]
 refine⟨f,dp,q,fun hd=>?_,fun hd=>?_⟩
 ·rw[hd,if_neg ai,hl]at hs;refine⟨hs,?_⟩;unfold cN;rw[hs];simp
 ·rw[hd,if_pos rfl]at hs;refine⟨hs,?_⟩;unfold cN;rw[hs];simp
theorem Told.length_le{fs:List bZ}{name:Name}{lo hi:Nat}{ls:List Nat}(t:Told fs name lo hi ls):ls.length<=fs.length:=by
 have hp:ls.Perm ((List.range fs.length).filter (fun x=>decide (x∈ls))):=by
  refine(List.perm_ext_iff_of_nodup t.nodup (List.nodup_range.filter _)).2 fun x=>?_;rw[List.mem_filter,List.mem_range,decide_eq_true_eq];refine⟨fun hx=>⟨?_,hx⟩,fun hx=>hx.2⟩;obtain⟨fr,h1,_⟩:=(t.mem x).1 hx;exact aN h1
 have h1:=List.length_filter_le (fun x=>decide (x∈ls)) (List.range fs.length);rw[hp.length_eq];simpa using h1
theorem cg{n:Name}(h:bM n=true):n.size<=1000:=by have:=GA h;omega
def rF(fs qm:List bZ):Prop:=qm.length=fs.length/\∀(i:Nat)(fr:bZ),fs[i]? = some fr->∃dd,qm[i]? = some { fr with bU:=dd }/\(dd=true->fr.bU=true)
theorem rF.refl(fs:List bZ):rF fs fs:=⟨rfl,fun _ fr h=>⟨fr.bU,h,id⟩⟩
def Ro(w:World)(pb db fb mb:Nat)(o:au)(l:List iM)(hand mf:Nat)(d:Dsk)(L:aH)(i:Nat)(e:Ending)(w':World):Prop:=
 ∃o' l' d' c,e=.returned (.int .i64 ((c:Nat):Int))/\bz w' pb db fb mb o' l' hand mf d'/\Sound d' (l'.map (·.2)) L/\bR d d'/\rF (l.map (·.2)) (l'.map (·.2))/\(c=0\/lK d d' L c) /\
  (c=0->∃fr,(l'.map (·.2))[i]? = some fr/\fr.bU=false)/\aG (o.In cM) w w'/\cF w.heap.size o o'
theorem Rp(HW:aP){w:World}{pb db fb mb:Nat}{o:au}{l:List iM}{hand mf:Nat}{d:Dsk}{L:aH}(h:bz w pb db fb mb o l hand mf d)(hg:Sound d (l.map (·.2)) L){i:Nat}{v:Value}{f:bZ}(hi:l[i]? = some (v,f))(fD:f.full=true)(fZ:f.bU=true) :
 Calls prog 239 #[ptrTo pb,.int .i64 (i:Int)] w (Ro w pb db fb mb o l hand mf d L i):=by
 obtain⟨i0,tK,hz0,hz1,hz2⟩:=info_parts G7;obtain⟨ps,fl,hL,P1⟩:=hg.frames f (List.mem_of_getElem? (cu hi)) fD;obtain⟨df,dp,q,lZ,kI⟩:=hg.Ag hL;have fe:=cg (hg.ok f.name (by rw[hL];rfl));have iA:=hg.wR;have Vx:=(iA _ (List.mem_of_getElem? hi)).2;have mU:i<l.length:=aN hi;have hn:=h.most;have H:=ae h;have HG:=ae hg;have HI:=ae hi;have HQ:=ae q;have yV:=ae iA;have HL:=ae hL;have uv:=ae fD;have Ah:=ae fZ;have hcell:(w.cell? ⟨pb,1,none⟩=some (.slice (some ⟨fb,0,none⟩) l.length l.length)/\w.cell? ⟨fb,i*7+1,none⟩=some (.string f.name)/\w.cell? ⟨fb,i*7+2,none⟩=some (.int .i64 (f.k:Int))):=by
  obtain⟨⟨-,g1,-⟩,-⟩:=h.head.cells;obtain⟨-,g2,g3,-⟩:=h.row.seven hi;exact⟨g1,g2,g3⟩
 obtain⟨hc1,hc2,hc3⟩:=hcell;have aM:Hid (∀W,Below w.heap.size w W->Calls prog 119 #[ptrTo pb,.string f.name] W (Ae W db d f.name)):=ae (fun W hW=>s5 (h.below hW) f.name fe);have MZ:=ae (jX h.mK f.name).1;clear h hg hi q iA hL fD fZ P1;dsimp only at Vx;unfold ptrTo at *;generalize hN:l.length=n at *;have HN:=ae hN;clear hN;cases hd:d.dead with
 |true=>
   obtain⟨-,Cj⟩:=kI hd;have MX:=ae Cj;have HD:=ae hd;clear hd Cj lZ kI;go_enter func239,ntmps239;go_wp2;go_quiet (fail)
   go_wp2_with fail;refine(aM.out _ (below_drewN ak _)).mono ?_;rintro e w1⟨v1,n1,rfl,hb1,-⟩;rw[MX.out];have hB:Below w.heap.size w w1:=(below_drewN ak _).trans hb1;have HB:=ae hB;clear hB hb1;go_wp2;go_ret;exact⟨o,l,d,6,rfl,H.out.below HB.out,HG.out,bR.refl d,rF.refl _,.inr (.inr ⟨rfl,HD.out⟩),fun h=>absurd h ag,aG.aV HB.out,cF.refl _ _⟩
 |false=>
   obtain⟨hsz,Cj⟩:=lZ hd;have MX:=ae Cj;have aiq:=ae hsz;clear hd Cj lZ kI hsz;go_enter func239,ntmps239;go_wp2;go_quiet (fail)
   go_wp2_with fail;refine(aM.out _ (below_drewN ak _)).mono ?_;rintro e w1⟨v1,n1,rfl,hb1,hy⟩;obtain⟨BU,pf,rfl,hp,hpl⟩:=hy MX.out;rw[MX.out];rw[aiq.out]at BU;have hB:Below w.heap.size w w1:=(below_drewN ak _).trans hb1;have HB:=ae hB;have XT:=ae hp;have air:w.heap.size<=pf:=by simpa using hpl
   have GK:Hid (n1=dp.length):=ae (by dsimp only at BU;omega);clear hB hb1 hp BU hy hpl;unfold ptrTo;have ij:=ae (Dv (H.out.below HB.out) (fun p hp=>(yV.out p hp).2) f.name n1 f.k);unfold ptrTo at ij;go_wp2_with fail;refine ij.out.mono ?_;rintro e w2⟨v2,ls,rfl,kD,Ai,hb2⟩;obtain⟨a2,c2,rfl⟩:=aA kD;have cY:=ae (HB.out.trans (hb2.mono HB.out.size));have qo:=ae kD;have HT:=ae Ai;have adw:ls.length<=n:=by
    have h1:=Ai.length_le;rw[List.length_map,HN.out]at h1;exact h1
   have Rq:=ae (XT.out.below hb2);have hs2:w.heap.size<=w2.heap.size:=cY.out.size;have hs1:w1.heap.size<=w2.heap.size:=hb2.size;clear kD Ai hb2;go_wp2_with (at_builtin;refine wpList_append_own _ rfl _ _ 214 rfl w1.heap.size 3 i0 (.int .i64 0) 1 8 Tryz.underlying214 tK hz0 hz1 hz2 rfl ag _ _ _ rfl (qo.out.alloc _) ⟨w2.heap.size,0,none⟩ 1 1 [mL i] rfl rfl ?c1 ?c2 ?c3 ?c4 ?c5 ?_);case c1=>
    intro j u hj;match j,hj with
    |0,hj=>
      cases hj;simp[bI,mL]
   case c2=>simp[mL,Value.oneCell']
   case c3=>unfold maxLen;omega
   case c4=>omega
   case c5=>simp;omega
   intro v3 w3 iW ZF _;have Gw:Hid (Below w.heap.size w w3):=ae ((cY.out.alloc cY.out.size _).grown ZF (by simp;omega) (fun k hk=>by have:=aI qo.out k hk;have:=HB.out.size;omega));have hO3:Hid (w3.ownsRow w1.heap.size 3 1 v3 (ls++[i]).length ((ls++[i]).map mL)):=ae (by simpa using iW);have ais:Hid (nM w3 pf db f.name):=ae (by
    obtain⟨t,ht⟩:=Rq.out;have ape:=XT.out.lt;have ait:=Rq.out.lt;refine⟨t,?_⟩;rw[ZF.block pf (by simp;omega) (fun e=>by have:=aI qo.out pf e.symm;omega),(MapKept.heap_alloc _ _).2 pf ait];exact ht)
   obtain⟨a3,c3,rfl⟩:=aA iW;clear iW ZF;have adx:∀x∈ls++[i],x<l.length:=fun x hx=>by
    rcases List.mem_append.1 hx with hx | hx
    ·obtain⟨fr,h1,_⟩:=(HT.out.mem x).1 hx;have:=aN h1;rwa [List.length_map]at this
    ·rw[List.mem_singleton.1 hx,HN.out];exact mU
   have l6:=ae (MW HW (H.out.below Gw.out) yV.out fe ais.out (eM H.out.owned air) hO3.out (fun b hb=>eM H.out.owned (by have:=aI hO3.out b hb;have:=HB.out.size;omega)) adx (by simp;omega));obtain⟨d',qm,ec,hr,MT,zu,uw,ux,he⟩:=Sound.Vs HL.out (ls++[i]) d (l.map (·.2)) df dp HG.out HQ.out (by
    have h1:=HT.out;rw[GK.out]at h1;exact h1.Q8 HG.out (cu HI.out) uv.out Ah.out)
   rw[hr]at l6;have HG':=ae MT;have HON:=ae zu;have Rs:=ae uw;have M0:=ae ux;have HE:=ae he;unfold ptrTo at l6;clear hr MT zu uw ux he adx;go_wp2_with fail;refine l6.out.mono ?_;rintro e w4⟨o',l',rfl,po,hl4,M4,Rt,tX,hg4⟩;dsimp only at hl4 po;have ye:=ae po;have M6:=ae hl4;have vI:=ae ((aG.aV Gw.out).trans tX (fun _ _ h=>h):aG (o.In cM) w w4);have yo:Hid (cF w.heap.size o o'):=ae (fun x hx=>hg4 x (Nat.lt_of_lt_of_le hx Gw.out.size));clear po hl4 M4 Rt tX hg4;go_wp2;go_ret;refine⟨o',l',d',ec,rfl,ye.out,by rw[M6.out];exact HG'.out,HON.out,⟨by rw[M6.out];exact Rs.out,fun j fr hj=>?_⟩,HE.out,fun hc=>?_,vI.out,yo.out⟩
   ·obtain⟨dd,h1,h2,_⟩:=M0.out j fr hj;exact⟨dd,by rw[M6.out];exact h1,h2⟩
   ·obtain⟨dd,h1,_,_,h4⟩:=M0.out i f (cu HI.out);exact⟨_,by rw[M6.out];exact h1,h4 hc ai⟩
def mW(fs qm:List bZ):Prop:=qm.length=fs.length/\∀(j:Nat)(x:bZ),qm[j]? = some x->x.full=true->∃y,fs[j]? = some y/\y.full=true/\y.name=x.name/\y.k=x.k
theorem mW.refl(fs:List bZ):mW fs fs:=⟨rfl,fun _ x h hf=>⟨x,h,hf,rfl,rfl⟩⟩
theorem mW.trans{a b c:List bZ}(h:mW a b)(k:mW b c):mW a c:=⟨k.1.trans h.1,fun j x hx hf=>by
 obtain⟨y,h1,h2,h3,h4⟩:=k.2 j x hx hf;obtain⟨z,g1,g2,g3,g4⟩:=h.2 j y h1 h2;exact⟨z,g1,g2,g3.trans h3,g4.trans h4⟩⟩
def l9(fs qm:List bZ):Prop:=qm.length=fs.length/\∀(j:Nat)(x:bZ),fs[j]? = some x->∃u,qm[j]? = some { x with used:=u }
theorem l9.refl(fs:List bZ):l9 fs fs:=⟨rfl,fun _ x h=>⟨x.used,h⟩⟩
theorem l9.Dw{fs qm:List bZ}(h:l9 fs qm):mW fs qm:=⟨h.1,fun j x hx hf=>by
 have hl:j<fs.length:=by rw[<- h.1];exact aN hx
 obtain⟨u,hu⟩:=h.2 j fs[j] (List.getElem?_eq_getElem hl);rw[hx]at hu;cases hu;exact⟨fs[j],List.getElem?_eq_getElem hl,hf,rfl,rfl⟩⟩
theorem rF.Dw{fs qm:List bZ}(h:rF fs qm):mW fs qm:=⟨h.1,fun j x hx hf=>by
 have hl:j<fs.length:=by rw[<- h.1];exact aN hx
 obtain⟨u,hu,_⟩:=h.2 j fs[j] (List.getElem?_eq_getElem hl);rw[hx]at hu;cases hu;exact⟨fs[j],List.getElem?_eq_getElem hl,hf,rfl,rfl⟩⟩
theorem mW.none{fs:List bZ}{i:Nat}(hi:i<fs.length):mW fs (fs.set i bZ.none):=⟨List.length_set,fun j x hx hf=>by
 rw[fo hi]at hx;by_cases e:j=i
 ·rw[if_pos e]at hx;cases hx;cases hf
 ·rw[if_neg e]at hx;exact⟨x,hx,hf,rfl,rfl⟩⟩
theorem l9.set{fs qm:List bZ}(h:l9 fs qm){i:Nat}{x:bZ}(hi:qm[i]? = some x)(u:Bool):l9 fs (qm.set i { x with used:=u }):=⟨List.length_set.trans h.1,fun j y hy=>by
 obtain⟨v,hv⟩:=h.2 j y hy;rw[fo (aN hi)];by_cases e:j=i
 ·subst e;rw[hv]at hi;cases hi;exact⟨u,by rw[if_pos rfl]⟩
 ·exact⟨v,by rw[if_neg e];exact hv⟩⟩
theorem l9.sound{d:Dsk}{fs qm:List bZ}{L:aH}(h:l9 fs qm)(hg:Sound d fs L)(hall:∀fr∈fs,fr.full=true):Sound d qm L:=
 hg.used h.1 fun i f f' hi hi'=>by
  obtain⟨u,hu⟩:=h.2 i f hi;rw[hi']at hu;cases hu;exact⟨rfl,fun hf=>by rw[hall f (List.mem_of_getElem? hi)]at hf;cases hf⟩
def Ru(w:World)(pb db fb mb:Nat)(o:au)(l:List iM)(mf:Nat)(d:Dsk)(L:aH)(e:Ending)(w':World):Prop:=
 ∃o' l' Rv d' c i,e=.returned (.tuple #[.int .i64 ((i:Nat):Int),.int .i64 ((c:Nat):Int)])/\bz w' pb db fb mb o' l' Rv mf d'/\Sound d' (l'.map (·.2)) L/\bR d d'/\(c=0\/lK d d' L c) /\
  (c=0->∃p,l'[i]? = some p/\p.2.full=false)/\mW (l.map (·.2)) (l'.map (·.2))/\aG (o.In cM) w w'/\cF w.heap.size o o'
theorem Oh(i n:Nat):((i:Int)+1)%(n:Int)=(((i+1)%n:Nat):Int):=by
 rw[Int.natCast_emod];rfl
def ZG(fs:List bZ)(k:Nat):Prop:=∀(j:Nat)(x:bZ),j<k->fs[j]? = some x->x.full=true
theorem Hd(HW:aP){w:World}{pb db fb mb:Nat}{o:au}{l:List iM}{hand mf:Nat}{d:Dsk}{L:aH}(h:bz w pb db fb mb o l hand mf d)(hg:Sound d (l.map (·.2)) L) :
 Calls prog 197 #[ptrTo pb] w (Ru w pb db fb mb o l mf d L):=by
 have H:=ae h;have HG:=ae hg;have wG:=ae h.row;have hn:=h.most;have HS:=ae h.shaped;have G8:=h.hand;have Od:=h.head.lt;obtain⟨⟨-,hc1,-,hc3,-⟩,-⟩:=h.head.cells;clear h hg;unfold ptrTo;generalize hN:l.length=n at *;have HN:=ae hN;clear hN;go_enter func197,ntmps197;go_wp2;go_step3
 go_wp2;go_loopw [15] (fun i wr=>∃k:Nat,k<=n/\i=.int .i64 (k:Int)/\ZG (l.map (·.2)) k/\Below w.heap.size w wr) (fun i _=>n-(intOf i).toNat)
 case atStart=>exact⟨0,Nat.zero_le _,rfl,fun j x hj=>absurd hj (Nat.not_lt_zero j),Below.refl _ _⟩
 case round=>
  obtain⟨k,hk,rfl,Vz,hb⟩:=hrel;by_cases hlt:k<n
  ·obtain⟨a,c,f,hi⟩:=HS.out.get HN.out hlt;obtain⟨h0,h1,h2,h3,h4,h5,h6⟩:=(wG.out.below hb).seven hi;have zS:wr.cell? ⟨pb,1,none⟩=some (.slice (some ⟨fb,0,none⟩) n n):=by rw[hb.cell (p:=⟨pb,1,none⟩) Od];exact hc1
   have HB:=ae hb;have Gd:=ae Vz;have HI:=ae hi;clear hi hb Vz;cases fD:f.full with
   |false=>
     rw[fD]at h0;have uv:=ae fD;clear fD;go_wp2;rw[Exit.noGoto_ret];go_ret2;exact⟨o,l,hand,d,0,k,rfl,H.out.below (HB.out.alloc HB.out.size _),HG.out,bR.refl d,.inl rfl,fun _=>⟨_,HI.out,uv.out⟩,mW.refl _,aG.aV (HB.out.alloc HB.out.size _),cF.refl _ _⟩
   |true=>
     rw[fD]at h0;have uv:=ae fD;clear fD;go_wp2;go_roundw
     case rel=>
      refine⟨k+1,af,by go_num,fun j x hj hx=>?_,HB.out.alloc HB.out.size _⟩;by_cases e:j=k
      ·subst e;rw[cu HI.out]at hx;cases hx;exact uv.out
      ·exact Gd.out j x af hx
     case measure=>simp[intOf];omega
  ·obtain rfl:k=n:=by omega
   have hall:∀fr∈l.map (·.2),fr.full=true:=fun fr dQ=>by
    obtain⟨j,hj⟩:=List.mem_iff_getElem?.1 dQ;exact Vz j fr (by have:=aN hj;rw[List.length_map,HN.out]at this;exact this) hj
   have Co:=ae hall;have H1:=ae (H.out.below hb);have HB:=ae hb;clear Vz hb hall hc1 hc3;obtain⟨⟨-,hc1,-,hc3,-⟩,-⟩:=H1.out.head.cells;rw[HN.out]at hc1;go_wp2;go_step3
   go_wp2;generalize wr=W1 at *;go_loopw [6,35] (fun i c wr=>∃(tt ii:Nat)(l2:List iM),tt<=2*k/\c=.int .i64 (tt:Int)/\i=.int .i64 (ii:Int)/\ii=(hand+tt)%k/\bz wr pb db fb mb o l2 hand mf d/\l9 (l.map (·.2)) (l2.map (·.2)) /\
    (∀s,s<tt->∀x,(l2.map (·.2))[(hand+s)%k]? = some x->x.used=false)/\aG (·=fb) W1 wr) (fun _ c _=>2*k-(intOf c).toNat)
   case atStart=>exact⟨0,hand,l,af,rfl,rfl,(Nat.mod_eq_of_lt G8).symm,H1.out,l9.refl _,fun s hs=>absurd hs (Nat.not_lt_zero s),aG.refl _ _⟩
   case round=>
    obtain⟨tt,ii,l2,htt,rfl,rfl,VA,ko,hst,hsw,oJ⟩:=hrel;have sk:l2.length=k:=by
     have:=hst.1;rw[List.length_map,List.length_map,HN.out]at this;exact this
    have hik:ii<k:=by rw[VA];exact Nat.mod_lt _ af
    obtain⟨a,c,f,hi⟩:=ko.shaped.get sk hik;obtain⟨h0,h1,h2,h3,h4,h5,h6⟩:=ko.row.seven hi;have hz:=ko.row.free (ii*7+6);obtain⟨⟨-,hc1,-,hc3,-⟩,-⟩:=ko.head.cells;rw[sk]at hc1;have hm:=Oh ii k;have HII:=ae VA;have p8:=ae ko;have HST:=ae hst;have HSW:=ae hsw;have mP:=ae oJ;have Aj:=ae sk;have HI:=ae hi;have HM:=ae hm;clear VA ko hst hsw oJ sk hi hm;by_cases Rw:tt<2*k/\f.used=true
    ·obtain⟨hlt,hu⟩:=Rw;rw[hu]at h6;clear hu;go_wp2;go_roundw
     case rel=>
      have ux:=p8.out.mark (j:=6) (u:=.bool false) (x:={ f with used:=false }) HI.out ag rfl rfl rfl rfl rfl;refine⟨tt+1,(ii+1)%k,_,af,by go_num,?_,?_,ux,?_,?_,mP.out.setCell _ _ (.inl rfl)⟩
      ·rw[HM.out]
      ·rw[HII.out,Nat.mod_add_mod,Nat.add_assoc]
      ·rw[map_set];exact HST.out.set (cu HI.out) false
      ·intro s hs x hx;rw[map_set,fo (by rw[List.length_map,Aj.out];exact hik)]at hx;by_cases e:(hand+s)%k=ii
       ·rw[if_pos e]at hx;cases hx;rfl
       ·rw[if_neg e]at hx;refine HSW.out s ?_ x hx;rcases Nat.lt_or_ge s tt with h | h
        ·exact h
        ·obtain rfl:s=tt:=by omega
         exact absurd HII.out.symm e
     case measure=>simp[intOf];omega
    ·have GC:f.used=false:=by
      by_cases hlt:tt<2*k
      ·cases hu:f.used with
       |false=>rfl
       |true=>exact absurd ⟨hlt,hu⟩ Rw
      ·obtain rfl:tt=2*k:=by omega
       refine HSW.out 0 af f ?_;have e1:ii=hand:=by rw[HII.out,Nat.mul_comm,Nat.add_mul_mod_self_left,Nat.mod_eq_of_lt G8]
       rw[Nat.add_zero,Nat.mod_eq_of_lt G8,<- e1];exact cu HI.out
     rw[GC]at h6;clear Rw GC;have fD:f.full=true:=by
      have hl:ii<(l.map (·.2)).length:=by rw[List.length_map,HN.out];exact hik
      obtain⟨u,hu⟩:=HST.out.2 ii _ (List.getElem?_eq_getElem hl);rw[cu HI.out]at hu;have e:=Option.some.inj hu;dsimp only at e;have h1:=Co.out _ (List.getElem_mem hl);rw[e];exact h1
     have Qf:Hid (Sound d (l2.map (·.2)) L):=ae (HST.out.sound HG.out Co.out);have HTW:Hid (aG (o.In cM) w wr):=ae ((aG.aV HB.out).trans mP.out (fun x _ e=>e▸H.out.mV));have uv:=ae fD;have hnk:f.name.size<=1000/\f.k<9223372036854775808:=by
      obtain⟨ps,fl,hL,Ce⟩:=Qf.out.frames f (List.mem_of_getElem? (cu HI.out)) fD;have:=(Qf.out.wR _ (List.mem_of_getElem? HI.out)).2;exact⟨cg (Qf.out.ok f.name (by rw[hL];rfl)),by dsimp only at this;omega⟩
     obtain⟨UR,hkb⟩:=hnk;clear fD;cases fZ:f.bU with
     |false=>
       rw[fZ]at h5;have Ah:=ae fZ;clear fZ;by_cases hlt:tt<2*k;all_goals
        go_wp2_with fail;refine(wH (p8.out.below aj) HI.out uv.out UR hkb).mono ?_;rintro e w6⟨rfl,hp6,VB⟩;have He:=ae hp6;have QX:=ae VB;clear hp6 VB;obtain⟨⟨-,hc1,-⟩,hz3,-⟩:=He.out.head.cells;obtain⟨⟨-,-,-,hc3,-⟩,-⟩:=He.out.head.cells;rw[List.length_set,Aj.out]at hc1;go_wp2;rw[Exit.noGoto_ret];go_ret2;rw[HM.out];have mU:ii<l2.length:=aN HI.out;refine⟨o,l2.set ii (.slice none 0 0,bZ.none),(ii+1)%k,d,0,ii,rfl,He.out.vW ((aG.refl (·=pb) w6).setCell ⟨pb,3,none⟩ _ (.inl rfl)) (He.out.head.EE _) (by rw[List.length_set,Aj.out];exact Nat.mod_lt _ af) He.out.full,?_,bR.refl d,.inl rfl,fun _=>⟨(.slice none 0 0,bZ.none),by rw[fo mU,if_pos rfl],rfl⟩,?_,?_,cF.refl _ _⟩
        ·rw[map_set];exact Qf.out.reset (cu HI.out) Ah.out rfl (.inl rfl)
        ·rw[map_set];exact HST.out.Dw.trans (mW.none (by rw[List.length_map];exact mU))
        ·refine((HTW.out.alloc _).trans (QX.out.mono (S':=o.In cM) (fun x _ e=>e.elim (fun e=>e▸He.out.mV) (fun e=>e ▸ ⟨_,He.out.oK,show 8<10 by decide⟩))) ?_).trans ((aG.refl (o.In cM) w6).setCell ⟨pb,3,none⟩ _ (.inl ⟨_,He.out.yT,show 6<10 by decide⟩)) ?_;all_goals
          intro x hx ⟨t,h1,h2⟩;exact⟨t,by exact h1,h2⟩
     |true=>
       rw[fZ]at h5;have Ah:=ae fZ;clear fZ;by_cases hlt:tt<2*k;all_goals
        go_wp2_with fail;refine(Rp HW (p8.out.below aj) Qf.out HI.out uv.out Ah.out).mono ?_;rintro e w5⟨o5,l5,d5,c5,rfl,Gb,P9,adz,ZH,Qg,adA,rU,Cp⟩;have M7:=ae Gb;have HG5:=ae P9;have adB:=ae adz;have ZI:=ae ZH;have Rx:=ae Qg;have VC:=ae adA;have HTA:Hid (aG (o.In cM) w w5):=ae ((HTW.out.alloc _).trans rU (fun _ _ h=>h));have HGA:Hid (cF w.heap.size o o5):=ae (fun x hx=>Cp x (by have:=HTW.out.size;simp;omega));have XX:l5.length=k:=by
         have:=ZH.1;rw[List.length_map,List.length_map,Aj.out]at this;exact this
        have M8:=ae XX;clear Gb P9 adz ZH Qg adA rU Cp XX;by_cases BR:c5=0
        ·subst BR;have hf5:∃v5 f5,l5[ii]? = some (v5,f5)/\f5.full=true/\f5.bU=false/\f5.name=f.name/\f5.k=f.k:=by
          obtain⟨fr,h1,h2⟩:=VC.out rfl;obtain⟨dd,g1,_⟩:=ZI.out.2 ii f (cu HI.out);rw[h1]at g1;have e:=Option.some.inj g1;have hl5:ii<l5.length:=by rw[M8.out];exact hik
          have e2:l5[ii].2=fr:=by
           rw[List.getElem?_map,List.getElem?_eq_getElem hl5]at h1;exact Option.some.inj h1
          refine⟨l5[ii].1,fr,by rw[List.getElem?_eq_getElem hl5,<- e2],?_,h2,by rw[e],by rw[e]⟩;rw[e];exact uv.out
         obtain⟨v5,f5,VD,adC,adD,adE,adF⟩:=hf5;have HI5:=ae VD;have aiw:=ae adD;have aix:f5.name.size<=1000:=by rw[adE];exact UR
         have aiy:f5.k<9223372036854775808:=by rw[adF];exact hkb
         have ZJ:=ae (wH M7.out VD adC aix aiy);clear VD adD adC adE adF;go_wp2_with fail;refine ZJ.out.mono ?_;rintro e w6⟨rfl,hp6,VB⟩;have He:=ae hp6;have QX:=ae VB;clear hp6 VB;obtain⟨⟨-,hc1,-⟩,hz3,-⟩:=He.out.head.cells;obtain⟨⟨-,-,-,hc3,-⟩,-⟩:=He.out.head.cells;rw[List.length_set,M8.out]at hc1;go_wp2;rw[Exit.noGoto_ret];go_ret2;rw[HM.out];have mU:ii<l5.length:=aN HI5.out;refine⟨o5,l5.set ii (.slice none 0 0,bZ.none),(ii+1)%k,d5,0,ii,rfl,He.out.vW ((aG.refl (·=pb) w6).setCell ⟨pb,3,none⟩ _ (.inl rfl)) (He.out.head.EE _) (by rw[List.length_set,M8.out];exact Nat.mod_lt _ af) He.out.full,?_,adB.out,.inl rfl,fun _=>⟨(.slice none 0 0,bZ.none),by rw[fo mU,if_pos rfl],rfl⟩,?_,?_,HGA.out⟩
         ·rw[map_set];exact HG5.out.reset (cu HI5.out) aiw.out rfl (.inl rfl)
         ·rw[map_set];exact(HST.out.Dw.trans ZI.out.Dw).trans (mW.none (by rw[List.length_map];exact mU))
         ·refine(HTA.out.trans (QX.out.mono (S':=o5.In cM) (fun x _ e=>e.elim (fun e=>e▸He.out.mV) (fun e=>e ▸ ⟨_,He.out.oK,show 8<10 by decide⟩))) ?_).trans ((aG.refl (o5.In cM) w6).setCell ⟨pb,3,none⟩ _ (.inl ⟨_,He.out.yT,show 6<10 by decide⟩)) ?_;all_goals
           intro x hx ⟨t,h1,h2⟩;exact⟨t,by first | (rw[<- HGA.out x hx];exact h1) | exact h1,h2⟩
        ·have adH:¬(c5:Int)=0:=by omega
         obtain⟨⟨-,-,-,hc3,-⟩,hz3,-⟩:=M7.out.head.cells;have Oi:=ae BR;clear BR;go_wp2;rw[Exit.noGoto_ret];go_ret2;refine⟨o5,l5,ii,d5,c5,0,rfl,M7.out.vW ((aG.refl (·=pb) w5).setCell ⟨pb,3,none⟩ _ (.inl rfl)) (M7.out.head.EE _) (by rw[M8.out];exact hik) M7.out.full,HG5.out,adB.out,Rx.out,fun h=>absurd h Oi.out,HST.out.Dw.trans ZI.out.Dw,?_,HGA.out⟩;exact HTA.out.trans ((aG.refl (o5.In cM) w5).setCell ⟨pb,3,none⟩ _ (.inl ⟨_,M7.out.yT,show 6<10 by decide⟩)) (fun x hx ⟨t,h1,h2⟩=>⟨t,by rw[<- HGA.out x hx];exact h1,h2⟩)
theorem Cq(name:Name){B:Nat}(fs:List bZ)(h:∀f∈fs,f.full=true->f.bU=true->f.name=name->f.k<B):∀n0,n0<=B->eW name n0 fs<=B:=by
 induction fs with
 |nil=>intro n0 hn;exact hn
 |cons f fs ih=>
   intro n0 hn;have hf:=h f ai;unfold eW at ih ⊢;rw[List.foldl_cons];refine ih (fun g hg=>h g (by simp[hg])) _ ?_;unfold gV;split
   ·rename_i hc
    have:=hf hc.1 hc.2.1 hc.2.2;omega
   ·exact hn
theorem uy(name:Name)(fs:List bZ):∀n0,n0<=eW name n0 fs:=by
 induction fs with
 |nil=>intro n0;exact Nat.le_refl _
 |cons f fs ih=>
   intro n0;unfold eW at ih ⊢;rw[List.foldl_cons];refine Nat.le_trans ?_ (ih _);unfold gV;split<;>omega
theorem Cr(name:Name)(fs:List bZ){f:bZ}(hf:f∈fs)(h1:f.full=true)(h2:f.bU=true)(h3:f.name=name):∀n0,f.k+1<=eW name n0 fs:=by
 induction fs with
 |nil=>cases hf
 |cons g fs ih=>
   intro n0;unfold eW at ih ⊢;rw[List.foldl_cons];rcases List.mem_cons.1 hf with rfl | hf
   ·refine Nat.le_trans ?_ (uy name fs _);unfold gV;rw[if_pos ⟨h1,h2,h3⟩];omega
   ·exact ih hf _
theorem Sound.eW{d:Dsk}{fs:List bZ}{L:aH}(h:Sound d fs L){n:Name}{ps:List Pg}{fl:Bool}(hL:aB L n=some (.inl (ps,fl))){f:bT}{dp:List Pg}(q:dz d fs n ps fl f dp):eW n dp.length fs=ps.length:=by
 refine Nat.le_antisymm (Cq n fs (fun g hg h1 _ h3=>?_) _ q.le) ?_
 ·obtain⟨GR,kT,BQ,hk⟩:=h.frames g hg h1;rw[h3,hL]at BQ;cases BQ;exact aN hk
 ·rcases Nat.eq_or_lt_of_le q.le with e | hlt
  ·rw[<- e];exact uy _ _ _
  ·rcases q.each (ps.length-1) af with h1 |⟨j,g,g1,g2,g3,g4,g5⟩
   ·omega
   ·have:=Cr n fs (List.mem_of_getElem? g1) g2 g3 g4 dp.length;omega
def eA(d:Dsk)(ps:List Pg):Nat×Nat:=if d.dead=true then (0,6) else (ps.length,0)
theorem qK{w:World}{pb db fb mb:Nat}{o:au}{l:List iM}{hand mf:Nat}{d:Dsk}{L:aH}(h:bz w pb db fb mb o l hand mf d)(hg:Sound d (l.map (·.2)) L){name:Name}{ps:List Pg}{fl:Bool}(hL:aB L name=some (.inl (ps,fl))) :
 Calls prog 92 #[ptrTo pb,.string name] w fun e w'=>e=.returned (.tuple #[.int .i64 ((eA d ps).1:Int),.int .i64 ((eA d ps).2:Int)])/\Below w.heap.size w w':=by
 obtain⟨f,dp,q,lZ,kI⟩:=hg.Ag hL;refine(Dt h (fun p hp=>(hg.wR p hp).2) name (cg (hg.ok name (by rw[hL];rfl)))).mono ?_;rintro e w'⟨rfl,hb⟩;refine⟨?_,hb⟩;unfold eA;cases hd:d.dead with
 |true=>
   rw[(kI hd).2];rfl
 |false=>
   rw[(lZ hd).2,(lZ hd).1,if_pos rfl,show 256*dp.length/256=dp.length by omega,hg.eW hL q];rfl
theorem Sound.read{d:Dsk}{fs:List bZ}{L:aH}(h:Sound d fs L){n:Name}{ps:List Pg}{fl:Bool}(hL:aB L n=some (.inl (ps,fl))){f:bT}{dp:List Pg}(q:dz d fs n ps fl f dp)(hd:d.dead=false){k:Nat}{b:Pg}(hk:ps[k]? = some b)(hno:¬eU fs n k):k<dp.length/\d.read n (256*k) 256=(dv (kF n) k b,0):=by
 have yS:=aN hk;rcases q.each k yS with⟨h1,h2⟩| h1
 ·refine⟨h1,?_⟩;have fe:bM n=true:=h.ok n (by rw[hL];rfl);unfold Dsk.read;rw[hd,if_neg ai,fe,if_neg ai,q.get];dsimp only;rw[q.now,Cl q.Cm h1,Nat.zero_add];have e:dp[k]=b:=by
   rw[hk,List.getElem?_eq_getElem h1]at h2;exact Option.some.inj h2
  rw[e]
 ·exact absurd h1 hno
theorem Sound.mark{d:Dsk}{fs:List bZ}{L:aH}(h:Sound d fs L){i:Nat}{x:bZ}(hi:fs[i]? = some x)(hx:x.full=true)(u:Bool):Sound d (fs.set i { x with used:=u }) L:=
 h.used List.length_set fun j f f' hj hj'=>by
  rw[fo (aN hi)]at hj';by_cases e:j=i
  ·rw[if_pos e]at hj';rw[e,hi]at hj;cases hj;cases hj';exact⟨rfl,fun hf=>by rw[hx]at hf;cases hf⟩
  ·rw[if_neg e,hj]at hj';cases hj';exact⟨rfl,fun _=>rfl⟩
def Oj(w:World)(pb db fb mb n:Nat)(o:au)(d:Dsk)(L:aH)(name:Name)(k:Nat)(e:Ending)(w':World):Prop:=
 ∃o' l' Rv Zz d' c i,e=.returned (.tuple #[.int .i64 ((i:Nat):Int),.int .i64 ((c:Nat):Int)])/\bz w' pb db fb mb o' l' Rv Zz d'/\l'.length=n/\Sound d' (l'.map (·.2)) L/\bR d d'/\(c=0\/lK d d' L c) /\
  (c=0->∃v f,l'[i]? = some (v,f)/\f.full=true/\f.name=name/\f.k=k)/\aG (o.In cM) w w'/\cF w.heap.size o o'
theorem Ol(HW:aP){w:World}{pb db fb mb:Nat}{o:au}{l:List iM}{hand mf:Nat}{d:Dsk}{L:aH}(h:bz w pb db fb mb o l hand mf d)(hg:Sound d (l.map (·.2)) L){name:Name}{ps:List Pg}{fl:Bool}(hL:aB L name=some (.inl (ps,fl))){k:Nat}{b:Pg}(hk:ps[k]? = some b) :
 Calls prog 137 #[ptrTo pb,.string name,.int .i64 (k:Int)] w (Oj w pb db fb mb l.length o d L name k):=by
 obtain⟨f,dp,q,lZ,kI⟩:=hg.Ag hL;have hs:=cg (hg.ok name (by rw[hL];rfl));have yS:=aN hk;have jq:=q.most;have hbl:b.length<=240:=q.short b (List.mem_of_getElem? hk);have aM:=ae (qK h hg hL);have H:=ae h;have HG:=ae hg;have HL:=ae hL;have HK:=ae hk;have HQ:=ae q;have adI:=ae lZ;have amr:=ae kI;have hn:=h.most;have Od:=h.head.lt;obtain⟨m,ej,cT⟩:=h.um;have e9:=ae ej;have eV:=ae cT;have QZ:=ae (rE (s:=name) (n:=k) (by unfold maxLen;omega) af);clear h hg hL hk q lZ kI ej cT;unfold ptrTo at *;unfold eA at aM;cases hd:d.dead with
 |true=>
   rw[hd,if_pos rfl]at aM;have HD:=ae hd;clear hd;go_enter func137,ntmps137;go_wp2_with fail;refine aM.out.mono ?_;rintro e w1⟨rfl,hb⟩;have HB:=ae hb;clear hb;go_wp2;go_ret2;exact⟨o,l,hand,mf,d,6,0,rfl,H.out.below HB.out,rfl,HG.out,bR.refl d,.inr (.inr ⟨rfl,HD.out⟩),fun h=>absurd h ag,aG.aV HB.out,cF.refl _ _⟩
 |false=>
   rw[hd,if_neg ai]at aM;have HD:=ae hd;clear hd;have Kf:¬((k:Int) >= (ps.length:Int)):=by omega
   have Ka:¬((k:Int)<0):=by omega
   generalize hP:ps.length=P at *;have HP:=ae hP;clear hP;cases EM:aB m (name,k) with
   |some i=>
     have Ry:=ae EM;clear EM;obtain⟨fr,hi,sY,hf2,hf3⟩:=(eV.out name k i).1 Ry.out;have mU:i<l.length:=by have:=aN hi;rwa [List.length_map]at this
     go_enter func137,ntmps137;go_wp2_with fail;refine aM.out.mono ?_;rintro e w1⟨rfl,hb⟩;have HB:=ae hb;have H1:=ae (H.out.below hb);have eH:Hid (jt w1 mb m):=ae (e9.out.kept (hb.block mb e9.out.lt));clear hb;obtain⟨⟨-,hc1,hc2,-⟩,-⟩:=H1.out.head.cells;have hz:∀W:World,(zeroValue 3).run prog W=.ok (.int .i64 0) W:=fun W=>by kernel_rfl
     obtain⟨a,c,f0,hi'⟩:=H1.out.shaped.get rfl mU;obtain rfl:f0=fr:=by
      have:=cu hi';rw[hi]at this;exact(Option.some.inj this).symm
     obtain⟨-,-,-,-,-,-,h6⟩:=H1.out.row.seven hi';have XL:=H1.out.row.free (i*7+6);have HI':=ae hi';clear hi hi';go_wp2_with (at_lookup;refine bY _ rfl _ _ _ _ rfl 3 jW fM Tryz.underlying148 (hz _) mb m rfl eH.out (name,k) rfl QZ.out ?_;unfold qh;rw[Ry.out];simp only[Option.map_some,Option.getD_some,Option.isSome_some]);go_ret2;have ux:=H1.out.mark (j:=6) (u:=.bool true) (x:={ f0 with used:=true }) HI'.out ag rfl rfl rfl rfl rfl;refine⟨o,_,hand,mf,d,0,i,rfl,ux,List.length_set,?_,bR.refl d,.inl rfl,fun _=>⟨.slice a f0.bytes.length c,{ f0 with used:=true },by rw[fo mU,if_pos rfl],sY,hf2,hf3⟩,(aG.aV HB.out).setCell _ _ (.inl H.out.mV),cF.refl _ _⟩;rw[map_set];exact HG.out.mark (cu HI'.out) sY true
   |none=>
     have Ry:=ae EM;clear EM;have vZ:∀(j:Nat)(fj:bZ),(l.map (·.2))[j]? = some fj->fj.full=true->fj.name=name->fj.k=k->False:=fun j fj h1 h2 h3 h4=>by
      have:=(eV.out name k j).2 ⟨fj,h1,h2,h3,h4⟩;rw[Ry.out]at this;cases this
     have ZK:=ae vZ;obtain⟨hkd,BP⟩:=HG.out.read HL.out HQ.out HD.out HK.out (fun⟨j,fr,h1,h2,_,h4,h5⟩=>vZ j fr h1 h2 h4 h5);obtain⟨hsz,Cj⟩:=adI.out HD.out;have MP:=ae BP;have MZ:=ae hsz;have MX:=ae Cj;have aiz:Hid (dp.length<=65536):=ae (by have:=HQ.out.le;have:=HP.out;omega);clear vZ BP hsz Cj;go_enter func137,ntmps137;go_wp2_with fail;refine aM.out.mono ?_;rintro e w1⟨rfl,hb⟩;have HB:=ae hb;have H1:=ae (H.out.below hb);have eH:Hid (jt w1 mb m):=ae (e9.out.kept (hb.block mb e9.out.lt));clear hb;obtain⟨⟨hc0,-,hc2,-⟩,-⟩:=H1.out.head.cells;unfold ptrTo at hc0;have hz:∀W:World,(zeroValue 3).run prog W=.ok (.int .i64 0) W:=fun W=>by kernel_rfl
     go_wp2_with (at_lookup;refine bY _ rfl _ _ _ _ rfl 3 jW fM Tryz.underlying148 (hz _) mb m rfl eH.out (name,k) rfl QZ.out ?_;unfold qh;rw[Ry.out];simp only[Option.map_none,Option.getD_none,Option.isSome_none]);refine(Ad H1.out.mK name hs).mono ?_;rintro e w2⟨v2,rfl,hb2,hy,-⟩;obtain⟨pf,rfl,hp,hpl⟩:=hy MX.out;rw[MX.out];have XT:=ae hp;have H2:=ae (H1.out.below hb2);have cY:=ae (HB.out.trans (hb2.mono HB.out.size));clear hb2 hy hp hz;unfold ptrTo;go_wp2_with fail;refine(Oc H2.out.mK XT.out hs k (256*dp.length) b MZ.out af (by have:=aiz.out;omega) MP.out hbl).mono ?_;rintro e w3⟨v3,rfl,iW,hb3⟩;obtain⟨a3,c3,rfl⟩:=aA iW;have H3:=ae (H2.out.below hb3);have jJ:=ae (cY.out.trans (hb3.mono cY.out.size));have mQ:=ae iW;have hs3:w.heap.size<=w2.heap.size:=cY.out.size;have XY:Hid (∀b',(Value.slice a3 b.length c3).ownBlock=some b'->o b'=none):=ae (fun b' hb'=>eM H.out.owned (by have:=aI iW b' hb';omega));have Ge:Hid (∀b',(Value.slice a3 b.length c3).ownBlock=some b'->b'<w3.heap.size):=ae (fun b' hb'=>(aL iW b' hb').1);clear iW hb3;go_wp2_with fail;refine(Hd HW H3.out HG.out).mono ?_;rintro e w4⟨o4,l4,Hf,d4,c4,i4,rfl,po,hg4,uz,yX,Rz,Hg,tX,Om⟩;have ye:=ae po;have yo:=ae hg4;have RA:=ae uz;have Cs:=ae yX;have ZL:=ae Rz;have Ak:=ae Hg;have vI:=ae ((aG.aV jJ.out).trans tX (fun _ _ h=>h):aG (o.In cM) w w4);have KB:Hid (cF w.heap.size o o4):=ae (fun x hx=>Om x (Nat.lt_of_lt_of_le hx jJ.out.size));have UT:Hid (w4.ownsRow w2.heap.size 5 1 (.slice a3 b.length c3) b.length (b.map bv)):=ae (tX.ownsRow mQ.out (fun b' hb'=>au.dE (XY.out b' hb')));have ZM:Hid (∀b',(Value.slice a3 b.length c3).ownBlock=some b'->o4 b'=none):=ae (fun b' hb'=>by rw[Om b' (Ge.out b' hb')];exact XY.out b' hb');clear po hg4 uz yX Rz Hg tX Om;by_cases iz:c4=0
     ·subst iz;obtain⟨p4,xX,KC⟩:=ZL.out rfl;have HI4:=ae xX;have ZN:=aN xX;have RB:=ae KC;have Al:∀(j:Nat)(fj:bZ),(l4.map (·.2))[j]? = some fj->fj.full=true->fj.name=name->fj.k=k->False:=fun j fj h1 h2 h3 h4=>by
       obtain⟨y,g1,g2,g3,g4⟩:=Ak.out.2 j fj h1 h2;exact ZK.out j y g1 g2 (g3.trans h3) (g4.trans h4)
      have RD:=ae Al;have nP:=ae (G3 ye.out xX KC ⟨true,name,k,b,false,true⟩ UT.out ZM.out Al hs (by show k<_;omega) false);unfold ptrTo at nP;dsimp only at nP;clear xX KC Al;go_wp2_with fail;refine nP.out.mono ?_;rintro e w5⟨rfl,⟨mf5,Gb⟩,rU⟩;have M7:=ae Gb;have Ey:=ae rU;clear Gb rU;go_wp2;go_ret2;refine⟨_,_,Hf,mf5,d4,0,i4,rfl,M7.out,by rw[List.length_set];simpa using Ak.out.1,?_,RA.out,.inl rfl,fun _=>⟨.slice a3 b.length c3,⟨true,name,k,b,false,true⟩,by rw[fo ZN,if_pos rfl],rfl,rfl,rfl⟩,?_,?_⟩
      ·rw[map_set];have x9:p4.2.bU=false:=by
        rw[yo.out.blank p4.2 (List.mem_of_getElem? (cu HI4.out)) RB.out];rfl
       exact yo.out.reset (cu HI4.out) x9 rfl (.inr ⟨rfl,⟨ps,fl,HL.out,HK.out⟩,fun i' fi' _ h1 h2 h3 h4=>RD.out i' fi' h1 h2 h3 h4⟩)
      ·refine vI.out.trans Ey.out (fun x hx e=>?_);have h1:o4.In cM x:=by
        rcases e with rfl | rfl | rfl
        ·exact ye.out.mV
        ·exact⟨_,ye.out.oK,show 8<10 by decide⟩
        ·exact⟨_,ye.out.yT,show 6<10 by decide⟩
       obtain⟨t,g1,g2⟩:=h1;exact⟨t,by rw[<- KB.out x hx];exact g1,g2⟩
      ·exact KB.out.trans (au.tY (n:=w2.heap.size) (fun b' hb'=>aI UT.out b' hb')) hs3
     ·have uA:¬(c4:Int)=0:=by omega
      have BV:=ae iz;clear iz;go_wp2;go_ret2;exact⟨o4,l4,Hf,mf,d4,c4,0,rfl,ye.out,by simpa using Ak.out.1,yo.out,RA.out,Cs.out,fun h=>absurd h BV.out,vI.out,KB.out⟩
def gW(w:World)(pb db n:Nat)(o:au)(d:Dsk)(L:aH)(b:Pg)(e:Ending)(w':World):Prop:=
 ∃v c d' o',e=.returned (.tuple #[v,.int .i64 ((c:Nat):Int)])/\aR w' pb db n o' d' L/\aG (o.In cM) w w'/\cF w.heap.size o o'/\bR d d'/\(c=0\/lK d d' L c) /\
  (c=0->w'.ownsRow w.heap.size 5 1 v b.length (b.map bv)/\∀x,v.ownBlock=some x->o' x=none)/\(c≠0->v=.slice none 0 0)
theorem pG(HW:aP){w:World}{pb db n:Nat}{o:au}{d:Dsk}{L:aH}(h:aR w pb db n o d L){name:Name}{ps:List Pg}{fl:Bool}(hL:aB L name=some (.inl (ps,fl))){k:Nat}{b:Pg}(hk:ps[k]? = some b) :
 Calls prog 93 #[ptrTo pb,.string name,.int .i64 (k:Int)] w (gW w pb db n o d L b):=by
 obtain⟨fb,mb,l,hand,mf,hp,rfl,hg⟩:=h;have hbl:b.length<=240:=by
  obtain⟨f,dp,q⟩:=hg.dI _ _ _ hL;exact q.short b (List.mem_of_getElem? hk)
 have aM:=ae (Ol HW hp hg hL hk);have HL:=ae hL;have HK:=ae hk;clear hp hg hL hk;unfold ptrTo at *;go_enter func93,ntmps93;go_wp2_with fail;refine aM.out.mono ?_;rintro e w1⟨o1,l1,XZ,mf1,d1,c1,i1,rfl,zU,X0,hg1,adK,tM,adL,mJ,adM⟩;have Ku:=ae zU;have JT:=ae hg1;have X1:=ae X0;have adN:=ae adK;have Dx:=ae tM;have aiC:=ae adL;have QJ:=ae mJ;have adO:=ae adM;clear X0 zU hg1 adK tM adL mJ adM;by_cases hc:c1=0
 ·subst hc;obtain⟨v1,f1,se,sY,hf2,hf3⟩:=aiC.out rfl;have apg:=aN se;have hbf:f1.bytes=b:=by
   obtain⟨GR,kT,BQ,Ce⟩:=JT.out.frames f1 (List.mem_of_getElem? (cu se)) sY;rw[hf2,HL.out]at BQ;cases BQ;rw[hf3,HK.out]at Ce;exact(Option.some.inj Ce).symm
  have HBF:=ae hbf;have hrow:=(Ku.out.each _ (List.mem_of_getElem? se)).1;dsimp only at hrow;obtain⟨a1,cc1,rfl⟩:=aA hrow;rw[hbf]at hrow se;have GF:=ae hrow;obtain⟨-,-,-,h3,-⟩:=Ku.out.row.seven se;obtain⟨⟨-,hc1,-⟩,-⟩:=Ku.out.head.cells;clear se sY hf2 hf3 hbf hrow;go_wp2_with fail;refine(fX _ b _ (fH GF.out) af).mono ?_;rintro e w2⟨v2,rfl,kD,hb2⟩;go_wp2;go_ret2;refine⟨v2,0,d1,o1,rfl,⟨fb,mb,l1,XZ,mf1,Ku.out.below hb2,X1.out,JT.out⟩,QJ.out.bN hb2,adO.out,adN.out,.inl rfl,fun _=>⟨aU kD QJ.out.size,fun x hx=>eM Ku.out.owned (aI kD x hx)⟩,fun h=>absurd rfl h⟩
 ·have hc':¬(c1:Int)=0:=by omega
  have HC:=ae hc;clear hc;go_wp2;go_ret2;exact⟨_,c1,d1,o1,rfl,⟨fb,mb,l1,XZ,mf1,Ku.out,X1.out,JT.out⟩,QJ.out,adO.out,adN.out,Dx.out,fun h=>absurd h HC.out,fun _=>rfl⟩
theorem bz.lay{w:World}{pb db fb mb:Nat}{o:au}{l:List iM}{hand mf:Nat}{d:Dsk}(h:bz w pb db fb mb o l hand mf d){i:Nat}{u:Value}{f:bZ}(hi:l[i]? = some (u,f)){v:Value}{b:Pg}{base:Nat}(hv:w.ownsRow base 5 1 v b.length (b.map bv))(mG:∀x,v.ownBlock=some x->o x=none) :
 bz (((w.setCell ⟨fb,i*7+3,none⟩ v).setCell ⟨fb,i*7+5,none⟩ (.bool true)).setCell ⟨fb,i*7+6,none⟩ (.bool true)) pb db fb mb (o.put v (9,0)) (l.set i (v,{ f with bytes:=b,bU:=true,used:=true })) hand mf d:=by
 have mU:=aN hi;have r1:=h.row.set' (q:=(v,{ f with bytes:=b })) hi (j:=3) ag (v:=v) rfl;have g1:(l.set i (v,{ f with bytes:=b }))[i]? = some (v,{ f with bytes:=b }):=by rw[fo mU,if_pos rfl]
 have r2:=r1.set' (q:=(v,{ f with bytes:=b,bU:=true })) g1 (j:=5) ag (v:=.bool true) rfl;have g2:((l.set i (v,{ f with bytes:=b })).set i (v,{ f with bytes:=b,bU:=true }))[i]? = some (v,{ f with bytes:=b,bU:=true }):=by rw[fo (by rw[List.length_set];exact mU),if_pos rfl]
 have r3:=r2.set' (q:=(v,{ f with bytes:=b,bU:=true,used:=true })) g2 (j:=6) ag (v:=.bool true) rfl;rw[List.set_set,List.set_set]at r3;have ht:aG (·=fb) w (((w.setCell ⟨fb,i*7+3,none⟩ v).setCell ⟨fb,i*7+5,none⟩ (.bool true)).setCell ⟨fb,i*7+6,none⟩ (.bool true)):=(((aG.refl (·=fb) w).setCell ⟨fb,i*7+3,none⟩ v (.inl rfl)).setCell ⟨fb,i*7+5,none⟩ (.bool true) (.inl rfl)).setCell ⟨fb,i*7+6,none⟩ (.bool true) (.inl rfl);have ZO:∀x,v.ownBlock=some x->x<w.heap.size:=fun x hx=>(aL hv x hx).1;refine h.uo r3 (ht.mono fun _ _ e=>.inl e) (au.tZ mG) (fun x t hx=>Nat.lt_of_lt_of_le (au.vY h.owned ZO x t hx) ht.size) ?_ ?_
 ·obtain⟨m,m1,m2⟩:=h.um;exact⟨m,m1.turn ht (au.ne h.oK h.sj ag),m2.same (cu hi) rfl rfl rfl⟩
 ·exact⟨aU (ht.ownsRow hv (fun x hx e=>by have:=mG x hx;rw[e,h.sj]at this;cases this)) (Nat.zero_le _),fun x hx=>au.zT hx⟩
def nQ(w:World)(pb db n:Nat)(o:au)(d:Dsk)(L L':aH)(e:Ending)(w':World):Prop:=
 ∃c d' o',e=.returned (.int .i64 ((c:Nat):Int))/\aR w' pb db n o' d' (if c=0 then L' else L)/\aG (o.In cM) w w'/\cF w.heap.size o o'/\bR d d'/\(c=0\/lK d d' L c)
theorem bz.X2{w:World}{pb db fb mb:Nat}{o:au}{l:List iM}{hand mf:Nat}{d:Dsk}(h:bz w pb db fb mb o l hand mf d):o.In cM mb:=⟨_,h.oK,show 8<10 by decide⟩
theorem bz.adP{w:World}{pb db fb mb:Nat}{o:au}{l:List iM}{hand mf:Nat}{d:Dsk}(h:bz w pb db fb mb o l hand mf d):o.In cM pb:=⟨_,h.yT,show 6<10 by decide⟩
theorem VE{n:Nat}{o o':au}(hg:cF n o o'){C:Nat->Prop}{x:Nat}(hx:x<n)(h:o'.In C x):o.In C x:=by
 obtain⟨t,h1,h2⟩:=h;exact⟨t,by rw[<- hg x hx];exact h1,h2⟩
theorem Ct(HW:aP){w:World}{pb db n:Nat}{o:au}{d:Dsk}{L:aH}(h:aR w pb db n o d L){name:Name}{ps:List Pg}{fl:Bool}(hL:aB L name=some (.inl (ps,fl))){k:Nat}(hk:k<=ps.length)(Ce:k<65536){v:Value}{b:Pg}(hv:Rd w v b)(hb:b.length<=240)(mG:∀x,v.ownBlock=some x->o x=none) :
 Calls prog 155 #[ptrTo pb,.string name,.int .i64 (k:Int),v] w (nQ w pb db n o d L (aS L name (.inl (di ps k b,false)))):=by
 obtain⟨fb,mb,l,hand,mf,hp,rfl,hg⟩:=h;have hs:=cg (hg.ok name (by rw[hL];rfl));have aM:=ae (qK hp hg hL);have H:=ae hp;have HG:=ae hg;have HL:=ae hL;have HV:=ae hv;have wN:=ae mG;have HK:=ae hk;have Gf:=ae hb;obtain⟨va,vc,rfl,-⟩:=hv;have hn:=hp.most;have Od:=hp.head.lt;obtain⟨m,ej,cT⟩:=hp.um;have e9:=ae ej;have eV:=ae cT;have QZ:=ae (rE (s:=name) (n:=k) (by unfold maxLen;omega) af);have amt:¬((b.length:Int)>240):=by omega
 have Kf:¬((k:Int)>(ps.length:Int)):=by omega
 have Ka:¬((k:Int)<0):=by omega
 clear hp hg hL ej cT mG hk hb;unfold ptrTo at *;unfold eA at aM;generalize hP:ps.length=P at *;have HP:=ae hP;clear hP;generalize hB:b.length=B at *;have HB:=ae hB;clear hB;cases hd:d.dead with
 |true=>
   rw[hd,if_pos rfl]at aM;have HD:=ae hd;clear hd;go_enter func155,ntmps155;go_wp2_with fail;refine aM.out.mono ?_;rintro e w1⟨rfl,hb⟩;have cO:=ae hb;clear hb;go_wp2;go_ret;exact⟨6,d,o,rfl,⟨fb,mb,l,hand,mf,H.out.below cO.out,rfl,HG.out⟩,aG.aV cO.out,cF.refl _ _,bR.refl d,.inr (.inr ⟨rfl,HD.out⟩)⟩
 |false=>
   rw[hd,if_neg ai]at aM;clear hd;have hz:∀W:World,(zeroValue 3).run prog W=.ok (.int .i64 0) W:=fun W=>by kernel_rfl
   cases EM:aB m (name,k) with
   |some i=>
     have Ry:=ae EM;clear EM;obtain⟨fr,hi,sY,hf2,hf3⟩:=(eV.out name k i).1 Ry.out;have mU:i<l.length:=by have:=aN hi;rwa [List.length_map]at this
     go_enter func155,ntmps155;go_wp2_with fail;refine aM.out.mono ?_;rintro e w1⟨rfl,hb⟩;have cO:=ae hb;have H1:=ae (H.out.below hb);have eH:Hid (jt w1 mb m):=ae (e9.out.kept (hb.block mb e9.out.lt));clear hb;obtain⟨⟨-,hc1,hc2,-⟩,-⟩:=H1.out.head.cells;obtain⟨a,c,f0,hi'⟩:=H1.out.shaped.get rfl mU;obtain rfl:f0=fr:=by
      have:=cu hi';rw[hi]at this;exact(Option.some.inj this).symm
     have HI':=ae hi';have RF:=ae (HV.out.below cO.out);clear hi hi';go_wp2_with (first | (at_lookup;refine bY _ rfl _ _ _ _ rfl 3 jW fM Tryz.underlying148 (hz _) mb m rfl eH.out (name,k) rfl QZ.out ?_;unfold qh;rw[Ry.out];simp only[Option.map_some,Option.getD_some,Option.isSome_some]) | fail);have x9:=ae (fX _ b w1 RF.out (by have:=HB.out;have:=Gf.out;omega));refine x9.out.mono ?_;rintro e w2⟨v2,rfl,kD,hb2⟩;obtain⟨a2,c2,rfl⟩:=aA kD;have H2:=ae (H1.out.below hb2);have cY:=ae (cO.out.trans (hb2.mono cO.out.size));have qo:=ae kD;have hs1:w.heap.size<=w1.heap.size:=cO.out.size;have X3:Hid (∀x,(Value.slice a2 b.length c2).ownBlock=some x->o x=none):=ae (fun x hx=>eM H.out.owned (Nat.le_trans hs1 (aI kD x hx)));clear kD hb2 hc1 hc2;obtain⟨-,-,-,h3,-,h5,h6⟩:=H2.out.row.seven HI'.out;have z3:=H2.out.row.free (i*7+3);have z5:=H2.out.row.free (i*7+5);have z6:=H2.out.row.free (i*7+6);go_wp2;go_ret;have ZP:=H2.out.lay HI'.out qo.out X3.out;have ZQ:=HG.out.write (cu HI'.out) HL.out (u:=true) (by rw[HP.out];exact HK.out) Ce (b:=b) (by rw[HB.out];exact Gf.out) (.inl ⟨sY,hf2,hf3⟩);refine⟨0,d,_,rfl,⟨fb,mb,_,hand,mf,ZP,List.length_set,?_⟩,?_,?_,bR.refl d,.inl rfl⟩
     ·rw[if_pos rfl,map_set];subst hf2 hf3;rw[sY];exact ZQ
     ·exact(((aG.aV cY.out).setCell ⟨fb,i*7+3,none⟩ _ (.inl H.out.mV)).setCell ⟨fb,i*7+5,none⟩ (.bool true) (.inl H.out.mV)).setCell ⟨fb,i*7+6,none⟩ (.bool true) (.inl H.out.mV)
     ·exact au.tY (fun x hx=>Nat.le_trans hs1 (aI qo.out x hx))
   |none=>
     have Ry:=ae EM;clear EM;have vZ:∀(j:Nat)(fj:bZ),(l.map (·.2))[j]? = some fj->fj.full=true->fj.name=name->fj.k=k->False:=fun j fj h1 h2 h3 h4=>by
      have:=(eV.out name k j).2 ⟨fj,h1,h2,h3,h4⟩;rw[Ry.out]at this;cases this
     have ZK:=ae vZ;clear vZ;go_enter func155,ntmps155;go_wp2_with fail;refine aM.out.mono ?_;rintro e w1⟨rfl,hb⟩;have cO:=ae hb;have H1:=ae (H.out.below hb);have eH:Hid (jt w1 mb m):=ae (e9.out.kept (hb.block mb e9.out.lt));have RF:=ae (HV.out.below hb);clear hb;obtain⟨⟨-,-,hc2,-⟩,-⟩:=H1.out.head.cells;go_wp2_with (first | (at_lookup;refine bY _ rfl _ _ _ _ rfl 3 jW fM Tryz.underlying148 (hz _) mb m rfl eH.out (name,k) rfl QZ.out ?_;unfold qh;rw[Ry.out];simp only[Option.map_none,Option.getD_none,Option.isSome_none]) | fail);refine(Hd HW H1.out HG.out).mono ?_;rintro e w4⟨o4,l4,Hf,d4,c4,i4,rfl,po,hg4,uz,yX,Rz,Hg,tX,Om⟩;have ye:=ae po;have yo:=ae hg4;have RA:=ae uz;have Cs:=ae yX;have ZL:=ae Rz;have Ak:=ae Hg;have hs1:w.heap.size<=w1.heap.size:=cO.out.size;have vI:=ae ((aG.aV cO.out).trans tX (fun _ _ h=>h):aG (o.In cM) w w4);have KB:Hid (cF w.heap.size o o4):=ae (fun x hx=>Om x (Nat.lt_of_lt_of_le hx cO.out.size));have KD:Hid (Rd w4 (.slice va B vc) b):=ae (tX.rd RF.out (fun x hx=>au.dE (wN.out x hx)));have pq:w.heap.size<=w4.heap.size:=vI.out.size;clear po hg4 uz yX Rz Hg tX Om hc2;by_cases iz:c4=0
     ·subst iz;obtain⟨p4,xX,KC⟩:=ZL.out rfl;have HI4:=ae xX;have ZN:=aN xX;have RB:=ae KC;have Al:∀(j:Nat)(fj:bZ),(l4.map (·.2))[j]? = some fj->fj.full=true->fj.name=name->fj.k=k->False:=fun j fj h1 h2 h3 h4=>by
       obtain⟨y,g1,g2,g3,g4⟩:=Ak.out.2 j fj h1 h2;exact ZK.out j y g1 g2 (g3.trans h3) (g4.trans h4)
      have RD:=ae Al;have nP:=ae (G3 ye.out xX KC ⟨true,name,k,[],false,false⟩ (a:=none) (c:=0) (base:=0) (ownsRow_nil _ _ _) (fun x hx=>by cases hx) Al hs (by show k<_;omega) false);unfold ptrTo at nP;dsimp only at nP;clear xX KC Al;go_wp2_with fail;refine nP.out.mono ?_;rintro e w5⟨rfl,⟨mf5,Gb⟩,rU⟩;have adQ:o4.put (.slice none ([]:Pg).length 0) (9,0)=o4:=rfl;rw[adQ]at Gb;have M7:=ae Gb;have Ey:=ae (vI.out.trans rU (fun x hx e=>by
       have h1:o4.In cM x:=by
        rcases e with rfl | rfl | rfl
        ·exact ye.out.mV
        ·exact ye.out.X2
        ·exact ye.out.adP
       exact VE KB.out hx h1))
      have Oo:Hid (Rd w5 (.slice va B vc) b):=ae (rU.rd KD.out (fun x hx e=>by
       have Re:=wN.out x hx;rcases e with rfl | rfl | rfl
       ·rw[H.out.sj]at Re;cases Re
       ·rw[H.out.oK]at Re;cases Re
       ·rw[H.out.yT]at Re;cases Re))
      clear Gb rU;have VD:(l4.set i4 (Value.slice none ([]:Pg).length 0,(⟨true,name,k,[],false,false⟩:bZ)))[i4]? = some (Value.slice none ([]:Pg).length 0,⟨true,name,k,[],false,false⟩):=by rw[fo ZN,if_pos rfl]
      have HI5:=ae VD;clear VD;obtain⟨⟨-,hc1,-⟩,-⟩:=M7.out.head.cells;go_wp2_with fail;have x9:=ae (fX _ b w5 Oo.out (by have:=HB.out;have:=Gf.out;omega));refine x9.out.mono ?_;rintro e w6⟨v6,rfl,ho6,Gg⟩;obtain⟨a6,c6,rfl⟩:=aA ho6;have H6:=ae (M7.out.below Gg);have QX:=ae (Ey.out.bN Gg);have ZR:=ae ho6;have hs5:w.heap.size<=w5.heap.size:=Ey.out.size;have HF6:Hid (∀x,(Value.slice a6 b.length c6).ownBlock=some x->o4 x=none):=ae (fun x hx=>eM M7.out.owned (aI ho6 x hx));clear ho6 Gg hc1;obtain⟨-,-,-,h3,-,h5,h6⟩:=H6.out.row.seven HI5.out;have z3:=H6.out.row.free (i4*7+3);have z5:=H6.out.row.free (i4*7+5);have z6:=H6.out.row.free (i4*7+6);go_wp2;go_ret;have ZP:=H6.out.lay HI5.out ZR.out HF6.out;have aiF:p4.2.bU=false:=by
       rw[yo.out.blank p4.2 (List.mem_of_getElem? (cu HI4.out)) RB.out];rfl
      have ZQ:=yo.out.write (cu HI4.out) HL.out (u:=true) (by rw[HP.out];exact HK.out) Ce (b:=b) (by rw[HB.out];exact Gf.out) (.inr ⟨aiF,fun i' fi' _ h1 h2 h3 h4=>RD.out i' fi' h1 h2 h3 h4⟩);refine⟨0,d4,_,rfl,⟨fb,mb,_,Hf,mf5,ZP,by rw[List.length_set,List.length_set];simpa using Ak.out.1,?_⟩,?_,?_,RA.out,.inl rfl⟩
      ·rw[if_pos rfl,List.set_set,map_set];exact ZQ
      ·exact((QX.out.setCell ⟨fb,i4*7+3,none⟩ _ (.inl H.out.mV)).setCell ⟨fb,i4*7+5,none⟩ (.bool true) (.inl H.out.mV)).setCell ⟨fb,i4*7+6,none⟩ (.bool true) (.inl H.out.mV)
      ·exact KB.out.trans (au.tY (n:=w5.heap.size) (fun x hx=>aI ZR.out x hx)) hs5
     ·have uA:¬(c4:Int)=0:=by omega
      have BV:=ae iz;clear iz;go_wp2;go_ret;refine⟨c4,d4,o4,rfl,⟨fb,mb,l4,Hf,mf,ye.out,by simpa using Ak.out.1,?_⟩,vI.out,KB.out,RA.out,Cs.out⟩;rw[if_neg BV.out];exact yo.out
theorem lK.later{d d1 d2:Dsk}{L:aH}{c:Nat}(hq:d1.bO=d.bO)(h:lK d1 d2 L c):lK d d2 L c:=by
 rcases h with⟨h1,h2⟩| h
 ·exact .inl ⟨h1,by rw[<- hq];exact h2⟩
 ·exact .inr h
theorem Sound.synced{d:Dsk}{fs:List bZ}{L:aH}(h:Sound d fs L){name:Name}{ps:List Pg}{fl:Bool}(hL:aB L name=some (.inl (ps,fl)))(hno:∀k,¬eU fs name k) :
 Sound (d.sync name).1 fs (if (d.sync name).2=0 then aS L name (.inl (ps,true)) else L)/\bR d (d.sync name).1/\((d.sync name).2=0\/lK d (d.sync name).1 L (d.sync name).2):=by
 obtain⟨f,dp,q⟩:=h.dI _ _ _ hL;have fe:bM name=true:=h.ok name (by rw[hL];rfl);unfold Dsk.sync;cases hd:d.tick.dead with
 |true=>exact⟨h.tick,bR.tick d,.inr (.inr ⟨rfl,hd⟩)⟩
 |false=>
   rw[if_neg ai,fe,if_neg ai,q.get];dsimp only;exact⟨h.sync hL hno q.get rfl rfl,(bR.tick d).of rfl rfl rfl,.inl rfl⟩
theorem Oq(HW:aP){w:World}{pb db n:Nat}{o:au}{d:Dsk}{L:aH}(h:aR w pb db n o d L){name:Name}{ps:List Pg}{fl:Bool}(hL:aB L name=some (.inl (ps,fl))) :
 Calls prog 79 #[ptrTo pb,.string name] w (nQ w pb db n o d L (aS L name (.inl (ps,true)))):=by
 obtain⟨fb,mb,l,hand,mf,hp,rfl,hg⟩:=h;obtain⟨df,dp,q,lZ,kI⟩:=hg.Ag hL;have fe:=cg (hg.ok name (by rw[hL];rfl));have iA:=hg.wR;have hn:=hp.most;have H:=ae hp;have HG:=ae hg;have HQ:=ae q;have yV:=ae iA;have HL:=ae hL;have aM:=ae (s5 hp name fe);have HLEN:Hid (l.length<=4096):=ae hn;have hhi:Hid (∀p,eU (l.map (·.2)) name p->p<16777216):=ae (fun p ⟨j,fr,h1,_,_,_,h5⟩=>by
  have:=(hg.fit fr (List.mem_of_getElem? h1)).2;omega)
 clear hp hg q iA hL;unfold ptrTo at *;cases hd:d.dead with
 |true=>
   obtain⟨-,Cj⟩:=kI hd;have MX:=ae Cj;have HD:=ae hd;clear hd Cj lZ kI;go_enter func79,ntmps79;go_wp2_with fail;refine aM.out.mono ?_;rintro e w1⟨v1,n1,rfl,hb1,-⟩;rw[MX.out];have HB:=ae hb1;clear hb1;go_wp2;go_ret;exact⟨6,d,o,rfl,⟨fb,mb,l,hand,mf,H.out.below HB.out,rfl,HG.out⟩,aG.aV HB.out,cF.refl _ _,bR.refl d,.inr (.inr ⟨rfl,HD.out⟩)⟩
 |false=>
   obtain⟨hsz,Cj⟩:=lZ hd;have MX:=ae Cj;clear hd Cj lZ kI hsz;go_enter func79,ntmps79;go_wp2_with fail;refine aM.out.mono ?_;rintro e w1⟨v1,n1,rfl,hb1,hy⟩;obtain⟨-,pf,rfl,hp,hpl⟩:=hy MX.out;rw[MX.out];have HB:=ae hb1;have XT:=ae hp;clear hb1 hp hy;unfold ptrTo;have ij:=ae (Dv (H.out.below HB.out) (fun p hp=>(yV.out p hp).2) name 0 16777216);unfold ptrTo at ij;go_wp2_with fail;refine ij.out.mono ?_;rintro e w2⟨v2,ls,rfl,kD,Ai,hb2⟩;have cY:=ae (HB.out.trans (hb2.mono HB.out.size));have qo:=ae kD;have HT:=ae Ai;have adw:Hid (ls.length<=100000):=ae (by
    have h1:=Ai.length_le;rw[List.length_map]at h1;have:=HLEN.out;omega)
   have Rq:=ae (XT.out.below hb2);have UO:Hid (∀x∈ls,x<l.length):=ae (fun x hx=>by
    obtain⟨fr,h1,_⟩:=(HT.out.mem x).1 hx;have:=aN h1;rwa [List.length_map]at this)
   have Cj:=ae (eM H.out.owned hpl);have l6:=ae (MW HW (H.out.below cY.out) yV.out fe Rq.out Cj.out qo.out (fun b hb=>eM H.out.owned (by have:=aI qo.out b hb;have:=HB.out.size;omega)) UO.out adw.out);obtain⟨d',qm,ec,hr,MT,zu,uw,ux,he⟩:=Sound.Vs HL.out ls d (l.map (·.2)) df dp HG.out HQ.out (HT.out.Vs HG.out hhi.out);rw[hr]at l6;have HG':=ae MT;have HON:=ae zu;have M0:=ae ux;have HE:=ae he;have Rs:=ae uw;unfold ptrTo at l6;clear hr MT zu uw ux he kD Ai hb2;go_wp2_with fail;refine l6.out.mono ?_;rintro e w4⟨o',l',rfl,po,hl4,M4,Rt,tX,hg4⟩;dsimp only at hl4 po;have ye:=ae po;have M6:=ae hl4;have X4:=ae M4;have vI:=ae ((aG.aV cY.out).trans tX (fun _ _ h=>h):aG (o.In cM) w w4);have yo:Hid (cF w.heap.size o o'):=ae (fun x hx=>hg4 x (Nat.lt_of_lt_of_le hx cY.out.size));have RB:Hid (nM w4 pf db name):=ae (Rq.out.kept tX (au.dE Cj.out));clear po hl4 M4 Rt tX hg4;by_cases hc:ec=0
   ·subst hc;have hno:∀k,¬eU qm name k:=fun k ⟨j,fj,g1,g2,g3,g4,g5⟩=>by
     have lQ:j<(l.map (·.2)).length:=by rw[<- Rs.out];exact aN g1
     obtain⟨dd,s1,s2,s3,s4⟩:=M0.out j _ (List.getElem?_eq_getElem lQ);rw[g1]at s1;have e1:=Option.some.inj s1;subst e1;dsimp only at g2 g3 g4 g5;have hm:j∈ls:=(HT.out.mem j).2 ⟨_,List.getElem?_eq_getElem lQ,gJ.2 ⟨g2,s2 g3,g4,Nat.zero_le _,hhi.out _ ⟨j,_,List.getElem?_eq_getElem lQ,g2,s2 g3,g4,rfl⟩⟩⟩;have:=s4 rfl hm;rw[this]at g3;cases g3
    obtain⟨hs1,hs2,hs3⟩:=HG'.out.synced HL.out hno;have jg:=ae hs1;have eP:=ae hs2;have fF:=ae hs3;have nP:=ae (Kv ye.out.mK RB.out fe);unfold ptrTo at nP;clear hno hs1 hs2 hs3;generalize (d'.sync name).1=d5 at *;generalize (d'.sync name).2=c5 at *;go_wp2_with fail;refine nP.out.mono ?_;rintro e w5⟨rfl,o5,Zk,rU,Cp⟩;have M7:=ae (ye.out.Ac Zk rU Cp);have Ey:=ae (vI.out.owned yo.out rU.aY);have HG5:=ae (yo.out.trans Cp vI.out.size);clear Zk rU Cp;go_wp2;go_ret;refine⟨c5,d5,o5,rfl,⟨fb,mb,l',hand,mf,M7.out,X4.out,by rw[M6.out];exact jg.out⟩,Ey.out,HG5.out,HON.out.trans eP.out,fF.out.imp id (lK.later HON.out.bO)⟩
   ·have hc':¬(ec:Int)=0:=by omega
    have HC:=ae hc;clear hc;go_wp2;go_ret;refine⟨ec,d',o',rfl,⟨fb,mb,l',hand,mf,ye.out,X4.out,by rw[M6.out,if_neg HC.out];exact HG'.out⟩,vI.out,yo.out,HON.out,HE.out⟩
def fq(name:Name)(f:bZ):bZ:=if f.full=true/\f.name=name then bZ.none else f
def mg(name:Name)(k:Nat)(fs:List bZ):List bZ:=(fs.take k).map (fq name)++fs.drop k
theorem Hi(name:Name)(fs:List bZ):mg name 0 fs=fs:=by rfl
theorem KE(name:Name)(fs:List bZ):mg name fs.length fs=fs.map (fq name):=by simp[mg]
theorem sq(name:Name)(k:Nat)(fs:List bZ):(mg name k fs).length=fs.length:=by
 grind [mg]
theorem Am(name:Name){k:Nat}{fs:List bZ}(h:k<=fs.length)(j:Nat):(mg name k fs)[j]? = if j<k then (fs[j]?).map (fq name) else fs[j]? := by
 grind [mg]
theorem Hj(name:Name){k:Nat}{fs:List bZ}{f:bZ}(h:fs[k]? = some f):mg name (k+1) fs=(mg name k fs).set k (fq name f):=by
 have hk:=aN h;apply List.ext_getElem?;grind [sq,Am]
theorem lx{name:Name}{f:bZ}(h:(fq name f).full=true):fq name f=f/\f.full=true/\f.name≠name:=by
 unfold fq at h ⊢;split at h
 ·cases h
 grind
theorem Hk{name:Name}{fs:List bZ}{j:Nat}{x:bZ}(h:(fs.map (fq name))[j]? = some x):∃y,fs[j]? = some y/\x=fq name y:=by
 grind
theorem sr{name n:Name}{fs:List bZ}{k:Nat}(hn:n≠name):eU (fs.map (fq name)) n k↔eU fs n k:=by
 constructor
 ·rintro⟨j,x,h,h1,h2,h3,h4⟩;obtain⟨y,hy,rfl⟩:=Hk h;obtain⟨e,g1,g2⟩:=lx h1;rw[e]at h2 h3 h4;exact⟨j,y,hy,g1,h2,h3,h4⟩
 ·rintro⟨j,y,h,h1,h2,h3,h4⟩;refine⟨j,y,?_,h1,h2,h3,h4⟩;grind [fq]
theorem Sound.VF{d:Dsk}{fs:List bZ}{L:aH}(h:Sound d fs L){name:Name}{ps:List Pg}{fl:Bool}(hL:aB L name=some (.inl (ps,fl))){f:bT}{dp:List Pg}(q:dz d fs name ps fl f dp) :
 Sound d (fs.map (fq name)) (aS L name (.inl (dp,false))) where
 keys:=ct h.keys
 fS:=h.fS
 names:=fun n=>by
  grind [cG,names]
 ok:=fun n hn=>by
  grind [cG,ok]
 dI:=fun n GR kT hg=>by
  rw[ay]at hg;by_cases e:n=name
  ·rw[if_pos e]at hg;cases hg;subst e;exact⟨f,_,q.get,q.now,Nat.le_refl _,Nat.le_trans q.le q.most,q.Cm,q.Cm,fun k hk=>.inl ⟨hk,rfl⟩,fun e=>(by cases e),q.lu⟩
  ·rw[if_neg e]at hg;obtain⟨f',dp',q'⟩:=h.dI n GR kT hg;refine⟨f',dp',q'.get,q'.now,q'.le,q'.most,q'.short,q'.Cm,fun k hk=>(q'.each k hk).imp id (sr e).2,fun e'=>?_,q'.lu⟩;grind [dz.gZ,sr]
 lX:=fun n f' ls hg=>by
  grind [ay,lX]
 frames:=fun fr dQ hf=>by
  grind [lx,frames,ay]
 blank:=fun fr dQ hf=>by
  grind [fq,blank]
 once:=fun i j fi fj hi hj h1 h2 h3 h4=>by
  grind [lx,once]
 dm:=fun n s hs=>by
  grind [cG,dm]
theorem Dy{κ υ:Type}[DecidableEq κ](m:List (κ×υ))(k:κ)(v:υ):bX (aS m k v) k=bX m k:=by
 unfold aS bX;simp
def M9(d':Dsk)(L L':aH)(name:Name)(c:Nat):Prop:=c=0/\L'=bX L name\/c=6/\d'.dead=true/\∃dp,L'=aS L name (.inl (dp,false))
theorem Sound.VG{d:Dsk}{fs:List bZ}{L:aH}(h:Sound d fs L){name:Name}{ps:List Pg}{fl:Bool}(hL:aB L name=some (.inl (ps,fl))) :
 ∃L',Sound (d.remove name).1 (fs.map (fq name)) L'/\bR d (d.remove name).1/\M9 (d.remove name).1 L L' name (d.remove name).2:=by
 obtain⟨f,dp,q⟩:=h.dI _ _ _ hL;have fe:bM name=true:=h.ok name (by grind);have he:=h.VF hL q;unfold Dsk.remove;cases hd:d.tick.dead with
 |true=>exact⟨_,he.tick,bR.tick d,.inr ⟨rfl,hd,dp,rfl⟩⟩
 |false=>
   rw[if_neg ai,fe,if_neg ai,q.get];dsimp only;refine⟨bX L name,?_,(bR.tick d).of rfl rfl rfl,.inl ⟨rfl,rfl⟩⟩;grind [Dy,drop,lx]
theorem qB{α:Type}{l:List α}{j:Nat}{x:α}(h:l[j]? = some x):l.set j x=l:=by
 apply List.ext_getElem?;intro i;rw[fo (aN h)];by_cases e:i=j
 ·subst e;rw[if_pos rfl,h]
 ·rw[if_neg e]
def Hn(w:World)(pb db n:Nat)(o:au)(d:Dsk)(L:aH)(name:Name)(e:Ending)(w':World):Prop:=
 ∃c d' o' L',e=.returned (.int .i64 ((c:Nat):Int))/\aR w' pb db n o' d' L'/\aG (o.In cM) w w'/\cF w.heap.size o o'/\bR d d'/\M9 d' L L' name c
theorem uB{w:World}{pb db nf:Nat}{o:au}{d:Dsk}{L:aH}(h:aR w pb db nf o d L){name:Name}{ps:List Pg}{fl:Bool}(hL:aB L name=some (.inl (ps,fl))) :
 Calls prog 62 #[ptrTo pb,.string name] w (Hn w pb db nf o d L name):=by
 obtain⟨fb,mb,l,hand,mf,hp,hnf,hg⟩:=h;have HNF:=ae hnf;clear hnf;have fe:=cg (hg.ok name (by rw[hL];rfl));have iA:=hg.wR;have hn:=hp.most;have H:=ae hp;have yV:=ae iA;have wG:=ae hp.row;have HS:=ae hp.shaped;have HNS:Hid (∀fr∈l.map (·.2),fr.full=true->fr.name.size<=1000):=ae (fun fr dQ hf=>by
  obtain⟨GR,kT,r1,_⟩:=hg.frames fr dQ hf;exact cg (hg.ok _ (by rw[r1];rfl)))
 obtain⟨L',hs1,hs2,hs3⟩:=hg.VG hL;have jg:=ae hs1;have eP:=ae hs2;have fF:=ae hs3;obtain⟨⟨-,hc1,-⟩,-⟩:=hp.head.cells;have aiH:Hid (∀W o',cI W db o' d->Calls prog 96 #[ptrTo db,.string name] W fun e w'=>e=.returned (.int .i64 ((d.remove name).2:Int))/\cy W db o' (d.remove name).1 w'):=ae (fun W o' hW=>Km hW name fe);clear hp hg iA hL hs1 hs2 hs3;unfold ptrTo at *;generalize (d.remove name).1=d5 at *;generalize (d.remove name).2=c5 at *;generalize hN:l.length=n at *;have HN:=ae hN;clear hN;go_enter func62,ntmps62;go_wp2;go_loopw [16] (fun i wr=>∃k:Nat,k<=n/\i=.int .i64 (k:Int)/\Below w.heap.size w wr) (fun i _=>n-(intOf i).toNat)
 case atStart=>exact⟨0,Nat.zero_le _,rfl,Below.refl _ _⟩
 case round=>
  obtain⟨k,hk,rfl,hb⟩:=hrel;by_cases hlt:k<n
  ·obtain⟨a,c,f,hi⟩:=HS.out.get HN.out hlt;obtain⟨h0,h1,h2,h3,h4,h5,h6⟩:=(wG.out.below hb).seven hi;have zS:wr.cell? ⟨pb,1,none⟩=some (.slice (some ⟨fb,0,none⟩) n n):=by rw[hb.cell (p:=⟨pb,1,none⟩) (World.block_lt_of_cell? _ _ hc1)];exact hc1
   have HB:=ae hb;clear hi hb;obtain⟨full,nm,fk,bs,bU,used⟩:=f;dsimp only at *;by_cases vJ:nm=name;case' pos=>have XU:(nm.toList == name.toList)=true:=by rw[vJ];exact beq_self_eq_true _
   case' neg=>have XU:(nm.toList == name.toList)=false:=qJ vJ
   all_goals
    clear vJ;cases full
   all_goals
    go_wp2;go_roundw
    case rel=>exact⟨k+1,af,by go_num,HB.out.alloc HB.out.size _⟩
    case measure=>simp[intOf];omega
  ·obtain rfl:k=n:=by omega
   have H1:=ae (H.out.below hb);have HB:=ae hb;have zS:wr.cell? ⟨pb,1,none⟩=some (.slice (some ⟨fb,0,none⟩) k k):=by rw[hb.cell (p:=⟨pb,1,none⟩) (World.block_lt_of_cell? _ _ hc1)];exact hc1
   clear hb hc1;go_wp2;generalize wr=W1 at *;go_loopw [40] (fun i wr=>∃(j:Nat)(l2:List iM),j<=k/\i=.int .i64 (j:Int)/\bz wr pb db fb mb o l2 hand mf d/\l2.map (·.2)=mg name j (l.map (·.2))/\aG (o.In cM) W1 wr) (fun i _=>k-(intOf i).toNat)
   case atStart=>exact⟨0,l,Nat.zero_le _,rfl,H1.out,(Hi _ _).symm,aG.refl _ _⟩
   case round=>
    obtain⟨j,l2,hj,rfl,ko,hl2,oJ⟩:=hrel;have sk:l2.length=k:=by
     have:=congrArg List.length hl2;rw[List.length_map,sq,List.length_map,HN.out]at this;exact this
    by_cases hlt:j<k
    ·obtain⟨a,c,f,hi⟩:=ko.shaped.get sk hlt;have hfo:(l.map (·.2))[j]? = some f:=by
      have:=cu hi;rw[hl2,Am _ (by rw[List.length_map,HN.out];omega),if_neg (Nat.lt_irrefl _)]at this;exact this
     have hsu:=Hj name hfo;obtain⟨h0,h1,h2,h3,h4,h5,h6⟩:=ko.row.seven hi;have Vx:=(yV.out _ (List.mem_of_getElem? (show l[j]? = some ((l[j]'(by rw[HN.out];exact hlt)).1,f) from by
      have lQ:j<l.length:=by rw[HN.out];exact hlt
      rw[List.getElem?_eq_getElem lQ];rw[List.getElem?_map,List.getElem?_eq_getElem lQ]at hfo;have:=Option.some.inj hfo;rw[<- this]))).2
     dsimp only at Vx;have UR:=HNS.out f (List.mem_of_getElem? hfo);have p8:=ae ko;have JU:=ae hl2;have mP:=ae oJ;have HI:=ae hi;have HSU:=ae hsu;have Aj:=ae sk;have aiI:=ae UR;clear ko hl2 oJ hi hsu sk hfo UR;by_cases hm:f.full=true/\f.name=name
     ·obtain⟨ej,cT⟩:=hm;have XU:(f.name.toList == name.toList)=true:=by rw[cT];exact beq_self_eq_true _
      have e9:=ae ej;have eV:=ae cT;have aM:Hid (∀W,Below wr.heap.size wr W->Calls prog 95 #[ptrTo pb,.int .i64 (j:Int)] W fun e w'=>e=.returned (.tuple #[])/\bz w' pb db fb mb o (l2.set j (.slice none 0 0,bZ.none)) hand mf d/\aG (o.In cM) wr w'):=ae (fun W hW=>
       (wH (p8.out.below hW) HI.out e9.out (aiI.out e9.out) (by show f.k<_;omega)).mono (fun e w' ⟨q1,q2,q3⟩=>⟨q1,q2,(aG.aV hW).trans q3 (fun x _ e=>by
         rcases e with rfl | rfl
         ·exact p8.out.mV
         ·exact p8.out.X2)⟩))
      unfold ptrTo at aM;rw[ej]at h0;clear ej cT;go_wp2_with fail;refine(aM.out _ aj).mono ?_;rintro e w3⟨rfl,Qc,yY⟩;have HP3:=ae Qc;have rB:=ae yY;clear Qc yY;go_wp2;go_roundw
      case rel=>
       refine⟨j+1,_,af,by go_num,HP3.out,?_,mP.out.trans rB.out (fun _ _ h=>h)⟩;rw[map_set,JU.out,HSU.out];unfold fq;rw[if_pos ⟨e9.out,eV.out⟩]
      case measure=>simp[intOf];omega
     ·have Ho:(l2.map (·.2))=mg name (j+1) (l.map (·.2)):=by
       rw[HSU.out];unfold fq;rw[if_neg hm,<- JU.out];exact(qB (cu HI.out)).symm
      have X5:=ae Ho;clear Ho;cases Ha:f.full with
      |false=>
        rw[Ha]at h0;clear hm Ha;go_wp2;go_roundw
        case rel=>exact⟨j+1,l2,af,by go_num,p8.out.below aj,X5.out,mP.out.bN aj⟩
        case measure=>simp[intOf];omega
      |true=>
        have XU:(f.name.toList == name.toList)=false:=qJ (fun e=>hm ⟨Ha,e⟩);rw[Ha]at h0;clear hm Ha;go_wp2;go_roundw
        case rel=>exact⟨j+1,l2,af,by go_num,p8.out.below aj,X5.out,mP.out.bN aj⟩
        case measure=>simp[intOf];omega
    ·obtain rfl:j=k:=by omega
     have p8:=ae ko;have JU:=ae hl2;have mP:=ae oJ;have Aj:=ae sk;clear ko hl2 oJ sk;obtain⟨⟨hc0,-⟩,-⟩:=p8.out.head.cells;unfold ptrTo at hc0;go_wp2_with fail;refine(aiH.out _ o p8.out.mK).mono ?_;rintro e w5⟨rfl,o5,Zk,rU,Cp⟩;have hg2:cF wr.heap.size o o5:=Cp;go_wp2;go_ret;have hall:l2.map (·.2)=(l.map (·.2)).map (fq name):=by
      rw[JU.out,<- KE,List.length_map,HN.out]
     have hT:aG (o.In cM) w wr:=(aG.aV HB.out).trans mP.out (fun _ _ h=>h);refine⟨c5,d5,o5,L',rfl,⟨fb,mb,l2,hand,mf,p8.out.Ac Zk rU Cp,by rw[Aj.out];exact HNF.out,by rw[hall];exact jg.out⟩,hT.trans rU.aY (fun _ _ h=>h),fun x hx=>Cp x (Nat.lt_of_lt_of_le hx hT.size),eP.out,fF.out⟩
def eQ:iM:=(.slice none 0 0,bZ.none)
def oL:Array Value:=#[.bool false,.string ByteArray.empty,.int .i64 0,.slice none 0 0,.int .i64 0,.bool false,.bool false]
theorem RG(n:Nat):madeCells oL (n*7)=(rowOf (List.replicate n eQ)).toArray:=by
 apply Array.ext_getElem?;intro i;by_cases hi:i<n*7
 ·have h1:(List.replicate n eQ)[i/7]? = some eQ:=by
   grind
  have hj:i%7<7:=Nat.mod_lt _ ag;have h2:=Ds h1 hj;rw[show 7*(i/7)+i%7=i by omega]at h2;have h3:(rowOf (List.replicate n eQ)).toArray[i]? = (bJ eQ.1 eQ.2)[i%7]? := by grind
  rw[h3];unfold madeCells;rw[Array.getElem?_map,Array.getElem?_range,if_pos hi];show some (oL[i%7]!)=(bJ eQ.1 eQ.2)[i%7]?;generalize i%7=j at hj;match j,hj with
  |0,_=>rfl
  |1,_=>rfl
  |2,_=>rfl
  |3,_=>rfl
  |4,_=>rfl
  |5,_=>rfl
  |6,_=>rfl
 grind [size_madeCells,uk]
theorem Hp:(prog.info? 172).map (fun i=>(i.zero,i.size,i.bytes))=some (some (.agg oL),7,72):=by kernel_rfl
def yq(w:World)(db n:Nat)(o:au)(d:Dsk)(L:aH)(e:Ending)(w':World):Prop:=
 ∃pb o',e=.returned (.tuple #[ptrTo pb,.int .i64 0])/\aR w' pb db n o' d L/\Below w.heap.size w w'/\cF w.heap.size o o'/\w.heap.size<=pb
theorem Hq{w:World}{db:Nat}{o:au}{d:Dsk}{L:aH}(h:cI w db o d)(n:Nat)(h1:1<=n)(h2:n<=4096)(hg:Sound d (List.replicate n bZ.none) L) :
 Calls prog 70 #[ptrTo db,.int .i64 (n:Int)] w (yq w db n o d L):=by
 obtain⟨i0,tK,hz0,hz1,hz2⟩:=info_parts Hp;have tL:∀W:World,(Instr.makeSlice 147 (.int .i64 (n:Int)) (.int .i64 (n:Int))).run prog W=.ok (.slice (some ⟨W.heap.size,0,none⟩) n n) (W.alloc (.cells (rowOf (List.replicate n eQ)).toArray 172)):=fun W=>by
  have hr:=run_make (P:=prog) W 147 172 i0 (.agg oL) Tryz.underlying147 tK hz0 .i64 .i64 n n af af (by grind) af;simp only[Int.toNat_natCast]at hr;rw[hz1,show(Value.agg oL).cells=oL from rfl,RG]at hr;exact hr
 have VH:∀(t:TypeId)(W:World),(Instr.makeMap t none).run prog W=.ok (.map (some W.heap.size)) (W.alloc (.map #[] 0)):=fun _ _=>rfl;have H:=ae h;have HG:=ae hg;clear h hg;unfold ptrTo;go_enter func70,ntmps70;go_wp2;go_returns;have hB:Below w.heap.size w (((w.alloc (.cells (rowOf (List.replicate n eQ)).toArray 172)).alloc (.map #[] 0)).alloc (.cells #[ptrTo db,.slice (some ⟨w.heap.size,0,none⟩) n n,.map (some (w.heap.size+1)),.int .i64 0,.int .i64 0,.int .i64 0] 150)):=(aj.alloc ai _).alloc (by simp;omega) _;have zQ:∀x t,o x=some t->x<w.heap.size:=by
  obtain⟨_,_,_,hd⟩:=H.out;exact hd.owned
 have s1:(w.alloc (.cells (rowOf (List.replicate n eQ)).toArray 172)).heap.size=w.heap.size+1:=by simp
 have s2:((w.alloc (.cells (rowOf (List.replicate n eQ)).toArray 172)).alloc (.map #[] 0)).heap.size=w.heap.size+1+1:=by simp
 have hh:∀(W:World)(ob:Obj)(b:Nat),b<W.heap.size->(W.alloc ob).heap[b]? = W.heap[b]? := fun W ob b hb=>(MapKept.heap_alloc W ob).2 b hb;let o':au:=((o.set w.heap.size (7,0)).set (w.heap.size+1) (8,0)).set (w.heap.size+1+1) (6,0)
 have hgrow:cF w.heap.size o o':=(((cF.refl _ _).set (Nat.le_refl _) _).set af _).set af _;have x7:∀x t,o x=some t->o' x=some t:=fun x t hx=>by rw[hgrow x (zQ x t hx)];exact hx
 have hlt:∀x t,o' x=some t->x<w.heap.size+3:=fun x t hx=>by
  grind [au.fg]
 refine⟨w.heap.size+1+1,o',rfl,⟨w.heap.size,w.heap.size+1,List.replicate n eQ,0,0,?_,List.length_replicate,?_⟩,hB,hgrow,af⟩
 ·refine { mK:=?_,yT:=au.qB _ _ _,sj:=?_,oK:=?_,head:=⟨150,?_⟩,row:=⟨172,?_⟩,um:=⟨[],?_,?_⟩,each:=?_,hand:=?_,most:=?_,full:=Nat.zero_le _ }
  ·exact H.out.kept (S:=fun _=>False) (aG.aV hB) (fun _ _ _ _ h=>h) x7 (fun x t hx=>by have:=hlt x t hx;simp_all)
  ·grind [au.fg,au.qB]
  ·grind [au.fg,au.qB]
  ·grind [World.alloc,ptrTo]
  ·grind [heap_alloc_new]
  ·have m1:=bS.made (w.alloc (.cells (rowOf (List.replicate n eQ)).toArray 172)) prog 170 eD (fun i:Nat=>.int .i64 (i:Int));grind [bS.kept]
  ·intro nm k i;constructor
   ·intro h;cases h
   ·rintro⟨fr,h1,h2,_⟩;rw[List.getElem?_map,List.getElem?_replicate]at h1;split at h1
    ·cases h1;cases h2
    grind
  ·intro p hp;rw[List.eq_of_mem_replicate hp];exact⟨ownsRow_nil _ _ _,fun b hb=>by grind [eQ,Value.ownBlock]⟩
  ·grind
  grind
 ·rw[List.map_replicate];exact HG.out
end
section
open Go.RowKit Go.Maps Go.MapKept
structure Moved(S:Nat->Prop)(n pb db:Nat)(w:World)(o:au)(d:Dsk)(w':World)(o':au)(d':Dsk)(L':aH):Prop where
 aY:aR w' pb db n o' d' L'
 turn:aG (fun x=>o.In cM x\/S x) w w'
 grow:cF w.heap.size o o'
 on:bR d d'
section
variable {S S':Nat->Prop} {n pb db:Nat} {w w' w'':World} {o o' gY:au} {d d' ig:Dsk} {L L' Ao:aH}
theorem aR.owned(h:aR w pb db n o d L):∀x t,o x=some t->x<w.heap.size:=by
 obtain⟨_,_,_,_,_,h,_,_⟩:=h;exact h.owned
theorem Moved.refl(S:Nat->Prop)(h:aR w pb db n o d L):Moved S n pb db w o d w o d L:=⟨h,aG.refl _ _,cF.refl _ _,bR.refl _⟩
theorem Moved.size(h:Moved S n pb db w o d w' o' d' L'):w.heap.size<=w'.heap.size:=h.turn.size
theorem Moved.trans(h:Moved S n pb db w o d w' o' d' L')(k:Moved S' n pb db w' o' d' w'' gY ig Ao)(hs:∀x,x<w.heap.size->S' x->S x):Moved S n pb db w o d w'' gY ig Ao:=
 ⟨k.aY,h.turn.trans k.turn (fun x hx e=>e.imp (fun⟨t,h1,h2⟩=>⟨t,by rw[<- h.grow x hx];exact h1,h2⟩) (hs x hx)),h.grow.trans k.grow h.size,h.on.trans k.on⟩
theorem Moved.mono(h:Moved S n pb db w o d w' o' d' L')(hs:∀x,x<w.heap.size->S x->S' x):Moved S' n pb db w o d w' o' d' L':=
 ⟨h.aY,h.turn.mono fun x hx e=>e.imp id (hs x hx),h.grow,h.on⟩
theorem Moved.below(h:Moved S n pb db w o d w' o' d' L')(hb:Below w'.heap.size w' w''):Moved S n pb db w o d w'' o' d' L':=
 ⟨h.aY.below hb,h.turn.bN hb,h.grow,h.on⟩
theorem Moved.aV(h:aR w pb db n o d L)(hb:Below w.heap.size w w'):Moved S n pb db w o d w' o d L:=(Moved.refl S h).below hb
theorem Moved.alloc(h:Moved S n pb db w o d w' o' d' L')(ob:Obj):Moved S n pb db w o d (w'.alloc ob) o' d' L':=h.below (ak.alloc (Nat.le_refl _) ob)
theorem Moved.drew(h:Moved S n pb db w o d w' o' d' L'):Moved S n pb db w o d w'.drew o' d' L':=h.below ak.drew
theorem Moved.drewN(h:Moved S n pb db w o d w' o' d' L')(k:Nat):Moved S n pb db w o d (w'.drewN k) o' d' L':=h.below (below_drewN ak k)
theorem Moved.free(h:Moved S n pb db w o d w' o' d' L'){x:Nat}(hx:x<w.heap.size)(ho:o x=none):o' x=none:=by rw[h.grow x hx];exact ho
theorem Moved.block(h:Moved S n pb db w o d w' o' d' L'){x:Nat}(hx:x<w.heap.size)(ho:o x=none)(hs:¬S x):w'.heap[x]? = w.heap[x]? :=
 h.turn.block x hx (fun e=>e.elim (au.dE ho) hs)
theorem Moved.not{x:Nat}(ho:o x=none)(hs:¬S x):¬(o.In cM x\/S x):=fun e=>e.elim (au.dE ho) hs
theorem Moved.heap(h:Moved S n pb db w o d w' o' d' L'){x:Nat}{ob:Obj}(hb:w.heap[x]? = some ob)(ho:o x=none)(hs:¬S x):w'.heap[x]? = some ob:=by
 grind [block]
theorem Moved.cell(h:Moved S n pb db w o d w' o' d' L'){a:Addr}{v:Value}(hc:w.cell? a=some v)(ho:o a.block=none)(hs:¬S a.block):w'.cell? a=some v:=
 h.turn.cell hc (Moved.not ho hs)
theorem Moved.ownsRow(h:Moved S n pb db w o d w' o' d' L'){base:Nat}{e:TypeId}{size:Nat}{v:Value}{k:Nat}{xs:List Value}(hr:w.ownsRow base e size v k xs)(hs:∀b,v.ownBlock=some b->o b=none/\¬S b):w'.ownsRow base e size v k xs:=
 h.turn.ownsRow hr fun b hb=>Moved.not (hs b hb).1 (hs b hb).2
theorem Moved.rd(h:Moved S n pb db w o d w' o' d' L'){v:Value}{bs:List UInt8}(hr:Rd w v bs)(hs:∀b,v.ownBlock=some b->o b=none/\¬S b):Rd w' v bs:=
 h.turn.rd hr fun b hb=>Moved.not (hs b hb).1 (hs b hb).2
theorem aR.turned(h:aR w pb db n o d L){b:Nat}(ho:o b=none)(ht:aG (·=b) w w'):aR w' pb db n o d L:=
 h.kept ht (fun x hx e=>by grind [au.dE]) (fun _ _ h=>h) (fun x t hx=>Nat.lt_of_lt_of_le (h.owned x t hx) ht.size)
theorem Moved.setCell(h:Moved S n pb db w o d w' o' d' L')(a:Addr)(v:Value)(ho:o' a.block=none)(hs:S a.block\/w.heap.size<=a.block):Moved S n pb db w o d (w'.setCell a v) o' d' L':=
 ⟨h.aY.turned ho ((aG.refl (·=a.block) w').setCell a v (.inl rfl)),h.turn.setCell a v (hs.imp Or.inr id),h.grow,h.on⟩
theorem Moved.turned(h:Moved S n pb db w o d w' o' d' L'){b:Nat}(ho:o' b=none)(hs:S b\/w.heap.size<=b)(ht:aG (·=b) w' w''):Moved S n pb db w o d w'' o' d' L':=
 ⟨h.aY.turned ho ht,h.turn.trans ht (fun x hx e=>by grind),h.grow,h.on⟩
theorem Moved.grown(h:Moved S n pb db w o d w' o' d' L'){row:Option Nat}(hg:w'.grownBy w'' row)(hr:∀k,row=some k->o' k=none/\(S k\/w.heap.size<=k)):Moved S n pb db w o d w'' o' d' L':=by
 have ht:aG (fun x=>row=some x) w' w'':=⟨hg.os,hg.tape,hg.output,hg.size,fun x hx hn=>hg.block x hx (fun e=>hn e.symm)⟩;refine⟨h.aY.kept ht (fun x hx e=>au.dE (hr x e).1 hx) (fun _ _ h=>h) (fun x t hx=>Nat.lt_of_lt_of_le (h.aY.owned x t hx) ht.size),h.turn.trans ht (fun x hx e=>?_),h.grow,h.on⟩;grind
theorem aR.fresh(h:aR w pb db n o d L){x:Nat}(hx:w.heap.size<=x):o x=none:=eM h.owned hx
theorem aR.congr(h:aR w pb db n o d L)(hk:(L'.map (·.1)).Nodup)(he:∀x,aB L' x=aB L x):aR w pb db n o d L':=by
 obtain⟨fb,mb,l,hand,mf,h,hl,g⟩:=h;exact⟨fb,mb,l,hand,mf,h,hl,{ keys:=hk,fS:=g.fS,names:=fun x=>by grind [Sound.names],ok:=fun x=>by grind [Sound.ok],dI:=fun x ps fl=>by grind [Sound.dI],lX:=fun x f ls=>by grind [Sound.lX],frames:=fun fr dQ hf=>by grind [Sound.frames],blank:=g.blank,once:=g.once,dm:=fun x s=>by grind [Sound.dm] }⟩
theorem aR.keys(h:aR w pb db n o d L):(L.map (·.1)).Nodup:=by
 obtain⟨_,_,_,_,_,_,_,g⟩:=h;exact g.keys
theorem aR.ok(h:aR w pb db n o d L){x:Name}{f:iB}(hx:aB L x=some f):bM x=true:=by
 obtain⟨_,_,_,_,_,_,_,g⟩:=h;grind [Sound.ok]
theorem Moved.congr(h:Moved S n pb db w o d w' o' d' L')(hk:(Ao.map (·.1)).Nodup)(he:∀x,aB Ao x=aB L' x):Moved S n pb db w o d w' o' d' Ao:=⟨h.aY.congr hk he,h.turn,h.grow,h.on⟩
theorem Ap(hk:(L.map (·.1)).Nodup)(Ce:(L'.map (·.1)).Nodup)(he:∀x,aB L' x=aB L x):need L'=need L:=by
 unfold need;rw[ui Ce,ui hk];have hp:(L'.map (·.1)).Perm (L.map (·.1)):=uh Ce hk fun x=>by grind [mem_keys]
 grind
end
end
end Go.Proofs.YthkkgdpomhhjjaaGreatDoor
