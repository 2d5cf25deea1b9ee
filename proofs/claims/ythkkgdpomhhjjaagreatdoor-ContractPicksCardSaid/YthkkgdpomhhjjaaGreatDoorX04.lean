/-
  Joined.
-/
import Derived.Test.YthkkgdpomhhjjaaGreatDoorX03
import Derived.Shelf.SlSortCmp.NoneTotal
set_option maxRecDepth 100000
set_option maxHeartbeats 4000000
namespace Go.Proofs.YthkkgdpomhhjjaaGreatDoor
open Go.Proofs.Tryz
section
open Go.RowKit Go.Maps Go.MapKept
open Go.ChangeMaps (setBlock heap_setBlock_same heap_setBlock_other)
theorem Gt:(prog.info? 3).map (fun i=>(i.zero,i.size,i.bytes))=some (some (.int .i64 0),1,8):=by kernel_rfl
def told(fs:List bX)(name:Name)(lo hi:Nat)(k:Nat):List Nat:=(List.range k).filter (fun i=>iz name lo hi (fs.getD i bX.none))
theorem Nq{fs:List bX}{name:Name}{lo hi k:Nat}{f:bX}(h:fs[k]? = some f):told fs name lo hi (k+1)=if iz name lo hi f=true then told fs name lo hi k++[k] else told fs name lo hi k:=by
 unfold told;rw[List.range_succ,List.filter_append,List.filter_cons,pg h];split
 ·rfl
 ·simp
theorem UD{fs:List bX}{name:Name}{lo hi k:Nat}:∀i∈told fs name lo hi k,i<k:=fun i hi=>by
 unfold told at hi;exact List.mem_range.1 (List.mem_filter.1 hi).1
theorem xB(fs:List bX)(name:Name)(lo hi k:Nat):(told fs name lo hi k).length<=k:=by
 unfold told;have:=List.length_filter_le (fun i=>iz name lo hi (fs.getD i bX.none)) (List.range k);simpa using this
theorem CR(fs:List bX)(name:Name)(lo hi:Nat){ls:List Nat}(hp:ls.Perm (told fs name lo hi fs.length))(hr:ls.Pairwise (fun a b=>xy fs a<=xy fs b)):Told fs name lo hi ls:=by
 refine⟨fun i=>?_,hr,hp.nodup_iff.2 ?_⟩
 ·rw[hp.mem_iff];unfold told;rw[List.mem_filter,List.mem_range];constructor
  ·rintro⟨h1,h2⟩;refine⟨fs[i],List.getElem?_eq_getElem h1,?_⟩;rw[pg (List.getElem?_eq_getElem h1)]at h2;exact h2
  ·rintro⟨fr,h1,h2⟩;exact⟨aN h1,by rw[pg h1];exact h2⟩
 ·unfold told;exact List.nodup_range.filter _
def mq(i:Nat):Value:=.int .i64 (i:Int)
theorem Ea{W:World}{bx pb fb n i j ki kj:Nat}(h0:W.cell? ⟨bx,0,none⟩=some (ptrTo pb))(h1:W.cell? ⟨pb,1,none⟩=some (.slice (some ⟨fb,0,none⟩) n n))(hi:i<n)(hj:j<n)(h2:W.cell? ⟨fb,i*7+2,none⟩=some (.int .i64 (ki:Int)))(h3:W.cell? ⟨fb,j*7+2,none⟩=some (.int .i64 (kj:Int)))(TP:ki<65536)(hkj:kj<65536) :
 Calls prog 184 #[.int .i64 (i:Int),.int .i64 (j:Int),.pointer (some ⟨bx,0,none⟩)] W fun e w'=>e=.returned (.int .i64 ((ki:Int)-(kj:Int)))/\∃q,w'=W.drewN q:=by
 unfold ptrTo at h0;have hw:IntKind.i64.wrap ((ki:Int)-(kj:Int))=(ki:Int)-(kj:Int):=ax ae ae;go_enter func184,ntmps184;go_wp2;go_quiet (fail)
 go_wp2;go_ret;exact⟨rfl,_,rfl⟩
theorem Eb{fs:List bX}{name:Name}{lo hi:Nat}{wr:World}{base g cap n hand bx pb fb:Nat}{kOfs:Nat->Nat}(ho:wr.ownsRow base 3 1 (.slice (some ⟨g,0,none⟩) (told fs name lo hi n).length cap) (told fs name lo hi n).length ((told fs name lo hi n).map mq))(hh:hand<n)(hlt:∀i∈told fs name lo hi n,i<n)(hle:(told fs name lo hi n).length<=n)(hn:n<=4096)(h0:wr.cell? ⟨bx,0,none⟩=some (ptrTo pb))(h1:wr.cell? ⟨pb,1,none⟩=some (.slice (some ⟨fb,0,none⟩) n n))(hk:∀i,i<n->wr.cell? ⟨fb,i*7+2,none⟩=some (.int .i64 ((kOfs i:Nat):Int))/\kOfs i<65536)(g1:bx≠g)(g2:pb≠g)(g3:fb≠g) :
 Calls prog 183 #[.slice (some ⟨g,0,none⟩) (told fs name lo hi n).length cap,.func (.func 184) #[] #[.pointer (some ⟨bx,0,none⟩)]] wr fun e w'=>∃ls:List Nat,e=.returned (.tuple #[])/\ls.Perm (told fs name lo hi n) /\
  ls.Pairwise (fun a b=>kOfs a<=kOfs b)/\w'.ownsRow base 3 1 (.slice (some ⟨g,0,none⟩) (told fs name lo hi n).length cap) (told fs name lo hi n).length (ls.map mq)/\aF (·=g) wr w':=by
 generalize told fs name lo hi n=ts at *;letI:Inhabited (Fin n):=⟨⟨hand,hh⟩⟩
 let ss:List (Fin n):=ts.attach.map (fun x=>⟨x.1,hlt x.1 x.2⟩)
 have acb:ss.map (fun x=>x.1)=ts:=by
  simp only[ss,List.map_map,Function.comp_def];exact List.attach_map_subtype_val ts
 have ahd:ss.map (fun x:Fin n=>mq x.1)=ts.map mq:=by
  have:=congrArg (List.map mq) acb;rw[List.map_map]at this;exact this
 have ahe:ss.length=ts.length:=by simp[ss]
 have YA:∀x y:Fin n,ltOf (fun x y:Fin n=>((kOfs x.1:Nat):Int)-((kOfs y.1:Nat):Int)) x y=decide (kOfs x.1<kOfs y.1):=fun x y=>by
  show decide (((kOfs x.1:Nat):Int)-((kOfs y.1:Nat):Int)<0)=_;by_cases h:kOfs x.1<kOfs y.1
  ·rw[decide_eq_true h,decide_eq_true ae]
  ·rw[decide_eq_false h,decide_eq_false ae]
 have yg:CmpReads prog 184 #[.pointer (some ⟨bx,0,none⟩)] (fun x:Fin n=>mq x.1) (fun x y=>((kOfs x.1:Nat):Int)-((kOfs y.1:Nat):Int)) g 0 ts.length wr:=fun m os dk _ x y=>by
  have ht:aF (·=g) wr (sortWorld (fun x:Fin n=>mq x.1) wr g 0 m dk os):=xA _ dk;exact Ea (ht.cell h0 g1) (ht.cell h1 g2) x.2 y.2 (ht.cell (hk x.1 x.2).1 g3) (ht.cell (hk y.1 y.2).1 g3) (hk x.1 x.2).2 (hk y.1 y.2).2
 refine(D9 (fun x:Fin n=>mq x.1) (fun _=>rfl) (fun x y=>((kOfs x.1:Nat):Int)-((kOfs y.1:Nat):Int)) ⟨fun x=>by rw[YA];simp,fun x y z h1 h2=>by rw[YA]at *;simp at *;omega,fun x y z h1 h2=>by rw[YA]at *;simp at *;omega⟩
  184 #[.pointer (some ⟨bx,0,none⟩)] (ss:=ss) ahe ae (by rw[ahd];exact ho) (enters_of func184 ag rfl) yg.lays).mono ?_
 rintro e w'⟨rfl,tl,hp,hr,kH,ht⟩;refine⟨tl.map (fun x=>x.1),rfl,?_,?_,?_,ht⟩
 ·rw[<- acb];exact hp.map _
 ·rw[List.pairwise_map];exact hr.imp (fun{a b}h=>by
   have h':¬(((kOfs b.1:Nat):Int)-((kOfs a.1:Nat):Int)<0):=h;show kOfs a.1<=kOfs b.1;omega)
 ·rw[List.map_map];exact kH
def Nr(w:World)(fs:List bX)(name:Name)(lo hi:Nat)(e:Ending)(w':World):Prop:=
 ∃v ls,e=.returned v/\w'.ownsRow w.heap.size 3 1 v ls.length (ls.map mq)/\Told fs name lo hi ls/\Below w.heap.size w w'
theorem CS{w:World}{pb db fb mb:Nat}{o:ar}{l:List iB}{hand mf:Nat}{d:Dsk}(h:bq w pb db fb mb o l hand mf d)(hks:∀p∈l,p.2.k<65536)(name:Name)(lo hi:Nat) :
 Calls prog 121 #[ptrTo pb,.string name,.int .i64 (lo:Int),.int .i64 (hi:Int)] w (Nr w (l.map (·.2)) name lo hi):=by
 obtain⟨i0,uQ,hz0,hz1,hz2⟩:=info_parts Gt;have H:=aa h;have vG:=aa h.row;have hn:=h.most;have HS:=aa h.shaped;have HKS:=aa hks;have Np:=h.head.lt;have ag9:=h.row.lt;have Gu:=h.hand;obtain⟨⟨-,hc1,-⟩,-⟩:=h.head.cells;clear h hks;unfold ptrTo;generalize hN:l.length=n at *;have HN:=aa hN;clear hN;go_enter func121,ntmps121;have hb1:Below w.heap.size w (w.alloc (.cells #[.pointer (some ⟨pb,0,none⟩)] 72)):=aj.alloc (Nat.le_refl _) _;have hx:=heap_alloc_new w (.cells #[.pointer (some ⟨pb,0,none⟩)] 72);have hsz:w.heap.size<(w.alloc (.cells #[.pointer (some ⟨pb,0,none⟩)] 72)).heap.size:=by simp
 have nr:(w.alloc (.cells #[.pointer (some ⟨pb,0,none⟩)] 72)).cell? ⟨pb,1,none⟩=some (.slice (some ⟨fb,0,none⟩) n n):=by rw[hb1.cell (p:=⟨pb,1,none⟩) Np];exact hc1
 have nx:=aa (vG.o.below hb1);have cQ:=aa hb1;have HX:=aa hx;clear hb1 hx hc1;go_wp2_with fail;generalize w.alloc (.cells #[.pointer (some ⟨pb,0,none⟩)] 72)=W1 at *;go_loopw [9,17] (fun v i wr=>∃k:Nat,k<=n/\i=.int .i64 (k:Int)/\wr.ownsRow (w.heap.size+1) 3 1 v (told (l.map (·.2)) name lo hi k).length ((told (l.map (·.2)) name lo hi k).map mq)/\Below (w.heap.size+1) W1 wr) (fun _ i _=>n-(intOf i).toNat)
 case atStart=>exact⟨0,Nat.zero_le _,rfl,ownsRow_nil _ _ _,Below.refl _ _⟩
 case round=>
  obtain⟨k,hk,rfl,ho,hb⟩:=hrel;by_cases hlt:k<n
  ·obtain⟨a,c,f,hi'⟩:=HS.o.get HN.o hlt;have hrow:dG wr fb l:=nx.o.kept (S:=fun x=>w.heap.size+1<=x) ⟨hb.os,hb.tape,hb.output,hb.size,fun x _ hx=>hb.block x ae⟩ ae;obtain⟨h0,h1,h2,h3,h4,h5,h6⟩:=hrow.seven hi';have UB:wr.cell? ⟨pb,1,none⟩=some (.slice (some ⟨fb,0,none⟩) n n):=by rw[hb.cell (p:=⟨pb,1,none⟩) (show pb<w.heap.size+1 by omega)];exact nr
   have UC:f.k<65536:=HKS.o _ (List.mem_of_getElem? hi');have HST:=aa (Nq (name:=name) (lo:=lo) (hi:=hi) (cq hi'));have Jz:=xB (l.map (·.2)) name lo hi k;have HB:=aa hb;have HO:=aa ho;have Ns:w.heap.size+1<=wr.heap.size:=Nat.le_trans hsz hb.size;clear hi' hb hrow ho;obtain⟨t,ht⟩:∃t,t=told (l.map (·.2)) name lo hi k:=⟨_,rfl⟩;rw[<- ht]at HST Jz HO;clear ht;obtain⟨full,nm,fk,bs,bR,used⟩:=f;dsimp only at *;cases full with
   |false=>
     go_wp2;go_roundw
     case rel=>
      refine⟨k+1,ae,by go_num,?_,HB.o.alloc Ns _⟩;have e:=HST.o;rw[if_neg (by simp[iz])]at e;rw[e];exact HO.o.alloc _
     case measure=>simp[intOf];omega
   |true=>
     cases bR with
     |false=>
       go_wp2;go_roundw
       case rel=>
        refine⟨k+1,ae,by go_num,?_,HB.o.alloc Ns _⟩;have e:=HST.o;rw[if_neg (by simp[iz])]at e;rw[e];exact HO.o.alloc _
       case measure=>simp[intOf];omega
     |true=>
       by_cases uT:nm=name
       ·have WQ:(nm.toList == name.toList)=true:=by rw[uT];exact beq_self_eq_true _
        have Gr:=aa uT;clear uT;by_cases Md:lo<=fk
        ·by_cases hl2:fk<hi
         ·have ahf:((fk:Int) >= (lo:Int)):=by omega
          have ahg:((fk:Int)<(hi:Int)):=by omega
          go_wp2_with (at_builtin;refine wpList_append_own _ rfl _ _ 214 rfl (w.heap.size+1) 3 i0 (.int .i64 0) 1 8 Tryz.underlying214 uQ hz0 hz1 hz2 rfl af _ _ _ rfl ((HO.o.alloc _).alloc _) ⟨wr.heap.size+1,0,none⟩ 1 1 [mq k] rfl rfl ?c1 ?c2 ?c3 ?c4 ?c5 ?_);case c1=>
           intro j u hj;match j,hj with
           |0,hj=>
             cases hj;simp[bF,mq]
          case c2=>simp[mq,Value.oneCell']
          case c3=>unfold maxLen;omega
          case c4=>omega
          case c5=>simp;omega
          intro v' w2 hown hgr _;have zb:Hid (Below (w.heap.size+1) W1 w2):=aa (((HB.o.alloc Ns _).alloc (by simp;omega) _).grown hgr (by simp;omega) (aG HO.o));have hO2:Hid (w2.ownsRow (w.heap.size+1) 3 1 v' (t++[k]).length ((t++[k]).map mq)):=aa (by simpa using hown);clear hown hgr;go_wp2;go_roundw
          case rel=>
           refine⟨k+1,ae,by go_num,?_,zb.o⟩;have e:=HST.o;rw[if_pos (by simp[iz,Gr.o];omega)]at e;rw[e];exact hO2.o
          case measure=>simp[intOf];omega
         ·have ahg:¬((fk:Int)<(hi:Int)):=by omega
          go_wp2;go_roundw
          case rel=>
           refine⟨k+1,ae,by go_num,?_,HB.o.alloc Ns _⟩;have e:=HST.o;rw[if_neg (by simp[iz];omega)]at e;rw[e];exact HO.o.alloc _
          case measure=>simp[intOf];omega
        ·have ahf:¬((fk:Int) >= (lo:Int)):=by omega
         go_wp2;go_roundw
         case rel=>
          refine⟨k+1,ae,by go_num,?_,HB.o.alloc Ns _⟩;have e:=HST.o;rw[if_neg (by simp[iz];omega)]at e;rw[e];exact HO.o.alloc _
         case measure=>simp[intOf];omega
       ·have WQ:(nm.toList == name.toList)=false:=qu uT;have Gr:=aa uT;clear uT;go_wp2;go_roundw
        case rel=>
         refine⟨k+1,ae,by go_num,?_,HB.o.alloc Ns _⟩;have e:=HST.o;rw[if_neg (by simp[iz,Gr.o])]at e;rw[e];exact HO.o.alloc _
        case measure=>simp[intOf];omega
  ·obtain rfl:k=n:=by omega
   have HB:=aa hb;obtain⟨a9,c9,rfl⟩:=az ho;have HO:=aa ho;have UB:wr.cell? ⟨pb,1,none⟩=some (.slice (some ⟨fb,0,none⟩) k k):=by rw[hb.cell (p:=⟨pb,1,none⟩) (show pb<w.heap.size+1 by omega)];exact nr
   have uP:=aa UB;have HRW:Hid (dG wr fb l):=aa (nx.o.kept (S:=fun x=>w.heap.size+1<=x) ⟨hb.os,hb.tape,hb.output,hb.size,fun x _ hx=>hb.block x ae⟩ ae);have mr:Hid (wr.cell? ⟨w.heap.size,0,none⟩=some (ptrTo pb)):=aa (by
    rw[hb.cell (p:=⟨w.heap.size,0,none⟩) (show w.heap.size<w.heap.size+1 by omega),aq HX.o];rfl)
   have QB:Hid (Below w.heap.size w wr):=aa (cQ.o.trans (hb.mono (Nat.le_succ _)));have hlen:(l.map (·.2)).length=k:=by rw[List.length_map,HN.o]
   have HLEN:=aa hlen;clear hb ho UB hlen nr;rcases Nat.eq_zero_or_pos (told (l.map (·.2)) name lo hi k).length with hz | Yn
   ·have hnil:told (l.map (·.2)) name lo hi k=[]:=List.eq_nil_of_length_eq_zero hz;have acd:=aa hnil;rw[hz]at HO ⊢;clear hz hnil;have aM:=aa (AnyF.slices_SortFunc_none (P:=prog) (ρ:=Tryz.tN) { Tryz.Gs with } a9 c9 (.func (.func 184) #[] #[.pointer (some ⟨w.heap.size,0,none⟩)]) wr);go_wp2_with fail;refine aM.o.mono ?_;rintro e w'⟨rfl,rfl⟩;go_wp2;go_ret;refine⟨_,[],rfl,?_,CR _ _ _ _ (by rw[HLEN.o,acd.o]) List.Pairwise.nil,QB.o⟩;have:=HO.o;rw[acd.o]at this;exact aU this (Nat.le_succ _)
   ·have JS:∃g,a9=some ⟨g,0,none⟩/\w.heap.size+1<=g:=by
     obtain⟨_,⟨h1,h2⟩|⟨g,cap,cur,h1,h2,_⟩⟩:=HO.o
     ·omega
     ·cases h1;exact⟨g,rfl,h2⟩
    obtain⟨g,rfl,hg⟩:=JS;have aM:=aa (Eb (name:=name) (lo:=lo) (hi:=hi) (bx:=w.heap.size) (fs:=l.map (·.2)) (kOfs:=fun i=>xy (l.map (·.2)) i) HO.o Gu (fun i hi=>UD i hi) (xB _ _ _ _ _) hn mr.o uP.o (fun i hi=>by
     obtain⟨a,c,f,hi'⟩:=HS.o.get HN.o hi;refine⟨?_,?_⟩
     ·rw[(HRW.o.seven hi').2.2.1];unfold xy;rw[pg (cq hi')]
     ·unfold xy;rw[pg (cq hi')];exact HKS.o _ (List.mem_of_getElem? hi')) ae ae ae)
    go_wp2_with fail;refine aM.o.mono ?_;rintro e w'⟨ls,rfl,hp,hr,kH,ht⟩;have HP:=aa hp;have HR:=aa hr;have HO':=aa kH;have HT:=aa ht;have Pu:ls.length=(told (l.map (·.2)) name lo hi k).length:=hp.length_eq;have HLL:=aa Pu;clear hp hr kH ht Pu;go_wp2;go_ret;refine⟨_,ls,rfl,?_,CR _ _ _ _ (by rw[HLEN.o];exact HP.o) HR.o,QB.o.trans (HT.o.below (by have:=QB.o.size;omega) (fun x e=>by omega))⟩;rw[HLL.o];exact aU HO'.o (Nat.le_succ _)
def Fit(l:List iB):Prop:=∀p∈l,p.2.bytes.length<=240/\p.2.k<65536
theorem dG.set'{w:World}{fb:Nat}{l:List iB}(h:dG w fb l){i:Nat}{p q:iB}(hi:l[i]? = some p){j:Nat}(hj:j<7){v:Value}(hv:(bI p.1 p.2).set j v=bI q.1 q.2):dG (w.setCell ⟨fb,i*7+j,none⟩ v) fb (l.set i q):=by
 rw[Nat.mul_comm i 7];exact h.set hi hj hv
theorem bq.mark{w:World}{pb db fb mb:Nat}{o:ar}{l:List iB}{hand mf:Nat}{d:Dsk}(h:bq w pb db fb mb o l hand mf d){i:Nat}{v:Value}{f x:bX}(hi:l[i]? = some (v,f)){j:Nat}(hj:j<7){u:Value}(hv:(bI v f).set j u=bI v x)(h1:x.full=f.full)(h2:x.name=f.name)(h3:x.k=f.k)(h4:x.bytes=f.bytes):bq (w.setCell ⟨fb,i*7+j,none⟩ u) pb db fb mb o (l.set i (v,x)) hand mf d:=by
 have ht:aF (fun y=>y=fb\/y=mb) w (w.setCell ⟨fb,i*7+j,none⟩ u):=(aF.refl _ _).setCell _ _ (.inl (.inl rfl));refine h.tM (h.row.set' hi hj hv) ht (fun _ _ h=>h) (fun y t hy=>by have:=h.owned y t hy;simpa using this) ?_ ?_
 ·obtain⟨m,m1,m2⟩:=h.tL;exact⟨m,m1.turn ((aF.refl (·=fb) w).setCell _ _ (.inl rfl)) (ar.ne h.nZ h.rV af),m2.same (cq hi) h1 h2 h3⟩
 ·have he:=h.each _ (List.mem_of_getElem? hi);dsimp only at he ⊢;rw[h4];exact⟨((aF.refl (·=fb) w).setCell ⟨fb,i*7+j,none⟩ u (.inl rfl)).ownsRow he.1 (fun b hb=>ar.ne (he.2 b hb) h.rV af),he.2⟩
theorem bq.mF{w:World}{pb db fb mb:Nat}{o:ar}{l:List iB}{hand mf:Nat}{d:Dsk}(h:bq w pb db fb mb o l hand mf d):o.In cz fb:=⟨_,h.rV,show 7<10 by decide⟩
def QC(w:World)(pb db fb mb:Nat)(o:ar)(l:List iB)(hand mf:Nat)(r:(Dsk×List bX)×Nat)(e:Ending)(w':World):Prop:=
 ∃o' l',e=.returned (.int .i64 (r.2:Int))/\bq w' pb db fb mb o' l' hand mf r.1.1/\l'.map (·.2)=r.1.2/\l'.length=l.length/\Fit l'/\aF (o.In cz) w w'/\ct w.heap.size o o'
theorem Fit.set{l:List iB}(h:Fit l){i:Nat}{q:iB}(hq:q.2.bytes.length<=240/\q.2.k<65536):Fit (l.set i q):=fun p hp=>by
 rcases List.mem_or_eq_of_mem_set hp with hp | rfl
 ·exact h p hp
 ·exact hq
theorem Me(HW:aP){w:World}{pb db fb mb pf:Nat}{o:ar}{l:List iB}{hand mf:Nat}{d:Dsk}{name:Name}(h:bq w pb db fb mb o l hand mf d)(ik:Fit l)(hs:name.size<=1000)(hp:nw w pf db name)(BB:o pf=none){v:Value}{base:Nat}{ls:List Nat}(hv:w.ownsRow base 3 1 v ls.length (ls.map mq))(mj:∀b,v.ownBlock=some b->o b=none)(TW:∀i∈ls,i<l.length)(Pu:ls.length<=100000) :
 Calls prog 120 #[ptrTo pb,ptrTo pf,v] w (QC w pb db fb mb o l hand mf (lK name ls d (l.map (·.2)))):=by
 have H:=aa h;have HF:=aa ik;have HP:=aa hp;have Mf:=aa BB;have HV:=aa hv;have vI:=aa mj;have HLS:=aa TW;obtain⟨va,vc,rfl⟩:=az hv;have anY:=hp.lt;have hn:=h.most;clear h ik hp BB hv mj TW;unfold ptrTo;generalize hN:ls.length=n at *;have HN:=aa hN;clear hN;go_enter func120,ntmps120;go_wp2;go_loopw [12] (fun i wr=>∃(j:Nat)(d':Dsk)(l':List iB)(o':ar),j<=n/\i=.int .i64 (j:Int)/\bq wr pb db fb mb o' l' hand mf d'/\lK name ls d (l.map (·.2))=lK name (ls.drop j) d' (l'.map (·.2))/\l'.length=l.length/\Fit l'/\aF (o.In cz) w wr/\ct w.heap.size o o') (fun i _=>n-(intOf i).toNat)
 case atStart=>exact⟨0,d,l,o,Nat.zero_le _,rfl,H.o,rfl,rfl,HF.o,aF.refl _ _,ct.refl _ _⟩
 case round=>
  obtain⟨j,d',l',o',hj,rfl,Fw,hput,hlen,Gv,ht,hg⟩:=hrel;by_cases hlt:j<n
  ·have lA:j<ls.length:=by rw[HN.o];exact hlt
   have hx:∃x,ls[j]? = some x:=⟨_,List.getElem?_eq_getElem lA⟩;obtain⟨x,hx⟩:=hx;have Jw:x<l'.length:=by rw[hlen];exact HLS.o x (List.mem_of_getElem? hx)
   obtain⟨a,c,f,hi⟩:=Fw.shaped.get rfl Jw;have Gw:=Gv _ (List.mem_of_getElem? hi);obtain⟨YB,UC⟩:=Gw;dsimp only at YB UC;have hrow:=ht.ownsRow HV.o (fun b hb=>ar.dE (vI.o b hb));have Ec:∃g,va=some ⟨g,0,none⟩/\wr.cell? ⟨g,j,none⟩=some (mq x):=by
    obtain⟨_,⟨h1,h2⟩|⟨g,cap,cur,h1,h2,h3,h4,h5,h6,h7⟩⟩:=hrow
    ·omega
    ·cases h1;refine⟨g,rfl,?_⟩;rw[aq h3];have e:(cur.toList.take (n*1))[j]? = (ls.map mq)[j]? := by rw[h7]
     rw[List.getElem?_take_of_lt ae,List.getElem?_map,hx]at e;simpa using e
   obtain⟨g,rfl,WR⟩:=Ec;unfold mq at WR;have tO:ls.drop j=x::ls.drop (j+1):=by
    rw[List.drop_eq_getElem_cons lA];congr 1;rw[List.getElem?_eq_getElem lA]at hx;exact Option.some.inj hx
   rw[tO,lK,pg (cq hi)]at hput;dsimp only at hput;have ny:=aa hput;have HP':=aa Fw;have HI:=aa hi;have HLEN:=aa hlen;have yj:=aa Gv;have HT:=aa ht;have HG:=aa hg;have JI:Hid (nw wr pf db name):=aa (HP.o.kept ht (ar.dE Mf.o));have aM:Hid (∀W,Below wr.heap.size wr W->Calls prog 182 #[ptrTo pf,.int .i64 (f.k:Int),.slice a f.bytes.length c] W fun e w'=>e=.returned (.int .i64 ((dB d' name f.k f.bytes).2:Int))/\cx W db o' (dB d' name f.k f.bytes).1 w'):=aa (fun W hW=>
    Gn HW (Fw.lJ.below hW) (JI.o.below hW) hs f.k UC _ f.bytes YB (fD (aV (Fw.each _ (List.mem_of_getElem? hi)).1 hW)))
   have hxn:x<l.length:=by rw[<- hlen];exact Jw
   have WS:Hid (∀W,Below wr.heap.size wr W->(W.cell? ⟨pb,1,none⟩=some (.slice (some ⟨fb,0,none⟩) l.length l.length)/\W.cell? ⟨fb,x*7+2,none⟩=some (.int .i64 (f.k:Int))/\W.cell? ⟨fb,x*7+3,none⟩=some (.slice a f.bytes.length c))):=aa (fun W hW=>by
    have h1:=Fw.below hW;obtain⟨⟨-,g1,-⟩,-⟩:=h1.head.cells;obtain⟨-,-,g2,g3,-⟩:=h1.row.seven hi;rw[hlen]at g1;exact⟨g1,g2,g3⟩)
   clear hput Fw hi hlen Gv ht hg hx Jw hrow tO;unfold ptrTo at aM;generalize (dB d' name f.k f.bytes).1=d2 at *;generalize (dB d' name f.k f.bytes).2=cc at *;by_cases hc0:cc=0
   ·subst hc0;have Gx:lK name ls d (l.map (·.2))=lK name (ls.drop (j+1)) d2 ((l'.map (·.2)).set x { f with bR:=false }):=by rw[ny.o,if_neg ah]
    have QD:=aa Gx;clear Gx ny;go_wp2;refine cD (Below wr.heap.size wr) 18 rfl ag ag (aj.drew) ?_;simp only[List.take_succ_cons,List.take_zero];iterate 4 (refine qz ?_)
    refine qz ?_ (fun w' hw'=>by have hc:=(WS.o w' hw').1;go_simp<;>rfl);iterate 4 (refine qz ?_)
    refine qz ?_ (fun w' hw'=>by have hc:=(WS.o w' hw').2.1;go_simp<;>rfl);iterate 3 (refine qz ?_)
    refine qz ?_ (fun w' hw'=>by have hc:=(WS.o w' hw').1;go_simp<;>rfl);iterate 3 (refine qz ?_)
    refine qz ?_ (fun w' hw'=>by have hc:=(WS.o w' hw').2.2;go_simp<;>rfl);refine wpQuiet_nil ?_;intro w3 hw3;refine⟨_,_,rfl,(by go_simp<;>exact⟨rfl,rfl⟩),?_⟩;refine(aM.o _ hw3).mono ?_;rintro e w4⟨rfl,oQ⟩;obtain⟨o2,Mc,oO,hg2⟩:=cx.after hw3 oQ;have pO:=aa (HP'.o.zA Mc oO hg2);have nO:=aa (HT.o.owned HG.o oO.aY);have yl:=aa (HG.o.trans hg2 HT.o.size);clear Mc oO hg2 oQ hw3;obtain⟨⟨-,g1,-⟩,-⟩:=pO.o.head.cells;rw[HLEN.o]at g1;obtain⟨-,-,-,-,-,g5,-⟩:=pO.o.row.seven HI.o;have gz:=pO.o.row.free (x*7+5);refine⟨_,rfl,?_⟩;go_simp;refine qz ?_;refine wpQuiet_nil ?_;go_wp2;go_roundw
    case rel=>
     have hm:=pO.o.mark (j:=5) (u:=.bool false) (x:={ f with bR:=false }) HI.o af rfl rfl rfl rfl rfl;refine⟨j+1,d2,_,o2,ae,by go_num,hm,by rw[QD.o,map_set],by rw[List.length_set];exact HLEN.o,yj.o.set ⟨YB,UC⟩,?_,yl.o⟩;exact nO.o.trans ((aF.refl (o2.In cz) w4).setCell ⟨fb,x*7+5,none⟩ (.bool false) (.inl pO.o.mF)) (fun y hy ⟨t,mo,oO⟩=>⟨t,by rw[<- yl.o y hy];exact mo,oO⟩)
    case measure=>simp[intOf];omega
   ·have Gx:lK name ls d (l.map (·.2))=((d2,l'.map (·.2)),cc):=by rw[ny.o,if_pos hc0]
    have QD:=aa Gx;have anZ:¬(cc:Int)=0:=by omega
    clear Gx ny hc0;go_wp2;refine cD (Below wr.heap.size wr) 18 rfl ag ag (aj.drew) ?_;simp only[List.take_succ_cons,List.take_zero];iterate 4 (refine qz ?_)
    refine qz ?_ (fun w' hw'=>by have hc:=(WS.o w' hw').1;go_simp<;>rfl);iterate 4 (refine qz ?_)
    refine qz ?_ (fun w' hw'=>by have hc:=(WS.o w' hw').2.1;go_simp<;>rfl);iterate 3 (refine qz ?_)
    refine qz ?_ (fun w' hw'=>by have hc:=(WS.o w' hw').1;go_simp<;>rfl);iterate 3 (refine qz ?_)
    refine qz ?_ (fun w' hw'=>by have hc:=(WS.o w' hw').2.2;go_simp<;>rfl);refine wpQuiet_nil ?_;intro w3 hw3;refine⟨_,_,rfl,(by go_simp<;>exact⟨rfl,rfl⟩),?_⟩;refine(aM.o _ hw3).mono ?_;rintro e w4⟨rfl,oQ⟩;obtain⟨o2,Mc,oO,hg2⟩:=cx.after hw3 oQ;have pO:=aa (HP'.o.zA Mc oO hg2);have nO:=aa (HT.o.owned HG.o oO.aY);have yl:=aa (HG.o.trans hg2 HT.o.size);clear Mc oO hg2 oQ hw3;refine⟨_,rfl,?_⟩;go_simp;refine qz ?_;refine wpQuiet_nil ?_;go_wp2;go_ret;rw[QD.o];exact⟨o2,l',rfl,pO.o,rfl,HLEN.o,yj.o,nO.o,yl.o⟩
  ·obtain rfl:j=n:=by omega
   have tO:ls.drop j=[]:=List.drop_eq_nil_of_le (by rw[HN.o];exact Nat.le_refl _);rw[tO,lK]at hput;have ny:=aa hput;have HP':=aa Fw;have HLEN:=aa hlen;have yj:=aa Gv;have HT:=aa ht;have HG:=aa hg;clear hput Fw hlen Gv ht hg tO;go_wp2;go_ret;rw[ny.o];exact⟨o',l',rfl,HP'.o,rfl,HLEN.o,yj.o,HT.o,HG.o⟩
theorem Sound.fit{d:Dsk}{fs:List bX}{L:aC}(h:Sound d fs L):∀fr∈fs,fr.bytes.length<=240/\fr.k<65536:=fun fr dO=>by
 cases hf:fr.full with
 |false=>rw[h.blank fr dO hf];exact⟨by simp[bX.none],by simp[bX.none]⟩
 |true=>
   obtain⟨ps,fl,hL,hk⟩:=h.frames fr dO hf;obtain⟨f,dp,q⟩:=h.dF _ _ _ hL;have:=aN hk;have:=q.most;exact⟨q.short _ (List.mem_of_getElem? hk),ae⟩
theorem Sound.vJ{d:Dsk}{l:List iB}{L:aC}(h:Sound d (l.map (·.2)) L):Fit l:=fun p hp=>h.fit p.2 (List.mem_map.2 ⟨p,hp,rfl⟩)
theorem Sound.zE{d:Dsk}{fs:List bX}{L:aC}(h:Sound d fs L){n:Name}{ps:List Pg}{fl:Bool}(hL:aA L n=some (.inl (ps,fl))) :
 ∃f dp,dA d fs n ps fl f dp/\(d.dead=false->d.sizeOf n=(256*dp.length,0)/\cN d n=0)/\(d.dead=true->d.sizeOf n=(0,6)/\cN d n=6):=by
 obtain⟨f,dp,q⟩:=h.dF _ _ _ hL;have hs:=Dsk.CO (h.ok n (by rw[hL];rfl)) q.get;have hl:f.now.length=256*dp.length:=by rw[q.now,dM _ q.BF]
 refine⟨f,dp,q,fun hd=>?_,fun hd=>?_⟩
 ·rw[hd,if_neg ah,hl]at hs;refine⟨hs,?_⟩;unfold cN;rw[hs];simp
 ·rw[hd,if_pos rfl]at hs;refine⟨hs,?_⟩;unfold cN;rw[hs];simp
theorem Told.length_le{fs:List bX}{name:Name}{lo hi:Nat}{ls:List Nat}(t:Told fs name lo hi ls):ls.length<=fs.length:=by
 have hp:ls.Perm ((List.range fs.length).filter (fun x=>decide (x∈ls))):=by
  refine(List.perm_ext_iff_of_nodup t.nodup (List.nodup_range.filter _)).2 fun x=>?_;rw[List.mem_filter,List.mem_range,decide_eq_true_eq];refine⟨fun hx=>⟨?_,hx⟩,fun hx=>hx.2⟩;obtain⟨fr,h1,_⟩:=(t.mem x).1 hx;exact aN h1
 have h1:=List.length_filter_le (fun x=>decide (x∈ls)) (List.range fs.length);rw[hp.length_eq];simpa using h1
theorem b9{n:Name}(h:bL n=true):n.size<=1000:=by have:=FW h;omega
def rh(fs pY:List bX):Prop:=pY.length=fs.length/\∀(i:Nat)(fr:bX),fs[i]? = some fr->∃dd,pY[i]? = some { fr with bR:=dd }/\(dd=true->fr.bR=true)
theorem rh.refl(fs:List bX):rh fs fs:=⟨rfl,fun _ fr h=>⟨fr.bR,h,id⟩⟩
def QE(w:World)(pb db fb mb:Nat)(o:ar)(l:List iB)(hand mf:Nat)(d:Dsk)(L:aC)(i:Nat)(e:Ending)(w':World):Prop:=
 ∃o' l' d' c,e=.returned (.int .i64 ((c:Nat):Int))/\bq w' pb db fb mb o' l' hand mf d'/\Sound d' (l'.map (·.2)) L/\bJ d d'/\rh (l.map (·.2)) (l'.map (·.2))/\(c=0\/kJ d d' L c) /\
  (c=0->∃fr,(l'.map (·.2))[i]? = some fr/\fr.bR=false)/\aF (o.In cz) w w'/\ct w.heap.size o o'
theorem QF(HW:aP){w:World}{pb db fb mb:Nat}{o:ar}{l:List iB}{hand mf:Nat}{d:Dsk}{L:aC}(h:bq w pb db fb mb o l hand mf d)(hg:Sound d (l.map (·.2)) L){i:Nat}{v:Value}{f:bX}(hi:l[i]? = some (v,f))(fA:f.full=true)(fU:f.bR=true) :
 Calls prog 239 #[ptrTo pb,.int .i64 (i:Int)] w (QE w pb db fb mb o l hand mf d L i):=by
 obtain⟨i0,uQ,hz0,hz1,hz2⟩:=info_parts Gt;obtain⟨ps,fl,hL,Pe⟩:=hg.frames f (List.mem_of_getElem? (cq hi)) fA;obtain⟨df,dp,q,lL,kr⟩:=hg.zE hL;have fw:=b9 (hg.ok f.name (by rw[hL];rfl));have ik:=hg.vJ;have UC:=(ik _ (List.mem_of_getElem? hi)).2;have lu:i<l.length:=aN hi;have hn:=h.most;have H:=aa h;have HG:=aa hg;have HI:=aa hi;have HQ:=aa q;have yj:=aa ik;have HL:=aa hL;have tP:=aa fA;have zF:=aa fU;have hcell:(w.cell? ⟨pb,1,none⟩=some (.slice (some ⟨fb,0,none⟩) l.length l.length)/\w.cell? ⟨fb,i*7+1,none⟩=some (.string f.name)/\w.cell? ⟨fb,i*7+2,none⟩=some (.int .i64 (f.k:Int))):=by
  obtain⟨⟨-,g1,-⟩,-⟩:=h.head.cells;obtain⟨-,g2,g3,-⟩:=h.row.seven hi;exact⟨g1,g2,g3⟩
 obtain⟨hc1,hc2,hc3⟩:=hcell;have aM:Hid (∀W,Below w.heap.size w W->Calls prog 119 #[ptrTo pb,.string f.name] W (zC W db d f.name)):=aa (fun W hW=>sM (h.below hW) f.name fw);have Mg:=aa (jM h.lJ f.name).1;clear h hg hi q ik hL fA fU Pe;dsimp only at UC;unfold ptrTo at *;generalize hN:l.length=n at *;have HN:=aa hN;clear hN;cases hd:d.dead with
 |true=>
   obtain⟨-,BB⟩:=kr hd;have Mf:=aa BB;have HD:=aa hd;clear hd BB lL kr;go_enter func239,ntmps239;go_wp2;go_quiet (fail)
   go_wp2_with fail;refine(aM.o _ (below_drewN aj _)).mono ?_;rintro e w1⟨v1,n1,rfl,hb1,-⟩;rw[Mf.o];have hB:Below w.heap.size w w1:=(below_drewN aj _).trans hb1;have HB:=aa hB;clear hB hb1;go_wp2;go_ret;exact⟨o,l,d,6,rfl,H.o.below HB.o,HG.o,bJ.refl d,rh.refl _,.inr (.inr ⟨rfl,HD.o⟩),fun h=>absurd h af,aF.aW HB.o,ct.refl _ _⟩
 |false=>
   obtain⟨hsz,BB⟩:=lL hd;have Mf:=aa BB;have ahh:=aa hsz;clear hd BB lL kr hsz;go_enter func239,ntmps239;go_wp2;go_quiet (fail)
   go_wp2_with fail;refine(aM.o _ (below_drewN aj _)).mono ?_;rintro e w1⟨v1,n1,rfl,hb1,hy⟩;obtain⟨Bg,pf,rfl,hp,hpl⟩:=hy Mf.o;rw[Mf.o];rw[ahh.o]at Bg;have hB:Below w.heap.size w w1:=(below_drewN aj _).trans hb1;have HB:=aa hB;have WO:=aa hp;have ahi:w.heap.size<=pf:=by simpa using hpl
   have F9:Hid (n1=dp.length):=aa (by dsimp only at Bg;omega);clear hB hb1 hp Bg hy hpl;unfold ptrTo;have gU:=aa (CS (H.o.below HB.o) (fun p hp=>(yj.o p hp).2) f.name n1 f.k);unfold ptrTo at gU;go_wp2_with fail;refine gU.o.mono ?_;rintro e w2⟨v2,ls,rfl,kf,zG,hb2⟩;obtain⟨a2,c2,rfl⟩:=az kf;have cX:=aa (HB.o.trans (hb2.mono HB.o.size));have pZ:=aa kf;have HT:=aa zG;have ace:ls.length<=n:=by
    have h1:=zG.length_le;rw[List.length_map,HN.o]at h1;exact h1
   have QG:=aa (WO.o.below hb2);have hs2:w.heap.size<=w2.heap.size:=cX.o.size;have hs1:w1.heap.size<=w2.heap.size:=hb2.size;clear kf zG hb2;go_wp2_with (at_builtin;refine wpList_append_own _ rfl _ _ 214 rfl w1.heap.size 3 i0 (.int .i64 0) 1 8 Tryz.underlying214 uQ hz0 hz1 hz2 rfl af _ _ _ rfl (pZ.o.alloc _) ⟨w2.heap.size,0,none⟩ 1 1 [mq i] rfl rfl ?c1 ?c2 ?c3 ?c4 ?c5 ?_);case c1=>
    intro j u hj;match j,hj with
    |0,hj=>
      cases hj;simp[bF,mq]
   case c2=>simp[mq,Value.oneCell']
   case c3=>unfold maxLen;omega
   case c4=>omega
   case c5=>simp;omega
   intro v3 w3 iL YC _;have JD:Hid (Below w.heap.size w w3):=aa ((cX.o.alloc cX.o.size _).grown YC (by simp;omega) (fun k hk=>by have:=aG pZ.o k hk;have:=HB.o.size;omega));have hO3:Hid (w3.ownsRow w1.heap.size 3 1 v3 (ls++[i]).length ((ls++[i]).map mq)):=aa (by simpa using iL);have ahj:Hid (nw w3 pf db f.name):=aa (by
    obtain⟨t,ht⟩:=QG.o;have an0:=WO.o.lt;have ahk:=QG.o.lt;refine⟨t,?_⟩;rw[YC.block pf (by simp;omega) (fun e=>by have:=aG pZ.o pf e.symm;omega),(MapKept.heap_alloc _ _).2 pf ahk];exact ht)
   obtain⟨a3,c3,rfl⟩:=az iL;clear iL YC;have acf:∀x∈ls++[i],x<l.length:=fun x hx=>by
    rcases List.mem_append.1 hx with hx | hx
    ·obtain⟨fr,h1,_⟩:=(HT.o.mem x).1 hx;have:=aN h1;rwa [List.length_map]at this
    ·rw[List.mem_singleton.1 hx,HN.o];exact lu
   have lM:=aa (Me HW (H.o.below JD.o) yj.o fw ahj.o (eI H.o.owned ahi) hO3.o (fun b hb=>eI H.o.owned (by have:=aG hO3.o b hb;have:=HB.o.size;omega)) acf (by simp;omega));obtain⟨d',pY,ec,hr,LY,x7,tQ,tR,he⟩:=Sound.Ux HL.o (ls++[i]) d (l.map (·.2)) df dp HG.o HQ.o (by
    have h1:=HT.o;rw[F9.o]at h1;exact h1.Qo HG.o (cq HI.o) tP.o zF.o)
   rw[hr]at lM;have HG':=aa LY;have HON:=aa x7;have QH:=aa tQ;have Mh:=aa tR;have HE:=aa he;unfold ptrTo at lM;clear hr LY x7 tQ tR he acf;go_wp2_with fail;refine lM.o.mono ?_;rintro e w4⟨o',l',rfl,oQ,hl4,Mi,QI,tB,hg4⟩;dsimp only at hl4 oQ;have xw:=aa oQ;have Mj:=aa hl4;have uS:=aa ((aF.aW JD.o).trans tB (fun _ _ h=>h):aF (o.In cz) w w4);have zH:Hid (ct w.heap.size o o'):=aa (fun x hx=>hg4 x (Nat.lt_of_lt_of_le hx JD.o.size));clear oQ hl4 Mi QI tB hg4;go_wp2;go_ret;refine⟨o',l',d',ec,rfl,xw.o,by rw[Mj.o];exact HG'.o,HON.o,⟨by rw[Mj.o];exact QH.o,fun j fr hj=>?_⟩,HE.o,fun hc=>?_,uS.o,zH.o⟩
   ·obtain⟨dd,h1,h2,_⟩:=Mh.o j fr hj;exact⟨dd,by rw[Mj.o];exact h1,h2⟩
   ·obtain⟨dd,h1,_,_,h4⟩:=Mh.o i f (cq HI.o);exact⟨_,by rw[Mj.o];exact h1,h4 hc ah⟩
def mG(fs pY:List bX):Prop:=pY.length=fs.length/\∀(j:Nat)(x:bX),pY[j]? = some x->x.full=true->∃y,fs[j]? = some y/\y.full=true/\y.name=x.name/\y.k=x.k
theorem mG.refl(fs:List bX):mG fs fs:=⟨rfl,fun _ x h hf=>⟨x,h,hf,rfl,rfl⟩⟩
theorem mG.trans{a b c:List bX}(h:mG a b)(k:mG b c):mG a c:=⟨k.1.trans h.1,fun j x hx hf=>by
 obtain⟨y,h1,h2,h3,h4⟩:=k.2 j x hx hf;obtain⟨z,g1,g2,g3,g4⟩:=h.2 j y h1 h2;exact⟨z,g1,g2,g3.trans h3,g4.trans h4⟩⟩
def lN(fs pY:List bX):Prop:=pY.length=fs.length/\∀(j:Nat)(x:bX),fs[j]? = some x->∃u,pY[j]? = some { x with used:=u }
theorem lN.refl(fs:List bX):lN fs fs:=⟨rfl,fun _ x h=>⟨x.used,h⟩⟩
theorem lN.CT{fs pY:List bX}(h:lN fs pY):mG fs pY:=⟨h.1,fun j x hx hf=>by
 have hl:j<fs.length:=by rw[<- h.1];exact aN hx
 obtain⟨u,hu⟩:=h.2 j fs[j] (List.getElem?_eq_getElem hl);rw[hx]at hu;cases hu;exact⟨fs[j],List.getElem?_eq_getElem hl,hf,rfl,rfl⟩⟩
theorem rh.CT{fs pY:List bX}(h:rh fs pY):mG fs pY:=⟨h.1,fun j x hx hf=>by
 have hl:j<fs.length:=by rw[<- h.1];exact aN hx
 obtain⟨u,hu,_⟩:=h.2 j fs[j] (List.getElem?_eq_getElem hl);rw[hx]at hu;cases hu;exact⟨fs[j],List.getElem?_eq_getElem hl,hf,rfl,rfl⟩⟩
theorem mG.none{fs:List bX}{i:Nat}(hi:i<fs.length):mG fs (fs.set i bX.none):=⟨List.length_set,fun j x hx hf=>by
 rw[fc hi]at hx;by_cases e:j=i
 ·rw[if_pos e]at hx;cases hx;cases hf
 ·rw[if_neg e]at hx;exact⟨x,hx,hf,rfl,rfl⟩⟩
theorem lN.set{fs pY:List bX}(h:lN fs pY){i:Nat}{x:bX}(hi:pY[i]? = some x)(u:Bool):lN fs (pY.set i { x with used:=u }):=⟨List.length_set.trans h.1,fun j y hy=>by
 obtain⟨v,hv⟩:=h.2 j y hy;rw[fc (aN hi)];by_cases e:j=i
 ·subst e;rw[hv]at hi;cases hi;exact⟨u,by rw[if_pos rfl]⟩
 ·exact⟨v,by rw[if_neg e];exact hv⟩⟩
theorem lN.sound{d:Dsk}{fs pY:List bX}{L:aC}(h:lN fs pY)(hg:Sound d fs L)(hall:∀fr∈fs,fr.full=true):Sound d pY L:=
 hg.used h.1 fun i f f' hi hi'=>by
  obtain⟨u,hu⟩:=h.2 i f hi;rw[hi']at hu;cases hu;exact⟨rfl,fun hf=>by rw[hall f (List.mem_of_getElem? hi)]at hf;cases hf⟩
def QJ(w:World)(pb db fb mb:Nat)(o:ar)(l:List iB)(mf:Nat)(d:Dsk)(L:aC)(e:Ending)(w':World):Prop:=
 ∃o' l' QK d' c i,e=.returned (.tuple #[.int .i64 ((i:Nat):Int),.int .i64 ((c:Nat):Int)])/\bq w' pb db fb mb o' l' QK mf d'/\Sound d' (l'.map (·.2)) L/\bJ d d'/\(c=0\/kJ d d' L c) /\
  (c=0->∃p,l'[i]? = some p/\p.2.full=false)/\mG (l.map (·.2)) (l'.map (·.2))/\aF (o.In cz) w w'/\ct w.heap.size o o'
theorem Nt(i n:Nat):((i:Int)+1)%(n:Int)=(((i+1)%n:Nat):Int):=by
 rw[Int.natCast_emod];rfl
def YD(fs:List bX)(k:Nat):Prop:=∀(j:Nat)(x:bX),j<k->fs[j]? = some x->x.full=true
theorem Gy(HW:aP){w:World}{pb db fb mb:Nat}{o:ar}{l:List iB}{hand mf:Nat}{d:Dsk}{L:aC}(h:bq w pb db fb mb o l hand mf d)(hg:Sound d (l.map (·.2)) L) :
 Calls prog 197 #[ptrTo pb] w (QJ w pb db fb mb o l mf d L):=by
 have H:=aa h;have HG:=aa hg;have vG:=aa h.row;have hn:=h.most;have HS:=aa h.shaped;have Gu:=h.hand;have Np:=h.head.lt;obtain⟨⟨-,hc1,-,hc3,-⟩,-⟩:=h.head.cells;clear h hg;unfold ptrTo;generalize hN:l.length=n at *;have HN:=aa hN;clear hN;go_enter func197,ntmps197;go_wp2;go_step3
 go_wp2;go_loopw [15] (fun i wr=>∃k:Nat,k<=n/\i=.int .i64 (k:Int)/\YD (l.map (·.2)) k/\Below w.heap.size w wr) (fun i _=>n-(intOf i).toNat)
 case atStart=>exact⟨0,Nat.zero_le _,rfl,fun j x hj=>absurd hj (Nat.not_lt_zero j),Below.refl _ _⟩
 case round=>
  obtain⟨k,hk,rfl,hft,hb⟩:=hrel;by_cases hlt:k<n
  ·obtain⟨a,c,f,hi⟩:=HS.o.get HN.o hlt;obtain⟨h0,h1,h2,h3,h4,h5,h6⟩:=(vG.o.below hb).seven hi;have zk:wr.cell? ⟨pb,1,none⟩=some (.slice (some ⟨fb,0,none⟩) n n):=by rw[hb.cell (p:=⟨pb,1,none⟩) Np];exact hc1
   have HB:=aa hb;have UE:=aa hft;have HI:=aa hi;clear hi hb hft;cases fA:f.full with
   |false=>
     rw[fA]at h0;have tP:=aa fA;clear fA;go_wp2;rw[Exit.noGoto_ret];go_ret2;exact⟨o,l,hand,d,0,k,rfl,H.o.below (HB.o.alloc HB.o.size _),HG.o,bJ.refl d,.inl rfl,fun _=>⟨_,HI.o,tP.o⟩,mG.refl _,aF.aW (HB.o.alloc HB.o.size _),ct.refl _ _⟩
   |true=>
     rw[fA]at h0;have tP:=aa fA;clear fA;go_wp2;go_roundw
     case rel=>
      refine⟨k+1,ae,by go_num,fun j x hj hx=>?_,HB.o.alloc HB.o.size _⟩;by_cases e:j=k
      ·subst e;rw[cq HI.o]at hx;cases hx;exact tP.o
      ·exact UE.o j x ae hx
     case measure=>simp[intOf];omega
  ·obtain rfl:k=n:=by omega
   have hall:∀fr∈l.map (·.2),fr.full=true:=fun fr dO=>by
    obtain⟨j,hj⟩:=List.mem_iff_getElem?.1 dO;exact hft j fr (by have:=aN hj;rw[List.length_map,HN.o]at this;exact this) hj
   have BH:=aa hall;have H1:=aa (H.o.below hb);have HB:=aa hb;clear hft hb hall hc1 hc3;obtain⟨⟨-,hc1,-,hc3,-⟩,-⟩:=H1.o.head.cells;rw[HN.o]at hc1;go_wp2;go_step3
   go_wp2;generalize wr=W1 at *;go_loopw [6,35] (fun i c wr=>∃(tt ii:Nat)(l2:List iB),tt<=2*k/\c=.int .i64 (tt:Int)/\i=.int .i64 (ii:Int)/\ii=(hand+tt)%k/\bq wr pb db fb mb o l2 hand mf d/\lN (l.map (·.2)) (l2.map (·.2)) /\
    (∀s,s<tt->∀x,(l2.map (·.2))[(hand+s)%k]? = some x->x.used=false)/\aF (·=fb) W1 wr) (fun _ c _=>2*k-(intOf c).toNat)
   case atStart=>exact⟨0,hand,l,ae,rfl,rfl,(Nat.mod_eq_of_lt Gu).symm,H1.o,lN.refl _,fun s hs=>absurd hs (Nat.not_lt_zero s),aF.refl _ _⟩
   case round=>
    obtain⟨tt,ii,l2,htt,rfl,rfl,UF,jW,hst,hsw,oO⟩:=hrel;have rW:l2.length=k:=by
     have:=hst.1;rw[List.length_map,List.length_map,HN.o]at this;exact this
    have hik:ii<k:=by rw[UF];exact Nat.mod_lt _ ae
    obtain⟨a,c,f,hi⟩:=jW.shaped.get rW hik;obtain⟨h0,h1,h2,h3,h4,h5,h6⟩:=jW.row.seven hi;have hz:=jW.row.free (ii*7+6);obtain⟨⟨-,hc1,-,hc3,-⟩,-⟩:=jW.head.cells;rw[rW]at hc1;have hm:=Nt ii k;have HII:=aa UF;have pO:=aa jW;have HST:=aa hst;have HSW:=aa hsw;have nO:=aa oO;have zI:=aa rW;have HI:=aa hi;have HM:=aa hm;clear UF jW hst hsw oO rW hi hm;by_cases QL:tt<2*k/\f.used=true
    ·obtain⟨hlt,hu⟩:=QL;rw[hu]at h6;clear hu;go_wp2;go_roundw
     case rel=>
      have tR:=pO.o.mark (j:=6) (u:=.bool false) (x:={ f with used:=false }) HI.o af rfl rfl rfl rfl rfl;refine⟨tt+1,(ii+1)%k,_,ae,by go_num,?_,?_,tR,?_,?_,nO.o.setCell _ _ (.inl rfl)⟩
      ·rw[HM.o]
      ·rw[HII.o,Nat.mod_add_mod,Nat.add_assoc]
      ·rw[map_set];exact HST.o.set (cq HI.o) false
      ·intro s hs x hx;rw[map_set,fc (by rw[List.length_map,zI.o];exact hik)]at hx;by_cases e:(hand+s)%k=ii
       ·rw[if_pos e]at hx;cases hx;rfl
       ·rw[if_neg e]at hx;refine HSW.o s ?_ x hx;rcases Nat.lt_or_ge s tt with h | h
        ·exact h
        ·obtain rfl:s=tt:=by omega
         exact absurd HII.o.symm e
     case measure=>simp[intOf];omega
    ·have FX:f.used=false:=by
      by_cases hlt:tt<2*k
      ·cases hu:f.used with
       |false=>rfl
       |true=>exact absurd ⟨hlt,hu⟩ QL
      ·obtain rfl:tt=2*k:=by omega
       refine HSW.o 0 ae f ?_;have e1:ii=hand:=by rw[HII.o,Nat.mul_comm,Nat.add_mul_mod_self_left,Nat.mod_eq_of_lt Gu]
       rw[Nat.add_zero,Nat.mod_eq_of_lt Gu,<- e1];exact cq HI.o
     rw[FX]at h6;clear QL FX;have fA:f.full=true:=by
      have hl:ii<(l.map (·.2)).length:=by rw[List.length_map,HN.o];exact hik
      obtain⟨u,hu⟩:=HST.o.2 ii _ (List.getElem?_eq_getElem hl);rw[cq HI.o]at hu;have e:=Option.some.inj hu;dsimp only at e;have h1:=BH.o _ (List.getElem_mem hl);rw[e];exact h1
     have Pv:Hid (Sound d (l2.map (·.2)) L):=aa (HST.o.sound HG.o BH.o);have HTW:Hid (aF (o.In cz) w wr):=aa ((aF.aW HB.o).trans nO.o (fun x _ e=>e▸H.o.mF));have tP:=aa fA;have hnk:f.name.size<=1000/\f.k<9223372036854775808:=by
      obtain⟨ps,fl,hL,Bw⟩:=Pv.o.frames f (List.mem_of_getElem? (cq HI.o)) fA;have:=(Pv.o.vJ _ (List.mem_of_getElem? HI.o)).2;exact⟨b9 (Pv.o.ok f.name (by rw[hL];rfl)),by dsimp only at this;omega⟩
     obtain⟨TY,hkb⟩:=hnk;clear fA;cases fU:f.bR with
     |false=>
       rw[fU]at h5;have zF:=aa fU;clear fU;by_cases hlt:tt<2*k;all_goals
        go_wp2_with fail;refine(vH (pO.o.below ai) HI.o tP.o TY hkb).mono ?_;rintro e w6⟨rfl,hp6,UG⟩;have Gz:=aa hp6;have Qj:=aa UG;clear hp6 UG;obtain⟨⟨-,hc1,-⟩,hz3,-⟩:=Gz.o.head.cells;obtain⟨⟨-,-,-,hc3,-⟩,-⟩:=Gz.o.head.cells;rw[List.length_set,zI.o]at hc1;go_wp2;rw[Exit.noGoto_ret];go_ret2;rw[HM.o];have lu:ii<l2.length:=aN HI.o;refine⟨o,l2.set ii (.slice none 0 0,bX.none),(ii+1)%k,d,0,ii,rfl,Gz.o.vt ((aF.refl (·=pb) w6).setCell ⟨pb,3,none⟩ _ (.inl rfl)) (Gz.o.head.D4 _) (by rw[List.length_set,zI.o];exact Nat.mod_lt _ ae) Gz.o.full,?_,bJ.refl d,.inl rfl,fun _=>⟨(.slice none 0 0,bX.none),by rw[fc lu,if_pos rfl],rfl⟩,?_,?_,ct.refl _ _⟩
        ·rw[map_set];exact Pv.o.reset (cq HI.o) zF.o rfl (.inl rfl)
        ·rw[map_set];exact HST.o.CT.trans (mG.none (by rw[List.length_map];exact lu))
        ·refine((HTW.o.alloc _).trans (Qj.o.mono (S':=o.In cz) (fun x _ e=>e.elim (fun e=>e▸Gz.o.mF) (fun e=>e ▸ ⟨_,Gz.o.nZ,show 8<10 by decide⟩))) ?_).trans ((aF.refl (o.In cz) w6).setCell ⟨pb,3,none⟩ _ (.inl ⟨_,Gz.o.yf,show 6<10 by decide⟩)) ?_;all_goals
          intro x hx ⟨t,h1,h2⟩;exact⟨t,by exact h1,h2⟩
     |true=>
       rw[fU]at h5;have zF:=aa fU;clear fU;by_cases hlt:tt<2*k;all_goals
        go_wp2_with fail;refine(QF HW (pO.o.below ai) Pv.o HI.o tP.o zF.o).mono ?_;rintro e w5⟨o5,l5,d5,c5,rfl,Fx,Pp,ach,YE,Pw,aci,rI,BI⟩;have Mk:=aa Fx;have HG5:=aa Pp;have acj:=aa ach;have YF:=aa YE;have QM:=aa Pw;have UH:=aa aci;have HTA:Hid (aF (o.In cz) w w5):=aa ((HTW.o.alloc _).trans rI (fun _ _ h=>h));have HGA:Hid (ct w.heap.size o o5):=aa (fun x hx=>BI x (by have:=HTW.o.size;simp;omega));have WT:l5.length=k:=by
         have:=YE.1;rw[List.length_map,List.length_map,zI.o]at this;exact this
        have Ml:=aa WT;clear Fx Pp ach YE Pw aci rI BI WT;by_cases Be:c5=0
        ·subst Be;have hf5:∃v5 f5,l5[ii]? = some (v5,f5)/\f5.full=true/\f5.bR=false/\f5.name=f.name/\f5.k=f.k:=by
          obtain⟨fr,h1,h2⟩:=UH.o rfl;obtain⟨dd,g1,_⟩:=YF.o.2 ii f (cq HI.o);rw[h1]at g1;have e:=Option.some.inj g1;have hl5:ii<l5.length:=by rw[Ml.o];exact hik
          have e2:l5[ii].2=fr:=by
           rw[List.getElem?_map,List.getElem?_eq_getElem hl5]at h1;exact Option.some.inj h1
          refine⟨l5[ii].1,fr,by rw[List.getElem?_eq_getElem hl5,<- e2],?_,h2,by rw[e],by rw[e]⟩;rw[e];exact tP.o
         obtain⟨v5,f5,UI,ack,acm,acn,aco⟩:=hf5;have HI5:=aa UI;have ahn:=aa acm;have aho:f5.name.size<=1000:=by rw[acn];exact TY
         have ahp:f5.k<9223372036854775808:=by rw[aco];exact hkb
         have YG:=aa (vH Mk.o UI ack aho ahp);clear UI acm ack acn aco;go_wp2_with fail;refine YG.o.mono ?_;rintro e w6⟨rfl,hp6,UG⟩;have Gz:=aa hp6;have Qj:=aa UG;clear hp6 UG;obtain⟨⟨-,hc1,-⟩,hz3,-⟩:=Gz.o.head.cells;obtain⟨⟨-,-,-,hc3,-⟩,-⟩:=Gz.o.head.cells;rw[List.length_set,Ml.o]at hc1;go_wp2;rw[Exit.noGoto_ret];go_ret2;rw[HM.o];have lu:ii<l5.length:=aN HI5.o;refine⟨o5,l5.set ii (.slice none 0 0,bX.none),(ii+1)%k,d5,0,ii,rfl,Gz.o.vt ((aF.refl (·=pb) w6).setCell ⟨pb,3,none⟩ _ (.inl rfl)) (Gz.o.head.D4 _) (by rw[List.length_set,Ml.o];exact Nat.mod_lt _ ae) Gz.o.full,?_,acj.o,.inl rfl,fun _=>⟨(.slice none 0 0,bX.none),by rw[fc lu,if_pos rfl],rfl⟩,?_,?_,HGA.o⟩
         ·rw[map_set];exact HG5.o.reset (cq HI5.o) ahn.o rfl (.inl rfl)
         ·rw[map_set];exact(HST.o.CT.trans YF.o.CT).trans (mG.none (by rw[List.length_map];exact lu))
         ·refine(HTA.o.trans (Qj.o.mono (S':=o5.In cz) (fun x _ e=>e.elim (fun e=>e▸Gz.o.mF) (fun e=>e ▸ ⟨_,Gz.o.nZ,show 8<10 by decide⟩))) ?_).trans ((aF.refl (o5.In cz) w6).setCell ⟨pb,3,none⟩ _ (.inl ⟨_,Gz.o.yf,show 6<10 by decide⟩)) ?_;all_goals
           intro x hx ⟨t,h1,h2⟩;exact⟨t,by first | (rw[<- HGA.o x hx];exact h1) | exact h1,h2⟩
        ·have acr:¬(c5:Int)=0:=by omega
         obtain⟨⟨-,-,-,hc3,-⟩,hz3,-⟩:=Mk.o.head.cells;have Nu:=aa Be;clear Be;go_wp2;rw[Exit.noGoto_ret];go_ret2;refine⟨o5,l5,ii,d5,c5,0,rfl,Mk.o.vt ((aF.refl (·=pb) w5).setCell ⟨pb,3,none⟩ _ (.inl rfl)) (Mk.o.head.D4 _) (by rw[Ml.o];exact hik) Mk.o.full,HG5.o,acj.o,QM.o,fun h=>absurd h Nu.o,HST.o.CT.trans YF.o.CT,?_,HGA.o⟩;exact HTA.o.trans ((aF.refl (o5.In cz) w5).setCell ⟨pb,3,none⟩ _ (.inl ⟨_,Mk.o.yf,show 6<10 by decide⟩)) (fun x hx ⟨t,h1,h2⟩=>⟨t,by rw[<- HGA.o x hx];exact h1,h2⟩)
theorem BJ(name:Name){B:Nat}(fs:List bX)(h:∀f∈fs,f.full=true->f.bR=true->f.name=name->f.k<B):∀n0,n0<=B->eU name n0 fs<=B:=by
 induction fs with
 |nil=>intro n0 hn;exact hn
 |cons f fs ih=>
   intro n0 hn;have hf:=h f ah;unfold eU at ih ⊢;rw[List.foldl_cons];refine ih (fun g hg=>h g (by simp[hg])) _ ?_;unfold gO;split
   ·rename_i hc
    have:=hf hc.1 hc.2.1 hc.2.2;omega
   ·exact hn
theorem tS(name:Name)(fs:List bX):∀n0,n0<=eU name n0 fs:=by
 induction fs with
 |nil=>intro n0;exact Nat.le_refl _
 |cons f fs ih=>
   intro n0;unfold eU at ih ⊢;rw[List.foldl_cons];refine Nat.le_trans ?_ (ih _);unfold gO;split<;>omega
theorem BK(name:Name)(fs:List bX){f:bX}(hf:f∈fs)(h1:f.full=true)(h2:f.bR=true)(h3:f.name=name):∀n0,f.k+1<=eU name n0 fs:=by
 induction fs with
 |nil=>cases hf
 |cons g fs ih=>
   intro n0;unfold eU at ih ⊢;rw[List.foldl_cons];rcases List.mem_cons.1 hf with rfl | hf
   ·refine Nat.le_trans ?_ (tS name fs _);unfold gO;rw[if_pos ⟨h1,h2,h3⟩];omega
   ·exact ih hf _
theorem Sound.eU{d:Dsk}{fs:List bX}{L:aC}(h:Sound d fs L){n:Name}{ps:List Pg}{fl:Bool}(hL:aA L n=some (.inl (ps,fl))){f:bO}{dp:List Pg}(q:dA d fs n ps fl f dp):eU n dp.length fs=ps.length:=by
 refine Nat.le_antisymm (BJ n fs (fun g hg h1 _ h3=>?_) _ q.le) ?_
 ·obtain⟨Ge,kI,Bd,hk⟩:=h.frames g hg h1;rw[h3,hL]at Bd;cases Bd;exact aN hk
 ·rcases Nat.eq_or_lt_of_le q.le with e | hlt
  ·rw[<- e];exact tS _ _ _
  ·rcases q.each (ps.length-1) ae with h1 |⟨j,g,g1,g2,g3,g4,g5⟩
   ·omega
   ·have:=BK n fs (List.mem_of_getElem? g1) g2 g3 g4 dp.length;omega
def er(d:Dsk)(ps:List Pg):Nat×Nat:=if d.dead=true then (0,6) else (ps.length,0)
theorem qx{w:World}{pb db fb mb:Nat}{o:ar}{l:List iB}{hand mf:Nat}{d:Dsk}{L:aC}(h:bq w pb db fb mb o l hand mf d)(hg:Sound d (l.map (·.2)) L){name:Name}{ps:List Pg}{fl:Bool}(hL:aA L name=some (.inl (ps,fl))) :
 Calls prog 92 #[ptrTo pb,.string name] w fun e w'=>e=.returned (.tuple #[.int .i64 ((er d ps).1:Int),.int .i64 ((er d ps).2:Int)])/\Below w.heap.size w w':=by
 obtain⟨f,dp,q,lL,kr⟩:=hg.zE hL;refine(CQ h (fun p hp=>(hg.vJ p hp).2) name (b9 (hg.ok name (by rw[hL];rfl)))).mono ?_;rintro e w'⟨rfl,hb⟩;refine⟨?_,hb⟩;unfold er;cases hd:d.dead with
 |true=>
   rw[(kr hd).2];rfl
 |false=>
   rw[(lL hd).2,(lL hd).1,if_pos rfl,show 256*dp.length/256=dp.length by omega,hg.eU hL q];rfl
theorem Sound.read{d:Dsk}{fs:List bX}{L:aC}(h:Sound d fs L){n:Name}{ps:List Pg}{fl:Bool}(hL:aA L n=some (.inl (ps,fl))){f:bO}{dp:List Pg}(q:dA d fs n ps fl f dp)(hd:d.dead=false){k:Nat}{b:Pg}(hk:ps[k]? = some b)(hno:¬eR fs n k):k<dp.length/\d.read n (256*k) 256=(dv (jf n) k b,0):=by
 have x9:=aN hk;rcases q.each k x9 with⟨h1,h2⟩| h1
 ·refine⟨h1,?_⟩;have fw:bL n=true:=h.ok n (by rw[hL];rfl);unfold Dsk.read;rw[hd,if_neg ah,fw,if_neg ah,q.get];dsimp only;rw[q.now,BD q.BF h1,Nat.zero_add];have e:dp[k]=b:=by
   rw[hk,List.getElem?_eq_getElem h1]at h2;exact Option.some.inj h2
  rw[e]
 ·exact absurd h1 hno
theorem Sound.mark{d:Dsk}{fs:List bX}{L:aC}(h:Sound d fs L){i:Nat}{x:bX}(hi:fs[i]? = some x)(hx:x.full=true)(u:Bool):Sound d (fs.set i { x with used:=u }) L:=
 h.used List.length_set fun j f f' hj hj'=>by
  rw[fc (aN hi)]at hj';by_cases e:j=i
  ·rw[if_pos e]at hj';rw[e,hi]at hj;cases hj;cases hj';exact⟨rfl,fun hf=>by rw[hx]at hf;cases hf⟩
  ·rw[if_neg e,hj]at hj';cases hj';exact⟨rfl,fun _=>rfl⟩
def Nv(w:World)(pb db fb mb n:Nat)(o:ar)(d:Dsk)(L:aC)(name:Name)(k:Nat)(e:Ending)(w':World):Prop:=
 ∃o' l' QK Yx d' c i,e=.returned (.tuple #[.int .i64 ((i:Nat):Int),.int .i64 ((c:Nat):Int)])/\bq w' pb db fb mb o' l' QK Yx d'/\l'.length=n/\Sound d' (l'.map (·.2)) L/\bJ d d'/\(c=0\/kJ d d' L c) /\
  (c=0->∃v f,l'[i]? = some (v,f)/\f.full=true/\f.name=name/\f.k=k)/\aF (o.In cz) w w'/\ct w.heap.size o o'
theorem Nw(HW:aP){w:World}{pb db fb mb:Nat}{o:ar}{l:List iB}{hand mf:Nat}{d:Dsk}{L:aC}(h:bq w pb db fb mb o l hand mf d)(hg:Sound d (l.map (·.2)) L){name:Name}{ps:List Pg}{fl:Bool}(hL:aA L name=some (.inl (ps,fl))){k:Nat}{b:Pg}(hk:ps[k]? = some b) :
 Calls prog 137 #[ptrTo pb,.string name,.int .i64 (k:Int)] w (Nv w pb db fb mb l.length o d L name k):=by
 obtain⟨f,dp,q,lL,kr⟩:=hg.zE hL;have hs:=b9 (hg.ok name (by rw[hL];rfl));have x9:=aN hk;have jd:=q.most;have hbl:b.length<=240:=q.short b (List.mem_of_getElem? hk);have aM:=aa (qx h hg hL);have H:=aa h;have HG:=aa hg;have HL:=aa hL;have HK:=aa hk;have HQ:=aa q;have acs:=aa lL;have alb:=aa kr;have hn:=h.most;have Np:=h.head.lt;obtain⟨m,dZ,cR⟩:=h.tL;have eY:=aa dZ;have eT:=aa cR;have Ql:=aa (q9 (s:=name) (n:=k) (by unfold maxLen;omega) ae);clear h hg hL hk q lL kr dZ cR;unfold ptrTo at *;unfold er at aM;cases hd:d.dead with
 |true=>
   rw[hd,if_pos rfl]at aM;have HD:=aa hd;clear hd;go_enter func137,ntmps137;go_wp2_with fail;refine aM.o.mono ?_;rintro e w1⟨rfl,hb⟩;have HB:=aa hb;clear hb;go_wp2;go_ret2;exact⟨o,l,hand,mf,d,6,0,rfl,H.o.below HB.o,rfl,HG.o,bJ.refl d,.inr (.inr ⟨rfl,HD.o⟩),fun h=>absurd h af,aF.aW HB.o,ct.refl _ _⟩
 |false=>
   rw[hd,if_neg ah]at aM;have HD:=aa hd;clear hd;have Jy:¬((k:Int) >= (ps.length:Int)):=by omega
   have Jr:¬((k:Int)<0):=by omega
   generalize hP:ps.length=P at *;have HP:=aa hP;clear hP;cases Ed:aA m (name,k) with
   |some i=>
     have QN:=aa Ed;clear Ed;obtain⟨fr,hi,tF,hf2,hf3⟩:=(eT.o name k i).1 QN.o;have lu:i<l.length:=by have:=aN hi;rwa [List.length_map]at this
     go_enter func137,ntmps137;go_wp2_with fail;refine aM.o.mono ?_;rintro e w1⟨rfl,hb⟩;have HB:=aa hb;have H1:=aa (H.o.below hb);have eD:Hid (jh w1 mb m):=aa (eY.o.kept (hb.block mb eY.o.lt));clear hb;obtain⟨⟨-,hc1,hc2,-⟩,-⟩:=H1.o.head.cells;have hz:∀W:World,(zeroValue 3).run prog W=.ok (.int .i64 0) W:=fun W=>by kernel_rfl
     obtain⟨a,c,f0,hi'⟩:=H1.o.shaped.get rfl lu;obtain rfl:f0=fr:=by
      have:=cq hi';rw[hi]at this;exact(Option.some.inj this).symm
     obtain⟨-,-,-,-,-,-,h6⟩:=H1.o.row.seven hi';have WH:=H1.o.row.free (i*7+6);have HI':=aa hi';clear hi hi';go_wp2_with (at_lookup;refine bW _ rfl _ _ _ _ rfl 3 jL fH Tryz.underlying148 (hz _) mb m rfl eD.o (name,k) rfl Ql.o ?_;unfold pU;rw[QN.o];simp only[Option.map_some,Option.getD_some,Option.isSome_some]);go_ret2;have tR:=H1.o.mark (j:=6) (u:=.bool true) (x:={ f0 with used:=true }) HI'.o af rfl rfl rfl rfl rfl;refine⟨o,_,hand,mf,d,0,i,rfl,tR,List.length_set,?_,bJ.refl d,.inl rfl,fun _=>⟨.slice a f0.bytes.length c,{ f0 with used:=true },by rw[fc lu,if_pos rfl],tF,hf2,hf3⟩,(aF.aW HB.o).setCell _ _ (.inl H.o.mF),ct.refl _ _⟩;rw[map_set];exact HG.o.mark (cq HI'.o) tF true
   |none=>
     have QN:=aa Ed;clear Ed;have vz:∀(j:Nat)(fj:bX),(l.map (·.2))[j]? = some fj->fj.full=true->fj.name=name->fj.k=k->False:=fun j fj h1 h2 h3 h4=>by
      have:=(eT.o name k j).2 ⟨fj,h1,h2,h3,h4⟩;rw[QN.o]at this;cases this
     have YH:=aa vz;obtain⟨hkd,Bc⟩:=HG.o.read HL.o HQ.o HD.o HK.o (fun⟨j,fr,h1,h2,_,h4,h5⟩=>vz j fr h1 h2 h4 h5);obtain⟨hsz,BB⟩:=acs.o HD.o;have LS:=aa Bc;have Mg:=aa hsz;have Mf:=aa BB;have ahq:Hid (dp.length<=65536):=aa (by have:=HQ.o.le;have:=HP.o;omega);clear vz Bc hsz BB;go_enter func137,ntmps137;go_wp2_with fail;refine aM.o.mono ?_;rintro e w1⟨rfl,hb⟩;have HB:=aa hb;have H1:=aa (H.o.below hb);have eD:Hid (jh w1 mb m):=aa (eY.o.kept (hb.block mb eY.o.lt));clear hb;obtain⟨⟨hc0,-,hc2,-⟩,-⟩:=H1.o.head.cells;unfold ptrTo at hc0;have hz:∀W:World,(zeroValue 3).run prog W=.ok (.int .i64 0) W:=fun W=>by kernel_rfl
     go_wp2_with (at_lookup;refine bW _ rfl _ _ _ _ rfl 3 jL fH Tryz.underlying148 (hz _) mb m rfl eD.o (name,k) rfl Ql.o ?_;unfold pU;rw[QN.o];simp only[Option.map_none,Option.getD_none,Option.isSome_none]);refine(zB H1.o.lJ name hs).mono ?_;rintro e w2⟨v2,rfl,hb2,hy,-⟩;obtain⟨pf,rfl,hp,hpl⟩:=hy Mf.o;rw[Mf.o];have WO:=aa hp;have H2:=aa (H1.o.below hb2);have cX:=aa (HB.o.trans (hb2.mono HB.o.size));clear hb2 hy hp hz;unfold ptrTo;go_wp2_with fail;refine(Nn H2.o.lJ WO.o hs k (256*dp.length) b Mg.o ae (by have:=ahq.o;omega) LS.o hbl).mono ?_;rintro e w3⟨v3,rfl,iL,hb3⟩;obtain⟨a3,c3,rfl⟩:=az iL;have H3:=aa (H2.o.below hb3);have jB:=aa (cX.o.trans (hb3.mono cX.o.size));have mC:=aa iL;have hs3:w.heap.size<=w2.heap.size:=cX.o.size;have WU:Hid (∀b',(Value.slice a3 b.length c3).ownBlock=some b'->o b'=none):=aa (fun b' hb'=>eI H.o.owned (by have:=aG iL b' hb';omega));have Fy:Hid (∀b',(Value.slice a3 b.length c3).ownBlock=some b'->b'<w3.heap.size):=aa (fun b' hb'=>(aL iL b' hb').1);clear iL hb3;go_wp2_with fail;refine(Gy HW H3.o HG.o).mono ?_;rintro e w4⟨o4,l4,GA,d4,c4,i4,rfl,oQ,hg4,tT,yo,QO,GC,tB,Nx⟩;have xw:=aa oQ;have zH:=aa hg4;have QP:=aa tT;have BL:=aa yo;have YI:=aa QO;have zJ:=aa GC;have uS:=aa ((aF.aW jB.o).trans tB (fun _ _ h=>h):aF (o.In cz) w w4);have JT:Hid (ct w.heap.size o o4):=aa (fun x hx=>Nx x (Nat.lt_of_lt_of_le hx jB.o.size));have TZ:Hid (w4.ownsRow w2.heap.size 5 1 (.slice a3 b.length c3) b.length (b.map bv)):=aa (tB.ownsRow mC.o (fun b' hb'=>ar.dE (WU.o b' hb')));have YJ:Hid (∀b',(Value.slice a3 b.length c3).ownBlock=some b'->o4 b'=none):=aa (fun b' hb'=>by rw[Nx b' (Fy.o b' hb')];exact WU.o b' hb');clear oQ hg4 tT yo QO GC tB Nx;by_cases ij:c4=0
     ·subst ij;obtain⟨p4,xe,JU⟩:=YI.o rfl;have HI4:=aa xe;have YK:=aN xe;have QQ:=aa JU;have zK:∀(j:Nat)(fj:bX),(l4.map (·.2))[j]? = some fj->fj.full=true->fj.name=name->fj.k=k->False:=fun j fj h1 h2 h3 h4=>by
       obtain⟨y,g1,g2,g3,g4⟩:=zJ.o.2 j fj h1 h2;exact YH.o j y g1 g2 (g3.trans h3) (g4.trans h4)
      have QR:=aa zK;have nz:=aa (Gp xw.o xe JU ⟨true,name,k,b,false,true⟩ TZ.o YJ.o zK hs (by show k<_;omega) false);unfold ptrTo at nz;dsimp only at nz;clear xe JU zK;go_wp2_with fail;refine nz.o.mono ?_;rintro e w5⟨rfl,⟨mf5,Fx⟩,rI⟩;have Mk:=aa Fx;have DV:=aa rI;clear Fx rI;go_wp2;go_ret2;refine⟨_,_,GA,mf5,d4,0,i4,rfl,Mk.o,by rw[List.length_set];simpa using zJ.o.1,?_,QP.o,.inl rfl,fun _=>⟨.slice a3 b.length c3,⟨true,name,k,b,false,true⟩,by rw[fc YK,if_pos rfl],rfl,rfl,rfl⟩,?_,?_⟩
      ·rw[map_set];have vB:p4.2.bR=false:=by
        rw[zH.o.blank p4.2 (List.mem_of_getElem? (cq HI4.o)) QQ.o];rfl
       exact zH.o.reset (cq HI4.o) vB rfl (.inr ⟨rfl,⟨ps,fl,HL.o,HK.o⟩,fun i' fi' _ h1 h2 h3 h4=>QR.o i' fi' h1 h2 h3 h4⟩)
      ·refine uS.o.trans DV.o (fun x hx e=>?_);have h1:o4.In cz x:=by
        rcases e with rfl | rfl | rfl
        ·exact xw.o.mF
        ·exact⟨_,xw.o.nZ,show 8<10 by decide⟩
        ·exact⟨_,xw.o.yf,show 6<10 by decide⟩
       obtain⟨t,g1,g2⟩:=h1;exact⟨t,by rw[<- JT.o x hx];exact g1,g2⟩
      ·exact JT.o.trans (ar.tC (n:=w2.heap.size) (fun b' hb'=>aG TZ.o b' hb')) hs3
     ·have tU:¬(c4:Int)=0:=by omega
      have Bh:=aa ij;clear ij;go_wp2;go_ret2;exact⟨o4,l4,GA,mf,d4,c4,0,rfl,xw.o,by simpa using zJ.o.1,zH.o,QP.o,BL.o,fun h=>absurd h Bh.o,uS.o,JT.o⟩
def gP(w:World)(pb db n:Nat)(o:ar)(d:Dsk)(L:aC)(b:Pg)(e:Ending)(w':World):Prop:=
 ∃v c d' o',e=.returned (.tuple #[v,.int .i64 ((c:Nat):Int)])/\aQ w' pb db n o' d' L/\aF (o.In cz) w w'/\ct w.heap.size o o'/\bJ d d'/\(c=0\/kJ d d' L c) /\
  (c=0->w'.ownsRow w.heap.size 5 1 v b.length (b.map bv)/\∀x,v.ownBlock=some x->o' x=none)/\(c≠0->v=.slice none 0 0)
theorem pj(HW:aP){w:World}{pb db n:Nat}{o:ar}{d:Dsk}{L:aC}(h:aQ w pb db n o d L){name:Name}{ps:List Pg}{fl:Bool}(hL:aA L name=some (.inl (ps,fl))){k:Nat}{b:Pg}(hk:ps[k]? = some b) :
 Calls prog 93 #[ptrTo pb,.string name,.int .i64 (k:Int)] w (gP w pb db n o d L b):=by
 obtain⟨fb,mb,l,hand,mf,hp,rfl,hg⟩:=h;have hbl:b.length<=240:=by
  obtain⟨f,dp,q⟩:=hg.dF _ _ _ hL;exact q.short b (List.mem_of_getElem? hk)
 have aM:=aa (Nw HW hp hg hL hk);have HL:=aa hL;have HK:=aa hk;clear hp hg hL hk;unfold ptrTo at *;go_enter func93,ntmps93;go_wp2_with fail;refine aM.o.mono ?_;rintro e w1⟨o1,l1,WV,mf1,d1,c1,i1,rfl,zn,WW,hg1,acv,td,acw,mo,acx⟩;have JO:=aa zn;have Je:=aa hg1;have WX:=aa WW;have acy:=aa acv;have CU:=aa td;have aht:=aa acw;have P5:=aa mo;have acz:=aa acx;clear WW zn hg1 acv td acw mo acx;by_cases hc:c1=0
 ·subst hc;obtain⟨v1,f1,rS,tF,hf2,hf3⟩:=aht.o rfl;have an2:=aN rS;have hbf:f1.bytes=b:=by
   obtain⟨Ge,kI,Bd,Bw⟩:=Je.o.frames f1 (List.mem_of_getElem? (cq rS)) tF;rw[hf2,HL.o]at Bd;cases Bd;rw[hf3,HK.o]at Bw;exact(Option.some.inj Bw).symm
  have HBF:=aa hbf;have hrow:=(JO.o.each _ (List.mem_of_getElem? rS)).1;dsimp only at hrow;obtain⟨a1,cc1,rfl⟩:=az hrow;rw[hbf]at hrow rS;have FZ:=aa hrow;obtain⟨-,-,-,h3,-⟩:=JO.o.row.seven rS;obtain⟨⟨-,hc1,-⟩,-⟩:=JO.o.head.cells;clear rS tF hf2 hf3 hbf hrow;go_wp2_with fail;refine(fS _ b _ (fD FZ.o) ae).mono ?_;rintro e w2⟨v2,rfl,kf,hb2⟩;go_wp2;go_ret2;refine⟨v2,0,d1,o1,rfl,⟨fb,mb,l1,WV,mf1,JO.o.below hb2,WX.o,Je.o⟩,P5.o.bM hb2,acz.o,acy.o,.inl rfl,fun _=>⟨aU kf P5.o.size,fun x hx=>eI JO.o.owned (aG kf x hx)⟩,fun h=>absurd rfl h⟩
 ·have hc':¬(c1:Int)=0:=by omega
  have HC:=aa hc;clear hc;go_wp2;go_ret2;exact⟨_,c1,d1,o1,rfl,⟨fb,mb,l1,WV,mf1,JO.o,WX.o,Je.o⟩,P5.o,acz.o,acy.o,CU.o,fun h=>absurd h HC.o,fun _=>rfl⟩
theorem bq.lay{w:World}{pb db fb mb:Nat}{o:ar}{l:List iB}{hand mf:Nat}{d:Dsk}(h:bq w pb db fb mb o l hand mf d){i:Nat}{u:Value}{f:bX}(hi:l[i]? = some (u,f)){v:Value}{b:Pg}{base:Nat}(hv:w.ownsRow base 5 1 v b.length (b.map bv))(mj:∀x,v.ownBlock=some x->o x=none) :
 bq (((w.setCell ⟨fb,i*7+3,none⟩ v).setCell ⟨fb,i*7+5,none⟩ (.bool true)).setCell ⟨fb,i*7+6,none⟩ (.bool true)) pb db fb mb (o.put v (9,0)) (l.set i (v,{ f with bytes:=b,bR:=true,used:=true })) hand mf d:=by
 have lu:=aN hi;have r1:=h.row.set' (q:=(v,{ f with bytes:=b })) hi (j:=3) af (v:=v) rfl;have g1:(l.set i (v,{ f with bytes:=b }))[i]? = some (v,{ f with bytes:=b }):=by rw[fc lu,if_pos rfl]
 have r2:=r1.set' (q:=(v,{ f with bytes:=b,bR:=true })) g1 (j:=5) af (v:=.bool true) rfl;have g2:((l.set i (v,{ f with bytes:=b })).set i (v,{ f with bytes:=b,bR:=true }))[i]? = some (v,{ f with bytes:=b,bR:=true }):=by rw[fc (by rw[List.length_set];exact lu),if_pos rfl]
 have r3:=r2.set' (q:=(v,{ f with bytes:=b,bR:=true,used:=true })) g2 (j:=6) af (v:=.bool true) rfl;rw[List.set_set,List.set_set]at r3;have ht:aF (·=fb) w (((w.setCell ⟨fb,i*7+3,none⟩ v).setCell ⟨fb,i*7+5,none⟩ (.bool true)).setCell ⟨fb,i*7+6,none⟩ (.bool true)):=(((aF.refl (·=fb) w).setCell ⟨fb,i*7+3,none⟩ v (.inl rfl)).setCell ⟨fb,i*7+5,none⟩ (.bool true) (.inl rfl)).setCell ⟨fb,i*7+6,none⟩ (.bool true) (.inl rfl);have YL:∀x,v.ownBlock=some x->x<w.heap.size:=fun x hx=>(aL hv x hx).1;refine h.tM r3 (ht.mono fun _ _ e=>.inl e) (ar.tD mj) (fun x t hx=>Nat.lt_of_lt_of_le (ar.vw h.owned YL x t hx) ht.size) ?_ ?_
 ·obtain⟨m,m1,m2⟩:=h.tL;exact⟨m,m1.turn ht (ar.ne h.nZ h.rV af),m2.same (cq hi) rfl rfl rfl⟩
 ·exact⟨aU (ht.ownsRow hv (fun x hx e=>by have:=mj x hx;rw[e,h.rV]at this;cases this)) (Nat.zero_le _),fun x hx=>ar.zm hx⟩
def nA(w:World)(pb db n:Nat)(o:ar)(d:Dsk)(L L':aC)(e:Ending)(w':World):Prop:=
 ∃c d' o',e=.returned (.int .i64 ((c:Nat):Int))/\aQ w' pb db n o' d' (if c=0 then L' else L)/\aF (o.In cz) w w'/\ct w.heap.size o o'/\bJ d d'/\(c=0\/kJ d d' L c)
theorem bq.WY{w:World}{pb db fb mb:Nat}{o:ar}{l:List iB}{hand mf:Nat}{d:Dsk}(h:bq w pb db fb mb o l hand mf d):o.In cz mb:=⟨_,h.nZ,show 8<10 by decide⟩
theorem bq.acA{w:World}{pb db fb mb:Nat}{o:ar}{l:List iB}{hand mf:Nat}{d:Dsk}(h:bq w pb db fb mb o l hand mf d):o.In cz pb:=⟨_,h.yf,show 6<10 by decide⟩
theorem UJ{n:Nat}{o o':ar}(hg:ct n o o'){C:Nat->Prop}{x:Nat}(hx:x<n)(h:o'.In C x):o.In C x:=by
 obtain⟨t,h1,h2⟩:=h;exact⟨t,by rw[<- hg x hx];exact h1,h2⟩
theorem BM(HW:aP){w:World}{pb db n:Nat}{o:ar}{d:Dsk}{L:aC}(h:aQ w pb db n o d L){name:Name}{ps:List Pg}{fl:Bool}(hL:aA L name=some (.inl (ps,fl))){k:Nat}(hk:k<=ps.length)(Bw:k<65536){v:Value}{b:Pg}(hv:Rd w v b)(hb:b.length<=240)(mj:∀x,v.ownBlock=some x->o x=none) :
 Calls prog 155 #[ptrTo pb,.string name,.int .i64 (k:Int),v] w (nA w pb db n o d L (aS L name (.inl (di ps k b,false)))):=by
 obtain⟨fb,mb,l,hand,mf,hp,rfl,hg⟩:=h;have hs:=b9 (hg.ok name (by rw[hL];rfl));have aM:=aa (qx hp hg hL);have H:=aa hp;have HG:=aa hg;have HL:=aa hL;have HV:=aa hv;have vI:=aa mj;have HK:=aa hk;have Fz:=aa hb;obtain⟨va,vc,rfl,-⟩:=hv;have hn:=hp.most;have Np:=hp.head.lt;obtain⟨m,dZ,cR⟩:=hp.tL;have eY:=aa dZ;have eT:=aa cR;have Ql:=aa (q9 (s:=name) (n:=k) (by unfold maxLen;omega) ae);have ald:¬((b.length:Int)>240):=by omega
 have Jy:¬((k:Int)>(ps.length:Int)):=by omega
 have Jr:¬((k:Int)<0):=by omega
 clear hp hg hL dZ cR mj hk hb;unfold ptrTo at *;unfold er at aM;generalize hP:ps.length=P at *;have HP:=aa hP;clear hP;generalize hB:b.length=B at *;have HB:=aa hB;clear hB;cases hd:d.dead with
 |true=>
   rw[hd,if_pos rfl]at aM;have HD:=aa hd;clear hd;go_enter func155,ntmps155;go_wp2_with fail;refine aM.o.mono ?_;rintro e w1⟨rfl,hb⟩;have cQ:=aa hb;clear hb;go_wp2;go_ret;exact⟨6,d,o,rfl,⟨fb,mb,l,hand,mf,H.o.below cQ.o,rfl,HG.o⟩,aF.aW cQ.o,ct.refl _ _,bJ.refl d,.inr (.inr ⟨rfl,HD.o⟩)⟩
 |false=>
   rw[hd,if_neg ah]at aM;clear hd;have hz:∀W:World,(zeroValue 3).run prog W=.ok (.int .i64 0) W:=fun W=>by kernel_rfl
   cases Ed:aA m (name,k) with
   |some i=>
     have QN:=aa Ed;clear Ed;obtain⟨fr,hi,tF,hf2,hf3⟩:=(eT.o name k i).1 QN.o;have lu:i<l.length:=by have:=aN hi;rwa [List.length_map]at this
     go_enter func155,ntmps155;go_wp2_with fail;refine aM.o.mono ?_;rintro e w1⟨rfl,hb⟩;have cQ:=aa hb;have H1:=aa (H.o.below hb);have eD:Hid (jh w1 mb m):=aa (eY.o.kept (hb.block mb eY.o.lt));clear hb;obtain⟨⟨-,hc1,hc2,-⟩,-⟩:=H1.o.head.cells;obtain⟨a,c,f0,hi'⟩:=H1.o.shaped.get rfl lu;obtain rfl:f0=fr:=by
      have:=cq hi';rw[hi]at this;exact(Option.some.inj this).symm
     have HI':=aa hi';have UK:=aa (HV.o.below cQ.o);clear hi hi';go_wp2_with (first | (at_lookup;refine bW _ rfl _ _ _ _ rfl 3 jL fH Tryz.underlying148 (hz _) mb m rfl eD.o (name,k) rfl Ql.o ?_;unfold pU;rw[QN.o];simp only[Option.map_some,Option.getD_some,Option.isSome_some]) | fail);have vB:=aa (fS _ b w1 UK.o (by have:=HB.o;have:=Fz.o;omega));refine vB.o.mono ?_;rintro e w2⟨v2,rfl,kf,hb2⟩;obtain⟨a2,c2,rfl⟩:=az kf;have H2:=aa (H1.o.below hb2);have cX:=aa (cQ.o.trans (hb2.mono cQ.o.size));have pZ:=aa kf;have hs1:w.heap.size<=w1.heap.size:=cQ.o.size;have WZ:Hid (∀x,(Value.slice a2 b.length c2).ownBlock=some x->o x=none):=aa (fun x hx=>eI H.o.owned (Nat.le_trans hs1 (aG kf x hx)));clear kf hb2 hc1 hc2;obtain⟨-,-,-,h3,-,h5,h6⟩:=H2.o.row.seven HI'.o;have z3:=H2.o.row.free (i*7+3);have z5:=H2.o.row.free (i*7+5);have z6:=H2.o.row.free (i*7+6);go_wp2;go_ret;have YM:=H2.o.lay HI'.o pZ.o WZ.o;have YN:=HG.o.write (cq HI'.o) HL.o (u:=true) (by rw[HP.o];exact HK.o) Bw (b:=b) (by rw[HB.o];exact Fz.o) (.inl ⟨tF,hf2,hf3⟩);refine⟨0,d,_,rfl,⟨fb,mb,_,hand,mf,YM,List.length_set,?_⟩,?_,?_,bJ.refl d,.inl rfl⟩
     ·rw[if_pos rfl,map_set];subst hf2 hf3;rw[tF];exact YN
     ·exact(((aF.aW cX.o).setCell ⟨fb,i*7+3,none⟩ _ (.inl H.o.mF)).setCell ⟨fb,i*7+5,none⟩ (.bool true) (.inl H.o.mF)).setCell ⟨fb,i*7+6,none⟩ (.bool true) (.inl H.o.mF)
     ·exact ar.tC (fun x hx=>Nat.le_trans hs1 (aG pZ.o x hx))
   |none=>
     have QN:=aa Ed;clear Ed;have vz:∀(j:Nat)(fj:bX),(l.map (·.2))[j]? = some fj->fj.full=true->fj.name=name->fj.k=k->False:=fun j fj h1 h2 h3 h4=>by
      have:=(eT.o name k j).2 ⟨fj,h1,h2,h3,h4⟩;rw[QN.o]at this;cases this
     have YH:=aa vz;clear vz;go_enter func155,ntmps155;go_wp2_with fail;refine aM.o.mono ?_;rintro e w1⟨rfl,hb⟩;have cQ:=aa hb;have H1:=aa (H.o.below hb);have eD:Hid (jh w1 mb m):=aa (eY.o.kept (hb.block mb eY.o.lt));have UK:=aa (HV.o.below hb);clear hb;obtain⟨⟨-,-,hc2,-⟩,-⟩:=H1.o.head.cells;go_wp2_with (first | (at_lookup;refine bW _ rfl _ _ _ _ rfl 3 jL fH Tryz.underlying148 (hz _) mb m rfl eD.o (name,k) rfl Ql.o ?_;unfold pU;rw[QN.o];simp only[Option.map_none,Option.getD_none,Option.isSome_none]) | fail);refine(Gy HW H1.o HG.o).mono ?_;rintro e w4⟨o4,l4,GA,d4,c4,i4,rfl,oQ,hg4,tT,yo,QO,GC,tB,Nx⟩;have xw:=aa oQ;have zH:=aa hg4;have QP:=aa tT;have BL:=aa yo;have YI:=aa QO;have zJ:=aa GC;have hs1:w.heap.size<=w1.heap.size:=cQ.o.size;have uS:=aa ((aF.aW cQ.o).trans tB (fun _ _ h=>h):aF (o.In cz) w w4);have JT:Hid (ct w.heap.size o o4):=aa (fun x hx=>Nx x (Nat.lt_of_lt_of_le hx cQ.o.size));have JV:Hid (Rd w4 (.slice va B vc) b):=aa (tB.rd UK.o (fun x hx=>ar.dE (vI.o x hx)));have oT:w.heap.size<=w4.heap.size:=uS.o.size;clear oQ hg4 tT yo QO GC tB Nx hc2;by_cases ij:c4=0
     ·subst ij;obtain⟨p4,xe,JU⟩:=YI.o rfl;have HI4:=aa xe;have YK:=aN xe;have QQ:=aa JU;have zK:∀(j:Nat)(fj:bX),(l4.map (·.2))[j]? = some fj->fj.full=true->fj.name=name->fj.k=k->False:=fun j fj h1 h2 h3 h4=>by
       obtain⟨y,g1,g2,g3,g4⟩:=zJ.o.2 j fj h1 h2;exact YH.o j y g1 g2 (g3.trans h3) (g4.trans h4)
      have QR:=aa zK;have nz:=aa (Gp xw.o xe JU ⟨true,name,k,[],false,false⟩ (a:=none) (c:=0) (base:=0) (ownsRow_nil _ _ _) (fun x hx=>by cases hx) zK hs (by show k<_;omega) false);unfold ptrTo at nz;dsimp only at nz;clear xe JU zK;go_wp2_with fail;refine nz.o.mono ?_;rintro e w5⟨rfl,⟨mf5,Fx⟩,rI⟩;have acB:o4.put (.slice none ([]:Pg).length 0) (9,0)=o4:=rfl;rw[acB]at Fx;have Mk:=aa Fx;have DV:=aa (uS.o.trans rI (fun x hx e=>by
       have h1:o4.In cz x:=by
        rcases e with rfl | rfl | rfl
        ·exact xw.o.mF
        ·exact xw.o.WY
        ·exact xw.o.acA
       exact UJ JT.o hx h1))
      have Ny:Hid (Rd w5 (.slice va B vc) b):=aa (rI.rd JV.o (fun x hx e=>by
       have Qu:=vI.o x hx;rcases e with rfl | rfl | rfl
       ·rw[H.o.rV]at Qu;cases Qu
       ·rw[H.o.nZ]at Qu;cases Qu
       ·rw[H.o.yf]at Qu;cases Qu))
      clear Fx rI;have UI:(l4.set i4 (Value.slice none ([]:Pg).length 0,(⟨true,name,k,[],false,false⟩:bX)))[i4]? = some (Value.slice none ([]:Pg).length 0,⟨true,name,k,[],false,false⟩):=by rw[fc YK,if_pos rfl]
      have HI5:=aa UI;clear UI;obtain⟨⟨-,hc1,-⟩,-⟩:=Mk.o.head.cells;go_wp2_with fail;have vB:=aa (fS _ b w5 Ny.o (by have:=HB.o;have:=Fz.o;omega));refine vB.o.mono ?_;rintro e w6⟨v6,rfl,ho6,FA⟩;obtain⟨a6,c6,rfl⟩:=az ho6;have H6:=aa (Mk.o.below FA);have Qj:=aa (DV.o.bM FA);have YO:=aa ho6;have hs5:w.heap.size<=w5.heap.size:=DV.o.size;have HF6:Hid (∀x,(Value.slice a6 b.length c6).ownBlock=some x->o4 x=none):=aa (fun x hx=>eI Mk.o.owned (aG ho6 x hx));clear ho6 FA hc1;obtain⟨-,-,-,h3,-,h5,h6⟩:=H6.o.row.seven HI5.o;have z3:=H6.o.row.free (i4*7+3);have z5:=H6.o.row.free (i4*7+5);have z6:=H6.o.row.free (i4*7+6);go_wp2;go_ret;have YM:=H6.o.lay HI5.o YO.o HF6.o;have ahw:p4.2.bR=false:=by
       rw[zH.o.blank p4.2 (List.mem_of_getElem? (cq HI4.o)) QQ.o];rfl
      have YN:=zH.o.write (cq HI4.o) HL.o (u:=true) (by rw[HP.o];exact HK.o) Bw (b:=b) (by rw[HB.o];exact Fz.o) (.inr ⟨ahw,fun i' fi' _ h1 h2 h3 h4=>QR.o i' fi' h1 h2 h3 h4⟩);refine⟨0,d4,_,rfl,⟨fb,mb,_,GA,mf5,YM,by rw[List.length_set,List.length_set];simpa using zJ.o.1,?_⟩,?_,?_,QP.o,.inl rfl⟩
      ·rw[if_pos rfl,List.set_set,map_set];exact YN
      ·exact((Qj.o.setCell ⟨fb,i4*7+3,none⟩ _ (.inl H.o.mF)).setCell ⟨fb,i4*7+5,none⟩ (.bool true) (.inl H.o.mF)).setCell ⟨fb,i4*7+6,none⟩ (.bool true) (.inl H.o.mF)
      ·exact JT.o.trans (ar.tC (n:=w5.heap.size) (fun x hx=>aG YO.o x hx)) hs5
     ·have tU:¬(c4:Int)=0:=by omega
      have Bh:=aa ij;clear ij;go_wp2;go_ret;refine⟨c4,d4,o4,rfl,⟨fb,mb,l4,GA,mf,xw.o,by simpa using zJ.o.1,?_⟩,uS.o,JT.o,QP.o,BL.o⟩;rw[if_neg Bh.o];exact zH.o
theorem kJ.later{d d1 d2:Dsk}{L:aC}{c:Nat}(hq:d1.bC=d.bC)(h:kJ d1 d2 L c):kJ d d2 L c:=by
 rcases h with⟨h1,h2⟩| h
 ·exact .inl ⟨h1,by rw[<- hq];exact h2⟩
 ·exact .inr h
theorem Sound.synced{d:Dsk}{fs:List bX}{L:aC}(h:Sound d fs L){name:Name}{ps:List Pg}{fl:Bool}(hL:aA L name=some (.inl (ps,fl)))(hno:∀k,¬eR fs name k) :
 Sound (d.sync name).1 fs (if (d.sync name).2=0 then aS L name (.inl (ps,true)) else L)/\bJ d (d.sync name).1/\((d.sync name).2=0\/kJ d (d.sync name).1 L (d.sync name).2):=by
 obtain⟨f,dp,q⟩:=h.dF _ _ _ hL;have fw:bL name=true:=h.ok name (by rw[hL];rfl);unfold Dsk.sync;cases hd:d.tick.dead with
 |true=>exact⟨h.tick,bJ.tick d,.inr (.inr ⟨rfl,hd⟩)⟩
 |false=>
   rw[if_neg ah,fw,if_neg ah,q.get];dsimp only;exact⟨h.sync hL hno q.get rfl rfl,(bJ.tick d).of rfl rfl rfl,.inl rfl⟩
theorem Nz(HW:aP){w:World}{pb db n:Nat}{o:ar}{d:Dsk}{L:aC}(h:aQ w pb db n o d L){name:Name}{ps:List Pg}{fl:Bool}(hL:aA L name=some (.inl (ps,fl))) :
 Calls prog 79 #[ptrTo pb,.string name] w (nA w pb db n o d L (aS L name (.inl (ps,true)))):=by
 obtain⟨fb,mb,l,hand,mf,hp,rfl,hg⟩:=h;obtain⟨df,dp,q,lL,kr⟩:=hg.zE hL;have fw:=b9 (hg.ok name (by rw[hL];rfl));have ik:=hg.vJ;have hn:=hp.most;have H:=aa hp;have HG:=aa hg;have HQ:=aa q;have yj:=aa ik;have HL:=aa hL;have aM:=aa (sM hp name fw);have HLEN:Hid (l.length<=4096):=aa hn;have hhi:Hid (∀p,eR (l.map (·.2)) name p->p<16777216):=aa (fun p ⟨j,fr,h1,_,_,_,h5⟩=>by
  have:=(hg.fit fr (List.mem_of_getElem? h1)).2;omega)
 clear hp hg q ik hL;unfold ptrTo at *;cases hd:d.dead with
 |true=>
   obtain⟨-,BB⟩:=kr hd;have Mf:=aa BB;have HD:=aa hd;clear hd BB lL kr;go_enter func79,ntmps79;go_wp2_with fail;refine aM.o.mono ?_;rintro e w1⟨v1,n1,rfl,hb1,-⟩;rw[Mf.o];have HB:=aa hb1;clear hb1;go_wp2;go_ret;exact⟨6,d,o,rfl,⟨fb,mb,l,hand,mf,H.o.below HB.o,rfl,HG.o⟩,aF.aW HB.o,ct.refl _ _,bJ.refl d,.inr (.inr ⟨rfl,HD.o⟩)⟩
 |false=>
   obtain⟨hsz,BB⟩:=lL hd;have Mf:=aa BB;clear hd BB lL kr hsz;go_enter func79,ntmps79;go_wp2_with fail;refine aM.o.mono ?_;rintro e w1⟨v1,n1,rfl,hb1,hy⟩;obtain⟨-,pf,rfl,hp,hpl⟩:=hy Mf.o;rw[Mf.o];have HB:=aa hb1;have WO:=aa hp;clear hb1 hp hy;unfold ptrTo;have gU:=aa (CS (H.o.below HB.o) (fun p hp=>(yj.o p hp).2) name 0 16777216);unfold ptrTo at gU;go_wp2_with fail;refine gU.o.mono ?_;rintro e w2⟨v2,ls,rfl,kf,zG,hb2⟩;have cX:=aa (HB.o.trans (hb2.mono HB.o.size));have pZ:=aa kf;have HT:=aa zG;have ace:Hid (ls.length<=100000):=aa (by
    have h1:=zG.length_le;rw[List.length_map]at h1;have:=HLEN.o;omega)
   have QG:=aa (WO.o.below hb2);have TW:Hid (∀x∈ls,x<l.length):=aa (fun x hx=>by
    obtain⟨fr,h1,_⟩:=(HT.o.mem x).1 hx;have:=aN h1;rwa [List.length_map]at this)
   have BB:=aa (eI H.o.owned hpl);have lM:=aa (Me HW (H.o.below cX.o) yj.o fw QG.o BB.o pZ.o (fun b hb=>eI H.o.owned (by have:=aG pZ.o b hb;have:=HB.o.size;omega)) TW.o ace.o);obtain⟨d',pY,ec,hr,LY,x7,tQ,tR,he⟩:=Sound.Ux HL.o ls d (l.map (·.2)) df dp HG.o HQ.o (HT.o.Ux HG.o hhi.o);rw[hr]at lM;have HG':=aa LY;have HON:=aa x7;have Mh:=aa tR;have HE:=aa he;have QH:=aa tQ;unfold ptrTo at lM;clear hr LY x7 tQ tR he kf zG hb2;go_wp2_with fail;refine lM.o.mono ?_;rintro e w4⟨o',l',rfl,oQ,hl4,Mi,QI,tB,hg4⟩;dsimp only at hl4 oQ;have xw:=aa oQ;have Mj:=aa hl4;have Xa:=aa Mi;have uS:=aa ((aF.aW cX.o).trans tB (fun _ _ h=>h):aF (o.In cz) w w4);have zH:Hid (ct w.heap.size o o'):=aa (fun x hx=>hg4 x (Nat.lt_of_lt_of_le hx cX.o.size));have QQ:Hid (nw w4 pf db name):=aa (QG.o.kept tB (ar.dE BB.o));clear oQ hl4 Mi QI tB hg4;by_cases hc:ec=0
   ·subst hc;have hno:∀k,¬eR pY name k:=fun k ⟨j,fj,g1,g2,g3,g4,g5⟩=>by
     have lA:j<(l.map (·.2)).length:=by rw[<- QH.o];exact aN g1
     obtain⟨dd,s1,s2,s3,s4⟩:=Mh.o j _ (List.getElem?_eq_getElem lA);rw[g1]at s1;have e1:=Option.some.inj s1;subst e1;dsimp only at g2 g3 g4 g5;have hm:j∈ls:=(HT.o.mem j).2 ⟨_,List.getElem?_eq_getElem lA,gB.2 ⟨g2,s2 g3,g4,Nat.zero_le _,hhi.o _ ⟨j,_,List.getElem?_eq_getElem lA,g2,s2 g3,g4,rfl⟩⟩⟩;have:=s4 rfl hm;rw[this]at g3;cases g3
    obtain⟨hs1,hs2,hs3⟩:=HG'.o.synced HL.o hno;have iV:=aa hs1;have eK:=aa hs2;have fC:=aa hs3;have nz:=aa (JP xw.o.lJ QQ.o fw);unfold ptrTo at nz;clear hno hs1 hs2 hs3;generalize (d'.sync name).1=d5 at *;generalize (d'.sync name).2=c5 at *;go_wp2_with fail;refine nz.o.mono ?_;rintro e w5⟨rfl,o5,Yh,rI,BI⟩;have Mk:=aa (xw.o.zA Yh rI BI);have DV:=aa (uS.o.owned zH.o rI.aY);have HG5:=aa (zH.o.trans BI uS.o.size);clear Yh rI BI;go_wp2;go_ret;refine⟨c5,d5,o5,rfl,⟨fb,mb,l',hand,mf,Mk.o,Xa.o,by rw[Mj.o];exact iV.o⟩,DV.o,HG5.o,HON.o.trans eK.o,fC.o.imp id (kJ.later HON.o.bC)⟩
   ·have hc':¬(ec:Int)=0:=by omega
    have HC:=aa hc;clear hc;go_wp2;go_ret;refine⟨ec,d',o',rfl,⟨fb,mb,l',hand,mf,xw.o,Xa.o,by rw[Mj.o,if_neg HC.o];exact HG'.o⟩,uS.o,zH.o,HON.o,HE.o⟩
def fo(name:Name)(f:bX):bX:=if f.full=true/\f.name=name then bX.none else f
def lQ(name:Name)(k:Nat)(fs:List bX):List bX:=(fs.take k).map (fo name)++fs.drop k
theorem GD(name:Name)(fs:List bX):lQ name 0 fs=fs:=by rfl
theorem JW(name:Name)(fs:List bX):lQ name fs.length fs=fs.map (fo name):=by simp[lQ]
theorem rX(name:Name)(k:Nat)(fs:List bX):(lQ name k fs).length=fs.length:=by
 grind [lQ]
theorem zL(name:Name){k:Nat}{fs:List bX}(h:k<=fs.length)(j:Nat):(lQ name k fs)[j]? = if j<k then (fs[j]?).map (fo name) else fs[j]? := by
 grind [lQ]
theorem GF(name:Name){k:Nat}{fs:List bX}{f:bX}(h:fs[k]? = some f):lQ name (k+1) fs=(lQ name k fs).set k (fo name f):=by
 have hk:=aN h;apply List.ext_getElem?;grind [rX,zL]
theorem k8{name:Name}{f:bX}(h:(fo name f).full=true):fo name f=f/\f.full=true/\f.name≠name:=by
 unfold fo at h ⊢;split at h
 ·cases h
 grind
theorem GG{name:Name}{fs:List bX}{j:Nat}{x:bX}(h:(fs.map (fo name))[j]? = some x):∃y,fs[j]? = some y/\x=fo name y:=by
 grind
theorem rY{name n:Name}{fs:List bX}{k:Nat}(hn:n≠name):eR (fs.map (fo name)) n k↔eR fs n k:=by
 constructor
 ·rintro⟨j,x,h,h1,h2,h3,h4⟩;obtain⟨y,hy,rfl⟩:=GG h;obtain⟨e,g1,g2⟩:=k8 h1;rw[e]at h2 h3 h4;exact⟨j,y,hy,g1,h2,h3,h4⟩
 ·rintro⟨j,y,h,h1,h2,h3,h4⟩;refine⟨j,y,?_,h1,h2,h3,h4⟩;grind [fo]
theorem Sound.UL{d:Dsk}{fs:List bX}{L:aC}(h:Sound d fs L){name:Name}{ps:List Pg}{fl:Bool}(hL:aA L name=some (.inl (ps,fl))){f:bO}{dp:List Pg}(q:dA d fs name ps fl f dp) :
 Sound d (fs.map (fo name)) (aS L name (.inl (dp,false))) where
 keys:=cC h.keys
 fI:=h.fI
 names:=fun n=>by
  grind [cG,names]
 ok:=fun n hn=>by
  grind [cG,ok]
 dF:=fun n Ge kI hg=>by
  rw[ay]at hg;by_cases e:n=name
  ·rw[if_pos e]at hg;cases hg;subst e;exact⟨f,_,q.get,q.now,Nat.le_refl _,Nat.le_trans q.le q.most,q.BF,q.BF,fun k hk=>.inl ⟨hk,rfl⟩,fun e=>(by cases e),q.km⟩
  ·rw[if_neg e]at hg;obtain⟨f',dp',q'⟩:=h.dF n Ge kI hg;refine⟨f',dp',q'.get,q'.now,q'.le,q'.most,q'.short,q'.BF,fun k hk=>(q'.each k hk).imp id (rY e).2,fun e'=>?_,q'.km⟩;grind [dA.gu,rY]
 lI:=fun n f' ls hg=>by
  grind [ay,lI]
 frames:=fun fr dO hf=>by
  grind [k8,frames,ay]
 blank:=fun fr dO hf=>by
  grind [fo,blank]
 once:=fun i j fi fj hi hj h1 h2 h3 h4=>by
  grind [k8,once]
 dm:=fun n s hs=>by
  grind [cG,dm]
theorem CV{κ υ:Type}[DecidableEq κ](m:List (κ×υ))(k:κ)(v:υ):bZ (aS m k v) k=bZ m k:=by
 unfold aS bZ;simp
def Mm(d':Dsk)(L L':aC)(name:Name)(c:Nat):Prop:=c=0/\L'=bZ L name\/c=6/\d'.dead=true/\∃dp,L'=aS L name (.inl (dp,false))
theorem Sound.UM{d:Dsk}{fs:List bX}{L:aC}(h:Sound d fs L){name:Name}{ps:List Pg}{fl:Bool}(hL:aA L name=some (.inl (ps,fl))) :
 ∃L',Sound (d.remove name).1 (fs.map (fo name)) L'/\bJ d (d.remove name).1/\Mm (d.remove name).1 L L' name (d.remove name).2:=by
 obtain⟨f,dp,q⟩:=h.dF _ _ _ hL;have fw:bL name=true:=h.ok name (by grind);have he:=h.UL hL q;unfold Dsk.remove;cases hd:d.tick.dead with
 |true=>exact⟨_,he.tick,bJ.tick d,.inr ⟨rfl,hd,dp,rfl⟩⟩
 |false=>
   rw[if_neg ah,fw,if_neg ah,q.get];dsimp only;refine⟨bZ L name,?_,(bJ.tick d).of rfl rfl rfl,.inl ⟨rfl,rfl⟩⟩;grind [CV,drop,k8]
theorem qi{α:Type}{l:List α}{j:Nat}{x:α}(h:l[j]? = some x):l.set j x=l:=by
 apply List.ext_getElem?;intro i;rw[fc (aN h)];by_cases e:i=j
 ·subst e;rw[if_pos rfl,h]
 ·rw[if_neg e]
def GH(w:World)(pb db n:Nat)(o:ar)(d:Dsk)(L:aC)(name:Name)(e:Ending)(w':World):Prop:=
 ∃c d' o' L',e=.returned (.int .i64 ((c:Nat):Int))/\aQ w' pb db n o' d' L'/\aF (o.In cz) w w'/\ct w.heap.size o o'/\bJ d d'/\Mm d' L L' name c
theorem tV{w:World}{pb db nf:Nat}{o:ar}{d:Dsk}{L:aC}(h:aQ w pb db nf o d L){name:Name}{ps:List Pg}{fl:Bool}(hL:aA L name=some (.inl (ps,fl))) :
 Calls prog 62 #[ptrTo pb,.string name] w (GH w pb db nf o d L name):=by
 obtain⟨fb,mb,l,hand,mf,hp,hnf,hg⟩:=h;have HNF:=aa hnf;clear hnf;have fw:=b9 (hg.ok name (by rw[hL];rfl));have ik:=hg.vJ;have hn:=hp.most;have H:=aa hp;have yj:=aa ik;have vG:=aa hp.row;have HS:=aa hp.shaped;have HNS:Hid (∀fr∈l.map (·.2),fr.full=true->fr.name.size<=1000):=aa (fun fr dO hf=>by
  obtain⟨Ge,kI,r1,_⟩:=hg.frames fr dO hf;exact b9 (hg.ok _ (by rw[r1];rfl)))
 obtain⟨L',hs1,hs2,hs3⟩:=hg.UM hL;have iV:=aa hs1;have eK:=aa hs2;have fC:=aa hs3;obtain⟨⟨-,hc1,-⟩,-⟩:=hp.head.cells;have ahy:Hid (∀W o',cI W db o' d->Calls prog 96 #[ptrTo db,.string name] W fun e w'=>e=.returned (.int .i64 ((d.remove name).2:Int))/\cx W db o' (d.remove name).1 w'):=aa (fun W o' hW=>JG hW name fw);clear hp hg ik hL hs1 hs2 hs3;unfold ptrTo at *;generalize (d.remove name).1=d5 at *;generalize (d.remove name).2=c5 at *;generalize hN:l.length=n at *;have HN:=aa hN;clear hN;go_enter func62,ntmps62;go_wp2;go_loopw [16] (fun i wr=>∃k:Nat,k<=n/\i=.int .i64 (k:Int)/\Below w.heap.size w wr) (fun i _=>n-(intOf i).toNat)
 case atStart=>exact⟨0,Nat.zero_le _,rfl,Below.refl _ _⟩
 case round=>
  obtain⟨k,hk,rfl,hb⟩:=hrel;by_cases hlt:k<n
  ·obtain⟨a,c,f,hi⟩:=HS.o.get HN.o hlt;obtain⟨h0,h1,h2,h3,h4,h5,h6⟩:=(vG.o.below hb).seven hi;have zk:wr.cell? ⟨pb,1,none⟩=some (.slice (some ⟨fb,0,none⟩) n n):=by rw[hb.cell (p:=⟨pb,1,none⟩) (World.block_lt_of_cell? _ _ hc1)];exact hc1
   have HB:=aa hb;clear hi hb;obtain⟨full,nm,fk,bs,bR,used⟩:=f;dsimp only at *;by_cases uT:nm=name;case' pos=>have WQ:(nm.toList == name.toList)=true:=by rw[uT];exact beq_self_eq_true _
   case' neg=>have WQ:(nm.toList == name.toList)=false:=qu uT
   all_goals
    clear uT;cases full
   all_goals
    go_wp2;go_roundw
    case rel=>exact⟨k+1,ae,by go_num,HB.o.alloc HB.o.size _⟩
    case measure=>simp[intOf];omega
  ·obtain rfl:k=n:=by omega
   have H1:=aa (H.o.below hb);have HB:=aa hb;have zk:wr.cell? ⟨pb,1,none⟩=some (.slice (some ⟨fb,0,none⟩) k k):=by rw[hb.cell (p:=⟨pb,1,none⟩) (World.block_lt_of_cell? _ _ hc1)];exact hc1
   clear hb hc1;go_wp2;generalize wr=W1 at *;go_loopw [40] (fun i wr=>∃(j:Nat)(l2:List iB),j<=k/\i=.int .i64 (j:Int)/\bq wr pb db fb mb o l2 hand mf d/\l2.map (·.2)=lQ name j (l.map (·.2))/\aF (o.In cz) W1 wr) (fun i _=>k-(intOf i).toNat)
   case atStart=>exact⟨0,l,Nat.zero_le _,rfl,H1.o,(GD _ _).symm,aF.refl _ _⟩
   case round=>
    obtain⟨j,l2,hj,rfl,jW,hl2,oO⟩:=hrel;have rW:l2.length=k:=by
     have:=congrArg List.length hl2;rw[List.length_map,rX,List.length_map,HN.o]at this;exact this
    by_cases hlt:j<k
    ·obtain⟨a,c,f,hi⟩:=jW.shaped.get rW hlt;have hfo:(l.map (·.2))[j]? = some f:=by
      have:=cq hi;rw[hl2,zL _ (by rw[List.length_map,HN.o];omega),if_neg (Nat.lt_irrefl _)]at this;exact this
     have hsu:=GF name hfo;obtain⟨h0,h1,h2,h3,h4,h5,h6⟩:=jW.row.seven hi;have UC:=(yj.o _ (List.mem_of_getElem? (show l[j]? = some ((l[j]'(by rw[HN.o];exact hlt)).1,f) from by
      have lA:j<l.length:=by rw[HN.o];exact hlt
      rw[List.getElem?_eq_getElem lA];rw[List.getElem?_map,List.getElem?_eq_getElem lA]at hfo;have:=Option.some.inj hfo;rw[<- this]))).2
     dsimp only at UC;have TY:=HNS.o f (List.mem_of_getElem? hfo);have pO:=aa jW;have Jf:=aa hl2;have nO:=aa oO;have HI:=aa hi;have HSU:=aa hsu;have zI:=aa rW;have ahz:=aa TY;clear jW hl2 oO hi hsu rW hfo TY;by_cases hm:f.full=true/\f.name=name
     ·obtain⟨dZ,cR⟩:=hm;have WQ:(f.name.toList == name.toList)=true:=by rw[cR];exact beq_self_eq_true _
      have eY:=aa dZ;have eT:=aa cR;have aM:Hid (∀W,Below wr.heap.size wr W->Calls prog 95 #[ptrTo pb,.int .i64 (j:Int)] W fun e w'=>e=.returned (.tuple #[])/\bq w' pb db fb mb o (l2.set j (.slice none 0 0,bX.none)) hand mf d/\aF (o.In cz) wr w'):=aa (fun W hW=>
       (vH (pO.o.below hW) HI.o eY.o (ahz.o eY.o) (by show f.k<_;omega)).mono (fun e w' ⟨q1,q2,q3⟩=>⟨q1,q2,(aF.aW hW).trans q3 (fun x _ e=>by
         rcases e with rfl | rfl
         ·exact pO.o.mF
         ·exact pO.o.WY)⟩))
      unfold ptrTo at aM;rw[dZ]at h0;clear dZ cR;go_wp2_with fail;refine(aM.o _ ai).mono ?_;rintro e w3⟨rfl,Ps,yq⟩;have HP3:=aa Ps;have qZ:=aa yq;clear Ps yq;go_wp2;go_roundw
      case rel=>
       refine⟨j+1,_,ae,by go_num,HP3.o,?_,nO.o.trans qZ.o (fun _ _ h=>h)⟩;rw[map_set,Jf.o,HSU.o];unfold fo;rw[if_pos ⟨eY.o,eT.o⟩]
      case measure=>simp[intOf];omega
     ·have GI:(l2.map (·.2))=lQ name (j+1) (l.map (·.2)):=by
       rw[HSU.o];unfold fo;rw[if_neg hm,<- Jf.o];exact(qi (cq HI.o)).symm
      have Xb:=aa GI;clear GI;cases Gw:f.full with
      |false=>
        rw[Gw]at h0;clear hm Gw;go_wp2;go_roundw
        case rel=>exact⟨j+1,l2,ae,by go_num,pO.o.below ai,Xb.o,nO.o.bM ai⟩
        case measure=>simp[intOf];omega
      |true=>
        have WQ:(f.name.toList == name.toList)=false:=qu (fun e=>hm ⟨Gw,e⟩);rw[Gw]at h0;clear hm Gw;go_wp2;go_roundw
        case rel=>exact⟨j+1,l2,ae,by go_num,pO.o.below ai,Xb.o,nO.o.bM ai⟩
        case measure=>simp[intOf];omega
    ·obtain rfl:j=k:=by omega
     have pO:=aa jW;have Jf:=aa hl2;have nO:=aa oO;have zI:=aa rW;clear jW hl2 oO rW;obtain⟨⟨hc0,-⟩,-⟩:=pO.o.head.cells;unfold ptrTo at hc0;go_wp2_with fail;refine(ahy.o _ o pO.o.lJ).mono ?_;rintro e w5⟨rfl,o5,Yh,rI,BI⟩;have hg2:ct wr.heap.size o o5:=BI;go_wp2;go_ret;have hall:l2.map (·.2)=(l.map (·.2)).map (fo name):=by
      rw[Jf.o,<- JW,List.length_map,HN.o]
     have hT:aF (o.In cz) w wr:=(aF.aW HB.o).trans nO.o (fun _ _ h=>h);refine⟨c5,d5,o5,L',rfl,⟨fb,mb,l2,hand,mf,pO.o.zA Yh rI BI,by rw[zI.o];exact HNF.o,by rw[hall];exact iV.o⟩,hT.trans rI.aY (fun _ _ h=>h),fun x hx=>BI x (Nat.lt_of_lt_of_le hx hT.size),eK.o,fC.o⟩
def eL:iB:=(.slice none 0 0,bX.none)
def oh:Array Value:=#[.bool false,.string ByteArray.empty,.int .i64 0,.slice none 0 0,.int .i64 0,.bool false,.bool false]
theorem QS(n:Nat):madeCells oh (n*7)=(rowOf (List.replicate n eL)).toArray:=by
 apply Array.ext_getElem?;intro i;by_cases hi:i<n*7
 ·have h1:(List.replicate n eL)[i/7]? = some eL:=by
   grind
  have hj:i%7<7:=Nat.mod_lt _ af;have h2:=CP h1 hj;rw[show 7*(i/7)+i%7=i by omega]at h2;have h3:(rowOf (List.replicate n eL)).toArray[i]? = (bI eL.1 eL.2)[i%7]? := by grind
  rw[h3];unfold madeCells;rw[Array.getElem?_map,Array.getElem?_range,if_pos hi];show some (oh[i%7]!)=(bI eL.1 eL.2)[i%7]?;generalize i%7=j at hj;match j,hj with
  |0,_=>rfl
  |1,_=>rfl
  |2,_=>rfl
  |3,_=>rfl
  |4,_=>rfl
  |5,_=>rfl
  |6,_=>rfl
 grind [size_madeCells,tK]
theorem GJ:(prog.info? 172).map (fun i=>(i.zero,i.size,i.bytes))=some (some (.agg oh),7,72):=by kernel_rfl
def xC(w:World)(db n:Nat)(o:ar)(d:Dsk)(L:aC)(e:Ending)(w':World):Prop:=
 ∃pb o',e=.returned (.tuple #[ptrTo pb,.int .i64 0])/\aQ w' pb db n o' d L/\Below w.heap.size w w'/\ct w.heap.size o o'/\w.heap.size<=pb
theorem GK{w:World}{db:Nat}{o:ar}{d:Dsk}{L:aC}(h:cI w db o d)(n:Nat)(h1:1<=n)(h2:n<=4096)(hg:Sound d (List.replicate n bX.none) L) :
 Calls prog 70 #[ptrTo db,.int .i64 (n:Int)] w (xC w db n o d L):=by
 obtain⟨i0,uQ,hz0,hz1,hz2⟩:=info_parts GJ;have vy:∀W:World,(Instr.makeSlice 147 (.int .i64 (n:Int)) (.int .i64 (n:Int))).run prog W=.ok (.slice (some ⟨W.heap.size,0,none⟩) n n) (W.alloc (.cells (rowOf (List.replicate n eL)).toArray 172)):=fun W=>by
  have hr:=run_make (P:=prog) W 147 172 i0 (.agg oh) Tryz.underlying147 uQ hz0 .i64 .i64 n n ae ae (by grind) ae;simp only[Int.toNat_natCast]at hr;rw[hz1,show(Value.agg oh).cells=oh from rfl,QS]at hr;exact hr
 have UN:∀(t:TypeId)(W:World),(Instr.makeMap t none).run prog W=.ok (.map (some W.heap.size)) (W.alloc (.map #[] 0)):=fun _ _=>rfl;have H:=aa h;have HG:=aa hg;clear h hg;unfold ptrTo;go_enter func70,ntmps70;go_wp2;go_returns;have hB:Below w.heap.size w (((w.alloc (.cells (rowOf (List.replicate n eL)).toArray 172)).alloc (.map #[] 0)).alloc (.cells #[ptrTo db,.slice (some ⟨w.heap.size,0,none⟩) n n,.map (some (w.heap.size+1)),.int .i64 0,.int .i64 0,.int .i64 0] 150)):=(ai.alloc ah _).alloc (by simp;omega) _;have zi:∀x t,o x=some t->x<w.heap.size:=by
  obtain⟨_,_,_,hd⟩:=H.o;exact hd.owned
 have s1:(w.alloc (.cells (rowOf (List.replicate n eL)).toArray 172)).heap.size=w.heap.size+1:=by simp
 have s2:((w.alloc (.cells (rowOf (List.replicate n eL)).toArray 172)).alloc (.map #[] 0)).heap.size=w.heap.size+1+1:=by simp
 have hh:∀(W:World)(ob:Obj)(b:Nat),b<W.heap.size->(W.alloc ob).heap[b]? = W.heap[b]? := fun W ob b hb=>(MapKept.heap_alloc W ob).2 b hb;let o':ar:=((o.set w.heap.size (7,0)).set (w.heap.size+1) (8,0)).set (w.heap.size+1+1) (6,0)
 have hgrow:ct w.heap.size o o':=(((ct.refl _ _).set (Nat.le_refl _) _).set ae _).set ae _;have xv:∀x t,o x=some t->o' x=some t:=fun x t hx=>by rw[hgrow x (zi x t hx)];exact hx
 have hlt:∀x t,o' x=some t->x<w.heap.size+3:=fun x t hx=>by
  grind [ar.e9]
 refine⟨w.heap.size+1+1,o',rfl,⟨w.heap.size,w.heap.size+1,List.replicate n eL,0,0,?_,List.length_replicate,?_⟩,hB,hgrow,ae⟩
 ·refine { lJ:=?_,yf:=ar.qi _ _ _,rV:=?_,nZ:=?_,head:=⟨150,?_⟩,row:=⟨172,?_⟩,tL:=⟨[],?_,?_⟩,each:=?_,hand:=?_,most:=?_,full:=Nat.zero_le _ }
  ·exact H.o.kept (S:=fun _=>False) (aF.aW hB) (fun _ _ _ _ h=>h) xv (fun x t hx=>by have:=hlt x t hx;simp_all)
  ·grind [ar.e9,ar.qi]
  ·grind [ar.e9,ar.qi]
  ·grind [World.alloc,ptrTo]
  ·grind [heap_alloc_new]
  ·have m1:=bN.made (w.alloc (.cells (rowOf (List.replicate n eL)).toArray 172)) prog 170 ew (fun i:Nat=>.int .i64 (i:Int));grind [bN.kept]
  ·intro nm k i;constructor
   ·intro h;cases h
   ·rintro⟨fr,h1,h2,_⟩;rw[List.getElem?_map,List.getElem?_replicate]at h1;split at h1
    ·cases h1;cases h2
    grind
  ·intro p hp;rw[List.eq_of_mem_replicate hp];exact⟨ownsRow_nil _ _ _,fun b hb=>by grind [eL,Value.ownBlock]⟩
  ·grind
  grind
 ·rw[List.map_replicate];exact HG.o
end
section
open Go.RowKit Go.Maps Go.MapKept
structure au(S:Nat->Prop)(n pb db:Nat)(w:World)(o:ar)(d:Dsk)(w':World)(o':ar)(d':Dsk)(L':aC):Prop where
 aY:aQ w' pb db n o' d' L'
 turn:aF (fun x=>o.In cz x\/S x) w w'
 grow:ct w.heap.size o o'
 on:bJ d d'
section
variable {S S':Nat->Prop} {n pb db:Nat} {w w' w'':World} {o o' gR:ar} {d d' gT:Dsk} {L L' xD:aC}
theorem aQ.owned(h:aQ w pb db n o d L):∀x t,o x=some t->x<w.heap.size:=by
 obtain⟨_,_,_,_,_,h,_,_⟩:=h;exact h.owned
theorem au.refl(S:Nat->Prop)(h:aQ w pb db n o d L):au S n pb db w o d w o d L:=⟨h,aF.refl _ _,ct.refl _ _,bJ.refl _⟩
theorem au.size(h:au S n pb db w o d w' o' d' L'):w.heap.size<=w'.heap.size:=h.turn.size
theorem au.trans(h:au S n pb db w o d w' o' d' L')(k:au S' n pb db w' o' d' w'' gR gT xD)(hs:∀x,x<w.heap.size->S' x->S x):au S n pb db w o d w'' gR gT xD:=
 ⟨k.aY,h.turn.trans k.turn (fun x hx e=>e.imp (fun⟨t,h1,h2⟩=>⟨t,by rw[<- h.grow x hx];exact h1,h2⟩) (hs x hx)),h.grow.trans k.grow h.size,h.on.trans k.on⟩
theorem au.mono(h:au S n pb db w o d w' o' d' L')(hs:∀x,x<w.heap.size->S x->S' x):au S' n pb db w o d w' o' d' L':=
 ⟨h.aY,h.turn.mono fun x hx e=>e.imp id (hs x hx),h.grow,h.on⟩
theorem au.below(h:au S n pb db w o d w' o' d' L')(hb:Below w'.heap.size w' w''):au S n pb db w o d w'' o' d' L':=
 ⟨h.aY.below hb,h.turn.bM hb,h.grow,h.on⟩
theorem au.aW(h:aQ w pb db n o d L)(hb:Below w.heap.size w w'):au S n pb db w o d w' o d L:=(au.refl S h).below hb
theorem au.alloc(h:au S n pb db w o d w' o' d' L')(ob:Obj):au S n pb db w o d (w'.alloc ob) o' d' L':=h.below (aj.alloc (Nat.le_refl _) ob)
theorem au.drew(h:au S n pb db w o d w' o' d' L'):au S n pb db w o d w'.drew o' d' L':=h.below aj.drew
theorem au.drewN(h:au S n pb db w o d w' o' d' L')(k:Nat):au S n pb db w o d (w'.drewN k) o' d' L':=h.below (below_drewN aj k)
theorem au.free(h:au S n pb db w o d w' o' d' L'){x:Nat}(hx:x<w.heap.size)(ho:o x=none):o' x=none:=by rw[h.grow x hx];exact ho
theorem au.block(h:au S n pb db w o d w' o' d' L'){x:Nat}(hx:x<w.heap.size)(ho:o x=none)(hs:¬S x):w'.heap[x]? = w.heap[x]? :=
 h.turn.block x hx (fun e=>e.elim (ar.dE ho) hs)
theorem au.not{x:Nat}(ho:o x=none)(hs:¬S x):¬(o.In cz x\/S x):=fun e=>e.elim (ar.dE ho) hs
theorem au.heap(h:au S n pb db w o d w' o' d' L'){x:Nat}{ob:Obj}(hb:w.heap[x]? = some ob)(ho:o x=none)(hs:¬S x):w'.heap[x]? = some ob:=by
 grind [block]
theorem au.cell(h:au S n pb db w o d w' o' d' L'){a:Addr}{v:Value}(hc:w.cell? a=some v)(ho:o a.block=none)(hs:¬S a.block):w'.cell? a=some v:=
 h.turn.cell hc (au.not ho hs)
theorem au.ownsRow(h:au S n pb db w o d w' o' d' L'){base:Nat}{e:TypeId}{size:Nat}{v:Value}{k:Nat}{xs:List Value}(hr:w.ownsRow base e size v k xs)(hs:∀b,v.ownBlock=some b->o b=none/\¬S b):w'.ownsRow base e size v k xs:=
 h.turn.ownsRow hr fun b hb=>au.not (hs b hb).1 (hs b hb).2
theorem au.rd(h:au S n pb db w o d w' o' d' L'){v:Value}{bs:List UInt8}(hr:Rd w v bs)(hs:∀b,v.ownBlock=some b->o b=none/\¬S b):Rd w' v bs:=
 h.turn.rd hr fun b hb=>au.not (hs b hb).1 (hs b hb).2
theorem aQ.turned(h:aQ w pb db n o d L){b:Nat}(ho:o b=none)(ht:aF (·=b) w w'):aQ w' pb db n o d L:=
 h.kept ht (fun x hx e=>by grind [ar.dE]) (fun _ _ h=>h) (fun x t hx=>Nat.lt_of_lt_of_le (h.owned x t hx) ht.size)
theorem au.setCell(h:au S n pb db w o d w' o' d' L')(a:Addr)(v:Value)(ho:o' a.block=none)(hs:S a.block\/w.heap.size<=a.block):au S n pb db w o d (w'.setCell a v) o' d' L':=
 ⟨h.aY.turned ho ((aF.refl (·=a.block) w').setCell a v (.inl rfl)),h.turn.setCell a v (hs.imp Or.inr id),h.grow,h.on⟩
theorem au.setCells(h:au S n pb db w o d w' o' d' L')(b off:Nat)(vs:List Value)(ho:o' b=none)(hs:S b\/w.heap.size<=b):au S n pb db w o d (w'.setCells b off vs) o' d' L':=
 ⟨h.aY.turned ho ((aF.refl (·=b) w').setCells b off vs (.inl rfl)),h.turn.setCells b off vs (hs.imp Or.inr id),h.grow,h.on⟩
theorem au.turned(h:au S n pb db w o d w' o' d' L'){b:Nat}(ho:o' b=none)(hs:S b\/w.heap.size<=b)(ht:aF (·=b) w' w''):au S n pb db w o d w'' o' d' L':=
 ⟨h.aY.turned ho ht,h.turn.trans ht (fun x hx e=>by grind),h.grow,h.on⟩
theorem au.grown(h:au S n pb db w o d w' o' d' L'){row:Option Nat}(hg:w'.grownBy w'' row)(hr:∀k,row=some k->o' k=none/\(S k\/w.heap.size<=k)):au S n pb db w o d w'' o' d' L':=by
 have ht:aF (fun x=>row=some x) w' w'':=⟨hg.os,hg.tape,hg.output,hg.size,fun x hx hn=>hg.block x hx (fun e=>hn e.symm)⟩;refine⟨h.aY.kept ht (fun x hx e=>ar.dE (hr x e).1 hx) (fun _ _ h=>h) (fun x t hx=>Nat.lt_of_lt_of_le (h.aY.owned x t hx) ht.size),h.turn.trans ht (fun x hx e=>?_),h.grow,h.on⟩;grind
theorem aQ.fresh(h:aQ w pb db n o d L){x:Nat}(hx:w.heap.size<=x):o x=none:=eI h.owned hx
theorem aQ.congr(h:aQ w pb db n o d L)(hk:(L'.map (·.1)).Nodup)(he:∀x,aA L' x=aA L x):aQ w pb db n o d L':=by
 obtain⟨fb,mb,l,hand,mf,h,hl,g⟩:=h;exact⟨fb,mb,l,hand,mf,h,hl,{ keys:=hk,fI:=g.fI,names:=fun x=>by grind [Sound.names],ok:=fun x=>by grind [Sound.ok],dF:=fun x ps fl=>by grind [Sound.dF],lI:=fun x f ls=>by grind [Sound.lI],frames:=fun fr dO hf=>by grind [Sound.frames],blank:=g.blank,once:=g.once,dm:=fun x s=>by grind [Sound.dm] }⟩
theorem aQ.keys(h:aQ w pb db n o d L):(L.map (·.1)).Nodup:=by
 obtain⟨_,_,_,_,_,_,_,g⟩:=h;exact g.keys
theorem aQ.ok(h:aQ w pb db n o d L){x:Name}{f:gS}(hx:aA L x=some f):bL x=true:=by
 obtain⟨_,_,_,_,_,_,_,g⟩:=h;grind [Sound.ok]
theorem au.congr(h:au S n pb db w o d w' o' d' L')(hk:(xD.map (·.1)).Nodup)(he:∀x,aA xD x=aA L' x):au S n pb db w o d w' o' d' xD:=⟨h.aY.congr hk he,h.turn,h.grow,h.on⟩
theorem zM(hk:(L.map (·.1)).Nodup)(Bw:(L'.map (·.1)).Nodup)(he:∀x,aA L' x=aA L x):need L'=need L:=by
 unfold need;rw[tI Bw,tI hk];have hp:(L'.map (·.1)).Perm (L.map (·.1)):=tH Bw hk fun x=>by grind [mem_keys]
 grind
end
theorem kJ.calm{d d':Dsk}{L:aC}{c:Nat}(h:kJ d d' L c)(ha:d.cK=0)(hd:d.dead=false)(x7:bJ d d'):c=5/\d.bC<need L:=by
 rcases h with h |⟨_,h⟩
 ·exact h
 grind [bJ.calm]
end
end Go.Proofs.YthkkgdpomhhjjaaGreatDoor
