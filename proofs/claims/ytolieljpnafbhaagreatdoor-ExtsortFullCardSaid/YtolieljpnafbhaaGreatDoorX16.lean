/-
  Joined, in build order, what is needed of: DFiles, Law12i, Law12j, Law12k.
-/
import Derived.Test.YtolieljpnafbhaaGreatDoorX15
namespace Go.Proofs.YtolieljpnafbhaaGreatDoor
open Go.RowKit Go.Maps Go.MapKept
theorem info_file : (Tryz.prog.info? 93).map (fun i => (i.zero, i.size, i.bytes)) = some (some (.agg #[.string ByteArray.empty, .slice none 0 0]), 2, 40) := by kernel_rfl
/-- A file as it is told: its name, the value of its bytes, and these. -/
abbrev TFile := Name × Value × List UInt8
def rowF : List TFile → List Value
  | [] => []
  | p :: l => [.string p.1, p.2.1] ++ rowF l
theorem rowF_append (a b : List TFile) : rowF (a ++ b) = rowF a ++ rowF b := by
  induction a with
  | nil => rfl
  | cons p a ih => rw [List.cons_append, rowF, rowF, ih, List.append_assoc]
theorem rowF_get {l : List TFile} {i : Nat} {p : TFile} (h : l[i]? = some p) : (rowF l)[i * 2]? = some (.string p.1) ∧ (rowF l)[i * 2 + 1]? = some p.2.1 := by
  induction l generalizing i with
  | nil => cases h
  | cons q l ih =>
    cases i with
    | zero => cases h; exact ⟨rfl, rfl⟩
    | succ i =>
      have := ih (i := i) (by simpa using h)
      rw [rowF, show (i + 1) * 2 = i * 2 + 1 + 1 by omega, show i * 2 + 1 + 1 + 1 = (i * 2 + 1) + 1 + 1 by omega]
      simpa using this
/-- Files that are told, in memory. -/
structure FilesAt (w : World) (base : Nat) (v : Value) (l : List TFile) : Prop where
  row : w.ownsRow base 93 2 v l.length (rowF l)
  each : ∀ p ∈ l, w.ownsRow base 5 1 p.2.1 p.2.2.length (p.2.2.map bv)
section
variable {w w' : World} {base : Nat} {v v' : Value} {l : List TFile}
theorem FilesAt.below (h : FilesAt w base v l) (hb : Below w.heap.size w w') : FilesAt w' base v l := ⟨ownsRow_below h.row hb, fun p hp => ownsRow_below (h.each p hp) hb⟩
theorem FilesAt.cells {g cap n : Nat} (h : FilesAt w base (.slice (some ⟨g, 0, none⟩) n cap) l) {i : Nat} {p : TFile} (hi : l[i]? = some p) : w.cell? ⟨g, i * 2, none⟩ = some (.string p.1) ∧ w.cell? ⟨g, i * 2 + 1, none⟩ = some p.2.1 := by
  have hc : ∀ (j : Nat) (u : Value), (rowF l)[j]? = some u → w.cell? ⟨g, j, none⟩ = some u := fun j u hj => by
    have := World.ownsRow.cells h.row (g := g) rfl j u hj
    rwa [Addr_add, Nat.zero_add] at this
  obtain ⟨h1, h2⟩ := rowF_get hi
  exact ⟨hc _ _ h1, hc _ _ h2⟩
theorem FilesAt.shape (h : FilesAt w base v l) : (l = [] ∧ v = .slice none 0 0) ∨ ∃ g cap, v = .slice (some ⟨g, 0, none⟩) l.length cap ∧ l.length ≤ cap ∧ cap ≤ maxLen := by
  obtain ⟨_, ⟨h1, h2⟩ | ⟨g, cap, cur, rfl, hg, hh, hc, hm, _⟩⟩ := h.row
  · exact .inl ⟨List.eq_nil_of_length_eq_zero h2, h1⟩
  · exact .inr ⟨g, cap, rfl, hc, hm⟩
end
/-- append(l, f), f laid in a block of its own just before. -/
theorem wpList_append_file {w : World} {ops : Array Oper} {rest : List Oper} {op : Oper} {a : Act} {Q : Exit → Act → World → Prop} (hgd : op.guard = none) (s x : Operand) (ho : op.op = .call { callee := .builtin .append, args := #[s, x], argTypes := #[72, 72] }) (base : Nat) (v : Value) (l : List TFile) (hs : a.eval s = v) (hown : w.ownsRow base 93 2 v l.length (rowF l))
    (y : TFile) (c : Nat) (hx : a.eval x = .slice (some ⟨w.heap.size, 0, none⟩) 1 c) (hl : l.length ≤ 1000) (hbase : base ≤ w.heap.size) (hcell : y.2.1.oneCell' = true)
    (k : ∀ v' w', w'.ownsRow base 93 2 v' (l ++ [y]).length (rowF (l ++ [y])) → Appd v (w.alloc (.cells #[.string y.1, y.2.1] 93)) w' v' → wpList Tryz.prog ops Q rest (a.put op.dst v') w') :
    wpList Tryz.prog ops Q (op :: rest) a (w.alloc (.cells #[.string y.1, y.2.1] 93)) := by
  refine wpList_append_at hgd s x 72 ho base 93 _ 2 40 Tryz.underlying72 info_file rfl (by decide) v l.length (rowF l) hs (World.ownsRow.alloc hown _) ⟨w.heap.size, 0, none⟩ 1 c [.string y.1, y.2.1] hx rfl (fun j u hj => ?_) (fun u hu => by
    simp only [List.mem_cons, List.not_mem_nil, or_false] at hu
    rcases hu with rfl | rfl
    · rfl
    · exact hcell) (by unfold maxLen; omega) (by omega) (by simp; omega) (fun v' w' h1 h2 => k v' w' ?_ h2)
  · rw [Addr_add, Nat.zero_add]
    match j, hj with
    | 0, hj => cases hj; simp
    | 1, hj => cases hj; simp
    | j + 2, hj => cases hj
  · rw [rowF_append, List.length_append]
    exact h1
/-- What Files leaves. -/
def FilesPost (w : World) (d : Dsk) (e : Ending) (w' : World) : Prop :=
  ∃ v l, e = .returned v ∧ FilesAt w' w.heap.size v l ∧ (l.map (·.1)).Perm (d.files.map (·.1)) ∧ (∀ p ∈ l, ∃ f, mget d.files p.1 = some f ∧ p.2.2 = f.now) ∧ Below w.heap.size w w'
set_option maxRecDepth 100000 in
set_option maxHeartbeats 4000000 in
theorem files_any {w : World} {db : Nat} {o : Owner} {d : Dsk} (h : DiskAt w db o d) (hn : d.files.length ≤ 1000) (hs : ∀ x ∈ d.files.map (·.1), x.size ≤ 1000) :
    Calls Tryz.prog 38 #[ptrTo db] w (FilesPost w d) := by
  have hnames := Lib.hid (names_any h hn)
  obtain ⟨mf, ml, l, h⟩ := h
  have HD := Lib.hid h
  have HS := Lib.hid hs
  have HKEYS : Hid (d.files.map (·.1) = l.map (·.1)) := Lib.hid (by rw [← h.strip, List.map_map]; rfl)
  have HGET : Hid (∀ x, mget d.files x = (mget l x).map (·.2)) := Lib.hid (fun x => by rw [← h.strip]; exact strip_get)
  have hclone : Hid (∀ W v bs, Rd W v bs → bs.length ≤ 16777216 → Calls Tryz.prog 82 #[v] W (NewBytes W bs)) := Lib.hid (fun W v bs hv hl => clone_any v bs W hv (by omega))
  have HN : Hid (d.files.length ≤ 1000) := Lib.hid hn
  clear h hn hs
  unfold ptrTo at *
  go_enter Tryz.func38, Tryz.ntmps38
  go_wp2_with fail
  refine hnames.out.mono ?_
  rintro e w1 ⟨vn, ns, rfl, hperm, hrow, hb1⟩
  have HP := Lib.hid hperm
  have HR1 := Lib.hid hrow
  have HB1 := Lib.hid hb1
  have hnl : ns.length ≤ 1000 := by have h1 := hperm.length_eq; rw [List.length_map] at h1; have := HN.out; omega
  have HMEM : Hid (∀ i x, ns[i]? = some x → x.size ≤ 1000 ∧ ∃ pf f, mget l x = some (pf, f)) := Lib.hid (fun i x hx => by
    have h1 : x ∈ d.files.map (·.1) := hperm.mem_iff.1 (List.mem_of_getElem? hx)
    refine ⟨HS.out x h1, ?_⟩
    rw [HKEYS.out, mem_keys] at h1
    obtain ⟨⟨pf, f⟩, h2⟩ := Option.isSome_iff_exists.1 h1
    exact ⟨pf, f, h2⟩)
  have HTK : Hid (∀ i x, ns[i]? = some x → ns.take (i + 1) = ns.take i ++ [x]) := Lib.hid (fun i x hx => by
    have hl := lt_of_get hx
    rw [List.take_succ_eq_append_getElem hl]
    rw [List.getElem?_eq_getElem hl] at hx
    rw [Option.some.inj hx])
  have HALL : Hid (ns.take ns.length = ns) := Lib.hid (List.take_of_length_le (Nat.le_refl _))
  have HX : Hid (∀ i, i < ns.length → ∃ x, ns[i]? = some x) := Lib.hid (fun i hi => ⟨_, List.getElem?_eq_getElem hi⟩)
  obtain ⟨an, cn, rfl⟩ := ownsRow_slice hrow
  clear hperm hrow hb1 hnames
  generalize hNN : ns.length = N at *
  have HNN := Lib.hid hNN
  clear hNN
  go_wp2
  go_loopw [3, 9] (fun v iv W => ∃ (i : Nat) (fs : List TFile), i ≤ N ∧ iv = .int .i64 (i : Int) ∧ FilesAt W w.heap.size v fs ∧ fs.map (·.1) = ns.take i ∧ (∀ p ∈ fs, ∃ f, mget d.files p.1 = some f ∧ p.2.2 = f.now) ∧ W.ownsRow (w.heap.size + 1) 9 1 (.slice an N cn) N (ns.map Value.string) ∧ Below w.heap.size w W) (fun _ iv _ => N - (intOf iv).toNat)
  case atStart => exact ⟨0, [], Nat.zero_le _, rfl, ⟨World.ownsRow_nil _ _ _ _, (fun p hp => nomatch hp)⟩, rfl, (fun p hp => nomatch hp), HR1.out, HB1.out⟩
  case round =>
    generalize u3 = v at *
    generalize wr = W at *
    obtain ⟨i, fs, hi, rfl, hf, hfn, hfe, hr, hb⟩ := hrel
    have HF := Lib.hid hf
    have HFN := Lib.hid hfn
    have HFE := Lib.hid hfe
    have HR := Lib.hid hr
    have HB := Lib.hid hb
    clear hf hfn hfe hr hb HR1 HB1
    by_cases hlt : i < N
    · obtain ⟨x, hx⟩ := HX.out i hlt
      obtain ⟨hxs, pf, f, hxl⟩ := HMEM.out i x hx
      have HD1 := Lib.hid (HD.out.below HB.out)
      have hcell : ∃ g, an = some ⟨g, 0, none⟩ ∧ N ≤ cn ∧ cn ≤ maxLen ∧ W.cell? ⟨g, i, none⟩ = some (.string x) := by
        obtain ⟨_, ⟨h1, h2⟩ | ⟨g, cap, cur, h1, hg, hh, hc, hm, h3, h4⟩⟩ := HR.out
        · omega
        · cases h1
          refine ⟨g, rfl, hc, hm, ?_⟩
          rw [cells_cell hh]
          have h5 : (cur.toList.take (N * 1))[i]? = (ns.map Value.string)[i]? := by rw [h4]
          rw [List.getElem?_take_of_lt (by omega)] at h5
          rw [← Array.getElem?_toList, h5, List.getElem?_map, hx]
          rfl
      obtain ⟨g, rfl, hcn1, hcn2, hc⟩ := hcell
      unfold maxLen at hcn2
      obtain ⟨⟨hc0, -⟩, -⟩ := HD1.out.head.cells
      have hmem : (x, pf, f) ∈ l := mget_mem hxl
      have hfa := HD1.out.each _ hmem
      obtain ⟨fv, fu, ⟨hp0, -⟩, -, hrow, -⟩ := hfa.cells
      have hmost := hfa.most.1
      have HM : Hid (mget l x = some (pf, f)) := Lib.hid hxl
      have HGX : Hid (mget d.files x = some f) := Lib.hid (by rw [HGET.out, hxl]; rfl)
      have HTX := Lib.hid (HTK.out i x hx)
      have hcl := Lib.hid (hclone.out W fv f.now (Rd_own hrow) hmost)
      have hg := good_string (s := x) (by unfold maxLen; omega)
      obtain ⟨fa, fc, rfl⟩ := ownsRow_slice hrow
      have HFL : Hid (fs.length = i) := Lib.hid (by
        have h1 := congrArg List.length HFN.out
        rw [List.length_map, List.length_take, HNN.out] at h1
        omega)
      have hz : ∀ W : World, (zeroValue 157).run Tryz.prog W = .ok (.pointer none) W := fun W => by kernel_rfl
      clear hfa hrow hmem hxl hx
      generalize hFN : f.now = bs at *
      have HBS := Lib.hid hFN
      clear hFN
      go_wp2_with (at_lookup; refine wpList_look _ rfl _ _ _ _ rfl 157 keyed_string string_inj Tryz.underlying137 (hz _) mf l rfl HD1.out.files x rfl hg ?_; rw [HM.out]; simp only [Option.map_some, Option.getD_some, ptrTo])
      refine hcl.out.mono ?_
      rintro e W2 ⟨cv, rfl, hrow2, hb2⟩
      have HR2 := Lib.hid (ownsRow_base hrow2 HB.out.size)
      have HB2 := Lib.hid (HB.out.trans (hb2.mono HB.out.size))
      have HF2 := Lib.hid (HF.out.below hb2)
      have HRN2 := Lib.hid (ownsRow_below HR.out hb2)
      have HCV := Lib.hid (Rd_own hrow2)
      have hz2 : w.heap.size ≤ W2.heap.size := HB2.out.size
      have HNEW : Hid (∀ x, cv.ownBlock = some x → W.heap.size ≤ x ∧ x < W2.heap.size) := Lib.hid (fun x hx => ⟨ownsRow_block hrow2 x hx, (ownBlock_old hrow2 x hx).1⟩)
      have hW2 : W.heap.size ≤ W2.heap.size := hb2.size
      obtain ⟨ca, cc, rfl⟩ := ownsRow_slice hrow2
      have HOLD : Hid (∀ x, v.ownBlock = some x → x < W.heap.size) := Lib.hid (fun x hx => (ownBlock_old HF.out.row x hx).1)
      clear hrow2 hb2 hcl
      have hfsl : fs.length ≤ 1000 := by rw [HFL.out]; omega
      go_wp2_with (at_builtin; refine wpList_append_file rfl _ _ rfl w.heap.size _ fs rfl HF2.out.row (x, .slice ca bs.length cc, bs) 1 rfl hfsl hz2 rfl ?_)
      intro v3 W3 hrow3 ha3
      obtain ⟨hg3, hb3⟩ := ha3
      have hal : W2.heap.size < (W2.alloc (.cells #[.string x, .slice ca bs.length cc] 93)).heap.size := by simp
      have hkeep : ∀ y, y < W2.heap.size → v.ownBlock ≠ some y → W3.heap[y]? = W2.heap[y]? := fun y hy hne => (hg3.block y (by omega) (fun e => hne e.symm)).trans ((MapKept.heap_alloc W2 _).2 y hy)
      have HF3 : Hid (FilesAt W3 w.heap.size v3 (fs ++ [(x, .slice ca bs.length cc, bs)])) := Lib.hid (by
        refine ⟨by rw [List.length_append]; exact hrow3, fun p hp => ?_⟩
        have hr : W2.ownsRow w.heap.size 5 1 p.2.1 p.2.2.length (p.2.2.map bv) := by
          rcases List.mem_append.1 hp with hp | hp
          · exact HF2.out.each p hp
          · rw [List.mem_singleton.1 hp]
            exact HR2.out
        exact ownsRow_heap hr (fun y hy => hkeep y (ownBlock_old hr y hy).1 (fun e => ownsRow_apart hr HF2.out.row (by decide) y hy e)))
      have HRN3 : Hid (W3.ownsRow (w.heap.size + 1) 9 1 (.slice (some ⟨g, 0, none⟩) N cn) N (ns.map Value.string)) := Lib.hid (ownsRow_heap HRN2.out (fun y hy => hkeep y (ownBlock_old HRN2.out y hy).1 (fun e => ownsRow_apart HRN2.out HF2.out.row (by decide) y hy e)))
      have HB3 : Hid (Below w.heap.size w W3) := Lib.hid (by
        refine HB2.out.trans ⟨hg3.os.trans rfl, hg3.tape.trans rfl, hg3.output.trans rfl, Nat.le_trans (Nat.le_of_lt hal) hg3.size, fun y hy => hkeep y (by omega) (fun e => ?_)⟩
        have := (ownBlock_old HF2.out.row y e).2
        omega)
      clear hg3 hb3 hkeep hrow3
      go_wp2
      go_roundw
      case rel => exact ⟨i + 1, fs ++ [(x, .slice ca bs.length cc, bs)], by omega, by go_num, HF3.out, by rw [List.map_append, HFN.out, HTX.out]; rfl, (fun p hp => (List.mem_append.1 hp).elim (HFE.out p) (fun hp => by rw [List.mem_singleton.1 hp]; exact ⟨f, HGX.out, HBS.out.symm⟩)), HRN3.out, HB3.out⟩
      case measure => simp [intOf]; omega
    · obtain rfl : N = i := by omega
      go_wp2
      go_ret
      refine ⟨v, fs, rfl, HF.out, ?_, HFE.out, HB.out⟩
      rw [HFN.out, HALL.out]
      exact HP.out
end Go.Proofs.YtolieljpnafbhaaGreatDoor
namespace Go.Proofs.YtolieljpnafbhaaGreatDoor
open Go.RowKit Go.Maps
def Apart (o1 o2 : Owner) : Prop := ∀ x, o1 x = none ∨ o2 x = none
theorem Apart.symm {o1 o2 : Owner} (h : Apart o1 o2) : Apart o2 o1 := fun x => (h x).symm
section
variable {q q1 q2 : Nat} {w0 w w' : World} {pb db n pb1 db1 n1 pb2 db2 n2 : Nat} {o o1 o1' o2 : Owner} {d d1 d1' d2 : Dsk} {L L1 L1' L2 : Logic} {S : Nat → Prop}
theorem Kept.both (h1 : Kept q1 w0 w pb1 db1 n1 o1 d1 L1) (h2 : Kept q2 w0 w pb2 db2 n2 o2 d2 L2) (ha : Apart o1 o2) (hm : Moved (fun _ => False) n1 pb1 db1 w o1 d1 w' o1' d1' L1') :
    Kept q1 w0 w' pb1 db1 n1 o1' d1' L1' ∧ Kept q2 w0 w' pb2 db2 n2 o2 d2 L2 ∧ Apart o1' o2 := by
  have h1' := h1.moved hm (fun _ h => h.elim)
  refine ⟨h1', ⟨h2.pool.kept hm.turn (fun x hx e => ?_) (fun _ _ h => h) (fun x t hx => Nat.lt_of_lt_of_le (h2.pool.owned x t hx) hm.size), h2.new, h1'.below, h2.armed, h2.dead, h2.quota⟩, fun x => ?_⟩
  · rcases e with ⟨t, h, _⟩ | h
    · obtain ⟨t', h', _⟩ := hx
      rcases ha x with e | e
      · rw [e] at h; cases h
      · rw [e] at h'; cases h'
    · exact h
  · rcases Nat.lt_or_ge x w.heap.size with hl | hg
    · rw [hm.grow x hl]
      exact ha x
    · exact .inr (h2.pool.fresh hg)
theorem Kept.rebase {w1 : World} (h : Kept q w1 w pb db n o d L) (hb : Below w0.heap.size w0 w1) : Kept q w0 w pb db n o d L :=
  ⟨h.pool, fun x t hx => Nat.le_trans hb.size (h.new x t hx), hb.trans (h.below.mono hb.size), h.armed, h.dead, h.quota⟩
theorem Kept.apart {w1 : World} (h1 : Kept q1 w0 w1 pb1 db1 n1 o1 d1 L1) (h2 : Kept q2 w1 w pb2 db2 n2 o2 d2 L2) : Apart o1 o2 := fun x => by
  cases e : o1 x with
  | none => exact .inl rfl
  | some t =>
    cases e2 : o2 x with
    | none => exact .inr rfl
    | some t2 =>
      have h3 := h1.pool.owned x t e
      have h4 := h2.new x t2 e2
      omega
def KeptSortM (q : Nat) (w0 : World) (pb db n : Nat) (w : World) (o : Owner) (d : Dsk) (L : Logic) (e : Ending) (w' : World) : Prop := ∃ d' o', e = .returned (.int .i64 0) ∧ Kept q w0 w' pb db n o' d' L ∧ Moved (fun _ => False) n pb db w o d w' o' d' L
theorem kept_sortM (HW : WriteSaid) {m : Nat} (HJS : JobSortSaid m) {inn out : Name} {es : List Edg} {fl : Bool} (h : Kept q w0 w pb db n o d L) (hn : 8 ≤ n) (b : Bool) (hL : mget L inn = some (edgeFile es fl)) (hno : mget L out = none) (hnt : ∀ k, mget L (tName k) = none) (hi : ownName inn = false) (ho : ownName out = false) (hout : okName out = true)
    (hm : es.length ≤ m) (hq : need L + 8 * es.length ≤ q) :
    Calls Tryz.prog 28 #[ptrTo pb, .string inn, .string out, .int .i64 (byNum b : Int)] w (KeptSortM q w0 pb db n w o d (mput L out (edgeFile (bestOf b es) true))) := by
  have hio : inn ≠ out := fun e => by rw [e, hno] at hL; cases hL
  refine (sort_done (by' := b) HW HJS h.pool hn hL hio hi ho hout hno hnt hm).mono ?_
  rintro e w' ⟨c, d', o', L', rfl, hmv, -, hc⟩
  have h0 : c = 0 := h.fine hmv (hc.imp (fun h => h.1) id) hq
  subst h0
  rcases hc with ⟨_, hL'⟩ | hc
  · have hmv' := hmv.congr (mput_keys h.pool.keys) (fun x => (hL' x).symm)
    exact ⟨d', o', rfl, h.moved hmv' (fun _ h => h.elim), hmv'⟩
  · exact absurd rfl hc.ne
/-- What the files of a pool that is kept tell. -/
def KeptFiles (q : Nat) (w0 w : World) (pb db n : Nat) (o : Owner) (d : Dsk) (L : Logic) (e : Ending) (w' : World) : Prop :=
  ∃ v l, e = .returned v ∧ FilesAt w' w.heap.size v l ∧ Kept q w0 w' pb db n o d L ∧ Below w.heap.size w w' ∧ l.length = L.length ∧ (l.map (·.1)).Nodup ∧ (∀ x, x ∈ l.map (·.1) ↔ (mget L x).isSome = true) ∧ (∀ p ∈ l, ∃ f, mget d.files p.1 = some f ∧ p.2.2 = f.now)
theorem kept_files (h : Kept q w0 w pb db n o d L) (hl : L.length ≤ 1000) : Calls Tryz.prog 38 #[ptrTo db] w (KeptFiles q w0 w pb db n o d L) := by
  have hc := h.count
  have H := h
  obtain ⟨_, _, _, _, _, g, _, hs⟩ := h.pool
  refine (files_any g.disk (by omega) (fun x hx => ?_)).mono ?_
  · rw [mem_keys] at hx
    exact okName_1000 (hs.ok x (by rw [← hs.names]; exact hx))
  · rintro e w' ⟨v, l, rfl, hf, hp, he, hb⟩
    refine ⟨v, l, rfl, hf, H.later hb, hb, ?_, hp.nodup_iff.2 hs.dkeys, fun x => ?_, he⟩
    · have := hp.length_eq
      rw [List.length_map, List.length_map] at this
      omega
    · rw [hp.mem_iff, mem_keys, hs.names]
/-- What a file that lasts has on the disk. -/
theorem Kept.now (h : Kept q w0 w pb db n o d L) {name : Name} {ps : List Pg} (hL : mget L name = some (.inl (ps, true))) {f : DFile} (hf : mget d.files name = some f) : f.now = pagesFrom (tagOf name) 0 ps := by
  obtain ⟨_, _, _, _, _, _, _, hs⟩ := h.pool
  obtain ⟨f', dp, k⟩ := hs.paged _ _ _ hL
  rw [k.get] at hf
  obtain rfl := Option.some.inj hf
  rw [k.now, (k.lasts rfl).1]
end
def FileOfPost (w : World) (l : List TFile) (name : Name) (e : Ending) (w' : World) : Prop := ∃ p ∈ l, p.1 = name ∧ e = .returned (.tuple #[p.2.1, .bool true]) ∧ w = w'
set_option maxRecDepth 100000 in
set_option maxHeartbeats 2000000 in
theorem fileOf12_any {w : World} {base : Nat} {v : Value} {l : List TFile} (h : FilesAt w base v l) (hl : l.length ≤ 1000) (name : Name) (hn : name ∈ l.map (·.1)) :
    Calls Tryz.prog 37 #[v, .string name] w (FileOfPost w l name) := by
  have H := Lib.hid h
  rcases h.shape with ⟨rfl, _⟩ | ⟨g, cap, rfl, hc1, hc2⟩
  · cases hn
  unfold maxLen at hc2
  have HN := Lib.hid hn
  have HX : Hid (∀ i, i < l.length → ∃ p, l[i]? = some p) := Lib.hid (fun i hi => ⟨_, List.getElem?_eq_getElem hi⟩)
  have HNE : Hid (¬ ∀ (i : Nat) (p : TFile), i < l.length → l[i]? = some p → p.1 ≠ name) := Lib.hid (fun hall => by
    obtain ⟨p, hp, rfl⟩ := List.mem_map.1 hn
    obtain ⟨i, hi, rfl⟩ := List.getElem_of_mem hp
    exact hall i _ hi (List.getElem?_eq_getElem hi) rfl)
  have HM : Hid (∀ (i : Nat) (p : TFile), l[i]? = some p → p ∈ l) := Lib.hid (fun i p hp => List.mem_of_getElem? hp)
  clear h hn
  generalize hN : l.length = N at *
  have HNN := Lib.hid hN
  clear hN
  go_enter Tryz.func37, Tryz.ntmps37
  go_wp2
  go_loopw [6] (fun iv W => ∃ i : Nat, i ≤ N ∧ iv = .int .i64 (i : Int) ∧ (∀ (j : Nat) (p : TFile), j < i → l[j]? = some p → p.1 ≠ name) ∧ W = w) (fun iv _ => N - (intOf iv).toNat)
  case atStart => exact ⟨0, Nat.zero_le _, rfl, (fun j p hj => absurd hj (Nat.not_lt_zero _)), rfl⟩
  case round =>
    obtain ⟨i, hi, rfl, hall, rfl⟩ := hrel
    have HALL := Lib.hid hall
    clear hall
    by_cases hlt : i < N
    · obtain ⟨p, hp⟩ := HX.out i hlt
      have HP := Lib.hid hp
      obtain ⟨e0, e1⟩ := H.out.cells hp
      clear hp
      by_cases he : p.1 = name
      · have HE := Lib.hid he
        rw [he] at e0
        clear he
        go_wp2
        go_ret2
        exact ⟨p, HM.out i p HP.out, HE.out, rfl, rfl⟩
      · have hb := bytes_ne he
        have HE := Lib.hid he
        clear he
        generalize hpn : p.1 = pn at *
        have HPN := Lib.hid hpn
        clear hpn
        go_wp2
        go_roundw
        case rel => exact ⟨i + 1, by omega, by go_num, (fun j r hj hr => by
          rcases Nat.lt_or_ge j i with h | h
          · exact HALL.out j r h hr
          · obtain rfl : j = i := by omega
            rw [HP.out] at hr
            rw [← Option.some.inj hr, HPN.out]
            exact HE.out), trivial⟩
        case measure => simp [intOf]; omega
    · obtain rfl : N = i := by omega
      exact absurd HALL.out HNE.out
end Go.Proofs.YtolieljpnafbhaaGreatDoor
namespace Go.Proofs.YtolieljpnafbhaaGreatDoor
open Go.RowKit Go.Maps
section
variable {q : Nat} {w0 w : World} {pb db n : Nat} {o : Owner} {d : Dsk}
/-- Sorted out of "in" into "out", beside nothing else. -/
theorem kept_inout (HW : WriteSaid) {m : Nat} (HJS : JobSortSaid m) {es : List Edg} (h : Kept q w0 w pb db n o d [(nmIn, edgeFile es true)]) (hn : 8 ≤ n) (b : Bool) (hm : es.length ≤ m) (hq : 12 * es.length ≤ q) :
    Calls Tryz.prog 28 #[ptrTo pb, .string nmIn, .string nmOut, .int .i64 (byNum b : Int)] w (KeptSortM q w0 pb db n w o d [(nmOut, edgeFile (bestOf b es) true), (nmIn, edgeFile es true)]) := by
  have h1 := kept_sortM HW HJS (inn := nmIn) (out := nmOut) h hn b (by rw [one_get, if_pos rfl]) (by rw [one_get, if_neg (name_ne (by decide))]) (clean_one (by decide) _).t (by decide) (by decide) (by decide) hm (by
    rw [need_cons]
    have := edgeFile_need es true
    show (edgeFile es true).need + 0 + _ ≤ _
    omega)
  rw [two_L _ _ (name_ne (by decide))] at h1
  exact h1
/-- A file that lasts, looked up among the files that are told. -/
theorem told_bytes {L : Logic} {l : List TFile} {w' : World} {base : Nat} {v : Value} (h : Kept q w0 w pb db n o d L) (hf : FilesAt w' base v l) (he : ∀ p ∈ l, ∃ f, mget d.files p.1 = some f ∧ p.2.2 = f.now) {p : TFile} (hp : p ∈ l) {name : Name} (hn : p.1 = name) {ps : List Pg} (hL : mget L name = some (.inl (ps, true))) :
    Rd w' p.2.1 (pagesFrom (tagOf name) 0 ps) := by
  obtain ⟨f, h1, h2⟩ := he p hp
  rw [hn] at h1
  have h3 := h.now hL h1
  rw [← h3, ← h2]
  exact Rd_own (hf.each p hp)
end
set_option maxRecDepth 100000 in
set_option maxHeartbeats 8000000 in
theorem extsortBudget_any (HW : WriteSaid) {m : Nat} (HJS : JobSortSaid m) (hm : 600 ≤ m) (k1 : Nat) (hk1 : k1 < 256) (k2 : Nat) (hk2 : k2 < 256) (v : Value) (es : List Edg) (b : Bool) (w : World) (hv : RdE w v es) :
    Calls Tryz.prog 8 #[.int .u8 (k1 : Int), .int .u8 (k2 : Int), v, .bool b] w fun e w' => e = .returned (.bool true) ∧ Below w.heap.size w w' := by
  have HV := Lib.hid hv
  have hworks := Lib.hid (works12_any HW HJS (Nat.le_trans (by decide) hm))
  obtain ⟨a, cap, rfl, -⟩ := hv
  by_cases hl : es.length ≤ 600
  · have hl' : ¬ ((es.length : Int) > 600) := by omega
    have hfr1 := Lib.hid (frames8_any k1 hk1)
    have hfr2 := Lib.hid (frames8_any k2 hk2)
    obtain ⟨n1, hn1⟩ : ∃ n : Nat, n = 8 + k1 % 56 := ⟨_, rfl⟩
    obtain ⟨n2, hn2⟩ : ∃ n : Nat, n = 8 + k2 % 56 := ⟨_, rfl⟩
    rw [← hn1] at hfr1
    rw [← hn2] at hfr2
    have hn18 : 8 ≤ n1 := by omega
    have hn14 : n1 ≤ 4096 := by omega
    have hn28 : 8 ≤ n2 := by omega
    have hn24 : n2 ≤ 4096 := by omega
    have hbeg1 := Lib.hid (begun_any HW 65536 (by decide) n1 (by omega) hn14 _ es w HV.out (by omega))
    have hbeg2 : Hid (∀ W, Below w.heap.size w W → Calls Tryz.prog 26 #[.int .i64 65536, .int .i64 (n2 : Int), .slice a es.length cap] W (BegunPost 65536 W n2 es)) := Lib.hid (fun W hb => begun_any HW 65536 (by decide) n2 (by omega) hn24 _ es W (HV.out.below hb) (by omega))
    have hsort : Hid (∀ W w0 pb db n o d, Kept 65536 w0 W pb db n o d [(nmIn, edgeFile es true)] → 8 ≤ n → Calls Tryz.prog 28 #[ptrTo pb, .string nmIn, .string nmOut, .int .i64 (byNum b : Int)] W (KeptSortM 65536 w0 pb db n W o d [(nmOut, edgeFile (bestOf b es) true), (nmIn, edgeFile es true)])) := Lib.hid (fun W w0 pb db n o d h hn => kept_inout HW HJS h hn b (by omega) (by omega))
    have hget : Hid (mget [(nmOut, edgeFile (bestOf b es) true), (nmIn, edgeFile es true)] nmOut = some (.inl (pagesOf (per 20) ((bestOf b es).map Edg.bytes), true))) := Lib.hid rfl
    have hlen : Hid ([(nmOut, edgeFile (bestOf b es) true), (nmIn, edgeFile es true)].length ≤ 1000) := Lib.hid (by simp)
    clear hn1 hn2
    generalize pagesOf (per 20) ((bestOf b es).map Edg.bytes) = PS at *
    generalize [(nmOut, edgeFile (bestOf b es) true), (nmIn, edgeFile es true)] = LL at *
    unfold nmIn nmOut ptrTo at *
    cases b
    all_goals
      go_enter Tryz.func8, Tryz.ntmps8
      go_wp2_with fail
      refine (hfr1.out _).mono ?_
      rintro e w' ⟨rfl, rfl⟩
      go_wp2_with fail
      refine hbeg1.out.mono ?_
      rintro e w1 ⟨db1, pb1, o1, d1, rfl, hh1⟩
      have HH1 := Lib.hid hh1
      clear hh1 hfr1 hbeg1
      unfold ptrTo
      go_wp2_with fail
      refine (hfr2.out _).mono ?_
      rintro e w' ⟨rfl, rfl⟩
      go_wp2_with fail
      refine (hbeg2.out w1 HH1.out.below).mono ?_
      rintro e w2 ⟨db2, pb2, o2, d2, rfl, hh2⟩
      have HA2 := Lib.hid (HH1.out.apart hh2)
      have HP2 := Lib.hid (HH1.out.later hh2.below)
      have HQ2 := Lib.hid (hh2.rebase HH1.out.below)
      clear hh2 hfr2 hbeg2 HH1
      have hs1 := Lib.hid (hsort.out w2 w pb1 db1 n1 o1 d1 HP2.out hn18)
      unfold ptrTo
      go_wp2_with fail
      refine hs1.out.mono ?_
      rintro e w3 ⟨d3, o3, rfl, -, hm3⟩
      obtain ⟨hp3, hq3, ha3⟩ := HP2.out.both HQ2.out HA2.out hm3
      have HP3 := Lib.hid hp3
      have HQ3 := Lib.hid hq3
      have HA3 := Lib.hid ha3
      clear hp3 hq3 ha3 hm3 hs1 HP2 HQ2 HA2
      have hs2 := Lib.hid (hsort.out w3 w pb2 db2 n2 o2 d2 HQ3.out hn28)
      go_wp2_with fail
      refine hs2.out.mono ?_
      rintro e w4 ⟨d4, o4, rfl, -, hm4⟩
      obtain ⟨hq4, hp4, ha4⟩ := HQ3.out.both HP3.out HA3.out.symm hm4
      have HP4 := Lib.hid hp4
      have HQ4 := Lib.hid hq4
      clear hp4 hq4 ha4 hm4 hs2 HP3 HQ3 HA3
      have hf1 := Lib.hid (kept_files HP4.out hlen.out)
      unfold ptrTo at hf1
      go_wp2_with fail
      refine hf1.out.mono ?_
      rintro e w5 ⟨v5, l5, rfl, hfa5, hh5, hb5, hl5, -, hnm5, he5⟩
      have HFA5 := Lib.hid hfa5
      have HP5 := Lib.hid hh5
      have HQ5 := Lib.hid (HQ4.out.later hb5)
      have HE5 := Lib.hid he5
      have hfo1 := Lib.hid (fileOf12_any hfa5 (by rw [hl5]; exact hlen.out) nmOut ((hnm5 _).2 (by unfold nmOut; rw [hget.out]; rfl)))
      clear hfa5 hh5 hb5 hl5 hnm5 he5 hf1 HP4 HQ4
      unfold nmOut at hfo1
      go_wp2_with fail
      refine hfo1.out.mono ?_
      rintro e w' ⟨p5, hp5, hpn5, rfl, rfl⟩
      have HR5 := Lib.hid (told_bytes HP5.out HFA5.out HE5.out hp5 hpn5 hget.out)
      have hf2 := Lib.hid (kept_files HQ5.out hlen.out)
      clear hp5 hpn5 hfo1 HE5 HFA5
      generalize p5.2.1 = v5' at *
      unfold ptrTo at hf2
      go_wp2_with fail
      refine hf2.out.mono ?_
      rintro e w6 ⟨v6, l6, rfl, hfa6, hh6, hb6, hl6, -, hnm6, he6⟩
      have HFA6 := Lib.hid hfa6
      have HQ6 := Lib.hid hh6
      have HP6 := Lib.hid (HP5.out.later hb6)
      have HR6 := Lib.hid (HR5.out.below hb6)
      have HE6 := Lib.hid he6
      have hfo2 := Lib.hid (fileOf12_any hfa6 (by rw [hl6]; exact hlen.out) nmOut ((hnm6 _).2 (by unfold nmOut; rw [hget.out]; rfl)))
      clear hfa6 hh6 hb6 hl6 hnm6 he6 hf2 HP5 HQ5 HR5
      unfold nmOut at hfo2
      go_wp2_with fail
      refine hfo2.out.mono ?_
      rintro e w' ⟨p6, hp6, hpn6, rfl, rfl⟩
      have HR6' := Lib.hid (told_bytes HQ6.out HFA6.out HE6.out hp6 hpn6 hget.out)
      have hq := Lib.hid (eqBytes_same HR6.out HR6'.out)
      clear hp6 hpn6 hfo2 HE6 HFA6
      generalize p6.2.1 = v6' at *
      go_wp2_with fail
      refine hq.out.mono ?_
      rintro e w' ⟨rfl, rfl⟩
      go_wp2_with fail
      refine (hworks.out _).mono ?_
      rintro e w10 ⟨rfl, h10⟩
      have HBF := Lib.hid (HP6.out.below.trans (h10.mono HP6.out.below.size))
      clear h10
      go_wp2
      go_ret
      exact ⟨rfl, HBF.out⟩
  · have hl' : ((es.length : Int) > 600) := by omega
    go_enter Tryz.func8, Tryz.ntmps8
    go_wp2_with fail
    refine (hworks.out _).mono ?_
    rintro e w10 ⟨rfl, h10⟩
    go_wp2
    go_ret
    exact ⟨rfl, h10⟩
end Go.Proofs.YtolieljpnafbhaaGreatDoor
namespace Go.Proofs.YtolieljpnafbhaaGreatDoor
open Go.RowKit Go.Maps
theorem rdE_own {w : World} {base : Nat} {v : Value} {es : List Edg} (h : ownsEdges w base v es) : RdE w v es := by
  rcases ownsEdges_shape h with ⟨rfl, h1⟩ | ⟨g, cap, rfl, hg, hc1, hc2⟩
  · obtain ⟨a, cap, rfl⟩ := ownsRow_slice h
    exact ⟨a, cap, rfl, .inl rfl⟩
  · refine ⟨some ⟨g, 0, none⟩, cap, rfl, .inr ⟨g, 0, rfl, fun j x hx => ?_⟩⟩
    obtain ⟨h1, h2, h3, h4⟩ := ownsEdges_cells h hx
    rw [Nat.zero_add]
    exact ⟨h1, h2, h3, h4⟩
/-- A row that was turned round, some of it twice. -/
def MixHead (w : World) (es : List Edg) (j : Nat) (v : Value) (W : World) : Prop :=
  ∃ M : List Edg, ownsEdges W w.heap.size v M ∧ (∀ x, x ∈ M ↔ x ∈ es.drop j) ∧ M.length ≤ 2 * (es.length - j) ∧ Below w.heap.size w W
theorem drop_mem {es : List Edg} {q : Nat} {y : Edg} (h : es[q]? = some y) (x : Edg) : x ∈ es.drop q ↔ x = y ∨ x ∈ es.drop (q + 1) := by
  have hl := lt_of_get h
  rw [List.getElem?_eq_getElem hl] at h
  rw [List.drop_eq_getElem_cons hl, List.mem_cons, Option.some.inj h]
/-- One edge more. -/
theorem mix_add {w W W' : World} {v v' : Value} {M : List Edg} {ob : Obj} (hb : Below w.heap.size w W) (hv : ownsEdges W w.heap.size v M) (ha : Appd v (W.alloc ob) W' v') : Below w.heap.size w W' := by
  obtain ⟨hg, _⟩ := ha
  have hs : W.heap.size < (W.alloc ob).heap.size := by simp
  refine hb.trans ⟨hg.os.trans rfl, hg.tape.trans rfl, hg.output.trans rfl, Nat.le_trans (Nat.le_of_lt hs) hg.size, fun x hx => ?_⟩
  have := hb.size
  refine (hg.block x (by omega) (fun e => ?_)).trans ((MapKept.heap_alloc W ob).2 x (by omega))
  have := (ownBlock_old hv x e.symm).2
  omega
set_option maxRecDepth 100000 in
set_option maxHeartbeats 8000000 in
theorem extsortMixed_any (HW : WriteSaid) {m : Nat} (HJS : JobSortSaid m) (hm : 600 ≤ m) (k : Nat) (hk : k < 256) (v : Value) (es : List Edg) (tw : Nat) (_htw : tw < 65536) (w : World) (hv : RdE w v es) :
    Calls Tryz.prog 10 #[.int .u8 (k : Int), v, .int .u16 (tw : Int)] w fun e w' => e = .returned (.bool true) ∧ Below w.heap.size w w' := by
  have HV := Lib.hid hv
  have hworks := Lib.hid (works12_any HW HJS (Nat.le_trans (by decide) hm))
  obtain ⟨a, cap, rfl, -⟩ := hv
  by_cases hl : es.length ≤ 300
  · have hl' : ¬ ((es.length : Int) > 300) := by omega
    obtain ⟨kk, hkk⟩ : ∃ kk : Nat, (kk : Int) = (k : Int) / 2 := ⟨k / 2, by omega⟩
    have hfr1 := Lib.hid (frames8_any k hk)
    have hfr2 := Lib.hid (frames8_any kk (by omega))
    obtain ⟨n1, hn1⟩ : ∃ n : Nat, n = 8 + k % 56 := ⟨_, rfl⟩
    obtain ⟨n2, hn2⟩ : ∃ n : Nat, n = 8 + kk % 56 := ⟨_, rfl⟩
    rw [← hn1] at hfr1
    rw [← hn2] at hfr2
    have hn18 : 8 ≤ n1 := by omega
    have hn14 : n1 ≤ 4096 := by omega
    have hn28 : 8 ≤ n2 := by omega
    have hn24 : n2 ≤ 4096 := by omega
    have HKK := Lib.hid hkk
    clear hn1 hn2 hkk
    have hEX : Hid (∀ W, Below w.heap.size w W → ∀ (i : Nat), i < es.length → ∃ x, es[i]? = some x ∧ ∃ b off, a = some ⟨b, off, none⟩ ∧ W.cell? ⟨b, off + i * 4, none⟩ = some (.int .u32 (x.t.toNat : Int)) ∧ W.cell? ⟨b, off + i * 4 + 1, none⟩ = some (.int .u32 (x.h.toNat : Int)) ∧ W.cell? ⟨b, off + i * 4 + 2, none⟩ = some (.int .u64 (x.x.toNat : Int)) ∧ W.cell? ⟨b, off + i * 4 + 3, none⟩ = some (.int .u32 (x.m.toNat : Int))) := Lib.hid (fun W hB i hi => by
      obtain ⟨a', cap', hve, hce⟩ := HV.out.below hB
      cases hve
      rcases hce with h0 | ⟨b, off, h1, hc⟩
      · omega
      · exact ⟨es[i], List.getElem?_eq_getElem hi, b, off, h1, hc i _ (List.getElem?_eq_getElem hi)⟩)
    have hall : Hid (es.drop es.length = []) := Lib.hid (List.drop_of_length_le (Nat.le_refl _))
    go_enter Tryz.func10, Tryz.ntmps10
    go_wp2
    go_loopw [7, 8] (fun mv iv W => ∃ j : Nat, j ≤ es.length ∧ iv = .int .i64 ((j : Int) - 1) ∧ MixHead w es j mv W) (fun _ iv _ => ((intOf iv) + 1).toNat)
    case atStart => exact ⟨es.length, Nat.le_refl _, rfl, [], World.ownsRow_nil _ _ _ _, by rw [hall.out]; simp, Nat.zero_le _, Below.refl _ _⟩
    case round =>
      generalize u7 = mv at *
      generalize wr = W at *
      obtain ⟨j, hj, rfl, M, hr, hmem, hml, hb⟩ := hrel
      have HR := Lib.hid hr
      have HMEM := Lib.hid hmem
      have HB := Lib.hid hb
      have HML := Lib.hid hml
      have hz : w.heap.size ≤ W.heap.size := hb.size
      clear hr hmem hb hml
      cases j with
      | succ q =>
        have hq1 : ((q + 1 : Nat) : Int) - 1 = (q : Int) := by omega
        rw [hq1]
        clear hq1
        obtain ⟨x, hx, be, oe, rfl, f0, f1, f2, f3⟩ := hEX.out W HB.out q (by omega)
        have HX := Lib.hid hx
        clear hx
        have hMl : M.length ≤ 100000 := by have := HML.out; omega
        go_wp2_with (at_builtin; refine wpList_append_edge rfl _ _ rfl w.heap.size _ M rfl HR.out x 1 rfl hMl hz ?_)
        intro mv2 W2 hr2 ha2
        have HB2 := Lib.hid (mix_add HB.out HR.out ha2)
        have HR2 := Lib.hid hr2
        have hz2 : w.heap.size ≤ W2.heap.size := HB2.out.size
        obtain ⟨x', hx', be', oe', hbe, g0, g1, g2, g3⟩ := hEX.out W2 HB2.out q (by omega)
        cases hbe
        rw [HX.out] at hx'
        cases hx'
        clear f0 f1 f2 f3 hr2 ha2
        have hsh := fun (W : World) => run_shr_nat (P := Tryz.prog) W .u16 tw (q % 16) (by show q % 16 ≤ 16; omega) ((q : Int) % 16) (by omega)
        have HM1 : Hid (∀ z, z ∈ M ++ [x] ↔ z ∈ es.drop q) := Lib.hid (fun z => by
          rw [drop_mem HX.out, List.mem_append, List.mem_singleton, HMEM.out]
          exact or_comm)
        have HM2 : Hid (∀ z, z ∈ M ++ [x] ++ [x] ↔ z ∈ es.drop q) := Lib.hid (fun z => by
          rw [List.mem_append, HM1.out, List.mem_singleton, drop_mem HX.out]
          exact ⟨fun h => h.elim id .inl, .inl⟩)
        have HL1 : Hid ((M ++ [x]).length ≤ 2 * (es.length - q)) := Lib.hid (by have := HML.out; rw [List.length_append, List.length_singleton]; omega)
        have HL2 : Hid ((M ++ [x] ++ [x]).length ≤ 2 * (es.length - q)) := Lib.hid (by have := HML.out; rw [List.length_append, List.length_append, List.length_singleton]; omega)
        have hM1l : (M ++ [x]).length ≤ 100000 := by have := HL1.out; omega
        have HM1l := Lib.hid hM1l
        clear hM1l
        cases hbit : (bits BinOp.and IntKind.u16 ((tw : Int) / 2 ^ (q % 16)) 1 == 1) with
        | true =>
          go_wp2_with (at_builtin; refine wpList_append_edge rfl _ _ rfl w.heap.size _ (M ++ [x]) rfl HR2.out x 1 rfl HM1l.out hz2 ?_)
          intro mv3 W3 hr3 ha3
          have HB3 := Lib.hid (mix_add HB2.out HR2.out ha3)
          have HR3 := Lib.hid hr3
          clear hr3 ha3 g0 g1 g2 g3
          go_wp2
          go_roundw
          case rel => exact ⟨q, by omega, by go_num, M ++ [x] ++ [x], (by rw [List.append_assoc]; exact HR3.out), HM2.out, HL2.out, HB3.out⟩
          case measure => simp [intOf]
        | false =>
          clear g0 g1 g2 g3
          go_wp2
          go_roundw
          case rel => exact ⟨q, by omega, by go_num, M ++ [x], HR2.out, HM1.out, HL1.out, HB2.out⟩
          case measure => simp [intOf]
      | zero =>
        have HMM : Hid (bestOf true M = bestOf true es) := Lib.hid (bestOf_congr fun x => by rw [HMEM.out, List.drop_zero])
        have HV1 := Lib.hid (HV.out.below HB.out)
        have HV2 := Lib.hid (rdE_own HR.out)
        have hMl : M.length ≤ 600 := by have := HML.out; omega
        have hbeg1 := Lib.hid (begun_any HW 65536 (by decide) n1 (by omega) hn14 _ es W HV1.out (by omega))
        have hbeg2 : Hid (∀ W', Below W.heap.size W W' → Calls Tryz.prog 26 #[.int .i64 65536, .int .i64 (n2 : Int), mv] W' (BegunPost 65536 W' n2 M)) := Lib.hid (fun W' hb => begun_any HW 65536 (by decide) n2 (by omega) hn24 _ M W' (HV2.out.below hb) (by omega))
        have hsort1 : Hid (∀ W w0 pb db n o d, Kept 65536 w0 W pb db n o d [(nmIn, edgeFile es true)] → 8 ≤ n → Calls Tryz.prog 28 #[ptrTo pb, .string nmIn, .string nmOut, .int .i64 (byNum true : Int)] W (KeptSortM 65536 w0 pb db n W o d [(nmOut, edgeFile (bestOf true es) true), (nmIn, edgeFile es true)])) := Lib.hid (fun W w0 pb db n o d h hn => kept_inout HW HJS h hn true (by omega) (by omega))
        have hsort2 : Hid (∀ W w0 pb db n o d, Kept 65536 w0 W pb db n o d [(nmIn, edgeFile M true)] → 8 ≤ n → Calls Tryz.prog 28 #[ptrTo pb, .string nmIn, .string nmOut, .int .i64 (byNum true : Int)] W (KeptSortM 65536 w0 pb db n W o d [(nmOut, edgeFile (bestOf true es) true), (nmIn, edgeFile M true)])) := Lib.hid (fun W w0 pb db n o d h hn => by
          rw [← HMM.out]
          exact kept_inout HW HJS h hn true (by omega) (by omega))
        have hget1 : Hid (mget [(nmOut, edgeFile (bestOf true es) true), (nmIn, edgeFile es true)] nmOut = some (.inl (pagesOf (per 20) ((bestOf true es).map Edg.bytes), true))) := Lib.hid rfl
        have hget2 : Hid (mget [(nmOut, edgeFile (bestOf true es) true), (nmIn, edgeFile M true)] nmOut = some (.inl (pagesOf (per 20) ((bestOf true es).map Edg.bytes), true))) := Lib.hid rfl
        have hlen1 : Hid ([(nmOut, edgeFile (bestOf true es) true), (nmIn, edgeFile es true)].length ≤ 1000) := Lib.hid (by simp)
        have hlen2 : Hid ([(nmOut, edgeFile (bestOf true es) true), (nmIn, edgeFile M true)].length ≤ 1000) := Lib.hid (by simp)
        clear HMEM HML HR
        generalize pagesOf (per 20) ((bestOf true es).map Edg.bytes) = PS at *
        generalize [(nmOut, edgeFile (bestOf true es) true), (nmIn, edgeFile es true)] = L1 at *
        generalize [(nmOut, edgeFile (bestOf true es) true), (nmIn, edgeFile M true)] = L2 at *
        unfold nmIn nmOut ptrTo at *
        have hkk := HKK.out
        have hkk' : (k : Int) / 2 = (kk : Int) := by omega
        have hwk : IntKind.u8.wrap ((k : Int) / 2) = (kk : Int) := by rw [hkk', IntKind.wrap_u8]; omega
        clear hkk
        go_wp2_with fail
        refine (hfr1.out _).mono ?_
        rintro e w' ⟨rfl, rfl⟩
        go_wp2_with fail
        refine hbeg1.out.mono ?_
        rintro e w1 ⟨db1, pb1, o1, d1, rfl, hh1⟩
        have HH1 := Lib.hid hh1
        clear hh1 hfr1 hbeg1
        unfold ptrTo
        go_wp2_with fail
        refine (hfr2.out _).mono ?_
        rintro e w' ⟨rfl, rfl⟩
        go_wp2_with fail
        refine (hbeg2.out w1 HH1.out.below).mono ?_
        rintro e w2 ⟨db2, pb2, o2, d2, rfl, hh2⟩
        have HA2 := Lib.hid (HH1.out.apart hh2)
        have HP2 := Lib.hid (HH1.out.later hh2.below)
        have HQ2 := Lib.hid (hh2.rebase HH1.out.below)
        clear hh2 hfr2 hbeg2 HH1
        have hs1 := Lib.hid (hsort1.out w2 W pb1 db1 n1 o1 d1 HP2.out hn18)
        unfold ptrTo
        go_wp2_with fail
        refine hs1.out.mono ?_
        rintro e w3 ⟨d3, o3, rfl, -, hm3⟩
        obtain ⟨hp3, hq3, ha3⟩ := HP2.out.both HQ2.out HA2.out hm3
        have HP3 := Lib.hid hp3
        have HQ3 := Lib.hid hq3
        have HA3 := Lib.hid ha3
        clear hp3 hq3 ha3 hm3 hs1 HP2 HQ2 HA2
        have hs2 := Lib.hid (hsort2.out w3 W pb2 db2 n2 o2 d2 HQ3.out hn28)
        go_wp2_with fail
        refine hs2.out.mono ?_
        rintro e w4 ⟨d4, o4, rfl, -, hm4⟩
        obtain ⟨hq4, hp4, ha4⟩ := HQ3.out.both HP3.out HA3.out.symm hm4
        have HP4 := Lib.hid hp4
        have HQ4 := Lib.hid hq4
        clear hp4 hq4 ha4 hm4 hs2 HP3 HQ3 HA3
        have hf1 := Lib.hid (kept_files HP4.out hlen1.out)
        unfold ptrTo at hf1
        go_wp2_with fail
        refine hf1.out.mono ?_
        rintro e w5 ⟨v5, l5, rfl, hfa5, hh5, hb5, hl5, -, hnm5, he5⟩
        have HFA5 := Lib.hid hfa5
        have HP5 := Lib.hid hh5
        have HQ5 := Lib.hid (HQ4.out.later hb5)
        have HE5 := Lib.hid he5
        have hfo1 := Lib.hid (fileOf12_any hfa5 (by rw [hl5]; exact hlen1.out) nmOut ((hnm5 _).2 (by unfold nmOut; rw [hget1.out]; rfl)))
        clear hfa5 hh5 hb5 hl5 hnm5 he5 hf1 HP4 HQ4
        unfold nmOut at hfo1
        go_wp2_with fail
        refine hfo1.out.mono ?_
        rintro e w' ⟨p5, hp5, hpn5, rfl, rfl⟩
        have HR5 := Lib.hid (told_bytes HP5.out HFA5.out HE5.out hp5 hpn5 hget1.out)
        have hf2 := Lib.hid (kept_files HQ5.out hlen2.out)
        clear hp5 hpn5 hfo1 HE5 HFA5
        generalize p5.2.1 = v5' at *
        unfold ptrTo at hf2
        go_wp2_with fail
        refine hf2.out.mono ?_
        rintro e w6 ⟨v6, l6, rfl, hfa6, hh6, hb6, hl6, -, hnm6, he6⟩
        have HFA6 := Lib.hid hfa6
        have HQ6 := Lib.hid hh6
        have HP6 := Lib.hid (HP5.out.later hb6)
        have HR6 := Lib.hid (HR5.out.below hb6)
        have HE6 := Lib.hid he6
        have hfo2 := Lib.hid (fileOf12_any hfa6 (by rw [hl6]; exact hlen2.out) nmOut ((hnm6 _).2 (by unfold nmOut; rw [hget2.out]; rfl)))
        clear hfa6 hh6 hb6 hl6 hnm6 he6 hf2 HP5 HQ5 HR5
        unfold nmOut at hfo2
        go_wp2_with fail
        refine hfo2.out.mono ?_
        rintro e w' ⟨p6, hp6, hpn6, rfl, rfl⟩
        have HR6' := Lib.hid (told_bytes HQ6.out HFA6.out HE6.out hp6 hpn6 hget2.out)
        have hq := Lib.hid (eqBytes_same HR6.out HR6'.out)
        clear hp6 hpn6 hfo2 HE6 HFA6
        generalize p6.2.1 = v6' at *
        go_wp2_with fail
        refine hq.out.mono ?_
        rintro e w' ⟨rfl, rfl⟩
        go_wp2_with fail
        refine (hworks.out _).mono ?_
        rintro e w10 ⟨rfl, h10⟩
        have HBE := Lib.hid (HB.out.trans (HP6.out.below.mono HB.out.size))
        have HBF := Lib.hid (HBE.out.trans (h10.mono HBE.out.size))
        clear h10
        go_wp2
        go_ret
        exact ⟨rfl, HBF.out⟩
  · have hl' : ((es.length : Int) > 300) := by omega
    go_enter Tryz.func10, Tryz.ntmps10
    go_wp2_with fail
    refine (hworks.out _).mono ?_
    rintro e w10 ⟨rfl, h10⟩
    go_wp2
    go_ret
    exact ⟨rfl, h10⟩
end Go.Proofs.YtolieljpnafbhaaGreatDoor
