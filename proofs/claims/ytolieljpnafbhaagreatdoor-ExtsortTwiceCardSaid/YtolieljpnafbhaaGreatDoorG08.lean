/-
  Joined, in build order: Stream1, Stream2, Stream3, EdgeM, Weight.
-/
import Derived.Test.YtolieljpnafbhaaGreatDoorG07
import Derived.Shelf.SlSortCmp.Insertion
import Derived.Sort.Grow
/-
  stream: Open, Len.
-/
namespace Go.Proofs.YtolieljpnafbhaaGreatDoor
open Go.RowKit Go.Maps Go.MapKept

/-- A stream in memory. -/
def StreamAt (w : World) (sb pb : Nat) (name : Name) (sz : Nat) : Prop := ∃ t, w.heap[sb]? = some (.cells #[ptrTo pb, .string name, .int .i64 (sz : Int)] t)

section
variable {S : Nat → Prop} {w w' : World} {sb pb db n sz : Nat} {name : Name} {o o' : Owner} {d d' : Dsk} {L L' : Logic}

theorem StreamAt.cells (h : StreamAt w sb pb name sz) : w.cell? ⟨sb, 0, none⟩ = some (ptrTo pb) ∧ w.cell? ⟨sb, 1, none⟩ = some (.string name) ∧ w.cell? ⟨sb, 2, none⟩ = some (.int .i64 (sz : Int)) := by
  obtain ⟨t, h⟩ := h
  refine ⟨?_, ?_, ?_⟩ <;> rw [cells_cell h] <;> rfl

theorem StreamAt.lt (h : StreamAt w sb pb name sz) : sb < w.heap.size := by
  obtain ⟨t, h⟩ := h
  exact (Array.getElem?_eq_some_iff.1 h).1

theorem StreamAt.kept (h : StreamAt w sb pb name sz) (hb : w'.heap[sb]? = w.heap[sb]?) : StreamAt w' sb pb name sz := by
  obtain ⟨t, h⟩ := h
  exact ⟨t, hb.trans h⟩

theorem StreamAt.below (h : StreamAt w sb pb name sz) (hb : Below w.heap.size w w') : StreamAt w' sb pb name sz := h.kept (hb.block _ h.lt)

theorem StreamAt.moved (h : StreamAt w sb pb name sz) (hm : Moved S n pb db w o d w' o' d' L') (ho : o sb = none) (hs : ¬ S sb) : StreamAt w' sb pb name sz := h.kept (hm.block h.lt ho hs)

theorem PoolAt.paged (h : PoolAt w pb db n o d L) {ps : List Pg} {fl : Bool} (hL : mget L name = some (.inl (ps, fl))) : ps.length ≤ 65536 ∧ Short ps := by
  obtain ⟨_, _, _, _, _, _, _, g⟩ := h
  obtain ⟨f, dp, q⟩ := g.paged _ _ _ hL
  exact ⟨q.most, q.short⟩

theorem poolPages_sound (h : PoolAt w pb db n o d L) {ps : List Pg} {fl : Bool} (hL : mget L name = some (.inl (ps, fl))) :
    Calls Tryz.prog 34 #[ptrTo pb, .string name] w fun e w' => e = .returned (.tuple #[.int .i64 ((pagesAns d ps).1 : Int), .int .i64 ((pagesAns d ps).2 : Int)]) ∧ Below w.heap.size w w' := by
  obtain ⟨_, _, _, _, _, hp, _, g⟩ := h
  exact pages_sound hp g hL

/-- How many pages a file is told to have, whatever there is. -/
theorem poolPages_any (h : PoolAt w pb db n o d L) (name : Name) (hs : name.size ≤ 1000) :
    Calls Tryz.prog 34 #[ptrTo pb, .string name] w fun e w' => (∃ k : Nat, e = .returned (.tuple #[.int .i64 (k : Int), .int .i64 (pfOpen d name : Int)])) ∧ Below w.heap.size w w' := by
  obtain ⟨_, _, _, _, _, hp, _, g⟩ := h
  exact (pages_any hp (fun p hp => (g.fitPlc p hp).2) name hs).mono fun e w' ⟨h1, h2⟩ => ⟨⟨_, h1⟩, h2⟩

theorem pfOpen_paged (h : PoolAt w pb db n o d L) {ps : List Pg} {fl : Bool} (hL : mget L name = some (.inl (ps, fl))) : pfOpen d name = if d.dead = true then 6 else 0 := by
  obtain ⟨_, _, _, _, _, _, _, g⟩ := h
  obtain ⟨f, dp, q, hlive, hdead⟩ := g.onDisk hL
  cases hd : d.dead with
  | true => rw [(hdead hd).2]; rfl
  | false => rw [(hlive hd).2]; rfl

def StreamOpenPost (w : World) (pb : Nat) (name : Name) (sz : Nat) (c : Nat) (e : Ending) (w' : World) : Prop :=
  ∃ v, e = .returned (.tuple #[v, .int .i64 (c : Int)]) ∧ Below w.heap.size w w' ∧ (c = 0 → ∃ sb, v = ptrTo sb ∧ StreamAt w' sb pb name sz ∧ w.heap.size ≤ sb) ∧ (c ≠ 0 → v = .pointer none)

set_option maxRecDepth 100000 in
set_option maxHeartbeats 2000000 in
theorem streamOpen_any (h : PoolAt w pb db n o d L) (name : Name) (hs : name.size ≤ 1000) (h1 : 1 ≤ sz) (h2 : sz ≤ 240) :
    Calls Tryz.prog 29 #[ptrTo pb, .string name, .int .i64 (sz : Int)] w (StreamOpenPost w pb name sz (pfOpen d name)) := by
  have hcall := Lib.hid (poolPages_any h name hs)
  have g1 : ¬ ((sz : Int) < 1) := by omega
  have g2 : ¬ ((sz : Int) > 240) := by omega
  clear h
  unfold ptrTo at *
  generalize hC : pfOpen d name = c at *
  clear hC
  by_cases hc : c = 0
  · subst hc
    go_enter Tryz.func29, Tryz.ntmps29
    go_wp2_with fail
    refine hcall.out.mono ?_
    rintro e w1 ⟨⟨k, rfl⟩, hb⟩
    have HB := Lib.hid hb
    clear hb
    go_wp2
    go_ret2
    refine ⟨_, rfl, HB.out.alloc HB.out.size _, fun _ => ⟨w1.heap.size, rfl, ⟨_, heap_alloc_new w1 _⟩, HB.out.size⟩, fun h => absurd rfl h⟩
  · have hc' : ¬ (c : Int) = 0 := by omega
    have HC := Lib.hid hc
    clear hc
    go_enter Tryz.func29, Tryz.ntmps29
    go_wp2_with fail
    refine hcall.out.mono ?_
    rintro e w1 ⟨⟨k, rfl⟩, hb⟩
    have HB := Lib.hid hb
    clear hb
    go_wp2
    go_ret2
    exact ⟨_, rfl, HB.out, fun h => absurd h HC.out, fun _ => rfl⟩

set_option maxHeartbeats 1000000 in
theorem streamPer_any (h : StreamAt w sb pb name sz) (h1 : 1 ≤ sz) (h2 : sz ≤ 240) : Calls Tryz.prog 75 #[ptrTo sb] w fun e w' => e = .returned (.int .i64 (per sz : Int)) ∧ w = w' := by
  obtain ⟨-, -, hc2⟩ := h.cells
  have e1 : (240 : Int).tdiv (sz : Int) = (per sz : Int) := by
    unfold per
    rw [Int.tdiv_eq_ediv_of_nonneg (by omega)]
    rfl
  clear h
  have hz : ¬ (sz : Int) = 0 := by omega
  unfold ptrTo
  have hp240 : per sz ≤ 240 := Nat.div_le_self _ _
  generalize hp : per sz = p at *
  clear hp
  have e2 : wrap64 (p : Int) = (p : Int) := by unfold wrap64; omega
  go_enter Tryz.func75, Tryz.ntmps75
  go_wp2
  go_ret
  exact ⟨rfl, rfl⟩

/-- What an operation leaves that turns nothing of what the files hold. -/
def Stays (n pb db : Nat) (w : World) (o : Owner) (d : Dsk) (L : Logic) (R : Nat → Ending → World → Owner → Prop) (e : Ending) (w' : World) : Prop :=
  ∃ c d' o', R c e w' o' ∧ Moved (fun _ => False) n pb db w o d w' o' d' L ∧ (c = 0 ∨ Err d d' L c)

def numIs (k : Nat) (c : Nat) (e : Ending) (_ : World) (_ : Owner) : Prop := ∃ x : Nat, e = .returned (.tuple #[.int .i64 (x : Int), .int .i64 (c : Int)]) ∧ (c = 0 → x = k)

theorem moved_of (hp : PoolAt w' pb db n o' d' L') (ht : Turn (o.In ofPool) w w') (hg : OGrow w.heap.size o o') (hon : Onward d d') : Moved S n pb db w o d w' o' d' L' :=
  ⟨hp, ht.mono (fun _ _ h => .inl h), hg, hon⟩

theorem last_facts {rs : List Rec} (hs : Sized sz rs) (h1 : 1 ≤ sz) (h2 : sz ≤ 240) (hN : 0 < rs.length) :
    ∃ (q m : Nat) (b : Pg), (pagesOf (per sz) rs).length = q + 1 ∧ (pagesOf (per sz) rs)[q]? = some b ∧ b.length = sz * m ∧ 1 ≤ m ∧ m ≤ per sz ∧ q * per sz + m = rs.length ∧ b = (rs.drop (per sz * q)).flatten := by
  have hp := per_pos h1 h2
  obtain ⟨g1, g2, g3⟩ := last_page hp hN
  refine ⟨pagesFor (per sz) rs.length - 1, rs.length - per sz * (pagesFor (per sz) rs.length - 1), _, ?_, by rw [pagesOf_get hp, if_pos g1], ?_, by omega, by omega, by rw [Nat.mul_comm]; omega, ?_⟩
  · rw [pagesOf_length]; omega
  · rw [page_length hs, Nat.min_eq_right (by omega)]
  · rw [List.take_of_length_le (by rw [List.length_drop]; omega)]

set_option maxRecDepth 100000 in
set_option maxHeartbeats 4000000 in
theorem streamLen_any (HW : WriteSaid) (h : PoolAt w pb db n o d L) (hst : StreamAt w sb pb name sz) (ho : o sb = none) (h1 : 1 ≤ sz) (h2 : sz ≤ 240) {rs : List Rec} {fl : Bool} (hL : mget L name = some (.inl (pagesOf (per sz) rs, fl))) (hs : Sized sz rs) :
    Calls Tryz.prog 30 #[ptrTo sb] w (Stays n pb db w o d L (numIs rs.length)) := by
  obtain ⟨hmost, hshort⟩ := h.paged hL
  have hcall : Hid (∀ W, Below w.heap.size w W → Calls Tryz.prog 34 #[ptrTo pb, .string name] W fun e w' => e = .returned (.tuple #[.int .i64 ((pagesAns d (pagesOf (per sz) rs)).1 : Int), .int .i64 ((pagesAns d (pagesOf (per sz) rs)).2 : Int)]) ∧ Below W.heap.size W w') := Lib.hid (fun W hW => poolPages_sound (h.below hW) hL)
  have hread : Hid (∀ W, Below w.heap.size w W → ∀ (k : Nat) (b : Pg), (pagesOf (per sz) rs)[k]? = some b → Calls Tryz.prog 35 #[ptrTo pb, .string name, .int .i64 (k : Int)] W (ReadPagePost W pb db n o d L b)) := Lib.hid (fun W hW k b hk => poolRead_any HW (h.below hW) hL hk)
  have H := Lib.hid h
  have HST := Lib.hid hst
  have HO := Lib.hid ho
  have hfacts := Lib.hid (fun hN => last_facts (rs := rs) hs h1 h2 hN)
  have hper := Lib.hid (fun W (hW : StreamAt W sb pb name sz) => streamPer_any hW h1 h2)
  have hpp := per_mul sz
  have hsl := hst.lt
  clear h hst ho hL hs hshort
  unfold ptrTo at *
  unfold pagesAns at hcall
  cases hd : d.dead with
  | true =>
    rw [hd, if_pos rfl] at hcall
    have HD := Lib.hid hd
    clear hd
    dsimp only at hcall
    go_enter Tryz.func30, Tryz.ntmps30
    go_wp2
    refine wp_region_quiet_in (Below w.heap.size w) (by kernel_rfl) (by kernel_rfl) ((Below.refl _ _).drew) ?_
    iterate 3 (refine q_op rfl (fun w' hw' => (by go_simp <;> rfl)) (fun K hK => ?_); go_simp; refine hK _ ?_; clear hK K)
    refine q_op rfl (fun w' hw' => (by have hc := (HST.out.below hw').cells.1; unfold ptrTo at hc; go_simp <;> rfl)) (fun K hK => ?_); go_simp; refine hK _ ?_; clear hK K
    iterate 3 (refine q_op rfl (fun w' hw' => (by go_simp <;> rfl)) (fun K hK => ?_); go_simp; refine hK _ ?_; clear hK K)
    refine q_op rfl (fun w' hw' => (by have hc := (HST.out.below hw').cells.2.1; go_simp <;> rfl)) (fun K hK => ?_); go_simp; refine hK _ ?_; clear hK K
    refine q_call rfl (fun w' hw' => (by go_simp <;> rfl)) (fun w' hw' => ((hcall.out w' hw').mono (fun e w'' h => ⟨h.1, hw'.trans (h.2.mono hw'.size)⟩))) (fun K hK => ?_); go_simp; refine hK _ ?_; clear hK K
    iterate 5 (refine q_op rfl (fun w' hw' => (by go_simp <;> rfl)) (fun K hK => ?_); go_simp; refine hK _ ?_; clear hK K)
    refine wpQuiet_nil ?_
    intro w1 hw1
    have HB := Lib.hid hw1
    clear hw1
    go_wp2
    go_ret2
    exact ⟨6, d, o, ⟨0, rfl, fun h => absurd h (by decide)⟩, Moved.ofBelow H.out HB.out, .inr (.inr ⟨rfl, HD.out⟩)⟩
  | false =>
    rw [hd, if_neg (by simp)] at hcall
    clear hd
    dsimp only at hcall
    rcases Nat.eq_zero_or_pos rs.length with hz | hN
    · have hP : (pagesOf (per sz) rs).length = 0 := by
        rw [pagesOf_length, hz]
        unfold pagesFor
        have := per_pos h1 h2
        rw [Nat.div_eq_of_lt (by omega)]
      rw [hP] at hcall
      have HZ := Lib.hid hz
      clear hz hP hmost
      go_enter Tryz.func30, Tryz.ntmps30
      go_wp2
      refine wp_region_quiet_in (Below w.heap.size w) (by kernel_rfl) (by kernel_rfl) ((Below.refl _ _).drew) ?_
      iterate 3 (refine q_op rfl (fun w' hw' => (by go_simp <;> rfl)) (fun K hK => ?_); go_simp; refine hK _ ?_; clear hK K)
      refine q_op rfl (fun w' hw' => (by have hc := (HST.out.below hw').cells.1; unfold ptrTo at hc; go_simp <;> rfl)) (fun K hK => ?_); go_simp; refine hK _ ?_; clear hK K
      iterate 3 (refine q_op rfl (fun w' hw' => (by go_simp <;> rfl)) (fun K hK => ?_); go_simp; refine hK _ ?_; clear hK K)
      refine q_op rfl (fun w' hw' => (by have hc := (HST.out.below hw').cells.2.1; go_simp <;> rfl)) (fun K hK => ?_); go_simp; refine hK _ ?_; clear hK K
      refine q_call rfl (fun w' hw' => (by go_simp <;> rfl)) (fun w' hw' => ((hcall.out w' hw').mono (fun e w'' h => ⟨h.1, hw'.trans (h.2.mono hw'.size)⟩))) (fun K hK => ?_); go_simp; refine hK _ ?_; clear hK K
      iterate 5 (refine q_op rfl (fun w' hw' => (by go_simp <;> rfl)) (fun K hK => ?_); go_simp; refine hK _ ?_; clear hK K)
      refine wpQuiet_nil ?_
      intro w1 hw1
      have HB := Lib.hid hw1
      clear hw1
      go_wp2
      go_ret2
      exact ⟨0, d, o, ⟨0, rfl, fun _ => HZ.out.symm⟩, Moved.ofBelow H.out HB.out, .inl rfl⟩
    · obtain ⟨q, m, b, f1, f2, f3, f4, f5, f6, -⟩ := hfacts.out hN
      have hread' : Hid (∀ W, Below w.heap.size w W → Calls Tryz.prog 35 #[.pointer (some ⟨pb, 0, none⟩), .string name, .int .i64 (q : Int)] W (ReadPagePost W pb db n o d L b)) := Lib.hid (fun W hW => hread.out W hW q b f2)
      have hq : q ≤ 65536 := by omega
      have hm : sz * m ≤ 240 := Nat.le_trans (Nat.mul_le_mul_left sz f5) hpp
      have hB1 : 1 ≤ sz * m := Nat.mul_pos (by omega) (by omega)
      have e1 : (sz * m) / sz = m := Nat.mul_div_cancel_left m (by omega)
      have e2 : (sz * m) % sz = 0 := Nat.mul_mod_right sz m
      have hN' : rs.length ≤ 16777216 := by
        have : per sz ≤ 240 := Nat.div_le_self _ _
        have := Nat.mul_le_mul hq this
        omega
      generalize hPP : (pagesOf (per sz) rs).length = P at *
      rw [← f3] at hm hB1 e1 e2
      generalize hBB : b.length = B at *
      generalize hNN : rs.length = N at *
      generalize hpe : per sz = p at *
      have hT : q * p ≤ N := by omega
      generalize hTT : q * p = T at *
      have hwq : IntKind.i64.wrap ((P : Int) - 1) = (q : Int) := by rw [wrap_in (by omega) (by omega)]; omega
      have hwm : IntKind.i64.wrap ((q : Int) * (p : Int)) = (T : Int) := by rw [← Int.natCast_mul, hTT]; exact wrap_in (by omega) (by omega)
      have hwd : (B : Int).tdiv (sz : Int) = (m : Int) := by rw [Int.tdiv_eq_ediv_of_nonneg (by omega), ← Int.natCast_ediv, e1]
      have hwr : (B : Int).tmod (sz : Int) = 0 := by rw [Int.tmod_eq_emod_of_nonneg (by omega), ← Int.natCast_emod, e2]; rfl
      have hwr2 : (B : Int) % (sz : Int) = 0 := by rw [← Int.natCast_emod, e2]; rfl
      have hwa : IntKind.i64.wrap ((T : Int) + (m : Int)) = (N : Int) := by rw [wrap_in (by omega) (by omega)]; omega
      have hB0 : ¬ (B : Int) = 0 := by omega
      have hz0 : ¬ (sz : Int) = 0 := by omega
      have hP0 : ¬ (P : Int) = 0 := by omega
      have HBB := Lib.hid hBB
      have hwmm' : Hid (IntKind.i64.wrap (m : Int) = (m : Int)) := Lib.hid (wrap_in (by omega) (by omega))
      have hwq' := Lib.hid hwq
      have hwm' := Lib.hid hwm
      have hwd' := Lib.hid hwd
      have hwr' := Lib.hid hwr
      have hwr2' := Lib.hid hwr2
      have hwa' := Lib.hid hwa
      clear hPP hNN hpe hTT hBB f1 f2 f3 f6 e1 e2 hwq hwm hwd hwr hwr2 hwa
      go_enter Tryz.func30, Tryz.ntmps30
      go_wp2
      refine wp_region_quiet_in (Below w.heap.size w) (by kernel_rfl) (by kernel_rfl) ((Below.refl _ _).drew) ?_
      iterate 3 (refine q_op rfl (fun w' hw' => (by go_simp <;> rfl)) (fun K hK => ?_); go_simp; refine hK _ ?_; clear hK K)
      refine q_op rfl (fun w' hw' => (by have hc := (HST.out.below hw').cells.1; unfold ptrTo at hc; go_simp <;> rfl)) (fun K hK => ?_); go_simp; refine hK _ ?_; clear hK K
      iterate 3 (refine q_op rfl (fun w' hw' => (by go_simp <;> rfl)) (fun K hK => ?_); go_simp; refine hK _ ?_; clear hK K)
      refine q_op rfl (fun w' hw' => (by have hc := (HST.out.below hw').cells.2.1; go_simp <;> rfl)) (fun K hK => ?_); go_simp; refine hK _ ?_; clear hK K
      refine q_call rfl (fun w' hw' => (by go_simp <;> rfl)) (fun w' hw' => ((hcall.out w' hw').mono (fun e w'' h => ⟨h.1, hw'.trans (h.2.mono hw'.size)⟩))) (fun K hK => ?_); go_simp; refine hK _ ?_; clear hK K
      iterate 5 (refine q_op rfl (fun w' hw' => (by go_simp <;> rfl)) (fun K hK => ?_); go_simp; refine hK _ ?_; clear hK K)
      refine wpQuiet_nil ?_
      intro w1 hw1
      have HB1 := Lib.hid hw1
      have HST1 := Lib.hid (HST.out.below hw1)
      clear hw1
      go_wp2
      refine wp_region_mid (Below w1.heap.size w1) 10 rfl (by kernel_rfl) (by kernel_rfl) ((Below.refl _ _).drew) ?_; simp only [List.take_succ_cons, List.take_zero]
      iterate 3 (refine q_op rfl (fun w' hw' => (by go_simp <;> rfl)) (fun K hK => ?_); go_simp; refine hK _ ?_; clear hK K)
      refine q_op rfl (fun w' hw' => (by have hc := (HST1.out.below hw').cells.1; unfold ptrTo at hc; go_simp <;> rfl)) (fun K hK => ?_); go_simp; refine hK _ ?_; clear hK K
      iterate 3 (refine q_op rfl (fun w' hw' => (by go_simp <;> rfl)) (fun K hK => ?_); go_simp; refine hK _ ?_; clear hK K)
      refine q_op rfl (fun w' hw' => (by have hc := (HST1.out.below hw').cells.2.1; go_simp <;> rfl)) (fun K hK => ?_); go_simp; refine hK _ ?_; clear hK K
      refine q_op rfl (fun w' hw' => (by go_simp <;> rfl)) (fun K hK => ?_); go_simp; refine hK _ ?_; clear hK K
      refine q_op rfl (fun w' hw' => (by have hx := hwq'.out; go_simp <;> rfl)) (fun K hK => ?_); go_simp; refine hK _ ?_; clear hK K
      refine wpQuiet_nil ?_; intro w2 hw2; refine ⟨_, _, rfl, (by go_simp <;> exact ⟨rfl, rfl⟩), ?_⟩
      have HB2 : Hid (Below w.heap.size w w2) := Lib.hid (HB1.out.trans (hw2.mono HB1.out.size))
      refine (hread'.out w2 HB2.out).mono ?_
      rintro e w3 ⟨v3, c3, d3, o3, rfl, hp3, ht3, hg3, hon3, he3, hok3, hbad3⟩
      have HM3 : Hid (Moved (fun _ => False) n pb db w o d w3 o3 d3 L) := Lib.hid ((Moved.ofBelow H.out HB2.out).trans (moved_of (S := fun _ => False) hp3 ht3 hg3 hon3) (fun _ _ h => h))
      have HE3 := Lib.hid he3
      have hst3 := Lib.hid (HST.out.moved HM3.out HO.out (fun h => h))
      clear hw2 hp3 ht3 hg3 hon3 he3
      by_cases hc3 : c3 = 0
      · subst hc3
        obtain ⟨ho3, -⟩ := hok3 rfl
        rw [HBB.out] at ho3
        obtain ⟨a3, k3, rfl⟩ := ownsRow_slice ho3
        clear hok3 hbad3 ho3
        refine ⟨_, rfl, ?_⟩; go_simp
        iterate 5 (refine q_op rfl (fun w' hw' => (by go_simp <;> rfl)) (fun K hK => ?_); go_simp; refine hK _ ?_; clear hK K)
        refine wpQuiet_nil ?_
        have hx := hwr'.out
        have hx2 := hwr2'.out
        have hc := hst3.out.cells.2.2
        go_wp2
        clear hx hx2
        refine wp_region_quiet_in (Below w3.heap.size w3) (by kernel_rfl) (by kernel_rfl) ((Below.refl _ _).drew) ?_
        refine q_op rfl (fun w' hw' => (by go_simp <;> rfl)) (fun K hK => ?_); go_simp; refine hK _ ?_; clear hK K
        refine q_op rfl (fun w' hw' => (by have hx := hwq'.out; go_simp <;> rfl)) (fun K hK => ?_); go_simp; refine hK _ ?_; clear hK K
        refine q_op rfl (fun w' hw' => (by go_simp <;> rfl)) (fun K hK => ?_); go_simp; refine hK _ ?_; clear hK K
        refine q_call rfl (fun w' hw' => (by go_simp <;> rfl)) (fun w' hw' => ((hper.out w' (hst3.out.below hw')).mono (fun e w'' h => ⟨h.1, h.2 ▸ hw'⟩))) (fun K hK => ?_); go_simp; refine hK _ ?_; clear hK K
        refine q_op rfl (fun w' hw' => (by have hx := hwm'.out; go_simp <;> rfl)) (fun K hK => ?_); go_simp; refine hK _ ?_; clear hK K
        iterate 5 (refine q_op rfl (fun w' hw' => (by go_simp <;> rfl)) (fun K hK => ?_); go_simp; refine hK _ ?_; clear hK K)
        refine q_op rfl (fun w' hw' => (by have hc := (hst3.out.below hw').cells.2.2; go_simp <;> rfl)) (fun K hK => ?_); go_simp; refine hK _ ?_; clear hK K
        refine q_op rfl (fun w' hw' => (by have hx := hwd'.out; have hx2 := hwmm'.out; go_simp <;> rfl)) (fun K hK => ?_); go_simp; refine hK _ ?_; clear hK K
        refine q_op rfl (fun w' hw' => (by have hx := hwa'.out; go_simp <;> rfl)) (fun K hK => ?_); go_simp; refine hK _ ?_; clear hK K
        iterate 2 (refine q_op rfl (fun w' hw' => (by go_simp <;> rfl)) (fun K hK => ?_); go_simp; refine hK _ ?_; clear hK K)
        refine wpQuiet_nil ?_
        intro w4 hw4
        go_wp2
        go_ret2
        exact ⟨0, d3, o3, ⟨N, rfl, fun _ => rfl⟩, HM3.out.below hw4, .inl rfl⟩
      · obtain rfl := hbad3 hc3
        have hc3' : ¬ (c3 : Int) = 0 := by omega
        have HC3 := Lib.hid hc3
        clear hc3 hok3 hbad3
        refine ⟨_, rfl, ?_⟩; go_simp
        iterate 5 (refine q_op rfl (fun w' hw' => (by go_simp <;> rfl)) (fun K hK => ?_); go_simp; refine hK _ ?_; clear hK K)
        refine wpQuiet_nil ?_
        go_wp2
        go_ret2
        exact ⟨c3, d3, o3, ⟨0, rfl, fun h => absurd h HC3.out⟩, HM3.out, HE3.out⟩
end

end Go.Proofs.YtolieljpnafbhaaGreatDoor
/-
  stream: page, Get.
-/
namespace Go.Proofs.YtolieljpnafbhaaGreatDoor
open Go.RowKit Go.Maps Go.MapKept

section
variable {S : Nat → Prop} {w w' : World} {sb pb db n sz : Nat} {name : Name} {o o' : Owner} {d d' : Dsk} {L L' : Logic}

theorem rec_facts {rs : List Rec} (hs : Sized sz rs) (h1 : 1 ≤ sz) (h2 : sz ≤ 240) {i : Nat} (hi : i < rs.length) :
    ∃ b : Pg, (pagesOf (per sz) rs)[i / per sz]? = some b ∧ b.length % sz = 0 ∧ sz * (i % per sz) + sz ≤ b.length ∧ (b.drop (sz * (i % per sz))).take sz = rs[i] ∧ b.length ≤ 240 := by
  have hp := per_pos h1 h2
  obtain ⟨g1, g2, g3⟩ := page_rec hs hp hi
  refine ⟨_, by rw [pagesOf_get hp, if_pos g1], ?_, g3, g2, ?_⟩
  · rw [page_length hs]; exact Nat.mul_mod_right _ _
  · rw [page_length hs]; exact Nat.le_trans (Nat.mul_le_mul_left sz (Nat.min_le_left _ _)) (per_mul sz)

/-- A page with a record, and where it stands on it. -/
def PageIn (n pb db : Nat) (w : World) (o : Owner) (d : Dsk) (L : Logic) (b : Pg) (k a : Nat) (e : Ending) (w' : World) : Prop :=
  ∃ v c d' o', e = .returned (.tuple #[v, .int .i64 ((if c = 0 then k else 0 : Nat) : Int), .int .i64 ((if c = 0 then a else 0 : Nat) : Int), .int .i64 ((c : Nat) : Int)]) ∧ Moved (fun _ => False) n pb db w o d w' o' d' L ∧ (c = 0 ∨ Err d d' L c) ∧
    (c = 0 → w'.ownsRow w.heap.size 5 1 v b.length (b.map bv) ∧ ∀ x, v.ownBlock = some x → o' x = none)

set_option maxRecDepth 100000 in
set_option maxHeartbeats 4000000 in
theorem streamPage_in (HW : WriteSaid) (h : PoolAt w pb db n o d L) (hst : StreamAt w sb pb name sz) (ho : o sb = none) (h1 : 1 ≤ sz) (h2 : sz ≤ 240) {rs : List Rec} {fl : Bool} (hL : mget L name = some (.inl (pagesOf (per sz) rs, fl))) (hs : Sized sz rs) {i : Nat} (hi : i < rs.length)
    {b : Pg} (hb : (pagesOf (per sz) rs)[i / per sz]? = some b) :
    Calls Tryz.prog 76 #[ptrTo sb, .int .i64 (i : Int)] w (PageIn n pb db w o d L b (i / per sz) (sz * (i % per sz))) := by
  obtain ⟨hmost, hshort⟩ := h.paged hL
  have hcall : Hid (∀ W, Below w.heap.size w W → Calls Tryz.prog 34 #[ptrTo pb, .string name] W fun e w' => e = .returned (.tuple #[.int .i64 ((pagesAns d (pagesOf (per sz) rs)).1 : Int), .int .i64 ((pagesAns d (pagesOf (per sz) rs)).2 : Int)]) ∧ Below W.heap.size W w') := Lib.hid (fun W hW => poolPages_sound (h.below hW) hL)
  have hread : Hid (∀ W, Below w.heap.size w W → Calls Tryz.prog 35 #[ptrTo pb, .string name, .int .i64 ((i / per sz : Nat) : Int)] W (ReadPagePost W pb db n o d L b)) := Lib.hid (fun W hW => poolRead_any HW (h.below hW) hL hb)
  have H := Lib.hid h
  have HST := Lib.hid hst
  have HO := Lib.hid ho
  obtain ⟨b', hb', f1, f2, -, f4⟩ := rec_facts hs h1 h2 hi
  obtain rfl : b' = b := by rw [hb] at hb'; exact (Option.some.inj hb').symm
  have hper := Lib.hid (fun W (hW : StreamAt W sb pb name sz) => streamPer_any hW h1 h2)
  have hpp := per_mul sz
  have hp1 := per_pos h1 h2
  have hp240 : per sz ≤ 240 := Nat.div_le_self _ _
  have hsl := hst.lt
  have hkP := lt_of_get hb
  have hN' : rs.length ≤ 16777216 := by
    have h3 : rs.length ≤ per sz * (pagesOf (per sz) rs).length := by
      rw [pagesOf_length]
      exact Nat.le_of_not_lt (fun h => Nat.lt_irrefl _ ((pagesFor_lt hp1).2 h))
    have h4 : per sz ≤ 240 := Nat.div_le_self _ _
    have := Nat.mul_le_mul h4 hmost
    omega
  have hk1 : i / per sz ≤ i := Nat.div_le_self _ _
  have hr1 : i % per sz < per sz := Nat.mod_lt _ (by omega)
  have hr2 : sz * (i % per sz) ≤ 240 := Nat.le_trans (Nat.mul_le_mul_left sz (Nat.le_of_lt hr1)) hpp
  have hwk : (i : Int).tdiv (per sz : Int) = ((i / per sz : Nat) : Int) := by rw [Int.tdiv_eq_ediv_of_nonneg (by omega), Int.natCast_ediv]
  have hwm : (i : Int).tmod (per sz : Int) = ((i % per sz : Nat) : Int) := by rw [Int.tmod_eq_emod_of_nonneg (by omega), Int.natCast_emod]
  have hwa : IntKind.i64.wrap (((i % per sz : Nat) : Int) * (sz : Int)) = ((sz * (i % per sz) : Nat) : Int) := by rw [← Int.natCast_mul, Nat.mul_comm]; exact wrap_in (by omega) (by omega)
  have hwr : (b'.length : Int).tmod (sz : Int) = 0 := by rw [Int.tmod_eq_emod_of_nonneg (by omega), ← Int.natCast_emod, f1]; rfl
  have hwr2 : (b'.length : Int) % (sz : Int) = 0 := by rw [← Int.natCast_emod, f1]; rfl
  clear h hst ho hL hs hshort hb hb' f1
  unfold ptrTo at *
  unfold pagesAns at hcall
  generalize hBB : b'.length = B at *
  have HBB := Lib.hid hBB
  clear hBB
  generalize (pagesOf (per sz) rs).length = P at *
  generalize i / per sz = k at *
  generalize i % per sz = r at *
  generalize per sz = p at *
  obtain ⟨a, ha⟩ : ∃ a, a = sz * r := ⟨_, rfl⟩
  rw [← ha] at hr2 f2 hwa ⊢
  have hwk' := Lib.hid hwk
  have hwm' := Lib.hid hwm
  have hwa' := Lib.hid hwa
  have hwr' := Lib.hid hwr
  have hwr2' := Lib.hid hwr2
  have hi64 : i < 16777216 := by omega
  clear hwk hwm hwa hwr hwr2 ha hi hN'
  have hi0 : ¬ ((i : Int) < 0) := by omega
  have hkP' : ¬ ((k : Int) ≥ (P : Int)) := by omega
  have haB : ¬ ((a : Int) ≥ (B : Int)) := by omega
  have hz0 : ¬ (sz : Int) = 0 := by omega
  have hpn : ¬ p = 0 := by omega
  have hwkk : Hid (IntKind.i64.wrap (k : Int) = (k : Int)) := Lib.hid (wrap_in (by omega) (by omega))
  have hwrr : Hid (IntKind.i64.wrap (r : Int) = (r : Int)) := Lib.hid (wrap_in (by omega) (by omega))
  cases hd : d.dead with
  | true =>
    rw [hd, if_pos rfl] at hcall
    have HD := Lib.hid hd
    clear hd
    dsimp only at hcall
    go_enter Tryz.func76, Tryz.ntmps76
    go_wp2
    refine wp_region_quiet_in (Below w.heap.size w) (by kernel_rfl) (by kernel_rfl) ((Below.refl _ _).drew) ?_
    iterate 3 (refine q_op rfl (fun w' hw' => (by go_simp <;> rfl)) (fun K hK => ?_); go_simp; refine hK _ ?_; clear hK K)
    refine q_op rfl (fun w' hw' => (by have hc := (HST.out.below hw').cells.1; unfold ptrTo at hc; go_simp <;> rfl)) (fun K hK => ?_); go_simp; refine hK _ ?_; clear hK K
    iterate 3 (refine q_op rfl (fun w' hw' => (by go_simp <;> rfl)) (fun K hK => ?_); go_simp; refine hK _ ?_; clear hK K)
    refine q_op rfl (fun w' hw' => (by have hc := (HST.out.below hw').cells.2.1; go_simp <;> rfl)) (fun K hK => ?_); go_simp; refine hK _ ?_; clear hK K
    refine q_call rfl (fun w' hw' => (by go_simp <;> rfl)) (fun w' hw' => ((hcall.out w' hw').mono (fun e w'' h => ⟨h.1, hw'.trans (h.2.mono hw'.size)⟩))) (fun K hK => ?_); go_simp; refine hK _ ?_; clear hK K
    iterate 5 (refine q_op rfl (fun w' hw' => (by go_simp <;> rfl)) (fun K hK => ?_); go_simp; refine hK _ ?_; clear hK K)
    refine wpQuiet_nil ?_
    intro w1 hw1
    have HB := Lib.hid hw1
    clear hw1
    go_wp2
    go_returns
    exact ⟨_, 6, d, o, rfl, Moved.ofBelow H.out HB.out, .inr (.inr ⟨rfl, HD.out⟩), fun h => absurd h (by decide)⟩
  | false =>
    rw [hd, if_neg (by simp)] at hcall
    clear hd
    dsimp only at hcall
    go_enter Tryz.func76, Tryz.ntmps76
    go_wp2
    refine wp_region_quiet_in (Below w.heap.size w) (by kernel_rfl) (by kernel_rfl) ((Below.refl _ _).drew) ?_
    iterate 3 (refine q_op rfl (fun w' hw' => (by go_simp <;> rfl)) (fun K hK => ?_); go_simp; refine hK _ ?_; clear hK K)
    refine q_op rfl (fun w' hw' => (by have hc := (HST.out.below hw').cells.1; unfold ptrTo at hc; go_simp <;> rfl)) (fun K hK => ?_); go_simp; refine hK _ ?_; clear hK K
    iterate 3 (refine q_op rfl (fun w' hw' => (by go_simp <;> rfl)) (fun K hK => ?_); go_simp; refine hK _ ?_; clear hK K)
    refine q_op rfl (fun w' hw' => (by have hc := (HST.out.below hw').cells.2.1; go_simp <;> rfl)) (fun K hK => ?_); go_simp; refine hK _ ?_; clear hK K
    refine q_call rfl (fun w' hw' => (by go_simp <;> rfl)) (fun w' hw' => ((hcall.out w' hw').mono (fun e w'' h => ⟨h.1, hw'.trans (h.2.mono hw'.size)⟩))) (fun K hK => ?_); go_simp; refine hK _ ?_; clear hK K
    iterate 5 (refine q_op rfl (fun w' hw' => (by go_simp <;> rfl)) (fun K hK => ?_); go_simp; refine hK _ ?_; clear hK K)
    refine wpQuiet_nil ?_
    intro w1 hw1
    have HB1 := Lib.hid hw1
    have HST1 := Lib.hid (HST.out.below hw1)
    clear hw1
    go_wp2
    refine wp_region_quiet_in (Below w1.heap.size w1) (by kernel_rfl) (by kernel_rfl) ((Below.refl _ _).drew) ?_
    iterate 2 (refine q_op rfl (fun w' hw' => (by go_simp <;> rfl)) (fun K hK => ?_); go_simp; refine hK _ ?_; clear hK K)
    refine q_call rfl (fun w' hw' => (by go_simp <;> rfl)) (fun w' hw' => ((hper.out w' (HST1.out.below hw')).mono (fun e w'' h => ⟨h.1, h.2 ▸ hw'⟩))) (fun K hK => ?_); go_simp; refine hK _ ?_; clear hK K
    refine q_op rfl (fun w' hw' => (by have hx := hwk'.out; have hx2 := hpn; have hx3 := hwkk.out; go_simp <;> rfl)) (fun K hK => ?_); go_simp; refine hK _ ?_; clear hK K
    iterate 2 (refine q_op rfl (fun w' hw' => (by go_simp <;> rfl)) (fun K hK => ?_); go_simp; refine hK _ ?_; clear hK K)
    refine q_call rfl (fun w' hw' => (by go_simp <;> rfl)) (fun w' hw' => ((hper.out w' (HST1.out.below hw')).mono (fun e w'' h => ⟨h.1, h.2 ▸ hw'⟩))) (fun K hK => ?_); go_simp; refine hK _ ?_; clear hK K
    refine q_op rfl (fun w' hw' => (by have hx := hwm'.out; have hx2 := hpn; have hx3 := hwrr.out; go_simp <;> rfl)) (fun K hK => ?_); go_simp; refine hK _ ?_; clear hK K
    iterate 3 (refine q_op rfl (fun w' hw' => (by go_simp <;> rfl)) (fun K hK => ?_); go_simp; refine hK _ ?_; clear hK K)
    refine q_op rfl (fun w' hw' => (by have hc := (HST1.out.below hw').cells.2.2; go_simp <;> rfl)) (fun K hK => ?_); go_simp; refine hK _ ?_; clear hK K
    refine q_op rfl (fun w' hw' => (by have hx := hwa'.out; go_simp <;> rfl)) (fun K hK => ?_); go_simp; refine hK _ ?_; clear hK K
    iterate 2 (refine q_op rfl (fun w' hw' => (by go_simp <;> rfl)) (fun K hK => ?_); go_simp; refine hK _ ?_; clear hK K)
    refine wpQuiet_nil ?_
    intro w2 hw2
    have HB2 : Hid (Below w.heap.size w w2) := Lib.hid (HB1.out.trans (hw2.mono HB1.out.size))
    have HST2 := Lib.hid (HST1.out.below hw2)
    clear hw2
    go_wp2
    refine wp_region_mid (Below w2.heap.size w2) 9 rfl (by kernel_rfl) (by kernel_rfl) ((Below.refl _ _).drew) ?_; simp only [List.take_succ_cons, List.take_zero]
    iterate 3 (refine q_op rfl (fun w' hw' => (by go_simp <;> rfl)) (fun K hK => ?_); go_simp; refine hK _ ?_; clear hK K)
    refine q_op rfl (fun w' hw' => (by have hc := (HST2.out.below hw').cells.1; unfold ptrTo at hc; go_simp <;> rfl)) (fun K hK => ?_); go_simp; refine hK _ ?_; clear hK K
    iterate 3 (refine q_op rfl (fun w' hw' => (by go_simp <;> rfl)) (fun K hK => ?_); go_simp; refine hK _ ?_; clear hK K)
    refine q_op rfl (fun w' hw' => (by have hc := (HST2.out.below hw').cells.2.1; go_simp <;> rfl)) (fun K hK => ?_); go_simp; refine hK _ ?_; clear hK K
    refine q_op rfl (fun w' hw' => (by go_simp <;> rfl)) (fun K hK => ?_); go_simp; refine hK _ ?_; clear hK K
    refine wpQuiet_nil ?_; intro w3 hw3; refine ⟨_, _, rfl, (by go_simp <;> exact ⟨rfl, rfl⟩), ?_⟩
    have HB3 : Hid (Below w.heap.size w w3) := Lib.hid (HB2.out.trans (hw3.mono HB2.out.size))
    refine (hread.out w3 HB3.out).mono ?_
    rintro e w4 ⟨v4, c4, d4, o4, rfl, hp4, ht4, hg4, hon4, he4, hok4, hbad4⟩
    have HM4 : Hid (Moved (fun _ => False) n pb db w o d w4 o4 d4 L) := Lib.hid ((Moved.ofBelow H.out HB3.out).trans (moved_of (S := fun _ => False) hp4 ht4 hg4 hon4) (fun _ _ h => h))
    have HE4 := Lib.hid he4
    have hst4 := Lib.hid (HST.out.moved HM4.out HO.out (fun h => h))
    clear hw3 hp4 ht4 hg4 hon4 he4
    by_cases hc4 : c4 = 0
    · subst hc4
      obtain ⟨ho4, hf4⟩ := hok4 rfl
      have HF4 := Lib.hid hf4
      rw [HBB.out] at ho4
      obtain ⟨a4, k4, rfl⟩ := ownsRow_slice ho4
      have HO4 := Lib.hid ho4
      clear hok4 hbad4 ho4 hf4
      refine ⟨_, rfl, ?_⟩; go_simp
      iterate 5 (refine q_op rfl (fun w' hw' => (by go_simp <;> rfl)) (fun K hK => ?_); go_simp; refine hK _ ?_; clear hK K)
      refine wpQuiet_nil ?_
      have hx := hwr'.out
      have hx2 := hwr2'.out
      have hc := hst4.out.cells.2.2
      go_wp2
      go_returns
      exact ⟨_, 0, d4, o4, rfl, HM4.out, .inl rfl, fun _ => ⟨by rw [HBB.out]; exact ownsRow_base HO4.out HB3.out.size, HF4.out⟩⟩
    · obtain rfl := hbad4 hc4
      have hc4' : ¬ (c4 : Int) = 0 := by omega
      have HC4 := Lib.hid hc4
      clear hc4 hok4 hbad4
      refine ⟨_, rfl, ?_⟩; go_simp
      iterate 5 (refine q_op rfl (fun w' hw' => (by go_simp <;> rfl)) (fun K hK => ?_); go_simp; refine hK _ ?_; clear hK K)
      refine wpQuiet_nil ?_
      go_wp2
      go_returns
      exact ⟨_, c4, d4, o4, by rw [if_neg HC4.out, if_neg HC4.out]; rfl, HM4.out, HE4.out, fun h => absurd h HC4.out⟩

/-- A record that is handed back. -/
def RecPost (n pb db : Nat) (w : World) (o : Owner) (d : Dsk) (L : Logic) (r : Rec) (e : Ending) (w' : World) : Prop :=
  ∃ v c d' o', e = .returned (.tuple #[v, .int .i64 ((c : Nat) : Int)]) ∧ Moved (fun _ => False) n pb db w o d w' o' d' L ∧ (c = 0 ∨ Err d d' L c) ∧
    (c = 0 → w'.ownsRow w.heap.size 5 1 v r.length (r.map bv) ∧ ∀ x, v.ownBlock = some x → o' x = none) ∧ (c ≠ 0 → v = .slice none 0 0)

theorem ownsRow_empty (w : World) (e : TypeId) (base : Nat) (hb : base ≤ w.heap.size) : (w.alloc (.cells #[] e)).ownsRow base e 1 (.slice (some ⟨w.heap.size, 0, none⟩) 0 0) 0 [] :=
  ⟨rfl, .inr ⟨w.heap.size, 0, #[], rfl, hb, heap_alloc_new w _, Nat.le_refl _, by unfold maxLen; omega, rfl, rfl⟩⟩

set_option maxRecDepth 100000 in
set_option maxHeartbeats 4000000 in
theorem streamGet_in (HW : WriteSaid) (h : PoolAt w pb db n o d L) (hst : StreamAt w sb pb name sz) (ho : o sb = none) (h1 : 1 ≤ sz) (h2 : sz ≤ 240) {rs : List Rec} {fl : Bool} (hL : mget L name = some (.inl (pagesOf (per sz) rs, fl))) (hs : Sized sz rs) {i : Nat} (hi : i < rs.length) :
    Calls Tryz.prog 31 #[ptrTo sb, .int .i64 (i : Int)] w (RecPost n pb db w o d L rs[i]) := by
  obtain ⟨b, hb, f1, f2, f3, f4⟩ := rec_facts hs h1 h2 hi
  have hcall := Lib.hid (streamPage_in HW h hst ho h1 h2 hL hs hi hb)
  have hrl : rs[i].length = sz := hs _ (List.getElem_mem hi)
  have HST := Lib.hid hst
  have HO := Lib.hid ho
  generalize rs[i] = r at *
  clear h hst ho hL hs hi hb f1
  unfold ptrTo at *
  generalize sz * (i % per sz) = a at *
  generalize i / per sz = k at *
  have HRL := Lib.hid hrl
  have HF3 := Lib.hid f3
  have hwx : IntKind.i64.wrap ((a : Int) + (sz : Int)) = ((a + sz : Nat) : Int) := by rw [wrap_in (by omega) (by omega)]; omega
  clear hrl f3 hwx
  go_enter Tryz.func31, Tryz.ntmps31
  go_wp2_with fail
  refine hcall.out.mono ?_
  rintro e w1 ⟨v1, c1, d1, o1, rfl, hm1, he1, hok1⟩
  have HM1 := Lib.hid hm1
  have HE1 := Lib.hid he1
  have hst1 := Lib.hid (HST.out.moved hm1 HO.out (fun h => h))
  clear hm1 he1
  by_cases hc1 : c1 = 0
  · subst hc1
    obtain ⟨ho1, hf1⟩ := hok1 rfl
    rw [if_pos rfl, if_pos rfl]
    obtain ⟨a1, k1, rfl⟩ := ownsRow_slice ho1
    have HO1 := Lib.hid ho1
    have HR1 := Lib.hid (Rd_own ho1)
    obtain ⟨va, vc, hve, hvl, hvm, hvc⟩ := Rd_own ho1
    cases hve
    unfold maxLen at hvm
    obtain hvc | ⟨vb, voff, rfl, -⟩ := hvc
    · omega
    have hc := hst1.out.cells.2.2
    have hsb1 := hst1.out.lt
    have hwx : IntKind.i64.wrap ((a : Int) + (sz : Int)) = (a : Int) + (sz : Int) := wrap_in (by omega) (by omega)
    have HSUB : Hid (Rd w1 (.slice (some ⟨vb, voff + a, none⟩) (a + sz - a) (k1 - a)) r) := Lib.hid (by
      rw [Nat.add_sub_cancel_left]
      have := HR1.out.sub (i := a) (k := sz) (by omega)
      rw [HF3.out] at this
      simpa [Addr_add] using this)
    have HF1 := Lib.hid hf1
    have HBS : Hid (w.heap.size ≤ w1.heap.size) := Lib.hid HM1.out.size
    generalize hBB : b.length = B at *
    have HBB := Lib.hid hBB
    have haB : (a : Int) + (sz : Int) ≤ (B : Int) := by omega
    have hak : (a : Int) + (sz : Int) ≤ (k1 : Int) := by omega
    have hka : ¬ k1 = a := by omega
    have hka2 : a < k1 := by omega
    clear hok1 ho1 hf1 hBB
    go_wp2_with (at_builtin; refine wpList_append_rd rfl _ _ 57 rfl w1.heap.size 5 Tryz.underlying57 info_u8 _ 0 [] rfl (ownsRow_empty w1 5 w1.heap.size (Nat.le_refl _)) (.slice (some ⟨vb, voff + a, none⟩) (a + sz - a) (k1 - a)) r rfl (HSUB.out.below ((Below.refl _ _).alloc (Nat.le_refl _) _)) ?c1 ?c2 ?_)
    case c1 => rw [HRL.out]; omega
    case c2 => simp
    intro v' w2 ho2 hg2 hw2
    have HO2 := Lib.hid ho2
    have HM2 : Hid (Moved (fun _ => False) n pb db w o d w2 o1 d1 L) := Lib.hid ((HM1.out.alloc _).grown hg2 (fun k hk => by
      cases hk
      exact ⟨HM1.out.pool.fresh (Nat.le_refl _), .inr HBS.out⟩))
    have HW2 : Hid (∀ x, v'.ownBlock = some x → o1 x = none) := Lib.hid (fun x hx => by
      rcases hw2 with e | e
      · rw [e] at hx
        cases hx
        exact HM1.out.pool.fresh (Nat.le_refl _)
      · rw [e] at hx
        cases hx
        exact HM1.out.pool.fresh (by simp))
    clear ho2 hg2 hw2
    go_wp2
    go_ret2
    refine ⟨v', 0, d1, o1, rfl, HM2.out, .inl rfl, fun _ => ⟨?_, HW2.out⟩, fun h => absurd rfl h⟩
    have := ownsRow_base HO2.out HBS.out
    simpa using this
  · have hc1' : ¬ (c1 : Int) = 0 := by omega
    have HC1 := Lib.hid hc1
    clear hc1 hok1
    go_wp2
    go_ret2
    exact ⟨_, c1, d1, o1, rfl, HM1.out, HE1.out, fun h => absurd h HC1.out, fun _ => rfl⟩
end

end Go.Proofs.YtolieljpnafbhaaGreatDoor
/-
  stream: Add.
-/
namespace Go.Proofs.YtolieljpnafbhaaGreatDoor
open Go.RowKit Go.Maps Go.MapKept

section
variable {S : Nat → Prop} {w w' : World} {sb pb db n sz : Nat} {name : Name} {o o' : Owner} {d d' : Dsk} {L L' : Logic}

def BehindPost (w : World) (base : Nat) (v : Value) (b r : List UInt8) (e : Ending) (w' : World) : Prop :=
  ∃ v', e = .returned v' ∧ w'.ownsRow base 5 1 v' (b.length + r.length) ((b ++ r).map bv) ∧ w.grownBy w' v.ownBlock ∧ (v'.ownBlock = v.ownBlock ∨ v'.ownBlock = some w.heap.size)

set_option maxHeartbeats 1000000 in
theorem behind_any {base bx : Nat} {v rv : Value} {b r : List UInt8} (hc : w.cell? ⟨bx, 0, none⟩ = some rv) (hr : Rd w rv r) (hown : w.ownsRow base 5 1 v b.length (b.map bv)) (hb : base ≤ w.heap.size) (hl : b.length + r.length ≤ 1073741824) :
    Calls Tryz.prog 94 #[v, .pointer (some ⟨bx, 0, none⟩)] w (BehindPost w base v b r) := by
  have HO := Lib.hid hown
  have HR := Lib.hid hr
  obtain ⟨ra, rc, rfl, -⟩ := hr
  obtain ⟨va, vc, rfl⟩ := ownsRow_slice hown
  clear hown
  generalize hrl : r.length = R at *
  have HRL := Lib.hid hrl
  clear hrl
  go_enter Tryz.func94, Tryz.ntmps94
  go_wp2_with (at_builtin; refine wpList_append_rd rfl _ _ 57 rfl base 5 Tryz.underlying57 info_u8 _ b.length _ rfl HO.out _ r rfl HR.out ?c1 ?c2 ?_)
  case c1 => have := HRL.out; omega
  case c2 => exact hb
  intro v' w1 ho1 hg1 hw1
  have HO1 := Lib.hid ho1
  have HG1 := Lib.hid hg1
  have HW1 := Lib.hid hw1
  clear ho1 hg1 hw1
  go_wp2
  go_ret
  refine ⟨v', rfl, ?_, HG1.out, HW1.out⟩
  rw [List.map_append]
  exact HO1.out

/-- What is left where a page is written, or is not. -/
def LaidPost (S : Nat → Prop) (n pb db : Nat) (w : World) (o : Owner) (d : Dsk) (L L' : Logic) (e : Ending) (w' : World) : Prop :=
  ∃ c d' o', e = .returned (.int .i64 ((c : Nat) : Int)) ∧ Moved S n pb db w o d w' o' d' (if c = 0 then L' else L) ∧ (c = 0 ∨ Err d d' L c)

set_option maxRecDepth 100000 in
set_option maxHeartbeats 4000000 in
theorem turnAdd_any (HW : WriteSaid) (h : PoolAt w pb db n o d L) (hst : StreamAt w sb pb name sz) (ho : o sb = none) {ps : List Pg} {fl : Bool} (hL : mget L name = some (.inl (ps, fl))) {k : Nat} (hk : k ≤ ps.length) (hk' : k < 65536)
    {base bx : Nat} {v rv : Value} {b r : List UInt8} (hc : w.cell? ⟨bx, 0, none⟩ = some rv) (hr : Rd w rv r) (hown : w.ownsRow base 5 1 v b.length (b.map bv)) (hvo : ∀ x, v.ownBlock = some x → o x = none ∧ x ≠ sb) (hb : base ≤ w.heap.size) (hl : b.length + r.length ≤ 240) :
    Calls Tryz.prog 95 #[ptrTo sb, .int .i64 (k : Int), v, .func (.func 94) #[] #[.pointer (some ⟨bx, 0, none⟩)]] w (LaidPost (fun x => v.ownBlock = some x) n pb db w o d L (mput L name (.inl (setPage ps k (b ++ r), false)))) := by
  have H := Lib.hid h
  have HVO := Lib.hid hvo
  have HHR := Lib.hid hr
  have HOWN := Lib.hid hown
  have hc' := Lib.hid hc
  obtain ⟨hc0, hc1, -⟩ := hst.cells
  unfold ptrTo at hc0
  have hwr : Hid (∀ W o' , PoolAt W pb db n o' d L → ∀ v', W.ownsRow base 5 1 v' (b.length + r.length) ((b ++ r).map bv) → (∀ x, v'.ownBlock = some x → o' x = none) → Calls Tryz.prog 125 #[.pointer (some ⟨pb, 0, none⟩), .string name, .int .i64 (k : Int), v'] W (WritePagePost W pb db n o' d L (mput L name (.inl (setPage ps k (b ++ r), false))))) :=
    Lib.hid (fun W o' hW v' hv hvo => poolWrite_any HW hW hL hk hk' (Rd_own (by rw [List.length_append]; exact hv)) (by rw [List.length_append]; exact hl) hvo)
  have HST := Lib.hid hst
  clear h hvo hr hown hc hst hL hk
  have hbeh : Hid (∀ n', Calls Tryz.prog 94 #[v, .pointer (some ⟨bx, 0, none⟩)] (w.drewN n') (BehindPost (w.drewN n') base v b r)) := Lib.hid (fun n' => behind_any (w := w.drewN n') hc'.out (HHR.out.drewN n') HOWN.out hb (by omega))
  clear hl
  have hkeep : Hid (∀ w1 v1, (w.drewN 1).grownBy w1 v.ownBlock → (v1 : Value).ownBlock = v.ownBlock ∨ v1.ownBlock = some (w.drewN 1).heap.size → (w1.cell? ⟨sb, 0, none⟩ = some (.pointer (some ⟨pb, 0, none⟩)) ∧ w1.cell? ⟨sb, 1, none⟩ = some (.string name)) ∧ Moved (fun x => v.ownBlock = some x) n pb db w o d w1 o d L ∧ ∀ x, v1.ownBlock = some x → o x = none) := Lib.hid (fun w1 v1 hg hv1 => by
    have hm : Moved (fun x => v.ownBlock = some x) n pb db w o d w1 o d L := ((Moved.refl _ H.out).drewN 1).grown hg (fun k hk => ⟨(HVO.out k hk).1, .inl hk⟩)
    have hs1 : StreamAt w1 sb pb name sz := HST.out.moved hm ho (fun e => (HVO.out sb e).2 rfl)
    refine ⟨⟨hs1.cells.1, hs1.cells.2.1⟩, hm, fun x hx => ?_⟩
    rcases hv1 with e | e
    · rw [e] at hx; exact (HVO.out x hx).1
    · rw [e] at hx; cases hx; exact H.out.fresh (Nat.le_refl _))
  have hkeep2 : Hid (∀ w1 w2 d2 o2 L2, Moved (fun x => v.ownBlock = some x) n pb db w o d w1 o d L → PoolAt w2 pb db n o2 d2 L2 → Turn (o.In ofPool) w1 w2 → OGrow w1.heap.size o o2 → Onward d d2 → (w2.cell? ⟨sb, 0, none⟩ = some (.pointer (some ⟨pb, 0, none⟩)) ∧ w2.cell? ⟨sb, 1, none⟩ = some (.string name)) ∧ Moved (fun x => v.ownBlock = some x) n pb db w o d w2 o2 d2 L2) := Lib.hid (fun w1 w2 d2 o2 L2 hm hp ht hg hon => by
    have hm2 : Moved (fun x => v.ownBlock = some x) n pb db w o d w2 o2 d2 L2 := hm.trans (moved_of (S := fun _ => False) hp ht hg hon) (fun _ _ h => h.elim)
    have hs2 : StreamAt w2 sb pb name sz := HST.out.moved hm2 ho (fun e => (HVO.out sb e).2 rfl)
    exact ⟨⟨hs2.cells.1, hs2.cells.2.1⟩, hm2⟩)
  unfold ptrTo
  go_enter Tryz.func95, Tryz.ntmps95
  go_wp2
  go_region_held3 (fun w' => w'.cell? ⟨sb, 0, none⟩ = some (.pointer (some ⟨pb, 0, none⟩)) ∧ w'.cell? ⟨sb, 1, none⟩ = some (.string name)) (first | exact ⟨hc0, hc1⟩ | exact q1 | exact q2)
    (first
      | (go_at_call 94; refine (hbeh.out 1).mono ?_; rintro e w1 ⟨v1, rfl, ho1, hg1, hw1⟩; obtain ⟨q1, hm1, hf1⟩ := hkeep.out w1 v1 hg1 hw1)
      | (go_at_call 125; refine (hwr.out w1 o hm1.pool v1 ho1 hf1).mono ?_; rintro e w2 ⟨c2, d2, o2, rfl, hp2, ht2, hg2, hon2, he2⟩; obtain ⟨q2, hm2⟩ := hkeep2.out w1 w2 d2 o2 _ hm1 hp2 ht2 hg2 hon2))
  have HM2 := Lib.hid hm2
  have HE2 := Lib.hid he2
  clear hm2 he2 hp2 ht2 hg2 hon2 hm1 hg1 ho1 q1 q2
  go_wp2
  go_ret
  exact ⟨c2, d2, o2, rfl, HM2.out, HE2.out⟩

theorem pagesOf_add {rs : List Rec} {r : Rec} (hs : Sized sz rs) (h1 : 1 ≤ sz) (h2 : sz ≤ 240) :
    (rs = [] → pagesOf (per sz) (rs ++ [r]) = setPage (pagesOf (per sz) rs) 0 ([] ++ r) ∧ (pagesOf (per sz) rs).length = 0) ∧
    ∀ q m b, (pagesOf (per sz) rs).length = q + 1 → (pagesOf (per sz) rs)[q]? = some b → b.length = sz * m → 1 ≤ m → m ≤ per sz → q * per sz + m = rs.length → b = (rs.drop (per sz * q)).flatten →
      (sz * m + sz ≤ 240 → pagesOf (per sz) (rs ++ [r]) = setPage (pagesOf (per sz) rs) q (b ++ r)) ∧ (¬ sz * m + sz ≤ 240 → pagesOf (per sz) (rs ++ [r]) = setPage (pagesOf (per sz) rs) (q + 1) ([] ++ r)) := by
  have hp := per_pos h1 h2
  have hpm := per_mul sz
  have hpn := per_next h1
  refine ⟨fun e => ?_, fun q m b g1 g2 g3 g4 g5 g6 g7 => ⟨fun hr => ?_, fun hr => ?_⟩⟩
  · subst e
    have := pagesOf_new (rs := []) hp r (k := 0) (by simp)
    exact ⟨this.1, this.2⟩
  · have hm : m < per sz := by
      rcases Nat.lt_or_ge m (per sz) with h | h
      · exact h
      · have : m = per sz := by omega
        subst this
        rw [Nat.mul_succ] at hpn
        omega
    rw [pagesOf_open hp r (k := q) (by rw [Nat.mul_comm]; omega) (by rw [Nat.mul_comm]; omega), g7, List.take_of_length_le (by rw [List.length_drop, Nat.mul_comm]; omega)]
  · have hm : m = per sz := by
      rcases Nat.lt_or_ge m (per sz) with h | h
      · have := Nat.mul_le_mul_left sz (show m + 1 ≤ per sz from h)
        rw [Nat.mul_succ] at this
        omega
      · omega
    have := pagesOf_new (rs := rs) hp r (k := q + 1) (by rw [Nat.mul_succ, Nat.mul_comm]; omega)
    exact this.1

set_option maxRecDepth 100000 in
set_option maxHeartbeats 4000000 in
theorem streamAdd_any (HW : WriteSaid) (h : PoolAt w pb db n o d L) (hst : StreamAt w sb pb name sz) (ho : o sb = none) (h1 : 1 ≤ sz) (h2 : sz ≤ 240) {rs : List Rec} {fl : Bool} (hL : mget L name = some (.inl (pagesOf (per sz) rs, fl))) (hs : Sized sz rs) (hN : rs.length < 65535)
    {rv : Value} {r : Rec} (hr : Rd w rv r) (hrl : r.length = sz) (hro : ∀ x, rv.ownBlock = some x → o x = none) :
    Calls Tryz.prog 60 #[ptrTo sb, rv] w (LaidPost (fun _ => False) n pb db w o d L (mput L name (.inl (pagesOf (per sz) (rs ++ [r]), false)))) := by
  obtain ⟨hmost, hshort⟩ := h.paged hL
  have hcall : Hid (∀ W, Below w.heap.size w W → Calls Tryz.prog 34 #[ptrTo pb, .string name] W fun e w' => e = .returned (.tuple #[.int .i64 ((pagesAns d (pagesOf (per sz) rs)).1 : Int), .int .i64 ((pagesAns d (pagesOf (per sz) rs)).2 : Int)]) ∧ Below W.heap.size W w') := Lib.hid (fun W hW => poolPages_sound (h.below hW) hL)
  have hread : Hid (∀ W, Below w.heap.size w W → ∀ (k : Nat) (b : Pg), (pagesOf (per sz) rs)[k]? = some b → Calls Tryz.prog 35 #[ptrTo pb, .string name, .int .i64 (k : Int)] W (ReadPagePost W pb db n o d L b)) := Lib.hid (fun W hW k b hk => poolRead_any HW (h.below hW) hL hk)
  have hturn : Hid (∀ W o' d', PoolAt W pb db n o' d' L → StreamAt W sb pb name sz → o' sb = none → ∀ bx, W.cell? ⟨bx, 0, none⟩ = some rv → Rd W rv r → ∀ (k base : Nat) (v : Value) (b : Pg), k ≤ (pagesOf (per sz) rs).length → k < 65536 → W.ownsRow base 5 1 v b.length (b.map bv) → (∀ x, v.ownBlock = some x → o' x = none ∧ x ≠ sb) → base ≤ W.heap.size → b.length + r.length ≤ 240 →
      Calls Tryz.prog 95 #[ptrTo sb, .int .i64 (k : Int), v, .func (.func 94) #[] #[.pointer (some ⟨bx, 0, none⟩)]] W (LaidPost (fun x => v.ownBlock = some x) n pb db W o' d' L (mput L name (.inl (setPage (pagesOf (per sz) rs) k (b ++ r), false))))) :=
    Lib.hid (fun W o' d' hW hst' ho' bx hc hr' k base v b h1 h2 h3 h4 h5 h6 => turnAdd_any HW hW hst' ho' hL h1 h2 hc hr' h3 h4 h5 h6)
  have HADD := Lib.hid (pagesOf_add (r := r) hs h1 h2)
  have H := Lib.hid h
  have HST := Lib.hid hst
  have HO := Lib.hid ho
  have HRO := Lib.hid hro
  have HRR := Lib.hid hr
  have hsl := hst.lt
  obtain ⟨-, -, hc2⟩ := hst.cells
  obtain ⟨ra, rc, rfl, -⟩ := hr
  have hfacts := Lib.hid (fun hN => last_facts (rs := rs) hs h1 h2 hN)
  have hpp := per_mul sz
  rw [hrl] at *
  have hPN : (pagesOf (per sz) rs).length ≤ rs.length := by
    rcases Nat.eq_zero_or_pos rs.length with hz | hp
    · have := List.eq_nil_of_length_eq_zero hz
      rw [((HADD.out.1 this).2), hz]
      exact Nat.le_refl _
    · obtain ⟨q, m, b, f1, f2, f3, f4, f5, f6, f7⟩ := hfacts.out hp
      have h3 := per_pos h1 h2
      have h4 : q ≤ q * per sz := Nat.le_mul_of_pos_right q h3
      omega
  clear h hst ho hro hL hs hshort
  unfold ptrTo at *
  have HBW : Hid (Below w.heap.size w (w.alloc (.cells #[.slice ra sz rc] 57))) := Lib.hid ((Below.refl _ _).alloc (Nat.le_refl _) _)
  have HBX : Hid ((w.alloc (.cells #[.slice ra sz rc] 57)).cell? ⟨w.heap.size, 0, none⟩ = some (.slice ra sz rc)) := Lib.hid (by simp)
  have hxl : w.heap.size < (w.alloc (.cells #[.slice ra sz rc] 57)).heap.size := by simp
  unfold pagesAns at hcall
  cases hd : d.dead with
  | true =>
    rw [hd, if_pos rfl] at hcall
    have HD := Lib.hid hd
    clear hd
    dsimp only at hcall
    go_enter Tryz.func60, Tryz.ntmps60
    go_wp2
    go_quiet (fail)
    go_wp2
    have HB1 : Hid (Below w.heap.size w ((w.alloc (.cells #[.slice ra sz rc] 57)).drewN nq)) := Lib.hid (below_drewN HBW.out _)
    generalize (w.alloc (.cells #[.slice ra sz rc] 57)).drewN nq = w1 at *
    refine wp_region_quiet_in (Below w1.heap.size w1) (by kernel_rfl) (by kernel_rfl) ((Below.refl _ _).drew) ?_
    iterate 3 (refine q_op rfl (fun w' hw' => (by go_simp <;> rfl)) (fun K hK => ?_); go_simp; refine hK _ ?_; clear hK K)
    refine q_op rfl (fun w' hw' => (by have hc := ((HST.out.below HB1.out).below hw').cells.1; unfold ptrTo at hc; go_simp <;> rfl)) (fun K hK => ?_); go_simp; refine hK _ ?_; clear hK K
    iterate 3 (refine q_op rfl (fun w' hw' => (by go_simp <;> rfl)) (fun K hK => ?_); go_simp; refine hK _ ?_; clear hK K)
    refine q_op rfl (fun w' hw' => (by have hc := ((HST.out.below HB1.out).below hw').cells.2.1; go_simp <;> rfl)) (fun K hK => ?_); go_simp; refine hK _ ?_; clear hK K
    refine q_call rfl (fun w' hw' => (by go_simp <;> rfl)) (fun w' hw' => ((hcall.out w' (HB1.out.trans (hw'.mono HB1.out.size))).mono (fun e w'' h => ⟨h.1, hw'.trans (h.2.mono hw'.size)⟩))) (fun K hK => ?_); go_simp; refine hK _ ?_; clear hK K
    iterate 5 (refine q_op rfl (fun w' hw' => (by go_simp <;> rfl)) (fun K hK => ?_); go_simp; refine hK _ ?_; clear hK K)
    refine wpQuiet_nil ?_
    intro w2 hw2
    have HB2 : Hid (Below w.heap.size w w2) := Lib.hid (HB1.out.trans (hw2.mono HB1.out.size))
    clear hw2
    go_wp2
    go_ret
    exact ⟨6, d, o, rfl, Moved.ofBelow H.out HB2.out, .inr (.inr ⟨rfl, HD.out⟩)⟩
  | false =>
    rw [hd, if_neg (by simp)] at hcall
    clear hd
    dsimp only at hcall
    rcases Nat.eq_zero_or_pos rs.length with hz | hNp
    · have hnil := List.eq_nil_of_length_eq_zero hz
      obtain ⟨ha1, ha2⟩ := HADD.out.1 hnil
      rw [ha2] at hcall
      have HA1 := Lib.hid ha1
      have HA2 := Lib.hid ha2
      clear hz hnil ha1 ha2
      go_enter Tryz.func60, Tryz.ntmps60
      go_wp2
      go_quiet (fail)
      go_wp2
      have HB1 : Hid (Below w.heap.size w ((w.alloc (.cells #[.slice ra sz rc] 57)).drewN nq)) := Lib.hid (below_drewN HBW.out _)
      have HBX1 : Hid (((w.alloc (.cells #[.slice ra sz rc] 57)).drewN nq).cell? ⟨w.heap.size, 0, none⟩ = some (.slice ra sz rc)) := Lib.hid HBX.out
      have hxl1 : w.heap.size < ((w.alloc (.cells #[.slice ra sz rc] 57)).drewN nq).heap.size := hxl
      generalize (w.alloc (.cells #[.slice ra sz rc] 57)).drewN nq = w1 at *
      refine wp_region_quiet_in (Below w1.heap.size w1) (by kernel_rfl) (by kernel_rfl) ((Below.refl _ _).drew) ?_
      iterate 3 (refine q_op rfl (fun w' hw' => (by go_simp <;> rfl)) (fun K hK => ?_); go_simp; refine hK _ ?_; clear hK K)
      refine q_op rfl (fun w' hw' => (by have hc := ((HST.out.below HB1.out).below hw').cells.1; unfold ptrTo at hc; go_simp <;> rfl)) (fun K hK => ?_); go_simp; refine hK _ ?_; clear hK K
      iterate 3 (refine q_op rfl (fun w' hw' => (by go_simp <;> rfl)) (fun K hK => ?_); go_simp; refine hK _ ?_; clear hK K)
      refine q_op rfl (fun w' hw' => (by have hc := ((HST.out.below HB1.out).below hw').cells.2.1; go_simp <;> rfl)) (fun K hK => ?_); go_simp; refine hK _ ?_; clear hK K
      refine q_call rfl (fun w' hw' => (by go_simp <;> rfl)) (fun w' hw' => ((hcall.out w' (HB1.out.trans (hw'.mono HB1.out.size))).mono (fun e w'' h => ⟨h.1, hw'.trans (h.2.mono hw'.size)⟩))) (fun K hK => ?_); go_simp; refine hK _ ?_; clear hK K
      iterate 5 (refine q_op rfl (fun w' hw' => (by go_simp <;> rfl)) (fun K hK => ?_); go_simp; refine hK _ ?_; clear hK K)
      refine wpQuiet_nil ?_
      intro w2 hw2
      have HB2 : Hid (Below w.heap.size w w2) := Lib.hid (HB1.out.trans (hw2.mono HB1.out.size))
      have HBX2 : Hid (w2.cell? ⟨w.heap.size, 0, none⟩ = some (.slice ra sz rc)) := Lib.hid (by rw [hw2.cell (p := ⟨w.heap.size, 0, none⟩) hxl1]; exact HBX1.out)
      clear hw2
      go_wp2_with fail
      refine (hturn.out w2 o d (H.out.below HB2.out) (HST.out.below HB2.out) HO.out w.heap.size HBX2.out (HRR.out.below HB2.out) 0 0 (.slice none 0 0) [] (Nat.zero_le _) (by decide) (ownsRow_nil _ _ _) (fun x hx => by cases hx) (Nat.zero_le _) (by simp; omega)).mono ?_
      rintro e w3 ⟨c3, d3, o3, rfl, hm3, he3⟩
      rw [← HA1.out] at hm3
      have HM3 := Lib.hid ((Moved.ofBelow (S := fun _ => False) H.out HB2.out).trans hm3 (fun x _ e => by cases e))
      have HE3 := Lib.hid he3
      clear hm3 he3
      go_wp2
      go_ret
      exact ⟨c3, d3, o3, rfl, HM3.out, HE3.out⟩
    · obtain ⟨q, m, b, f1, f2, f3, f4, f5, f6, f7⟩ := hfacts.out hNp
      have hread' : Hid (∀ W, Below w.heap.size w W → Calls Tryz.prog 35 #[.pointer (some ⟨pb, 0, none⟩), .string name, .int .i64 (q : Int)] W (ReadPagePost W pb db n o d L b)) := Lib.hid (fun W hW => hread.out W hW q b f2)
      have HPUT := Lib.hid (HADD.out.2 q m b f1 f2 f3 f4 f5 f6 f7)
      have hq : q < 65535 := by omega
      have hm : sz * m ≤ 240 := Nat.le_trans (Nat.mul_le_mul_left sz f5) hpp
      have HF1 := Lib.hid f1
      have hwq : IntKind.i64.wrap (((q + 1 : Nat) : Int) - 1) = (q : Int) := by rw [wrap_in (by omega) (by omega)]; omega
      have hwq' := Lib.hid hwq
      rw [f1] at hcall
      obtain ⟨P, hP⟩ : ∃ P, P = q + 1 := ⟨_, rfl⟩
      rw [← hP] at hcall hwq'
      have HP := Lib.hid hP
      have hPb : P ≤ 65535 := by omega
      have hP0 : (P : Int) > 0 := by omega
      have hBb : b.length ≤ 240 := by omega
      have HBL := Lib.hid f3
      clear f1 f2 f3 f4 f6 f7 hwq hP hread
      go_enter Tryz.func60, Tryz.ntmps60
      go_wp2
      go_quiet (fail)
      go_wp2
      have HB1 : Hid (Below w.heap.size w ((w.alloc (.cells #[.slice ra sz rc] 57)).drewN nq)) := Lib.hid (below_drewN HBW.out _)
      have HBX1 : Hid (((w.alloc (.cells #[.slice ra sz rc] 57)).drewN nq).cell? ⟨w.heap.size, 0, none⟩ = some (.slice ra sz rc)) := Lib.hid HBX.out
      have hxl1 : w.heap.size < ((w.alloc (.cells #[.slice ra sz rc] 57)).drewN nq).heap.size := hxl
      generalize (w.alloc (.cells #[.slice ra sz rc] 57)).drewN nq = w1 at *
      refine wp_region_quiet_in (Below w1.heap.size w1) (by kernel_rfl) (by kernel_rfl) ((Below.refl _ _).drew) ?_
      iterate 3 (refine q_op rfl (fun w' hw' => (by go_simp <;> rfl)) (fun K hK => ?_); go_simp; refine hK _ ?_; clear hK K)
      refine q_op rfl (fun w' hw' => (by have hc := ((HST.out.below HB1.out).below hw').cells.1; unfold ptrTo at hc; go_simp <;> rfl)) (fun K hK => ?_); go_simp; refine hK _ ?_; clear hK K
      iterate 3 (refine q_op rfl (fun w' hw' => (by go_simp <;> rfl)) (fun K hK => ?_); go_simp; refine hK _ ?_; clear hK K)
      refine q_op rfl (fun w' hw' => (by have hc := ((HST.out.below HB1.out).below hw').cells.2.1; go_simp <;> rfl)) (fun K hK => ?_); go_simp; refine hK _ ?_; clear hK K
      refine q_call rfl (fun w' hw' => (by go_simp <;> rfl)) (fun w' hw' => ((hcall.out w' (HB1.out.trans (hw'.mono HB1.out.size))).mono (fun e w'' h => ⟨h.1, hw'.trans (h.2.mono hw'.size)⟩))) (fun K hK => ?_); go_simp; refine hK _ ?_; clear hK K
      iterate 5 (refine q_op rfl (fun w' hw' => (by go_simp <;> rfl)) (fun K hK => ?_); go_simp; refine hK _ ?_; clear hK K)
      refine wpQuiet_nil ?_
      intro w2 hw2
      have HB2 : Hid (Below w.heap.size w w2) := Lib.hid (HB1.out.trans (hw2.mono HB1.out.size))
      have HBX2 : Hid (w2.cell? ⟨w.heap.size, 0, none⟩ = some (.slice ra sz rc)) := Lib.hid (by rw [hw2.cell (p := ⟨w.heap.size, 0, none⟩) hxl1]; exact HBX1.out)
      have HST2 := Lib.hid (HST.out.below HB2.out)
      have hxl2 : w.heap.size < w2.heap.size := Nat.lt_of_lt_of_le hxl1 hw2.size
      clear hw2 hxl hxl1
      go_wp2
      refine wp_region_mid (Below w2.heap.size w2) 10 rfl (by kernel_rfl) (by kernel_rfl) ((Below.refl _ _).drew) ?_; simp only [List.take_succ_cons, List.take_zero]
      iterate 3 (refine q_op rfl (fun w' hw' => (by go_simp <;> rfl)) (fun K hK => ?_); go_simp; refine hK _ ?_; clear hK K)
      refine q_op rfl (fun w' hw' => (by have hc := (HST2.out.below hw').cells.1; unfold ptrTo at hc; go_simp <;> rfl)) (fun K hK => ?_); go_simp; refine hK _ ?_; clear hK K
      iterate 3 (refine q_op rfl (fun w' hw' => (by go_simp <;> rfl)) (fun K hK => ?_); go_simp; refine hK _ ?_; clear hK K)
      refine q_op rfl (fun w' hw' => (by have hc := (HST2.out.below hw').cells.2.1; go_simp <;> rfl)) (fun K hK => ?_); go_simp; refine hK _ ?_; clear hK K
      refine q_op rfl (fun w' hw' => (by go_simp <;> rfl)) (fun K hK => ?_); go_simp; refine hK _ ?_; clear hK K
      refine q_op rfl (fun w' hw' => (by have hx := hwq'.out; go_simp <;> rfl)) (fun K hK => ?_); go_simp; refine hK _ ?_; clear hK K
      refine wpQuiet_nil ?_; intro w3 hw3; refine ⟨_, _, rfl, (by go_simp <;> exact ⟨rfl, rfl⟩), ?_⟩
      have HB3 : Hid (Below w.heap.size w w3) := Lib.hid (HB2.out.trans (hw3.mono HB2.out.size))
      have HBX3 : Hid (w3.cell? ⟨w.heap.size, 0, none⟩ = some (.slice ra sz rc)) := Lib.hid (by rw [hw3.cell (p := ⟨w.heap.size, 0, none⟩) hxl2]; exact HBX2.out)
      refine (hread'.out w3 HB3.out).mono ?_
      rintro e w4 ⟨v4, c4, d4, o4, rfl, hp4, ht4, hg4, hon4, he4, hok4, hbad4⟩
      have hm34 : Moved (fun _ => False) n pb db w3 o d w4 o4 d4 L := moved_of (S := fun _ => False) hp4 ht4 hg4 hon4
      have HM4 : Hid (Moved (fun _ => False) n pb db w o d w4 o4 d4 L) := Lib.hid ((Moved.ofBelow H.out HB3.out).trans hm34 (fun _ _ h => h))
      have HE4 := Lib.hid he4
      have HST4 := Lib.hid (HST.out.moved HM4.out HO.out (fun h => h))
      have HO4 : Hid (o4 sb = none) := Lib.hid (HM4.out.free hsl HO.out)
      have HBX4 : Hid (w4.cell? ⟨w.heap.size, 0, none⟩ = some (.slice ra sz rc)) := Lib.hid (hm34.cell HBX3.out (H.out.fresh (Nat.le_refl _)) (fun h => h))
      have HR4 : Hid (Rd w4 (.slice ra sz rc) r) := Lib.hid (HM4.out.rd HRR.out (fun x hx => ⟨HRO.out x hx, fun h => h⟩))
      have hs4 : w.heap.size ≤ w3.heap.size := HB3.out.size
      clear hw3 hp4 ht4 hg4 hon4 he4 hm34
      by_cases hc4 : c4 = 0
      · subst hc4
        obtain ⟨ho4, hf4⟩ := hok4 rfl
        obtain ⟨a4, k4, rfl⟩ := ownsRow_slice ho4
        have HO4' := Lib.hid (ownsRow_base ho4 hs4)
        have HV4 : Hid (∀ x, (Value.slice a4 b.length k4).ownBlock = some x → o4 x = none ∧ x ≠ sb) := Lib.hid (fun x hx => ⟨hf4 x hx, fun e => by have := ownsRow_block ho4 x hx; omega⟩)
        have HV4' : Hid (∀ x, (Value.slice a4 b.length k4).ownBlock = some x → w.heap.size ≤ x) := Lib.hid (fun x hx => by have := ownsRow_block ho4 x hx; omega)
        have hs5 : w.heap.size ≤ w4.heap.size := HM4.out.size
        clear hok4 hbad4 ho4 hf4
        refine ⟨_, rfl, ?_⟩; go_simp
        iterate 5 (refine q_op rfl (fun w' hw' => (by go_simp <;> rfl)) (fun K hK => ?_); go_simp; refine hK _ ?_; clear hK K)
        refine wpQuiet_nil ?_
        have hc5 := HST4.out.cells.2.2
        have hwqq := hwq'.out
        by_cases hroom : b.length + sz ≤ 240
        · have hroom' : (b.length : Int) + (sz : Int) ≤ 240 := by omega
          have hL' := HPUT.out.1 (by have := HBL.out; omega)
          have HL' := Lib.hid hL'
          clear hL'
          go_wp2_with fail
          refine (hturn.out w4 o4 d4 HM4.out.pool HST4.out HO4.out w.heap.size HBX4.out HR4.out q w.heap.size _ b (by have := HF1.out; omega) (by omega) HO4'.out HV4.out hs5 hroom).mono ?_
          rintro e w5 ⟨c5, d5, o5, rfl, hm5, he5⟩
          rw [← HL'.out] at hm5
          have HM5 := Lib.hid (HM4.out.trans hm5 (fun x hx e => by have := HV4'.out x e; omega))
          have HE5 := Lib.hid (he5.imp id (Err.later HM4.out.on.quota))
          clear hm5 he5
          go_wp2
          go_ret
          exact ⟨c5, d5, o5, rfl, HM5.out, HE5.out⟩
        · have hroom' : ¬ (b.length : Int) + (sz : Int) ≤ 240 := by omega
          have hL' := HPUT.out.2 (by have := HBL.out; omega)
          have HL' := Lib.hid hL'
          clear hL'
          go_wp2_with fail
          refine (hturn.out w4 o4 d4 HM4.out.pool HST4.out HO4.out w.heap.size HBX4.out HR4.out P 0 (.slice none 0 0) [] (by have := HF1.out; have := HP.out; omega) (by omega) (ownsRow_nil _ _ _) (fun x hx => by cases hx) (Nat.zero_le _) (by simp; omega)).mono ?_
          rintro e w5 ⟨c5, d5, o5, rfl, hm5, he5⟩
          rw [HP.out, ← HL'.out] at hm5
          have HM5 := Lib.hid (HM4.out.trans hm5 (fun x hx e => by cases e))
          have HE5 := Lib.hid (he5.imp id (Err.later HM4.out.on.quota))
          clear hm5 he5
          go_wp2
          go_ret
          exact ⟨c5, d5, o5, rfl, HM5.out, HE5.out⟩
      · obtain rfl := hbad4 hc4
        have hc4' : ¬ (c4 : Int) = 0 := by omega
        have HC4 := Lib.hid hc4
        clear hc4 hok4 hbad4
        refine ⟨_, rfl, ?_⟩; go_simp
        iterate 5 (refine q_op rfl (fun w' hw' => (by go_simp <;> rfl)) (fun K hK => ?_); go_simp; refine hK _ ?_; clear hK K)
        refine wpQuiet_nil ?_
        go_wp2
        go_ret
        exact ⟨c4, d4, o4, rfl, by rw [if_neg HC4.out]; exact HM4.out, HE4.out⟩
end

end Go.Proofs.YtolieljpnafbhaaGreatDoor
/-
  Edges and vertices as values and as bytes; the order of edges, as a number.
-/
namespace Go.Proofs.YtolieljpnafbhaaGreatDoor
open Go.RowKit

abbrev Edg.cells (e : Edg) : List Value := [.int .u32 (e.t.toNat : Int), .int .u32 (e.h.toNat : Int), .int .u64 (e.x.toNat : Int), .int .u32 (e.m.toNat : Int)]
def Edg.val (e : Edg) : Value := .agg #[.int .u32 (e.t.toNat : Int), .int .u32 (e.h.toNat : Int), .int .u64 (e.x.toNat : Int), .int .u32 (e.m.toNat : Int)]
def Edg.bytes (e : Edg) : Rec := edgeBytes e.t.toNat e.h.toNat e.x.toNat e.m.toNat

theorem Edg.bytes_length (e : Edg) : e.bytes.length = 20 := by simp [Edg.bytes, edgeBytes, le_length]

theorem Edg.bytes_read (e : Edg) : unle (e.bytes.take 4) = e.t.toNat ∧ unle ((e.bytes.drop 4).take 4) = e.h.toNat ∧ unle ((e.bytes.drop 8).take 8) = e.x.toNat ∧ unle ((e.bytes.drop 16).take 4) = e.m.toNat := by
  have h1 := e.t.toNat_lt
  have h2 := e.h.toNat_lt
  have h3 := e.x.toNat_lt
  have h4 := e.m.toNat_lt
  have l4 : ∀ x, (le x 4).length = 4 := fun x => le_length x 4
  have l8 : ∀ x, (le x 8).length = 8 := fun x => le_length x 8
  have e1 : e.bytes = le e.t.toNat 4 ++ (le e.h.toNat 4 ++ (le e.x.toNat 8 ++ le e.m.toNat 4)) := by simp [Edg.bytes, edgeBytes]
  have e2 : e.bytes.drop 4 = le e.h.toNat 4 ++ (le e.x.toNat 8 ++ le e.m.toNat 4) := by rw [e1]; exact drop_app _ _ _ (l4 _)
  have e3 : e.bytes.drop 8 = le e.x.toNat 8 ++ le e.m.toNat 4 := by rw [show 8 = 4 + 4 from rfl, ← List.drop_drop, e2]; exact drop_app _ _ _ (l4 _)
  have e4 : e.bytes.drop 16 = le e.m.toNat 4 := by rw [show 16 = 8 + 8 from rfl, ← List.drop_drop, e3]; exact drop_app _ _ _ (l8 _)
  refine ⟨?_, ?_, ?_, ?_⟩
  · rw [e1, take_app _ _ _ (l4 _), unle_le]; exact Nat.mod_eq_of_lt h1
  · rw [e2, take_app _ _ _ (l4 _), unle_le]; exact Nat.mod_eq_of_lt h2
  · rw [e3, take_app _ _ _ (l8 _), unle_le]; exact Nat.mod_eq_of_lt h3
  · rw [e4, List.take_of_length_le (by rw [l4]; omega), unle_le]; exact Nat.mod_eq_of_lt h4

theorem readEdg_any (v : Value) (e : Edg) (w : World) (hv : Rd w v e.bytes) :
    Calls Tryz.prog 32 #[v] w (Gives (.tuple #[.agg #[.int .u32 (e.t.toNat : Int), .int .u32 (e.h.toNat : Int), .int .u64 (e.x.toNat : Int), .int .u32 (e.m.toNat : Int)], .int .i64 0]) w) := by
  have h := readEdge_any v e.bytes w e.bytes_length hv
  obtain ⟨h1, h2, h3, h4⟩ := e.bytes_read
  rw [h1, h2, h3, h4] at h
  exact h

theorem edgBytes_any (e : Edg) (w : World) : Calls Tryz.prog 177 #[.agg #[.int .u32 (e.t.toNat : Int), .int .u32 (e.h.toNat : Int), .int .u64 (e.x.toNat : Int), .int .u32 (e.m.toNat : Int)]] w (NewBytes w e.bytes) := edge_any _ _ _ _ w

/-! ### what is kept of a vertex -/
structure Vrt where
  r : UInt32
  l : UInt32
  g : UInt32

def Vrt.bytes (v : Vrt) : Rec := vertBytes v.r.toNat v.l.toNat v.g.toNat
theorem Vrt.bytes_length (v : Vrt) : v.bytes.length = 12 := by simp [Vrt.bytes, vertBytes, le_length]

theorem Vrt.bytes_read (v : Vrt) : unle (v.bytes.take 4) = v.r.toNat ∧ unle ((v.bytes.drop 4).take 4) = v.l.toNat ∧ unle ((v.bytes.drop 8).take 4) = v.g.toNat := by
  have h1 := v.r.toNat_lt
  have h2 := v.l.toNat_lt
  have h3 := v.g.toNat_lt
  have l4 : ∀ x, (le x 4).length = 4 := fun x => le_length x 4
  have e1 : v.bytes = le v.r.toNat 4 ++ (le v.l.toNat 4 ++ le v.g.toNat 4) := by simp [Vrt.bytes, vertBytes]
  have e2 : v.bytes.drop 4 = le v.l.toNat 4 ++ le v.g.toNat 4 := by rw [e1]; exact drop_app _ _ _ (l4 _)
  have e3 : v.bytes.drop 8 = le v.g.toNat 4 := by rw [show 8 = 4 + 4 from rfl, ← List.drop_drop, e2]; exact drop_app _ _ _ (l4 _)
  refine ⟨?_, ?_, ?_⟩
  · rw [e1, take_app _ _ _ (l4 _), unle_le]; exact Nat.mod_eq_of_lt h1
  · rw [e2, take_app _ _ _ (l4 _), unle_le]; exact Nat.mod_eq_of_lt h2
  · rw [e3, List.take_of_length_le (by rw [l4]; omega), unle_le]; exact Nat.mod_eq_of_lt h3

theorem readVrt_any (v : Value) (x : Vrt) (w : World) (hv : Rd w v x.bytes) :
    Calls Tryz.prog 65 #[v] w (Gives (.tuple #[.agg #[.int .u32 (x.r.toNat : Int), .int .u32 (x.l.toNat : Int), .int .u32 (x.g.toNat : Int)], .int .i64 0]) w) := by
  have h := readVert_any v x.bytes w x.bytes_length hv
  obtain ⟨h1, h2, h3⟩ := x.bytes_read
  rw [h1, h2, h3] at h
  exact h

theorem vrtBytes_any (x : Vrt) (w : World) : Calls Tryz.prog 63 #[.agg #[.int .u32 (x.r.toNat : Int), .int .u32 (x.l.toNat : Int), .int .u32 (x.g.toNat : Int)]] w (NewBytes w x.bytes) := vert_any _ _ _ w

/-! ### the order of edges, as a number -/
def cmpE (b : Bool) (x y : Edg) : Int := if pk b x < pk b y then -1 else if pk b y < pk b x then 1 else if rk x < rk y then -1 else if rk y < rk x then 1 else 0

theorem cmpE_neg (b : Bool) (x y : Edg) : cmpE b x y < 0 ↔ (pk b x < pk b y ∨ pk b x = pk b y ∧ rk x < rk y) := by
  unfold cmpE
  split
  · simp; omega
  · split
    · simp; omega
    · split
      · simp; omega
      · split
        · simp; omega
        · simp; omega

theorem cmpE_ahead (b : Bool) (x y : Edg) : ¬ cmpE b y x < 0 ↔ Ahead b x y := by
  rw [cmpE_neg]
  unfold Ahead
  omega

theorem swo_cmpE (b : Bool) : Go.Sort.SWO (ltOf (cmpE b)) := by
  have h : ∀ x y, ltOf (cmpE b) x y = decide (pk b x < pk b y ∨ pk b x = pk b y ∧ rk x < rk y) := fun x y => by
    unfold ltOf
    rw [decide_eq_decide]
    exact cmpE_neg b x y
  refine ⟨fun x => ?_, fun x y z h1 h2 => ?_, fun x y z h1 h2 => ?_⟩
  · rw [h]; simp
  · rw [h, decide_eq_true_eq] at *; omega
  · rw [h, decide_eq_false_iff_not] at *; omega

/-! ### draws and new blocks, and nothing else -/
def Grew (w w' : World) : Prop := ∃ q os, w' = Go.Sort.grow (w.drewN q) os

theorem Grew.refl (w : World) : Grew w w := ⟨0, #[], by simp [World.drewN]⟩
theorem Grew.trans {a b c : World} (h : Grew a b) (k : Grew b c) : Grew a c := by
  obtain ⟨q, os, rfl⟩ := h
  obtain ⟨q', os', rfl⟩ := k
  exact ⟨q + q', os ++ os', by simp [Go.Sort.grow, World.drewN, Nat.add_assoc]⟩
theorem Grew.alloc {a b : World} (h : Grew a b) (ob : Obj) : Grew a (b.alloc ob) := h.trans ⟨0, #[ob], by rw [Go.Sort.alloc_eq_grow]; simp [World.drewN]⟩
theorem Grew.drewN {a b : World} (h : Grew a b) (n : Nat) : Grew a (b.drewN n) := h.trans ⟨n, #[], by simp⟩
theorem Grew.drew {a b : World} (h : Grew a b) : Grew a b.drew := h.trans ⟨1, #[], (Go.Sort.grow_empty _).symm⟩
theorem Grew.below {a b : World} (h : Grew a b) : Below a.heap.size a b := by
  obtain ⟨q, os, rfl⟩ := h
  exact ⟨rfl, rfl, rfl, by simp [World.drewN], fun k hk => Go.Sort.heap_grow_old _ _ hk⟩
theorem Grew.cell {a b : World} (h : Grew a b) {p : Addr} {v : Value} (hc : a.cell? p = some v) : b.cell? p = some v := by
  rw [h.below.cell (World.block_lt_of_cell? _ _ hc)]
  exact hc

end Go.Proofs.YtolieljpnafbhaaGreatDoor
/-
  weight: Better; cmp.Compare at two kinds of numbers.
-/
namespace Go.Proofs.YtolieljpnafbhaaGreatDoor
open Go.RowKit

def cmpN (a b : Nat) : Int := if a < b then -1 else if b < a then 1 else 0

theorem cmpN_cases (a b : Nat) : (a < b ∧ cmpN a b = -1) ∨ (b < a ∧ cmpN a b = 1) ∨ (a = b ∧ cmpN a b = 0) := by
  unfold cmpN
  split
  · exact .inl ⟨by assumption, rfl⟩
  · split
    · exact .inr (.inl ⟨by assumption, rfl⟩)
    · exact .inr (.inr ⟨by omega, rfl⟩)

theorem wrap_u32_nat (a : Nat) (h : a < 4294967296) : IntKind.u32.wrap (a : Int) = (a : Int) := wraps_u32 _ (by omega) (by omega)

set_option maxHeartbeats 1000000 in
theorem cmp64_any (a b : Nat) (w : World) : Calls Tryz.prog 209 #[.int .u64 (a : Int), .int .u64 (b : Int)] w fun e w' => e = .returned (.int .i64 (cmpN a b)) ∧ w = w' := by
  rcases cmpN_cases a b with ⟨h1, h2⟩ | ⟨h1, h2⟩ | ⟨h1, h2⟩
  · have H := Lib.hid h2
    clear h2
    have g1 : (a : Int) < (b : Int) := by omega
    go_enter Tryz.func209, Tryz.ntmps209
    go_wp2
    go_ret
    exact ⟨by rw [H.out]; rfl, rfl⟩
  · have H := Lib.hid h2
    clear h2
    have g1 : ¬ (a : Int) < (b : Int) := by omega
    have g2 : (a : Int) > (b : Int) := by omega
    go_enter Tryz.func209, Tryz.ntmps209
    go_wp2
    go_ret
    exact ⟨by rw [H.out]; rfl, rfl⟩
  · subst h1
    have H := Lib.hid h2
    clear h2
    go_enter Tryz.func209, Tryz.ntmps209
    go_wp2
    go_ret
    exact ⟨by rw [H.out]; rfl, rfl⟩

set_option maxHeartbeats 1000000 in
theorem cmp32_any (a b : Nat) (w : World) : Calls Tryz.prog 210 #[.int .u32 (a : Int), .int .u32 (b : Int)] w fun e w' => e = .returned (.int .i64 (cmpN a b)) ∧ w = w' := by
  rcases cmpN_cases a b with ⟨h1, h2⟩ | ⟨h1, h2⟩ | ⟨h1, h2⟩
  · have H := Lib.hid h2
    clear h2
    have g1 : (a : Int) < (b : Int) := by omega
    go_enter Tryz.func210, Tryz.ntmps210
    go_wp2
    go_ret
    exact ⟨by rw [H.out]; rfl, rfl⟩
  · have H := Lib.hid h2
    clear h2
    have g1 : ¬ (a : Int) < (b : Int) := by omega
    have g2 : (a : Int) > (b : Int) := by omega
    go_enter Tryz.func210, Tryz.ntmps210
    go_wp2
    go_ret
    exact ⟨by rw [H.out]; rfl, rfl⟩
  · subst h1
    have H := Lib.hid h2
    clear h2
    go_enter Tryz.func210, Tryz.ntmps210
    go_wp2
    go_ret
    exact ⟨by rw [H.out]; rfl, rfl⟩

/-- The first of two numbers that is not 0. -/
def first2 (x y : Int) : Int := if x = 0 then y else x

set_option maxHeartbeats 1000000 in
theorem first_any (x y : Int) (b : Nat) (w : World) (hx : w.cell? ⟨b, 0, none⟩ = some (.int .i64 x)) (hy : w.cell? ⟨b, 1, none⟩ = some (.int .i64 y)) :
    Calls Tryz.prog 208 #[.slice (some ⟨b, 0, none⟩) 2 2] w fun e w' => e = .returned (.int .i64 (first2 x y)) ∧ w = w' := by
  by_cases h1 : x = 0
  · subst h1
    by_cases h2 : y = 0
    · subst h2
      go_enter Tryz.func208, Tryz.ntmps208
      go_wp2
      refine wp_loop_rounds 3 ?_
      iterate 3 (rw [rounds_succ]; go_wp2)
      go_ret
      exact ⟨rfl, rfl⟩
    · go_enter Tryz.func208, Tryz.ntmps208
      go_wp2
      refine wp_loop_rounds 2 ?_
      iterate 2 (rw [rounds_succ]; go_wp2)
      go_ret
      exact ⟨rfl, rfl⟩
  · have H := Lib.hid h1
    go_enter Tryz.func208, Tryz.ntmps208
    go_wp2
    refine wp_loop_rounds 1 ?_
    iterate 1 (rw [rounds_succ]; go_wp2)
    go_ret
    exact ⟨by unfold first2; rw [if_neg H.out]; rfl, rfl⟩

/-- Is an edge better than another? -/
def betterB (x y : Edg) : Bool := decide (rk x < rk y)

theorem first2_rk (x y : Edg) : decide (first2 (cmpN x.x.toNat y.x.toNat) (cmpN ((x.m.toNat + 1) % 4294967296) ((y.m.toNat + 1) % 4294967296)) < 0) = betterB x y := by
  have h1 := x.m.toNat_lt
  have h2 := y.m.toNat_lt
  unfold betterB rk first2
  rw [decide_eq_decide]
  rcases cmpN_cases x.x.toNat y.x.toNat with ⟨g1, g2⟩ | ⟨g1, g2⟩ | ⟨g1, g2⟩
  · rw [g2, if_neg (by decide)]; omega
  · rw [g2, if_neg (by decide)]; omega
  · rw [g2, if_pos rfl]
    rcases cmpN_cases ((x.m.toNat + 1) % 4294967296) ((y.m.toNat + 1) % 4294967296) with ⟨k1, k2⟩ | ⟨k1, k2⟩ | ⟨k1, k2⟩ <;> rw [k2] <;> omega

set_option maxRecDepth 100000 in
set_option maxHeartbeats 2000000 in
theorem better_any (x y : Edg) (w : World) :
    Calls Tryz.prog 176 #[.agg #[.int .u32 (x.t.toNat : Int), .int .u32 (x.h.toNat : Int), .int .u64 (x.x.toNat : Int), .int .u32 (x.m.toNat : Int)], .agg #[.int .u32 (y.t.toNat : Int), .int .u32 (y.h.toNat : Int), .int .u64 (y.x.toNat : Int), .int .u32 (y.m.toNat : Int)]] w
      fun e w' => e = .returned (.bool (betterB x y)) ∧ Grew w w' := by
  have hf := Lib.hid (first2_rk x y)
  have hw1 : IntKind.u32.wrap ((x.m.toNat : Int) + 1) = (((x.m.toNat + 1) % 4294967296 : Nat) : Int) := by rw [IntKind.wrap_u32]; omega
  have hw2 : IntKind.u32.wrap ((y.m.toNat : Int) + 1) = (((y.m.toNat + 1) % 4294967296 : Nat) : Int) := by rw [IntKind.wrap_u32]; omega
  generalize x.t.toNat = xt at *
  generalize x.h.toNat = xh at *
  generalize x.x.toNat = xx at *
  generalize x.m.toNat = xm at *
  generalize y.t.toNat = yt at *
  generalize y.h.toNat = yh at *
  generalize y.x.toNat = yx at *
  generalize y.m.toNat = ym at *
  generalize (xm + 1) % 4294967296 = xm1 at *
  generalize (ym + 1) % 4294967296 = ym1 at *
  go_enter Tryz.func176, Tryz.ntmps176
  have HG : Hid (Grew w ((w.alloc (.cells #[.int .u32 (xt : Int), .int .u32 (xh : Int), .int .u64 (xx : Int), .int .u32 (xm : Int)] 47)).alloc (.cells #[.int .u32 (yt : Int), .int .u32 (yh : Int), .int .u64 (yx : Int), .int .u32 (ym : Int)] 47))) := Lib.hid (((Grew.refl w).alloc _).alloc _)
  go_wp2
  have k1 : ((w.alloc (.cells #[.int .u32 (xt : Int), .int .u32 (xh : Int), .int .u64 (xx : Int), .int .u32 (xm : Int)] 47)).alloc (.cells #[.int .u32 (yt : Int), .int .u32 (yh : Int), .int .u64 (yx : Int), .int .u32 (ym : Int)] 47)).cell? ⟨w.heap.size, 2, none⟩ = some (.int .u64 (xx : Int)) := by simp
  have k2 : ((w.alloc (.cells #[.int .u32 (xt : Int), .int .u32 (xh : Int), .int .u64 (xx : Int), .int .u32 (xm : Int)] 47)).alloc (.cells #[.int .u32 (yt : Int), .int .u32 (yh : Int), .int .u64 (yx : Int), .int .u32 (ym : Int)] 47)).cell? ⟨w.heap.size, 3, none⟩ = some (.int .u32 (xm : Int)) := by simp
  have k3 : ((w.alloc (.cells #[.int .u32 (xt : Int), .int .u32 (xh : Int), .int .u64 (xx : Int), .int .u32 (xm : Int)] 47)).alloc (.cells #[.int .u32 (yt : Int), .int .u32 (yh : Int), .int .u64 (yx : Int), .int .u32 (ym : Int)] 47)).cell? ⟨w.heap.size + 1, 2, none⟩ = some (.int .u64 (yx : Int)) := by simp
  have k4 : ((w.alloc (.cells #[.int .u32 (xt : Int), .int .u32 (xh : Int), .int .u64 (xx : Int), .int .u32 (xm : Int)] 47)).alloc (.cells #[.int .u32 (yt : Int), .int .u32 (yh : Int), .int .u64 (yx : Int), .int .u32 (ym : Int)] 47)).cell? ⟨w.heap.size + 1, 3, none⟩ = some (.int .u32 (ym : Int)) := by simp
  have K1 := Lib.hid k1
  have K2 := Lib.hid k2
  have K3 := Lib.hid k3
  have K4 := Lib.hid k4
  clear k1 k2 k3 k4
  generalize ((w.alloc (.cells #[.int .u32 (xt : Int), .int .u32 (xh : Int), .int .u64 (xx : Int), .int .u32 (xm : Int)] 47)).alloc (.cells #[.int .u32 (yt : Int), .int .u32 (yh : Int), .int .u64 (yx : Int), .int .u32 (ym : Int)] 47)) = W at *
  refine wp_region_quiet_tail (Grew W) 12 (by kernel_rfl) (by kernel_rfl) (Grew.refl W).drew ?_
  simp only [List.take_succ_cons, List.take_zero, List.drop_succ_cons, List.drop_zero]
  refine q_op rfl (fun w' hw' => (by go_simp <;> rfl)) (fun K hK => ?_); go_simp; refine hK _ ?_; clear hK K
  refine q_op rfl (fun w' hw' => (by have hc := hw'.cell K1.out; go_simp <;> rfl)) (fun K hK => ?_); go_simp; refine hK _ ?_; clear hK K
  refine q_op rfl (fun w' hw' => (by go_simp <;> rfl)) (fun K hK => ?_); go_simp; refine hK _ ?_; clear hK K
  refine q_op rfl (fun w' hw' => (by have hc := hw'.cell K3.out; go_simp <;> rfl)) (fun K hK => ?_); go_simp; refine hK _ ?_; clear hK K
  refine q_call rfl (fun w' hw' => (by go_simp <;> rfl)) (fun w' hw' => ((cmp64_any xx yx w').mono (fun e w'' h => ⟨h.1, h.2 ▸ hw'⟩))) (fun K hK => ?_); go_simp; refine hK _ ?_; clear hK K
  refine q_op rfl (fun w' hw' => (by go_simp <;> rfl)) (fun K hK => ?_); go_simp; refine hK _ ?_; clear hK K
  refine q_op rfl (fun w' hw' => (by have hc := hw'.cell K2.out; go_simp <;> rfl)) (fun K hK => ?_); go_simp; refine hK _ ?_; clear hK K
  refine q_op rfl (fun w' hw' => (by have hx := hw1; go_simp <;> rfl)) (fun K hK => ?_); go_simp; refine hK _ ?_; clear hK K
  refine q_op rfl (fun w' hw' => (by go_simp <;> rfl)) (fun K hK => ?_); go_simp; refine hK _ ?_; clear hK K
  refine q_op rfl (fun w' hw' => (by have hc := hw'.cell K4.out; go_simp <;> rfl)) (fun K hK => ?_); go_simp; refine hK _ ?_; clear hK K
  refine q_op rfl (fun w' hw' => (by have hx := hw2; go_simp <;> rfl)) (fun K hK => ?_); go_simp; refine hK _ ?_; clear hK K
  refine q_call rfl (fun w' hw' => (by go_simp <;> rfl)) (fun w' hw' => ((cmp32_any xm1 ym1 w').mono (fun e w'' h => ⟨h.1, h.2 ▸ hw'⟩))) (fun K hK => ?_); go_simp; refine hK _ ?_; clear hK K
  refine wpQuiet_nil ?_
  intro w3 hw3
  have HW3 := Lib.hid hw3
  clear hw3
  go_wp2_with fail
  refine (first_any (cmpN xx yx) (cmpN xm1 ym1) _ _ (by simp) (by simp)).mono ?_
  rintro e w4 ⟨rfl, rfl⟩
  go_wp2
  go_ret
  exact ⟨by rw [← hf.out]; rfl, (HG.out.trans HW3.out).alloc _⟩

end Go.Proofs.YtolieljpnafbhaaGreatDoor
