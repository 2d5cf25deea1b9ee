/-
  Joined, in build order: Law12f.
-/
import Derived.Test.YtolieljpnafbhaaGreatDoorG17
/-
  milepostlaw12.ExtsortTwice.
-/
namespace Go.Proofs.YtolieljpnafbhaaGreatDoor
open Go.RowKit Go.Maps

/-- No file has a name of a sort's own. -/
def Clean (L : Logic) : Prop := ∀ x, ownName x = true → mget L x = none

theorem Clean.add {L : Logic} (h : Clean L) {x : Name} (hx : ownName x = false) (f : LFile) : Clean (mput L x f) := fun y hy => by
  rw [mget_mput, if_neg (fun e => by rw [e, hx] at hy; cases hy)]
  exact h y hy

theorem Clean.t {L : Logic} (h : Clean L) (k : Nat) : mget L (tName k) = none := h _ (ownName_t k)

theorem len_mput {L : Logic} {x : Name} (f : LFile) (h : mget L x = none) : (mput L x f).length = L.length + 1 := by
  unfold mput
  rw [mdel_fresh h]
  rfl

theorem one_get (x y : Name) (f : LFile) : mget [(x, f)] y = if y = x then some f else none := by
  unfold mget
  by_cases h : y = x
  · subst h; simp
  · have : ¬ x = y := fun e => h e.symm
    simp [h, this]

theorem clean_one {x : Name} (hx : ownName x = false) (f : LFile) : Clean [(x, f)] := fun y hy => by
  rw [one_get, if_neg (fun e => by rw [e, hx] at hy; cases hy)]

def nmA : Name := ⟨#[97]⟩
def nmB : Name := ⟨#[98]⟩
def nmC : Name := ⟨#[99]⟩
def nmD : Name := ⟨#[100]⟩

theorem name_ne {a b : Name} (h : a.data ≠ b.data) : a ≠ b := fun e => h (by rw [e])

/-- The files behind four sorts. -/
structure Four (es : List Edg) (L : Logic) : Prop where
  a : ∃ fl, mget L nmA = some (.inl (pagesOf (per 20) ((bestOf false es).map Edg.bytes), fl))
  c : ∃ fl, mget L nmC = some (.inl (pagesOf (per 20) ((bestOf false es).map Edg.bytes), fl))
  d : ∃ fl, mget L nmD = some (.inl (pagesOf (per 20) ((bestOf false es).map Edg.bytes), fl))
  len : L.length = 5
  need : need L ≤ 20 * es.length

set_option maxRecDepth 100000 in
set_option maxHeartbeats 8000000 in
theorem extsortTwice_any (HW : WriteSaid) {m : Nat} (HJS : JobSortSaid m) (hm : 600 ≤ m) (k : Nat) (hk : k < 256) (v : Value) (es : List Edg) (w : World) (hv : RdE w v es) :
    Calls Tryz.prog 7 #[.int .u8 (k : Int), v] w fun e w' => e = .returned (.bool true) ∧ Below w.heap.size w w' := by
  have HV := Lib.hid hv
  have hworks := Lib.hid (works12_any HW HJS (Nat.le_trans (by decide) hm))
  obtain ⟨a, cap, rfl, -⟩ := hv
  by_cases hl : es.length ≤ 600
  · have hl' : ¬ ((es.length : Int) > 600) := by omega
    have hfr := Lib.hid (frames8_any k hk)
    obtain ⟨n, hn⟩ : ∃ n : Nat, n = 8 + k % 56 := ⟨_, rfl⟩
    rw [← hn] at hfr
    have hn8 : 8 ≤ n := by omega
    have hn4 : n ≤ 4096 := by omega
    have hbeg := Lib.hid (begun_any HW 65536 (by decide) n (by omega) hn4 _ es w HV.out (by omega))
    clear hn
    have hA : (bestOf false es).length ≤ es.length := bestOf_length _ _
    have hB : (bestOf true (bestOf false es)).length ≤ es.length := Nat.le_trans (bestOf_length _ _) hA
    have eC : bestOf false (bestOf true (bestOf false es)) = bestOf false es := by rw [bestOf_turn, bestOf_same]
    have eD : bestOf false (bestOf false es) = bestOf false es := bestOf_same _ _
    have HLEN := Lib.hid hA
    have HLENB := Lib.hid hB
    have HEC := Lib.hid eC
    have HED := Lib.hid eD
    clear hA hB eC eD
    go_enter Tryz.func7, Tryz.ntmps7
    go_wp2_with fail
    refine (hfr.out _).mono ?_
    rintro e w' ⟨rfl, rfl⟩
    go_wp2_with fail
    refine hbeg.out.mono ?_
    rintro e w1 ⟨db, pb, o1, d1, rfl, hh1⟩
    have HH1 := Lib.hid hh1
    clear hh1 hfr hbeg
    obtain ⟨L0, hL0⟩ : ∃ L0 : Logic, L0 = [(nmIn, edgeFile es true)] := ⟨_, rfl⟩
    have G0 : Hid (∀ x, mget L0 x = if x = nmIn then some (edgeFile es true) else none) := Lib.hid (fun x => by rw [hL0]; exact one_get _ _ _)
    have C0 : Hid (Clean L0) := Lib.hid (by rw [hL0]; exact clean_one (by decide) _)
    have N0 : Hid (need L0 ≤ 4 * es.length) := Lib.hid (by
      rw [hL0, need_cons]
      have := edgeFile_need es true
      show _ + 0 ≤ _
      omega)
    have Z0 : Hid (L0.length = 1) := Lib.hid (by rw [hL0]; rfl)
    rw [← hL0] at HH1
    clear hL0
    have hs1 := Lib.hid (kept_sortL HW HJS (inn := nmIn) (out := nmA) HH1.out hn8 false (by rw [G0.out, if_pos rfl]) (by rw [G0.out, if_neg (name_ne (by decide))]) C0.out.t (by decide) (by decide) (by decide) (by omega) (by have := N0.out; omega))
    unfold nmIn nmA ptrTo at hs1
    unfold ptrTo
    go_wp2_with fail
    refine hs1.out.mono ?_
    rintro e w2 ⟨d2, o2, rfl, hh2⟩
    have HH2 := Lib.hid hh2
    clear hh2 hs1
    obtain ⟨L1, hL1⟩ : ∃ L1 : Logic, L1 = mput L0 nmA (edgeFile (bestOf false es) true) := ⟨_, rfl⟩
    have HH2' : Hid (Kept 65536 w w2 pb db n o2 d2 L1) := Lib.hid (by rw [hL1]; exact HH2.out)
    have G1 : Hid (∀ x, mget L1 x = if x = nmA then some (edgeFile (bestOf false es) true) else mget L0 x) := Lib.hid (fun x => by rw [hL1, mget_mput])
    have C1 : Hid (Clean L1) := Lib.hid (by rw [hL1]; exact C0.out.add (by decide) _)
    have N1 : Hid (need L1 ≤ 8 * es.length) := Lib.hid (by
      rw [hL1]
      have h1 := need_mput_le L0 nmA (edgeFile (bestOf false es) true)
      have h2 := edgeFile_need (bestOf false es) true
      have h3 := N0.out
      have h4 := HLEN.out
      omega)
    have Z1 : Hid (L1.length = 2) := Lib.hid (by rw [hL1, len_mput _ (by rw [G0.out, if_neg (name_ne (by decide))]), Z0.out])
    clear hL1 HH2
    have hs2 := Lib.hid (kept_sortL HW HJS (inn := nmA) (out := nmB) HH2'.out hn8 true (by rw [G1.out, if_pos rfl]) (by rw [G1.out, if_neg (name_ne (by decide)), G0.out, if_neg (name_ne (by decide))]) C1.out.t (by decide) (by decide) (by decide) (by have := HLEN.out; omega) (by have := N1.out; have := HLEN.out; omega))
    unfold nmA nmB ptrTo at hs2
    go_wp2_with fail
    refine hs2.out.mono ?_
    rintro e w3 ⟨d3, o3, rfl, hh3⟩
    have HH3 := Lib.hid hh3
    clear hh3 hs2
    obtain ⟨L2, hL2⟩ : ∃ L2 : Logic, L2 = mput L1 nmB (edgeFile (bestOf true (bestOf false es)) true) := ⟨_, rfl⟩
    have HH3' : Hid (Kept 65536 w w3 pb db n o3 d3 L2) := Lib.hid (by rw [hL2]; exact HH3.out)
    have G2 : Hid (∀ x, mget L2 x = if x = nmB then some (edgeFile (bestOf true (bestOf false es)) true) else mget L1 x) := Lib.hid (fun x => by rw [hL2, mget_mput])
    have C2 : Hid (Clean L2) := Lib.hid (by rw [hL2]; exact C1.out.add (by decide) _)
    have N2 : Hid (need L2 ≤ 12 * es.length) := Lib.hid (by
      rw [hL2]
      have h1 := need_mput_le L1 nmB (edgeFile (bestOf true (bestOf false es)) true)
      have h2 := edgeFile_need (bestOf true (bestOf false es)) true
      have h3 := N1.out
      have h4 := HLENB.out
      omega)
    have Z2 : Hid (L2.length = 3) := Lib.hid (by rw [hL2, len_mput _ (by rw [G1.out, if_neg (name_ne (by decide)), G0.out, if_neg (name_ne (by decide))]), Z1.out])
    clear hL2 HH3
    have hs3 := Lib.hid (kept_sortL HW HJS (inn := nmB) (out := nmC) HH3'.out hn8 false (by rw [G2.out, if_pos rfl]) (by rw [G2.out, if_neg (name_ne (by decide)), G1.out, if_neg (name_ne (by decide)), G0.out, if_neg (name_ne (by decide))]) C2.out.t (by decide) (by decide) (by decide) (by have := HLENB.out; omega) (by have := N2.out; have := HLENB.out; omega))
    rw [HEC.out] at hs3
    unfold nmB nmC ptrTo at hs3
    go_wp2_with fail
    refine hs3.out.mono ?_
    rintro e w4 ⟨d4, o4, rfl, hh4⟩
    have HH4 := Lib.hid hh4
    clear hh4 hs3
    obtain ⟨L3, hL3⟩ : ∃ L3 : Logic, L3 = mput L2 nmC (edgeFile (bestOf false es) true) := ⟨_, rfl⟩
    have HH4' : Hid (Kept 65536 w w4 pb db n o4 d4 L3) := Lib.hid (by rw [hL3]; exact HH4.out)
    have G3 : Hid (∀ x, mget L3 x = if x = nmC then some (edgeFile (bestOf false es) true) else mget L2 x) := Lib.hid (fun x => by rw [hL3, mget_mput])
    have C3 : Hid (Clean L3) := Lib.hid (by rw [hL3]; exact C2.out.add (by decide) _)
    have N3 : Hid (need L3 ≤ 16 * es.length) := Lib.hid (by
      rw [hL3]
      have h1 := need_mput_le L2 nmC (edgeFile (bestOf false es) true)
      have h2 := edgeFile_need (bestOf false es) true
      have h3 := N2.out
      have h4 := HLEN.out
      omega)
    have Z3 : Hid (L3.length = 4) := Lib.hid (by rw [hL3, len_mput _ (by rw [G2.out, if_neg (name_ne (by decide)), G1.out, if_neg (name_ne (by decide)), G0.out, if_neg (name_ne (by decide))]), Z2.out])
    clear hL3 HH4
    have GA3 : Hid (mget L3 nmA = some (edgeFile (bestOf false es) true)) := Lib.hid (by rw [G3.out, if_neg (name_ne (by decide)), G2.out, if_neg (name_ne (by decide)), G1.out, if_pos rfl])
    have GD3 : Hid (mget L3 nmD = none) := Lib.hid (by rw [G3.out, if_neg (name_ne (by decide)), G2.out, if_neg (name_ne (by decide)), G1.out, if_neg (name_ne (by decide)), G0.out, if_neg (name_ne (by decide))])
    have hs4 := Lib.hid (kept_sortL HW HJS (inn := nmA) (out := nmD) HH4'.out hn8 false GA3.out GD3.out C3.out.t (by decide) (by decide) (by decide) (by have := HLEN.out; omega) (by have := N3.out; have := HLEN.out; omega))
    rw [HED.out] at hs4
    unfold nmA nmD ptrTo at hs4
    go_wp2_with fail
    refine hs4.out.mono ?_
    rintro e w5 ⟨d5, o5, rfl, hh5⟩
    have HH5 := Lib.hid hh5
    clear hh5 hs4
    obtain ⟨L4, hL4⟩ : ∃ L4 : Logic, L4 = mput L3 nmD (edgeFile (bestOf false es) true) := ⟨_, rfl⟩
    have HH5' : Hid (Kept 65536 w w5 pb db n o5 d5 L4) := Lib.hid (by rw [hL4]; exact HH5.out)
    have F4 : Hid (Four es L4) := Lib.hid ⟨⟨true, by rw [hL4, mget_mput, if_neg (name_ne (by decide)), GA3.out]; rfl⟩, ⟨true, by rw [hL4, mget_mput, if_neg (name_ne (by decide)), G3.out, if_pos rfl]; rfl⟩, ⟨true, by rw [hL4, mget_mput, if_pos rfl]; rfl⟩, by rw [hL4, len_mput _ GD3.out, Z3.out], by
      rw [hL4]
      have h1 := need_mput_le L3 nmD (edgeFile (bestOf false es) true)
      have h2 := edgeFile_need (bestOf false es) true
      have h3 := N3.out
      have h4 := HLEN.out
      omega⟩
    clear hL4 HH5 G0 G1 G2 G3 C0 C1 C2 C3 N0 N1 N2 N3 Z0 Z1 Z2 Z3 GA3 GD3 HH1 HH2' HH3' HH4' HLEN HLENB HEC HED
    have hnm := Lib.hid (names_kept HH5'.out (by rw [F4.out.len]; decide))
    rw [F4.out.len] at hnm
    unfold ptrTo at hnm
    go_wp2_with fail
    refine hnm.out.mono ?_
    rintro e w6 ⟨a6, cap6, rfl, hh6⟩
    have HH6 := Lib.hid hh6
    clear hh6 hnm HH5'
    obtain ⟨ps, hps⟩ : ∃ ps, ps = pagesOf (per 20) ((bestOf false es).map Edg.bytes) := ⟨_, rfl⟩
    have hp1 := Lib.hid (F4.out.a)
    have hp2 := Lib.hid (F4.out.c)
    have hp3 := Lib.hid (F4.out.d)
    rw [← hps] at hp1 hp2 hp3
    have hneed := Lib.hid F4.out.need
    clear hps F4
    obtain ⟨f1, hf1⟩ := hp1.out
    obtain ⟨f2, hf2⟩ := hp2.out
    obtain ⟨f3, hf3⟩ := hp3.out
    have HP1 := Lib.hid hf1
    have HP2 := Lib.hid hf2
    have HP3 := Lib.hid hf3
    clear hf1 hf2 hf3 hp1 hp2 hp3
    have hc1 := Lib.hid (kept_pages HH6.out HP1.out)
    unfold nmA ptrTo at hc1
    go_wp2_with fail
    refine hc1.out.mono ?_
    rintro e w7 ⟨rfl, hh7⟩
    have HH7 := Lib.hid hh7
    have hc2 := Lib.hid (kept_pages HH7.out HP2.out)
    clear hh7 hc1 HH6
    unfold nmC ptrTo at hc2
    go_wp2_with fail
    refine hc2.out.mono ?_
    rintro e w8 ⟨rfl, hh8⟩
    have HH8 := Lib.hid hh8
    have hc3 := Lib.hid (kept_pages HH8.out HP3.out)
    clear hh8 hc2 HH7
    unfold nmD ptrTo at hc3
    go_wp2_with fail
    refine hc3.out.mono ?_
    rintro e w9 ⟨rfl, hh9⟩
    have HH9 := Lib.hid hh9
    clear hh9 hc3 HH8
    have hps9 : ps.length ≤ 65536 := (HH9.out.pool.paged HP1.out).1
    have hneed' : Hid (need L4 ≤ 65536) := Lib.hid (Nat.le_trans hneed.out (by omega))
    have hread : Hid (∀ W o' d' nm fl, Kept 65536 w W pb db n o' d' L4 → mget L4 nm = some (.inl (ps, fl)) → ∀ (j : Nat) (b : Pg), ps[j]? = some b → Calls Tryz.prog 35 #[ptrTo pb, .string nm, .int .i64 (j : Int)] W (KeptRead 65536 w W pb db n o' d' L4 b)) := Lib.hid (fun W o' d' nm fl hh hp j b hj => kept_read HW hh hneed'.out hp hj)
    go_wp2
    go_loopw [14] (fun i wr => ∃ (j : Nat) (d' : Dsk) (o' : Owner), j ≤ ps.length ∧ i = .int .i64 (j : Int) ∧ Kept 65536 w wr pb db n o' d' L4) (fun i _ => ps.length - (intOf i).toNat)
    case atStart => exact ⟨0, d5, o5, Nat.zero_le _, rfl, HH9.out⟩
    case round =>
      obtain ⟨j, d', o', hj, rfl, hh⟩ := hrel
      have HH := Lib.hid hh
      clear hh HH9
      by_cases hlt : j < ps.length
      · obtain ⟨b, hb⟩ : ∃ b, ps[j]? = some b := ⟨_, List.getElem?_eq_getElem hlt⟩
        have HB := Lib.hid hb
        clear hb
        have hr1 := Lib.hid (hread.out wr o' d' nmA f1 HH.out HP1.out j b HB.out)
        unfold nmA ptrTo at hr1
        generalize ps.length = N at *
        go_wp2_with fail
        refine hr1.out.mono ?_
        rintro e w10 ⟨v10, d10, o10, rfl, hh10, ho10, hf10, -⟩
        have HH10 := Lib.hid hh10
        have HR10 := Lib.hid (Rd_own ho10)
        have HF10 := Lib.hid hf10
        have HO10 : Hid (∀ x, v10.ownBlock = some x → x < w10.heap.size) := Lib.hid (fun x hx => (ownBlock_old ho10 x hx).1)
        have hr2 := Lib.hid (hread.out w10 o10 d10 nmC f2 HH10.out HP2.out j b HB.out)
        clear hh10 ho10 hf10 hr1
        unfold nmC ptrTo at hr2
        go_wp2_with fail
        refine hr2.out.mono ?_
        rintro e w11 ⟨v11, d11, o11, rfl, hh11, ho11, hf11, hm11⟩
        have HH11 := Lib.hid hh11
        have HR11 := Lib.hid (Rd_own ho11)
        have HR10' := Lib.hid (hm11.rd HR10.out (fun x hx => ⟨HF10.out x hx, fun h => h⟩))
        have HF11 := Lib.hid hf11
        have HF10' : Hid (∀ x, v10.ownBlock = some x → o11 x = none) := Lib.hid (fun x hx => hm11.free (HO10.out x hx) (HF10.out x hx))
        have hr3 := Lib.hid (hread.out w11 o11 d11 nmD f3 HH11.out HP3.out j b HB.out)
        clear hh11 ho11 hf11 hr2 hm11 HR10
        unfold nmD ptrTo at hr3
        go_wp2_with fail
        refine hr3.out.mono ?_
        rintro e w12 ⟨v12, d12, o12, rfl, hh12, ho12, hf12, hm12⟩
        have HH12 := Lib.hid hh12
        have HR12 := Lib.hid (Rd_own ho12)
        have HR11' := Lib.hid (hm12.rd HR11.out (fun x hx => ⟨HF11.out x hx, fun h => h⟩))
        have HR10'' := Lib.hid (hm12.rd HR10'.out (fun x hx => ⟨HF10'.out x hx, fun h => h⟩))
        have hq1 := Lib.hid (eqBytes_same HR10''.out HR11'.out)
        have hq2 := Lib.hid (eqBytes_same HR10''.out HR12.out)
        clear hh12 ho12 hf12 hr3 hm12
        go_wp2_with fail
        refine hq1.out.mono ?_
        rintro e w' ⟨rfl, rfl⟩
        go_wp2_with fail
        refine hq2.out.mono ?_
        rintro e w' ⟨rfl, rfl⟩
        go_wp2
        go_roundw
        case rel => exact ⟨j + 1, d12, o12, by omega, by go_num, HH12.out⟩
        case measure => simp [intOf]; omega
      · generalize ps.length = N at *
        obtain rfl : N = j := by omega
        go_wp2_with fail
        refine (hworks.out _).mono ?_
        rintro e w10 ⟨rfl, h10⟩
        have HB := Lib.hid (HH.out.below.trans (h10.mono HH.out.below.size))
        clear h10
        go_wp2
        go_ret
        exact ⟨rfl, HB.out⟩
  · have hl' : ((es.length : Int) > 600) := by omega
    go_enter Tryz.func7, Tryz.ntmps7
    go_wp2_with fail
    refine (hworks.out _).mono ?_
    rintro e w10 ⟨rfl, h10⟩
    go_wp2
    go_ret
    exact ⟨rfl, h10⟩

end Go.Proofs.YtolieljpnafbhaaGreatDoor
