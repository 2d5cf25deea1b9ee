/-
  Joined, in build order, what is needed of: RefG, RefH, RefI, RefJ, ShelfPlaces, Law12l, Law12m, Law12n.
-/
import Derived.Test.YtolieljpnafbhaaGreatDoorZ01
import Derived.Deep.AppendSrc
import Derived.Shelf.SlSortCmp.NoneTotal
import Derived.Ground.SlsfProg
import Derived.Shelf.SlGeneric
import Derived.Test.YtolieljpnafbhaaGreatDoorProg
namespace Go.Proofs.YtolieljpnafbhaaGreatDoor
open Go.RowKit Go.Maps
theorem crcStep_xor (a b : Nat) : crcStep (a ^^^ b) = crcStep a ^^^ crcStep b := by
  unfold crcStep
  have hm : (a ^^^ b) % 2 = (a % 2) ^^^ (b % 2) := Nat.xor_mod_two_pow (n := 1)
  rw [Nat.xor_div_two, hm]
  have h1 : a % 2 = 0 ∨ a % 2 = 1 := by omega
  have h2 : b % 2 = 0 ∨ b % 2 = 1 := by omega
  rcases h1 with h1 | h1 <;> rcases h2 with h2 | h2
  · rw [h1, h2]; simp
  · rw [h1, h2]; simp [Nat.xor_assoc]
  · rw [h1, h2, show (1 ^^^ 0 : Nat) = 1 from rfl]
    simp only [Nat.mul_one, Nat.mul_zero, Nat.xor_zero]
    rw [Nat.xor_assoc, Nat.xor_assoc, Nat.xor_comm (b / 2)]
  · rw [h1, h2, show (1 ^^^ 1 : Nat) = 0 from rfl]
    simp only [Nat.mul_one, Nat.mul_zero, Nat.xor_zero]
    rw [Nat.xor_assoc, ← Nat.xor_assoc 2197175160, Nat.xor_comm 2197175160, Nat.xor_assoc (b / 2), Nat.xor_self, Nat.xor_zero]
theorem crcSteps_xor (k a b : Nat) : crcSteps k (a ^^^ b) = crcSteps k a ^^^ crcSteps k b := by
  induction k with
  | zero => rfl
  | succ k ih => rw [crcSteps, crcSteps, crcSteps, ih, crcStep_xor]
theorem crcSteps_shift (k m : Nat) : crcSteps k (2 ^ k * m) = m := by
  induction k generalizing m with
  | zero => simp [crcSteps]
  | succ k ih =>
    rw [crcSteps, show 2 ^ (k + 1) * m = 2 ^ k * (2 * m) by rw [Nat.pow_succ, Nat.mul_assoc], ih]
    unfold crcStep
    rw [show 2 * m / 2 = m by omega, show 2 * m % 2 = 0 by omega]
    simp
theorem crcExt_bits (x : Nat) (b : UInt8) : crcSteps 8 (x ^^^ b.toNat) = crcExt x b := by
  unfold crcExt crcTab
  have h1 : x = 2 ^ 8 * (x / 2 ^ 8) ^^^ x % 2 ^ 8 := by
    apply Nat.eq_of_testBit_eq
    intro i
    rw [Nat.testBit_xor, Nat.testBit_two_pow_mul, Nat.testBit_mod_two_pow]
    by_cases hi : 8 ≤ i
    · rw [Nat.testBit_div_two_pow, show i - 8 + 8 = i by omega]
      have h2 : ¬ i < 8 := by omega
      simp [hi, h2]
    · have h2 : i < 8 := by omega
      simp [hi, h2]
  have h1 : x = 2 ^ 8 * (x / 256) ^^^ x % 256 := h1
  conv => lhs; rw [h1, Nat.xor_assoc]
  rw [crcSteps_xor, crcSteps_shift]
theorem low_step (x : Nat) (h : x < 4294967296) : (x % 2 = 1 → bits BinOp.xor IntKind.u32 ((x / 2 : Nat) : Int) 2197175160 = (crcStep x : Int)) ∧ (x % 2 = 0 → ((x / 2 : Nat) : Int) = (crcStep x : Int)) := by
  constructor
  · intro h1
    have := bits_xor_nat .u32 32 (by decide) wraps_u32 (x / 2) 2197175160 (by omega) (by decide)
    rw [show ((2197175160 : Nat) : Int) = (2197175160 : Int) from rfl] at this
    rw [this]
    unfold crcStep
    rw [h1]
  · intro h1
    unfold crcStep
    rw [h1]
    simp
set_option maxRecDepth 100000 in
set_option maxHeartbeats 2000000 in
theorem refExtend_any (v : Value) (bs : List UInt8) (w : World) (hv : Rd w v bs) : Calls Tryz.prog 159 #[.int .u32 0, v] w fun e w' => e = .returned (.int .u32 (crcOf bs : Int)) ∧ w = w' := by
  obtain ⟨a, cap, rfl, hlc, hcm, hc⟩ := hv
  have HC : Hid (∀ i, i < bs.length → ∃ b off x, a = some ⟨b, off, none⟩ ∧ bs[i]? = some x ∧ w.cell? ⟨b, off + i, none⟩ = some (bv x)) := Lib.hid (fun i hi => by
    rcases hc with h0 | ⟨b, off, rfl, hc⟩
    · omega
    · exact ⟨b, off, bs[i], rfl, List.getElem?_eq_getElem hi, hc i hi⟩)
  have HF : Hid (∀ i x, bs[i]? = some x → (bs.take (i + 1)).foldl crcExt 4294967295 = crcExt ((bs.take i).foldl crcExt 4294967295) x) := Lib.hid (fun i x hx => by
    have hi := lt_of_get hx
    rw [List.getElem?_eq_getElem hi] at hx
    rw [List.take_succ_eq_append_getElem hi, List.foldl_append, Option.some.inj hx]
    rfl)
  have HLT : Hid (∀ i, (bs.take i).foldl crcExt 4294967295 < 4294967296) := Lib.hid (fun i => crcFold_lt _ _ (by decide))
  have HALL : Hid (crcOf bs = 4294967295 - (bs.take bs.length).foldl crcExt 4294967295) := Lib.hid (by rw [List.take_of_length_le (Nat.le_refl _)]; rfl)
  unfold maxLen at hcm
  clear hc
  generalize hN : bs.length = N at *
  clear hN
  go_enter Tryz.func159, Tryz.ntmps159
  go_wp2
  go_loopw [5, 6] (fun xv iv W => ∃ i : Nat, i ≤ N ∧ iv = .int .i64 (i : Int) ∧ xv = .int .u32 (((bs.take i).foldl crcExt 4294967295 : Nat) : Int) ∧ W = w) (fun _ iv _ => N - (intOf iv).toNat)
  case atStart => exact ⟨0, Nat.zero_le _, rfl, rfl, rfl⟩
  case round =>
    obtain ⟨i, hi, rfl, rfl, rfl⟩ := hrel
    obtain ⟨w9, rfl⟩ : ∃ w9 : World, w9 = wr := ⟨_, rfl⟩
    have hz := HLT.out i
    by_cases hlt : i < N
    · obtain ⟨b, off, x, rfl, hx, hcell⟩ := HC.out i hlt
      have HFX := Lib.hid (HF.out i x hx)
      clear hx
      obtain ⟨z, hzz⟩ : ∃ z, z = (bs.take i).foldl crcExt 4294967295 := ⟨_, rfl⟩
      rw [← hzz] at HFX hz ⊢
      clear hzz
      unfold bv at hcell
      have hx8 := x.toNat_lt
      have hxor : bits BinOp.xor IntKind.u32 (z : Int) (x.toNat : Int) = ((z ^^^ x.toNat : Nat) : Int) := bits_xor_nat .u32 32 (by decide) wraps_u32 _ _ (by omega) (by omega)
      have hwx : IntKind.u32.wrap (x.toNat : Int) = (x.toNat : Int) := wraps_u32 _ (by omega) (by omega)
      have hy0 : z ^^^ x.toNat < 4294967296 := Nat.xor_lt_two_pow (n := 32) (by omega) (by omega)
      obtain ⟨y, hy⟩ : ∃ y, y = z ^^^ x.toNat := ⟨_, rfl⟩
      rw [← hy] at hxor hy0
      have HY := Lib.hid hy
      clear hy
      go_wp2
      go_loopw [5, 7] (fun xv kv W => ∃ k : Nat, k ≤ 8 ∧ kv = .int .i64 (k : Int) ∧ xv = .int .u32 ((crcSteps k y : Nat) : Int) ∧ W = w9) (fun _ kv _ => 8 - (intOf kv).toNat)
      case atStart => exact ⟨0, Nat.zero_le _, rfl, rfl, rfl⟩
      case round =>
        obtain ⟨k, hk, rfl, rfl, rfl⟩ := hrel
        by_cases hk8 : k < 8
        · have hs := crcSteps_lt k y hy0
          have HS : Hid (crcSteps (k + 1) y = crcStep (crcSteps k y)) := Lib.hid rfl
          generalize crcSteps k y = s at *
          obtain ⟨l1, l0⟩ := low_step s hs
          have hd : (s : Int) / 2 = ((s / 2 : Nat) : Int) := by omega
          have hsl : s % 2 = 0 ∨ s % 2 = 1 := by omega
          rcases hsl with hb | hb
          · obtain ⟨lo, e1, e2⟩ : ∃ lo : Nat, (s : Int) % 2 = (lo : Int) ∧ ¬ (lo : Int) = 1 := ⟨0, by omega, by decide⟩
            have HL := Lib.hid (l0 hb)
            clear l1 l0 hb hd
            go_wp2
            go_roundw
            case rel => exact ⟨k + 1, by omega, by go_num, by rw [HS.out, ← HL.out]; rfl, trivial⟩
            case measure => simp [intOf]; omega
          · have e1 : (s : Int) % 2 = 1 := by omega
            have h1 := l1 hb
            rw [← hd] at h1
            clear l1 l0 hb hd
            go_wp2
            go_roundw
            case rel => exact ⟨k + 1, by omega, by go_num, by rw [HS.out], trivial⟩
            case measure => simp [intOf]; omega
        · obtain rfl : k = 8 := by omega
          have HE : Hid (crcSteps 8 y = (bs.take (i + 1)).foldl crcExt 4294967295) := Lib.hid (by rw [HFX.out, HY.out, crcExt_bits])
          go_wp2
          go_roundw
          case rel => exact ⟨i + 1, by omega, by go_num, by rw [← HE.out], trivial⟩
          case measure => simp [intOf]; omega
    · obtain rfl : N = i := by omega
      have HNB : Hid (bits BinOp.xor IntKind.u32 (((bs.take N).foldl crcExt 4294967295 : Nat) : Int) 4294967295 = ((4294967295 - (bs.take N).foldl crcExt 4294967295 : Nat) : Int)) := Lib.hid (by
        have h1 := bits_xor_nat .u32 32 (by decide) wraps_u32 ((bs.take N).foldl crcExt 4294967295) 4294967295 (by omega) (by decide)
        have h2 := bits_xor_nat .u32 32 (by decide) wraps_u32 4294967295 ((bs.take N).foldl crcExt 4294967295) (by decide) (by omega)
        have h3 := not_bits ((bs.take N).foldl crcExt 4294967295) hz
        rw [Nat.xor_comm] at h1
        exact h1.trans (h2.symm.trans h3))
      go_wp2
      go_ret
      exact ⟨ret_int (by rw [HALL.out]; exact HNB.out), rfl⟩
end Go.Proofs.YtolieljpnafbhaaGreatDoor
namespace Go.Proofs.YtolieljpnafbhaaGreatDoor
open Go.RowKit
theorem setCells_fz {g : Nat} {t : TypeId} {fz : Nat × Nat} (vs : List Value) : ∀ {w : World} {o : Nat} {cs : Array Value}, w.heap[g]? = some (.cells cs t fz) → o + vs.length ≤ cs.size →
    ∃ cs', (w.setCells g o vs).heap[g]? = some (.cells cs' t fz) ∧ cs'.size = cs.size ∧ (∀ j, j < o → cs'[j]? = cs[j]?) ∧ (∀ j, j < vs.length → cs'[o + j]? = vs[j]?) := by
  induction vs with
  | nil => intro w o cs h _; exact ⟨cs, h, rfl, fun _ _ => rfl, fun j hj => absurd hj (Nat.not_lt_zero _)⟩
  | cons v vs ih =>
    intro w o cs h ho
    rw [List.length_cons] at ho
    have h1 : (w.setCell ⟨g, o, none⟩ v).heap[g]? = some (.cells (cs.setIfInBounds o v) t fz) := by
      rw [setCell_eq_setRow w g o cs _ fz v h]
      exact setRow_heap w g cs _ _ fz h
    obtain ⟨cs', e1, e2, e3, e4⟩ := ih (o := o + 1) h1 (by rw [Array.size_setIfInBounds]; omega)
    refine ⟨cs', e1, by rw [e2, Array.size_setIfInBounds], fun j hj => ?_, fun j hj => ?_⟩
    · rw [e3 j (by omega), Array.getElem?_setIfInBounds, if_neg (by omega)]
    · cases j with
      | zero =>
        rw [Nat.add_zero, e3 o (by omega), Array.getElem?_setIfInBounds, if_pos rfl, if_pos (by omega)]
        rfl
      | succ j =>
        rw [List.length_cons] at hj
        rw [show o + (j + 1) = o + 1 + j by omega, e4 j (by omega)]
        rfl
/-- Some bytes more. -/
theorem run_append_rdT {w : World} (base ty : Nat) (v : Value) (bs : List UInt8) (h : BytesT w base v bs) (hne : bs ≠ []) (x : Value) (ys : List UInt8) (hx : Rd w x ys) (hl : bs.length + ys.length ≤ 100000) (hbase : base ≤ w.heap.size) :
    ∃ v' w', (Builtin.append_ #[57, 57] ty #[v, x]).run Tryz.prog w = .ok v' w' ∧ BytesT w' base v' (bs ++ ys) ∧ w.grownBy w' v.ownBlock ∧ (v'.ownBlock = v.ownBlock ∨ v'.ownBlock = some w.heap.size) := by
  obtain ⟨i0, hi, hz0, hz1, hz2⟩ := info_parts info_u8
  have hsrc : Go.Src Tryz.prog i0.size 57 x ys.length (ys.map bv) w := by
    obtain ⟨a, cap, rfl, hlc, hcm, hc⟩ := hx
    rcases hc with h0 | ⟨b, off, rfl, hc⟩
    · have : ys = [] := List.length_eq_zero_iff.1 h0
      subst this
      cases a with
      | none => exact Go.Src.ofNil w Tryz.underlying57 cap
      | some a => exact Go.Src.ofSlice w Tryz.underlying57 a 0 cap [] (by simp) (fun j u hj => by cases hj) (fun u hu => by cases hu)
    · refine Go.Src.ofSlice w Tryz.underlying57 _ _ cap _ (by rw [hz1]; simp) (fun j u hj => ?_) (fun u hu => ?_)
      · have hjl : j < ys.length := by have := lt_of_get hj; rwa [List.length_map] at this
        rw [List.getElem?_map, List.getElem?_eq_getElem hjl] at hj
        rw [Addr_add, hc j hjl]
        simpa using hj
      · obtain ⟨b, _, rfl⟩ := List.mem_map.1 hu
        exact bv_oneCell b
  rcases h with ⟨_, h0⟩ | ⟨g, cap, cur, fz, rfl, h1, h2, h3, h4, h5, h6, h7⟩
  · exact absurd h0 hne
  · have hgl : g < w.heap.size := (Array.getElem?_eq_some_iff.1 h2).1
    have hlen : (bs ++ ys).length = bs.length + ys.length := List.length_append
    by_cases hroom : bs.length + ys.length ≤ cap
    · have hr := run_append_room_src (P := Tryz.prog) (w := w) 57 57 ty 5 i0 Tryz.underlying57 hi g 0 bs.length cap x ys.length (ys.map bv) hsrc hroom (fun j hj => by
        rw [List.length_map] at hj
        rw [hz1, cell_of_row w g _ cur _ fz h2, Nat.mul_one, Nat.zero_add, Array.getElem?_eq_getElem (by omega)]
        rfl) (fun j hj => by
        rw [List.length_map] at hj
        obtain ⟨lo, hi'⟩ := fz
        simp only [World.frozen?, h2, Bool.and_eq_false_iff, decide_eq_false_iff_not, hz1]
        simp only at h3
        omega)
      rw [hz1, Nat.mul_one, Nat.zero_add] at hr
      obtain ⟨cs', e1, e2, e3, e4⟩ := setCells_fz (ys.map bv) h2 (o := bs.length) (by rw [List.length_map]; omega)
      have ht : Turn (· = g) w (w.setCells g bs.length (ys.map bv)) := (Turn.refl (· = g) w).setCells g bs.length (ys.map bv) (.inl rfl)
      refine ⟨_, _, hr, .inr ⟨g, cap, cs', fz, by rw [hlen], h1, e1, by rw [e2]; exact h3, by omega, h5, by omega, ?_⟩, ⟨ht.os, ht.tape, ht.output, ht.size, fun k hk hne' => ht.block k hk (fun e => hne' (by rw [e]; rfl))⟩, .inl rfl⟩
      apply List.ext_getElem?
      intro j
      rw [hlen]
      by_cases hj : j < bs.length
      · rw [List.getElem?_take_of_lt (by omega), Array.getElem?_toList, e3 j hj, ← Array.getElem?_toList, List.map_append, List.getElem?_append_left (by simpa using hj), ← h7, List.getElem?_take_of_lt hj]
      · by_cases hj2 : j < bs.length + ys.length
        · have := e4 (j - bs.length) (by rw [List.length_map]; omega)
          rw [show bs.length + (j - bs.length) = j by omega] at this
          rw [List.getElem?_take_of_lt hj2, Array.getElem?_toList, this, List.map_append, List.getElem?_append_right (by simp; omega), List.length_map]
        · rw [List.getElem?_eq_none (by rw [List.length_take]; omega), List.getElem?_eq_none (by simp; omega)]
    · have holds : ∀ j u, (bs.map bv)[j]? = some u → w.drew.cell? ((⟨g, 0, none⟩ : Addr).add j) = some u := fun j u hj => by
        have hjl : j < bs.length := by have := lt_of_get hj; rwa [List.length_map] at this
        rw [List.getElem?_map, List.getElem?_eq_getElem hjl] at hj
        show w.cell? _ = _
        rw [Addr_add, Nat.zero_add, BytesT.cells (.inr ⟨g, cap, cur, fz, rfl, h1, h2, h3, h4, h5, h6, h7⟩) hjl]
        simpa using hj
      have hfc := run_firstCells_some (P := Tryz.prog) w.drew i0.size bs.length ⟨g, 0, none⟩ bs.length cap (bs.map bv) (by rw [hz1]; simp) holds
      have hr := run_append_grow_src (P := Tryz.prog) (w := w) 57 57 ty 5 i0 (.int .u8 0) Tryz.underlying57 hi hz0 (some ⟨g, 0, none⟩) bs.length cap (bs.map bv) hfc x ys.length (ys.map bv) hsrc (by omega) (by omega) (growslice_fits (by omega) (by rw [hz2]; omega))
      have hge := grownCap_ge w (bs.length + ys.length) cap 5
      have hcm : grownCap w (bs.length + ys.length) cap 5 ≤ maxLen := grownCap_le_maxLen w (bs.length + ys.length) cap 5 (by unfold maxLen; omega)
      refine ⟨_, _, hr, .inr ⟨w.heap.size, _, _, (0, 0), by rw [hlen], hbase, heap_alloc_new w.drew _, .inl rfl, by rw [hlen]; exact hge, hcm, ?_, ?_⟩, ⟨rfl, rfl, rfl, by simp, fun k hk _ => (MapKept.heap_alloc w.drew _).2 k hk⟩, .inr rfl⟩
      · simp only [Array.size_append, List.size_toArray, size_zeroCells, List.length_append, List.length_map]
        have hz : (Value.int IntKind.u8 0).cells.size = 1 := rfl
        rw [hz]
        omega
      · simp only [Array.toList_append]
        rw [hlen, List.take_append_of_le_length (by simp), List.take_of_length_le (by simp), List.map_append]
/-- append(p, b...). -/
theorem wpList_append_rdT {w : World} {ops : Array Oper} {rest : List Oper} {op : Oper} {a : Act} {Q : Exit → Act → World → Prop} (hgd : op.guard = none) (s y : Operand) (ho : op.op = .call { callee := .builtin .append, args := #[s, y], argTypes := #[57, 57] }) (base : Nat) (v : Value) (bs : List UInt8) (hs : a.eval s = v) (h : BytesT w base v bs) (hne : bs ≠ [])
    (x : Value) (ys : List UInt8) (hy : a.eval y = x) (hx : Rd w x ys) (hl : bs.length + ys.length ≤ 100000) (hbase : base ≤ w.heap.size)
    (k : ∀ v' w', BytesT w' base v' (bs ++ ys) → Appd v w w' v' → wpList Tryz.prog ops Q rest (a.put op.dst v') w') : wpList Tryz.prog ops Q (op :: rest) a w := by
  refine wpList_plain hgd fun K hK => ?_
  obtain ⟨v', w', g1, g2, g3, g4⟩ := run_append_rdT base op.type v bs h hne x ys hx hl hbase
  unfold Oper.wp execOp
  simp only [ho, resolve, invoke, builtin, Sem.run_bind, Sem.run_pure, Result.andThen_ok, List.map_toArray, List.map_cons, List.map_nil, hs, hy, g1]
  exact hK _ _ (k v' w' g2 ⟨g3, g4⟩)
end Go.Proofs.YtolieljpnafbhaaGreatDoor
namespace Go.Proofs.YtolieljpnafbhaaGreatDoor
open Go.RowKit Go.Maps
set_option maxHeartbeats 1000000 in
theorem refSum_any (v : Value) (bs : List UInt8) (w : World) (hv : Rd w v bs) : Calls Tryz.prog 116 #[v] w fun e w' => e = .returned (.int .u32 (crcOf bs : Int)) ∧ w = w' := by
  have hx := Lib.hid (refExtend_any v bs w hv)
  go_enter Tryz.func116, Tryz.ntmps116
  go_wp2_with fail
  refine hx.out.mono ?_
  rintro e w1 ⟨rfl, rfl⟩
  go_wp2
  go_ret
  exact ⟨rfl, rfl⟩
set_option maxRecDepth 100000 in
set_option maxHeartbeats 1000000 in
theorem refTag_any (s : ByteArray) (w : World) (hs : s.size ≤ 1000) :
    Calls Tryz.prog 85 #[.string s] w fun e w' => e = .returned (.int .u32 (tagOf s : Int)) ∧ Below w.heap.size w w' := by
  have hr := Lib.hid (refSum_any _ _ _ (Rd_bytesWorld w s hs))
  have hb := Lib.hid (Joins.below_bytesWorld w.heap.size w 5 s (Nat.le_refl _))
  have hcv := fun W => Lib.run_convert_string_bytes (P := Tryz.prog) W 9 57 5 s Tryz.underlying9 Tryz.underlying57 Tryz.underlying5
  go_enter Tryz.func85, Tryz.ntmps85
  go_wp2_with fail
  refine hr.out.mono ?_
  rintro e w1 ⟨rfl, rfl⟩
  go_wp2_with fail
  go_ret
  exact ⟨rfl, hb.out⟩
theorem le_four {x : Nat} (h : x < 65536) : le x 4 = le x 2 ++ le 0 2 := by
  have h2 : x / 256 / 256 = 0 := by omega
  simp only [le, Nat.pow_zero, Nat.div_one, Nat.pow_succ, Nat.one_mul, List.nil_append, List.cons_append]
  rw [show 256 * 256 = 65536 from rfl, show 65536 * 256 = 16777216 from rfl, show x / 65536 = 0 by omega, show x / 16777216 = 0 by omega]
theorem pageBody_ref (tag num : Nat) (bs : List UInt8) (h : bs.length ≤ 240) : pageBody tag num bs = le tag 4 ++ le num 4 ++ le bs.length 4 ++ bs ++ List.replicate (240 - bs.length) 0 := by
  unfold pageBody headBytes
  rw [le_four (x := bs.length) (by omega)]
  simp only [List.append_assoc]
/-- A call's own bytes, made by the call, without an error. -/
def NewBytesTOk (w : World) (bs : List UInt8) (e : Ending) (w' : World) : Prop :=
  ∃ v', e = .returned (.tuple #[v', .int .i64 0]) ∧ BytesT w' w.heap.size v' bs ∧ Below w.heap.size w w'
def vlen : Value → Nat
  | .slice _ n _ => n
  | _ => 0
theorem BytesT.shape {w : World} {base : Nat} {v : Value} {bs : List UInt8} (h : BytesT w base v bs) : ∃ a cap, v = .slice a bs.length cap ∧ bs.length ≤ cap ∧ cap ≤ maxLen := by
  rcases h with ⟨rfl, rfl⟩ | ⟨g, cap, cur, fz, rfl, _, _, _, h1, h2, _⟩
  · exact ⟨none, 0, rfl, Nat.le_refl _, Nat.zero_le _⟩
  · exact ⟨_, cap, rfl, h1, h2⟩
theorem appd_belowT {W0 W W' : World} {v v' : Value} {bs : List UInt8} (hb : Below W0.heap.size W0 W) (hv : BytesT W W0.heap.size v bs) (ha : Appd v W W' v') : Below W0.heap.size W0 W' :=
  (appd_below hb (fun y hy => (hv.lt y hy).1) ha).1
set_option maxRecDepth 100000 in
set_option maxHeartbeats 4000000 in
theorem refMake_any (tag num : Nat) (v : Value) (bs : List UInt8) (w : World) (hv : Rd w v bs) (hl : bs.length ≤ 240) (ht : tag < 4294967296) (hn : num < 4294967296) :
    Calls Tryz.prog 84 #[.int .u32 (tag : Int), .int .u32 (num : Int), v] w (NewBytesTOk w (mkPage tag num bs)) := by
  have hr : Hid (∀ W, Below w.heap.size w W → Rd W v bs) := Lib.hid fun W h => hv.below h
  obtain ⟨a, cap, rfl, hlc, hcm, hc⟩ := hv
  clear hc
  unfold maxLen at hcm
  have hput := Lib.hid refPut_any
  have HPB : Hid (pageBody tag num bs = le tag 4 ++ le num 4 ++ le bs.length 4 ++ bs ++ List.replicate (240 - bs.length) 0) := Lib.hid (pageBody_ref tag num bs hl)
  have HMK : Hid (mkPage tag num bs = pageBody tag num bs ++ le (crcOf (pageBody tag num bs)) 4) := Lib.hid rfl
  have HPL : Hid ((pageBody tag num bs).length = 252) := Lib.hid (pageBody_length tag num bs hl)
  have hlt := crcOf_lt (pageBody tag num bs)
  generalize pageBody tag num bs = body at *
  have hsum0 : Hid (∀ u W, Rd W u body → Calls Tryz.prog 116 #[u] W fun e w' => e = .returned (.int .u32 (crcOf body : Int)) ∧ W = w') := Lib.hid (fun u W h => refSum_any u body W h)
  generalize crcOf body = crc at *
  generalize mkPage tag num bs = page at *
  have hr0 := Lib.hid (BytesT.nil w w.heap.size).rd
  obtain ⟨N, hN⟩ : ∃ N, N = bs.length := ⟨_, rfl⟩
  have HN := Lib.hid hN
  rw [← hN] at hl hlc HPB ⊢
  clear hN
  go_enter Tryz.func84, Tryz.ntmps84
  go_wp2_with fail
  refine (hput.out (.slice none 0 0) [] tag 4 w (.inl rfl) (by omega) hr0.out (by decide)).mono ?_
  rintro e1 w1 ⟨v1, rfl, hb1, hB1⟩
  have HE1 := Lib.hid hB1
  have HR1 := Lib.hid hb1
  clear hb1 hB1
  go_wp2_with fail
  refine (hput.out v1 (le tag 4) num 4 w1 (.inl rfl) (by omega) HR1.out.rd (by rw [le_length]; omega)).mono ?_
  rintro e2 w2 ⟨v2, rfl, hb2, hB2⟩
  have HE2 := Lib.hid (HE1.out.trans (hB2.mono HE1.out.size))
  have HR2 := Lib.hid hb2
  clear hb2 hB2 HR1 HE1
  go_wp2_with fail
  refine (hput.out v2 (le tag 4 ++ le num 4) N 4 w2 (.inl rfl) (by omega) HR2.out.rd (by rw [List.length_append, le_length, le_length]; omega)).mono ?_
  rintro e3 w3 ⟨v3, rfl, hb3, hB3⟩
  have HE3 := Lib.hid (HE2.out.trans (hB3.mono HE2.out.size))
  have HR3 := Lib.hid (hb3.base HE2.out.size)
  have HX3 := Lib.hid (hr.out w3 HE3.out)
  clear hb3 hB3 HR2 HE2
  have hln : (le tag 4 ++ le num 4 ++ le N 4).length + bs.length ≤ 100000 := by simp only [List.length_append, le_length]; rw [← HN.out]; omega
  have hne : le tag 4 ++ le num 4 ++ le N 4 ≠ [] := fun e => by
    have := congrArg List.length e
    simp [le_length] at this
  go_wp2_with (at_builtin; refine wpList_append_rdT rfl _ _ rfl w.heap.size _ _ rfl HR3.out hne _ _ rfl (by rw [HN.out]; exact HX3.out) hln HE3.out.size ?_)
  intro v4 w4 hr4 ha4
  have HE4 := Lib.hid (appd_belowT HE3.out HR3.out ha4)
  obtain ⟨front, hfr⟩ : ∃ front, front = le tag 4 ++ le num 4 ++ le N 4 ++ bs := ⟨_, rfl⟩
  have HR4 : Hid (BytesT w4 w.heap.size v4 front) := Lib.hid (by rw [hfr]; simpa [List.append_assoc] using hr4)
  have HLEN : Hid ((le tag 4 ++ le num 4 ++ le N 4 ++ bs).length = 12 + N) := Lib.hid (by simp only [List.length_append, le_length]; rw [← HN.out])
  clear hr4 ha4 hln hne HR3 HX3 HE3
  rw [← hfr] at HLEN HPB
  clear hfr
  go_wp2
  go_loopw [8] (fun pv W => ∃ j : Nat, j ≤ 240 - N ∧ BytesT W w.heap.size pv (front ++ List.replicate j 0) ∧ Below w.heap.size w W) (fun pv _ => 252 - vlen pv)
  case atStart => exact ⟨0, Nat.zero_le _, by simpa using HR4.out, HE4.out⟩
  case round =>
    generalize wr = W at *
    obtain ⟨j, hj, hb, hB⟩ := hrel
    obtain ⟨pa, pc, rfl, hpc1, hpc2⟩ := hb.shape
    unfold maxLen at hpc2
    have HB := Lib.hid hb
    have HBe := Lib.hid hB
    have hlen : (front ++ List.replicate j (0 : UInt8)).length = 12 + N + j := by rw [List.length_append, HLEN.out, List.length_replicate]
    rw [hlen] at HB hpc1 ⊢
    have HLN := Lib.hid hlen
    clear hb hB hlen
    by_cases hlt2 : j < 240 - N
    · have hsz := HBe.out.size
      have hl100 : (front ++ List.replicate j (0 : UInt8)).length ≤ 100000 := by rw [HLN.out]; omega
      go_wp2_with (at_builtin; refine wpList_append_byteT rfl _ _ rfl w.heap.size _ _ rfl (HB.out.alloc _) 0 W.heap.size 1 rfl ?c1 hl100 ?c2 ?_)
      case c1 => simp [bv]
      case c2 => simp; omega
      intro v5 w5 hb5 hg5
      have HB5 : Hid (BytesT w5 w.heap.size v5 (front ++ List.replicate (j + 1) 0)) := Lib.hid (by
        rw [List.replicate_succ', ← List.append_assoc]
        simpa [List.append_assoc] using hb5)
      have HBe5 : Hid (Below w.heap.size w w5) := Lib.hid ((HBe.out.alloc hsz _).grown hg5 (by simp; omega) (fun k hk => (HB.out.lt k hk).1))
      have hl5 : vlen v5 = 12 + N + j + 1 := by
        obtain ⟨a5, c5, rfl, -⟩ := HB5.out.shape
        show List.length _ = _
        rw [List.length_append, HLEN.out, List.length_replicate]
        omega
      have HL5 := Lib.hid hl5
      clear hb5 hg5 hl5
      go_wp2
      go_roundw
      case rel => exact ⟨j + 1, by omega, HB5.out, HBe5.out⟩
      case measure =>
        rw [HL5.out]
        show 252 - (12 + N + j + 1) < 252 - (12 + N + j)
        omega
    · have hjN : j = 240 - N := by omega
      have HBODY : Hid (BytesT W w.heap.size (.slice pa (12 + N + j) pc) body) := Lib.hid (by
        rw [HPB.out, ← hjN]
        exact HB.out)
      have h252 : 12 + N + j = 252 := by omega
      rw [h252] at HBODY ⊢
      clear hjN h252
      have hsum := Lib.hid (hsum0.out (.slice pa 252 pc) W HBODY.out.rd)
      go_wp2_with fail
      refine hsum.out.mono ?_
      rintro e w' ⟨rfl, rfl⟩
      go_wp2_with fail
      refine (hput.out (.slice pa 252 pc) body crc 4 W (.inl rfl) (by omega) HBODY.out.rd (by rw [HPL.out]; omega)).mono ?_
      rintro e6 w6 ⟨v6, rfl, hb6, hB6⟩
      have HE6 := Lib.hid (HBe.out.trans (hB6.mono HBe.out.size))
      have HR6 : Hid (BytesT w6 w.heap.size v6 page) := Lib.hid (by rw [HMK.out]; exact hb6.base HBe.out.size)
      clear hb6 hB6
      go_wp2
      go_ret2
      exact ⟨_, rfl, HR6.out, HE6.out⟩
end Go.Proofs.YtolieljpnafbhaaGreatDoor
namespace Go.Proofs.YtolieljpnafbhaaGreatDoor
open Go.RowKit Go.Maps
theorem take_one {α : Type} {l : List α} {i : Nat} {x : α} (h : l[i]? = some x) : l.take (i + 1) = l.take i ++ [x] := by
  have hl := (List.getElem?_eq_some_iff.1 h).1
  rw [List.getElem?_eq_getElem hl] at h
  rw [List.take_succ_eq_append_getElem hl, Option.some.inj h]
/-- Records that may be read. -/
def RdRecs (w : World) (v : Value) (rs : List Rec) : Prop :=
  ∃ a cap, v = .slice a rs.length cap ∧ rs.length ≤ cap ∧ cap ≤ maxLen ∧ ∀ (i : Nat) (r : Rec), rs[i]? = some r → ∃ g rv, a = some ⟨g, 0, none⟩ ∧ w.cell? ⟨g, i, none⟩ = some rv ∧ Rd w rv r
theorem RdRecs.below {w w' : World} {v : Value} {rs : List Rec} (h : RdRecs w v rs) (hb : Below w.heap.size w w') : RdRecs w' v rs := by
  obtain ⟨a, cap, rfl, h1, h2, h3⟩ := h
  refine ⟨a, cap, rfl, h1, h2, fun i r hr => ?_⟩
  obtain ⟨g, rv, e1, e2, e3⟩ := h3 i r hr
  exact ⟨g, rv, e1, cellBelow hb e2, e3.below hb⟩
/-- A call's own row of records. -/
def RecsAt (w : World) (base : Nat) (v : Value) (rs : List Rec) : Prop :=
  ∃ l : List (Value × Rec), l.map (·.2) = rs ∧ w.ownsRow base 57 1 v l.length (l.map (·.1)) ∧ ∀ p ∈ l, BytesT w base p.1 p.2
theorem RecsAt.rd {w : World} {base : Nat} {v : Value} {rs : List Rec} (h : RecsAt w base v rs) : RdRecs w v rs := by
  obtain ⟨l, rfl, hr, he⟩ := h
  have hl : (l.map (·.2)).length = l.length := List.length_map _
  have hr0 := hr
  obtain ⟨_, ⟨rfl, h0⟩ | ⟨g, cap, cur, rfl, hg, hh, hc, hm, hs, hx⟩⟩ := hr0
  · refine ⟨none, 0, by rw [hl, h0], by rw [hl]; omega, Nat.zero_le _, fun i r hi => ?_⟩
    have := lt_of_get hi
    omega
  · refine ⟨_, cap, by rw [hl], by rw [hl]; exact hc, hm, fun i r hi => ?_⟩
    rw [List.getElem?_map] at hi
    obtain ⟨p, hp, rfl⟩ := Option.map_eq_some_iff.1 hi
    refine ⟨g, p.1, rfl, ?_, (he p (List.mem_of_getElem? hp)).rd⟩
    have := World.ownsRow.cells hr (g := g) rfl i p.1 (by rw [List.getElem?_map, hp]; rfl)
    rwa [Addr_add, Nat.zero_add] at this
theorem info_bytes : (Tryz.prog.info? 57).map (fun i => (i.zero, i.size, i.bytes)) = some (some (.slice none 0 0), 1, 24) := by kernel_rfl
theorem BytesT.block {w : World} {base : Nat} {v : Value} {bs : List UInt8} (h : BytesT w base v bs) {k : Nat} (hk : v.ownBlock = some k) : ∃ cs fz, w.heap[k]? = some (.cells cs 5 fz) := by
  rcases h with ⟨rfl, _⟩ | ⟨g, cap, cur, fz, rfl, h1, h2, _⟩
  · cases hk
  · cases hk
    exact ⟨_, _, h2⟩
theorem BytesT.one {w : World} {base : Nat} {v : Value} {bs : List UInt8} (h : BytesT w base v bs) : v.oneCell' = true := by
  rcases h with ⟨rfl, _⟩ | ⟨g, cap, cur, fz, rfl, h1, h2, _⟩ <;> rfl
/-- append(out, r), r laid in a block of its own just before. -/
theorem wpList_append_rec {w : World} {ops : Array Oper} {rest : List Oper} {op : Oper} {a : Act} {Q : Exit → Act → World → Prop} (hgd : op.guard = none) (s x : Operand) (ho : op.op = .call { callee := .builtin .append, args := #[s, x], argTypes := #[78, 78] }) (base : Nat) (v : Value) (rs : List Rec) (hs : a.eval s = v) (h : RecsAt w base v rs)
    (rv : Value) (r : Rec) (hr : BytesT w base rv r) (c : Nat) (hx : a.eval x = .slice (some ⟨w.heap.size, 0, none⟩) 1 c) (hl : rs.length ≤ 100000) (hbase : base ≤ w.heap.size)
    (k : ∀ v' w', RecsAt w' base v' (rs ++ [r]) → Appd v (w.alloc (.cells #[rv] 57)) w' v' → wpList Tryz.prog ops Q rest (a.put op.dst v') w') :
    wpList Tryz.prog ops Q (op :: rest) a (w.alloc (.cells #[rv] 57)) := by
  obtain ⟨l, rfl, hrow, he⟩ := h
  have hll : l.length ≤ 100000 := by rwa [List.length_map] at hl
  refine wpList_append_at hgd s x 78 ho base 57 _ 1 24 Tryz.underlying78 info_bytes rfl (by decide) v l.length (l.map (·.1)) hs (World.ownsRow.alloc hrow _) ⟨w.heap.size, 0, none⟩ 1 c [rv] hx rfl (fun j u hj => ?_) (fun u hu => by
    rw [List.mem_singleton.1 hu]
    exact hr.one) (by unfold maxLen; omega) (by omega) (by simp; omega) (fun v' w' h1 h2 => k v' w' ⟨l ++ [(rv, r)], by simp, by rw [List.map_append, List.length_append]; exact h1, fun p hp => ?_⟩ h2)
  · rw [Addr_add, Nat.zero_add]
    match j, hj with
    | 0, hj => cases hj; simp
    | j + 1, hj => cases hj
  · have hp' : BytesT w base p.1 p.2 := by
      rcases List.mem_append.1 hp with hp | hp
      · exact he p hp
      · rw [List.mem_singleton.1 hp]; exact hr
    obtain ⟨hg, _⟩ := h2
    refine hp'.kept (fun y hy => ?_)
    have hlt := (hp'.lt y hy).2
    refine (hg.block y (by simp; omega) (fun e => ?_)).trans ((MapKept.heap_alloc w _).2 y hlt)
    obtain ⟨cs, fz, hb⟩ := hp'.block hy
    obtain ⟨_, ⟨h1, _⟩ | ⟨g, cap, cur, hv, _, hh, _⟩⟩ := hrow
    · rw [h1] at e; cases e
    · rw [hv] at e
      cases e
      rw [hb] at hh
      cases hh
/-- New records. -/
def NewRecs (w : World) (rs : List Rec) (e : Ending) (w' : World) : Prop := ∃ v, e = .returned v ∧ RdRecs w' v rs ∧ Below w.heap.size w w'
/-- Where the records are. -/
def RecsHead (w : World) (rs : List Rec) (i : Nat) (v : Value) (W : World) : Prop := RecsAt W w.heap.size v (rs.take i) ∧ Below w.heap.size w W
theorem RecsAt.nil (w : World) (base : Nat) : RecsAt w base (.slice none 0 0) [] := ⟨[], rfl, World.ownsRow_nil _ _ _ _, fun _ hp => nomatch hp⟩
set_option maxRecDepth 100000 in
set_option maxHeartbeats 1000000 in
theorem refRecords_any (v : Value) (es : List Edg) (w : World) (hv : RdE w v es) (hl : es.length ≤ 10000) : Calls Tryz.prog 42 #[v] w (NewRecs w (es.map Edg.bytes)) := by
  have HV := Lib.hid hv
  obtain ⟨a, cap, rfl, -⟩ := hv
  have HALL : Hid ((es.map Edg.bytes).take es.length = es.map Edg.bytes) := Lib.hid (List.take_of_length_le (by simp))
  generalize hN : es.length = N at *
  have HN := Lib.hid hN
  clear hN
  go_enter Tryz.func42, Tryz.ntmps42
  go_wp2
  go_loopw [3, 4] (fun ov iv W => ∃ i : Nat, i ≤ N ∧ iv = .int .i64 (i : Int) ∧ RecsHead w (es.map Edg.bytes) i ov W) (fun _ iv _ => N - (intOf iv).toNat)
  case atStart => exact ⟨0, Nat.zero_le _, rfl, RecsAt.nil _ _, Below.refl _ _⟩
  case round =>
    generalize u3 = ov at *
    generalize wr = W at *
    obtain ⟨i, hi, rfl, hr, hb⟩ := hrel
    have HR := Lib.hid hr
    have HB := Lib.hid hb
    clear hr hb
    by_cases hlt : i < N
    · have hil : i < es.length := by rw [HN.out]; exact hlt
      obtain ⟨x, hx⟩ : ∃ x, es[i]? = some x := ⟨_, List.getElem?_eq_getElem hil⟩
      have HTK : Hid ((es.map Edg.bytes).take (i + 1) = (es.map Edg.bytes).take i ++ [x.bytes]) := Lib.hid (take_one (by rw [List.getElem?_map, hx]; rfl))
      obtain ⟨-, hcc⟩ := rdE_cells (by rw [← HN.out] at HV; exact HV.out.below HB.out)
      obtain ⟨be, oe, rfl, q0, q1, q2, q3⟩ := hcc W (Below.refl _ _) i x hx
      clear hcc hx hil
      have hre := Lib.hid (refEdge_any x W)
      have hlr : ((es.map Edg.bytes).take i).length ≤ 100000 := by rw [List.length_take]; omega
      have HLR := Lib.hid hlr
      clear hlr
      generalize x.bytes = xb at *
      go_wp2_with fail
      refine hre.out.mono ?_
      rintro e W1 ⟨rv, rfl, hb1, hB1⟩
      have HB1 := Lib.hid (HB.out.trans (hB1.mono HB.out.size))
      obtain ⟨ra, rc, rfl, -⟩ := hb1.shape
      have HRV1 := Lib.hid (hb1.base HB.out.size)
      generalize xb.length = xl at *
      have HR1 : Hid (RecsAt W1 w.heap.size ov ((es.map Edg.bytes).take i)) := Lib.hid (by
        obtain ⟨l, h1, h2, h3⟩ := HR.out
        exact ⟨l, h1, ownsRow_below h2 hB1, fun p hp => (h3 p hp).kept (fun y hy => hB1.block y ((h3 p hp).lt y hy).2)⟩)
      have hz1 : w.heap.size ≤ W1.heap.size := HB1.out.size
      have hlr := HLR.out
      clear hb1 hB1 hre q0 q1 q2 q3 HR
      go_wp2_with (at_builtin; refine wpList_append_rec rfl _ _ rfl w.heap.size ov _ rfl HR1.out (.slice ra xl rc) xb HRV1.out 1 rfl hlr hz1 ?_)
      intro v2 W2 hr2 ha2
      have HR2 : Hid (RecsAt W2 w.heap.size v2 ((es.map Edg.bytes).take (i + 1))) := Lib.hid (by rw [HTK.out]; exact hr2)
      have HB2 : Hid (Below w.heap.size w W2) := Lib.hid (appd_below (HB1.out.alloc hz1 _) (fun y hy => by
        obtain ⟨_, _, h2, _⟩ := HR1.out
        exact ownsRow_block h2 y hy) ha2).1
      clear hr2 ha2 hlr
      go_wp2
      go_roundw
      case rel => exact ⟨i + 1, by omega, by go_num, HR2.out, HB2.out⟩
      case measure => simp [intOf]; omega
    · obtain rfl : N = i := by omega
      have HE : Hid (RdRecs W ov (es.map Edg.bytes)) := Lib.hid (by
        have := HR.out.rd
        rwa [HALL.out] at this)
      go_wp2
      go_ret
      exact ⟨_, rfl, HE.out, HB.out⟩
/-- New bytes that may be read. -/
def NewRd (w : World) (bs : List UInt8) (e : Ending) (w' : World) : Prop := ∃ v, e = .returned v ∧ Rd w' v bs ∧ Below w.heap.size w w'
theorem pages_step {p k : Nat} {rs : List Rec} (hp : 1 ≤ p) (hk : p * k < rs.length) (tag : Nat) : pagesFrom tag 0 ((pagesOf p rs).take (k + 1)) = pagesFrom tag 0 ((pagesOf p rs).take k) ++ mkPage tag k ((rs.drop (p * k)).take p).flatten := by
  have h1 : (pagesOf p rs)[k]? = some ((rs.drop (p * k)).take p).flatten := by rw [pagesOf_get hp, if_pos hk]
  have hl := lt_of_get h1
  rw [take_one h1, pagesFrom_append, Nat.zero_add, List.length_take, Nat.min_eq_left (by omega)]
  show _ = _ ++ _
  rw [show pagesFrom tag k [((rs.drop (p * k)).take p).flatten] = mkPage tag k ((rs.drop (p * k)).take p).flatten ++ [] from rfl, List.append_nil]
/-- Where the pages are. -/
def BytesHead (w : World) (tag p : Nat) (rs : List Rec) (k : Nat) (v : Value) (W : World) : Prop :=
  ∃ n, n = (pagesFrom tag 0 ((pagesOf p rs).take k)).length ∧ W.ownsRow w.heap.size 5 1 v n ((pagesFrom tag 0 ((pagesOf p rs).take k)).map bv) ∧ Below w.heap.size w W
/-- Where a page is. -/
def PageHead (w : World) (p : Nat) (rs : List Rec) (k j : Nat) (v : Value) (W : World) : Prop :=
  ∃ n, n = (((rs.drop (p * k)).take j).flatten).length ∧ W.ownsRow w.heap.size 5 1 v n ((((rs.drop (p * k)).take j).flatten).map bv)
set_option maxRecDepth 100000 in
set_option maxHeartbeats 1000000 in
theorem refBytes_any (name : Name) (hn : name.size ≤ 1000) (v : Value) (p sz : Nat) (rs : List Rec) (w : World) (hv : RdRecs w v rs) (hs : Sized sz rs) (hl : rs.length ≤ 10000) (hp : p = per sz) (hsz : 1 ≤ sz ∧ sz ≤ 240) :
    Calls Tryz.prog 41 #[.string name, v, .int .i64 (p : Int)] w (NewRd w (pagesFrom (tagOf name) 0 (pagesOf (per sz) rs))) := by
  rw [← hp]
  have hp1 : 1 ≤ p := by rw [hp]; exact per_pos hsz.1 hsz.2
  have hpm : sz * p ≤ 240 := by rw [hp]; exact per_mul sz
  have hp240 : p ≤ 240 := Nat.le_trans (Nat.le_mul_of_pos_left _ hsz.1) hpm
  have HPM := Lib.hid hpm
  have HSZ := Lib.hid hs
  have HV : Hid (∀ W, Below w.heap.size w W → RdRecs W v rs) := Lib.hid (fun W hb => hv.below hb)
  have HSH : Hid (Short (pagesOf p rs)) := Lib.hid (by rw [hp]; exact pagesOf_short hs)
  have htag := Lib.hid (fun W => refTag_any name W hn)
  have htl : tagOf name < 4294967296 := crcOf_lt _
  have hmake : Hid (∀ (k : Nat) u bs W, Rd W u bs → bs.length ≤ 240 → k < 4294967296 → Calls Tryz.prog 84 #[.int .u32 (tagOf name : Int), .int .u32 (k : Int), u] W (NewBytesTOk W (mkPage (tagOf name) k bs))) := Lib.hid (fun k u bs W hr hb hk => refMake_any _ k u bs W hr hb htl hk)
  have HST : Hid (∀ k, p * k < rs.length → pagesFrom (tagOf name) 0 ((pagesOf p rs).take (k + 1)) = pagesFrom (tagOf name) 0 ((pagesOf p rs).take k) ++ mkPage (tagOf name) k ((rs.drop (p * k)).take p).flatten) := Lib.hid (fun k hk => pages_step hp1 hk _)
  have HLP : Hid (∀ k, (pagesFrom (tagOf name) 0 ((pagesOf p rs).take k)).length = 256 * min k (pagesOf p rs).length) := Lib.hid (fun k => by rw [pagesFrom_length _ (HSH.out.take k), List.length_take])
  have HPF : Hid ((pagesOf p rs).length ≤ rs.length) := Lib.hid (by
    rw [pagesOf_length]
    rcases Nat.lt_or_ge rs.length (pagesFor p rs.length) with h | h
    · have := (pagesFor_lt (n := rs.length) hp1).1 h
      have := Nat.le_mul_of_pos_left rs.length (show 0 < p by omega)
      omega
    · exact h)
  have HEND : Hid (∀ k, rs.length ≤ p * k → (pagesOf p rs).take k = pagesOf p rs) := Lib.hid (fun k hk => List.take_of_length_le (by
    rw [pagesOf_length]
    rcases Nat.lt_or_ge k (pagesFor p rs.length) with h | h
    · have := (pagesFor_lt hp1).1 h
      omega
    · exact h))
  obtain ⟨va, vc, rfl, hvc1, hvc2, -⟩ := hv
  unfold maxLen at hvc2
  clear hp hs hsz htl hpm HSH
  generalize tagOf name = tag at *
  have hkp : ∀ k : Nat, (p : Int) * (k : Int) = ((p * k : Nat) : Int) := fun k => by rw [Int.natCast_mul]
  have HKP := Lib.hid hkp
  clear hkp
  generalize hN : rs.length = N at *
  have HN := Lib.hid hN
  clear hN
  go_enter Tryz.func41, Tryz.ntmps41
  go_wp2
  go_loopw [7, 8] (fun ov kv W => ∃ k : Nat, p * k ≤ N + p ∧ k ≤ N ∧ kv = .int .i64 (k : Int) ∧ BytesHead w tag p rs k ov W) (fun _ kv _ => N - (intOf kv).toNat)
  case atStart => exact ⟨0, by omega, Nat.zero_le _, rfl, 0, rfl, World.ownsRow_nil _ _ _ _, Below.refl _ _⟩
  case round =>
    generalize u7 = ov at *
    generalize wr = W at *
    obtain ⟨k, hk1, hk2, rfl, on, hon, hr, hb⟩ := hrel
    have HON := Lib.hid hon
    have HR := Lib.hid hr
    have HB := Lib.hid hb
    have hz : w.heap.size ≤ W.heap.size := hb.size
    have hon2 : on ≤ 256 * N := by
      rw [hon, HLP.out]
      have := HPF.out
      have : min k (pagesOf p rs).length ≤ N := by omega
      omega
    clear hr hb hon
    have hm1 := HKP.out k
    obtain ⟨q, hq⟩ : ∃ q, q = p * k := ⟨_, rfl⟩
    rw [← hq] at hm1 hk1
    have hw1 : IntKind.i64.wrap ((q : Nat) : Int) = (q : Int) := wrap_in (by omega) (by omega)
    have HQ := Lib.hid hq
    clear hq
    by_cases hlt : q < N
    · have hm2 : (p : Int) * ((k : Int) + 1) = ((q + p : Nat) : Int) := by
        rw [Int.mul_add, hm1, Int.mul_one, Int.natCast_add]
      have hw2 : IntKind.i64.wrap ((q + p : Nat) : Int) = ((q + p : Nat) : Int) := wrap_in (by omega) (by omega)
      obtain ⟨qp, hqp⟩ : ∃ qp, qp = q + p := ⟨_, rfl⟩
      rw [← hqp] at hm2 hw2
      have HQP := Lib.hid hqp
      have hqp1 : qp ≤ N + 240 := by omega
      have hqp2 : q < qp := by omega
      clear hqp
      go_wp2
      go_loopw [9, 10] (fun bv' iv W1 => ∃ j : Nat, q + j ≤ qp ∧ q + j ≤ N ∧ iv = .int .i64 ((q + j : Nat) : Int) ∧ PageHead w p rs k j bv' W1 ∧ BytesHead w tag p rs k ov W1 ∧ (∀ b, bv'.ownBlock = some b → ov.ownBlock ≠ some b)) (fun _ iv _ => N - (intOf iv).toNat)
      case atStart => exact ⟨0, by omega, by omega, rfl, ⟨0, by simp, by simpa using World.ownsRow_nil W w.heap.size _ 1⟩, ⟨on, HON.out, HR.out, HB.out⟩, fun b hb => by cases hb⟩
      case round =>
        generalize u9 = pv at *
        generalize wr = W1 at *
        obtain ⟨j, hj1, hj2, rfl, ⟨bn, hbn, hbr⟩, ⟨on1, hon1, hor1, hob1⟩, hne1⟩ := hrel
        have HBN := Lib.hid hbn
        have HBR := Lib.hid hbr
        have HON1 := Lib.hid hon1
        have HOR1 := Lib.hid hor1
        have HOB1 := Lib.hid hob1
        have HNE1 := Lib.hid hne1
        have hz1 : w.heap.size ≤ W1.heap.size := hob1.size
        have hbl : bn ≤ sz * p := by
          have hs1 : Sized sz ((rs.drop (p * k)).take j) := (HSZ.out.drop _).take _
          rw [hbn, flat_length hs1]
          refine Nat.mul_le_mul_left _ ?_
          rw [List.length_take]
          have := HQP.out
          omega
        have hbl240 : bn ≤ 240 := Nat.le_trans hbl HPM.out
        clear hbn hbr hon1 hor1 hob1 hne1 hbl
        by_cases hgo : q + j < N ∧ q + j < qp
        · obtain ⟨hg1, hg2⟩ := hgo
          have hil : q + j < rs.length := by rw [HN.out]; exact hg1
          obtain ⟨r, hr⟩ : ∃ r, rs[q + j]? = some r := ⟨_, List.getElem?_eq_getElem hil⟩
          obtain ⟨a', c', hve, -, -, hcell⟩ := HV.out W1 HOB1.out
          obtain ⟨g, rv, rfl, hc, hrd⟩ : ∃ g rv, va = some ⟨g, 0, none⟩ ∧ W1.cell? ⟨g, q + j, none⟩ = some rv ∧ Rd W1 rv r := by
            cases hve
            exact hcell _ r hr
          have HRD := Lib.hid hrd
          have hrl : r.length = sz := HSZ.out r (List.mem_of_getElem? hr)
          have hsz240 : sz ≤ 240 := Nat.le_trans (Nat.le_mul_of_pos_right _ hp1) HPM.out
          have HTK : Hid (((rs.drop (p * k)).take (j + 1)).flatten = ((rs.drop (p * k)).take j).flatten ++ r) := Lib.hid (by
            rw [take_one (x := r) (by rw [List.getElem?_drop, ← HQ.out]; exact hr), List.flatten_append]
            simp)
          have hlen2 : bn + r.length ≤ 100000 := by omega
          have HRL : Hid (r.length = sz) := Lib.hid hrl
          clear hve hcell hrd hr hil hrl
          go_wp2_with (at_builtin; refine wpList_append_rd rfl _ _ 57 rfl w.heap.size 5 Tryz.underlying57 info_u8 pv bn _ rfl HBR.out _ r rfl HRD.out ?c1 ?c2 ?_)
          case c1 => omega
          case c2 => exact hz1
          intro v2 W2 hr2 hg2' hc2
          have HB2 : Hid (PageHead w p rs k (j + 1) v2 W2) := Lib.hid (by
            refine ⟨bn + r.length, by rw [HTK.out, List.length_append, ← HBN.out], ?_⟩
            rw [HTK.out, List.map_append, List.map_flatten, List.map_take, List.map_drop]
            exact hr2)
          have HO2 : Hid (BytesHead w tag p rs k ov W2) := Lib.hid ⟨on1, HON1.out, ownsRow_heap HOR1.out (fun y hy => hg2'.block y (ownBlock_old HOR1.out y hy).1 (fun e => HNE1.out y e.symm hy)), HOB1.out.grown hg2' hz1 (ownsRow_block HBR.out)⟩
          have HNE2 : Hid (∀ b, v2.ownBlock = some b → ov.ownBlock ≠ some b) := Lib.hid (fun b hb he => by
            rcases hc2 with e | e
            · rw [e] at hb
              exact HNE1.out b hb he
            · rw [e] at hb
              have h1 := Option.some.inj hb
              have h2 := (ownBlock_old HOR1.out b he).1
              omega)
          clear hr2 hg2' hc2 hc hlen2
          go_wp2
          go_roundw
          case rel => exact ⟨j + 1, by omega, by omega, by go_num, HB2.out, HO2.out, HNE2.out⟩
          case measure => simp [intOf]; omega
        · have HPG : Hid (((rs.drop (p * k)).take j).flatten = ((rs.drop (p * k)).take p).flatten) := Lib.hid (by
            congr 1
            rcases Nat.lt_or_ge (q + j) qp with h | h
            · have h1 : q + j = N := by omega
              rw [List.take_of_length_le, List.take_of_length_le]
              · rw [List.length_drop, HN.out, ← HQ.out]
                have := HQP.out
                omega
              · rw [List.length_drop, HN.out, ← HQ.out]
                omega
            · have : j = p := by have := HQP.out; omega
              rw [this])
          have hkn : k < N := by
            have := Nat.le_mul_of_pos_left k (show 0 < p by omega)
            have := HQ.out
            omega
          have hwk : IntKind.u32.wrap (k : Int) = (k : Int) := wraps_u32 _ (by omega) (by omega)
          have HPR : Hid (Rd W1 pv (((rs.drop (p * k)).take p).flatten)) := Lib.hid (by
            rw [← HPG.out]
            have := HBR.out
            rw [HBN.out] at this
            exact Rd_own this)
          have HPL : Hid ((((rs.drop (p * k)).take p).flatten).length ≤ 240) := Lib.hid (by rw [← HPG.out, ← HBN.out]; exact hbl240)
          have HPS := Lib.hid (HST.out k (by rw [← HQ.out]; exact hlt))
          have HML : Hid ((mkPage tag k (((rs.drop (p * k)).take p).flatten)).length = 256) := Lib.hid (mkPage_length _ _ _ HPL.out)
          clear HPG
          generalize ((rs.drop (p * k)).take p).flatten = pg at *
          have hgo' : ¬ (q + j < N ∧ q + j < qp) := hgo
          clear hgo
          by_cases hg1 : q + j < N
          all_goals
            first
              | (have hg2 : ¬ q + j < qp := fun h => hgo' ⟨hg1, h⟩)
              | skip
            clear hgo'
            go_wp2_with fail
            refine (htag.out _).mono ?_
            rintro e W2 ⟨rfl, hb2⟩
            have HOB2 := Lib.hid (HOB1.out.trans (hb2.mono HOB1.out.size))
            have HOR2 := Lib.hid (ownsRow_below HOR1.out hb2)
            have hmk := Lib.hid (hmake.out k pv pg W2 (HPR.out.below hb2) HPL.out (by omega))
            clear hb2
            go_wp2_with fail
            refine hmk.out.mono ?_
            rintro e W3 ⟨pv3, rfl, hb3, hB3⟩
            have HOB3 := Lib.hid (HOB2.out.trans (hB3.mono HOB2.out.size))
            have HOR3 := Lib.hid (ownsRow_below HOR2.out hB3)
            have HR3 := Lib.hid hb3.rd
            have hz3 : w.heap.size ≤ W3.heap.size := HOB3.out.size
            clear hb3 hB3 hmk HOB2 HOR2
            have hon1' : on1 ≤ 256 * N := by
              rw [HON1.out, HLP.out]
              have := HPF.out
              have : min k (pagesOf p rs).length ≤ N := by omega
              omega
            go_wp2_with (at_builtin; refine wpList_append_rd rfl _ _ 57 rfl w.heap.size 5 Tryz.underlying57 info_u8 ov on1 _ rfl HOR3.out _ (mkPage tag k pg) rfl HR3.out ?c1 ?c2 ?_)
            case c1 => rw [HML.out]; omega
            case c2 => exact hz3
            intro v4 W4 hr4 hg4 _
            have HH4 : Hid (BytesHead w tag p rs (k + 1) v4 W4) := Lib.hid (by
              refine ⟨on1 + (mkPage tag k pg).length, by rw [HPS.out, List.length_append, ← HON1.out], ?_, HOB3.out.grown hg4 hz3 (ownsRow_block HOR3.out)⟩
              rw [HPS.out, List.map_append]
              exact hr4)
            have HK1 : Hid (p * (k + 1) ≤ N + p) := Lib.hid (by
              rw [Nat.mul_add, Nat.mul_one, ← HQ.out]
              omega)
            clear hr4 hg4
            go_wp2
            go_roundw
            case rel => exact ⟨k + 1, HK1.out, by omega, by go_num, HH4.out⟩
            case measure => simp [intOf]; omega
    · have HE : Hid (Rd W ov (pagesFrom tag 0 (pagesOf p rs))) := Lib.hid (by
        have h1 := HR.out
        rw [HON.out] at h1
        have h2 := Rd_own h1
        rwa [HEND.out k (by rw [← HQ.out]; omega)] at h2)
      go_wp2
      go_ret
      exact ⟨_, rfl, HE.out, HB.out⟩
end Go.Proofs.YtolieljpnafbhaaGreatDoor
namespace Go.Proofs
open Go.Shelf
def Tryz.sortPlaces_ren : Go.Shelf.Ren := ⟨fun | 6 => 88 | 15 => 110 | 14 => 119 | 28 => 152 | 29 => 153 | 20 => 160 | 21 => 161 | 22 => 162 | 23 => 163 | 24 => 164 | 25 => 165 | 26 => 166 | 27 => 167 | 46 => 190 | 47 => 179 | 48 => 180 | 49 => 191 | 50 => 192 | 57 => 216 | n => n, fun | 22 => 84 | 24 => 101 | 25 => 166 | 3 => 3 | 39 => 61 | 0 => 0 | 53 => 23 | 55 => 45 | 4 => 4 | 46 => 216 | 45 => 215 | 50 => 188 | 5 => 5 | 9 => 9 | 66 => 240 | 70 => 244 | 76 => 269 | 77 => 82 | n => n, fun | n => n⟩
theorem Tryz.sortPlaces : Go.Proofs.SlLaysF0.n6 Tryz.prog Tryz.sortPlaces_ren := {
  mixed := by kernel_rfl
  f6 := ⟨Tryz.f88.name, by decide, Tryz.func88.trans (congrArg some (by kernel_rfl))⟩
  f14 := ⟨Tryz.f119.name, by decide, Tryz.func119.trans (congrArg some (by kernel_rfl))⟩
  f15 := Tryz.func110.trans (congrArg some (by kernel_rfl))
  f20 := ⟨Tryz.f160.name, by decide, Tryz.func160.trans (congrArg some (by kernel_rfl))⟩
  f21 := ⟨Tryz.f161.name, by decide, Tryz.func161.trans (congrArg some (by kernel_rfl))⟩
  f22 := ⟨Tryz.f162.name, by decide, Tryz.func162.trans (congrArg some (by kernel_rfl))⟩
  f23 := ⟨Tryz.f163.name, by decide, Tryz.func163.trans (congrArg some (by kernel_rfl))⟩
  f24 := ⟨Tryz.f164.name, by decide, Tryz.func164.trans (congrArg some (by kernel_rfl))⟩
  f25 := ⟨Tryz.f165.name, by decide, Tryz.func165.trans (congrArg some (by kernel_rfl))⟩
  f26 := ⟨Tryz.f166.name, by decide, Tryz.func166.trans (congrArg some (by kernel_rfl))⟩
  f27 := ⟨Tryz.f167.name, by decide, Tryz.func167.trans (congrArg some (by kernel_rfl))⟩
  f28 := Tryz.func152.trans (congrArg some (by kernel_rfl))
  f29 := Tryz.func153.trans (congrArg some (by kernel_rfl))
  f46 := ⟨Tryz.f190.name, by decide, Tryz.func190.trans (congrArg some (by kernel_rfl))⟩
  f47 := Tryz.func179.trans (congrArg some (by kernel_rfl))
  f48 := Tryz.func180.trans (congrArg some (by kernel_rfl))
  f49 := ⟨Tryz.f191.name, by decide, Tryz.func191.trans (congrArg some (by kernel_rfl))⟩
  f50 := ⟨Tryz.f192.name, by decide, Tryz.func192.trans (congrArg some (by kernel_rfl))⟩
  f57 := ⟨Tryz.f216.name, by decide, Tryz.func216.trans (congrArg some (by kernel_rfl))⟩
  t0 := Tryz.underlying0
  a0 := Tryz.isAgg0
  z0 := Tryz.sizeOf0
  v0 := Tryz.zeroValue0
  t3 := Tryz.underlying3
  a3 := Tryz.isAgg3
  z3 := Tryz.sizeOf3
  v3 := Tryz.zeroValue3
  t4 := Tryz.underlying4
  a4 := Tryz.isAgg4
  z4 := Tryz.sizeOf4
  v4 := Tryz.zeroValue4
  t5 := Tryz.underlying5
  a5 := Tryz.isAgg5
  z5 := Tryz.sizeOf5
  v5 := Tryz.zeroValue5
  t9 := Tryz.underlying9
  a9 := Tryz.isAgg9
  z9 := Tryz.sizeOf9
  v9 := Tryz.zeroValue9
  t22 := Tryz.underlying84
  a22 := Tryz.isAgg84
  z22 := Tryz.sizeOf84
  v22 := Tryz.zeroValue84
  t25 := Tryz.underlying166
  a25 := Tryz.isAgg166
  z25 := Tryz.sizeOf166
  v25 := Tryz.zeroValue166
  t39 := Tryz.underlying61
  a39 := Tryz.isAgg61
  z39 := Tryz.sizeOf61
  v39 := Tryz.zeroValue61
  t45 := Tryz.underlying215
  a45 := Tryz.isAgg215
  z45 := Tryz.sizeOf215
  v45 := Tryz.zeroValue215
  t46 := Tryz.underlying216
  a46 := Tryz.isAgg216
  z46 := Tryz.sizeOf216
  v46 := Tryz.zeroValue216
  t50 := Tryz.underlying188
  a50 := Tryz.isAgg188
  z50 := Tryz.sizeOf188
  v50 := Tryz.zeroValue188
  t53 := Tryz.underlying23
  a53 := Tryz.isAgg23
  z53 := Tryz.sizeOf23
  v53 := Tryz.zeroValue23
  t55 := Tryz.underlying45
  a55 := Tryz.isAgg45
  z55 := Tryz.sizeOf45
  v55 := Tryz.zeroValue45
  t66 := Tryz.underlying240
  a66 := Tryz.isAgg240
  z66 := Tryz.sizeOf240
  v66 := Tryz.zeroValue240
  t70 := Tryz.underlying244
  a70 := Tryz.isAgg244
  z70 := Tryz.sizeOf244
  v70 := Tryz.zeroValue244
  t76 := Tryz.underlying269
  a76 := Tryz.isAgg269
  z76 := Tryz.sizeOf269
  v76 := Tryz.zeroValue269
  t77 := Tryz.underlying82
  a77 := Tryz.isAgg82
  z77 := Tryz.sizeOf82
  v77 := Tryz.zeroValue82 }
end Go.Proofs
namespace Go.Proofs.YtolieljpnafbhaaGreatDoor
open Go.RowKit Go.Maps Go.ChangeMaps
def PeakPost (n : Nat) (w : World) (e : Ending) (w' : World) : Prop := ∃ mf : Nat, mf ≤ n ∧ e = .returned (.tuple #[.int .i64 (mf : Int), .int .i64 0]) ∧ Below w.heap.size w w'
set_option maxHeartbeats 1000000 in
theorem peak_any {w : World} {pb db n : Nat} {o : Owner} {d : Dsk} {L : Logic} (h : PoolAt w pb db n o d L) : Calls Tryz.prog 44 #[ptrTo pb] w (PeakPost n w) := by
  obtain ⟨fb, mb, l, hand, mf, hp, rfl, -⟩ := h
  have HF := Lib.hid hp.full
  obtain ⟨⟨hc0, hc1, hc2, hc3, hc4, hc5⟩, -⟩ := hp.head.cells
  clear hp
  unfold ptrTo at *
  go_enter Tryz.func44, Tryz.ntmps44
  go_wp2
  go_quiet (fail)
  go_wp2
  go_ret2
  exact ⟨mf, HF.out, rfl, below_drewN (Below.refl _ _) _⟩
/-- The bytes of a file that was told lie in blocks that are no pool's. -/
theorem FilesAt.free {w : World} {base : Nat} {v : Value} {l : List TFile} (h : FilesAt w base v l) {p : TFile} (hp : p ∈ l) : ∀ b, p.2.1.ownBlock = some b → base ≤ b := fun b hb => ownsRow_block (h.each p hp) b hb
theorem few_keys {l₁ : List Name} : ∀ {l₂ : List Name}, l₁.Nodup → (∀ x ∈ l₁, x ∈ l₂) → l₁.length ≤ l₂.length := by
  induction l₁ with
  | nil => intro l₂ _ _; exact Nat.zero_le _
  | cons a l ih =>
    intro l₂ h hs
    obtain ⟨s, t, rfl⟩ := List.append_of_mem (hs a (by simp))
    rw [List.nodup_cons] at h
    have := ih (l₂ := s ++ t) h.2 (fun x hx => by
      have h1 := hs x (by simp [hx])
      rw [List.mem_append, List.mem_cons] at h1
      rw [List.mem_append]
      rcases h1 with h1 | rfl | h1
      · exact .inl h1
      · exact absurd hx h.1
      · exact .inr h1)
    rw [List.length_append] at this
    rw [List.length_cons, List.length_append, List.length_cons]
    omega
theorem few_sort {L L' : Logic} {out : Name} (hk : (L'.map (·.1)).Nodup) (hot : ∀ x, ¬ ofSort out x → mget L' x = mget L x) : L'.length ≤ L.length + 129 := by
  have h1 := few_keys (l₂ := L.map (·.1) ++ (out :: (List.range 128).map tName)) hk (fun x hx => by
    rw [List.mem_append, List.mem_cons]
    by_cases h : ofSort out x
    · rcases h with h | ⟨k, h1, h2⟩
      · exact .inr (.inl h)
      · exact .inr (.inr (List.mem_map.2 ⟨k, List.mem_range.2 h1, h2.symm⟩))
    · left
      rw [mem_keys] at hx ⊢
      rw [← hot x h]
      exact hx)
  rw [List.length_map, List.length_append, List.length_map, List.length_cons, List.length_map, List.length_range] at h1
  omega
set_option maxRecDepth 100000 in
set_option maxHeartbeats 2000000 in
theorem loose_none {w : World} {db : Nat} {o : Owner} {d : Dsk} (h : DiskAt w db o d) (h0 : d.loose = []) :
    Calls Tryz.prog 45 #[ptrTo db] w fun e w' => e = .returned (.slice none 0 0) ∧ Below w.heap.size w w' := by
  obtain ⟨mf, ml, l, h⟩ := h
  have HD := Lib.hid h
  have hlo := h.loose
  rw [h0] at hlo
  have HLO := Lib.hid hlo
  obtain ⟨⟨hc0, hc1, hc2, hc3, hc4⟩, hf2, hf3, hf4⟩ := h.head.cells
  clear h hc0 hc2 hc3 hc4 hf2 hf3 hf4 hlo h0
  unfold ptrTo
  go_enter Tryz.func45, Tryz.ntmps45
  go_wp2_with (at_range; refine wpList_rng _ rfl _ _ rfl 4 Tryz.underlying138 ml [] rfl HLO.out ?_; intro ob hi0)
  go_frame
  go_loopw [3] (fun v wr => v = .slice none 0 0 ∧ IterAt Tryz.prog 164 nameNum (fun _ : Unit => .bool true) wr ml w.heap.size [] [] ∧ Below w.heap.size w wr) (fun _ wr => wr.rangeLeft ml w.heap.size)
  case atStart => exact ⟨rfl, hi0, (Below.refl _ _).alloc (Nat.le_refl _) _⟩
  case round =>
    generalize wr = W at *
    obtain ⟨rfl, hi, hb⟩ := hrel
    have HB := Lib.hid hb
    have HC := Lib.hid (AnyF.slices_SortFunc_none Tryz.sortPlaces none 0 (.func (.func 89) #[] #[]) W)
    clear hb hi0
    go_wp2_with (at_next; refine wpList_nxt _ rfl _ rfl ml w.heap.size [] [] rfl hi ?_ ?_)
    go_wp2_with fail
    refine HC.out.mono ?_
    rintro e w2 ⟨rfl, rfl⟩
    go_wp2
    go_ret
    exact ⟨rfl, HB.out⟩
section
variable {q : Nat} {w0 w w' : World} {pb db n : Nat} {o : Owner} {d : Dsk} {L : Logic}
/-- Where every file lasts nothing is loose. -/
theorem Kept.tight (h : Kept q w0 w pb db n o d L) (hall : ∀ x f, mget L x = some f → ∃ ps, f = .inl (ps, true)) : d.loose = [] := by
  obtain ⟨_, _, _, _, _, _, _, hs⟩ := h.pool
  rw [List.eq_nil_iff_forall_not_mem]
  rintro ⟨⟨x, s⟩, ⟨⟩⟩ hm
  obtain ⟨f, hf⟩ := Option.isSome_iff_exists.1 (hs.looseIn x s hm)
  obtain ⟨ps, rfl⟩ := hall x f hf
  obtain ⟨_, _, k⟩ := hs.paged _ _ _ hf
  exact (k.lasts rfl).2.2.1 s hm
theorem Kept.disk (h : Kept q w0 w pb db n o d L) : DiskAt w db o d := by
  obtain ⟨_, _, _, _, _, g, _, _⟩ := h.pool
  exact g.disk
theorem Kept.used_le (h : Kept q w0 w pb db n o d L) : usedOf d.files ≤ need L := by
  obtain ⟨_, _, _, _, _, _, _, hs⟩ := h.pool
  exact hs.used_le
theorem kept_used (h : Kept q w0 w pb db n o d L) : Calls Tryz.prog 40 #[ptrTo db] w fun e w' => e = .returned (.int .i64 (usedOf d.files : Int)) ∧ Kept q w0 w' pb db n o d L :=
  (used_any h.disk).mono fun _ _ ⟨h1, h2⟩ => ⟨h1, h.later h2⟩
theorem kept_loose (h : Kept q w0 w pb db n o d L) (hall : ∀ x f, mget L x = some f → ∃ ps, f = .inl (ps, true)) : Calls Tryz.prog 45 #[ptrTo db] w fun e w' => e = .returned (.slice none 0 0) ∧ Kept q w0 w' pb db n o d L :=
  (loose_none h.disk (h.tight hall)).mono fun _ _ ⟨h1, h2⟩ => ⟨h1, h.later h2⟩
end
end Go.Proofs.YtolieljpnafbhaaGreatDoor
namespace Go.Proofs.YtolieljpnafbhaaGreatDoor
open Go.RowKit Go.Maps
set_option maxRecDepth 100000 in
set_option maxHeartbeats 8000000 in
theorem extsortSorts_any (HW : WriteSaid) {m : Nat} (HJS : JobSortSaid m) (hm : 600 ≤ m) (k : Nat) (hk : k < 256) (v : Value) (es : List Edg) (b : Bool) (w : World) (hv : RdE w v es) :
    Calls Tryz.prog 11 #[.int .u8 (k : Int), v, .bool b] w fun e w' => e = .returned (.bool true) ∧ Below w.heap.size w w' := by
  have HV := Lib.hid hv
  have hworks := Lib.hid (works12_any HW HJS (Nat.le_trans (by decide) hm))
  obtain ⟨a, cap, rfl, -⟩ := hv
  by_cases hl : es.length ≤ 600
  · have hl' : ¬ ((es.length : Int) > 600) := by omega
    have hfr := Lib.hid (frames8_any k hk)
    obtain ⟨n, hn⟩ : ∃ n : Nat, n = 8 + k % 56 := ⟨_, rfl⟩
    rw [← hn] at hfr
    have hn8 : 8 ≤ n := by omega
    have hn4 : n ≤ 4096 := by omega
    have hbeg := Lib.hid (begun_any HW 65536 (by decide) n (by omega) hn4 _ es w HV.out (by omega))
    have hsort : Hid (∀ W pb db o d, Kept 65536 w W pb db n o d [(nmIn, edgeFile es true)] → Calls Tryz.prog 28 #[ptrTo pb, .string nmIn, .string nmOut, .int .i64 (byNum b : Int)] W (KeptSortM 65536 w pb db n W o d [(nmOut, edgeFile (bestOf b es) true), (nmIn, edgeFile es true)])) := Lib.hid (fun W pb db o d h => kept_inout HW HJS h hn8 b (by omega) (by omega))
    have hsd : Hid (∀ W, Below w.heap.size w W → Calls Tryz.prog 43 #[.slice a es.length cap, .int .i64 (byNum b : Int)] W (NewEdges W (bestOf b es))) := Lib.hid (fun W hb => sorted_any _ es b W (HV.out.below hb) (by omega))
    have hrec : Hid (∀ W u, RdE W u (bestOf b es) → Calls Tryz.prog 42 #[u] W (NewRecs W ((bestOf b es).map Edg.bytes))) := Lib.hid (fun W u hu => refRecords_any u _ W hu (Nat.le_trans (bestOf_length _ _) (by omega)))
    have hbytes : Hid (∀ W u, RdRecs W u ((bestOf b es).map Edg.bytes) → Calls Tryz.prog 41 #[.string nmOut, u, .int .i64 12] W (NewRd W (pagesFrom (tagOf nmOut) 0 (pagesOf (per 20) ((bestOf b es).map Edg.bytes))))) := Lib.hid (fun W u hu => refBytes_any nmOut (by decide) u 12 20 _ W hu (sized_edges _) (by rw [List.length_map]; exact Nat.le_trans (bestOf_length _ _) (by omega)) (by decide) (by decide))
    have hgetI0 : Hid (mget [(nmIn, edgeFile es true)] nmIn = some (.inl (pagesOf (per 20) (es.map Edg.bytes), true))) := Lib.hid rfl
    have hgetI : Hid (mget [(nmOut, edgeFile (bestOf b es) true), (nmIn, edgeFile es true)] nmIn = some (.inl (pagesOf (per 20) (es.map Edg.bytes), true))) := Lib.hid (by rw [← two_L _ _ (name_ne (by decide)), mget_mput, if_neg (name_ne (by decide))]; rfl)
    have hgetO : Hid (mget [(nmOut, edgeFile (bestOf b es) true), (nmIn, edgeFile es true)] nmOut = some (.inl (pagesOf (per 20) ((bestOf b es).map Edg.bytes), true))) := Lib.hid rfl
    have hlen0 : Hid ([(nmIn, edgeFile es true)].length ≤ 1000) := Lib.hid (by simp)
    have hlen : Hid ([(nmOut, edgeFile (bestOf b es) true), (nmIn, edgeFile es true)].length ≤ 1000) := Lib.hid (by simp)
    have hlen2 : Hid ([(nmOut, edgeFile (bestOf b es) true), (nmIn, edgeFile es true)].length = 2) := Lib.hid rfl
    have hall : Hid (∀ x f, mget [(nmOut, edgeFile (bestOf b es) true), (nmIn, edgeFile es true)] x = some f → ∃ ps, f = .inl (ps, true)) := Lib.hid (fun x f h => by
      rw [← two_L _ _ (name_ne (by decide)), mget_mput] at h
      split at h
      · cases h; exact ⟨_, rfl⟩
      · rw [one_get] at h
        split at h
        · cases h; exact ⟨_, rfl⟩
        · cases h)
    clear hn
    unfold BegunPost at hbeg
    generalize pagesOf (per 20) (es.map Edg.bytes) = PI at *
    generalize hPS : pagesOf (per 20) ((bestOf b es).map Edg.bytes) = PS at *
    clear hPS
    generalize [(nmOut, edgeFile (bestOf b es) true), (nmIn, edgeFile es true)] = LL at *
    generalize [(nmIn, edgeFile es true)] = L0 at *
    unfold nmIn nmOut ptrTo at *
    cases b
    all_goals
      go_enter Tryz.func11, Tryz.ntmps11
      go_wp2_with fail
      refine (hfr.out _).mono ?_
      rintro e w' ⟨rfl, rfl⟩
      go_wp2_with fail
      refine hbeg.out.mono ?_
      rintro e w1 ⟨db, pb, o1, d1, rfl, hh1⟩
      have HH1 := Lib.hid hh1
      clear hh1 hfr hbeg
      have hf1 := Lib.hid (kept_files HH1.out hlen0.out)
      unfold ptrTo at hf1
      go_wp2_with fail
      refine hf1.out.mono ?_
      rintro e w2 ⟨v2, l2, rfl, hfa2, hh2, hb2, hl2, -, hnm2, he2⟩
      have HFA2 := Lib.hid hfa2
      have HH2 := Lib.hid hh2
      have HE2 := Lib.hid he2
      have hfo1 := Lib.hid (fileOf12_any hfa2 (by rw [hl2]; exact hlen0.out) nmIn ((hnm2 _).2 (by unfold nmIn; rw [hgetI0.out]; rfl)))
      clear hfa2 hh2 hb2 hl2 hnm2 he2 hf1
      unfold nmIn at hfo1
      go_wp2_with fail
      refine hfo1.out.mono ?_
      rintro e w' ⟨p2, hp2, hpn2, rfl, rfl⟩
      have HR2 := Lib.hid (told_bytes HH2.out HFA2.out HE2.out hp2 hpn2 hgetI0.out)
      have HFR2 : Hid (∀ b, p2.2.1.ownBlock = some b → o1 b = none) := Lib.hid (fun b hb => HH1.out.pool.fresh (HFA2.out.free hp2 b hb))
      have hs1 := Lib.hid (hsort.out w2 pb db o1 d1 HH2.out)
      clear hp2 hpn2 hfo1 HE2 HFA2 HH1
      generalize p2.2.1 = v2' at *
      go_wp2_with fail
      refine hs1.out.mono ?_
      rintro e w3 ⟨d3, o3, rfl, hh3, hm3⟩
      have HR3 := Lib.hid (hm3.rd HR2.out (fun b hb => ⟨HFR2.out b hb, fun h => h⟩))
      have HH3 := Lib.hid hh3
      clear hh3 hm3 hs1 HH2 HR2 HFR2
      have hf4 := Lib.hid (kept_files HH3.out hlen.out)
      unfold ptrTo at hf4
      go_wp2_with fail
      refine hf4.out.mono ?_
      rintro e w4 ⟨v4, l4, rfl, hfa4, hh4, hb4, hl4, -, hnm4, he4⟩
      have HFA4 := Lib.hid hfa4
      have HH4 := Lib.hid hh4
      have HR4 := Lib.hid (HR3.out.below hb4)
      have HE4 := Lib.hid he4
      have hfo4 := Lib.hid (fileOf12_any hfa4 (by rw [hl4]; exact hlen.out) nmIn ((hnm4 _).2 (by unfold nmIn; rw [hgetI.out]; rfl)))
      clear hfa4 hh4 hb4 hl4 hnm4 he4 hf4 HH3 HR3
      unfold nmIn at hfo4
      go_wp2_with fail
      refine hfo4.out.mono ?_
      rintro e w' ⟨p4, hp4, hpn4, rfl, rfl⟩
      have HN4 := Lib.hid (told_bytes HH4.out HFA4.out HE4.out hp4 hpn4 hgetI.out)
      clear hp4 hpn4 hfo4 HE4 HFA4
      generalize p4.2.1 = v4' at *
      have hf5 := Lib.hid (kept_files HH4.out hlen.out)
      unfold ptrTo at hf5
      go_wp2_with fail
      refine hf5.out.mono ?_
      rintro e w5 ⟨v5, l5, rfl, hfa5, hh5, hb5, hl5, -, hnm5, he5⟩
      have HFA5 := Lib.hid hfa5
      have HH5 := Lib.hid hh5
      have HR5 := Lib.hid (HR4.out.below hb5)
      have HN5 := Lib.hid (HN4.out.below hb5)
      have HE5 := Lib.hid he5
      have hfo5 := Lib.hid (fileOf12_any hfa5 (by rw [hl5]; exact hlen.out) nmOut ((hnm5 _).2 (by unfold nmOut; rw [hgetO.out]; rfl)))
      clear hfa5 hh5 hb5 hl5 hnm5 he5 hf5 HH4 HR4 HN4
      unfold nmOut at hfo5
      go_wp2_with fail
      refine hfo5.out.mono ?_
      rintro e w' ⟨p5, hp5, hpn5, rfl, rfl⟩
      have HO5 := Lib.hid (told_bytes HH5.out HFA5.out HE5.out hp5 hpn5 hgetO.out)
      clear hp5 hpn5 hfo5 HE5 HFA5
      generalize p5.2.1 = v5' at *
      have hs6 := Lib.hid (hsd.out w5 HH5.out.below)
      go_wp2_with fail
      refine hs6.out.mono ?_
      rintro e w6 ⟨u6, rfl, hu6, hb6⟩
      have hr7 := Lib.hid (hrec.out w6 u6 (rdE_own hu6))
      have HH6 := Lib.hid (HH5.out.later hb6)
      have HR6 := Lib.hid (HR5.out.below hb6)
      have HN6 := Lib.hid (HN5.out.below hb6)
      have HO6 := Lib.hid (HO5.out.below hb6)
      clear hu6 hb6 hs6 HH5 HR5 HN5 HO5
      go_wp2_with fail
      refine hr7.out.mono ?_
      rintro e w7 ⟨u7, rfl, hu7, hb7⟩
      have hr8 := Lib.hid (hbytes.out w7 u7 hu7)
      have HH7 := Lib.hid (HH6.out.later hb7)
      have HR7 := Lib.hid (HR6.out.below hb7)
      have HN7 := Lib.hid (HN6.out.below hb7)
      have HO7 := Lib.hid (HO6.out.below hb7)
      clear hu7 hb7 hr7 HH6 HR6 HN6 HO6
      go_wp2_with fail
      refine hr8.out.mono ?_
      rintro e w8 ⟨u8, rfl, hu8, hb8⟩
      have HH8 := Lib.hid (HH7.out.later hb8)
      have hq1 : Hid (∀ W, Below w8.heap.size w8 W → Calls Tryz.prog 36 #[v5', u8] W fun e w' => e = .returned (.bool true) ∧ W = w') := Lib.hid (fun W hW => eqBytes_same ((HO7.out.below hb8).below hW) (hu8.below hW))
      have hq2 : Hid (∀ W, Below w8.heap.size w8 W → Calls Tryz.prog 36 #[v2', v4'] W fun e w' => e = .returned (.bool true) ∧ W = w') := Lib.hid (fun W hW => eqBytes_same ((HR7.out.below hb8).below hW) ((HN7.out.below hb8).below hW))
      have hpk := Lib.hid (peak_any HH8.out.pool)
      clear hu8 hb8 hr8 HH7 HR7 HN7 HO7
      unfold ptrTo at *
      go_wp2_with fail
      refine hpk.out.mono ?_
      rintro e w8' ⟨mf, hmf, rfl, hb8'⟩
      have HQ1' := Lib.hid (hq1.out w8' hb8')
      have HQ2' := Lib.hid (hq2.out w8' hb8')
      have HH8' := Lib.hid (HH8.out.later hb8')
      have hnm := Lib.hid (names_kept HH8'.out hlen.out)
      rw [hlen2.out] at hnm
      unfold ptrTo at hnm
      clear hb8' hq1 hq2
      go_wp2_with fail
      refine HQ1'.out.mono ?_
      rintro e w' ⟨rfl, rfl⟩
      go_wp2_with fail
      refine HQ2'.out.mono ?_
      rintro e w' ⟨rfl, rfl⟩
      go_wp2_with fail
      refine hnm.out.mono ?_
      rintro e w9 ⟨a9, c9, rfl, hh9⟩
      have HH9 := Lib.hid hh9
      have hlo := Lib.hid (kept_loose HH9.out hall.out)
      clear hh9 hnm HH8 HH8' HQ1' HQ2'
      unfold ptrTo at hlo
      go_wp2_with fail
      refine hlo.out.mono ?_
      rintro e w10 ⟨rfl, hh10⟩
      have HH10 := Lib.hid hh10
      have hfr := Lib.hid (poolFrames_any HH10.out.pool)
      clear hh10 hlo HH9
      unfold ptrTo at hfr
      go_wp2_with fail
      refine hfr.out.mono ?_
      rintro e w' ⟨rfl, rfl⟩
      have hmfn : decide ((mf : Int) ≤ (n : Int)) = true := by rw [decide_eq_true_eq]; omega
      have hmfn' : (mf : Int) ≤ (n : Int) := by omega
      go_wp2_with fail
      refine (hworks.out _).mono ?_
      rintro e w11 ⟨rfl, h11⟩
      have HBF := Lib.hid (HH10.out.below.trans (h11.mono HH10.out.below.size))
      clear h11
      go_wp2
      go_ret
      exact ⟨rfl, HBF.out⟩
  · have hl' : ((es.length : Int) > 600) := by omega
    go_enter Tryz.func11, Tryz.ntmps11
    go_wp2_with fail
    refine (hworks.out _).mono ?_
    rintro e w10 ⟨rfl, h10⟩
    go_wp2
    go_ret
    exact ⟨rfl, h10⟩
end Go.Proofs.YtolieljpnafbhaaGreatDoor
namespace Go.Proofs.YtolieljpnafbhaaGreatDoor
open Go.RowKit Go.Maps
section
variable {q : Nat} {w0 w w' : World} {pb db n : Nat} {o o' : Owner} {d d' : Dsk} {L L' : Logic}
/-- Sorted, or refused for want of room, and what went in stands. -/
def FullSort (q : Nat) (w0 : World) (pb db n : Nat) (w : World) (o : Owner) (d : Dsk) (es : List Edg) (e : Ending) (w' : World) : Prop :=
  ∃ c d' o' L', e = .returned (.int .i64 ((c : Nat) : Int)) ∧ Kept q w0 w' pb db n o' d' L' ∧ Moved (fun _ => False) n pb db w o d w' o' d' L' ∧ L'.length ≤ 1000 ∧ mget L' nmIn = some (.inl (pagesOf (per 20) (es.map Edg.bytes), true)) ∧
    ((c = 0 ∧ mget L' nmOut = some (.inl (pagesOf (per 20) ((bestOf false es).map Edg.bytes), true))) ∨ c = 5)
theorem kept_full (HW : WriteSaid) {m : Nat} (HJS : JobSortSaid m) {es : List Edg} (h : Kept q w0 w pb db n o d [(nmIn, edgeFile es true)]) (hn : 8 ≤ n) (hm : es.length ≤ m) :
    Calls Tryz.prog 28 #[ptrTo pb, .string nmIn, .string nmOut, .int .i64 0] w (FullSort q w0 pb db n w o d es) := by
  have hc := clean_one (x := nmIn) (by decide) (edgeFile es true)
  have hLin : mget [(nmIn, edgeFile es true)] nmIn = some (edgeFile es true) := by rw [one_get, if_pos rfl]
  refine (sort_done (by' := false) HW HJS h.pool hn hLin (name_ne (by decide)) (by decide) (by decide) (by decide) (by rw [one_get, if_neg (name_ne (by decide))]) hc.t hm).mono ?_
  rintro e w' ⟨c, d', o', L', rfl, hmv, hot, hcc⟩
  have hnin : ¬ ofSort nmOut nmIn := fun e => by
    rcases e with e | ⟨k, _, e⟩
    · exact absurd e (name_ne (by decide))
    · have h1 := ownName_t k
      rw [← e] at h1
      exact absurd h1 (by decide)
  refine ⟨c, d', o', L', rfl, h.moved hmv (fun _ h => h.elim), hmv, ?_, by rw [hot _ hnin, hLin]; rfl, ?_⟩
  · have := few_sort hmv.pool.keys hot
    simp at this
    omega
  · rcases hcc with ⟨h0, hL⟩ | hc
    · exact .inl ⟨h0, by rw [hL, mget_mput, if_pos rfl]; rfl⟩
    · rcases hc with ⟨h5, _⟩ | ⟨_, h6⟩
      · exact .inr h5
      · rw [(hmv.on.calm h.armed).2 h.dead] at h6
        cases h6
theorem kept_quota (h : Kept q w0 w pb db n o d L) (q2 : Nat) (hq : q2 ≤ 1048576) : Calls Tryz.prog 39 #[ptrTo db, .int .i64 (q2 : Int)] w fun e w' => e = .returned (.int .i64 0) ∧ Kept q2 w0 w' pb db n o { d with quota := q2 } L :=
  (quota_any h.pool q2 hq).mono fun _ _ ⟨h1, h2, h3⟩ => ⟨h1, h.quoted h2 h3⟩
end
set_option maxRecDepth 100000 in
set_option maxHeartbeats 8000000 in
theorem extsortFull_any (HW : WriteSaid) {m : Nat} (HJS : JobSortSaid m) (hm : 600 ≤ m) (k : Nat) (hk : k < 256) (v : Value) (es : List Edg) (rm : Nat) (hrm : rm < 65536) (w : World) (hv : RdE w v es) :
    Calls Tryz.prog 9 #[.int .u8 (k : Int), v, .int .u16 (rm : Int)] w fun e w' => e = .returned (.bool true) ∧ Below w.heap.size w w' := by
  have HV := Lib.hid hv
  have hworks := Lib.hid (works12_any HW HJS (Nat.le_trans (by decide) hm))
  obtain ⟨a, cap, rfl, -⟩ := hv
  by_cases hl : es.length ≤ 600
  · have hl' : ¬ ((es.length : Int) > 600) := by omega
    have hfr := Lib.hid (frames8_any k hk)
    obtain ⟨n, hn⟩ : ∃ n : Nat, n = 8 + k % 56 := ⟨_, rfl⟩
    rw [← hn] at hfr
    have hn8 : 8 ≤ n := by omega
    have hn4 : n ≤ 4096 := by omega
    have hbeg := Lib.hid (begun_any HW 65536 (by decide) n (by omega) hn4 _ es w HV.out (by omega))
    have hsort : Hid (∀ q W pb db o d, Kept q w W pb db n o d [(nmIn, edgeFile es true)] → Calls Tryz.prog 28 #[ptrTo pb, .string nmIn, .string nmOut, .int .i64 0] W (FullSort q w pb db n W o d es)) := Lib.hid (fun q W pb db o d h => kept_full HW HJS h hn8 (by omega))
    have hsd : Hid (∀ W, Below w.heap.size w W → Calls Tryz.prog 43 #[.slice a es.length cap, .int .i64 0] W (NewEdges W (bestOf false es))) := Lib.hid (fun W hb => sorted_any _ es false W (HV.out.below hb) (by omega))
    have hrec : Hid (∀ W u, RdE W u (bestOf false es) → Calls Tryz.prog 42 #[u] W (NewRecs W ((bestOf false es).map Edg.bytes))) := Lib.hid (fun W u hu => refRecords_any u _ W hu (Nat.le_trans (bestOf_length _ _) (by omega)))
    have hbytes : Hid (∀ W u, RdRecs W u ((bestOf false es).map Edg.bytes) → Calls Tryz.prog 41 #[.string nmOut, u, .int .i64 12] W (NewRd W (pagesFrom (tagOf nmOut) 0 (pagesOf (per 20) ((bestOf false es).map Edg.bytes))))) := Lib.hid (fun W u hu => refBytes_any nmOut (by decide) u 12 20 _ W hu (sized_edges _) (by rw [List.length_map]; exact Nat.le_trans (bestOf_length _ _) (by omega)) (by decide) (by decide))
    have hgetI0 : Hid (mget [(nmIn, edgeFile es true)] nmIn = some (.inl (pagesOf (per 20) (es.map Edg.bytes), true))) := Lib.hid rfl
    have hlen0 : Hid ([(nmIn, edgeFile es true)].length ≤ 1000) := Lib.hid (by simp)
    have hneed : Hid (need [(nmIn, edgeFile es true)] ≤ 2400) := Lib.hid (by
      rw [need_cons]
      have := edgeFile_need es true
      show (edgeFile es true).need + 0 ≤ _
      omega)
    obtain ⟨z, hz⟩ : ∃ z : Nat, (z : Int) = (rm : Int) % 400 := ⟨rm % 400, by omega⟩
    have hzz : (rm : Int) % 400 = (z : Int) := hz.symm
    have hz4 : z < 400 := by omega
    have hwr : IntKind.i64.wrap (rm : Int) = (rm : Int) := wrap_in (by omega) (by omega)
    clear hn hz
    unfold FullSort at hsort
    unfold BegunPost at hbeg
    generalize pagesOf (per 20) (es.map Edg.bytes) = PI at *
    generalize pagesOf (per 20) ((bestOf false es).map Edg.bytes) = PS at *
    generalize [(nmIn, edgeFile es true)] = L0 at *
    unfold nmIn nmOut ptrTo at *
    go_enter Tryz.func9, Tryz.ntmps9
    go_wp2_with fail
    refine (hfr.out _).mono ?_
    rintro e w' ⟨rfl, rfl⟩
    go_wp2_with fail
    refine hbeg.out.mono ?_
    rintro e w1 ⟨db, pb, o1, d1, rfl, hh1⟩
    have HH1 := Lib.hid hh1
    have hus := Lib.hid (kept_used HH1.out)
    have hul := HH1.out.used_le
    clear hh1 hfr hbeg
    unfold ptrTo at *
    go_wp2_with fail
    refine hus.out.mono ?_
    rintro e w2 ⟨rfl, hh2⟩
    have HH2 := Lib.hid hh2
    have hu2 : usedOf d1.files ≤ 2400 := Nat.le_trans hul hneed.out
    clear hh2 hus HH1 hul
    generalize usedOf d1.files = us at *
    obtain ⟨q2, hq2⟩ : ∃ q2 : Nat, q2 = us + z := ⟨_, rfl⟩
    have hqi : (us : Int) + (z : Int) = (q2 : Int) := by omega
    have hqw : IntKind.i64.wrap (q2 : Int) = (q2 : Int) := wrap_in (by omega) (by omega)
    have hqt := Lib.hid (kept_quota HH2.out q2 (by omega))
    clear hq2
    unfold ptrTo at *
    go_wp2_with fail
    refine hqt.out.mono ?_
    rintro e w3 ⟨rfl, hh3⟩
    have HH3 := Lib.hid hh3
    have hf1 := Lib.hid (kept_files HH3.out hlen0.out)
    clear hh3 hqt HH2 hqi hqw hzz
    unfold ptrTo at hf1
    go_wp2_with fail
    refine hf1.out.mono ?_
    rintro e w4 ⟨v4, l4, rfl, hfa4, hh4, hb4, hl4, -, hnm4, he4⟩
    have HFA4 := Lib.hid hfa4
    have HH4 := Lib.hid hh4
    have HE4 := Lib.hid he4
    have hfo4 := Lib.hid (fileOf12_any hfa4 (by rw [hl4]; exact hlen0.out) nmIn ((hnm4 _).2 (by unfold nmIn; rw [hgetI0.out]; rfl)))
    clear hfa4 hh4 hb4 hl4 hnm4 he4 hf1
    unfold nmIn at hfo4
    go_wp2_with fail
    refine hfo4.out.mono ?_
    rintro e w' ⟨p4, hp4, hpn4, rfl, rfl⟩
    have HR4 := Lib.hid (told_bytes HH4.out HFA4.out HE4.out hp4 hpn4 hgetI0.out)
    have HFR4 : Hid (∀ b, p4.2.1.ownBlock = some b → o1 b = none) := Lib.hid (fun b hb => HH3.out.pool.fresh (HFA4.out.free hp4 b hb))
    have hs5 := Lib.hid (hsort.out q2 w4 pb db o1 _ HH4.out)
    clear hp4 hpn4 hfo4 HE4 HFA4 HH3
    generalize p4.2.1 = v4' at *
    go_wp2_with fail
    refine hs5.out.mono ?_
    rintro e w5 ⟨c5, d5, o5, L5, rfl, hh5, hm5, hlen5, hgi5, hc5⟩
    have HR5 := Lib.hid (hm5.rd HR4.out (fun b hb => ⟨HFR4.out b hb, fun h => h⟩))
    have HH5 := Lib.hid hh5
    have HLEN5 := Lib.hid hlen5
    have HGI5 := Lib.hid hgi5
    have HC5 := Lib.hid hc5
    have hf6 := Lib.hid (kept_files HH5.out hlen5)
    clear hh5 hm5 hlen5 hgi5 hc5 hs5 HR4 HFR4 HH4 hsort
    unfold ptrTo at hf6
    go_wp2_with fail
    refine hf6.out.mono ?_
    rintro e w6 ⟨v6, l6, rfl, hfa6, hh6, hb6, hl6, -, hnm6, he6⟩
    have HFA6 := Lib.hid hfa6
    have HH6 := Lib.hid hh6
    have HR6 := Lib.hid (HR5.out.below hb6)
    have HE6 := Lib.hid he6
    have hfo6 := Lib.hid (fileOf12_any hfa6 (by rw [hl6]; exact HLEN5.out) nmIn ((hnm6 _).2 (by unfold nmIn; rw [HGI5.out]; rfl)))
    clear hfa6 hh6 hb6 hl6 hnm6 he6 hf6 HH5 HR5
    unfold nmIn at hfo6
    go_wp2_with fail
    refine hfo6.out.mono ?_
    rintro e w' ⟨p6, hp6, hpn6, rfl, rfl⟩
    have HN6 := Lib.hid (told_bytes HH6.out HFA6.out HE6.out hp6 hpn6 HGI5.out)
    have HQ6 := Lib.hid (eqBytes_same HR6.out HN6.out)
    clear hp6 hpn6 hfo6 HE6 HFA6 HR6 HN6
    generalize p6.2.1 = v6' at *
    go_wp2_with fail
    refine HQ6.out.mono ?_
    rintro e w' ⟨rfl, rfl⟩
    clear HQ6
    rcases HC5.out with ⟨rfl, hgo5⟩ | rfl
    · have HGO5 := Lib.hid hgo5
      have hf7 := Lib.hid (kept_files HH6.out HLEN5.out)
      clear hgo5 HC5
      unfold ptrTo at hf7
      go_wp2_with fail
      refine hf7.out.mono ?_
      rintro e w7 ⟨v7, l7, rfl, hfa7, hh7, hb7, hl7, -, hnm7, he7⟩
      have HFA7 := Lib.hid hfa7
      have HH7 := Lib.hid hh7
      have HE7 := Lib.hid he7
      have hfo7 := Lib.hid (fileOf12_any hfa7 (by rw [hl7]; exact HLEN5.out) nmOut ((hnm7 _).2 (by unfold nmOut; rw [HGO5.out]; rfl)))
      clear hfa7 hh7 hb7 hl7 hnm7 he7 hf7 HH6
      unfold nmOut at hfo7
      go_wp2_with fail
      refine hfo7.out.mono ?_
      rintro e w' ⟨p7, hp7, hpn7, rfl, rfl⟩
      have HO7 := Lib.hid (told_bytes HH7.out HFA7.out HE7.out hp7 hpn7 HGO5.out)
      have hs8 := Lib.hid (hsd.out w7 HH7.out.below)
      clear hp7 hpn7 hfo7 HE7 HFA7
      generalize p7.2.1 = v7' at *
      go_wp2_with fail
      refine hs8.out.mono ?_
      rintro e w8 ⟨u8, rfl, hu8, hb8⟩
      have hr9 := Lib.hid (hrec.out w8 u8 (rdE_own hu8))
      have HH8 := Lib.hid (HH7.out.later hb8)
      have HO8 := Lib.hid (HO7.out.below hb8)
      clear hu8 hb8 hs8 HH7 HO7
      go_wp2_with fail
      refine hr9.out.mono ?_
      rintro e w9 ⟨u9, rfl, hu9, hb9⟩
      have hr10 := Lib.hid (hbytes.out w9 u9 hu9)
      have HH9 := Lib.hid (HH8.out.later hb9)
      have HO9 := Lib.hid (HO8.out.below hb9)
      clear hu9 hb9 hr9 HH8 HO8
      go_wp2_with fail
      refine hr10.out.mono ?_
      rintro e w10 ⟨u10, rfl, hu10, hb10⟩
      have HH10 := Lib.hid (HH9.out.later hb10)
      have HQ1 := Lib.hid (eqBytes_same (HO9.out.below hb10) hu10)
      clear hu10 hb10 hr10 HH9 HO9
      go_wp2_with fail
      refine HQ1.out.mono ?_
      rintro e w' ⟨rfl, rfl⟩
      go_wp2_with fail
      refine (hworks.out _).mono ?_
      rintro e w11 ⟨rfl, h11⟩
      have HBF := Lib.hid (HH10.out.below.trans (h11.mono HH10.out.below.size))
      clear h11
      go_wp2
      go_ret
      exact ⟨rfl, HBF.out⟩
    · clear HC5
      go_wp2_with fail
      refine (hworks.out _).mono ?_
      rintro e w11 ⟨rfl, h11⟩
      have HBF := Lib.hid (HH6.out.below.trans (h11.mono HH6.out.below.size))
      clear h11
      go_wp2
      go_ret
      exact ⟨rfl, HBF.out⟩
  · have hl' : ((es.length : Int) > 600) := by omega
    go_enter Tryz.func9, Tryz.ntmps9
    go_wp2_with fail
    refine (hworks.out _).mono ?_
    rintro e w10 ⟨rfl, h10⟩
    go_wp2
    go_ret
    exact ⟨rfl, h10⟩
end Go.Proofs.YtolieljpnafbhaaGreatDoor
