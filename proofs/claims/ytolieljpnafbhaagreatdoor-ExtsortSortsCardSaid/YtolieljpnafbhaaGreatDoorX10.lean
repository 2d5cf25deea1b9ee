/-
  Joined, in build order, what is needed of: SortH, SortP, SortQ, SortC, SortB.
-/
import Derived.Test.YtolieljpnafbhaaGreatDoorX09
import Derived.Sort.LotD5
import Derived.Sort.Walk7
namespace Go.Proofs.YtolieljpnafbhaaGreatDoor
open Go.RowKit Go.Maps Go.Sort
section
variable {bt : Bool} {w0 W W' : World} {jb pb byb made base g cap : Nat} {d : Array Edg}
/-- An exchange of a place with itself. -/
theorem Srt.exchSelf (h : Srt bt w0 jb pb byb made base g cap d W) {i : Nat} (hi : i < d.size) {x : Edg} (hx : d[i]! = x) : ∃ p, i * 4 = p ∧
    (W.cell? ⟨g, p, none⟩ = some (.int .u32 (x.t.toNat : Int)) ∧ W.cell? ⟨g, p + 1, none⟩ = some (.int .u32 (x.h.toNat : Int)) ∧ W.cell? ⟨g, p + 2, none⟩ = some (.int .u64 (x.x.toNat : Int)) ∧ W.cell? ⟨g, p + 3, none⟩ = some (.int .u32 (x.m.toNat : Int))) ∧ (∀ k, W.frozen? ⟨g, k, none⟩ = false) ∧
    Srt bt w0 jb pb byb made base g cap (swp d i i) (((((((((W.setCell ⟨g, p, none⟩ (.int .u32 (x.t.toNat : Int))).setCell ⟨g, p + 1, none⟩ (.int .u32 (x.h.toNat : Int))).setCell ⟨g, p + 2, none⟩ (.int .u64 (x.x.toNat : Int))).setCell ⟨g, p + 3, none⟩ (.int .u32 (x.m.toNat : Int))).setCell ⟨g, p, none⟩ (.int .u32 (x.t.toNat : Int))).setCell ⟨g, p + 1, none⟩ (.int .u32 (x.h.toNat : Int))).setCell ⟨g, p + 2, none⟩ (.int .u64 (x.x.toNat : Int))).setCell ⟨g, p + 3, none⟩ (.int .u32 (x.m.toNat : Int))).drew) := by
  obtain ⟨p, q, hex⟩ := h.exch hi hi hx hx
  have e : p = q := by rw [← hex.hp, ← hex.hq]
  subst e
  exact ⟨p, hex.hp, ⟨hex.p0, hex.p1, hex.p2, hex.p3⟩, hex.fr, hex.done⟩
set_option maxRecDepth 100000 in
set_option maxHeartbeats 8000000 in
theorem heapSort_any (h : Srt bt w0 jb pb byb made base g cap d W) (a b : Nat) (hab : a < b) (hb : b ≤ d.size) (hsz : d.size ≤ 1000000) :
    Calls Tryz.prog 226 #[.slice (some ⟨g, 0, none⟩) d.size cap, .int .i64 (a : Int), .int .i64 (b : Int), cmpFn jb] W (SrtPost bt w0 jb pb byb made base g cap (heapSort (ltOf (cmpE bt)) d a b)) := by
  obtain ⟨n, hn⟩ : ∃ n, b = a + n := ⟨b - a, by omega⟩
  have H := Lib.hid h
  clear h
  obtain ⟨N, hN⟩ : ∃ N, N = d.size := ⟨_, rfl⟩
  rw [← hN] at hb hsz ⊢
  have HN := Lib.hid hN
  clear hN
  have HSD : Hid (∀ (W : World) (dk : Array Edg), dk.size = N → Srt bt w0 jb pb byb made base g cap dk W → ∀ (lo hi : Nat), lo ≤ hi → hi ≤ n → Calls Tryz.prog 240 #[.slice (some ⟨g, 0, none⟩) N cap, .int .i64 (lo : Int), .int .i64 (hi : Int), .int .i64 (a : Int), cmpFn jb] W (SrtPost bt w0 jb pb byb made base g cap (siftDown (ltOf (cmpE bt)) hi a lo dk))) := Lib.hid (fun W dk hs h lo hi h1 h2 => by
    rw [← hs]
    exact siftDown_any h lo hi a h1 (by omega) (by omega))
  have HPL : Hid (heapSort (ltOf (cmpE bt)) d a b = heapPop (ltOf (cmpE bt)) a n (heapBuild (ltOf (cmpE bt)) n a ((n - 1) / 2 + 1) d)) := Lib.hid (by unfold heapSort; rw [show b - a = n by omega])
  have w1 : IntKind.i64.wrap ((b : Int) - (a : Int)) = (n : Int) := by rw [wrap_in] <;> omega
  have w2 : IntKind.i64.wrap ((n : Int) - 1) = (n : Int) - 1 := wrap_in (by omega) (by omega)
  have w3 : IntKind.i64.wrap (((n : Int) - 1).tdiv 2) = (((n - 1) / 2 : Nat) : Int) := by
    rw [show ((n : Int) - 1) = ((n - 1 : Nat) : Int) by omega, show (((n - 1 : Nat) : Int)).tdiv 2 = (((n - 1) / 2 : Nat) : Int) from rfl]
    exact wrap_in (by omega) (by omega)
  obtain ⟨M, hM⟩ : ∃ M, M = (n - 1) / 2 := ⟨_, rfl⟩
  have hMn : M ≤ n := by omega
  rw [← hM] at w3
  have HM := Lib.hid hM
  clear hM
  have hnN : a + n ≤ N := by omega
  have han : (a : Int) < (N : Int) := by omega
  clear hn hab hb
  unfold cmpFn ptrTo at *
  go_enter Tryz.func226, Tryz.ntmps226
  go_wp2
  go_loopw [11] (fun vi wr => ∃ (z : Int) (k : Nat) (dk : Array Edg), vi = .int .i64 z ∧ z = (k : Int) - 1 ∧ k ≤ M + 1 ∧ dk.size = N ∧ Srt bt w0 jb pb byb made base g cap dk wr ∧ Hid (heapBuild (ltOf (cmpE bt)) n a k dk = heapBuild (ltOf (cmpE bt)) n a (M + 1) d)) (fun vi _ => (intOf vi + 1).toNat)
  case atStart => exact ⟨(M : Int), M + 1, d, rfl, by omega, Nat.le_refl _, HN.out.symm, H.out, rfl⟩
  case round =>
    obtain ⟨z, k, dk, rfl, hz, hk, hsk, hs, HO⟩ := hrel
    generalize wr = Wr at *
    have HS := Lib.hid hs
    have HSK := Lib.hid hsk
    clear hs hsk
    cases k with
    | succ kp =>
      obtain rfl : z = (kp : Int) := by omega
      have hz0 : ¬ (kp : Int) < 0 := by omega
      have w4 : IntKind.i64.wrap ((kp : Int) - 1) = (kp : Int) - 1 := wrap_in (by omega) (by omega)
      have hc := Lib.hid (HSD.out Wr dk HSK.out HS.out kp n (by omega) (Nat.le_refl _))
      clear hz
      go_wp2_with fail
      refine hc.out.mono ?_
      rintro e w5 ⟨rfl, hs5⟩
      have HS5 := Lib.hid hs5
      clear hs5 hc
      go_wp2
      refine ⟨⟨(kp : Int) - 1, kp, siftDown (ltOf (cmpE bt)) n a kp dk, rfl, rfl, by omega, by rw [size_siftDown _ n a n kp dk (by omega)]; exact HSK.out, HS5.out, ?_⟩, by simp [intOf]⟩
      show heapBuild _ _ _ _ _ = _
      rw [← HO.out]
      rfl
    | zero =>
      obtain rfl : z = -1 := by omega
      have HB : Hid (heapBuild (ltOf (cmpE bt)) n a (M + 1) d = dk) := Lib.hid HO.out.symm
      clear hz hk HO
      go_wp2
      go_loopw [12] (fun vi wr => ∃ (z : Int) (k : Nat) (dj : Array Edg), vi = .int .i64 z ∧ z = (k : Int) - 1 ∧ k ≤ n ∧ dj.size = N ∧ Srt bt w0 jb pb byb made base g cap dj wr ∧ Hid (heapPop (ltOf (cmpE bt)) a k dj = heapPop (ltOf (cmpE bt)) a n dk)) (fun vi _ => (intOf vi + 1).toNat)
      case atStart => exact ⟨(n : Int) - 1, n, dk, rfl, rfl, Nat.le_refl _, HSK.out, HS.out, rfl⟩
      case round =>
        obtain ⟨z, k, dj, rfl, hz, hk, hsk, hs, HO⟩ := hrel
        generalize wr = Wr2 at *
        have HS2 := Lib.hid hs
        have HSJ := Lib.hid hsk
        clear hs hsk
        cases k with
        | zero =>
          obtain rfl : z = -1 := by omega
          clear hz hk
          go_wp2
          go_end0
          refine ⟨rfl, ?_⟩
          rw [HPL.out, ← HM.out, HB.out, ← HO.out]
          exact HS2.out
        | succ kp =>
          obtain rfl : z = (kp : Int) := by omega
          have hz0 : ¬ (kp : Int) < 0 := by omega
          have w4 : IntKind.i64.wrap ((kp : Int) - 1) = (kp : Int) - 1 := wrap_in (by omega) (by omega)
          obtain ⟨x, hx⟩ : ∃ x, dj[a]! = x := ⟨_, rfl⟩
          clear hz
          cases kp with
          | zero =>
            obtain ⟨pp, hpp, ⟨x0, x1, x2, x3⟩, hfr, hdone⟩ := HS2.out.exchSelf (i := a) (by rw [HSJ.out]; omega) hx
            have HDONE := Lib.hid hdone
            have wQ : IntKind.i64.wrap ((a : Int) + 0) = (a : Int) := by rw [wrap_in] <;> omega
            clear hdone
            have hc := Lib.hid (HSD.out _ (swp dj a a) (by rw [size_swp]; exact HSJ.out) HDONE.out 0 0 (Nat.le_refl _) (Nat.zero_le _))
            simp only [Int.natCast_zero] at hc HDONE
            go_wp2_with fail
            go_big_region
            all_goals
              clear x0 x1 x2 x3 hfr
              go_wp2_with fail
              refine hc.out.mono ?_
              rintro e w5 ⟨rfl, hs5⟩
              have HS5 := Lib.hid hs5
              clear hs5 hc
              go_wp2
              refine ⟨⟨-1, 0, siftDown (ltOf (cmpE bt)) 0 a 0 (swp dj a a), rfl, rfl, Nat.zero_le _, by rw [size_siftDown _ 0 a 0 0 _ (by omega), size_swp]; exact HSJ.out, HS5.out, ?_⟩, by simp [intOf]⟩
              show heapPop _ _ _ _ = _
              rw [← HO.out]
              rfl
          | succ kq =>
            obtain ⟨Q, hQ⟩ : ∃ Q, Q = a + (kq + 1) := ⟨_, rfl⟩
            have wQ : IntKind.i64.wrap ((a : Int) + ((kq : Int) + 1)) = (Q : Int) := by rw [wrap_in] <;> omega
            have bQ : (Q : Int) < (N : Int) := by omega
            have HQ : Hid (Q < dj.size ∧ a < dj.size ∧ a ≠ Q) := Lib.hid (by have := HSJ.out; omega)
            have HQE := Lib.hid hQ
            clear hQ
            obtain ⟨y, hy⟩ : ∃ y, dj[Q]! = y := ⟨_, rfl⟩
            obtain ⟨pp, qq, hex⟩ := HS2.out.exch (i := a) (j := Q) HQ.out.2.1 HQ.out.1 hx hy
            have HEX := Lib.hid hex
            obtain ⟨hpp, hqq, x0, x1, x2, x3, y0, y1, y2, y3, hfr, hap, -⟩ := hex
            obtain ⟨n0, n1, n2, n3, n4, n5, n6⟩ := hap HQ.out.2.2
            have hc := Lib.hid (HSD.out _ (swp dj a Q) (by rw [size_swp]; exact HSJ.out) HEX.out.done 0 (kq + 1) (Nat.zero_le _) (by omega))
            have hcz : ((kq + 1 : Nat) : Int) = (kq : Int) + 1 := by omega
            simp only [Int.natCast_zero, hcz] at hc hz0 w4 ⊢
            clear hap hcz
            go_wp2_with fail
            go_big_region
            all_goals
              clear x0 x1 x2 x3 y0 y1 y2 y3 n0 n1 n2 n3 n4 n5 n6 hfr
              go_wp2_with fail
              refine hc.out.mono ?_
              rintro e w5 ⟨rfl, hs5⟩
              have HS5 := Lib.hid hs5
              clear hs5 hc
              go_wp2
              refine ⟨⟨(kq : Int), kq + 1, siftDown (ltOf (cmpE bt)) (kq + 1) a 0 (swp dj a Q), rfl, by omega, by omega, by rw [size_siftDown _ (kq + 1) a (kq + 1) 0 _ (by omega), size_swp]; exact HSJ.out, HS5.out, ?_⟩, by simp [intOf]; omega⟩
              show heapPop _ _ _ _ = _
              rw [← HO.out, HQE.out]
              rfl
end
end Go.Proofs.YtolieljpnafbhaaGreatDoor
namespace Go.Proofs.YtolieljpnafbhaaGreatDoor
open Go.RowKit Go.Maps Go.Sort
section
variable {bt : Bool} {w0 W W' : World} {jb pb byb made base g cap : Nat} {d : Array Edg}
theorem reverseLoop_go {i j : Nat} {d : Array Edg} (h : i < j) : reverseLoop i j d = reverseLoop (i + 1) (j - 1) (swp d i j) := by
  conv => lhs; unfold reverseLoop
  rw [if_pos h]
theorem reverseLoop_stop {i j : Nat} {d : Array Edg} (h : ¬ i < j) : reverseLoop i j d = d := by
  unfold reverseLoop
  rw [if_neg h]
set_option maxRecDepth 100000 in
set_option maxHeartbeats 8000000 in
theorem reverseRange_any (h : Srt bt w0 jb pb byb made base g cap d W) (a b : Nat) (hab : a < b) (hb : b ≤ d.size) (hsz : d.size ≤ 1000000) :
    Calls Tryz.prog 229 #[.slice (some ⟨g, 0, none⟩) d.size cap, .int .i64 (a : Int), .int .i64 (b : Int), cmpFn jb] W (SrtPost bt w0 jb pb byb made base g cap (reverseRange d a b)) := by
  have H := Lib.hid h
  clear h
  obtain ⟨N, hN⟩ : ∃ N, N = d.size := ⟨_, rfl⟩
  rw [← hN] at hb hsz ⊢
  have HN := Lib.hid hN
  clear hN
  obtain ⟨j0, hj0⟩ : ∃ j0, j0 = b - 1 := ⟨_, rfl⟩
  have w1 : IntKind.i64.wrap ((b : Int) - 1) = (j0 : Int) := by rw [wrap_in] <;> omega
  have hj0N : j0 < N := by omega
  have HJ0 := Lib.hid hj0
  clear hj0
  unfold cmpFn ptrTo
  go_enter Tryz.func229, Tryz.ntmps229
  go_wp2
  go_loopw [8, 9] (fun vi vj wr => ∃ (i j : Nat) (dk : Array Edg), vi = .int .i64 (i : Int) ∧ vj = .int .i64 (j : Int) ∧ i ≤ N ∧ j < N ∧ dk.size = N ∧ Srt bt w0 jb pb byb made base g cap dk wr ∧ Hid (reverseLoop i j dk = reverseLoop a j0 d)) (fun _ vj _ => (intOf vj).toNat)
  case atStart => exact ⟨a, j0, d, rfl, rfl, by omega, hj0N, HN.out.symm, H.out, rfl⟩
  case round =>
    obtain ⟨i, j, dk, rfl, rfl, hi, hj, hsk, hs, HO⟩ := hrel
    generalize wr = Wr at *
    have HS := Lib.hid hs
    have HSK := Lib.hid hsk
    clear hs hsk
    by_cases hij : i < j
    · obtain ⟨j', hj'⟩ : ∃ j', j = j' + 1 := ⟨j - 1, by omega⟩
      have hijz : (i : Int) < (j : Int) := by omega
      have wi : IntKind.i64.wrap ((i : Int) + 1) = (i : Int) + 1 := wrap_in (by omega) (by omega)
      have wj : IntKind.i64.wrap ((j : Int) - 1) = (j' : Int) := by rw [wrap_in] <;> omega
      have bi : (i : Int) < (N : Int) := by omega
      have bj : (j : Int) < (N : Int) := by omega
      have hjj : j' < j ∧ i + 1 ≤ N := by omega
      obtain ⟨x, hx⟩ : ∃ x, dk[i]! = x := ⟨_, rfl⟩
      obtain ⟨y, hy⟩ : ∃ y, dk[j]! = y := ⟨_, rfl⟩
      obtain ⟨pp, qq, hex⟩ := HS.out.exch (i := i) (j := j) (by rw [HSK.out]; omega) (by rw [HSK.out]; omega) hx hy
      have HEX := Lib.hid hex
      obtain ⟨hpp, hqq, x0, x1, x2, x3, y0, y1, y2, y3, hfr, hap, -⟩ := hex
      obtain ⟨n0, n1, n2, n3, n4, n5, n6⟩ := hap (by omega)
      have HJ' := Lib.hid hj'
      clear hap hj'
      go_wp2_with fail
      go_big_region
      all_goals
        clear x0 x1 x2 x3 y0 y1 y2 y3 n0 n1 n2 n3 n4 n5 n6 hfr
        go_wp2
        refine ⟨⟨i + 1, j', swp dk i j, by go_num, rfl, hjj.2, by omega, by rw [size_swp]; exact HSK.out, HEX.out.done, ?_⟩, by simp [intOf]; omega⟩
        show reverseLoop _ _ _ = _
        rw [← HO.out, reverseLoop_go hij, show j - 1 = j' by have := HJ'.out; omega]
    · have hijz : ¬ (i : Int) < (j : Int) := by omega
      go_wp2
      go_end0
      refine ⟨rfl, ?_⟩
      rw [show reverseRange d a b = dk from by unfold reverseRange; rw [← HJ0.out, ← HO.out, reverseLoop_stop (by omega)]]
      exact HS.out
/-- A row of edges, and beside it a counter of the call's own. -/
structure Cnt (bt : Bool) (w0 : World) (jb pb byb made base g cap : Nat) (d : Array Edg) (c s : Nat) (W : World) : Prop where
  srt : Srt bt w0 jb pb byb made base g cap d W
  box : ∃ T, W.heap[c]? = some (.cells #[.int .i64 (s : Int)] T (0, 0))
  new : w0.heap.size ≤ c
  ng : c ≠ g
  nj : c ≠ jb
  nb : c ≠ byb
variable {c s : Nat}
theorem Cnt.below (h : Cnt bt w0 jb pb byb made base g cap d c s W) (hb : RowKit.Below W.heap.size W W') : Cnt bt w0 jb pb byb made base g cap d c s W' := by
  obtain ⟨T, hT⟩ := h.box
  exact ⟨h.srt.below hb, ⟨T, by rw [hb.block c (Array.getElem?_eq_some_iff.1 hT).1]; exact hT⟩, h.new, h.ng, h.nj, h.nb⟩
theorem Cnt.cell (h : Cnt bt w0 jb pb byb made base g cap d c s W) : W.cell? ⟨c, 0, none⟩ = some (.int .i64 (s : Int)) ∧ W.frozen? ⟨c, 0, none⟩ = false := by
  obtain ⟨T, hT⟩ := h.box
  exact ⟨by rw [cells_cell hT]; rfl, cells_frozen hT _⟩
theorem Cnt.bump (h : Cnt bt w0 jb pb byb made base g cap d c s W) (t : Nat) : Cnt bt w0 jb pb byb made base g cap d c t (W.setCell ⟨c, 0, none⟩ (.int .i64 (t : Int))) := by
  obtain ⟨T, hT⟩ := h.box
  have ht : Turn (· = c) W (W.setCell ⟨c, 0, none⟩ (.int .i64 (t : Int))) := Turn.setCell (Turn.refl _ _) _ _ (.inl rfl)
  refine ⟨⟨ht.ownsRow h.srt.row (fun b hb e => ?_), h.srt.job.kept (ht.block _ h.srt.job.lt.1 (fun e => h.nj e.symm)) (ht.block _ h.srt.job.lt.2 (fun e => h.nb e.symm)), h.srt.nj, h.srt.nb, h.srt.turn.setCell _ _ (.inr h.new)⟩, ⟨T, by rw [cells_set hT]; rfl⟩, h.new, h.ng, h.nj, h.nb⟩
  have : b = g := by
    have := hb
    simp [Value.ownBlock] at this
    exact this.symm
  exact h.ng (by rw [← e, this])
def CntPost (bt : Bool) (w0 : World) (jb pb byb made base g cap : Nat) (d : Array Edg) (c s : Nat) (v : Value) (e : Ending) (w' : World) : Prop := e = .returned v ∧ Cnt bt w0 jb pb byb made base g cap d c s w'
set_option maxRecDepth 100000 in
set_option maxHeartbeats 4000000 in
theorem order2_any (h : Cnt bt w0 jb pb byb made base g cap d c s W) (a b : Nat) (ha : a < d.size) (hb : b < d.size) (hs : s ≤ 1000) :
    Calls Tryz.prog 244 #[.slice (some ⟨g, 0, none⟩) d.size cap, .int .i64 (a : Int), .int .i64 (b : Int), ptrTo c, cmpFn jb] W
      (CntPost bt w0 jb pb byb made base g cap d c (order2 (ltOf (cmpE bt)) d a b s).2.2 (.tuple #[.int .i64 ((order2 (ltOf (cmpE bt)) d a b s).1 : Int), .int .i64 ((order2 (ltOf (cmpE bt)) d a b s).2.1 : Int)])) := by
  have H := Lib.hid h
  have ba : (a : Int) < (d.size : Int) := by omega
  have bb : (b : Int) < (d.size : Int) := by omega
  have ws : IntKind.i64.wrap ((s : Int) + 1) = ((s + 1 : Nat) : Int) := by rw [wrap_in] <;> omega
  obtain ⟨x, hx⟩ : ∃ x, d[b]! = x := ⟨_, rfl⟩
  obtain ⟨y, hy⟩ : ∃ y, d[a]! = y := ⟨_, rfl⟩
  have F := Lib.hid (h.srt.reads (i := b) (j := a) hb ha hx hy)
  unfold order2
  rw [hx, hy]
  clear h ha hb
  unfold cmpFn ptrTo
  by_cases hl : cmpE bt x y < 0
  · rw [if_pos (show ltOf (cmpE bt) x y = true from decide_eq_true hl)]
    generalize d.size = N at *
    go_enter Tryz.func244, Tryz.ntmps244
    go_wp2_with fail
    refine wp_region_quiet_in (Below W.heap.size W) (by kernel_rfl) (by kernel_rfl) ((Below.refl _ _).drew) ?_
    iterate 4 (refine q_op rfl (fun w' hw' => (by go_simp <;> rfl)) (fun K hK => ?_); go_simp; refine hK _ ?_; clear hK K)
    refine q_op rfl (fun w' hw' => (by obtain ⟨⟨c0, c1, c2, c3⟩, -, -⟩ := F.out w' hw'; go_simp <;> rfl)) (fun K hK => ?_); go_simp; refine hK _ ?_; clear hK K
    iterate 3 (refine q_op rfl (fun w' hw' => (by go_simp <;> rfl)) (fun K hK => ?_); go_simp; refine hK _ ?_; clear hK K)
    refine q_op rfl (fun w' hw' => (by obtain ⟨-, ⟨c0, c1, c2, c3⟩, -⟩ := F.out w' hw'; go_simp <;> rfl)) (fun K hK => ?_); go_simp; refine hK _ ?_; clear hK K
    refine q_call rfl (fun w' hw' => (by go_simp <;> rfl)) (fun w' hw' => ((F.out w' hw').2.2)) (fun K hK => ?_); go_simp; refine hK _ ?_; clear hK K
    iterate 1 (refine q_op rfl (fun w' hw' => (by go_simp <;> rfl)) (fun K hK => ?_); go_simp; refine hK _ ?_; clear hK K)
    refine wpQuiet_nil ?_
    intro w3 hw3
    have H3 := Lib.hid (H.out.below hw3)
    clear hw3
    have hbump := Lib.hid (H3.out.bump (s + 1))
    obtain ⟨hc, hf⟩ := H3.out.cell
    go_wp2
    go_ret2
    exact ⟨rfl, hbump.out⟩
  · rw [if_neg (show ¬ ltOf (cmpE bt) x y = true from fun e => hl (of_decide_eq_true e))]
    generalize d.size = N at *
    go_enter Tryz.func244, Tryz.ntmps244
    go_wp2_with fail
    refine wp_region_quiet_in (Below W.heap.size W) (by kernel_rfl) (by kernel_rfl) ((Below.refl _ _).drew) ?_
    iterate 4 (refine q_op rfl (fun w' hw' => (by go_simp <;> rfl)) (fun K hK => ?_); go_simp; refine hK _ ?_; clear hK K)
    refine q_op rfl (fun w' hw' => (by obtain ⟨⟨c0, c1, c2, c3⟩, -, -⟩ := F.out w' hw'; go_simp <;> rfl)) (fun K hK => ?_); go_simp; refine hK _ ?_; clear hK K
    iterate 3 (refine q_op rfl (fun w' hw' => (by go_simp <;> rfl)) (fun K hK => ?_); go_simp; refine hK _ ?_; clear hK K)
    refine q_op rfl (fun w' hw' => (by obtain ⟨-, ⟨c0, c1, c2, c3⟩, -⟩ := F.out w' hw'; go_simp <;> rfl)) (fun K hK => ?_); go_simp; refine hK _ ?_; clear hK K
    refine q_call rfl (fun w' hw' => (by go_simp <;> rfl)) (fun w' hw' => ((F.out w' hw').2.2)) (fun K hK => ?_); go_simp; refine hK _ ?_; clear hK K
    iterate 1 (refine q_op rfl (fun w' hw' => (by go_simp <;> rfl)) (fun K hK => ?_); go_simp; refine hK _ ?_; clear hK K)
    refine wpQuiet_nil ?_
    intro w3 hw3
    have H3 := Lib.hid (H.out.below hw3)
    clear hw3
    go_wp2
    go_ret2
    exact ⟨rfl, H3.out⟩
end
end Go.Proofs.YtolieljpnafbhaaGreatDoor
namespace Go.Proofs.YtolieljpnafbhaaGreatDoor
open Go.RowKit Go.Maps Go.Sort
section
variable {bt : Bool} {w0 W W' : World} {jb pb byb made base g cap c s : Nat} {d : Array Edg}
theorem order2_in (lt : Edg → Edg → Bool) (d : Array Edg) {a b s N : Nat} (ha : a < N) (hb : b < N) : (order2 lt d a b s).1 < N ∧ (order2 lt d a b s).2.1 < N ∧ (order2 lt d a b s).2.2 ≤ s + 1 := by
  unfold order2
  split <;> exact ⟨by assumption, by assumption, by simp⟩
theorem median_in (lt : Edg → Edg → Bool) (d : Array Edg) {a b c s N : Nat} (ha : a < N) (hb : b < N) (hc : c < N) : (median lt d a b c s).1 < N ∧ (median lt d a b c s).2 ≤ s + 3 := by
  unfold median
  obtain ⟨h1, h2, h3⟩ := order2_in lt d (s := s) ha hb
  obtain ⟨k1, k2, k3⟩ := order2_in lt d (s := (order2 lt d a b s).2.2) h2 hc
  obtain ⟨q1, q2, q3⟩ := order2_in lt d (s := (order2 lt d (order2 lt d a b s).2.1 c (order2 lt d a b s).2.2).2.2) h1 k1
  exact ⟨q2, Nat.le_trans q3 (by omega)⟩
set_option maxRecDepth 100000 in
set_option maxHeartbeats 4000000 in
theorem median_any (h : Cnt bt w0 jb pb byb made base g cap d c s W) (a b k : Nat) (ha : a < d.size) (hb : b < d.size) (hk : k < d.size) (hs : s ≤ 900) :
    Calls Tryz.prog 242 #[.slice (some ⟨g, 0, none⟩) d.size cap, .int .i64 (a : Int), .int .i64 (b : Int), .int .i64 (k : Int), ptrTo c, cmpFn jb] W
      (CntPost bt w0 jb pb byb made base g cap d c (median (ltOf (cmpE bt)) d a b k s).2 (.int .i64 ((median (ltOf (cmpE bt)) d a b k s).1 : Int))) := by
  have HO : Hid (∀ W a b s, Cnt bt w0 jb pb byb made base g cap d c s W → a < d.size → b < d.size → s ≤ 1000 → Calls Tryz.prog 244 #[.slice (some ⟨g, 0, none⟩) d.size cap, .int .i64 (a : Int), .int .i64 (b : Int), ptrTo c, cmpFn jb] W
      (CntPost bt w0 jb pb byb made base g cap d c (order2 (ltOf (cmpE bt)) d a b s).2.2 (.tuple #[.int .i64 ((order2 (ltOf (cmpE bt)) d a b s).1 : Int), .int .i64 ((order2 (ltOf (cmpE bt)) d a b s).2.1 : Int)]))) := Lib.hid (fun W a b s h ha hb hs => order2_any h a b ha hb hs)
  have H := Lib.hid h
  unfold median
  obtain ⟨p1, p2, p3⟩ := order2_in (ltOf (cmpE bt)) d (s := s) ha hb
  have hc1 := Lib.hid (HO.out W a b s h ha hb (by omega))
  generalize order2 (ltOf (cmpE bt)) d a b s = r1 at *
  obtain ⟨x1, y1, s1⟩ := r1
  dsimp only at *
  obtain ⟨q1, q2, q3⟩ := order2_in (ltOf (cmpE bt)) d (s := s1) p2 hk
  have hc2 : Hid (∀ W, Cnt bt w0 jb pb byb made base g cap d c s1 W → _) := Lib.hid (fun W h => HO.out W y1 k s1 h p2 hk (by omega))
  generalize order2 (ltOf (cmpE bt)) d y1 k s1 = r2 at *
  obtain ⟨x2, y2, s2⟩ := r2
  dsimp only at *
  have hc3 : Hid (∀ W, Cnt bt w0 jb pb byb made base g cap d c s2 W → _) := Lib.hid (fun W h => HO.out W x1 x2 s2 h p1 q1 (by omega))
  generalize order2 (ltOf (cmpE bt)) d x1 x2 s2 = r3 at *
  obtain ⟨x3, y3, s3⟩ := r3
  dsimp only at *
  clear h HO p1 p2 p3 q1 q2 q3 ha hb hk hs
  unfold cmpFn ptrTo at *
  generalize d.size = N at *
  go_enter Tryz.func242, Tryz.ntmps242
  go_wp2_with fail
  refine hc1.out.mono ?_
  rintro e w1 ⟨rfl, h1⟩
  have hc2' := Lib.hid (hc2.out w1 h1)
  clear h1 hc1 hc2
  go_wp2_with fail
  refine hc2'.out.mono ?_
  rintro e w2 ⟨rfl, h2⟩
  have hc3' := Lib.hid (hc3.out w2 h2)
  clear h2 hc2' hc3
  go_wp2_with fail
  refine hc3'.out.mono ?_
  rintro e w3 ⟨rfl, h3⟩
  have H3 := Lib.hid h3
  clear h3 hc3'
  go_wp2
  go_ret
  exact ⟨rfl, H3.out⟩
set_option maxHeartbeats 1000000 in
theorem medianAdjacent_any (h : Cnt bt w0 jb pb byb made base g cap d c s W) (a : Nat) (h0 : 1 ≤ a) (ha : a + 1 < d.size) (hsz : d.size ≤ 1000000) (hs : s ≤ 900) :
    Calls Tryz.prog 241 #[.slice (some ⟨g, 0, none⟩) d.size cap, .int .i64 (a : Int), ptrTo c, cmpFn jb] W
      (CntPost bt w0 jb pb byb made base g cap d c (medianAdjacent (ltOf (cmpE bt)) d a s).2 (.int .i64 ((medianAdjacent (ltOf (cmpE bt)) d a s).1 : Int))) := by
  have hm := Lib.hid (median_any h (a - 1) a (a + 1) (by omega) (by omega) ha hs)
  have w1 : IntKind.i64.wrap ((a : Int) - 1) = ((a - 1 : Nat) : Int) := by rw [wrap_in] <;> omega
  have w2 : IntKind.i64.wrap ((a : Int) + 1) = ((a + 1 : Nat) : Int) := by rw [wrap_in] <;> omega
  unfold medianAdjacent
  clear h h0 ha
  unfold cmpFn ptrTo at *
  generalize median (ltOf (cmpE bt)) d (a - 1) a (a + 1) s = r at *
  generalize a - 1 = A0 at *
  generalize a + 1 = A1 at *
  generalize d.size = N at *
  go_enter Tryz.func241, Tryz.ntmps241
  go_wp2_with fail
  refine hm.out.mono ?_
  rintro e w1 ⟨rfl, h1⟩
  have H1 := Lib.hid h1
  clear h1 hm
  go_wp2
  go_ret
  exact ⟨rfl, H1.out⟩
end
end Go.Proofs.YtolieljpnafbhaaGreatDoor
namespace Go.Proofs.YtolieljpnafbhaaGreatDoor
open Go.RowKit Go.Maps Go.Sort
section
variable {bt : Bool} {w0 W W' : World} {jb pb byb made base g cap c s : Nat} {d : Array Edg}
def hintN : Hint → Nat
  | .unknown => 0
  | .increasing => 1
  | .decreasing => 2
theorem Srt.count (h : Srt bt w0 jb pb byb made base g cap d W) (T : TypeId) : Cnt bt w0 jb pb byb made base g cap d W.heap.size 0 (W.alloc (.cells #[.int .i64 0] T)) := by
  have hg : g < W.heap.size := by
    obtain ⟨_, ⟨h0, _⟩ | ⟨g', cap', cur, hv, _, hh, _⟩⟩ := h.row
    · cases h0
    · cases hv
      exact (Array.getElem?_eq_some_iff.1 hh).1
  have := h.job.lt
  exact ⟨h.below ((Below.refl _ _).alloc (Nat.le_refl _) _), ⟨T, heap_alloc_new W _⟩, h.turn.size, by omega, by omega, by omega⟩
def PivPost (bt : Bool) (w0 : World) (jb pb byb made base g cap : Nat) (d : Array Edg) (r : Nat × Hint) (e : Ending) (w' : World) : Prop :=
  e = .returned (.tuple #[.int .i64 (r.1 : Int), .int .i64 (hintN r.2 : Int)]) ∧ Srt bt w0 jb pb byb made base g cap d w'
theorem choose_mid {lt : Edg → Edg → Bool} {d : Array Edg} {a b I J K : Nat} {m : Nat × Nat} (h8 : 8 ≤ b - a) (h50 : ¬ 50 ≤ b - a) (hI : I = a + (b - a) / 4 * 1) (hJ : J = a + (b - a) / 4 * 2) (hK : K = a + (b - a) / 4 * 3) (hm : median lt d I J K 0 = m) :
    choosePivot lt d a b = (m.1, if m.2 = 0 then .increasing else if m.2 = 12 then .decreasing else .unknown) := by
  subst hI hJ hK hm
  unfold choosePivot
  simp only [ge_iff_le, h8, h50, if_true, if_false]
theorem choose_far {lt : Edg → Edg → Bool} {d : Array Edg} {a b I J K : Nat} {ri rj rk m : Nat × Nat} (h50 : 50 ≤ b - a) (hI : I = a + (b - a) / 4 * 1) (hJ : J = a + (b - a) / 4 * 2) (hK : K = a + (b - a) / 4 * 3)
    (h1 : medianAdjacent lt d I 0 = ri) (h2 : medianAdjacent lt d J ri.2 = rj) (h3 : medianAdjacent lt d K rj.2 = rk) (hm : median lt d ri.1 rj.1 rk.1 rk.2 = m) :
    choosePivot lt d a b = (m.1, if m.2 = 0 then .increasing else if m.2 = 12 then .decreasing else .unknown) := by
  subst hI hJ hK h1 h2 h3 hm
  have h8 : 8 ≤ b - a := by omega
  unfold choosePivot
  simp only [ge_iff_le, h8, h50, if_true]
theorem adj_in (lt : Edg → Edg → Bool) (d : Array Edg) {a s N : Nat} (ha : a + 1 < N) : (medianAdjacent lt d a s).1 < N ∧ (medianAdjacent lt d a s).2 ≤ s + 3 :=
  median_in lt d (by omega) (by omega) ha
set_option maxRecDepth 100000 in
set_option maxHeartbeats 8000000 in
theorem choosePivot_any (h : Srt bt w0 jb pb byb made base g cap d W) (a b : Nat) (hl : 12 < b - a) (hb : b ≤ d.size) (hsz : d.size ≤ 1000000) :
    Calls Tryz.prog 228 #[.slice (some ⟨g, 0, none⟩) d.size cap, .int .i64 (a : Int), .int .i64 (b : Int), cmpFn jb] W (PivPost bt w0 jb pb byb made base g cap d (choosePivot (ltOf (cmpE bt)) d a b)) := by
  have HC0 := Lib.hid (h.count 3)
  obtain ⟨L, hL⟩ : ∃ L, L = b - a := ⟨_, rfl⟩
  obtain ⟨Q, hQ⟩ : ∃ Q, Q = (b - a) / 4 := ⟨_, rfl⟩
  obtain ⟨Q2, hQ2⟩ : ∃ Q2, Q2 = Q * 2 := ⟨_, rfl⟩
  obtain ⟨Q3, hQ3⟩ : ∃ Q3, Q3 = Q * 3 := ⟨_, rfl⟩
  obtain ⟨I, hI⟩ : ∃ I, I = a + Q := ⟨_, rfl⟩
  obtain ⟨J, hJ⟩ : ∃ J, J = a + Q2 := ⟨_, rfl⟩
  obtain ⟨K, hK⟩ : ∃ K, K = a + Q3 := ⟨_, rfl⟩
  have wL : IntKind.i64.wrap ((b : Int) - (a : Int)) = (L : Int) := by rw [wrap_in] <;> omega
  have wQ : IntKind.i64.wrap ((L : Int) / 4) = (Q : Int) := by rw [wrap_in] <;> omega
  have wQ1 : IntKind.i64.wrap (Q : Int) = (Q : Int) := wrap_in (by omega) (by omega)
  have wQ2 : IntKind.i64.wrap ((Q : Int) * 2) = (Q2 : Int) := by rw [wrap_in] <;> omega
  have wQ3 : IntKind.i64.wrap ((Q : Int) * 3) = (Q3 : Int) := by rw [wrap_in] <;> omega
  have wI : IntKind.i64.wrap ((a : Int) + (Q : Int)) = (I : Int) := by rw [wrap_in] <;> omega
  have wJ : IntKind.i64.wrap ((a : Int) + (Q2 : Int)) = (J : Int) := by rw [wrap_in] <;> omega
  have wK : IntKind.i64.wrap ((a : Int) + (Q3 : Int)) = (K : Int) := by rw [wrap_in] <;> omega
  have l8 : ¬ (L : Int) < 8 := by omega
  have HIJ : Hid (I + 1 < d.size ∧ J + 1 < d.size ∧ K + 1 < d.size ∧ 1 ≤ I ∧ 1 ≤ J ∧ 1 ≤ K) := Lib.hid (by omega)
  have hI' : I = a + (b - a) / 4 * 1 := by omega
  have hJ' : J = a + (b - a) / 4 * 2 := by omega
  have hK' : K = a + (b - a) / 4 * 3 := by omega
  by_cases h50 : 50 ≤ b - a
  · have l50 : ¬ (L : Int) < 50 := by omega
    obtain ⟨ri, h1⟩ : ∃ r, medianAdjacent (ltOf (cmpE bt)) d I 0 = r := ⟨_, rfl⟩
    obtain ⟨rj, h2⟩ : ∃ r, medianAdjacent (ltOf (cmpE bt)) d J ri.2 = r := ⟨_, rfl⟩
    obtain ⟨rk, h3⟩ : ∃ r, medianAdjacent (ltOf (cmpE bt)) d K rj.2 = r := ⟨_, rfl⟩
    obtain ⟨m, hm⟩ : ∃ r, median (ltOf (cmpE bt)) d ri.1 rj.1 rk.1 rk.2 = r := ⟨_, rfl⟩
    have HT := Lib.hid (choose_far h50 hI' hJ' hK' h1 h2 h3 hm)
    have bi := adj_in (ltOf (cmpE bt)) d (s := 0) HIJ.out.1
    rw [h1] at bi
    have bj := adj_in (ltOf (cmpE bt)) d (s := ri.2) HIJ.out.2.1
    rw [h2] at bj
    have bk := adj_in (ltOf (cmpE bt)) d (s := rj.2) HIJ.out.2.2.1
    rw [h3] at bk
    have C1 : Hid (∀ W', Cnt bt w0 jb pb byb made base g cap d W.heap.size 0 W' → Calls Tryz.prog 241 #[.slice (some ⟨g, 0, none⟩) d.size cap, .int .i64 (I : Int), ptrTo W.heap.size, cmpFn jb] W' (CntPost bt w0 jb pb byb made base g cap d W.heap.size ri.2 (.int .i64 (ri.1 : Int)))) := Lib.hid (fun W' h => by
      have := medianAdjacent_any h I HIJ.out.2.2.2.1 HIJ.out.1 hsz (by omega)
      rwa [h1] at this)
    have C2 : Hid (∀ W', Cnt bt w0 jb pb byb made base g cap d W.heap.size ri.2 W' → Calls Tryz.prog 241 #[.slice (some ⟨g, 0, none⟩) d.size cap, .int .i64 (J : Int), ptrTo W.heap.size, cmpFn jb] W' (CntPost bt w0 jb pb byb made base g cap d W.heap.size rj.2 (.int .i64 (rj.1 : Int)))) := Lib.hid (fun W' h => by
      have := medianAdjacent_any h J HIJ.out.2.2.2.2.1 HIJ.out.2.1 hsz (by omega)
      rwa [h2] at this)
    have C3 : Hid (∀ W', Cnt bt w0 jb pb byb made base g cap d W.heap.size rj.2 W' → Calls Tryz.prog 241 #[.slice (some ⟨g, 0, none⟩) d.size cap, .int .i64 (K : Int), ptrTo W.heap.size, cmpFn jb] W' (CntPost bt w0 jb pb byb made base g cap d W.heap.size rk.2 (.int .i64 (rk.1 : Int)))) := Lib.hid (fun W' h => by
      have := medianAdjacent_any h K HIJ.out.2.2.2.2.2 HIJ.out.2.2.1 hsz (by omega)
      rwa [h3] at this)
    have C4 : Hid (∀ W', Cnt bt w0 jb pb byb made base g cap d W.heap.size rk.2 W' → Calls Tryz.prog 242 #[.slice (some ⟨g, 0, none⟩) d.size cap, .int .i64 (ri.1 : Int), .int .i64 (rj.1 : Int), .int .i64 (rk.1 : Int), ptrTo W.heap.size, cmpFn jb] W' (CntPost bt w0 jb pb byb made base g cap d W.heap.size m.2 (.int .i64 (m.1 : Int)))) := Lib.hid (fun W' h => by
      have := median_any h ri.1 rj.1 rk.1 bi.1 bj.1 bk.1 (by omega)
      rwa [hm] at this)
    clear h hL hQ hQ2 hQ3 hI hJ hK hI' hJ' hK' h1 h2 h3 hm bi bj bk hl hb hsz
    unfold cmpFn ptrTo at *
    generalize d.size = N at *
    generalize choosePivot (ltOf (cmpE bt)) d a b = r at HT ⊢
    obtain ⟨mi, ms⟩ := m
    obtain ⟨ri1, ri2⟩ := ri
    obtain ⟨rj1, rj2⟩ := rj
    obtain ⟨rk1, rk2⟩ := rk
    dsimp only at *
    go_enter Tryz.func228, Tryz.ntmps228
    go_wp2_with fail
    refine (C1.out _ HC0.out).mono ?_
    rintro e w1 ⟨rfl, h1⟩
    have hc := Lib.hid (C2.out w1 h1)
    clear h1 C1 C2 HC0
    go_wp2_with fail
    refine hc.out.mono ?_
    rintro e w2 ⟨rfl, h2⟩
    have hc2 := Lib.hid (C3.out w2 h2)
    clear h2 hc C3
    go_wp2_with fail
    refine hc2.out.mono ?_
    rintro e w3 ⟨rfl, h3⟩
    have hc3 := Lib.hid (C4.out w3 h3)
    clear h3 hc2 C4
    go_wp2_with fail
    refine hc3.out.mono ?_
    rintro e w4 ⟨rfl, h4⟩
    have H4 := Lib.hid h4
    obtain ⟨hcell, -⟩ := h4.cell
    clear h4 hc3
    by_cases m0 : ms = 0
    · subst m0
      simp only [Int.natCast_zero] at hcell
      go_wp2
      go_ret2
      rw [HT.out]
      exact ⟨rfl, H4.out.srt⟩
    · by_cases m12 : ms = 12
      · subst m12
        have hcell' : w4.cell? ⟨W.heap.size, 0, none⟩ = some (.int .i64 12) := hcell
        clear hcell
        go_wp2
        go_ret2
        rw [HT.out, if_neg (by decide), if_pos (by trivial)]
        exact ⟨rfl, H4.out.srt⟩
      · have z0 : ¬ (ms : Int) = 0 := by omega
        have z12 : ¬ (ms : Int) = 12 := by omega
        have z0b : ((ms : Int) == 0) = false := beq_false_of_ne z0
        have z12b : ((ms : Int) == 12) = false := beq_false_of_ne z12
        go_wp2
        go_ret2
        rw [HT.out, if_neg m0, if_neg m12]
        exact ⟨rfl, H4.out.srt⟩
  · have l50 : (L : Int) < 50 := by omega
    obtain ⟨m, hm⟩ : ∃ r, median (ltOf (cmpE bt)) d I J K 0 = r := ⟨_, rfl⟩
    have HT := Lib.hid (choose_mid (by omega) h50 hI' hJ' hK' hm)
    have C4 : Hid (∀ W', Cnt bt w0 jb pb byb made base g cap d W.heap.size 0 W' → Calls Tryz.prog 242 #[.slice (some ⟨g, 0, none⟩) d.size cap, .int .i64 (I : Int), .int .i64 (J : Int), .int .i64 (K : Int), ptrTo W.heap.size, cmpFn jb] W' (CntPost bt w0 jb pb byb made base g cap d W.heap.size m.2 (.int .i64 (m.1 : Int)))) := Lib.hid (fun W' h => by
      have := median_any h I J K (by have := HIJ.out; omega) (by have := HIJ.out; omega) (by have := HIJ.out; omega) (by omega)
      rwa [hm] at this)
    clear h hL hQ hQ2 hQ3 hI hJ hK hI' hJ' hK' hm hl hb hsz
    unfold cmpFn ptrTo at *
    generalize d.size = N at *
    generalize choosePivot (ltOf (cmpE bt)) d a b = r at HT ⊢
    obtain ⟨mi, ms⟩ := m
    dsimp only at *
    go_enter Tryz.func228, Tryz.ntmps228
    go_wp2_with fail
    refine (C4.out _ HC0.out).mono ?_
    rintro e w4 ⟨rfl, h4⟩
    have H4 := Lib.hid h4
    obtain ⟨hcell, -⟩ := h4.cell
    clear h4 C4 HC0
    by_cases m0 : ms = 0
    · subst m0
      simp only [Int.natCast_zero] at hcell
      go_wp2
      go_ret2
      rw [HT.out]
      exact ⟨rfl, H4.out.srt⟩
    · by_cases m12 : ms = 12
      · subst m12
        have hcell' : w4.cell? ⟨W.heap.size, 0, none⟩ = some (.int .i64 12) := hcell
        clear hcell
        go_wp2
        go_ret2
        rw [HT.out, if_neg (by decide), if_pos (by trivial)]
        exact ⟨rfl, H4.out.srt⟩
      · have z0 : ¬ (ms : Int) = 0 := by omega
        have z12 : ¬ (ms : Int) = 12 := by omega
        have z0b : ((ms : Int) == 0) = false := beq_false_of_ne z0
        have z12b : ((ms : Int) == 12) = false := beq_false_of_ne z12
        go_wp2
        go_ret2
        rw [HT.out, if_neg m0, if_neg m12]
        exact ⟨rfl, H4.out.srt⟩
end
end Go.Proofs.YtolieljpnafbhaaGreatDoor
namespace Go.Proofs.YtolieljpnafbhaaGreatDoor
open Go.RowKit Go.Maps Go.Sort
section
variable {bt : Bool} {w0 W W' : World} {jb pb byb made base g cap c : Nat} {d : Array Edg}
/-- A row of edges, and beside it a box of the call's own. -/
structure Bxd (bt : Bool) (w0 : World) (jb pb byb made base g cap : Nat) (d : Array Edg) (c : Nat) (v : Value) (W : World) : Prop where
  srt : Srt bt w0 jb pb byb made base g cap d W
  box : ∃ T, W.heap[c]? = some (.cells #[v] T (0, 0))
  new : w0.heap.size ≤ c
  ng : c ≠ g
  nj : c ≠ jb
  nb : c ≠ byb
theorem Bxd.cell {v : Value} (h : Bxd bt w0 jb pb byb made base g cap d c v W) : W.cell? ⟨c, 0, none⟩ = some v ∧ W.frozen? ⟨c, 0, none⟩ = false := by
  obtain ⟨T, hT⟩ := h.box
  exact ⟨by rw [cells_cell hT]; rfl, cells_frozen hT _⟩
theorem Bxd.below {v : Value} (h : Bxd bt w0 jb pb byb made base g cap d c v W) (hb : RowKit.Below W.heap.size W W') : Bxd bt w0 jb pb byb made base g cap d c v W' := by
  obtain ⟨T, hT⟩ := h.box
  exact ⟨h.srt.below hb, ⟨T, by rw [hb.block c (Array.getElem?_eq_some_iff.1 hT).1]; exact hT⟩, h.new, h.ng, h.nj, h.nb⟩
theorem Bxd.put {v : Value} (h : Bxd bt w0 jb pb byb made base g cap d c v W) (u : Value) : Bxd bt w0 jb pb byb made base g cap d c u (W.setCell ⟨c, 0, none⟩ u) := by
  obtain ⟨T, hT⟩ := h.box
  have ht : Turn (· = c) W (W.setCell ⟨c, 0, none⟩ u) := Turn.setCell (Turn.refl _ _) _ _ (.inl rfl)
  refine ⟨⟨ht.ownsRow h.srt.row (fun b hb e => ?_), h.srt.job.kept (ht.block _ h.srt.job.lt.1 (fun e => h.nj e.symm)) (ht.block _ h.srt.job.lt.2 (fun e => h.nb e.symm)), h.srt.nj, h.srt.nb, h.srt.turn.setCell _ _ (.inr h.new)⟩, ⟨T, by rw [cells_set hT]; rfl⟩, h.new, h.ng, h.nj, h.nb⟩
  have : b = g := by
    have := hb
    simp [Value.ownBlock] at this
    exact this.symm
  exact h.ng (by rw [← e, this])
theorem Bxd.swapped {v : Value} (h : Bxd bt w0 jb pb byb made base g cap d c v W) {d' : Array Edg} {p q : Nat} {v0 v1 v2 v3 u0 u1 u2 u3 : Value}
    (hs : Srt bt w0 jb pb byb made base g cap d' (((((((((W.setCell ⟨g, p, none⟩ v0).setCell ⟨g, p + 1, none⟩ v1).setCell ⟨g, p + 2, none⟩ v2).setCell ⟨g, p + 3, none⟩ v3).setCell ⟨g, q, none⟩ u0).setCell ⟨g, q + 1, none⟩ u1).setCell ⟨g, q + 2, none⟩ u2).setCell ⟨g, q + 3, none⟩ u3).drew)) :
    Bxd bt w0 jb pb byb made base g cap d' c v (((((((((W.setCell ⟨g, p, none⟩ v0).setCell ⟨g, p + 1, none⟩ v1).setCell ⟨g, p + 2, none⟩ v2).setCell ⟨g, p + 3, none⟩ v3).setCell ⟨g, q, none⟩ u0).setCell ⟨g, q + 1, none⟩ u1).setCell ⟨g, q + 2, none⟩ u2).setCell ⟨g, q + 3, none⟩ u3).drew) := by
  obtain ⟨T, hT⟩ := h.box
  have ht : Turn (· = g) W (((((((((W.setCell ⟨g, p, none⟩ v0).setCell ⟨g, p + 1, none⟩ v1).setCell ⟨g, p + 2, none⟩ v2).setCell ⟨g, p + 3, none⟩ v3).setCell ⟨g, q, none⟩ u0).setCell ⟨g, q + 1, none⟩ u1).setCell ⟨g, q + 2, none⟩ u2).setCell ⟨g, q + 3, none⟩ u3).drew) :=
    ((((((((((Turn.refl (· = g) W).setCell _ _ (.inl rfl)).setCell _ _ (.inl rfl)).setCell _ _ (.inl rfl)).setCell _ _ (.inl rfl)).setCell _ _ (.inl rfl)).setCell _ _ (.inl rfl)).setCell _ _ (.inl rfl)).setCell _ _ (.inl rfl))).drew
  exact ⟨hs, ⟨T, ht.heap hT h.ng⟩, h.new, h.ng, h.nj, h.nb⟩
set_option maxRecDepth 100000 in
set_option maxHeartbeats 16000000 in
theorem breakPatterns_any (h : Srt bt w0 jb pb byb made base g cap d W) (a b : Nat) (hl : 12 < b - a) (hb : b ≤ d.size) (hsz : d.size ≤ 1000000) :
    Calls Tryz.prog 227 #[.slice (some ⟨g, 0, none⟩) d.size cap, .int .i64 (a : Int), .int .i64 (b : Int), cmpFn jb] W (SrtPost bt w0 jb pb byb made base g cap (breakPatterns d a b)) := by
  have hgl : g < W.heap.size := by
    obtain ⟨_, ⟨h0, _⟩ | ⟨g', cap', cur, hv, _, hh, _⟩⟩ := h.row
    · cases h0
    · cases hv
      exact (Array.getElem?_eq_some_iff.1 hh).1
  have hjl := h.job.lt
  obtain ⟨L, hL⟩ : ∃ L, L = b - a := ⟨_, rfl⟩
  obtain rfl : b = a + L := by omega
  have hL8 : 8 ≤ L := by omega
  rw [breakPatterns_eq d a L hL8]
  obtain ⟨M, hM⟩ : ∃ M : Nat, M = 1 <<< bitsLen L := ⟨_, rfl⟩
  have hM1 : 1 ≤ M := by rw [hM, Nat.one_shiftLeft]; exact Nat.two_pow_pos _
  have hM2 : M ≤ 2 * L := by rw [hM, Nat.one_shiftLeft]; exact two_pow_bitsLen_le (by omega)
  have HNP : Hid (∀ W', Calls Tryz.prog 179 #[.int .i64 (L : Int)] W' fun e w' => e = .returned (.int .u64 (M : Int)) ∧ w' = W') := Lib.hid (fun W' => by
    rw [hM]
    exact AnyF.nextPowerOfTwo (P := Tryz.prog) (ρ := Tryz.sortEdges_ren) { Tryz.sortEdges with } L (by omega) W')
  have HNX : Hid (∀ (W' : World) (rb X : Nat), X < 18446744073709551616 → W'.cell? ⟨rb, 0, none⟩ = some (.int .u64 (X : Int)) → W'.frozen? ⟨rb, 0, none⟩ = false → Calls Tryz.prog 180 #[.pointer (some ⟨rb, 0, none⟩)] W' fun e w' => e = .returned (.int .u64 (xorNextN X : Nat)) ∧ w' = (W'.setCell ⟨rb, 0, none⟩ (.int .u64 (xorNextN X : Nat))).drewN 3) := Lib.hid (fun W' rb X hX hc hf =>
    AnyF.xorshift_Next (P := Tryz.prog) (ρ := Tryz.sortEdges_ren) { Tryz.sortEdges with } rb 0 X hX W' hc hf)
  rw [← hM]
  obtain ⟨N, hN⟩ : ∃ N, N = d.size := ⟨_, rfl⟩
  rw [← hN] at hb hsz ⊢
  have HN := Lib.hid hN
  obtain ⟨Q, hQ⟩ : ∃ Q, Q = L / 4 := ⟨_, rfl⟩
  obtain ⟨Q2, hQ2⟩ : ∃ Q2, Q2 = Q * 2 := ⟨_, rfl⟩
  obtain ⟨A2, hA2⟩ : ∃ A2, A2 = a + Q2 := ⟨_, rfl⟩
  obtain ⟨E, hE⟩ : ∃ E, E = A2 + 1 := ⟨_, rfl⟩
  obtain ⟨B, hB⟩ : ∃ B, B = A2 - 1 := ⟨_, rfl⟩
  obtain ⟨BN, hBN⟩ : ∃ BN, BN = a + L := ⟨_, rfl⟩
  have wL : IntKind.i64.wrap ((BN : Int) - (a : Int)) = (L : Int) := by rw [wrap_in] <;> omega
  have wL64 : IntKind.u64.wrap (L : Int) = (L : Int) := wraps_u64 _ (by omega) (by omega)
  have wQ : IntKind.i64.wrap ((L : Int) / 4) = (Q : Int) := by rw [wrap_in] <;> omega
  have wQ2 : IntKind.i64.wrap ((Q : Int) * 2) = (Q2 : Int) := by rw [wrap_in] <;> omega
  have wA2 : IntKind.i64.wrap ((a : Int) + (Q2 : Int)) = (A2 : Int) := by rw [wrap_in] <;> omega
  have wE : IntKind.i64.wrap ((A2 : Int) + 1) = (E : Int) := by rw [wrap_in] <;> omega
  have wB : IntKind.i64.wrap ((A2 : Int) - 1) = (B : Int) := by rw [wrap_in] <;> omega
  have wM : IntKind.u64.wrap ((M : Int) - 1) = (M : Int) - 1 := wraps_u64 _ (by omega) (by omega)
  have l8 : ¬ (L : Int) < 8 := by omega
  have HB : Hid (E = B + 2 ∧ B + 3 ≤ a + L ∧ a + L ≤ N ∧ a ≤ B ∧ 8 ≤ L ∧ 1 ≤ M ∧ M ≤ 2 * L ∧ L ≤ N ∧ N ≤ 1000000) := Lib.hid (by omega)
  have HBE : Hid (a + L / 4 * 2 - 1 = B) := Lib.hid (by omega)
  have H0 : Hid (Bxd bt w0 jb pb byb made base g cap d W.heap.size (.int .u64 (L : Int)) (W.alloc (.cells #[.int .u64 (L : Int)] 240))) := Lib.hid ⟨h.below ((Below.refl _ _).alloc (Nat.le_refl _) _), ⟨_, heap_alloc_new W _⟩, h.turn.size, by omega, by omega, by omega⟩
  rw [← hBN]
  rw [HBE.out]
  clear h hgl hjl hL hM hM1 hM2 hN hQ hQ2 hA2 hE hB hBN hb hsz hL8 hl
  unfold cmpFn ptrTo at *
  go_enter Tryz.func227, Tryz.ntmps227
  go_wp2_with fail
  generalize W.heap.size = rb at H0 ⊢
  generalize W.alloc (.cells #[.int .u64 (L : Int)] 240) = W1 at H0 ⊢
  refine (HNP.out _).mono ?_
  rintro e w' ⟨rfl, hw'⟩
  obtain rfl := hw'
  clear HNP
  go_wp2
  go_loopw [11] (fun vi wr => ∃ (i t : Nat) (r : UInt64) (dk : Array Edg), vi = .int .i64 (i : Int) ∧ t ≤ 3 ∧ dk.size = N ∧ Bxd bt w0 jb pb byb made base g cap dk rb (.int .u64 (r.toNat : Int)) wr ∧ Hid (i = B + t) ∧ Hid (bpRest a L M B (3 - t) t (r, dk) = bpRest a L M B 3 0 (UInt64.ofNat L, d))) (fun vi _ => B + 3 - (intOf vi).toNat)
  case atStart =>
    refine ⟨B, 0, UInt64.ofNat L, d, rfl, by omega, HN.out.symm, ?_, Lib.hid rfl, rfl⟩
    rw [show (UInt64.ofNat L).toNat = L from by rw [UInt64.toNat_ofNat']; have := HB.out; omega]
    exact H0.out
  case round =>
    obtain ⟨i, t, r, dk, rfl, ht, hsk, hs, hi, HO⟩ := hrel
    generalize wr = Wr at *
    have HS := Lib.hid hs
    have HSK := Lib.hid hsk
    clear hs hsk
    by_cases ht3 : t < 3
    · obtain ⟨R0, hR0⟩ : ∃ R0 : Nat, R0 = r.toNat := ⟨_, rfl⟩
      have lR : R0 < 18446744073709551616 := by rw [hR0]; exact r.toNat_lt
      obtain ⟨R', hR'⟩ : ∃ R' : Nat, R' = xorNextN R0 := ⟨_, rfl⟩
      have lR' : R' < 18446744073709551616 := by rw [hR']; exact xorNextN_lt R0 lR
      obtain ⟨O, hO⟩ : ∃ O : Nat, O = R' &&& (M - 1) := ⟨_, rfl⟩
      have lO : O ≤ M - 1 := by rw [hO]; exact Nat.and_le_right
      have eAnd : bits .and .u64 (R' : Int) ((M : Int) - 1) = (O : Int) := by
        have := HB.out
        rw [show ((M : Int) - 1) = ((M - 1 : Nat) : Int) by omega, bits_and_u64_nat _ _ lR' (by omega), hO]
      have HN2 : Hid (R' = (xorNext r).toNat ∧ O = (xorNext r).toNat &&& (M - 1)) := Lib.hid (by
        have e : R' = (xorNext r).toNat := by rw [hR', hR0, xorNext_toNat]
        exact ⟨e, by rw [hO, e]⟩)
      have hcl := HS.out.cell
      rw [← hR0] at hcl
      have HNext : Hid (Calls Tryz.prog 180 #[.pointer (some ⟨rb, 0, none⟩)] Wr fun e w' => e = .returned (.int .u64 (R' : Int)) ∧ Bxd bt w0 jb pb byb made base g cap dk rb (.int .u64 (R' : Int)) w') := Lib.hid ((HNX.out Wr rb R0 lR hcl.1 hcl.2).mono fun e w' ⟨h1, h2⟩ => by
        rw [← hR'] at h1 h2
        refine ⟨h1, ?_⟩
        rw [h2]
        exact (HS.out.put _).below ⟨rfl, rfl, rfl, Nat.le_refl _, fun _ _ => rfl⟩)
      have hieN : i ≤ E ∧ i < N ∧ O ≤ 2000000 := by have := HB.out; have := hi.out; omega
      have hie : (i : Int) ≤ (E : Int) := by omega
      have bi : (i : Int) < (N : Int) := by omega
      have wO : IntKind.i64.wrap (O : Int) = (O : Int) := wrap_in (by omega) (by omega)
      have wi1 : IntKind.i64.wrap ((i : Int) + 1) = ((i + 1 : Nat) : Int) := by
        have := HB.out
        rw [wrap_in] <;> omega
      have HLO := Lib.hid lO
      have HIE := Lib.hid hieN
      clear hR0 hR' hO lR lR' lO hcl hieN
      by_cases hLO : L ≤ O
      · obtain ⟨V, hV⟩ : ∃ V, V = O - L := ⟨_, rfl⟩
        obtain ⟨P, hP⟩ : ∃ P, P = a + V := ⟨_, rfl⟩
        have hLOz : (O : Int) ≥ (L : Int) := by omega
        have wV : IntKind.i64.wrap ((O : Int) - (L : Int)) = (V : Int) := by
          have := HB.out; have := HLO.out; have := HIE.out
          rw [wrap_in] <;> omega
        have wP : IntKind.i64.wrap ((a : Int) + (V : Int)) = (P : Int) := by
          have := HB.out; have := HLO.out; have := HIE.out
          rw [wrap_in] <;> omega
        have hPN : P < N := by have := HB.out; have := HLO.out; omega
        have bP : (P : Int) < (N : Int) := by omega
        have HBP : Hid (bpRest a L M B (3 - (t + 1)) (t + 1) (xorNext r, swp dk i P) = bpRest a L M B 3 0 (UInt64.ofNat L, d)) := Lib.hid (by
          rw [← HO.out, bp_step a L M B t r dk V ht3 (by rw [← HN2.out.2, if_pos hLO, hV]), hi.out, hP])
        clear hV hP
        have HIP : Hid (i < dk.size ∧ P < dk.size) := Lib.hid (by rw [HSK.out]; have := HIE.out; omega)
        go_wp2_with fail
        refine HNext.out.mono ?_
        rintro e w2 ⟨rfl, hb2⟩
        have HB2 := Lib.hid hb2
        clear hb2 HNext
        obtain ⟨x, hx⟩ : ∃ x, dk[i]! = x := ⟨_, rfl⟩
        by_cases hiP : i = P
        · subst hiP
          obtain ⟨pp, hpp, ⟨x0, x1, x2, x3⟩, hfr, hdone⟩ := HB2.out.srt.exchSelf (i := i) HIP.out.1 hx
          have HD := Lib.hid (HB2.out.swapped hdone)
          clear hdone
          go_wp2_with fail
          go_big_region
          all_goals
            clear x0 x1 x2 x3 hfr
            go_wp2
            refine ⟨⟨i + 1, t + 1, xorNext r, swp dk i i, rfl, by omega, by rw [size_swp]; exact HSK.out, by rw [← HN2.out.1]; exact HD.out, Lib.hid (by have := hi.out; omega), HBP.out⟩, ?_⟩
            have := HB.out; have := hi.out; simp [intOf]; omega
        · obtain ⟨y, hy⟩ : ∃ y, dk[P]! = y := ⟨_, rfl⟩
          obtain ⟨pp, qq, hex⟩ := HB2.out.srt.exch (i := i) (j := P) HIP.out.1 HIP.out.2 hx hy
          have HEX := Lib.hid hex
          have HD := Lib.hid (HB2.out.swapped hex.done)
          obtain ⟨hpp, hqq, x0, x1, x2, x3, y0, y1, y2, y3, hfr, hap, -⟩ := hex
          obtain ⟨n0, n1, n2, n3, n4, n5, n6⟩ := hap hiP
          clear hap
          go_wp2_with fail
          go_big_region
          all_goals
            clear x0 x1 x2 x3 y0 y1 y2 y3 n0 n1 n2 n3 n4 n5 n6 hfr
            go_wp2
            refine ⟨⟨i + 1, t + 1, xorNext r, swp dk i P, rfl, by omega, by rw [size_swp]; exact HSK.out, by rw [← HN2.out.1]; exact HD.out, Lib.hid (by have := hi.out; omega), HBP.out⟩, ?_⟩
            have := HB.out; have := hi.out; simp [intOf]; omega
      · obtain ⟨P, hP⟩ : ∃ P, P = a + O := ⟨_, rfl⟩
        have hLOz : ¬ (O : Int) ≥ (L : Int) := by omega
        have wP : IntKind.i64.wrap ((a : Int) + (O : Int)) = (P : Int) := by
          have := HB.out; have := HLO.out; have := HIE.out
          rw [wrap_in] <;> omega
        have hPN : P < N := by have := HB.out; omega
        have bP : (P : Int) < (N : Int) := by omega
        have HBP : Hid (bpRest a L M B (3 - (t + 1)) (t + 1) (xorNext r, swp dk i P) = bpRest a L M B 3 0 (UInt64.ofNat L, d)) := Lib.hid (by
          rw [← HO.out, bp_step a L M B t r dk O ht3 (by rw [← HN2.out.2, if_neg (by omega)]), hi.out, hP])
        clear hP
        have HIP : Hid (i < dk.size ∧ P < dk.size) := Lib.hid (by rw [HSK.out]; have := HIE.out; omega)
        go_wp2_with fail
        refine HNext.out.mono ?_
        rintro e w2 ⟨rfl, hb2⟩
        have HB2 := Lib.hid hb2
        clear hb2 HNext
        obtain ⟨x, hx⟩ : ∃ x, dk[i]! = x := ⟨_, rfl⟩
        by_cases hiP : i = P
        · subst hiP
          obtain ⟨pp, hpp, ⟨x0, x1, x2, x3⟩, hfr, hdone⟩ := HB2.out.srt.exchSelf (i := i) HIP.out.1 hx
          have HD := Lib.hid (HB2.out.swapped hdone)
          clear hdone
          go_wp2_with fail
          go_big_region
          all_goals
            clear x0 x1 x2 x3 hfr
            go_wp2
            refine ⟨⟨i + 1, t + 1, xorNext r, swp dk i i, rfl, by omega, by rw [size_swp]; exact HSK.out, by rw [← HN2.out.1]; exact HD.out, Lib.hid (by have := hi.out; omega), HBP.out⟩, ?_⟩
            have := HB.out; have := hi.out; simp [intOf]; omega
        · obtain ⟨y, hy⟩ : ∃ y, dk[P]! = y := ⟨_, rfl⟩
          obtain ⟨pp, qq, hex⟩ := HB2.out.srt.exch (i := i) (j := P) HIP.out.1 HIP.out.2 hx hy
          have HEX := Lib.hid hex
          have HD := Lib.hid (HB2.out.swapped hex.done)
          obtain ⟨hpp, hqq, x0, x1, x2, x3, y0, y1, y2, y3, hfr, hap, -⟩ := hex
          obtain ⟨n0, n1, n2, n3, n4, n5, n6⟩ := hap hiP
          clear hap
          go_wp2_with fail
          go_big_region
          all_goals
            clear x0 x1 x2 x3 y0 y1 y2 y3 n0 n1 n2 n3 n4 n5 n6 hfr
            go_wp2
            refine ⟨⟨i + 1, t + 1, xorNext r, swp dk i P, rfl, by omega, by rw [size_swp]; exact HSK.out, by rw [← HN2.out.1]; exact HD.out, Lib.hid (by have := hi.out; omega), HBP.out⟩, ?_⟩
            have := HB.out; have := hi.out; simp [intOf]; omega
    · have hie : ¬ (i : Int) ≤ (E : Int) := by have := HB.out; have := hi.out; omega
      go_wp2
      go_end0
      refine ⟨rfl, ?_⟩
      have h3 : t = 3 := by omega
      subst h3
      rw [← HO.out]
      exact HS.out.srt
end
end Go.Proofs.YtolieljpnafbhaaGreatDoor
