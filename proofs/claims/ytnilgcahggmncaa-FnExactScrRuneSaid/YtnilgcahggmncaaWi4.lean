/- A screen is valid, the reference's way: the two loops (way 4). -/
import Derived.Test.YtnilgcahggmncaaWe
import Derived.Test.YtnilgcahggmncaaZb
namespace Go.Proofs.Ytnilgcahggmncaa
open Go.RowKit
set_option linter.unusedVariables false
set_option maxRecDepth 100000

set_option maxHeartbeats 8000000 in
theorem sb_y4 (s : Sc) (mA : Option Addr) (mc : Nat) (ms : List Cl) (aA : Option Addr) (ac : Nat) (xs : List Cl) (tA : Option Addr) (tc : Nat) (ts : List Int) (bA : Option Addr) (bc : Nat) (bs : List Rw) (w : World) (g1 : Gs w mA ms) (l1 : ms.length ≤ 1048576) (g2 : Gs w aA xs) (l2 : xs.length ≤ 1048576) (HM : Hid (gridB s.mW s.mH ms = true)) (HA : Hid (gridB s.aW s.aH xs = true)) (fn1 : (s.mW != s.W) = false) (fn2 : (s.mH != s.H) = false) (fn3 : (s.aW != s.W) = false) (fn4 : (s.aH != s.H) = false) (fn5 : ¬ s.X < 0) (fn6 : ¬ s.W ≤ s.X) (fn7 : ¬ s.Y < 0) (fn8 : ¬ s.H ≤ s.Y) (fn9 : ¬ s.sX < 0) (fn10 : ¬ s.W ≤ s.sX) (fn11 : ¬ s.sY < 0) (fn12 : ¬ s.H ≤ s.sY) (HT1 : Hid (attrOkB s.A.1 s.A.2.1 = true)) (HT2 : Hid (attrOkB s.sA.1 s.sA.2.1 = true)) (fd1 : ¬ s.top < 0) (fd2 : ¬ s.H ≤ s.bot) (fd3 : ¬ s.bot < s.top) (fe1 : ¬ s.limit < 0) (fe2 : ¬ 100 < s.limit) (fe3 : ¬ s.limit < (bs.length : Int)) (w2c : 1 ≤ s.W) (w2d : s.W ≤ 120) (w2e : 1 ≤ s.H) (w2f : s.H ≤ 120) (g3 : Cs w tA (ts.map I)) (l3 : ts.length ≤ 1048576) (g4 : Rs w bA bs) (l4 : bs.length ≤ 1048576) (l5 : ∀ e, e ∈ bs → e.2.2.length ≤ 1048576) (fw1 : s.wrap = true) (fw2 : (s.X != s.W - 1) = false) (fdd : (s.top == s.bot) = true) (fdd2 : (s.H != 1) = false) :
    Calls Try.prog 32 #[sV s (mA, mc, ms) (aA, ac, xs) (tA, tc, ts) (bA, bc, bs)] w fun e w' => e = .returned (.bool (ascB ts s.W && rowsB (rcs bs))) ∧ Below w.heap.size w w' := by
  have t0 : Below w.heap.size w (w.alloc (.cells (sC s (mA, mc, ms) (aA, ac, xs) (tA, tc, ts) (bA, bc, bs)) 49)) := (Below.refl _ _).alloc (Nat.le_refl _) _
  go_enter Try.func32, Try.ntmps32
  simp only [List.append_eq, List.cons_append, List.nil_append]
  go_wp2_with fail
  refine (gridOk_spec s.mW s.mH _ _ ms _ (g1.below t0) l1).mono ?_
  rintro e w1 ⟨he, hb1⟩
  rw [HM.out] at he
  subst he
  obtain ⟨B1, q1, r1, z1⟩ := keep_blk hb1 (g := w.heap.size) (by repeat (first | assumption | exact heap_alloc_at _ (by first | rfl | (simp; done) | omega) | refine heap_alloc_of _ ?_ | refine heap_setCell_of _ (by first | omega | (simp; done) | (simp; omega)) ?_ | refine heap_setCell_same _ ?_ | exact heap_at1_same (by first | omega | (simp; done) | (simp; omega)) | refine heap_at1_of (by first | omega | (simp; done) | (simp; omega)) ?_))
  have t1 := t0.trans (hb1.mono t0.size)
  go_wp2_with fail
  refine (gridOk_spec s.aW s.aH _ _ xs _ (g2.below t1) l2).mono ?_
  rintro e w2 ⟨he, hb2⟩
  rw [HA.out] at he
  subst he
  obtain ⟨B2, q2, r2, z2⟩ := keep_blk hb2 B1
  clear B1 q1 r1
  have t2 := t1.trans (hb2.mono t1.size)
  go_wp2_with fail
  refine (attrOk_spec s.A.1 s.A.2.1 s.A.2.2.1 s.A.2.2.2.1 s.A.2.2.2.2 _).mono ?_
  rintro e w3 ⟨he, o3, hw3⟩
  rw [HT1.out] at he
  subst he
  have hb3 : Below w2.heap.size w2 w3 := by rw [← hw3]; exact (Below.refl _ _).alloc (Nat.le_refl _) _
  clear hw3
  obtain ⟨B3, q3, r3, z3⟩ := keep_blk hb3 B2
  clear B2 q2 r2
  have t3 := t2.trans (hb3.mono t2.size)
  go_wp2_with fail
  refine (attrOk_spec s.sA.1 s.sA.2.1 s.sA.2.2.1 s.sA.2.2.2.1 s.sA.2.2.2.2 _).mono ?_
  rintro e w4 ⟨he, o4, hw4⟩
  rw [HT2.out] at he
  subst he
  have hb4 : Below w3.heap.size w3 w4 := by rw [← hw4]; exact (Below.refl _ _).alloc (Nat.le_refl _) _
  clear hw4
  obtain ⟨B4, q4, r4, z4⟩ := keep_blk hb4 B3
  clear B3 q3 r3
  have t4 := t3.trans (hb4.mono t3.size)
  go_wp2_with fail
  clear fn1 fn2 fn3 fn4 fn5 fn6 fn7 fn8 fn9 fn10 fn11 fn12 fd1 fd2 fd3 fe1 fe2 fe3 HM HA HT1 HT2 q4 r4 z1 z2 z3 z4 hb1 hb2 hb3 hb4 t0 t1 t2 t3
  dsimp only [tv, bv, rv]
  go_loopw [169] (fun i wr => ∃ k : Nat, k ≤ ts.length ∧ i = .int .i64 k ∧ Hid (ascTo ts s.W k = true) ∧ Hid (wr.heap[w.heap.size]? = some (.cells (sC s (mA, mc, ms) (aA, ac, xs) (tA, tc, ts) (bA, bc, bs)) 49 (0, 0))) ∧ Below w.heap.size w wr) (fun i _ => ts.length - (intOf i).toNat)
  case atStart => exact ⟨0, Nat.zero_le _, rfl, rfl, B4, t4⟩
  case round =>
    obtain ⟨k, hk, rfl, ht, hB, hb⟩ := hrel
    have zb := hb.size
    have qB : ∀ i, wr.cell? ⟨w.heap.size, i, none⟩ = _ := fun i => cell_of_row wr _ i _ _ (0, 0) hB.out
    dsimp only [sC, tv, bv, rv] at qB
    by_cases hlt : k < ts.length
    · have hlt' : (k : Int) < ts.length := by omega
      have haw := g3.below hb
      obtain ⟨b, o, rfl, hx⟩ := haw.ints hlt
      have eg := getD_get hlt
      obtain ⟨x, hxe⟩ : ∃ x, Hid (x = ts[k]) := ⟨ts[k], Lib.hid rfl⟩
      rw [← hxe.out] at hx eg
      have HEG := Lib.hid eg
      clear eg
      by_cases hx0 : x < 0
      · have HX : Hid (ascB ts s.W = false) := asc_bad hlt (decide_eq_false (by rw [HEG.out]; omega))
        clear ht
        go_wp2_with fail
        go_ret
        exact ⟨ret_bool (by rw [HX.out]; rfl), hb⟩
      by_cases hxW : s.W ≤ x
      · have HX : Hid (ascB ts s.W = false) := asc_bad hlt (decide_eq_false (by rw [HEG.out]; omega))
        clear ht
        go_wp2_with fail
        go_ret
        exact ⟨ret_bool (by rw [HX.out]; rfl), hb⟩
      cases k with
      | zero =>
        rw [Nat.add_zero] at hx
        have HT : Hid (ascTo ts s.W 1 = true) := asc_step ht.out (decide_eq_true (by rw [HEG.out]; omega))
        clear ht
        go_wp2_with fail
        go_roundw
        case rel => exact ⟨1, by omega, rfl, HT, hB, hb⟩
        case measure => simp [intOf]; omega
      | succ u =>
        have hlu : u < ts.length := by omega
        obtain ⟨b', o', hA, hx'⟩ := haw.ints hlu
        obtain ⟨rfl, rfl⟩ : b = b' ∧ o = o' := by simpa using hA
        have eg' := getD_get hlu
        obtain ⟨y, hye⟩ : ∃ y, Hid (y = ts[u]) := ⟨ts[u], Lib.hid rfl⟩
        rw [← hye.out] at hx' eg'
        have hu0 : (0 : Int) ≤ (u : Int) := Int.natCast_nonneg u
        have hlu' : (u : Int) < ts.length := by omega
        by_cases hyx : y < x
        · have HT : Hid (ascTo ts s.W (u + 1 + 1) = true) := asc_step ht.out (decide_eq_true (by rw [HEG.out, Nat.add_sub_cancel, eg']; omega))
          clear ht eg' hA
          go_wp2_with fail
          go_roundw
          case rel => exact ⟨u + 1 + 1, by omega, by go_num, HT, hB, hb⟩
          case measure => simp [intOf]; omega
        · have HX : Hid (ascB ts s.W = false) := asc_bad hlt (decide_eq_false (by rw [HEG.out, Nat.add_sub_cancel, eg']; omega))
          have hyx' : x ≤ y := by omega
          clear ht eg' hA
          go_wp2_with fail
          go_ret
          exact ⟨ret_bool (by rw [HX.out]; rfl), hb⟩
    · have hlt' : ¬ (k : Int) < ts.length := by omega
      have hk' : k = ts.length := by omega
      rw [hk'] at ht
      have HAS : Hid (ascB ts s.W = true) := ht
      clear hk' ht
      go_wp2_with fail
      go_loopw [200] (fun i wr => ∃ k : Nat, k ≤ bs.length ∧ i = .int .i64 k ∧ Hid (rowsB (rcs (bs.take k)) = true) ∧ Hid (wr.heap[w.heap.size]? = some (.cells (sC s (mA, mc, ms) (aA, ac, xs) (tA, tc, ts) (bA, bc, bs)) 49 (0, 0))) ∧ Below w.heap.size w wr) (fun i _ => bs.length - (intOf i).toNat)
      case atStart => exact ⟨0, Nat.zero_le _, rfl, rfl, hB, hb⟩
      case round =>
        obtain ⟨k, hk, rfl, ht, hB, hb⟩ := hrel
        have zb := hb.size
        have zB := (Array.getElem?_eq_some_iff.1 hB.out).1
        by_cases hlt : k < bs.length
        · obtain ⟨b, o, rfl, hx, hy⟩ := (g4.below hb).get hlt
          have hlt' : (k : Int) < bs.length := by omega
          have hme := l5 _ (List.getElem_mem hlt)
          obtain ⟨⟨rA, rc, rs⟩, hre⟩ : ∃ r, Hid (r = bs[k]) := ⟨_, Lib.hid rfl⟩
          rw [← hre.out] at hx hy hme
          have hbA : Below wr.heap.size wr (wr.alloc (.cells #[.slice rA rs.length rc] 99)) := (Below.refl _ _).alloc (Nat.le_refl _) _
          have hy' : Gs (wr.alloc (.cells #[.slice rA rs.length rc] 99)) rA rs := hy.below hbA
          cases hq : rowB1 bs[k].2.2 with
          | true =>
            have HT := Lib.hid (rall_step hlt ht.out hq)
            rw [← hre.out] at hq
            have HQ : Hid (rowB1 rs = true) := hq
            clear hq ht
            go_wp2_with (go_at_call 84; refine (l09Row_any rA rc rs _ hy' hme).mono ?_; rintro e w2 ⟨he, hb2'⟩; rw [HQ.out] at he; subst he)
            have hb2 := hbA.trans (hb2'.mono hbA.size)
            go_roundw
            case rel => exact ⟨k + 1, by omega, by go_num, HT, (hb2.block _ zB).trans hB.out, hb.trans (hb2.mono zb)⟩
            case measure => simp [intOf]; omega
          | false =>
            have HX := Lib.hid (rall_bad hlt hq)
            rw [← hre.out] at hq
            have HQ : Hid (rowB1 rs = false) := hq
            clear hq ht
            go_wp2_with (go_at_call 84; refine (l09Row_any rA rc rs _ hy' hme).mono ?_; rintro e w2 ⟨he, hb2'⟩; rw [HQ.out] at he; subst he)
            have hb2 := hbA.trans (hb2'.mono hbA.size)
            go_ret
            exact ⟨ret_bool (by rw [HX.out, Bool.and_false]), hb.trans (hb2.mono zb)⟩
        · have hlt' : ¬ (k : Int) < bs.length := by omega
          have hk' : k = bs.length := by omega
          rw [hk', List.take_length] at ht
          clear hk'
          go_wp2_with fail
          go_ret
          exact ⟨ret_bool (by rw [HAS.out, ht.out]; rfl), hb⟩
end Go.Proofs.Ytnilgcahggmncaa
