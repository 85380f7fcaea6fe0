/- A grid laid over another: the method of the program. -/
import Derived.Test.YtnilgcahggmncaaPa1
import Derived.Test.YtnilgcahggmncaaGw
import Derived.Deep.RegionHeld3
import Derived.Deep.DeepCutAuto
namespace Go.Proofs.Ytnilgcahggmncaa
open Go.RowKit
set_option linter.unusedVariables false
set_option maxRecDepth 100000

set_option maxHeartbeats 8000000 in
theorem paste_any (a bb : Nat) (A : Option Addr) (c : Nat) (cs : List Cl) (a' bb' : Nat) (A' : Option Addr) (c' : Nat) (ds : List Cl) (x y : Int) (w : World) (ha : Gs w A cs) (ha' : Gs w A' ds) (hc : cs.length ≤ c) (hc' : ds.length ≤ c')
    (ha1 : 1 ≤ a) (ha2 : a ≤ 120) (hbb1 : 1 ≤ bb) (hbb2 : bb ≤ 120) (ha1' : 1 ≤ a') (ha2' : a' ≤ 120) (hbb1' : 1 ≤ bb') (hbb2' : bb' ≤ 120) (HL : Hid (cs.length = bb * a)) (HL' : Hid (ds.length = bb' * a')) (hcl : cs.length ≤ 4000) (hcl' : ds.length ≤ 4000) (hcl0 : 0 < cs.length) (hds0 : 0 < ds.length)
    (hx1 : -100000 ≤ x) (hx2 : x ≤ 100000) (hy1 : -100000 ≤ y) (hy2 : y ≤ 100000) :
    Calls Try.prog 69 #[gV a bb A cs.length c, gV a' bb' A' ds.length c', .int .i64 x, .int .i64 y] w (GridPost w a bb (paL cs ds a bb x y a' ds.length)) := by
  have hb0 : Below w.heap.size w (((w.alloc (.cells #[.int .i64 a, .int .i64 bb, .slice A cs.length c] 29)).alloc (.cells #[.int .i64 a', .int .i64 bb', .slice A' ds.length c'] 29)).alloc (.cells #[.int .i64 0, .int .i64 0, .slice none 0 0] 29)) := by (repeat (first | exact Below.refl _ _ | (refine Below.alloc ?_ (by first | omega | (simp; done) | (simp; omega)) _) | (refine Below.drew ?_) | (refine below_drewN ?_ _) | (refine below_at1 ?_ (by first | omega | (simp; done) | (simp; omega))) | (refine Below.setCell ?_ (by first | omega | (simp; done) | (simp; omega)) _) | (refine Below.trans ?_ (Below.mono (by assumption) (by first | omega | (simp; done) | (simp; omega))))))
  obtain ⟨b0, o0, rfl, hbs, _, _, _, _, _, _⟩ := ha'.get hds0
  go_enter Try.func69, Try.ntmps69
  go_wp2_with fail
  refine (copyGrid_any a bb _ _ cs _ (ha.below hb0) hcl0 (by omega)).mono ?_
  rintro e w3 ⟨A3, c3, rfl, ho3, hs3, hi3, hb3⟩
  replace ho3 : Og w3 (w.heap.size + 3) A3 c3 cs := by simpa using ho3
  obtain ⟨B3, q3, r3, z3⟩ := keep_blk hb3 (g := w.heap.size) (by repeat (first | assumption | exact heap_alloc_at _ (by first | rfl | (simp; done) | omega) | refine heap_alloc_of _ ?_ | refine heap_setCell_of _ (by first | omega | (simp; done) | (simp; omega)) ?_ | refine heap_setCell_same _ ?_ | exact heap_at1_same (by first | omega | (simp; done) | (simp; omega)) | refine heap_at1_of (by first | omega | (simp; done) | (simp; omega)) ?_))
  obtain ⟨C3, qq3, rr3, zz3⟩ := keep_blk hb3 (g := w.heap.size + 1) (by repeat (first | assumption | exact heap_alloc_at _ (by first | rfl | (simp; done) | omega) | refine heap_alloc_of _ ?_ | refine heap_setCell_of _ (by first | omega | (simp; done) | (simp; omega)) ?_ | refine heap_setCell_same _ ?_ | exact heap_at1_same (by first | omega | (simp; done) | (simp; omega)) | refine heap_at1_of (by first | omega | (simp; done) | (simp; omega)) ?_))
  obtain ⟨D3, qd3, rd3, zd3⟩ := keep_blk hb3 (g := w.heap.size + 1 + 1) (by repeat (first | assumption | exact heap_alloc_at _ (by first | rfl | (simp; done) | omega) | refine heap_alloc_of _ ?_ | refine heap_setCell_of _ (by first | omega | (simp; done) | (simp; omega)) ?_ | refine heap_setCell_same _ ?_ | exact heap_at1_same (by first | omega | (simp; done) | (simp; omega)) | refine heap_at1_of (by first | omega | (simp; done) | (simp; omega)) ?_))
  have t3 := hb0.trans (hb3.mono hb0.size)
  obtain ⟨g, rfl, hlo, hcm, hxc, _⟩ := ho3.fill hcl0
  have hgl := (ho3.lt g rfl).2
  clear hs3 hi3 hb0 hb3
  go_wp2_with fail
  obtain ⟨w4, hw4⟩ : ∃ w4, w4 = w3.alloc (.cells #[.int .i64 a, .int .i64 bb, .slice (some ⟨g, 0, none⟩) cs.length c3] 29) := ⟨_, rfl⟩
  rw [← hw4]
  have HB4 : Hid (w4.heap[w.heap.size]? = (some (.cells #[.int .i64 a, .int .i64 bb, .slice A cs.length c] 29 (0, 0)))) := by subst hw4; exact heap_alloc_of _ B3
  have HC4 : Hid (w4.heap[w.heap.size + 1]? = (some (.cells #[.int .i64 a', .int .i64 bb', .slice (some ⟨b0, o0, none⟩) ds.length c'] 29 (0, 0)))) := by subst hw4; exact heap_alloc_of _ C3
  have HD4 : Hid (w4.heap[w.heap.size + 1 + 1]? = (some (.cells #[.int .i64 0, .int .i64 0, .slice none 0 0] 29 (0, 0)))) := by subst hw4; exact heap_alloc_of _ D3
  have HO4 : Hid (w4.heap[w3.heap.size]? = (some (.cells #[.int .i64 a, .int .i64 bb, .slice (some ⟨g, 0, none⟩) cs.length c3] 29 (0, 0)))) := by subst hw4; exact heap_alloc_new _ _
  have ho4 : Og w4 (w.heap.size + 3) (some ⟨g, 0, none⟩) c3 cs := by subst hw4; exact ho3.alloc _
  have t4 : Below w.heap.size w w4 := by subst hw4; exact t3.alloc t3.size _
  have hsz : w3.heap.size < w4.heap.size := by subst hw4; simp
  have hgB : ¬ w.heap.size = g := by omega
  have hgC : ¬ w.heap.size + 1 = g := by omega
  have hgD : ¬ w.heap.size + 1 + 1 = g := by omega
  have hgO : ¬ w3.heap.size = g := by omega
  have hgE : ¬ b0 = g := by omega
  clear hw4 B3 C3 D3 q3 r3 qq3 rr3 qd3 rd3
  go_loopw [16] (fun i wr => ∃ rr : Nat, rr ≤ bb' ∧ i = .int .i64 rr ∧ Og wr (w.heap.size + 3) (some ⟨g, 0, none⟩) c3 (paL cs ds a bb x y a' (rr * a')) ∧ Hid (wr.heap[w.heap.size]? = (some (.cells #[.int .i64 a, .int .i64 bb, .slice A cs.length c] 29 (0, 0)))) ∧ Hid (wr.heap[w.heap.size + 1]? = (some (.cells #[.int .i64 a', .int .i64 bb', .slice (some ⟨b0, o0, none⟩) ds.length c'] 29 (0, 0)))) ∧ Hid (wr.heap[w.heap.size + 1 + 1]? = (some (.cells #[.int .i64 0, .int .i64 0, .slice none 0 0] 29 (0, 0)))) ∧ Hid (wr.heap[w3.heap.size]? = (some (.cells #[.int .i64 a, .int .i64 bb, .slice (some ⟨g, 0, none⟩) cs.length c3] 29 (0, 0)))) ∧ Below w.heap.size w wr ∧ w4.heap.size ≤ wr.heap.size) (fun i _ => bb' - (intOf i).toNat)
  case atStart => exact ⟨0, Nat.zero_le _, rfl, by rw [Nat.zero_mul]; exact ho4, HB4, HC4, HD4, HO4, t4, Nat.le_refl _⟩
  case round =>
    clear ho4 HB4 HC4 HD4 HO4
    obtain ⟨rr, hrr, rfl, ho, hB, hC, hD, hO, hb, hs⟩ := hrel
    by_cases hlty : rr < bb'
    · obtain ⟨pr, hpr⟩ : ∃ pr, Hid (pr = rr * a') := ⟨_, rfl⟩
      obtain ⟨qr, hqr⟩ : ∃ qr, Hid (qr = (rr + 1) * a') := ⟨_, rfl⟩
      have hqp2 : qr = pr + a' := by rw [hpr.out, hqr.out, Nat.succ_mul]
      have hqbr : qr ≤ ds.length := by rw [HL'.out, hqp2, hpr.out]; exact (row_bd hlty ha1').2
      have hqpr : qr - pr = a' := by omega
      have hpqr : pr < qr := by omega
      have hpa : pr + a' ≤ ds.length := by omega
      have hrr9 : rr ≤ 1000 := by omega
      have hlty' : (rr : Int) < bb' := by omega
      have ho' := ho
      rw [← hpr.out] at ho'
      clear ho
      have qc0 : ∀ i, wr.cell? ⟨w.heap.size + 1, i, none⟩ = _ := fun i => cell_of_row wr _ i _ _ (0, 0) hC.out
      have HQ2 := Lib.hid hqp2
      clear hqp2
      go_wp2_with fail
      go_loopw [21] (fun i wr => ∃ cc : Nat, cc ≤ a' ∧ i = .int .i64 cc ∧ Og wr (w.heap.size + 3) (some ⟨g, 0, none⟩) c3 (paL cs ds a bb x y a' (pr + cc)) ∧ Hid (wr.heap[w.heap.size]? = (some (.cells #[.int .i64 a, .int .i64 bb, .slice A cs.length c] 29 (0, 0)))) ∧ Hid (wr.heap[w.heap.size + 1]? = (some (.cells #[.int .i64 a', .int .i64 bb', .slice (some ⟨b0, o0, none⟩) ds.length c'] 29 (0, 0)))) ∧ Hid (wr.heap[w.heap.size + 1 + 1]? = (some (.cells #[.int .i64 0, .int .i64 0, .slice none 0 0] 29 (0, 0)))) ∧ Hid (wr.heap[w3.heap.size]? = (some (.cells #[.int .i64 a, .int .i64 bb, .slice (some ⟨g, 0, none⟩) cs.length c3] 29 (0, 0)))) ∧ Below w.heap.size w wr ∧ w4.heap.size ≤ wr.heap.size) (fun i _ => a' - (intOf i).toNat)
      case atStart => exact ⟨0, Nat.zero_le _, rfl, ho', hB, hC, hD, hO, hb, hs⟩
      case round =>
        clear ho' hB hC hD hO hb hs qc0
        obtain ⟨cc, hcc, rfl, ho, hB, hC, hD, hO, hb, hs⟩ := hrel
        by_cases hltx : cc < a'
        · have hlt : pr + cc < ds.length := by omega
          have hltx' : (cc : Int) < a' := by omega
          have hat := rc_at (j := pr + cc) hltx (by rw [hpr.out])
          obtain ⟨b0', o0', hA0, _, d0, d1, d2, d3, d4, d5⟩ := ha'.get hlt
          injection hA0 with hA0
          injection hA0 with hA1 hA2
          subst hA1 hA2
          rw [show o0 + (pr + cc) * 6 = o0 + pr * 6 + cc * 6 by omega] at d0 d1 d2 d3 d4 d5
          have qo0 : ∀ i, wr.cell? ⟨w3.heap.size, i, none⟩ = _ := fun i => cell_of_row wr _ i _ _ (0, 0) hO.out
          by_cases hin : (0 ≤ x + (cc : Int) ∧ x + (cc : Int) < a) ∧ 0 ≤ y + (rr : Int) ∧ y + (rr : Int) < bb
          · have HI := Lib.hid (decide_eq_true (p := (0 ≤ x + (cc : Int) ∧ x + (cc : Int) < a) ∧ (0 ≤ y + (rr : Int) ∧ y + (rr : Int) < bb)) hin)
            obtain ⟨⟨i1, i2⟩, i3, i4⟩ := hin
            obtain ⟨cx, hcx⟩ := Int.eq_ofNat_of_zero_le i1
            obtain ⟨cy, hcy⟩ := Int.eq_ofNat_of_zero_le i3
            rw [hcx] at i2
            rw [hcy] at i4
            have j2 : cx < a := by omega
            have j4 : cy < bb := by omega
            have hcy9 : cy ≤ 1000 := by omega
            obtain ⟨p, hp⟩ : ∃ p, Hid (p = cy * a) := ⟨_, rfl⟩
            obtain ⟨q, hq⟩ : ∃ q, Hid (q = (cy + 1) * a) := ⟨_, rfl⟩
            have hqp3 : q = p + a := by rw [hp.out, hq.out, Nat.succ_mul]
            have hqb : q ≤ cs.length := by rw [HL.out, hqp3, hp.out]; exact (row_bd j4 ha1).2
            have hqp : q - p = a := by omega
            have hpq : p < q := by omega
            have hic : p + cx < cs.length := by omega
            have hkl : p + cx < (paL cs ds a bb x y a' (pr + cc)).length := by rw [paL_len]; exact hic
            have HF := Lib.hid (pa_set (cs := cs) (ds := ds) (H := bb) (x := x) (y := y) (a := a') (j := pr + cc) (A := a) (i := p + cx) (p := p) (cx := cx) (cy := cy) hlt (by rw [hat.2]; exact hcx) (by rw [hat.1]; exact hcy) i2 i4 hp.out rfl)
            have HE1 := Lib.hid (add_ik hcx (by omega))
            have HE2 := Lib.hid (add_ik hcy (by omega))
            have hAg : (some (⟨g, 0, none⟩ : Addr)).map (·.add (p * 6)) = some ⟨g, p * 6, none⟩ := by simp [Addr.add_lit]
            have hAb : (some (⟨b0, o0, none⟩ : Addr)).map (·.add (pr * 6)) = some ⟨b0, o0 + pr * 6, none⟩ := by simp [Addr.add_lit]
            have i2n : (cx : Int) < (a : Int) := i2
            have HI2 := Lib.hid (decide_eq_true (p := (0 ≤ (cx : Int) ∧ (cx : Int) < a) ∧ (0 ≤ (cy : Int) ∧ (cy : Int) < bb)) (by omega))
            have p1 : (0 : Int) ≤ (cx : Int) := by omega
            have p2 : (0 : Int) ≤ (cy : Int) := by omega
            have HP3 := Lib.hid hqp3
            have HAT := Lib.hid hat
            obtain ⟨eck, ecw⟩ := small_k (n := (cx : Int)) (by omega) (by omega)
            obtain ⟨eyk, eyw⟩ := small_k (n := (cy : Int)) (by omega) (by omega)
            obtain ⟨e1k, e1⟩ := HE1.out
            obtain ⟨e2k, e2⟩ := HE2.out
            clear hcx hcy hqp3 hat i3 i1
            go_wp2_with fail
            refine (has_any a bb _ _ _ _ _ _ ⟨by omega, by omega⟩ ⟨by omega, by omega⟩).mono ?_
            rintro e w5 ⟨he, hb5⟩
            first | rw [HI2.out] at he | rw [HI.out] at he
            subst he
            obtain ⟨B5, q5, r5, zB5⟩ := keep_blk hb5 hB.out
            obtain ⟨C5, qq5, rr5, zC5⟩ := keep_blk hb5 hC.out
            obtain ⟨D5, qd5, rd5, zD5⟩ := keep_blk hb5 hD.out
            obtain ⟨O5, qo5, ro5, zO5⟩ := keep_blk hb5 hO.out
            have ho5 := ho.below hb5 (Nat.le_refl _)
            have t5 := hb.trans (hb5.mono hb.size)
            have zw5 := hb5.size
            have k5O0 : w5.cell? ⟨w3.heap.size, 0, none⟩ = some (.int .i64 a) := (by rw [cell_of_row w5 (w3.heap.size) 0 _ _ (0, 0) O5]; rfl)
            have k5O1 : w5.cell? ⟨w3.heap.size, 1, none⟩ = some (.int .i64 bb) := (by rw [cell_of_row w5 (w3.heap.size) 1 _ _ (0, 0) O5]; rfl)
            have k5O2 : w5.cell? ⟨w3.heap.size, 2, none⟩ = some (.slice (some ⟨g, 0, none⟩) cs.length c3) := (by rw [cell_of_row w5 (w3.heap.size) 2 _ _ (0, 0) O5]; rfl)
            have k5H0 : w5.cell? ⟨w.heap.size + 1, 0, none⟩ = some (.int .i64 a') := (by rw [cell_of_row w5 (w.heap.size + 1) 0 _ _ (0, 0) C5]; rfl)
            have k5H1 : w5.cell? ⟨w.heap.size + 1, 1, none⟩ = some (.int .i64 bb') := (by rw [cell_of_row w5 (w.heap.size + 1) 1 _ _ (0, 0) C5]; rfl)
            have k5H2 : w5.cell? ⟨w.heap.size + 1, 2, none⟩ = some (.slice (some ⟨b0, o0, none⟩) ds.length c') := (by rw [cell_of_row w5 (w.heap.size + 1) 2 _ _ (0, 0) C5]; rfl)
            have k5E0 : w5.cell? ⟨b0, o0 + pr * 6 + cc * 6, none⟩ = some (.int .i64 ds[pr + cc].1) := ((t5.cell (World.block_lt_of_cell? w _ d0)).trans d0)
            have k5E1 : w5.cell? ⟨b0, o0 + pr * 6 + cc * 6 + 1, none⟩ = some (.int .i64 ds[pr + cc].2.1) := ((t5.cell (World.block_lt_of_cell? w _ d1)).trans d1)
            have k5E2 : w5.cell? ⟨b0, o0 + pr * 6 + cc * 6 + 2, none⟩ = some (.int .i64 ds[pr + cc].2.2.1) := ((t5.cell (World.block_lt_of_cell? w _ d2)).trans d2)
            have k5E3 : w5.cell? ⟨b0, o0 + pr * 6 + cc * 6 + 3, none⟩ = some (.bool ds[pr + cc].2.2.2.1) := ((t5.cell (World.block_lt_of_cell? w _ d3)).trans d3)
            have k5E4 : w5.cell? ⟨b0, o0 + pr * 6 + cc * 6 + 4, none⟩ = some (.bool ds[pr + cc].2.2.2.2.1) := ((t5.cell (World.block_lt_of_cell? w _ d4)).trans d4)
            have k5E5 : w5.cell? ⟨b0, o0 + pr * 6 + cc * 6 + 5, none⟩ = some (.bool ds[pr + cc].2.2.2.2.2) := ((t5.cell (World.block_lt_of_cell? w _ d5)).trans d5)
            clear q5 r5 qq5 rr5 qd5 rd5 qo5 ro5
            go_wp2_with fail
            first
              | (go_region_held3 (fun w' => w'.cell? ⟨w3.heap.size, 0, none⟩ = some (.int .i64 a) ∧ w'.cell? ⟨w3.heap.size, 1, none⟩ = some (.int .i64 bb) ∧ w'.cell? ⟨w3.heap.size, 2, none⟩ = some (.slice (some ⟨g, 0, none⟩) cs.length c3) ∧ w'.cell? ⟨w.heap.size + 1, 0, none⟩ = some (.int .i64 a') ∧ w'.cell? ⟨w.heap.size + 1, 1, none⟩ = some (.int .i64 bb') ∧ w'.cell? ⟨w.heap.size + 1, 2, none⟩ = some (.slice (some ⟨b0, o0, none⟩) ds.length c') ∧ w'.cell? ⟨b0, o0 + pr * 6 + cc * 6, none⟩ = some (.int .i64 ds[pr + cc].1) ∧ w'.cell? ⟨b0, o0 + pr * 6 + cc * 6 + 1, none⟩ = some (.int .i64 ds[pr + cc].2.1) ∧ w'.cell? ⟨b0, o0 + pr * 6 + cc * 6 + 2, none⟩ = some (.int .i64 ds[pr + cc].2.2.1) ∧ w'.cell? ⟨b0, o0 + pr * 6 + cc * 6 + 3, none⟩ = some (.bool ds[pr + cc].2.2.2.1) ∧ w'.cell? ⟨b0, o0 + pr * 6 + cc * 6 + 4, none⟩ = some (.bool ds[pr + cc].2.2.2.2.1) ∧ w'.cell? ⟨b0, o0 + pr * 6 + cc * 6 + 5, none⟩ = some (.bool ds[pr + cc].2.2.2.2.2))
                   (first | with_reducible assumption | with_reducible exact ⟨cell_drew k5O0, cell_drew k5O1, cell_drew k5O2, cell_drew k5H0, cell_drew k5H1, cell_drew k5H2, cell_drew k5E0, cell_drew k5E1, cell_drew k5E2, cell_drew k5E3, cell_drew k5E4, cell_drew k5E5⟩ | with_reducible exact ⟨cell_six k7O0 hgO _ _ _ _ _ _, cell_six k7O1 hgO _ _ _ _ _ _, cell_six k7O2 hgO _ _ _ _ _ _, cell_six k7H0 hgC _ _ _ _ _ _, cell_six k7H1 hgC _ _ _ _ _ _, cell_six k7H2 hgC _ _ _ _ _ _, cell_six k7E0 hgE _ _ _ _ _ _, cell_six k7E1 hgE _ _ _ _ _ _, cell_six k7E2 hgE _ _ _ _ _ _, cell_six k7E3 hgE _ _ _ _ _ _, cell_six k7E4 hgE _ _ _ _ _ _, cell_six k7E5 hgE _ _ _ _ _ _⟩)
                   ((first | (go_at_call_of 53 g; refine (row_any a bb _ _ _ cy p q _ hp hq hpq hqb hxc hcl hcy9).mono ?_; rintro e w6 ⟨he, hb6'⟩; rw [hAg, hqp] at he; subst he; have hb6 : Below w5.heap.size w5 w6 := (Below.drew (Below.refl _ _)).trans hb6'; obtain ⟨B6, q6, r6, zB6⟩ := keep_blk hb6 B5; obtain ⟨C6, qq6, rr6, zC6⟩ := keep_blk hb6 C5; obtain ⟨D6, qd6, rd6, zD6⟩ := keep_blk hb6 D5; obtain ⟨O6, qo6, ro6, zO6⟩ := keep_blk hb6 O5; have ho6 := ho5.below hb6 (Nat.le_refl _); have t6 := t5.trans (hb6.mono t5.size); have zw6 := hb6.size; have k6O0 : w6.cell? ⟨w3.heap.size, 0, none⟩ = some (.int .i64 a) := (by rw [cell_of_row w6 (w3.heap.size) 0 _ _ (0, 0) O6]; rfl); have k6O1 : w6.cell? ⟨w3.heap.size, 1, none⟩ = some (.int .i64 bb) := (by rw [cell_of_row w6 (w3.heap.size) 1 _ _ (0, 0) O6]; rfl); have k6O2 : w6.cell? ⟨w3.heap.size, 2, none⟩ = some (.slice (some ⟨g, 0, none⟩) cs.length c3) := (by rw [cell_of_row w6 (w3.heap.size) 2 _ _ (0, 0) O6]; rfl); have k6H0 : w6.cell? ⟨w.heap.size + 1, 0, none⟩ = some (.int .i64 a') := (by rw [cell_of_row w6 (w.heap.size + 1) 0 _ _ (0, 0) C6]; rfl); have k6H1 : w6.cell? ⟨w.heap.size + 1, 1, none⟩ = some (.int .i64 bb') := (by rw [cell_of_row w6 (w.heap.size + 1) 1 _ _ (0, 0) C6]; rfl); have k6H2 : w6.cell? ⟨w.heap.size + 1, 2, none⟩ = some (.slice (some ⟨b0, o0, none⟩) ds.length c') := (by rw [cell_of_row w6 (w.heap.size + 1) 2 _ _ (0, 0) C6]; rfl); have k6E0 : w6.cell? ⟨b0, o0 + pr * 6 + cc * 6, none⟩ = some (.int .i64 ds[pr + cc].1) := ((t6.cell (World.block_lt_of_cell? w _ d0)).trans d0); have k6E1 : w6.cell? ⟨b0, o0 + pr * 6 + cc * 6 + 1, none⟩ = some (.int .i64 ds[pr + cc].2.1) := ((t6.cell (World.block_lt_of_cell? w _ d1)).trans d1); have k6E2 : w6.cell? ⟨b0, o0 + pr * 6 + cc * 6 + 2, none⟩ = some (.int .i64 ds[pr + cc].2.2.1) := ((t6.cell (World.block_lt_of_cell? w _ d2)).trans d2); have k6E3 : w6.cell? ⟨b0, o0 + pr * 6 + cc * 6 + 3, none⟩ = some (.bool ds[pr + cc].2.2.2.1) := ((t6.cell (World.block_lt_of_cell? w _ d3)).trans d3); have k6E4 : w6.cell? ⟨b0, o0 + pr * 6 + cc * 6 + 4, none⟩ = some (.bool ds[pr + cc].2.2.2.2.1) := ((t6.cell (World.block_lt_of_cell? w _ d4)).trans d4); have k6E5 : w6.cell? ⟨b0, o0 + pr * 6 + cc * 6 + 5, none⟩ = some (.bool ds[pr + cc].2.2.2.2.2) := ((t6.cell (World.block_lt_of_cell? w _ d5)).trans d5); have hkeep6 := And.intro k6O0 (And.intro k6O1 (And.intro k6O2 (And.intro k6H0 (And.intro k6H1 (And.intro k6H2 (And.intro k6E0 (And.intro k6E1 (And.intro k6E2 (And.intro k6E3 (And.intro k6E4 (k6E5)))))))))))) | (go_at_call_of 53 b0; refine (row_any a' bb' _ _ _ rr pr qr _ hpr hqr hpqr hqbr hc' hcl' hrr9).mono ?_; rintro e w7 ⟨he, hb7⟩; rw [hAb, hqpr] at he; subst he; obtain ⟨B7, q7, r7, zB7⟩ := keep_blk hb7 B6; obtain ⟨C7, qq7, rr7, zC7⟩ := keep_blk hb7 C6; obtain ⟨D7, qd7, rd7, zD7⟩ := keep_blk hb7 D6; obtain ⟨O7, qo7, ro7, zO7⟩ := keep_blk hb7 O6; have ho7 := ho6.below hb7 (Nat.le_refl _); have t7 := t6.trans (hb7.mono t6.size); have zw7 := Nat.le_trans zw6 hb7.size; obtain ⟨⟨u0, x0⟩, ⟨u1, x1'⟩, ⟨u2, x2'⟩, ⟨u3, x3⟩, ⟨u4, x4⟩, ⟨u5, x5⟩, f0, f1, f2, f3, f4, f5⟩ := ho7.getA (p := p) (k := cx) hkl; have k7O0 : w7.cell? ⟨w3.heap.size, 0, none⟩ = some (.int .i64 a) := (by rw [cell_of_row w7 (w3.heap.size) 0 _ _ (0, 0) O7]; rfl); have k7O1 : w7.cell? ⟨w3.heap.size, 1, none⟩ = some (.int .i64 bb) := (by rw [cell_of_row w7 (w3.heap.size) 1 _ _ (0, 0) O7]; rfl); have k7O2 : w7.cell? ⟨w3.heap.size, 2, none⟩ = some (.slice (some ⟨g, 0, none⟩) cs.length c3) := (by rw [cell_of_row w7 (w3.heap.size) 2 _ _ (0, 0) O7]; rfl); have k7H0 : w7.cell? ⟨w.heap.size + 1, 0, none⟩ = some (.int .i64 a') := (by rw [cell_of_row w7 (w.heap.size + 1) 0 _ _ (0, 0) C7]; rfl); have k7H1 : w7.cell? ⟨w.heap.size + 1, 1, none⟩ = some (.int .i64 bb') := (by rw [cell_of_row w7 (w.heap.size + 1) 1 _ _ (0, 0) C7]; rfl); have k7H2 : w7.cell? ⟨w.heap.size + 1, 2, none⟩ = some (.slice (some ⟨b0, o0, none⟩) ds.length c') := (by rw [cell_of_row w7 (w.heap.size + 1) 2 _ _ (0, 0) C7]; rfl); have k7E0 : w7.cell? ⟨b0, o0 + pr * 6 + cc * 6, none⟩ = some (.int .i64 ds[pr + cc].1) := ((t7.cell (World.block_lt_of_cell? w _ d0)).trans d0); have k7E1 : w7.cell? ⟨b0, o0 + pr * 6 + cc * 6 + 1, none⟩ = some (.int .i64 ds[pr + cc].2.1) := ((t7.cell (World.block_lt_of_cell? w _ d1)).trans d1); have k7E2 : w7.cell? ⟨b0, o0 + pr * 6 + cc * 6 + 2, none⟩ = some (.int .i64 ds[pr + cc].2.2.1) := ((t7.cell (World.block_lt_of_cell? w _ d2)).trans d2); have k7E3 : w7.cell? ⟨b0, o0 + pr * 6 + cc * 6 + 3, none⟩ = some (.bool ds[pr + cc].2.2.2.1) := ((t7.cell (World.block_lt_of_cell? w _ d3)).trans d3); have k7E4 : w7.cell? ⟨b0, o0 + pr * 6 + cc * 6 + 4, none⟩ = some (.bool ds[pr + cc].2.2.2.2.1) := ((t7.cell (World.block_lt_of_cell? w _ d4)).trans d4); have k7E5 : w7.cell? ⟨b0, o0 + pr * 6 + cc * 6 + 5, none⟩ = some (.bool ds[pr + cc].2.2.2.2.2) := ((t7.cell (World.block_lt_of_cell? w _ d5)).trans d5); have hkeep7 := And.intro k7O0 (And.intro k7O1 (And.intro k7O2 (And.intro k7H0 (And.intro k7H1 (And.intro k7H2 (And.intro k7E0 (And.intro k7E1 (And.intro k7E2 (And.intro k7E3 (And.intro k7E4 (k7E5)))))))))))))))
              | fail
            clear hkeep6 hkeep7
            have ho9 := ho7.setA (p := p) (k := cx) hkl ds[pr + cc]
            rw [HF.out] at ho9
            clear e1k e1 e2k e2 eck ecw eyk eyw
            go_wp2_with fail
            refine ⟨⟨cc + 1, by omega, by go_num, ho9, Lib.hid (heap_six B7 (by omega) _ _ _ _ _ _), Lib.hid (heap_six C7 (by omega) _ _ _ _ _ _), Lib.hid (heap_six D7 (by omega) _ _ _ _ _ _), Lib.hid (heap_six O7 (by omega) _ _ _ _ _ _), below_six t7 (by omega) _ _ _ _ _ _, by simp; omega⟩, ?_⟩
            simp [intOf]
            omega
          · have HI := Lib.hid (decide_eq_false (p := (0 ≤ x + (cc : Int) ∧ x + (cc : Int) < a) ∧ (0 ≤ y + (rr : Int) ∧ y + (rr : Int) < bb)) hin)
            have HF := Lib.hid (pa_skip (cs := cs) (ds := ds) (W := a) (H := bb) (x := x) (y := y) (a := a') (j := pr + cc) (by rw [hat.1, hat.2]; exact hin))
            have HAT := Lib.hid hat
            clear hin hat
            go_wp2_with fail
            refine (has_any a bb _ _ _ (x + (cc : Int)) (y + (rr : Int)) _ ⟨by omega, by omega⟩ ⟨by omega, by omega⟩).mono ?_
            rintro e w5 ⟨he, hb5⟩
            rw [HI.out] at he
            subst he
            obtain ⟨B5, q5, r5, zB5⟩ := keep_blk hb5 hB.out
            obtain ⟨C5, qq5, rr5, zC5⟩ := keep_blk hb5 hC.out
            obtain ⟨D5, qd5, rd5, zD5⟩ := keep_blk hb5 hD.out
            obtain ⟨O5, qo5, ro5, zO5⟩ := keep_blk hb5 hO.out
            have ho5 := ho.below hb5 (Nat.le_refl _)
            rw [HF.out] at ho5
            have t5 := hb.trans (hb5.mono hb.size)
            have zw5 := hb5.size
            go_wp2_with fail
            refine ⟨⟨cc + 1, by omega, by go_num, ho5, Lib.hid B5, Lib.hid C5, Lib.hid D5, Lib.hid O5, t5, by omega⟩, ?_⟩
            simp [intOf]
            omega
        · have hcca : cc = a' := by omega
          have ho' := ho
          rw [hcca, show pr + a' = (rr + 1) * a' by rw [← HQ2.out, hqr.out]] at ho'
          have hltx' : ¬ (cc : Int) < a' := by omega
          clear ho hcca
          go_wp2_with fail
          refine ⟨⟨rr + 1, by omega, by go_num, ho', hB, hC, hD, hO, hb, hs⟩, ?_⟩
          simp [intOf]
          omega
    · have hrb : rr = bb' := by omega
      have ho' : Og wr (w.heap.size + 3) (some ⟨g, 0, none⟩) c3 (paL cs ds a bb x y a' ds.length) := by rw [HL'.out, ← hrb]; exact ho
      have hlty' : ¬ (rr : Int) < bb' := by omega
      clear hrb ho
      have zr := (Array.getElem?_eq_some_iff.1 hD.out).1
      have qd0 : ∀ i, wr.cell? ⟨w.heap.size + 1 + 1, i, none⟩ = _ := fun i => cell_of_row wr _ i _ _ (0, 0) hD.out
      have rd0 : ∀ i, wr.frozen? ⟨w.heap.size + 1 + 1, i, none⟩ = false := fun i => by simp [World.frozen?, hD.out]
      have qo0 : ∀ i, wr.cell? ⟨w3.heap.size, i, none⟩ = _ := fun i => cell_of_row wr _ i _ _ (0, 0) hO.out
      go_wp2_with fail
      refine bodyPost_ret (v := gV a bb (some ⟨g, 0, none⟩) cs.length c3) (by simp [results, Try.results69, go_sem, *]) rfl ?_
      have hL : (paL cs ds a bb x y a' ds.length).length = cs.length := paL_len
      have ho2 := (((ho'.setCell (p := ⟨w.heap.size + 1 + 1, 0, none⟩) (by first | omega | (simp; done) | (simp; omega)) (.int .i64 a)).setCell (p := ⟨w.heap.size + 1 + 1, 1, none⟩) (by first | omega | (simp; done) | (simp; omega)) (.int .i64 bb)).setCell (p := ⟨w.heap.size + 1 + 1, 2, none⟩) (by first | omega | (simp; done) | (simp; omega)) (.slice (some ⟨g, 0, none⟩) cs.length c3))
      exact ⟨_, c3, by rw [hL], ho2.mono (by omega), ho2.gs, (ho2.mono (by omega)).inB, ((hb.setCell (by first | omega | (simp; done) | (simp; omega)) _).setCell (by first | omega | (simp; done) | (simp; omega)) _).setCell (by first | omega | (simp; done) | (simp; omega)) _⟩
end Go.Proofs.Ytnilgcahggmncaa
