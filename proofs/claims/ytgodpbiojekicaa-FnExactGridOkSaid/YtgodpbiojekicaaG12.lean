/- Grids: copying, comparing. -/
import Derived.Test.YtgodpbiojekicaaG10
namespace Go.Proofs.Ytgodpbiojekicaa
open Go.RowKit
set_option linter.unusedVariables false
set_option maxRecDepth 100000

def GridPost (w : World) (W H : Int) (cs : List Cl) (e : Ending) (w' : World) : Prop :=
  ∃ A' c', e = .returned (gV W H A' cs.length c') ∧ cs.length ≤ c' ∧ Gs w' A' cs ∧ InB w.heap.size w'.heap.size A' ∧ Below w.heap.size w w'
set_option maxHeartbeats 1000000 in
theorem toGrid_any (W H : Int) (A : Option Addr) (c : Nat) (cs : List Cl) (w : World) (ha : Gs w A cs) (hl : cs.length ≤ 1048576) :
    Calls Try.prog 30 #[gV W H A cs.length c] w (GridPost w W H cs) := by
  go_enter Try.func30, Try.ntmps30
  go_wp2_with fail
  have hb0 : Below w.heap.size w (((w.alloc (.cells #[.int .i64 W, .int .i64 H, .slice A cs.length c] 44)).alloc (.cells #[.int .i64 0, .int .i64 0, .slice none 0 0] 49)).alloc (.cells #[.int .i64 W, .int .i64 H, .slice none 0 0] 49)) := by (repeat (first | exact Below.refl _ _ | (refine Below.alloc ?_ (by first | omega | (simp; done) | (simp; omega)) _) | (refine Below.drew ?_) | (refine below_drewN ?_ _) | (refine below_at1 ?_ (by first | omega | (simp; done) | (simp; omega))) | (refine Below.setCell ?_ (by first | omega | (simp; done) | (simp; omega)) _) | (refine Below.trans ?_ (Below.mono (by assumption) (by first | omega | (simp; done) | (simp; omega))))))
  refine (toCellS_any _ _ _ _ (ha.below hb0) hl).mono ?_
  rintro e w1 ⟨A1, c1, rfl, hc1, hs1, hi1, hb⟩
  have zh := hb.size
  have g0 : w1.heap[w.heap.size]? = some (.cells #[.int .i64 W, .int .i64 H, .slice A cs.length c] 44 (0, 0)) := (hb.block _ (by simp; omega)).trans (by repeat (first | assumption | exact heap_alloc_at _ (by first | rfl | (simp; done) | omega) | refine heap_alloc_of _ ?_ | refine heap_setCell_of _ (by first | omega | (simp; done) | (simp; omega)) ?_ | refine heap_setCell_same _ ?_ | exact heap_at1_same (by first | omega | (simp; done) | (simp; omega)) | refine heap_at1_of (by first | omega | (simp; done) | (simp; omega)) ?_))
  have g1 : w1.heap[w.heap.size + 1]? = some (.cells #[.int .i64 0, .int .i64 0, .slice none 0 0] 49 (0, 0)) := (hb.block _ (by simp)).trans (by repeat (first | assumption | exact heap_alloc_at _ (by first | rfl | (simp; done) | omega) | refine heap_alloc_of _ ?_ | refine heap_setCell_of _ (by first | omega | (simp; done) | (simp; omega)) ?_ | refine heap_setCell_same _ ?_ | exact heap_at1_same (by first | omega | (simp; done) | (simp; omega)) | refine heap_at1_of (by first | omega | (simp; done) | (simp; omega)) ?_))
  have g2 : w1.heap[w.heap.size + 1 + 1]? = some (.cells #[.int .i64 W, .int .i64 H, .slice none 0 0] 49 (0, 0)) := (hb.block _ (by simp)).trans (by repeat (first | assumption | exact heap_alloc_at _ (by first | rfl | (simp; done) | omega) | refine heap_alloc_of _ ?_ | refine heap_setCell_of _ (by first | omega | (simp; done) | (simp; omega)) ?_ | refine heap_setCell_same _ ?_ | exact heap_at1_same (by first | omega | (simp; done) | (simp; omega)) | refine heap_at1_of (by first | omega | (simp; done) | (simp; omega)) ?_))
  have g0c0 : w1.cell? ⟨w.heap.size, 0, none⟩ = some (.int .i64 W) := by simp [World.cell?, g0]
  have g0c1 : w1.cell? ⟨w.heap.size, 1, none⟩ = some (.int .i64 H) := by simp [World.cell?, g0]
  have g0c2 : w1.cell? ⟨w.heap.size, 2, none⟩ = some (.slice A cs.length c) := by simp [World.cell?, g0]
  have g1c0 : w1.cell? ⟨w.heap.size + 1, 0, none⟩ = some (.int .i64 0) := by simp [World.cell?, g1]
  have g1f0 : w1.frozen? ⟨w.heap.size + 1, 0, none⟩ = false := by simp [World.frozen?, g1]
  have g1c1 : w1.cell? ⟨w.heap.size + 1, 1, none⟩ = some (.int .i64 0) := by simp [World.cell?, g1]
  have g1f1 : w1.frozen? ⟨w.heap.size + 1, 1, none⟩ = false := by simp [World.frozen?, g1]
  have g1c2 : w1.cell? ⟨w.heap.size + 1, 2, none⟩ = some (.slice none 0 0) := by simp [World.cell?, g1]
  have g1f2 : w1.frozen? ⟨w.heap.size + 1, 2, none⟩ = false := by simp [World.frozen?, g1]
  have g2c0 : w1.cell? ⟨w.heap.size + 1 + 1, 0, none⟩ = some (.int .i64 W) := by simp [World.cell?, g2]
  have g2f0 : w1.frozen? ⟨w.heap.size + 1 + 1, 0, none⟩ = false := by simp [World.frozen?, g2]
  have g2c1 : w1.cell? ⟨w.heap.size + 1 + 1, 1, none⟩ = some (.int .i64 H) := by simp [World.cell?, g2]
  have g2f1 : w1.frozen? ⟨w.heap.size + 1 + 1, 1, none⟩ = false := by simp [World.frozen?, g2]
  have g2c2 : w1.cell? ⟨w.heap.size + 1 + 1, 2, none⟩ = some (.slice none 0 0) := by simp [World.cell?, g2]
  have g2f2 : w1.frozen? ⟨w.heap.size + 1 + 1, 2, none⟩ = false := by simp [World.frozen?, g2]
  clear g0 g1 g2
  go_wp2_with fail
  refine bodyPost_ret (v := gV W H A1 cs.length c1) (by simp [results, Try.results30, go_sem, *]) rfl ?_
  have hi2 : ∀ ad, A1 = some ad → w.heap.size + 3 ≤ ad.block ∧ ad.block < w1.heap.size := fun ad h => by have := hi1 ad h; simp at this; omega
  have hk : ∀ (p : Addr) (v : Value), p.block < w.heap.size + 3 → ∀ W2 : World, Gs W2 A1 cs → Gs (W2.setCell p v) A1 cs := by
    intro p v hp W2 h
    rcases h with h | ⟨b, o, rfl, h⟩
    · exact .inl h
    · refine .inr ⟨b, o, rfl, fun i x hx j u hu => ?_⟩
      have := (hi2 _ rfl).1
      have h3 := h i x hx j u hu
      have h4 := Below.heap_setCell W2 p v b (by simp at this; omega)
      unfold World.cell? at h3 ⊢
      simp only [h4]
      exact h3
  refine ⟨A1, c1, rfl, hc1, ?_, fun ad h => ?_, ?_⟩
  · exact hk _ _ (by first | omega | (simp; done) | (simp; omega)) _ (hk _ _ (by first | omega | (simp; done) | (simp; omega)) _ (hk _ _ (by first | omega | (simp; done) | (simp; omega)) _ (hk _ _ (by first | omega | (simp; done) | (simp; omega)) _ hs1)))
  · have := hi2 ad h
    simp
    omega
  · exact ((((hb0.trans (hb.mono (by first | omega | (simp; done) | (simp; omega)))).setCell (by first | omega | (simp; done) | (simp; omega)) _).setCell (by first | omega | (simp; done) | (simp; omega)) _).setCell (by first | omega | (simp; done) | (simp; omega)) _).setCell (by first | omega | (simp; done) | (simp; omega)) _
theorem eqGrid_same (W H : Int) (A A' : Option Addr) (c c' : Nat) (cs : List Cl) (w : World) (ha : Gs w A cs) (hb : Gs w A' cs) (hl : cs.length ≤ 1099511627776) :
    Calls Try.prog 32 #[gV W H A cs.length c, gV W H A' cs.length c'] w fun e w' => e = .returned (.bool true) ∧ Below w.heap.size w w' := by
  go_enter Try.func32, Try.ntmps32
  go_wp2_with fail
  have hb0 : Below w.heap.size w ((w.alloc (.cells #[.int .i64 W, .int .i64 H, .slice A cs.length c] 49)).alloc (.cells #[.int .i64 W, .int .i64 H, .slice A' cs.length c'] 49)) := by (repeat (first | exact Below.refl _ _ | (refine Below.alloc ?_ (by first | omega | (simp; done) | (simp; omega)) _) | (refine Below.drew ?_) | (refine below_drewN ?_ _) | (refine below_at1 ?_ (by first | omega | (simp; done) | (simp; omega))) | (refine Below.setCell ?_ (by first | omega | (simp; done) | (simp; omega)) _) | (refine Below.trans ?_ (Below.mono (by assumption) (by first | omega | (simp; done) | (simp; omega))))))
  refine (eqCellS_same _ _ _ _ cs _ (ha.below hb0) (hb.below hb0) hl).mono ?_
  rintro e w1 ⟨rfl, hb1⟩
  go_wp2_with fail
  go_ret
  exact ⟨rfl, hb0.trans (hb1.mono (by first | omega | (simp; done) | (simp; omega)))⟩
instance (a b : List Cl) : Decidable (a = b) := inferInstance
def sameB (W H W' H' : Int) (cs ds : List Cl) : Bool := decide (W = W' ∧ H = H' ∧ cs = ds)
theorem cl_ne {a b : Cl} (h : ¬ a = b) : (¬ a.1 = b.1) ∨ (a.1 = b.1 ∧ ¬ a.2.1 = b.2.1) ∨ (a.1 = b.1 ∧ a.2.1 = b.2.1 ∧ ¬ a.2.2.1 = b.2.2.1) ∨ (a.1 = b.1 ∧ a.2.1 = b.2.1 ∧ a.2.2.1 = b.2.2.1 ∧ ¬ a.2.2.2.1 = b.2.2.2.1) ∨ (a.1 = b.1 ∧ a.2.1 = b.2.1 ∧ a.2.2.1 = b.2.2.1 ∧ a.2.2.2.1 = b.2.2.2.1 ∧ ¬ a.2.2.2.2.1 = b.2.2.2.2.1) ∨ (a.1 = b.1 ∧ a.2.1 = b.2.1 ∧ a.2.2.1 = b.2.2.1 ∧ a.2.2.2.1 = b.2.2.2.1 ∧ a.2.2.2.2.1 = b.2.2.2.2.1 ∧ ¬ a.2.2.2.2.2 = b.2.2.2.2.2) := by
  obtain ⟨a1, a2, a3, a4, a5, a6⟩ := a
  obtain ⟨b1, b2, b3, b4, b5, b6⟩ := b
  by_cases e1 : a1 = b1
  case neg => exact .inl e1
  by_cases e2 : a2 = b2
  case neg => exact .inr (.inl ⟨e1, e2⟩)
  by_cases e3 : a3 = b3
  case neg => exact .inr (.inr (.inl ⟨e1, e2, e3⟩))
  by_cases e4 : a4 = b4
  case neg => exact .inr (.inr (.inr (.inl ⟨e1, e2, e3, e4⟩)))
  by_cases e5 : a5 = b5
  case neg => exact .inr (.inr (.inr (.inr (.inl ⟨e1, e2, e3, e4, e5⟩))))
  by_cases e6 : a6 = b6
  case neg => exact .inr (.inr (.inr (.inr (.inr (⟨e1, e2, e3, e4, e5, e6⟩)))))
  exact absurd (by rw [e1, e2, e3, e4, e5, e6]) h
set_option maxHeartbeats 2000000 in
theorem seqCells_any (A A' : Option Addr) (c c' : Nat) (cs ds : List Cl) (w : World) (ha : Gs w A cs) (hb : Gs w A' ds) (h1 : cs.length ≤ 1099511627776) (h2 : ds.length ≤ 1099511627776) :
    Calls Try.prog 55 #[.slice A cs.length c, .slice A' ds.length c'] w fun e w' => e = .returned (.bool (decide (cs = ds))) ∧ ∃ m, w.drewN m = w' := by
  by_cases hl : cs.length = ds.length
  · have hne : ((cs.length : Int) != (ds.length : Int)) = false := by simp [hl]
    have HL := Lib.hid hl
    clear hl
    go_enter Try.func55, Try.ntmps55
    go_wp2
    go_loopw [13] (fun i wr => ∃ k m : Nat, k ≤ cs.length ∧ i = .int .i64 k ∧ Hid (cs.take k = ds.take k) ∧ wr = w.drewN m) (fun i _ => cs.length - (intOf i).toNat)
    case atStart => exact ⟨0, 0, Nat.zero_le _, rfl, by show _ = _; simp, rfl⟩
    case round =>
      obtain ⟨k, m, hk, rfl, ht, rfl⟩ := hrel
      by_cases hlt : k < cs.length
      · have hlt2 : k < ds.length := by rw [← HL.out]; exact hlt
        obtain ⟨b, o, rfl, hbs, x0, x1, x2, x3, x4, x5⟩ := ha.get hlt
        obtain ⟨b', o', rfl, hbs', y0, y1, y2, y3, y4, y5⟩ := hb.get hlt2
        have hlt' : (k : Int) < cs.length := by omega
        have hlt2' : (k : Int) < ds.length := by omega
        by_cases hxy : cs[k] = ds[k]
        · have HT : Hid (cs.take (k + 1) = ds.take (k + 1)) := by
            show _ = _
            rw [take_succ_get (List.getElem?_eq_getElem hlt), take_succ_get (List.getElem?_eq_getElem hlt2), ht.out, hxy]
          rw [← hxy] at y0 y1 y2 y3 y4 y5
          clear hxy ht
          go_wp2
          go_quiet (fail)
          go_wp2
          go_roundw
          case rel => exact ⟨k + 1, _, by omega, by go_num, HT, rfl⟩
          case measure => simp [intOf]; omega
        · have HX : Hid (decide (cs = ds) = false) := by
            show _ = _
            simp
            intro h
            subst h
            exact hxy rfl
          clear ht
          rcases cl_ne hxy with e1 | ⟨e1, e2⟩ | ⟨e1, e2, e3⟩ | ⟨e1, e2, e3, e4⟩ | ⟨e1, e2, e3, e4, e5⟩ | ⟨e1, e2, e3, e4, e5, e6⟩
          · have hq : (cs[k].1 == ds[k].1) = false := by simpa using e1
            clear hxy e1
            go_wp2
            go_quiet (fail)
            go_wp2
            go_ret
            exact ⟨ret_bool HX.out.symm, _, (World.drewN_drewN _ _ _).symm⟩
          · have hq : (cs[k].2.1 == ds[k].2.1) = false := by simpa using e2
            rw [← e1] at y0
            clear hxy e1 e2
            go_wp2
            go_quiet (fail)
            go_wp2
            go_ret
            exact ⟨ret_bool HX.out.symm, _, (World.drewN_drewN _ _ _).symm⟩
          · have hq : (cs[k].2.2.1 == ds[k].2.2.1) = false := by simpa using e3
            rw [← e1] at y0
            rw [← e2] at y1
            clear hxy e1 e2 e3
            go_wp2
            go_quiet (fail)
            go_wp2
            go_ret
            exact ⟨ret_bool HX.out.symm, _, (World.drewN_drewN _ _ _).symm⟩
          · have hq : (cs[k].2.2.2.1 == ds[k].2.2.2.1) = false := by simpa using e4
            rw [← e1] at y0
            rw [← e2] at y1
            rw [← e3] at y2
            clear hxy e1 e2 e3 e4
            go_wp2
            go_quiet (fail)
            go_wp2
            go_ret
            exact ⟨ret_bool HX.out.symm, _, (World.drewN_drewN _ _ _).symm⟩
          · have hq : (cs[k].2.2.2.2.1 == ds[k].2.2.2.2.1) = false := by simpa using e5
            rw [← e1] at y0
            rw [← e2] at y1
            rw [← e3] at y2
            rw [← e4] at y3
            clear hxy e1 e2 e3 e4 e5
            go_wp2
            go_quiet (fail)
            go_wp2
            go_ret
            exact ⟨ret_bool HX.out.symm, _, (World.drewN_drewN _ _ _).symm⟩
          · have hq : (cs[k].2.2.2.2.2 == ds[k].2.2.2.2.2) = false := by simpa using e6
            rw [← e1] at y0
            rw [← e2] at y1
            rw [← e3] at y2
            rw [← e4] at y3
            rw [← e5] at y4
            clear hxy e1 e2 e3 e4 e5 e6
            go_wp2
            go_quiet (fail)
            go_wp2
            go_ret
            exact ⟨ret_bool HX.out.symm, _, (World.drewN_drewN _ _ _).symm⟩
      · have hk' : k = cs.length := by omega
        have HX : Hid (decide (cs = ds) = true) := by
          have h := ht.out
          have hl := HL.out
          show _ = _
          rw [hk', List.take_length, hl, List.take_length] at h
          simp [h]
        clear hk' ht
        have hlt' : ¬ ((k : Int) < cs.length) := by omega
        go_wp2
        go_ret
        exact ⟨ret_bool HX.out.symm, _, rfl⟩
  · have hne : ((cs.length : Int) != (ds.length : Int)) = true := by simp; omega
    have HX : Hid (decide (cs = ds) = false) := by
      show _ = _
      simp
      intro h
      exact hl (by rw [h])
    clear hl
    go_enter Try.func55, Try.ntmps55
    go_wp2
    go_ret
    exact ⟨ret_bool HX.out.symm, 0, rfl⟩
end Go.Proofs.Ytgodpbiojekicaa
