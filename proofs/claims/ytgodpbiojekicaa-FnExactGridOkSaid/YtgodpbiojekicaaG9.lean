/- Attributes turned by lists of numbers: both ways. -/
import Derived.Test.YtgodpbiojekicaaG8
namespace Go.Proofs.Ytgodpbiojekicaa
open Go.RowKit
set_option linter.unusedVariables false
set_option maxRecDepth 100000

set_option maxHeartbeats 4000000 in
theorem sgr_impl (a : At) (A : Option Addr) (c : Nat) (ns : List Int) (w : World) (ha : Cs w A (ns.map I)) (hl : ns.length ≤ 1048576) :
    Calls Try.prog 25 #[aV a, .slice A ns.length c] w fun e w' => e = .returned (aV (sgR a ns)) ∧ Below w.heap.size w w' := by
  obtain ⟨f, b, x, y, z⟩ := a
  by_cases hok : attrOkB f b = true
  case neg =>
    have HOK : Hid (attrOkB f b = false) := by show _ = _; simpa using hok
    have HR := Lib.hid (sgR_no (a := (f, b, x, y, z)) (l := ns) (.inl HOK.out))
    clear hok
    go_enter Try.func25, Try.ntmps25
    go_wp2_with (go_at_call 51; refine (attrOk_impl _ _ _ _ _ _).mono ?_; rintro e w' ⟨he, o, rfl⟩; rw [HOK.out] at he; subst he)
    rw [HR.out]
    exact bodyPost_ret (v := aV (0, 0, false, false, false)) (by simp [results, Try.results25, go_sem]) rfl ⟨rfl, (by (repeat (first | exact Below.refl _ _ | (refine Below.alloc ?_ (by first | omega | (simp; done) | (simp; omega)) _) | (refine Below.drew ?_) | (refine below_drewN ?_ _) | (refine below_at1 ?_ (by first | omega | (simp; done) | (simp; omega))) | (refine Below.setCell ?_ (by first | omega | (simp; done) | (simp; omega)) _) | (refine Below.trans ?_ (Below.mono (by assumption) (by first | omega | (simp; done) | (simp; omega)))))))⟩
  have HOK := Lib.hid hok
  clear hok
  by_cases hne : ns.length = 0
  · have hne' : ((ns.length : Int) == 0) = true := by simp [hne]
    have HR := Lib.hid (sgR_no (a := (f, b, x, y, z)) (l := ns) (.inr (List.eq_nil_of_length_eq_zero hne)))
    clear hne
    go_enter Try.func25, Try.ntmps25
    go_wp2_with (go_at_call 51; refine (attrOk_impl _ _ _ _ _ _).mono ?_; rintro e w' ⟨he, o, rfl⟩; rw [HOK.out] at he; subst he)
    rw [HR.out]
    exact bodyPost_ret (v := aV (0, 0, false, false, false)) (by simp [results, Try.results25, go_sem]) rfl ⟨rfl, (by (repeat (first | exact Below.refl _ _ | (refine Below.alloc ?_ (by first | omega | (simp; done) | (simp; omega)) _) | (refine Below.drew ?_) | (refine below_drewN ?_ _) | (refine below_at1 ?_ (by first | omega | (simp; done) | (simp; omega))) | (refine Below.setCell ?_ (by first | omega | (simp; done) | (simp; omega)) _) | (refine Below.trans ?_ (Below.mono (by assumption) (by first | omega | (simp; done) | (simp; omega)))))))⟩
  have hne' : ((ns.length : Int) == 0) = false := by simpa using hne
  have HR := Lib.hid (sgR_yes (a := (f, b, x, y, z)) (l := ns) HOK.out (fun h => hne (by rw [h]; rfl)))
  clear hne
  go_enter Try.func25, Try.ntmps25
  go_wp2_with (go_at_call 51; refine (attrOk_impl _ _ _ _ _ _).mono ?_; rintro e w' ⟨he, o, rfl⟩; rw [HOK.out] at he; subst he)
  go_loopw [17] (fun i wr => ∃ (k : Nat) (cur : At), k ≤ ns.length ∧ i = .int .i64 k ∧ Hid (cur = (ns.take k).foldl sg1 (f, b, x, y, z)) ∧ wr.heap[w.heap.size]? = some (.cells (aC cur) 35 (0, 0)) ∧ wr.heap[w.heap.size + 1]? = some (.cells (aC (0, 0, false, false, false)) 35 (0, 0)) ∧ Below w.heap.size w wr) (fun i _ => ns.length - (intOf i).toNat)
  case atStart => exact ⟨0, (f, b, x, y, z), Nat.zero_le _, rfl, rfl, (by repeat (first | assumption | exact heap_alloc_at _ (by first | rfl | (simp; done) | omega) | refine heap_alloc_of _ ?_ | refine heap_setCell_of _ (by first | omega | (simp; done) | (simp; omega)) ?_ | refine heap_setCell_same _ ?_ | exact heap_at1_same (by first | omega | (simp; done) | (simp; omega)) | refine heap_at1_of (by first | omega | (simp; done) | (simp; omega)) ?_)), (by repeat (first | assumption | exact heap_alloc_at _ (by first | rfl | (simp; done) | omega) | refine heap_alloc_of _ ?_ | refine heap_setCell_of _ (by first | omega | (simp; done) | (simp; omega)) ?_ | refine heap_setCell_same _ ?_ | exact heap_at1_same (by first | omega | (simp; done) | (simp; omega)) | refine heap_at1_of (by first | omega | (simp; done) | (simp; omega)) ?_)), (by (repeat (first | exact Below.refl _ _ | (refine Below.alloc ?_ (by first | omega | (simp; done) | (simp; omega)) _) | (refine Below.drew ?_) | (refine below_drewN ?_ _) | (refine below_at1 ?_ (by first | omega | (simp; done) | (simp; omega))) | (refine Below.setCell ?_ (by first | omega | (simp; done) | (simp; omega)) _) | (refine Below.trans ?_ (Below.mono (by assumption) (by first | omega | (simp; done) | (simp; omega)))))))⟩
  case round =>
    obtain ⟨k, cur, hk, rfl, hcur, hg, hg1, hb⟩ := hrel
    have zb := hb.size
    have zg := (Array.getElem?_eq_some_iff.1 hg1).1
    by_cases hlt : k < ns.length
    · have hlt' : (k : Int) < ns.length := by omega
      obtain ⟨bb, oo, rfl, hx⟩ := (ha.below hb).ints hlt
      have hcur2 : Hid (sg1 cur ns[k] = (ns.take (k + 1)).foldl sg1 (f, b, x, y, z)) := by
        show _ = _
        rw [take_succ_get (List.getElem?_eq_getElem hlt), List.foldl_append, ← hcur.out]
        rfl
      go_wp2_with (go_at_call 52; refine (one_impl _ cur _ _ hg).mono ?_; rintro e w2 ⟨rfl, hg2, hgr⟩)
      have hg12 : w2.heap[w.heap.size + 1]? = some (.cells (aC (0, 0, false, false, false)) 35 (0, 0)) := (hgr.block _ zg (by simp)).trans hg1
      have hb2 : Below w.heap.size w w2 := hb.grown hgr zb (by intro k hk; injection hk with hk; omega)
      go_roundw
      case rel => exact ⟨k + 1, sg1 cur ns[k], by omega, by go_num, hcur2, hg2, hg12, hb2⟩
      case measure => simp [intOf]; omega
    · have hlt' : ¬ (k : Int) < ns.length := by omega
      have hk' : k = ns.length := by omega
      rw [hk', List.take_length, ← HR.out] at hcur
      clear hk' HR
      have HC : Hid (sgR (f, b, x, y, z) ns = cur) := hcur.out.symm
      clear hcur
      obtain ⟨f', b', x', y', z'⟩ := cur
      have hgc0 : wr.cell? ⟨w.heap.size, 0, none⟩ = some (.int .i64 f') := by simp [World.cell?, hg]
      have hgf0 : wr.frozen? ⟨w.heap.size, 0, none⟩ = false := by simp [World.frozen?, hg]
      have hgc1 : wr.cell? ⟨w.heap.size, 1, none⟩ = some (.int .i64 b') := by simp [World.cell?, hg]
      have hgf1 : wr.frozen? ⟨w.heap.size, 1, none⟩ = false := by simp [World.frozen?, hg]
      have hgc2 : wr.cell? ⟨w.heap.size, 2, none⟩ = some (.bool x') := by simp [World.cell?, hg]
      have hgf2 : wr.frozen? ⟨w.heap.size, 2, none⟩ = false := by simp [World.frozen?, hg]
      have hgc3 : wr.cell? ⟨w.heap.size, 3, none⟩ = some (.bool y') := by simp [World.cell?, hg]
      have hgf3 : wr.frozen? ⟨w.heap.size, 3, none⟩ = false := by simp [World.frozen?, hg]
      have hgc4 : wr.cell? ⟨w.heap.size, 4, none⟩ = some (.bool z') := by simp [World.cell?, hg]
      have hgf4 : wr.frozen? ⟨w.heap.size, 4, none⟩ = false := by simp [World.frozen?, hg]
      have hg1c0 : wr.cell? ⟨w.heap.size + 1, 0, none⟩ = some (.int .i64 0) := by simp [World.cell?, hg1]
      have hg1f0 : wr.frozen? ⟨w.heap.size + 1, 0, none⟩ = false := by simp [World.frozen?, hg1]
      have hg1c1 : wr.cell? ⟨w.heap.size + 1, 1, none⟩ = some (.int .i64 0) := by simp [World.cell?, hg1]
      have hg1f1 : wr.frozen? ⟨w.heap.size + 1, 1, none⟩ = false := by simp [World.frozen?, hg1]
      have hg1c2 : wr.cell? ⟨w.heap.size + 1, 2, none⟩ = some (.bool false) := by simp [World.cell?, hg1]
      have hg1f2 : wr.frozen? ⟨w.heap.size + 1, 2, none⟩ = false := by simp [World.frozen?, hg1]
      have hg1c3 : wr.cell? ⟨w.heap.size + 1, 3, none⟩ = some (.bool false) := by simp [World.cell?, hg1]
      have hg1f3 : wr.frozen? ⟨w.heap.size + 1, 3, none⟩ = false := by simp [World.frozen?, hg1]
      have hg1c4 : wr.cell? ⟨w.heap.size + 1, 4, none⟩ = some (.bool false) := by simp [World.cell?, hg1]
      have hg1f4 : wr.frozen? ⟨w.heap.size + 1, 4, none⟩ = false := by simp [World.frozen?, hg1]
      clear hg hg1
      go_wp2_with fail
      exact bodyPost_ret (v := aV (f', b', x', y', z')) (by simp [results, Try.results25, go_sem, *]) rfl ⟨by rw [HC.out], (((((hb.setCell (by simp) _).setCell (by simp) _).setCell (by simp) _).setCell (by simp) _).setCell (by simp) _)⟩
set_option maxHeartbeats 4000000 in
theorem sgr_spec (a : At) (A : Option Addr) (c : Nat) (ns : List Int) (w : World) (ha : Cs w A (ns.map I)) (hl : ns.length ≤ 1048576) :
    Calls Try.prog 22 #[aV a, .slice A ns.length c] w fun e w' => e = .returned (aV (sgR a ns)) ∧ Below w.heap.size w w' := by
  obtain ⟨f, b, x, y, z⟩ := a
  by_cases hok : attrOkB f b = true
  case neg =>
    have HOK : Hid (attrOkB f b = false) := by show _ = _; simpa using hok
    have HR := Lib.hid (sgR_no (a := (f, b, x, y, z)) (l := ns) (.inl HOK.out))
    clear hok
    go_enter Try.func22, Try.ntmps22
    go_wp2_with (go_at_call 49; refine (attrOk_spec _ _ _ _ _ _).mono ?_; rintro e w' ⟨he, o, rfl⟩; rw [HOK.out] at he; subst he)
    rw [HR.out]
    exact bodyPost_ret (v := aV (0, 0, false, false, false)) (by simp [results, Try.results22, go_sem]) rfl ⟨rfl, (by (repeat (first | exact Below.refl _ _ | (refine Below.alloc ?_ (by first | omega | (simp; done) | (simp; omega)) _) | (refine Below.drew ?_) | (refine below_drewN ?_ _) | (refine below_at1 ?_ (by first | omega | (simp; done) | (simp; omega))) | (refine Below.setCell ?_ (by first | omega | (simp; done) | (simp; omega)) _) | (refine Below.trans ?_ (Below.mono (by assumption) (by first | omega | (simp; done) | (simp; omega)))))))⟩
  have HOK := Lib.hid hok
  clear hok
  by_cases hne : ns.length = 0
  · have hne' : ((ns.length : Int) == 0) = true := by simp [hne]
    have HR := Lib.hid (sgR_no (a := (f, b, x, y, z)) (l := ns) (.inr (List.eq_nil_of_length_eq_zero hne)))
    clear hne
    go_enter Try.func22, Try.ntmps22
    go_wp2_with (go_at_call 49; refine (attrOk_spec _ _ _ _ _ _).mono ?_; rintro e w' ⟨he, o, rfl⟩; rw [HOK.out] at he; subst he)
    rw [HR.out]
    exact bodyPost_ret (v := aV (0, 0, false, false, false)) (by simp [results, Try.results22, go_sem]) rfl ⟨rfl, (by (repeat (first | exact Below.refl _ _ | (refine Below.alloc ?_ (by first | omega | (simp; done) | (simp; omega)) _) | (refine Below.drew ?_) | (refine below_drewN ?_ _) | (refine below_at1 ?_ (by first | omega | (simp; done) | (simp; omega))) | (refine Below.setCell ?_ (by first | omega | (simp; done) | (simp; omega)) _) | (refine Below.trans ?_ (Below.mono (by assumption) (by first | omega | (simp; done) | (simp; omega)))))))⟩
  have hne' : ((ns.length : Int) == 0) = false := by simpa using hne
  have HR := Lib.hid (sgR_yes (a := (f, b, x, y, z)) (l := ns) HOK.out (fun h => hne (by rw [h]; rfl)))
  clear hne
  go_enter Try.func22, Try.ntmps22
  go_wp2_with (go_at_call 49; refine (attrOk_spec _ _ _ _ _ _).mono ?_; rintro e w' ⟨he, o, rfl⟩; rw [HOK.out] at he; subst he)
  go_loopw [18] (fun i wr => ∃ (k : Nat) (cur : At), k ≤ ns.length ∧ i = .int .i64 k ∧ Hid (cur = (ns.take k).foldl sg1 (f, b, x, y, z)) ∧ wr.heap[w.heap.size]? = some (.cells (aC cur) 35 (0, 0)) ∧ wr.heap[w.heap.size + 1]? = some (.cells (aC (0, 0, false, false, false)) 35 (0, 0)) ∧ Below w.heap.size w wr) (fun i _ => ns.length - (intOf i).toNat)
  case atStart => exact ⟨0, (f, b, x, y, z), Nat.zero_le _, rfl, rfl, (by repeat (first | assumption | exact heap_alloc_at _ (by first | rfl | (simp; done) | omega) | refine heap_alloc_of _ ?_ | refine heap_setCell_of _ (by first | omega | (simp; done) | (simp; omega)) ?_ | refine heap_setCell_same _ ?_ | exact heap_at1_same (by first | omega | (simp; done) | (simp; omega)) | refine heap_at1_of (by first | omega | (simp; done) | (simp; omega)) ?_)), (by repeat (first | assumption | exact heap_alloc_at _ (by first | rfl | (simp; done) | omega) | refine heap_alloc_of _ ?_ | refine heap_setCell_of _ (by first | omega | (simp; done) | (simp; omega)) ?_ | refine heap_setCell_same _ ?_ | exact heap_at1_same (by first | omega | (simp; done) | (simp; omega)) | refine heap_at1_of (by first | omega | (simp; done) | (simp; omega)) ?_)), (by (repeat (first | exact Below.refl _ _ | (refine Below.alloc ?_ (by first | omega | (simp; done) | (simp; omega)) _) | (refine Below.drew ?_) | (refine below_drewN ?_ _) | (refine below_at1 ?_ (by first | omega | (simp; done) | (simp; omega))) | (refine Below.setCell ?_ (by first | omega | (simp; done) | (simp; omega)) _) | (refine Below.trans ?_ (Below.mono (by assumption) (by first | omega | (simp; done) | (simp; omega)))))))⟩
  case round =>
    obtain ⟨k, cur, hk, rfl, hcur, hg, hg1, hb⟩ := hrel
    have zb := hb.size
    have zg := (Array.getElem?_eq_some_iff.1 hg1).1
    by_cases hlt : k < ns.length
    · have hlt' : (k : Int) < ns.length := by omega
      obtain ⟨bb, oo, rfl, hx⟩ := (ha.below hb).ints hlt
      have hcur2 : Hid (sg1 cur ns[k] = (ns.take (k + 1)).foldl sg1 (f, b, x, y, z)) := by
        show _ = _
        rw [take_succ_get (List.getElem?_eq_getElem hlt), List.foldl_append, ← hcur.out]
        rfl
      obtain ⟨f', b', x', y', z'⟩ := cur
      have hgc0 : wr.cell? ⟨w.heap.size, 0, none⟩ = some (.int .i64 f') := by simp [World.cell?, hg]
      have hgf0 : wr.frozen? ⟨w.heap.size, 0, none⟩ = false := by simp [World.frozen?, hg]
      have hgc1 : wr.cell? ⟨w.heap.size, 1, none⟩ = some (.int .i64 b') := by simp [World.cell?, hg]
      have hgf1 : wr.frozen? ⟨w.heap.size, 1, none⟩ = false := by simp [World.frozen?, hg]
      have hgc2 : wr.cell? ⟨w.heap.size, 2, none⟩ = some (.bool x') := by simp [World.cell?, hg]
      have hgf2 : wr.frozen? ⟨w.heap.size, 2, none⟩ = false := by simp [World.frozen?, hg]
      have hgc3 : wr.cell? ⟨w.heap.size, 3, none⟩ = some (.bool y') := by simp [World.cell?, hg]
      have hgf3 : wr.frozen? ⟨w.heap.size, 3, none⟩ = false := by simp [World.frozen?, hg]
      have hgc4 : wr.cell? ⟨w.heap.size, 4, none⟩ = some (.bool z') := by simp [World.cell?, hg]
      have hgf4 : wr.frozen? ⟨w.heap.size, 4, none⟩ = false := by simp [World.frozen?, hg]
      go_wp2_with (go_at_call 50; refine (one_spec (f', b', x', y', z') _ _).mono ?_; rintro e w2 ⟨rfl, hb2⟩; have hg2 := (hb2.block _ (by omega)).trans hg; have hg12 := (hb2.block _ zg).trans hg1; have k0 : w2.cell? ⟨w.heap.size, 0, none⟩ = some (.int .i64 f') := (by simp [World.cell?, hg2]); have l0 : w2.frozen? ⟨w.heap.size, 0, none⟩ = false := (by simp [World.frozen?, hg2]); have k1 : w2.cell? ⟨w.heap.size, 1, none⟩ = some (.int .i64 b') := (by simp [World.cell?, hg2]); have l1 : w2.frozen? ⟨w.heap.size, 1, none⟩ = false := (by simp [World.frozen?, hg2]); have k2 : w2.cell? ⟨w.heap.size, 2, none⟩ = some (.bool x') := (by simp [World.cell?, hg2]); have l2 : w2.frozen? ⟨w.heap.size, 2, none⟩ = false := (by simp [World.frozen?, hg2]); have k3 : w2.cell? ⟨w.heap.size, 3, none⟩ = some (.bool y') := (by simp [World.cell?, hg2]); have l3 : w2.frozen? ⟨w.heap.size, 3, none⟩ = false := (by simp [World.frozen?, hg2]); have k4 : w2.cell? ⟨w.heap.size, 4, none⟩ = some (.bool z') := (by simp [World.cell?, hg2]); have l4 : w2.frozen? ⟨w.heap.size, 4, none⟩ = false := (by simp [World.frozen?, hg2]))
      have HG2 := hg2
      go_roundw
      case rel =>
        refine ⟨k + 1, sg1 (f', b', x', y', z') ns[k], by omega, by go_num, hcur2, ?_, ?_, ?_⟩
        · exact heap_setCell_same _ (heap_setCell_same _ (heap_setCell_same _ (heap_setCell_same _ (heap_setCell_same _ HG2))))
        · exact heap_setCell_of _ (by simp) (heap_setCell_of _ (by simp) (heap_setCell_of _ (by simp) (heap_setCell_of _ (by simp) (heap_setCell_of _ (by simp) hg12))))
        · exact ((((((hb.trans (hb2.mono zb)).setCell (Nat.le_refl _) _).setCell (Nat.le_refl _) _).setCell (Nat.le_refl _) _).setCell (Nat.le_refl _) _).setCell (Nat.le_refl _) _)
      case measure => simp [intOf]; omega
    · have hlt' : ¬ (k : Int) < ns.length := by omega
      have hk' : k = ns.length := by omega
      rw [hk', List.take_length, ← HR.out] at hcur
      clear hk' HR
      have HC : Hid (sgR (f, b, x, y, z) ns = cur) := hcur.out.symm
      clear hcur
      obtain ⟨f', b', x', y', z'⟩ := cur
      have hgc0 : wr.cell? ⟨w.heap.size, 0, none⟩ = some (.int .i64 f') := by simp [World.cell?, hg]
      have hgf0 : wr.frozen? ⟨w.heap.size, 0, none⟩ = false := by simp [World.frozen?, hg]
      have hgc1 : wr.cell? ⟨w.heap.size, 1, none⟩ = some (.int .i64 b') := by simp [World.cell?, hg]
      have hgf1 : wr.frozen? ⟨w.heap.size, 1, none⟩ = false := by simp [World.frozen?, hg]
      have hgc2 : wr.cell? ⟨w.heap.size, 2, none⟩ = some (.bool x') := by simp [World.cell?, hg]
      have hgf2 : wr.frozen? ⟨w.heap.size, 2, none⟩ = false := by simp [World.frozen?, hg]
      have hgc3 : wr.cell? ⟨w.heap.size, 3, none⟩ = some (.bool y') := by simp [World.cell?, hg]
      have hgf3 : wr.frozen? ⟨w.heap.size, 3, none⟩ = false := by simp [World.frozen?, hg]
      have hgc4 : wr.cell? ⟨w.heap.size, 4, none⟩ = some (.bool z') := by simp [World.cell?, hg]
      have hgf4 : wr.frozen? ⟨w.heap.size, 4, none⟩ = false := by simp [World.frozen?, hg]
      have hg1c0 : wr.cell? ⟨w.heap.size + 1, 0, none⟩ = some (.int .i64 0) := by simp [World.cell?, hg1]
      have hg1f0 : wr.frozen? ⟨w.heap.size + 1, 0, none⟩ = false := by simp [World.frozen?, hg1]
      have hg1c1 : wr.cell? ⟨w.heap.size + 1, 1, none⟩ = some (.int .i64 0) := by simp [World.cell?, hg1]
      have hg1f1 : wr.frozen? ⟨w.heap.size + 1, 1, none⟩ = false := by simp [World.frozen?, hg1]
      have hg1c2 : wr.cell? ⟨w.heap.size + 1, 2, none⟩ = some (.bool false) := by simp [World.cell?, hg1]
      have hg1f2 : wr.frozen? ⟨w.heap.size + 1, 2, none⟩ = false := by simp [World.frozen?, hg1]
      have hg1c3 : wr.cell? ⟨w.heap.size + 1, 3, none⟩ = some (.bool false) := by simp [World.cell?, hg1]
      have hg1f3 : wr.frozen? ⟨w.heap.size + 1, 3, none⟩ = false := by simp [World.frozen?, hg1]
      have hg1c4 : wr.cell? ⟨w.heap.size + 1, 4, none⟩ = some (.bool false) := by simp [World.cell?, hg1]
      have hg1f4 : wr.frozen? ⟨w.heap.size + 1, 4, none⟩ = false := by simp [World.frozen?, hg1]
      clear hg hg1
      go_wp2_with fail
      exact bodyPost_ret (v := aV (f', b', x', y', z')) (by simp [results, Try.results22, go_sem, *]) rfl ⟨by rw [HC.out], (((((hb.setCell (by simp) _).setCell (by simp) _).setCell (by simp) _).setCell (by simp) _).setCell (by simp) _)⟩
end Go.Proofs.Ytgodpbiojekicaa
