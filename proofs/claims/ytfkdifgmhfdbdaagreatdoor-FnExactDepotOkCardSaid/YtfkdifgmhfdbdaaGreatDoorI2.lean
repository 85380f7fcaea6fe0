/- Where a name goes in a directory: the library's search by halves. -/
import Derived.Test.YtfkdifgmhfdbdaaGreatDoorI1
import Derived.Test.YtfkdifgmhfdbdaaGreatDoorNm
import Derived.Test.YtfkdifgmhfdbdaaGreatDoorQb
import Derived.Test.YtfkdifgmhfdbdaaGreatDoorShelf
namespace Go.Proofs.YtfkdifgmhfdbdaaGreatDoor
open Go.RowKit
set_option linter.unusedVariables false
set_option maxRecDepth 100000

theorem cmpLink_any (a b : Lk) (w : World) :
    Calls Tryz.prog 134 #[lkV a, lkV b] w fun e w' => e = .returned (.int .i64 (Lib.compareBytes a.1.data.toList b.1.data.toList)) ∧ Below w.heap.size w w' := by
  obtain ⟨s, i⟩ := a
  obtain ⟨t, j⟩ := b
  go_enter Tryz.func134, Tryz.ntmps134
  go_wp2_with (go_at_call 135; refine (Tryz.strings_Compare _ _ _).mono ?_; rintro e w' ⟨rfl, hw⟩; subst hw)
  go_ret
  exact ⟨rfl, (by (repeat (first | exact Below.refl _ _ | (refine Below.alloc ?_ (by first | omega | (simp; done) | (simp; omega)) _) | (refine Below.drew ?_) | (refine below_drewN ?_ _) | (refine below_at1 ?_ (by first | omega | (simp; done) | (simp; omega))) | (refine Below.setCell ?_ (by first | omega | (simp; done) | (simp; omega)) _) | (refine Below.trans ?_ (Below.mono (by assumption) (by first | omega | (simp; done) | (simp; omega)))))))⟩
def BsPost (w : World) (k : Nat) (e : Ending) (w' : World) : Prop := ∃ b, e = .returned (.tuple #[.int .i64 k, .bool b]) ∧ Below w.heap.size w w'
set_option maxHeartbeats 4000000 in
theorem bsearch_any (A : Option Addr) (c : Nat) (dir : List Lk) (l : Lk) (w : World) (ha : Ks w A dir) (hl : dir.length ≤ 1048576) (hs : Srt dir) :
    Calls Tryz.prog 133 #[.slice A dir.length c, lkV l, .func (.func 134) #[] #[]] w (BsPost w (posN dir l.1)) := by
  have hb0 : Below w.heap.size w (w.alloc (.cells (lkL l).toArray 67)) := by (repeat (first | exact Below.refl _ _ | (refine Below.alloc ?_ (by first | omega | (simp; done) | (simp; omega)) _) | (refine Below.drew ?_) | (refine below_drewN ?_ _) | (refine below_at1 ?_ (by first | omega | (simp; done) | (simp; omega))) | (refine Below.setCell ?_ (by first | omega | (simp; done) | (simp; omega)) _) | (refine Below.trans ?_ (Below.mono (by assumption) (by first | omega | (simp; done) | (simp; omega))))))
  have HS := Lib.hid hs
  clear hs
  go_enter Tryz.func133, Tryz.ntmps133
  go_wp2_with fail
  have B0 := heap_alloc_new w (.cells (lkL l).toArray 67)
  go_loopw [9, 10] (fun iv jv wr => ∃ i j : Nat, i ≤ j ∧ j ≤ dir.length ∧ iv = .int .i64 i ∧ jv = .int .i64 j ∧ Hid ((∀ t (ht : t < dir.length), t < i → ltN dir[t].1 l.1 = true) ∧ (∀ t (ht : t < dir.length), j ≤ t → ltN dir[t].1 l.1 = false)) ∧ Below w.heap.size w wr ∧ wr.heap[w.heap.size]? = some (.cells (lkL l).toArray 67 (0, 0))) (fun iv jv _ => (intOf jv).toNat - (intOf iv).toNat)
  case atStart => exact ⟨0, dir.length, Nat.zero_le _, Nat.le_refl _, rfl, rfl, ⟨fun t _ h => by omega, fun t ht h => by omega⟩, hb0, B0⟩
  case round =>
    clear B0 hb0
    obtain ⟨i, j, hij, hjl, rfl, rfl, hinv, hb, hB⟩ := hrel
    have zb := hb.size
    have zB : w.heap.size < wr.heap.size := (Array.getElem?_eq_some_iff.1 hB).1
    have y0 : wr.cell? ⟨w.heap.size, 0, none⟩ = some (.string l.1) := cell_of_row wr _ 0 _ _ (0, 0) hB
    have y1 : wr.cell? ⟨w.heap.size, 1, none⟩ = some (.int .i64 l.2) := cell_of_row wr _ 1 _ _ (0, 0) hB
    by_cases hlt : i < j
    · have hlt' : (i : Int) < j := by omega
      obtain ⟨h, hh⟩ : ∃ h, Hid (h = (i + j) / 2) := ⟨_, Lib.hid rfl⟩
      have h1 : i ≤ h := by have := hh.out; omega
      have h2 : h < j := by have := hh.out; omega
      have hhl : h < dir.length := by omega
      obtain ⟨b, o, rfl, hbs, x0, x1⟩ := Ks.get (ha.below hb) hhl
      have hhl' : (h : Int) < dir.length := by omega
      have hw1 : IntKind.i64.wrap ((i : Int) + j) = (i : Int) + j := by rw [IntKind.wrap_i64]; omega
      have hw2 : IntKind.u64.wrap ((i : Int) + j) = (i : Int) + j := by rw [IntKind.wrap_u64]; omega
      have hw3 : ((i : Int) + j) / 2 = (h : Int) := by have := hh.out; omega
      have hw4 : IntKind.u64.wrap (h : Int) = (h : Int) := by rw [IntKind.wrap_u64]; omega
      have hw5 : IntKind.i64.wrap (h : Int) = (h : Int) := by rw [IntKind.wrap_i64]; omega
      have HW3 := Lib.hid hw3
      clear hw3
      go_wp2_with fail
      rw [HW3.out]
      have qx0 : ∀ p : Bl wr.heap.size wr, p.val.cell? ⟨b, o + h * 2, none⟩ = some (.string dir[h].1) := fun p => p.cell x0
      have qx1 : ∀ p : Bl wr.heap.size wr, p.val.cell? ⟨b, o + h * 2 + 1, none⟩ = some (.int .i64 dir[h].2) := fun p => p.cell x1
      have qy0 : ∀ p : Bl wr.heap.size wr, p.val.cell? ⟨w.heap.size, 0, none⟩ = some (.string l.1) := fun p => p.cell y0
      have qy1 : ∀ p : Bl wr.heap.size wr, p.val.cell? ⟨w.heap.size, 1, none⟩ = some (.int .i64 l.2) := fun p => p.cell y1
      have hh0 : (0 : Int) ≤ h := by omega
      obtain ⟨cv, hcv⟩ : ∃ cv, Hid (Lib.compareBytes dir[h].1.data.toList l.1.data.toList = cv) := ⟨_, Lib.hid rfl⟩
      have HC := Lib.hid (cmp_neg dir[h].1 l.1)
      refine wp_region_qb (by kernel_rfl) (by kernel_rfl) ?_
      cases hq : ltN dir[h].1 l.1 with
      | true =>
        have hc : cv < 0 := by have := HC.out; rw [hq, hcv.out] at this; simpa using this
        have HI : Hid (∀ t (ht : t < dir.length), t < h + 1 → ltN dir[t].1 l.1 = true) := Lib.hid fun t ht h3 => by
          rcases Nat.lt_or_ge t h with h4 | h4
          · exact ltN_trans (HS.out.get h4 hhl) hq
          · obtain rfl : t = h := by omega
            exact hq
        clear hq HC
        repeat (quiet_step ((go_at_call 134; exact Calls.qb ((cmpLink_any dir[h] l _).mono fun _ _ ⟨he, hb9⟩ => ⟨he.trans (ret_int hcv.out), hb9⟩))))
        refine qb_end fun w9 hb9 => ?_
        clear qx0 qx1 qy0 qy1
        have hB9 := (hb9.block _ zB).trans hB
        have hw6 : IntKind.i64.wrap ((h : Int) + 1) = (h : Int) + 1 := by rw [IntKind.wrap_i64]; omega
        go_wp2_with fail
        go_roundw
        case rel => exact ⟨h + 1, j, by omega, hjl, by go_num, rfl, ⟨HI.out, hinv.out.2⟩, hb.trans (hb9.mono zb), hB9⟩
        case measure => simp [intOf]; omega
      | false =>
        have hc : ¬ cv < 0 := by have := HC.out; rw [hq, hcv.out] at this; simpa using this
        have HI : Hid (∀ t (ht : t < dir.length), h ≤ t → ltN dir[t].1 l.1 = false) := Lib.hid fun t ht h3 => by
          rcases Nat.lt_or_ge h t with h4 | h4
          · cases h5 : ltN dir[t].1 l.1 with
            | false => rfl
            | true => rw [ltN_trans (HS.out.get h4 ht) h5] at hq; cases hq
          · obtain rfl : t = h := by omega
            exact hq
        clear hq HC
        repeat (quiet_step ((go_at_call 134; exact Calls.qb ((cmpLink_any dir[h] l _).mono fun _ _ ⟨he, hb9⟩ => ⟨he.trans (ret_int hcv.out), hb9⟩))))
        refine qb_end fun w9 hb9 => ?_
        clear qx0 qx1 qy0 qy1
        have hB9 := (hb9.block _ zB).trans hB
        go_wp2_with fail
        go_roundw
        case rel => exact ⟨i, h, h1, by omega, rfl, rfl, ⟨hinv.out.1, HI.out⟩, hb.trans (hb9.mono zb), hB9⟩
        case measure => simp [intOf]; omega
    · have hlt' : ¬ ((i : Int) < j) := by omega
      obtain rfl : j = i := by omega
      have HP : Hid (posN dir l.1 = j) := posN_eq hjl hinv.out.1 hinv.out.2
      clear hinv hlt
      go_wp2_with fail
      by_cases hin : j < dir.length
      · obtain ⟨b, o, rfl, hbs, x0, x1⟩ := Ks.get (ha.below hb) hin
        have qx0 : ∀ p : Bl wr.heap.size wr, p.val.cell? ⟨b, o + j * 2, none⟩ = some (.string dir[j].1) := fun p => p.cell x0
        have qx1 : ∀ p : Bl wr.heap.size wr, p.val.cell? ⟨b, o + j * 2 + 1, none⟩ = some (.int .i64 dir[j].2) := fun p => p.cell x1
        have qy0 : ∀ p : Bl wr.heap.size wr, p.val.cell? ⟨w.heap.size, 0, none⟩ = some (.string l.1) := fun p => p.cell y0
        have qy1 : ∀ p : Bl wr.heap.size wr, p.val.cell? ⟨w.heap.size, 1, none⟩ = some (.int .i64 l.2) := fun p => p.cell y1
        have hh0 : (0 : Int) ≤ j := by omega
        have hin' : (j : Int) < dir.length := by omega
        refine wp_region_qb (by kernel_rfl) (by kernel_rfl) ?_
        obtain ⟨cv, hcv⟩ : ∃ cv, Hid (Lib.compareBytes dir[j].1.data.toList l.1.data.toList = cv) := ⟨_, Lib.hid rfl⟩
        obtain ⟨cb, hcb⟩ : ∃ cb : Bool, decide (cv = 0) = cb := ⟨_, rfl⟩
        have hcb' : (cv == 0) = cb := by rw [← hcb]; rfl
        repeat (quiet_step ((go_at_call 134; exact Calls.qb ((cmpLink_any dir[j] l _).mono fun _ _ ⟨he, hb9⟩ => ⟨he.trans (ret_int hcv.out), hb9⟩))))
        refine qb_end fun w9 hb9 => ?_
        clear qx0 qx1 qy0 qy1 hcb hcb'
        go_wp2_with fail
        rw [HP.out]
        go_ret2
        exact ⟨_, rfl, hb.trans (hb9.mono zb)⟩
      · have hin' : ¬ (j : Int) < dir.length := by omega
        go_quiet (fail)
        go_wp2_with fail
        rw [HP.out]
        go_ret2
        exact ⟨_, rfl, below_drewN hb _⟩
end Go.Proofs.YtfkdifgmhfdbdaaGreatDoor
