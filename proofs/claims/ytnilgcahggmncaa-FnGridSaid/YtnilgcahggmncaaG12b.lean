/- Two slices of cells compared by the library. -/
import Derived.Test.YtnilgcahggmncaaG12
namespace Go.Proofs.Ytnilgcahggmncaa
open Go.RowKit
set_option linter.unusedVariables false
set_option maxRecDepth 100000

instance (a b : List Cl) : Decidable (a = b) := inferInstance
def sameB (W H W' H' : Int) (cs ds : List Cl) : Bool := decide (W = W' ∧ H = H' ∧ cs = ds)
theorem cl_ne {a b : Cl} (h : ¬ a = b) : (¬ a.1 = b.1) ∨ (a.1 = b.1 ∧ ¬ a.2.1 = b.2.1) ∨ (a.1 = b.1 ∧ a.2.1 = b.2.1 ∧ ¬ a.2.2.1 = b.2.2.1) ∨ (a.1 = b.1 ∧ a.2.1 = b.2.1 ∧ a.2.2.1 = b.2.2.1 ∧ ¬ a.2.2.2.1 = b.2.2.2.1) ∨ (a.1 = b.1 ∧ a.2.1 = b.2.1 ∧ a.2.2.1 = b.2.2.1 ∧ a.2.2.2.1 = b.2.2.2.1 ∧ ¬ a.2.2.2.2.1 = b.2.2.2.2.1) ∨ (a.1 = b.1 ∧ a.2.1 = b.2.1 ∧ a.2.2.1 = b.2.2.1 ∧ a.2.2.2.1 = b.2.2.2.1 ∧ a.2.2.2.2.1 = b.2.2.2.2.1 ∧ ¬ a.2.2.2.2.2 = b.2.2.2.2.2) := by
  obtain ⟨a1, a2, a3, a4, a5, a6⟩ := a
  obtain ⟨b1, b2, b3, b4, b5, b6⟩ := b
  by_cases e1 : a1 = b1
  case neg => exact .inl e1
  by_cases e2 : a2 = b2
  case neg => exact .inr (.inl ⟨e1, e2⟩)
  by_cases e3 : a3 = b3
  case neg => exact .inr (.inr (.inl ⟨e1, e2, e3⟩))
  by_cases e4 : a4 = b4
  case neg => exact .inr (.inr (.inr (.inl ⟨e1, e2, e3, e4⟩)))
  by_cases e5 : a5 = b5
  case neg => exact .inr (.inr (.inr (.inr (.inl ⟨e1, e2, e3, e4, e5⟩))))
  by_cases e6 : a6 = b6
  case neg => exact .inr (.inr (.inr (.inr (.inr (⟨e1, e2, e3, e4, e5, e6⟩)))))
  exact absurd (by rw [e1, e2, e3, e4, e5, e6]) h
set_option maxHeartbeats 2000000 in
theorem seqCells_any (A A' : Option Addr) (c c' : Nat) (cs ds : List Cl) (w : World) (ha : Gs w A cs) (hb : Gs w A' ds) (h1 : cs.length ≤ 1099511627776) (h2 : ds.length ≤ 1099511627776) :
    Calls Try.prog 67 #[.slice A cs.length c, .slice A' ds.length c'] w fun e w' => e = .returned (.bool (decide (cs = ds))) ∧ ∃ m, w.drewN m = w' := by
  by_cases hl : cs.length = ds.length
  · have hne : ((cs.length : Int) != (ds.length : Int)) = false := by simp [hl]
    have HL := Lib.hid hl
    clear hl
    go_enter Try.func67, Try.ntmps67
    go_wp2
    go_loopw [13] (fun i wr => ∃ k m : Nat, k ≤ cs.length ∧ i = .int .i64 k ∧ Hid (cs.take k = ds.take k) ∧ wr = w.drewN m) (fun i _ => cs.length - (intOf i).toNat)
    case atStart => exact ⟨0, 0, Nat.zero_le _, rfl, by show _ = _; simp, rfl⟩
    case round =>
      obtain ⟨k, m, hk, rfl, ht, rfl⟩ := hrel
      by_cases hlt : k < cs.length
      · have hlt2 : k < ds.length := by rw [← HL.out]; exact hlt
        obtain ⟨b, o, rfl, hbs, x0, x1, x2, x3, x4, x5⟩ := ha.get hlt
        obtain ⟨b', o', rfl, hbs', y0, y1, y2, y3, y4, y5⟩ := hb.get hlt2
        have hlt' : (k : Int) < cs.length := by omega
        have hlt2' : (k : Int) < ds.length := by omega
        by_cases hxy : cs[k] = ds[k]
        · have HT : Hid (cs.take (k + 1) = ds.take (k + 1)) := by
            show _ = _
            rw [take_succ_get (List.getElem?_eq_getElem hlt), take_succ_get (List.getElem?_eq_getElem hlt2), ht.out, hxy]
          rw [← hxy] at y0 y1 y2 y3 y4 y5
          clear hxy ht
          go_wp2
          go_quiet (fail)
          go_wp2
          go_roundw
          case rel => exact ⟨k + 1, _, by omega, by go_num, HT, rfl⟩
          case measure => simp [intOf]; omega
        · have HX : Hid (decide (cs = ds) = false) := by
            show _ = _
            simp
            intro h
            subst h
            exact hxy rfl
          clear ht
          rcases cl_ne hxy with e1 | ⟨e1, e2⟩ | ⟨e1, e2, e3⟩ | ⟨e1, e2, e3, e4⟩ | ⟨e1, e2, e3, e4, e5⟩ | ⟨e1, e2, e3, e4, e5, e6⟩
          · have hq : (cs[k].1 == ds[k].1) = false := by simpa using e1
            clear hxy e1
            go_wp2
            go_quiet (fail)
            go_wp2
            go_ret
            exact ⟨ret_bool HX.out.symm, _, (World.drewN_drewN _ _ _).symm⟩
          · have hq : (cs[k].2.1 == ds[k].2.1) = false := by simpa using e2
            rw [← e1] at y0
            clear hxy e1 e2
            go_wp2
            go_quiet (fail)
            go_wp2
            go_ret
            exact ⟨ret_bool HX.out.symm, _, (World.drewN_drewN _ _ _).symm⟩
          · have hq : (cs[k].2.2.1 == ds[k].2.2.1) = false := by simpa using e3
            rw [← e1] at y0
            rw [← e2] at y1
            clear hxy e1 e2 e3
            go_wp2
            go_quiet (fail)
            go_wp2
            go_ret
            exact ⟨ret_bool HX.out.symm, _, (World.drewN_drewN _ _ _).symm⟩
          · have hq : (cs[k].2.2.2.1 == ds[k].2.2.2.1) = false := by simpa using e4
            rw [← e1] at y0
            rw [← e2] at y1
            rw [← e3] at y2
            clear hxy e1 e2 e3 e4
            go_wp2
            go_quiet (fail)
            go_wp2
            go_ret
            exact ⟨ret_bool HX.out.symm, _, (World.drewN_drewN _ _ _).symm⟩
          · have hq : (cs[k].2.2.2.2.1 == ds[k].2.2.2.2.1) = false := by simpa using e5
            rw [← e1] at y0
            rw [← e2] at y1
            rw [← e3] at y2
            rw [← e4] at y3
            clear hxy e1 e2 e3 e4 e5
            go_wp2
            go_quiet (fail)
            go_wp2
            go_ret
            exact ⟨ret_bool HX.out.symm, _, (World.drewN_drewN _ _ _).symm⟩
          · have hq : (cs[k].2.2.2.2.2 == ds[k].2.2.2.2.2) = false := by simpa using e6
            rw [← e1] at y0
            rw [← e2] at y1
            rw [← e3] at y2
            rw [← e4] at y3
            rw [← e5] at y4
            clear hxy e1 e2 e3 e4 e5 e6
            go_wp2
            go_quiet (fail)
            go_wp2
            go_ret
            exact ⟨ret_bool HX.out.symm, _, (World.drewN_drewN _ _ _).symm⟩
      · have hk' : k = cs.length := by omega
        have HX : Hid (decide (cs = ds) = true) := by
          have h := ht.out
          have hl := HL.out
          show _ = _
          rw [hk', List.take_length, hl, List.take_length] at h
          simp [h]
        clear hk' ht
        have hlt' : ¬ ((k : Int) < cs.length) := by omega
        go_wp2
        go_ret
        exact ⟨ret_bool HX.out.symm, _, rfl⟩
  · have hne : ((cs.length : Int) != (ds.length : Int)) = true := by simp; omega
    have HX : Hid (decide (cs = ds) = false) := by
      show _ = _
      simp
      intro h
      exact hl (by rw [h])
    clear hl
    go_enter Try.func67, Try.ntmps67
    go_wp2
    go_ret
    exact ⟨ret_bool HX.out.symm, 0, rfl⟩
end Go.Proofs.Ytnilgcahggmncaa
