/- Files, links and turns of a disk: compared with their like. -/
import Derived.Test.YtfkdifgmhfdbdaaGreatDoorU3
namespace Go.Proofs.YtfkdifgmhfdbdaaGreatDoor
open Go.RowKit
set_option linter.unusedVariables false
set_option maxRecDepth 100000

theorem eqLink_same (x : Lk) (w : World) : Calls Tryz.prog 86 #[lkV x, lkV x] w fun e w' => e = .returned (.bool true) ∧ Below w.heap.size w w' := by
  obtain ⟨s, i⟩ := x
  go_enter Tryz.func86, Tryz.ntmps86
  go_wp2_with fail
  go_ret
  exact ⟨rfl, (by (repeat (first | exact Below.refl _ _ | (refine Below.alloc ?_ (by first | omega | (simp; done) | (simp; omega)) _) | (refine Below.drew ?_) | (refine below_drewN ?_ _) | (refine below_at1 ?_ (by first | omega | (simp; done) | (simp; omega))) | (refine Below.setCell ?_ (by first | omega | (simp; done) | (simp; omega)) _) | (refine Below.trans ?_ (Below.mono (by assumption) (by first | omega | (simp; done) | (simp; omega)))))))⟩
theorem eqTurn_same (x : Tn) (w : World) : Calls Tryz.prog 87 #[tnV x, tnV x] w fun e w' => e = .returned (.bool true) ∧ Below w.heap.size w w' := by
  obtain ⟨k, s, t, i⟩ := x
  go_enter Tryz.func87, Tryz.ntmps87
  go_wp2_with fail
  go_ret
  exact ⟨rfl, (by (repeat (first | exact Below.refl _ _ | (refine Below.alloc ?_ (by first | omega | (simp; done) | (simp; omega)) _) | (refine Below.drew ?_) | (refine below_drewN ?_ _) | (refine below_at1 ?_ (by first | omega | (simp; done) | (simp; omega))) | (refine Below.setCell ?_ (by first | omega | (simp; done) | (simp; omega)) _) | (refine Below.trans ?_ (Below.mono (by assumption) (by first | omega | (simp; done) | (simp; omega)))))))⟩
theorem eqFile_same (k i : Int) (A A' : Option Addr) (c c' : Nat) (xs : List UInt8) (w : World) (ha : By w A xs) (hb : By w A' xs) (hl : xs.length ≤ 1099511627776) :
    Calls Tryz.prog 85 #[.agg #[.int .i64 k, .slice A xs.length c, .int .i64 i], .agg #[.int .i64 k, .slice A' xs.length c', .int .i64 i]] w fun e w' => e = .returned (.bool true) ∧ Below w.heap.size w w' := by
  go_enter Tryz.func85, Tryz.ntmps85
  go_wp2_with fail
  have hb0 : Below w.heap.size w ((w.alloc (.cells #[.int .i64 k, .slice A xs.length c, .int .i64 i] 89)).alloc (.cells #[.int .i64 k, .slice A' xs.length c', .int .i64 i] 89)) := by (repeat (first | exact Below.refl _ _ | (refine Below.alloc ?_ (by first | omega | (simp; done) | (simp; omega)) _) | (refine Below.drew ?_) | (refine below_drewN ?_ _) | (refine below_at1 ?_ (by first | omega | (simp; done) | (simp; omega))) | (refine Below.setCell ?_ (by first | omega | (simp; done) | (simp; omega)) _) | (refine Below.trans ?_ (Below.mono (by assumption) (by first | omega | (simp; done) | (simp; omega))))))
  refine (eqByteS_same _ _ _ _ xs _ (ha.below hb0) (hb.below hb0) hl).mono ?_
  rintro e w1 ⟨rfl, m, rfl⟩
  go_wp2_with fail
  go_ret
  exact ⟨rfl, below_drewN hb0 _⟩
set_option maxHeartbeats 2000000 in
theorem eqLinkS_same (A A' : Option Addr) (c c' : Nat) (cs : List Lk) (w : World) (ha : Ks w A cs) (hb : Ks w A' cs) (hl : cs.length ≤ 1099511627776) :
    Calls Tryz.prog 47 #[.slice A cs.length c, .slice A' cs.length c'] w fun e w' => e = .returned (.bool true) ∧ Below w.heap.size w w' := by
  go_enter Tryz.func47, Tryz.ntmps47
  go_wp2
  go_loopw [5] (fun i wr => ∃ k : Nat, k ≤ cs.length ∧ i = .int .i64 k ∧ Below w.heap.size w wr) (fun i _ => cs.length - (intOf i).toNat)
  case atStart => exact ⟨0, Nat.zero_le _, rfl, Below.refl _ _⟩
  case round =>
    obtain ⟨k, hk, rfl, hbw⟩ := hrel
    by_cases hlt : k < cs.length
    · obtain ⟨b, o, rfl, hbs, x0, x1⟩ := Ks.get (ha.below hbw) hlt
      obtain ⟨b', o', rfl, hbs', y0, y1⟩ := Ks.get (hb.below hbw) hlt
      have hlt' : (k : Int) < cs.length := by omega
      have zb := hbw.size
      go_wp2_with fail
      first | (go_region_held3 (fun w' => Below wr.heap.size wr w' ∧ w'.cell? ⟨b, o + k * 2, none⟩ = some (.string cs[k].1) ∧ w'.cell? ⟨b, o + k * 2 + 1, none⟩ = some (.int .i64 cs[k].2) ∧ w'.cell? ⟨b', o' + k * 2, none⟩ = some (.string cs[k].1) ∧ w'.cell? ⟨b', o' + k * 2 + 1, none⟩ = some (.int .i64 cs[k].2))
        (first | exact ⟨Below.drew (Below.refl _ _), by simpa using x0, by simpa using x1, by simpa using y0, by simpa using y1⟩ | assumption | (refine ⟨?_, ?_, ?_, ?_, ?_⟩ <;> assumption))
        ((go_at_call 86; refine (eqLink_same cs[k] _).mono ?_; rintro e w3 ⟨rfl, hb3⟩; have hbw3 : Below wr.heap.size wr w3 := (Below.drew (Below.refl wr.heap.size wr)).trans hb3; have hkeep := And.intro hbw3 (And.intro ((hbw3.cell (World.block_lt_of_cell? wr _ x0)).trans x0) (And.intro ((hbw3.cell (World.block_lt_of_cell? wr _ x1)).trans x1) (And.intro ((hbw3.cell (World.block_lt_of_cell? wr _ y0)).trans y0) ((hbw3.cell (World.block_lt_of_cell? wr _ y1)).trans y1))))))) | fail
      clear hkeep
      go_wp2_with fail
      go_roundw
      case rel => exact ⟨k + 1, by omega, by go_num, hbw.trans (hbw3.mono zb)⟩
      case measure => simp [intOf]; omega
    · have hlt' : ¬ ((k : Int) < cs.length) := by omega
      go_wp2
      go_ret
      exact ⟨rfl, hbw⟩
set_option maxHeartbeats 2000000 in
theorem eqTurnS_same (A A' : Option Addr) (c c' : Nat) (cs : List Tn) (w : World) (ha : Ts w A cs) (hb : Ts w A' cs) (hl : cs.length ≤ 1099511627776) :
    Calls Tryz.prog 48 #[.slice A cs.length c, .slice A' cs.length c'] w fun e w' => e = .returned (.bool true) ∧ Below w.heap.size w w' := by
  go_enter Tryz.func48, Tryz.ntmps48
  go_wp2
  go_loopw [5] (fun i wr => ∃ k : Nat, k ≤ cs.length ∧ i = .int .i64 k ∧ Below w.heap.size w wr) (fun i _ => cs.length - (intOf i).toNat)
  case atStart => exact ⟨0, Nat.zero_le _, rfl, Below.refl _ _⟩
  case round =>
    obtain ⟨k, hk, rfl, hbw⟩ := hrel
    by_cases hlt : k < cs.length
    · obtain ⟨b, o, rfl, hbs, x0, x1, x2, x3⟩ := Ts.get (ha.below hbw) hlt
      obtain ⟨b', o', rfl, hbs', y0, y1, y2, y3⟩ := Ts.get (hb.below hbw) hlt
      have hlt' : (k : Int) < cs.length := by omega
      have zb := hbw.size
      go_wp2_with fail
      first | (go_region_held3 (fun w' => Below wr.heap.size wr w' ∧ w'.cell? ⟨b, o + k * 4, none⟩ = some (.int .i64 cs[k].1) ∧ w'.cell? ⟨b, o + k * 4 + 1, none⟩ = some (.string cs[k].2.1) ∧ w'.cell? ⟨b, o + k * 4 + 2, none⟩ = some (.string cs[k].2.2.1) ∧ w'.cell? ⟨b, o + k * 4 + 3, none⟩ = some (.int .i64 cs[k].2.2.2) ∧ w'.cell? ⟨b', o' + k * 4, none⟩ = some (.int .i64 cs[k].1) ∧ w'.cell? ⟨b', o' + k * 4 + 1, none⟩ = some (.string cs[k].2.1) ∧ w'.cell? ⟨b', o' + k * 4 + 2, none⟩ = some (.string cs[k].2.2.1) ∧ w'.cell? ⟨b', o' + k * 4 + 3, none⟩ = some (.int .i64 cs[k].2.2.2))
        (first | exact ⟨Below.drew (Below.refl _ _), by simpa using x0, by simpa using x1, by simpa using x2, by simpa using x3, by simpa using y0, by simpa using y1, by simpa using y2, by simpa using y3⟩ | assumption | (refine ⟨?_, ?_, ?_, ?_, ?_, ?_, ?_, ?_, ?_⟩ <;> assumption))
        ((go_at_call 87; refine (eqTurn_same cs[k] _).mono ?_; rintro e w3 ⟨rfl, hb3⟩; have hbw3 : Below wr.heap.size wr w3 := (Below.drew (Below.refl wr.heap.size wr)).trans hb3; have hkeep := And.intro hbw3 (And.intro ((hbw3.cell (World.block_lt_of_cell? wr _ x0)).trans x0) (And.intro ((hbw3.cell (World.block_lt_of_cell? wr _ x1)).trans x1) (And.intro ((hbw3.cell (World.block_lt_of_cell? wr _ x2)).trans x2) (And.intro ((hbw3.cell (World.block_lt_of_cell? wr _ x3)).trans x3) (And.intro ((hbw3.cell (World.block_lt_of_cell? wr _ y0)).trans y0) (And.intro ((hbw3.cell (World.block_lt_of_cell? wr _ y1)).trans y1) (And.intro ((hbw3.cell (World.block_lt_of_cell? wr _ y2)).trans y2) ((hbw3.cell (World.block_lt_of_cell? wr _ y3)).trans y3))))))))))) | fail
      clear hkeep
      go_wp2_with fail
      go_roundw
      case rel => exact ⟨k + 1, by omega, by go_num, hbw.trans (hbw3.mono zb)⟩
      case measure => simp [intOf]; omega
    · have hlt' : ¬ ((k : Int) < cs.length) := by omega
      go_wp2
      go_ret
      exact ⟨rfl, hbw⟩
set_option maxHeartbeats 2000000 in
theorem eqFileS_same (A A' : Option Addr) (c c' n : Nat) (es fs : List Fl) (w : World) (hn : es.length = n) (ha : Fs w A es) (hb : Fs w A' fs) (hd : Hid (fs.map fc = es.map fc)) (hl : n ≤ 1099511627776) (hm : ∀ e, e ∈ es → e.2.1.2.2.length ≤ 1099511627776) :
    Calls Tryz.prog 46 #[.slice A n c, .slice A' n c'] w fun e w' => e = .returned (.bool true) ∧ Below w.heap.size w w' := by
  subst hn
  go_enter Tryz.func46, Tryz.ntmps46
  go_wp2
  go_loopw [5] (fun i wr => ∃ k : Nat, k ≤ es.length ∧ i = .int .i64 k ∧ Below w.heap.size w wr) (fun i _ => es.length - (intOf i).toNat)
  case atStart => exact ⟨0, Nat.zero_le _, rfl, Below.refl _ _⟩
  case round =>
    obtain ⟨k, hk, rfl, hbw⟩ := hrel
    by_cases hlt : k < es.length
    · have hlt2 : k < fs.length := by rw [fc_len hd.out]; exact hlt
      obtain ⟨b, o, rfl, hbs, x0, x1, x2, hy⟩ := (ha.below hbw).get hlt
      obtain ⟨b', o', rfl, hbs', y0, y1, y2, hy'⟩ := (hb.below hbw).get hlt2
      have hlt' : (k : Int) < es.length := by omega
      have hme := hm _ (List.getElem_mem hlt)
      obtain ⟨q0, q1, q2⟩ := fc_get hd.out hlt2 hlt
      rw [q0] at y0
      rw [q1] at y1 hy'
      rw [q2] at y2
      clear q0 q1 q2
      have zb := hbw.size
      go_wp2_with fail
      first | (go_region_held3 (fun w' => Below wr.heap.size wr w' ∧ w'.cell? ⟨b, o + k * 3, none⟩ = some (.int .i64 es[k].1) ∧ w'.cell? ⟨b, o + k * 3 + 1, none⟩ = some (.slice es[k].2.1.1 es[k].2.1.2.2.length es[k].2.1.2.1) ∧ w'.cell? ⟨b, o + k * 3 + 2, none⟩ = some (.int .i64 es[k].2.2) ∧ w'.cell? ⟨b', o' + k * 3, none⟩ = some (.int .i64 es[k].1) ∧ w'.cell? ⟨b', o' + k * 3 + 1, none⟩ = some (.slice fs[k].2.1.1 es[k].2.1.2.2.length fs[k].2.1.2.1) ∧ w'.cell? ⟨b', o' + k * 3 + 2, none⟩ = some (.int .i64 es[k].2.2))
        (first | exact ⟨Below.drew (Below.refl _ _), by simpa using x0, by simpa using x1, by simpa using x2, by simpa using y0, by simpa using y1, by simpa using y2⟩ | assumption | (refine ⟨?_, ?_, ?_, ?_, ?_, ?_, ?_⟩ <;> assumption))
        ((go_at_call 85; refine (eqFile_same es[k].1 es[k].2.2 _ _ _ _ es[k].2.1.2.2 _ (By.below hy (Below.drew (Below.refl _ _))) (By.below hy' (Below.drew (Below.refl _ _))) hme).mono ?_; rintro e w3 ⟨rfl, hb3⟩; have hbw3 : Below wr.heap.size wr w3 := (Below.drew (Below.refl wr.heap.size wr)).trans hb3; have hkeep := And.intro hbw3 (And.intro ((hbw3.cell (World.block_lt_of_cell? wr _ x0)).trans x0) (And.intro ((hbw3.cell (World.block_lt_of_cell? wr _ x1)).trans x1) (And.intro ((hbw3.cell (World.block_lt_of_cell? wr _ x2)).trans x2) (And.intro ((hbw3.cell (World.block_lt_of_cell? wr _ y0)).trans y0) (And.intro ((hbw3.cell (World.block_lt_of_cell? wr _ y1)).trans y1) ((hbw3.cell (World.block_lt_of_cell? wr _ y2)).trans y2))))))))) | fail
      clear hkeep
      go_wp2_with fail
      go_roundw
      case rel => exact ⟨k + 1, by omega, by go_num, hbw.trans (hbw3.mono zb)⟩
      case measure => simp [intOf]; omega
    · have hlt' : ¬ ((k : Int) < es.length) := by omega
      go_wp2
      go_ret
      exact ⟨rfl, hbw⟩
set_option maxHeartbeats 2000000 in
theorem eqDisk_same (r f n : Int) (FA : Option Addr) (fn c1 : Nat) (KA : Option Addr) (c2 : Nat) (TA : Option Addr) (c3 : Nat) (FA' : Option Addr) (c1' : Nat) (KA' : Option Addr) (c2' : Nat) (TA' : Option Addr) (c3' : Nat) (es fs : List Fl) (ks : List Lk) (ts : List Tn) (w : World)
    (hn : es.length = fn) (hF : Fs w FA es) (hF' : Fs w FA' fs) (hd : Hid (fs.map fc = es.map fc)) (hl : fn ≤ 1099511627776) (hm : ∀ e, e ∈ es → e.2.1.2.2.length ≤ 1099511627776)
    (hK : Ks w KA ks) (hK' : Ks w KA' ks) (hkl : ks.length ≤ 1099511627776) (hT : Ts w TA ts) (hT' : Ts w TA' ts) (htl : ts.length ≤ 1099511627776) :
    Calls Tryz.prog 16 #[dkV r f n FA fn c1 KA ks.length c2 TA ts.length c3, dkV r f n FA' fn c1' KA' ks.length c2' TA' ts.length c3'] w fun e w' => e = .returned (.bool true) ∧ Below w.heap.size w w' := by
  go_enter Tryz.func16, Tryz.ntmps16
  have hb0 : Below w.heap.size w ((w.alloc (.cells (dkC r f n FA fn c1 KA ks.length c2 TA ts.length c3) 35)).alloc (.cells (dkC r f n FA' fn c1' KA' ks.length c2' TA' ts.length c3') 35)) := by (repeat (first | exact Below.refl _ _ | (refine Below.alloc ?_ (by first | omega | (simp; done) | (simp; omega)) _) | (refine Below.drew ?_) | (refine below_drewN ?_ _) | (refine below_at1 ?_ (by first | omega | (simp; done) | (simp; omega))) | (refine Below.setCell ?_ (by first | omega | (simp; done) | (simp; omega)) _) | (refine Below.trans ?_ (Below.mono (by assumption) (by first | omega | (simp; done) | (simp; omega))))))
  go_wp2_with fail
  refine (eqFileS_same _ _ _ _ _ es fs _ hn (hF.below hb0) (hF'.below hb0) hd hl hm).mono ?_
  rintro e w1 ⟨rfl, hb1⟩
  obtain ⟨a1, b1, d1, z1⟩ := keep_blk hb1 (g := w.heap.size) (by repeat (first | assumption | exact heap_alloc_at _ (by first | rfl | (simp; done) | omega) | refine heap_alloc_of _ ?_ | refine heap_setCell_of _ (by first | omega | (simp; done) | (simp; omega)) ?_ | refine heap_setCell_same _ ?_ | exact heap_at1_same (by first | omega | (simp; done) | (simp; omega)) | refine heap_at1_of (by first | omega | (simp; done) | (simp; omega)) ?_))
  obtain ⟨a1', b1', d1', z1'⟩ := keep_blk hb1 (g := w.heap.size + 1) (by repeat (first | assumption | exact heap_alloc_at _ (by first | rfl | (simp; done) | omega) | refine heap_alloc_of _ ?_ | refine heap_setCell_of _ (by first | omega | (simp; done) | (simp; omega)) ?_ | refine heap_setCell_same _ ?_ | exact heap_at1_same (by first | omega | (simp; done) | (simp; omega)) | refine heap_at1_of (by first | omega | (simp; done) | (simp; omega)) ?_))
  have t1 := hb0.trans (hb1.mono hb0.size)
  clear hb1 hb0
  go_wp2_with fail
  refine (eqLinkS_same _ _ _ _ ks _ (hK.below t1) (hK'.below t1) hkl).mono ?_
  rintro e w2 ⟨rfl, hb2⟩
  obtain ⟨a2, b2, d2, z2⟩ := keep_blk hb2 (g := w.heap.size) a1
  obtain ⟨a2', b2', d2', z2'⟩ := keep_blk hb2 (g := w.heap.size + 1) a1'
  have t2 := t1.trans (hb2.mono t1.size)
  clear hb2 a1 b1 d1 a1' b1' d1'
  go_wp2_with fail
  refine (eqTurnS_same _ _ _ _ ts _ (hT.below t2) (hT'.below t2) htl).mono ?_
  rintro e w3 ⟨rfl, hb3⟩
  have t3 := t2.trans (hb3.mono t2.size)
  go_wp2_with fail
  go_ret
  exact ⟨rfl, t3⟩
end Go.Proofs.YtfkdifgmhfdbdaaGreatDoor
