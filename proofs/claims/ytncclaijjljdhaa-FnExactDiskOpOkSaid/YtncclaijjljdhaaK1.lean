/- Operations of a disk: copying, comparing. -/
import Derived.Test.YtncclaijjljdhaaP1
namespace Go.Proofs.Ytncclaijjljdhaa
open Go.RowKit
set_option linter.unusedVariables false
set_option maxRecDepth 100000

theorem cellsInt_ : Try.prog.cellsOf 3 = 1 := by kernel_rfl
theorem cellsStr_ : Try.prog.cellsOf 9 = 1 := by kernel_rfl
abbrev dC (k : Int) (s t : ByteArray) (A : Option Addr) (n c : Nat) : Array Value := #[.int .i64 k, .string s, .string t, .slice A n c]
abbrev dV (k : Int) (s t : ByteArray) (A : Option Addr) (n c : Nat) : Value := .agg (dC k s t A n c)
theorem by_set {w : World} {A : Option Addr} {bs : List UInt8} {p : Addr} {v : Value} (h : By w A bs) (hne : ∀ ad, A = some ad → ¬ ad.block = p.block) : By (w.setCell p v) A bs := by
  rcases h with h | ⟨b, o, rfl, h⟩
  · exact .inl h
  · exact .inr ⟨b, o, rfl, fun i x hi => (World.cell?_of_block (a := ⟨b, o + i, none⟩) (Below.heap_setCell w p v b (hne _ rfl))).trans (h i x hi)⟩
theorem rd_op {w : World} {vs : List Value} (h : Rd Try.prog w 24 vs) : ∃ (k : Int) (s t : ByteArray) (A : Option Addr) (xs : List UInt8) (c : Nat), vs = [.int .i64 k, .string s, .string t, .slice A xs.length c] ∧ s.size ≤ maxLen ∧ t.size ≤ maxLen ∧ By w A xs ∧ xs.length ≤ maxLen := by
  obtain ⟨hl, hf⟩ := h.struct Try.underlying24
  have hc : Try.prog.cellsOf 24 = 4 := by kernel_rfl
  have he : Try.prog.cellsOf 22 = 1 := by kernel_rfl
  match vs, hl.trans hc with
  | [c0, c1, c2, c3], _ =>
    obtain ⟨k, e0, w0⟩ := (hf 0 _ rfl).int Try.underlying3
    obtain ⟨s, e1, hs⟩ := (hf 1 _ rfl).string Try.underlying9
    obtain ⟨t, e2, ht⟩ := (hf 2 _ rfl).string Try.underlying9
    have h3 : Rd Try.prog w 22 (([c0, c1, c2, c3].drop 3).take (Try.prog.cellsOf 22)) := hf 3 _ rfl
    rw [he] at h3
    obtain ⟨A', n', c', e3, _⟩ := h3.slice Try.underlying22
    rw [e3] at h3
    obtain ⟨xs, rfl, hg', hm'⟩ := rd_bytes h3
    simp [cellsInt_, cellsStr_] at e0 e1 e2 e3
    exact ⟨k, s, t, A', xs, c', by rw [e0, e1, e2, e3], hs, ht, hg', hm'⟩
def szR (left n : Int) : Int := if left < n then -1 else left - n
theorem szR_no {left n : Int} (h : left < n) : Hid (szR left n = -1) := if_pos h
theorem szR_yes {left n : Int} (h : ¬ left < n) : Hid (szR left n = left - n) := if_neg h
theorem szByteS_any (A : Option Addr) (n c : Nat) (left : Int) (w : World) (hn : n ≤ maxLen) (h0 : 0 ≤ left) (h1 : left ≤ 1048576) :
    Calls Try.prog 15 #[.slice A n c, .int .i64 left] w fun e w' => e = .returned (.int .i64 (szR left n)) ∧ w = w' := by
  unfold maxLen at hn
  by_cases h : left < n
  · have HS := szR_no h
    have h' : left - n < 0 := by omega
    go_enter Try.func15, Try.ntmps15
    go_wp2
    go_ret
    exact ⟨ret_int HS.out.symm, rfl⟩
  · have HS := szR_yes h
    have h' : ¬ left - n < 0 := by omega
    go_enter Try.func15, Try.ntmps15
    go_wp2
    go_ret
    exact ⟨ret_int HS.out.symm, rfl⟩
def szD (left a b n : Int) : Int := if left - a < 0 then -1 else if left - a - b < 0 then -1 else if left - a - b < n then -1 else left - a - b - n
theorem szOp_any (k : Int) (s t : ByteArray) (A : Option Addr) (n c : Nat) (w : World) (hs : s.size ≤ maxLen) (ht : t.size ≤ maxLen) (hn : n ≤ maxLen) :
    Calls Try.prog 5 #[dV k s t A n c, .int .i64 1048576] w fun e w' => e = .returned (.int .i64 (szD 1048576 s.size t.size n)) ∧ Below w.heap.size w w' := by
  unfold maxLen at hs ht
  by_cases h : (1048576 : Int) - s.size < 0
  · have HV : Hid (szD 1048576 s.size t.size n = -1) := if_pos h
    go_enter Try.func5, Try.ntmps5
    go_wp2_with fail
    go_ret
    exact ⟨ret_int HV.out.symm, (by (repeat (first | exact Below.refl _ _ | (refine Below.alloc ?_ (by first | omega | (simp; done) | (simp; omega)) _) | (refine Below.drew ?_) | (refine below_drewN ?_ _) | (refine below_at1 ?_ (by first | omega | (simp; done) | (simp; omega))) | (refine Below.setCell ?_ (by first | omega | (simp; done) | (simp; omega)) _) | (refine Below.trans ?_ (Below.mono (by assumption) (by first | omega | (simp; done) | (simp; omega)))))))⟩
  by_cases h2 : (1048576 : Int) - s.size - t.size < 0
  · have HV : Hid (szD 1048576 s.size t.size n = -1) := by show _ = _; rw [szD, if_neg h, if_pos h2]
    go_enter Try.func5, Try.ntmps5
    go_wp2_with fail
    go_ret
    exact ⟨ret_int HV.out.symm, (by (repeat (first | exact Below.refl _ _ | (refine Below.alloc ?_ (by first | omega | (simp; done) | (simp; omega)) _) | (refine Below.drew ?_) | (refine below_drewN ?_ _) | (refine below_at1 ?_ (by first | omega | (simp; done) | (simp; omega))) | (refine Below.setCell ?_ (by first | omega | (simp; done) | (simp; omega)) _) | (refine Below.trans ?_ (Below.mono (by assumption) (by first | omega | (simp; done) | (simp; omega)))))))⟩
  have g0 : (0 : Int) ≤ 1048576 - s.size - t.size := by omega
  have g1 : (1048576 : Int) - s.size - t.size ≤ 1048576 := by omega
  by_cases h3 : (1048576 : Int) - s.size - t.size < n
  · have HS2 := szR_no h3
    have HV : Hid (szD 1048576 s.size t.size n = -1) := by show _ = _; rw [szD, if_neg h, if_neg h2, if_pos h3]
    go_enter Try.func5, Try.ntmps5
    go_wp2_with (go_at_call 15; refine (szByteS_any _ _ _ _ _ hn g0 g1).mono ?_; rintro e w' ⟨he, rfl⟩; rw [HS2.out] at he; subst he)
    go_ret
    exact ⟨ret_int HV.out.symm, (by (repeat (first | exact Below.refl _ _ | (refine Below.alloc ?_ (by first | omega | (simp; done) | (simp; omega)) _) | (refine Below.drew ?_) | (refine below_drewN ?_ _) | (refine below_at1 ?_ (by first | omega | (simp; done) | (simp; omega))) | (refine Below.setCell ?_ (by first | omega | (simp; done) | (simp; omega)) _) | (refine Below.trans ?_ (Below.mono (by assumption) (by first | omega | (simp; done) | (simp; omega)))))))⟩
  · have HS2 := szR_yes h3
    have h4 : ¬ (1048576 : Int) - s.size - t.size - n < 0 := by omega
    have HV : Hid (szD 1048576 s.size t.size n = 1048576 - s.size - t.size - n) := by show _ = _; rw [szD, if_neg h, if_neg h2, if_neg h3]
    go_enter Try.func5, Try.ntmps5
    go_wp2_with (go_at_call 15; refine (szByteS_any _ _ _ _ _ hn g0 g1).mono ?_; rintro e w' ⟨he, rfl⟩; rw [HS2.out] at he; subst he)
    go_ret
    exact ⟨ret_int HV.out.symm, (by (repeat (first | exact Below.refl _ _ | (refine Below.alloc ?_ (by first | omega | (simp; done) | (simp; omega)) _) | (refine Below.drew ?_) | (refine below_drewN ?_ _) | (refine below_at1 ?_ (by first | omega | (simp; done) | (simp; omega))) | (refine Below.setCell ?_ (by first | omega | (simp; done) | (simp; omega)) _) | (refine Below.trans ?_ (Below.mono (by assumption) (by first | omega | (simp; done) | (simp; omega)))))))⟩
def OpPost (w : World) (k : Int) (s t : ByteArray) (xs : List UInt8) (e : Ending) (w' : World) : Prop :=
  ∃ A2 c2, e = .returned (dV k s t A2 xs.length c2) ∧ By w' A2 xs ∧ Below w.heap.size w w'
set_option maxHeartbeats 2000000 in
theorem toOp_any (k : Int) (s t : ByteArray) (A : Option Addr) (c : Nat) (xs : List UInt8) (w : World) (hb' : By w A xs) (hl' : xs.length ≤ 1048576) :
    Calls Try.prog 7 #[dV k s t A xs.length c] w (OpPost w k s t xs) := by
  go_enter Try.func7, Try.ntmps7
  go_wp2_with fail
  have hb0 : Below w.heap.size w (((w.alloc (.cells (dC k s t A xs.length c) 24)).alloc (.cells (dC 0 ByteArray.empty ByteArray.empty none 0 0) 27)).alloc (.cells (dC k s t none 0 0) 27)) := by (repeat (first | exact Below.refl _ _ | (refine Below.alloc ?_ (by first | omega | (simp; done) | (simp; omega)) _) | (refine Below.drew ?_) | (refine below_drewN ?_ _) | (refine below_at1 ?_ (by first | omega | (simp; done) | (simp; omega))) | (refine Below.setCell ?_ (by first | omega | (simp; done) | (simp; omega)) _) | (refine Below.trans ?_ (Below.mono (by assumption) (by first | omega | (simp; done) | (simp; omega))))))
  refine (toByteS_any _ _ xs _ (hb'.below hb0) (by omega)).mono ?_
  rintro e w2 ⟨A2, c2, rfl, ho2, hb2⟩
  obtain ⟨B2, q2, r2, z2⟩ := keep_blk hb2 (g := w.heap.size) (by repeat (first | assumption | exact heap_alloc_at _ (by first | rfl | (simp; done) | omega) | refine heap_alloc_of _ ?_ | refine heap_setCell_of _ (by first | omega | (simp; done) | (simp; omega)) ?_ | refine heap_setCell_same _ ?_ | exact heap_at1_same (by first | omega | (simp; done) | (simp; omega)) | refine heap_at1_of (by first | omega | (simp; done) | (simp; omega)) ?_))
  obtain ⟨C2, qq2, rr2, zz2⟩ := keep_blk hb2 (g := w.heap.size + 1) (by repeat (first | assumption | exact heap_alloc_at _ (by first | rfl | (simp; done) | omega) | refine heap_alloc_of _ ?_ | refine heap_setCell_of _ (by first | omega | (simp; done) | (simp; omega)) ?_ | refine heap_setCell_same _ ?_ | exact heap_at1_same (by first | omega | (simp; done) | (simp; omega)) | refine heap_at1_of (by first | omega | (simp; done) | (simp; omega)) ?_))
  obtain ⟨D2, qd2, rd2, zd2⟩ := keep_blk hb2 (g := w.heap.size + 1 + 1) (by repeat (first | assumption | exact heap_alloc_at _ (by first | rfl | (simp; done) | omega) | refine heap_alloc_of _ ?_ | refine heap_setCell_of _ (by first | omega | (simp; done) | (simp; omega)) ?_ | refine heap_setCell_same _ ?_ | exact heap_at1_same (by first | omega | (simp; done) | (simp; omega)) | refine heap_at1_of (by first | omega | (simp; done) | (simp; omega)) ?_))
  have t2 := hb0.trans (hb2.mono hb0.size)
  have hi2 := ho2.inB
  go_wp2_with fail
  refine bodyPost_ret (v := dV k s t A2 xs.length c2) (by simp [results, Try.results7, go_sem, *]) rfl ?_
  have hJ : ∀ ad, A2 = some ad → w.heap.size + 3 ≤ ad.block := fun ad h => by have := (hi2 ad h).1; simp at this; omega
  refine ⟨A2, c2, rfl, ?_, ?_⟩
  · exact by_set (by_set (by_set (by_set (by_set ho2.by_ (fun ad h => by have := hJ ad h; simp; omega)) (fun ad h => by have := hJ ad h; simp; omega)) (fun ad h => by have := hJ ad h; simp; omega)) (fun ad h => by have := hJ ad h; simp; omega)) (fun ad h => by have := hJ ad h; simp; omega)
  · exact ((((t2.setCell (by first | omega | (simp; done) | (simp; omega)) _).setCell (by first | omega | (simp; done) | (simp; omega)) _).setCell (by first | omega | (simp; done) | (simp; omega)) _).setCell (by first | omega | (simp; done) | (simp; omega)) _).setCell (by first | omega | (simp; done) | (simp; omega)) _
set_option maxHeartbeats 2000000 in
theorem eqOp_same (k : Int) (s t : ByteArray) (A' B' : Option Addr) (c' d' : Nat) (xs : List UInt8) (w : World) (ha' : By w A' xs) (hb' : By w B' xs) (hl' : xs.length ≤ 1048576) :
    Calls Try.prog 9 #[dV k s t A' xs.length c', dV k s t B' xs.length d'] w fun e w' => e = .returned (.bool true) ∧ Below w.heap.size w w' := by
  go_enter Try.func9, Try.ntmps9
  have hb0 : Below w.heap.size w ((w.alloc (.cells (dC k s t A' xs.length c') 27)).alloc (.cells (dC k s t B' xs.length d') 27)) := by (repeat (first | exact Below.refl _ _ | (refine Below.alloc ?_ (by first | omega | (simp; done) | (simp; omega)) _) | (refine Below.drew ?_) | (refine below_drewN ?_ _) | (refine below_at1 ?_ (by first | omega | (simp; done) | (simp; omega))) | (refine Below.setCell ?_ (by first | omega | (simp; done) | (simp; omega)) _) | (refine Below.trans ?_ (Below.mono (by assumption) (by first | omega | (simp; done) | (simp; omega))))))
  go_wp2_with (go_at_call 20; refine (eqByteS_same _ _ _ _ xs _ ((ha'.below hb0).below (by (repeat (first | exact Below.refl _ _ | (refine Below.alloc ?_ (by first | omega | (simp; done) | (simp; omega)) _) | (refine Below.drew ?_) | (refine below_drewN ?_ _) | (refine below_at1 ?_ (by first | omega | (simp; done) | (simp; omega))) | (refine Below.setCell ?_ (by first | omega | (simp; done) | (simp; omega)) _) | (refine Below.trans ?_ (Below.mono (by assumption) (by first | omega | (simp; done) | (simp; omega)))))))) ((hb'.below hb0).below (by (repeat (first | exact Below.refl _ _ | (refine Below.alloc ?_ (by first | omega | (simp; done) | (simp; omega)) _) | (refine Below.drew ?_) | (refine below_drewN ?_ _) | (refine below_at1 ?_ (by first | omega | (simp; done) | (simp; omega))) | (refine Below.setCell ?_ (by first | omega | (simp; done) | (simp; omega)) _) | (refine Below.trans ?_ (Below.mono (by assumption) (by first | omega | (simp; done) | (simp; omega)))))))) (by omega)).mono ?_; rintro e w1 ⟨rfl, m2, rfl⟩)
  go_ret
  exact ⟨rfl, below_drewN hb0 _⟩
end Go.Proofs.Ytncclaijjljdhaa
