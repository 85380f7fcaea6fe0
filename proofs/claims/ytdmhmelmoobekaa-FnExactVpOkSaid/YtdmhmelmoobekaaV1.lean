/- The parser's state: copying, comparing. -/
import Derived.Test.YtdmhmelmoobekaaG5
import Derived.Test.YtdmhmelmoobekaaG10
namespace Go.Proofs.Ytdmhmelmoobekaa
open Go.RowKit
set_option linter.unusedVariables false
set_option maxRecDepth 100000

abbrev pC (S : Int) (M : Bool) (A : Option Addr) (n c : Nat) (A' : Option Addr) (n' c' : Nat) : Array Value := #[.int .i64 S, .bool M, .slice A n c, .slice A' n' c']
abbrev pV (S : Int) (M : Bool) (A : Option Addr) (n c : Nat) (A' : Option Addr) (n' c' : Nat) : Value := .agg (pC S M A n c A' n' c')
theorem cs_set {w : World} {A : Option Addr} {vs : List Value} {p : Addr} {v : Value} (h : Cs w A vs) (hne : ∀ ad, A = some ad → ¬ ad.block = p.block) : Cs (w.setCell p v) A vs := by
  rcases h with h | ⟨b, o, rfl, h⟩
  · exact .inl h
  · exact .inr ⟨b, o, rfl, fun i x hi => (World.cell?_of_block (a := ⟨b, o + i, none⟩) (Below.heap_setCell w p v b (hne _ rfl))).trans (h i x hi)⟩
theorem by_set {w : World} {A : Option Addr} {bs : List UInt8} {p : Addr} {v : Value} (h : By w A bs) (hne : ∀ ad, A = some ad → ¬ ad.block = p.block) : By (w.setCell p v) A bs := by
  rcases h with h | ⟨b, o, rfl, h⟩
  · exact .inl h
  · exact .inr ⟨b, o, rfl, fun i x hi => (World.cell?_of_block (a := ⟨b, o + i, none⟩) (Below.heap_setCell w p v b (hne _ rfl))).trans (h i x hi)⟩
theorem rd_vp {w : World} {vs : List Value} (h : Rd Try.prog w 47 vs) : ∃ (S : Int) (M : Bool) (A : Option Addr) (ns : List Int) (c : Nat) (A' : Option Addr) (xs : List UInt8) (c' : Nat), vs = [.int .i64 S, .bool M, .slice A ns.length c, .slice A' xs.length c'] ∧ Cs w A (ns.map I) ∧ ns.length ≤ maxLen ∧ By w A' xs ∧ xs.length ≤ maxLen := by
  obtain ⟨hl, hf⟩ := h.struct Try.underlying47
  have hc : Try.prog.cellsOf 47 = 4 := by kernel_rfl
  have hd : Try.prog.cellsOf 44 = 1 := by kernel_rfl
  have he : Try.prog.cellsOf 45 = 1 := by kernel_rfl
  match vs, hl.trans hc with
  | [c0, c1, c2, c3], _ =>
    obtain ⟨S, e0, w0⟩ := (hf 0 _ rfl).int Try.underlying3
    obtain ⟨M, e1⟩ := (hf 1 _ rfl).bool Try.underlying4
    have h2 : Rd Try.prog w 44 (([c0, c1, c2, c3].drop 2).take (Try.prog.cellsOf 44)) := hf 2 _ rfl
    rw [hd] at h2
    obtain ⟨A, n, c, e2, _⟩ := h2.slice Try.underlying44
    rw [e2] at h2
    obtain ⟨ns, rfl, hg, hm, _⟩ := rd_ints h2
    have h3 : Rd Try.prog w 45 (([c0, c1, c2, c3].drop 3).take (Try.prog.cellsOf 45)) := hf 3 _ rfl
    rw [he] at h3
    obtain ⟨A', n', c', e3, _⟩ := h3.slice Try.underlying45
    rw [e3] at h3
    obtain ⟨xs, rfl, hg', hm'⟩ := rd_bytes h3
    simp [cellsInt, cellsBool] at e0 e1 e2 e3
    exact ⟨S, M, A, ns, c, A', xs, c', by rw [e0, e1, e2, e3], hg, hm, hg', hm'⟩
theorem szIntS_any (A : Option Addr) (n c : Nat) (left : Int) (w : World) (hn : n ≤ maxLen) (h0 : 0 ≤ left) (h1 : left ≤ 1048576) :
    Calls Try.prog 70 #[.slice A n c, .int .i64 left] w fun e w' => e = .returned (.int .i64 (szR left n)) ∧ w = w' := by
  unfold maxLen at hn
  by_cases h : left < n
  · have HS := szR_no h
    have h' : left - n < 0 := by omega
    go_enter Try.func70, Try.ntmps70
    go_wp2
    go_ret
    exact ⟨ret_int HS.out.symm, rfl⟩
  · have HS := szR_yes h
    have h' : ¬ left - n < 0 := by omega
    go_enter Try.func70, Try.ntmps70
    go_wp2
    go_ret
    exact ⟨ret_int HS.out.symm, rfl⟩
theorem szByteS_any (A : Option Addr) (n c : Nat) (left : Int) (w : World) (hn : n ≤ maxLen) (h0 : 0 ≤ left) (h1 : left ≤ 1048576) :
    Calls Try.prog 71 #[.slice A n c, .int .i64 left] w fun e w' => e = .returned (.int .i64 (szR left n)) ∧ w = w' := by
  unfold maxLen at hn
  by_cases h : left < n
  · have HS := szR_no h
    have h' : left - n < 0 := by omega
    go_enter Try.func71, Try.ntmps71
    go_wp2
    go_ret
    exact ⟨ret_int HS.out.symm, rfl⟩
  · have HS := szR_yes h
    have h' : ¬ left - n < 0 := by omega
    go_enter Try.func71, Try.ntmps71
    go_wp2
    go_ret
    exact ⟨ret_int HS.out.symm, rfl⟩
def szV (left n m : Int) : Int := if left < n then -1 else if left - n < m then -1 else left - n - m
theorem szVp_any (S : Int) (M : Bool) (A : Option Addr) (n c : Nat) (A' : Option Addr) (n' c' : Nat) (left : Int) (w : World) (hn : n ≤ maxLen) (hn' : n' ≤ maxLen) (h0 : 0 ≤ left) (h1 : left ≤ 1048576) :
    Calls Try.prog 27 #[pV S M A n c A' n' c', .int .i64 left] w fun e w' => e = .returned (.int .i64 (szV left n n')) ∧ Below w.heap.size w w' := by
  by_cases h : left < n
  · have HS := szR_no h
    have HV : Hid (szV left n n' = -1) := if_pos h
    go_enter Try.func27, Try.ntmps27
    go_wp2_with (go_at_call 70; refine (szIntS_any _ _ _ _ _ hn h0 h1).mono ?_; rintro e w' ⟨he, rfl⟩; rw [HS.out] at he; subst he)
    go_ret
    exact ⟨ret_int HV.out.symm, (by (repeat (first | exact Below.refl _ _ | (refine Below.alloc ?_ (by first | omega | (simp; done) | (simp; omega)) _) | (refine Below.drew ?_) | (refine below_drewN ?_ _) | (refine below_at1 ?_ (by first | omega | (simp; done) | (simp; omega))) | (refine Below.setCell ?_ (by first | omega | (simp; done) | (simp; omega)) _) | (refine Below.trans ?_ (Below.mono (by assumption) (by first | omega | (simp; done) | (simp; omega)))))))⟩
  · have HS := szR_yes h
    have h' : ¬ left - n < 0 := by omega
    have h2 : (0 : Int) ≤ left - n := by omega
    have h3 : left - (n : Int) ≤ 1048576 := by omega
    by_cases k : left - n < n'
    · have HS2 := szR_no k
      have HV : Hid (szV left n n' = -1) := by show _ = _; rw [szV, if_neg h, if_pos k]
      go_enter Try.func27, Try.ntmps27
      go_wp2_with (first | (go_at_call 70; refine (szIntS_any _ _ _ _ _ hn h0 h1).mono ?_; rintro e w' ⟨he, rfl⟩; rw [HS.out] at he; subst he) | (go_at_call 71; refine (szByteS_any _ _ _ _ _ hn' h2 h3).mono ?_; rintro e w' ⟨he, rfl⟩; rw [HS2.out] at he; subst he))
      go_ret
      exact ⟨ret_int HV.out.symm, (by (repeat (first | exact Below.refl _ _ | (refine Below.alloc ?_ (by first | omega | (simp; done) | (simp; omega)) _) | (refine Below.drew ?_) | (refine below_drewN ?_ _) | (refine below_at1 ?_ (by first | omega | (simp; done) | (simp; omega))) | (refine Below.setCell ?_ (by first | omega | (simp; done) | (simp; omega)) _) | (refine Below.trans ?_ (Below.mono (by assumption) (by first | omega | (simp; done) | (simp; omega)))))))⟩
    · have HS2 := szR_yes k
      have k' : ¬ left - n - n' < 0 := by omega
      have HV : Hid (szV left n n' = left - n - n') := by show _ = _; rw [szV, if_neg h, if_neg k]
      go_enter Try.func27, Try.ntmps27
      go_wp2_with (first | (go_at_call 70; refine (szIntS_any _ _ _ _ _ hn h0 h1).mono ?_; rintro e w' ⟨he, rfl⟩; rw [HS.out] at he; subst he) | (go_at_call 71; refine (szByteS_any _ _ _ _ _ hn' h2 h3).mono ?_; rintro e w' ⟨he, rfl⟩; rw [HS2.out] at he; subst he))
      go_ret
      exact ⟨ret_int HV.out.symm, (by (repeat (first | exact Below.refl _ _ | (refine Below.alloc ?_ (by first | omega | (simp; done) | (simp; omega)) _) | (refine Below.drew ?_) | (refine below_drewN ?_ _) | (refine below_at1 ?_ (by first | omega | (simp; done) | (simp; omega))) | (refine Below.setCell ?_ (by first | omega | (simp; done) | (simp; omega)) _) | (refine Below.trans ?_ (Below.mono (by assumption) (by first | omega | (simp; done) | (simp; omega)))))))⟩
def VpPost (w : World) (S : Int) (M : Bool) (ns : List Int) (xs : List UInt8) (e : Ending) (w' : World) : Prop :=
  ∃ A1 c1 A2 c2, e = .returned (pV S M A1 ns.length c1 A2 xs.length c2) ∧ ns.length ≤ c1 ∧ xs.length ≤ c2 ∧ Cs w' A1 (ns.map I) ∧ By w' A2 xs ∧ Below w.heap.size w w'
set_option maxHeartbeats 2000000 in
theorem toVp_any (S : Int) (M : Bool) (A : Option Addr) (c : Nat) (A' : Option Addr) (c' : Nat) (ns : List Int) (xs : List UInt8) (w : World) (ha : Cs w A (ns.map I)) (hb' : By w A' xs) (hl : ns.length ≤ 1048576) (hl' : xs.length ≤ 1048576) :
    Calls Try.prog 29 #[pV S M A ns.length c A' xs.length c'] w (VpPost w S M ns xs) := by
  go_enter Try.func29, Try.ntmps29
  go_wp2_with fail
  have hb0 : Below w.heap.size w (((w.alloc (.cells (pC S M A ns.length c A' xs.length c') 47)).alloc (.cells (pC 0 false none 0 0 none 0 0) 50)).alloc (.cells (pC S M none 0 0 none 0 0) 50)) := by (repeat (first | exact Below.refl _ _ | (refine Below.alloc ?_ (by first | omega | (simp; done) | (simp; omega)) _) | (refine Below.drew ?_) | (refine below_drewN ?_ _) | (refine below_at1 ?_ (by first | omega | (simp; done) | (simp; omega))) | (refine Below.setCell ?_ (by first | omega | (simp; done) | (simp; omega)) _) | (refine Below.trans ?_ (Below.mono (by assumption) (by first | omega | (simp; done) | (simp; omega))))))
  refine (toIntS_any _ _ ns _ (ha.below hb0) (by omega)).mono ?_
  rintro e w1 ⟨A1, c1, rfl, hc1, hs1, hi1, hb1⟩
  obtain ⟨B1, q1, r1, z1⟩ := keep_blk hb1 (g := w.heap.size) (by repeat (first | assumption | exact heap_alloc_at _ (by first | rfl | (simp; done) | omega) | refine heap_alloc_of _ ?_ | refine heap_setCell_of _ (by first | omega | (simp; done) | (simp; omega)) ?_ | refine heap_setCell_same _ ?_ | exact heap_at1_same (by first | omega | (simp; done) | (simp; omega)) | refine heap_at1_of (by first | omega | (simp; done) | (simp; omega)) ?_))
  obtain ⟨C1, qq1, rr1, zz1⟩ := keep_blk hb1 (g := w.heap.size + 1) (by repeat (first | assumption | exact heap_alloc_at _ (by first | rfl | (simp; done) | omega) | refine heap_alloc_of _ ?_ | refine heap_setCell_of _ (by first | omega | (simp; done) | (simp; omega)) ?_ | refine heap_setCell_same _ ?_ | exact heap_at1_same (by first | omega | (simp; done) | (simp; omega)) | refine heap_at1_of (by first | omega | (simp; done) | (simp; omega)) ?_))
  obtain ⟨D1, qd1, rd1, zd1⟩ := keep_blk hb1 (g := w.heap.size + 1 + 1) (by repeat (first | assumption | exact heap_alloc_at _ (by first | rfl | (simp; done) | omega) | refine heap_alloc_of _ ?_ | refine heap_setCell_of _ (by first | omega | (simp; done) | (simp; omega)) ?_ | refine heap_setCell_same _ ?_ | exact heap_at1_same (by first | omega | (simp; done) | (simp; omega)) | refine heap_at1_of (by first | omega | (simp; done) | (simp; omega)) ?_))
  have t1 := hb0.trans (hb1.mono hb0.size)
  have zw1 := hb1.size
  go_wp2_with fail
  have hi : ∀ ad, A1 = some ad → w.heap.size + 3 ≤ ad.block ∧ ad.block < w1.heap.size := fun ad h => by have := hi1 ad h; simp at this; omega
  obtain ⟨wv, hwv⟩ : ∃ wv, wv = w1.setCell ⟨w.heap.size + 1 + 1, 2, none⟩ (.slice A1 ns.length c1) := ⟨_, rfl⟩
  rw [← hwv]
  have Bv : wv.heap[w.heap.size]? = some (.cells (pC S M A ns.length c A' xs.length c') 47 (0, 0)) := by subst hwv; exact heap_setCell_of _ (by simp; omega) B1
  have Cv : wv.heap[w.heap.size + 1]? = some (.cells (pC 0 false none 0 0 none 0 0) 50 (0, 0)) := by subst hwv; exact heap_setCell_of _ (by simp) C1
  have Dv : wv.heap[w.heap.size + 1 + 1]? = some (.cells (pC S M A1 ns.length c1 none 0 0) 50 (0, 0)) := by subst hwv; exact heap_setCell_same _ D1
  have hsv : Cs wv A1 (ns.map I) := by subst hwv; exact cs_set hs1 (fun ad h => by have := hi ad h; simp; omega)
  have tv : Below w.heap.size w wv := by subst hwv; exact t1.setCell (by simp; omega) _
  have zv : wv.heap.size = w1.heap.size := by subst hwv; simp
  clear hwv B1 q1 r1 C1 qq1 rr1 D1 qd1 rd1 hs1
  refine (toByteS_any _ _ xs _ (hb'.below tv) (by omega)).mono ?_
  rintro e w2 ⟨A2, c2, rfl, ho2, hb2⟩
  obtain ⟨B2, q2, r2, z2⟩ := keep_blk hb2 Bv
  obtain ⟨C2, qq2, rr2, zz2⟩ := keep_blk hb2 Cv
  obtain ⟨D2, qd2, rd2, zd2⟩ := keep_blk hb2 Dv
  have t2 := tv.trans (hb2.mono tv.size)
  have hs2 := hsv.below hb2
  have hi2 := ho2.inB
  go_wp2_with fail
  refine bodyPost_ret (v := pV S M A1 ns.length c1 A2 xs.length c2) (by simp [results, Try.results29, go_sem, *]) rfl ?_
  have hI : ∀ ad, A1 = some ad → w.heap.size + 3 ≤ ad.block := fun ad h => (hi ad h).1
  have hJ : ∀ ad, A2 = some ad → w.heap.size + 3 ≤ ad.block := fun ad h => by have := (hi2 ad h).1; omega
  refine ⟨A1, c1, A2, c2, rfl, hc1, ho2.le_cap, ?_, ?_, ?_⟩
  · exact cs_set (cs_set (cs_set (cs_set (cs_set hs2 (fun ad h => by have := hI ad h; simp; omega)) (fun ad h => by have := hI ad h; simp; omega)) (fun ad h => by have := hI ad h; simp; omega)) (fun ad h => by have := hI ad h; simp; omega)) (fun ad h => by have := hI ad h; simp; omega)
  · exact by_set (by_set (by_set (by_set (by_set ho2.by_ (fun ad h => by have := hJ ad h; simp; omega)) (fun ad h => by have := hJ ad h; simp; omega)) (fun ad h => by have := hJ ad h; simp; omega)) (fun ad h => by have := hJ ad h; simp; omega)) (fun ad h => by have := hJ ad h; simp; omega)
  · exact ((((t2.setCell (by first | omega | (simp; done) | (simp; omega)) _).setCell (by first | omega | (simp; done) | (simp; omega)) _).setCell (by first | omega | (simp; done) | (simp; omega)) _).setCell (by first | omega | (simp; done) | (simp; omega)) _).setCell (by first | omega | (simp; done) | (simp; omega)) _
set_option maxHeartbeats 2000000 in
theorem eqVp_same (S : Int) (M : Bool) (A B : Option Addr) (c d : Nat) (A' B' : Option Addr) (c' d' : Nat) (ns : List Int) (xs : List UInt8) (w : World) (ha : Cs w A (ns.map I)) (hb : Cs w B (ns.map I)) (ha' : By w A' xs) (hb' : By w B' xs) (hl : ns.length ≤ 1048576) (hl' : xs.length ≤ 1048576) :
    Calls Try.prog 31 #[pV S M A ns.length c A' xs.length c', pV S M B ns.length d B' xs.length d'] w fun e w' => e = .returned (.bool true) ∧ Below w.heap.size w w' := by
  go_enter Try.func31, Try.ntmps31
  have hb0 : Below w.heap.size w ((w.alloc (.cells (pC S M A ns.length c A' xs.length c') 50)).alloc (.cells (pC S M B ns.length d B' xs.length d') 50)) := by (repeat (first | exact Below.refl _ _ | (refine Below.alloc ?_ (by first | omega | (simp; done) | (simp; omega)) _) | (refine Below.drew ?_) | (refine below_drewN ?_ _) | (refine below_at1 ?_ (by first | omega | (simp; done) | (simp; omega))) | (refine Below.setCell ?_ (by first | omega | (simp; done) | (simp; omega)) _) | (refine Below.trans ?_ (Below.mono (by assumption) (by first | omega | (simp; done) | (simp; omega))))))
  go_wp2_with (first | (go_at_call 78; refine (eqIntS_same _ _ _ _ ns _ ((ha.below hb0).below (by (repeat (first | exact Below.refl _ _ | (refine Below.alloc ?_ (by first | omega | (simp; done) | (simp; omega)) _) | (refine Below.drew ?_) | (refine below_drewN ?_ _) | (refine below_at1 ?_ (by first | omega | (simp; done) | (simp; omega))) | (refine Below.setCell ?_ (by first | omega | (simp; done) | (simp; omega)) _) | (refine Below.trans ?_ (Below.mono (by assumption) (by first | omega | (simp; done) | (simp; omega)))))))) ((hb.below hb0).below (by (repeat (first | exact Below.refl _ _ | (refine Below.alloc ?_ (by first | omega | (simp; done) | (simp; omega)) _) | (refine Below.drew ?_) | (refine below_drewN ?_ _) | (refine below_at1 ?_ (by first | omega | (simp; done) | (simp; omega))) | (refine Below.setCell ?_ (by first | omega | (simp; done) | (simp; omega)) _) | (refine Below.trans ?_ (Below.mono (by assumption) (by first | omega | (simp; done) | (simp; omega)))))))) (by omega)).mono ?_; rintro e w1 ⟨rfl, m1, rfl⟩) | (go_at_call 79; refine (eqByteS_same _ _ _ _ xs _ ((ha'.below hb0).below (by (repeat (first | exact Below.refl _ _ | (refine Below.alloc ?_ (by first | omega | (simp; done) | (simp; omega)) _) | (refine Below.drew ?_) | (refine below_drewN ?_ _) | (refine below_at1 ?_ (by first | omega | (simp; done) | (simp; omega))) | (refine Below.setCell ?_ (by first | omega | (simp; done) | (simp; omega)) _) | (refine Below.trans ?_ (Below.mono (by assumption) (by first | omega | (simp; done) | (simp; omega)))))))) ((hb'.below hb0).below (by (repeat (first | exact Below.refl _ _ | (refine Below.alloc ?_ (by first | omega | (simp; done) | (simp; omega)) _) | (refine Below.drew ?_) | (refine below_drewN ?_ _) | (refine below_at1 ?_ (by first | omega | (simp; done) | (simp; omega))) | (refine Below.setCell ?_ (by first | omega | (simp; done) | (simp; omega)) _) | (refine Below.trans ?_ (Below.mono (by assumption) (by first | omega | (simp; done) | (simp; omega)))))))) (by omega)).mono ?_; rintro e w1 ⟨rfl, m2, rfl⟩))
  go_ret
  exact ⟨rfl, below_drewN hb0 _⟩
end Go.Proofs.Ytdmhmelmoobekaa
