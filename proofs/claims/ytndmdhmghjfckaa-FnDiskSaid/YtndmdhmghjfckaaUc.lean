/- A disk is valid: what is asked; its numbers, the reference. A disk is valid: the reference. -/
import Derived.Test.YtndmdhmghjfckaaUb
import Derived.BigQuiet
import Derived.Test.YtndmdhmghjfckaaQb
namespace Go.Proofs.Ytndmdhmghjfckaa
open Go.RowKit

set_option linter.unusedVariables false
set_option maxRecDepth 100000

/-- The numbers of a disk. -/
def numB (r f n : Int) (fl kl tl u : Nat) : Bool := decide ((0 ≤ r ∧ r ≤ 400000) ∧ (-1 ≤ f ∧ f ≤ 1000) ∧ (1 ≤ n ∧ n ≤ 1000000) ∧ fl ≤ 10 ∧ kl ≤ 10 ∧ tl ≤ 30 ∧ (u : Int) ≤ r)
/-- Its files: behind one of Id p. -/
def fB (n : Int) : Int → List (Int × List UInt8 × Int) → Bool
  | _, [] => true
  | p, x :: r => decide (1 ≤ x.1 ∧ x.1 < n ∧ p < x.1 ∧ 0 ≤ x.2.2 ∧ x.2.2 ≤ x.2.1.length) && fB n x.1 r
/-- Its links: behind one of name p. -/
def kB : ByteArray → List Lk → Bool
  | _, [] => true
  | p, x :: r => nmB x.1 && ltN p x.1 && kB x.1 r
/-- The turns, one after the other. -/
def runS : List Lk → List Tn → Bool
  | _, [] => true
  | d, t :: r => okS d t && runS (turnS d t) r
/-- The Ids are those of the files. -/
def idB (ids fids : List Int) : Bool := decide (ids.length = fids.length) && decide (ids.Nodup) && ids.all fun n => decide (n ∈ fids)
def dkB (r f n : Int) (fs : List (Int × List UInt8 × Int)) (u : Nat) (ks : List Lk) (ts : List Tn) : Bool :=
  numB r f n fs.length ks.length ts.length u && fB n 0 fs && kB ByteArray.empty ks && idB (idsOf ks ts) (fs.map fun x => x.1) && runS ks ts
set_option maxHeartbeats 4000000 in
theorem sd_num (r f n : Int) (FA : Option Addr) (es : List Fl) (c1 : Nat) (KA : Option Addr) (kl c2 : Nat) (TA : Option Addr) (tl c3 : Nat) (w : World) (ha : Fs w FA es) (hl : es.length ≤ 1048576) (ht : ftot es ≤ 1048576) (hkl : kl ≤ 1048576) (htl : tl ≤ 1048576) (hN : ¬ ((0 ≤ r ∧ r ≤ 400000) ∧ (-1 ≤ f ∧ f ≤ 1000) ∧ (1 ≤ n ∧ n ≤ 1000000) ∧ (es.length : Int) ≤ 10 ∧ (kl : Int) ≤ 10 ∧ (tl : Int) ≤ 30)) :
    Calls Try.prog 40 #[dkV r f n FA es.length c1 KA kl c2 TA tl c3] w fun e w' => e = .returned (.bool false) ∧ Below w.heap.size w w' := by
  have hb0 : Below w.heap.size w (w.alloc (.cells (dkC r f n FA es.length c1 KA kl c2 TA tl c3) 27)) := by (repeat (first | exact Below.refl _ _ | (refine Below.alloc ?_ (by first | omega | (simp; done) | (simp; omega)) _) | (refine Below.drew ?_) | (refine below_drewN ?_ _) | (refine below_at1 ?_ (by first | omega | (simp; done) | (simp; omega))) | (refine Below.setCell ?_ (by first | omega | (simp; done) | (simp; omega)) _) | (refine Below.trans ?_ (Below.mono (by assumption) (by first | omega | (simp; done) | (simp; omega))))))
  obtain ⟨w0, hw0⟩ : ∃ w0, Hid (w0 = w.alloc (.cells (dkC r f n FA es.length c1 KA kl c2 TA tl c3) 27)) := ⟨_, Lib.hid rfl⟩
  have hq : ∀ i, w0.cell? ⟨w.heap.size, i, none⟩ = (dkC r f n FA es.length c1 KA kl c2 TA tl c3)[i]? := fun i => by rw [hw0.out]; exact cell_of_row _ _ i _ _ (0, 0) (heap_alloc_new _ _)
  have q0 := hq 0
  have q1 := hq 1
  have q2 := hq 2
  have q3 := hq 3
  have q4 := hq 4
  have q5 := hq 5
  have z0 : w.heap.size < w0.heap.size := by rw [hw0.out]; simp
  rw [← hw0.out] at hb0
  clear hq
  by_cases cc0 : r < 0
  · clear hN
    go_enter Try.func40, Try.ntmps40
    go_wp2_with fail
    rw [← hw0.out]
    go_quiet (fail)
    go_wp2_with fail
    go_ret
    exact ⟨rfl, hb0.trans (below_drewN (Below.refl _ _) _)⟩
  by_cases cc1 : 400000 < r
  · clear hN
    go_enter Try.func40, Try.ntmps40
    go_wp2_with fail
    rw [← hw0.out]
    go_quiet (fail)
    go_wp2_with fail
    go_ret
    exact ⟨rfl, hb0.trans (below_drewN (Below.refl _ _) _)⟩
  by_cases cc2 : f < -1
  · clear hN
    go_enter Try.func40, Try.ntmps40
    go_wp2_with fail
    rw [← hw0.out]
    go_quiet (fail)
    go_wp2_with fail
    go_ret
    exact ⟨rfl, hb0.trans (below_drewN (Below.refl _ _) _)⟩
  by_cases cc3 : 1000 < f
  · clear hN
    go_enter Try.func40, Try.ntmps40
    go_wp2_with fail
    rw [← hw0.out]
    go_quiet (fail)
    go_wp2_with fail
    go_ret
    exact ⟨rfl, hb0.trans (below_drewN (Below.refl _ _) _)⟩
  by_cases cc4 : n < 1
  · clear hN
    go_enter Try.func40, Try.ntmps40
    go_wp2_with fail
    rw [← hw0.out]
    go_quiet (fail)
    go_wp2_with fail
    go_ret
    exact ⟨rfl, hb0.trans (below_drewN (Below.refl _ _) _)⟩
  by_cases cc5 : 1000000 < n
  · clear hN
    go_enter Try.func40, Try.ntmps40
    go_wp2_with fail
    rw [← hw0.out]
    go_quiet (fail)
    go_wp2_with fail
    go_ret
    exact ⟨rfl, hb0.trans (below_drewN (Below.refl _ _) _)⟩
  by_cases cc6 : (10 : Int) < es.length
  · clear hN
    go_enter Try.func40, Try.ntmps40
    go_wp2_with fail
    rw [← hw0.out]
    go_quiet (fail)
    go_wp2_with fail
    go_ret
    exact ⟨rfl, hb0.trans (below_drewN (Below.refl _ _) _)⟩
  by_cases cc7 : (10 : Int) < kl
  · clear hN
    go_enter Try.func40, Try.ntmps40
    go_wp2_with fail
    rw [← hw0.out]
    go_quiet (fail)
    go_wp2_with fail
    go_ret
    exact ⟨rfl, hb0.trans (below_drewN (Below.refl _ _) _)⟩
  by_cases cc8 : (30 : Int) < tl
  · clear hN
    go_enter Try.func40, Try.ntmps40
    go_wp2_with fail
    rw [← hw0.out]
    go_quiet (fail)
    go_wp2_with fail
    go_ret
    exact ⟨rfl, hb0.trans (below_drewN (Below.refl _ _) _)⟩
  exact absurd ⟨⟨by omega, by omega⟩, ⟨by omega, by omega⟩, ⟨by omega, by omega⟩, by omega, by omega, by omega⟩ hN

set_option linter.unusedVariables false
set_option maxRecDepth 100000

/-- The number ahead of place k. -/
def pvI (l : List Int) : Nat → Int
  | 0 => 0
  | j + 1 => l.getD j 0
/-- The name ahead of place k. -/
def pvN (l : List Lk) : Nat → ByteArray
  | 0 => ByteArray.empty
  | j + 1 => (l.getD j (ByteArray.empty, 0)).1
abbrev fid (x : Fl) : Int := x.1
theorem pvI_succ (es : List Fl) (k : Nat) (hk : k < es.length) : pvI (es.map fid) (k + 1) = es[k].1 := by
  simp [pvI, List.getD, hk]
theorem pvN_succ (ks : List Lk) (k : Nat) (hk : k < ks.length) : pvN ks (k + 1) = ks[k].1 := by
  simp [pvN, List.getD, hk]
def goodF (n : Int) (es : List Fl) (k : Nat) (hk : k < es.length) : Prop := 1 ≤ es[k].1 ∧ es[k].1 < n ∧ pvI (es.map fid) k < es[k].1 ∧ 0 ≤ es[k].2.2 ∧ es[k].2.2 ≤ es[k].2.1.2.2.length
theorem fB_bad {n : Int} {es : List Fl} {k : Nat} (hk : k < es.length) (h : ¬ goodF n es k hk) : fB n (pvI (es.map fid) k) ((es.drop k).map fc) = false := by
  rw [List.drop_eq_getElem_cons hk, List.map_cons, fB]
  exact Bool.and_eq_false_iff.2 (.inl (decide_eq_false h))
theorem fB_ok {n : Int} {es : List Fl} {k : Nat} (hk : k < es.length) (h : goodF n es k hk) : fB n (pvI (es.map fid) k) ((es.drop k).map fc) = fB n (pvI (es.map fid) (k + 1)) ((es.drop (k + 1)).map fc) := by
  obtain ⟨h1, h2, h3, h4, h5⟩ := h
  rw [List.drop_eq_getElem_cons hk, List.map_cons, fB, pvI_succ es k hk]
  simp [h1, h2, h3, h4, h5]
theorem kB_bad {ks : List Lk} {k : Nat} (hk : k < ks.length) (h : (nmB ks[k].1 && ltN (pvN ks k) ks[k].1) = false) : kB (pvN ks k) (ks.drop k) = false := by
  rw [List.drop_eq_getElem_cons hk, kB, h]
  rfl
theorem kB_ok {ks : List Lk} {k : Nat} (hk : k < ks.length) (h : (nmB ks[k].1 && ltN (pvN ks k) ks[k].1) = true) : kB (pvN ks k) (ks.drop k) = kB (pvN ks (k + 1)) (ks.drop (k + 1)) := by
  rw [List.drop_eq_getElem_cons hk, kB, h, pvN_succ ks k hk]
  rfl
theorem lt_empty {s : ByteArray} (h : nmB s = true) : ltN ByteArray.empty s = true := by
  unfold nmB plainR at h
  simp only [Bool.and_eq_true, decide_eq_true_eq] at h
  have h1 : s.toList = s.data.toList := by simp [ByteArray.toList_eq]
  have h0 : ByteArray.empty.toList = [] := by simp [ByteArray.toList_eq]
  unfold ltN
  rw [h0, h1]
  cases hs : s.data.toList with
  | nil => rw [hs] at h; simp at h
  | cons a l => rfl
/-- The Ids from place k on: none stands ahead of it, each is a file's. -/
def idT (ids fids : List Int) : Nat → Nat → Bool
  | _, 0 => true
  | k, m + 1 => !decide (ids.getD k 0 ∈ ids.take k) && decide (ids.getD k 0 ∈ fids) && idT ids fids (k + 1) m
theorem idT_eq (ids fids : List Int) : ∀ m k, k + m = ids.length → (ids.take k).Nodup → idT ids fids k m = (decide ids.Nodup && (ids.drop k).all fun n => decide (n ∈ fids)) := by
  intro m
  induction m with
  | zero =>
    intro k hk hn
    rw [List.take_of_length_le (by omega)] at hn
    rw [List.drop_of_length_le (by omega), decide_eq_true hn]
    rfl
  | succ m ih =>
    intro k hk hn
    have hlt : k < ids.length := by omega
    have hg : ids.getD k 0 = ids[k] := by simp [List.getD, hlt]
    rw [idT, hg, List.drop_eq_getElem_cons hlt, List.all_cons]
    by_cases h1 : ids[k] ∈ ids.take k
    · have : ¬ ids.Nodup := by
        intro h
        have h2 : (ids.take (k + 1)).Nodup := h.sublist (List.take_sublist _ _)
        rw [take_succ_get (List.getElem?_eq_getElem hlt), List.nodup_append] at h2
        exact h2.2.2 _ h1 _ (List.mem_singleton.2 rfl) rfl
      rw [decide_eq_true h1, decide_eq_false this]
      rfl
    · have h2 : (ids.take (k + 1)).Nodup := by
        rw [take_succ_get (List.getElem?_eq_getElem hlt), List.nodup_append]
        refine ⟨hn, by simp, fun a ha b hb => ?_⟩
        rw [List.mem_singleton.1 hb]
        rintro rfl
        exact h1 ha
      rw [ih (k + 1) (by omega) h2, decide_eq_false h1]
      cases decide (ids[k] ∈ fids) <;> cases decide ids.Nodup <;> simp
theorem idB_len {ids fids : List Int} (h : ¬ ids.length = fids.length) : idB ids fids = false := by rw [idB, decide_eq_false h]; rfl
theorem idB_T {ids fids : List Int} (h : ids.length = fids.length) : idB ids fids = idT ids fids 0 ids.length := by
  rw [idB, decide_eq_true h, idT_eq ids fids _ 0 (by omega) (by simp)]
  rfl
theorem runS_drop {ts : List Tn} {k : Nat} (d : List Lk) (hk : k < ts.length) : runS d (ts.drop k) = (okS d ts[k] && runS (turnS d ts[k]) (ts.drop (k + 1))) := by
  rw [List.drop_eq_getElem_cons hk, runS]
theorem hasIntN_spec (A : Option Addr) (c n : Nat) (ns : List Int) (x : Int) (w : World) (hn : n = ns.length) (ha : Cs w A (ns.map I)) (hl : ns.length ≤ 1099511627776) :
    Calls Try.prog 60 #[.slice A n c, .int .i64 x] w fun e w' => e = .returned (.bool (decide (x ∈ ns))) ∧ w = w' := by
  subst hn
  exact hasInt_spec A c ns x w ha hl
theorem idT_no {ids fids : List Int} {k m : Nat} (hk : k + (m + 1) = ids.length) (h : (!decide (ids.getD k 0 ∈ ids.take k) && decide (ids.getD k 0 ∈ fids)) = false) : idT ids fids k (m + 1) = false := by
  rw [idT, h]; rfl
theorem idT_yes {ids fids : List Int} {k m : Nat} (h : (!decide (ids.getD k 0 ∈ ids.take k) && decide (ids.getD k 0 ∈ fids)) = true) : idT ids fids k (m + 1) = idT ids fids (k + 1) m := by
  rw [idT, h]; rfl
set_option maxHeartbeats 8000000 in
theorem diskOk_spec (r f n : Int) (FA : Option Addr) (es : List Fl) (c1 : Nat) (KA : Option Addr) (ks : List Lk) (c2 : Nat) (TA : Option Addr) (ts : List Tn) (c3 : Nat) (w : World) (hF : Fs w FA es) (hl : es.length ≤ 1048576) (ht : ftot es ≤ 1048576)
    (hK : Ks w KA ks) (hkl : ks.length ≤ 1048576) (hkm : ∀ x, x ∈ ks → x.1.data.toList.length ≤ 549755813888) (hT : Ts w TA ts) (htl : ts.length ≤ 1048576) (htm : ∀ x, x ∈ ts → x.2.1.data.toList.length ≤ 549755813888 ∧ x.2.2.1.data.toList.length ≤ 549755813888) (hbd : ∀ e, e ∈ es → bd e.1 ∧ bd e.2.2) :
    Calls Try.prog 40 #[dkV r f n FA es.length c1 KA ks.length c2 TA ts.length c3] w fun e w' => e = .returned (.bool (dkB r f n (es.map fc) (ftot es) ks ts)) ∧ Below w.heap.size w w' := by
  by_cases hN : (0 ≤ r ∧ r ≤ 400000) ∧ (-1 ≤ f ∧ f ≤ 1000) ∧ (1 ≤ n ∧ n ≤ 1000000) ∧ (es.length : Int) ≤ 10 ∧ (ks.length : Int) ≤ 10 ∧ (ts.length : Int) ≤ 30
  case neg =>
    refine (sd_num r f n FA es c1 KA ks.length c2 TA ts.length c3 w hF hl ht hkl htl hN).mono ?_
    rintro e w1 ⟨rfl, hb⟩
    refine ⟨ret_bool ?_, hb⟩
    have : numB r f n (es.map fc).length ks.length ts.length (ftot es) = false := decide_eq_false fun h => hN ⟨h.1, h.2.1, h.2.2.1, by have := h.2.2.2.1; rw [List.length_map] at this; omega, by have := h.2.2.2.2.1; omega, by have := h.2.2.2.2.2.1; omega⟩
    rw [dkB, this]
    rfl
  obtain ⟨⟨m0, m1⟩, ⟨m2, m3⟩, ⟨m4, m5⟩, m6, m7, m8⟩ := hN
  have HD : Hid (dkB r f n (es.map fc) (ftot es) ks ts = (decide ((ftot es : Int) ≤ r) && fB n 0 (es.map fc) && kB ByteArray.empty ks && idB (idsOf ks ts) (es.map fid) && runS ks ts)) := by
    show _ = _
    have hn : numB r f n (es.map fc).length ks.length ts.length (ftot es) = decide ((ftot es : Int) ≤ r) := by
      rw [numB, decide_eq_decide, List.length_map]
      exact ⟨fun h => h.2.2.2.2.2.2, fun h => ⟨⟨m0, m1⟩, ⟨m2, m3⟩, ⟨m4, m5⟩, by omega, by omega, by omega, h⟩⟩
    have hm : (es.map fc).map (fun x => x.1) = es.map fid := by rw [List.map_map]; rfl
    rw [dkB, hn, hm]
  have hb0 : Below w.heap.size w (w.alloc (.cells (dkC r f n FA es.length c1 KA ks.length c2 TA ts.length c3) 27)) := by (repeat (first | exact Below.refl _ _ | (refine Below.alloc ?_ (by first | omega | (simp; done) | (simp; omega)) _) | (refine Below.drew ?_) | (refine below_drewN ?_ _) | (refine below_at1 ?_ (by first | omega | (simp; done) | (simp; omega))) | (refine Below.setCell ?_ (by first | omega | (simp; done) | (simp; omega)) _) | (refine Below.trans ?_ (Below.mono (by assumption) (by first | omega | (simp; done) | (simp; omega))))))
  obtain ⟨w0, hw0⟩ : ∃ w0, Hid (w0 = w.alloc (.cells (dkC r f n FA es.length c1 KA ks.length c2 TA ts.length c3) 27)) := ⟨_, Lib.hid rfl⟩
  have B0 : w0.heap[w.heap.size]? = some (.cells (dkC r f n FA es.length c1 KA ks.length c2 TA ts.length c3) 27 (0, 0)) := by rw [hw0.out]; exact heap_alloc_new _ _
  have hq : ∀ i, w0.cell? ⟨w.heap.size, i, none⟩ = (dkC r f n FA es.length c1 KA ks.length c2 TA ts.length c3)[i]? := fun i => cell_of_row _ _ i _ _ (0, 0) B0
  have q0 := hq 0
  have q1 := hq 1
  have q2 := hq 2
  have q3 := hq 3
  have q4 := hq 4
  have q5 := hq 5
  have z0 : w.heap.size < w0.heap.size := by rw [hw0.out]; simp
  rw [← hw0.out] at hb0
  clear hq
  have ha := hF
  have HM := Lib.hid (show (0 ≤ r ∧ r ≤ 400000) ∧ (-1 ≤ f ∧ f ≤ 1000) ∧ (1 ≤ n ∧ n ≤ 1000000) ∧ (es.length : Int) ≤ 10 ∧ (ks.length : Int) ≤ 10 ∧ (ts.length : Int) ≤ 30 from ⟨⟨m0, m1⟩, ⟨m2, m3⟩, ⟨m4, m5⟩, m6, m7, m8⟩)
  clear m0 m1 m2 m3 m4 m5 m6 m7 m8
  go_enter Try.func40, Try.ntmps40
  go_wp2_with fail
  rw [← hw0.out]
  have qq : ∀ p : Bl w0.heap.size w0, p.val.cell? ⟨w.heap.size, 0, none⟩ = some (.int .i64 r) ∧ p.val.cell? ⟨w.heap.size, 1, none⟩ = some (.int .i64 f) ∧ p.val.cell? ⟨w.heap.size, 2, none⟩ = some (.int .i64 n) ∧ p.val.cell? ⟨w.heap.size, 3, none⟩ = some (.slice FA es.length c1) ∧ p.val.cell? ⟨w.heap.size, 4, none⟩ = some (.slice KA ks.length c2) ∧ p.val.cell? ⟨w.heap.size, 5, none⟩ = some (.slice TA ts.length c3) := fun p => ⟨p.cell q0, p.cell q1, p.cell q2, p.cell q3, p.cell q4, p.cell q5⟩
  have qq0 := fun p => (qq p).1
  have qq1 := fun p => (qq p).2.1
  have qq2 := fun p => (qq p).2.2.1
  have qq3 := fun p => (qq p).2.2.2.1
  have qq4 := fun p => (qq p).2.2.2.2.1
  have qq5 := fun p => (qq p).2.2.2.2.2
  clear qq
  obtain ⟨⟨m0, m1⟩, ⟨m2, m3⟩, ⟨m4, m5⟩, m6, m7, m8⟩ := HM.out
  have n0 : ¬ r < 0 := by omega
  have n1 : ¬ 400000 < r := by omega
  have n2 : ¬ f < -1 := by omega
  have n3 : ¬ 1000 < f := by omega
  have n4 : ¬ n < 1 := by omega
  have n5 : ¬ 1000000 < n := by omega
  have n6 : ¬ (10 : Int) < es.length := by omega
  have n7 : ¬ (10 : Int) < ks.length := by omega
  have n8 : ¬ (30 : Int) < ts.length := by omega
  clear m0 m1 m2 m3 m4 m5 m6 m7 m8
  refine wp_region_qb (by kernel_rfl) (by kernel_rfl) ?_
  repeat (quiet_step ((go_at_call 47; rename_i p; exact Calls.qb (used_spec r f n FA es c1 KA ks.length c2 TA ts.length c3 _ ((ha.below hb0).below p.ok) (by omega) (by omega)))))
  refine qb_end fun w3 hbw3 => ?_
  clear qq0 qq1 qq2 qq3 qq4 qq5
  have t3 : Below w.heap.size w w3 := hb0.trans (hbw3.mono hb0.size)
  have B3 : w3.heap[w.heap.size]? = some (.cells (dkC r f n FA es.length c1 KA ks.length c2 TA ts.length c3) 27 (0, 0)) := (hbw3.block _ z0).trans B0
  clear q0 q1 q2 q3 q4 q5 B0 hbw3 hb0 hw0
  by_cases c9 : r < ftot es
  · go_wp2_with fail
    go_ret
    exact ⟨ret_bool (by rw [HD.out, decide_eq_false (by omega)]; rfl), t3⟩
  have HD2 : Hid (dkB r f n (es.map fc) (ftot es) ks ts = (fB n 0 (es.map fc) && kB ByteArray.empty ks && idB (idsOf ks ts) (es.map fid) && runS ks ts)) := by rw [HD.out, decide_eq_true (show (ftot es : Int) ≤ r by omega), Bool.true_and]; exact Lib.hid rfl
  clear HD
  have z3 := t3.size
  have zB3 : w.heap.size < w3.heap.size := (Array.getElem?_eq_some_iff.1 B3).1
  have q3 : w3.cell? ⟨w.heap.size, 3, none⟩ = some (.slice FA es.length c1) := cell_of_row w3 w.heap.size 3 _ _ (0, 0) B3
  go_wp2_with fail
  clear n0 n1 n2 n3
  go_loopw [3, 71] (fun ov i wr => ∃ (k : Nat) (A1 : Option Addr) (c1' : Nat) (us : List Int), k ≤ es.length ∧ i = .int .i64 k ∧ ov = .slice A1 us.length c1' ∧ Oi wr (w.heap.size + 1) A1 c1' us ∧ us.length ≤ k ∧ Hid (us = (es.take k).map fid) ∧ Hid (fB n 0 (es.map fc) = fB n (pvI (es.map fid) k) ((es.drop k).map fc)) ∧ Below w.heap.size w wr ∧ wr.heap[w.heap.size]? = some (.cells (dkC r f n FA es.length c1 KA ks.length c2 TA ts.length c3) 27 (0, 0))) (fun _ i _ => es.length - (intOf i).toNat)
  case atStart => exact ⟨0, some ⟨w3.heap.size, 0, none⟩, 0, [], Nat.zero_le _, rfl, rfl, Oe.mono (Oe.emptyAt rfl) (by omega), Nat.zero_le _, Lib.hid rfl, Lib.hid rfl, t3.alloc (by first | omega | (simp; done) | (simp; omega)) _, heap_alloc_of _ B3⟩
  case round =>
    clear q3 B3 t3 z3 zB3
    obtain ⟨k, A1, c1', us, hk, rfl, rfl, ho, hul, hu, hg, hb, hB⟩ := hrel
    have zb := hb.size
    have zB : w.heap.size < wr.heap.size := (Array.getElem?_eq_some_iff.1 hB).1
    by_cases hlt : k < es.length
    · obtain ⟨b, o, rfl, hbs, x0, x1, x2, hy⟩ := (hF.below hb).get hlt
      have hlt' : (k : Int) < es.length := by omega
      have q2 : wr.cell? ⟨w.heap.size, 2, none⟩ = some (.int .i64 n) := cell_of_row wr w.heap.size 2 _ _ (0, 0) hB
      have q3 : wr.cell? ⟨w.heap.size, 3, none⟩ = some (.slice (some ⟨b, o, none⟩) es.length c1) := cell_of_row wr w.heap.size 3 _ _ (0, 0) hB
      have hgb := @fB_bad n es k hlt
      have hgo := @fB_ok n es k hlt
      obtain ⟨bd0, bd2⟩ := hbd _ (List.getElem_mem hlt)
      have HG : Hid ((¬ goodF n es k hlt) → dkB r f n (es.map fc) (ftot es) ks ts = false) := Lib.hid fun h => by rw [HD2.out, hg.out, hgb h]; rfl
      have HO : Hid (goodF n es k hlt → fB n 0 (es.map fc) = fB n (pvI (es.map fid) (k + 1)) ((es.drop (k + 1)).map fc)) := Lib.hid fun h => by rw [hg.out, hgo h]
      clear hgb hgo hg
      by_cases d1 : es[k].1 < 1
      · have HZ : Hid (dkB r f n (es.map fc) (ftot es) ks ts = false) := Lib.hid (HG.out fun h => by have h1 := h.1; omega)
        clear HG HO hu
        go_wp2_with fail
        first | (have e0 : es[k].1 < 1 := by omega) | (have e0 : ¬ es[k].1 < 1 := by omega) | skip
        first | (have e1 : n ≤ es[k].1 := by omega) | (have e1 : ¬ n ≤ es[k].1 := by omega) | skip
        first | (have e2 : (0 : Int) < k := by omega) | (have e2 : ¬ (0 : Int) < k := by omega) | skip
        first | (have e3 : 0 < k := by omega) | (have e3 : ¬ 0 < k := by omega) | skip
        first | (have e4 : es[k].1 ≤ es[j].1 := by omega) | (have e4 : ¬ es[k].1 ≤ es[j].1 := by omega) | skip
        first | (have e5 : es[k].2.2 < 0 := by omega) | (have e5 : ¬ es[k].2.2 < 0 := by omega) | skip
        first | (have e6 : (es[k].2.1.2.2.length : Int) < es[k].2.2 := by omega) | (have e6 : ¬ (es[k].2.1.2.2.length : Int) < es[k].2.2 := by omega) | skip
        go_quiet (fail)
        go_wp2_with fail
        go_ret
        exact ⟨ret_bool HZ.out.symm, below_drewN (hb.alloc (by first | omega | (simp; done) | (simp; omega)) _) _⟩
      by_cases d2 : ¬ es[k].1 < n
      · have HZ : Hid (dkB r f n (es.map fc) (ftot es) ks ts = false) := Lib.hid (HG.out fun h => by have h1 := h.2.1; omega)
        clear HG HO hu
        go_wp2_with fail
        first | (have e0 : es[k].1 < 1 := by omega) | (have e0 : ¬ es[k].1 < 1 := by omega) | skip
        first | (have e1 : n ≤ es[k].1 := by omega) | (have e1 : ¬ n ≤ es[k].1 := by omega) | skip
        first | (have e2 : (0 : Int) < k := by omega) | (have e2 : ¬ (0 : Int) < k := by omega) | skip
        first | (have e3 : 0 < k := by omega) | (have e3 : ¬ 0 < k := by omega) | skip
        first | (have e4 : es[k].1 ≤ es[j].1 := by omega) | (have e4 : ¬ es[k].1 ≤ es[j].1 := by omega) | skip
        first | (have e5 : es[k].2.2 < 0 := by omega) | (have e5 : ¬ es[k].2.2 < 0 := by omega) | skip
        first | (have e6 : (es[k].2.1.2.2.length : Int) < es[k].2.2 := by omega) | (have e6 : ¬ (es[k].2.1.2.2.length : Int) < es[k].2.2 := by omega) | skip
        go_quiet (fail)
        go_wp2_with fail
        go_ret
        exact ⟨ret_bool HZ.out.symm, below_drewN (hb.alloc (by first | omega | (simp; done) | (simp; omega)) _) _⟩
      rw [Decidable.not_not] at d2
      rcases Nat.eq_zero_or_pos k with hk0 | hk0
      · have HP : Hid (pvI (es.map fid) k = 0) := by rw [hk0]; exact Lib.hid rfl
        have hkp : ¬ (0 : Int) < k := by omega
        clear hk0
        by_cases d4 : es[k].2.2 < 0
        · have HZ : Hid (dkB r f n (es.map fc) (ftot es) ks ts = false) := Lib.hid (HG.out fun h => by have h1 := h.2.2.2.1; omega)
          clear HG HO hu
          go_wp2_with fail
          first | (have e0 : es[k].1 < 1 := by omega) | (have e0 : ¬ es[k].1 < 1 := by omega) | skip
          first | (have e1 : n ≤ es[k].1 := by omega) | (have e1 : ¬ n ≤ es[k].1 := by omega) | skip
          first | (have e2 : (0 : Int) < k := by omega) | (have e2 : ¬ (0 : Int) < k := by omega) | skip
          first | (have e3 : 0 < k := by omega) | (have e3 : ¬ 0 < k := by omega) | skip
          first | (have e4 : es[k].1 ≤ es[j].1 := by omega) | (have e4 : ¬ es[k].1 ≤ es[j].1 := by omega) | skip
          first | (have e5 : es[k].2.2 < 0 := by omega) | (have e5 : ¬ es[k].2.2 < 0 := by omega) | skip
          first | (have e6 : (es[k].2.1.2.2.length : Int) < es[k].2.2 := by omega) | (have e6 : ¬ (es[k].2.1.2.2.length : Int) < es[k].2.2 := by omega) | skip
          go_quiet (fail)
          go_wp2_with fail
          go_ret
          exact ⟨ret_bool HZ.out.symm, below_drewN (hb.alloc (by first | omega | (simp; done) | (simp; omega)) _) _⟩
        by_cases d5 : (es[k].2.1.2.2.length : Int) < es[k].2.2
        · have HZ : Hid (dkB r f n (es.map fc) (ftot es) ks ts = false) := Lib.hid (HG.out fun h => by have h1 := h.2.2.2.2; omega)
          clear HG HO hu
          go_wp2_with fail
          first | (have e0 : es[k].1 < 1 := by omega) | (have e0 : ¬ es[k].1 < 1 := by omega) | skip
          first | (have e1 : n ≤ es[k].1 := by omega) | (have e1 : ¬ n ≤ es[k].1 := by omega) | skip
          first | (have e2 : (0 : Int) < k := by omega) | (have e2 : ¬ (0 : Int) < k := by omega) | skip
          first | (have e3 : 0 < k := by omega) | (have e3 : ¬ 0 < k := by omega) | skip
          first | (have e4 : es[k].1 ≤ es[j].1 := by omega) | (have e4 : ¬ es[k].1 ≤ es[j].1 := by omega) | skip
          first | (have e5 : es[k].2.2 < 0 := by omega) | (have e5 : ¬ es[k].2.2 < 0 := by omega) | skip
          first | (have e6 : (es[k].2.1.2.2.length : Int) < es[k].2.2 := by omega) | (have e6 : ¬ (es[k].2.1.2.2.length : Int) < es[k].2.2 := by omega) | skip
          go_quiet (fail)
          go_wp2_with fail
          go_ret
          exact ⟨ret_bool HZ.out.symm, below_drewN (hb.alloc (by first | omega | (simp; done) | (simp; omega)) _) _⟩
        have HZ : Hid (fB n 0 (es.map fc) = fB n (pvI (es.map fid) (k + 1)) ((es.drop (k + 1)).map fc)) := Lib.hid (HO.out ⟨by omega, by omega, by rw [HP.out]; omega, by omega, by omega⟩)
        have HU : Hid (us ++ [es[k].1] = (es.take (k + 1)).map fid) := by show _ = _; rw [take_succ_get (List.getElem?_eq_getElem hlt), List.map_append, ← hu.out]; rfl
        clear HG HO hu
        go_wp2_with fail
        first | (have e0 : es[k].1 < 1 := by omega) | (have e0 : ¬ es[k].1 < 1 := by omega) | skip
        first | (have e1 : n ≤ es[k].1 := by omega) | (have e1 : ¬ n ≤ es[k].1 := by omega) | skip
        first | (have e2 : (0 : Int) < k := by omega) | (have e2 : ¬ (0 : Int) < k := by omega) | skip
        first | (have e3 : 0 < k := by omega) | (have e3 : ¬ 0 < k := by omega) | skip
        first | (have e4 : es[k].1 ≤ es[j].1 := by omega) | (have e4 : ¬ es[k].1 ≤ es[j].1 := by omega) | skip
        first | (have e5 : es[k].2.2 < 0 := by omega) | (have e5 : ¬ es[k].2.2 < 0 := by omega) | skip
        first | (have e6 : (es[k].2.1.2.2.length : Int) < es[k].2.2 := by omega) | (have e6 : ¬ (es[k].2.1.2.2.length : Int) < es[k].2.2 := by omega) | skip
        go_quiet (fail)
        go_wp2_with (at_builtin; refine wp_app1I rfl _ _ rfl (w.heap.size + 1) A1 c1' us _ _ es[k].1 (Oe.drewN (ho.alloc _) _) rfl rfl _ rfl (by simp) (by omega) (by first | omega | (simp; done) | (simp; omega)) ?_; intro A2 c2' w2 vs hvs ho2 hb2 hk2)
        have hA := ho.inB
        have hs2 := hb2.size
        go_roundw
        case rel =>
          refine ⟨k + 1, A2, c2', vs, by omega, by go_num, rfl, ho2, by rw [hvs.out]; simp; omega, Lib.hid (hvs.out.trans HU.out), HZ, Below.trans (below_drewN (hb.alloc (by first | omega | (simp; done) | (simp; omega)) _) _) (hb2.mono (by omega)), ?_⟩
          rw [hk2 w.heap.size (by first | omega | (simp; done) | (simp; omega)) (fun ad h => by have := (hA ad h).1; omega)]
          exact heap_alloc_of _ hB
        case measure => simp [intOf]; omega
      · obtain ⟨j, hj⟩ : ∃ j, Hid (k = j + 1) := ⟨k - 1, by show k = _; omega⟩
        have hjl : j < es.length := by have := hj.out; omega
        obtain ⟨b', o', hA', _, y0, _, _, _⟩ := (hF.below hb).get hjl
        injection hA' with hA'
        injection hA' with e1 e2 e3
        subst e1 e2
        have hkp : (0 : Int) < k := by omega
        have hw1 : IntKind.i64.wrap ((k : Int) - 1) = (j : Int) := by have := hj.out; rw [IntKind.wrap_i64]; omega
        have hj0 : (0 : Int) ≤ j := by omega
        have hj1 : (j : Int) < es.length := by omega
        have HP : Hid (pvI (es.map fid) k = es[j].1) := by have := hj.out; subst this; exact pvI_succ es j hjl
        by_cases d3 : ¬ es[j].1 < es[k].1
        · have HZ : Hid (dkB r f n (es.map fc) (ftot es) ks ts = false) := Lib.hid (HG.out fun h => by have h1 := h.2.2.1; rw [HP.out] at h1; omega)
          clear HG HO hu
          go_wp2_with fail
          first | (have e0 : es[k].1 < 1 := by omega) | (have e0 : ¬ es[k].1 < 1 := by omega) | skip
          first | (have e1 : n ≤ es[k].1 := by omega) | (have e1 : ¬ n ≤ es[k].1 := by omega) | skip
          first | (have e2 : (0 : Int) < k := by omega) | (have e2 : ¬ (0 : Int) < k := by omega) | skip
          first | (have e3 : 0 < k := by omega) | (have e3 : ¬ 0 < k := by omega) | skip
          first | (have e4 : es[k].1 ≤ es[j].1 := by omega) | (have e4 : ¬ es[k].1 ≤ es[j].1 := by omega) | skip
          first | (have e5 : es[k].2.2 < 0 := by omega) | (have e5 : ¬ es[k].2.2 < 0 := by omega) | skip
          first | (have e6 : (es[k].2.1.2.2.length : Int) < es[k].2.2 := by omega) | (have e6 : ¬ (es[k].2.1.2.2.length : Int) < es[k].2.2 := by omega) | skip
          go_quiet (fail)
          go_wp2_with fail
          go_ret
          exact ⟨ret_bool HZ.out.symm, below_drewN (hb.alloc (by first | omega | (simp; done) | (simp; omega)) _) _⟩
        rw [Decidable.not_not] at d3
        by_cases d4 : es[k].2.2 < 0
        · have HZ : Hid (dkB r f n (es.map fc) (ftot es) ks ts = false) := Lib.hid (HG.out fun h => by have h1 := h.2.2.2.1; omega)
          clear HG HO hu
          go_wp2_with fail
          first | (have e0 : es[k].1 < 1 := by omega) | (have e0 : ¬ es[k].1 < 1 := by omega) | skip
          first | (have e1 : n ≤ es[k].1 := by omega) | (have e1 : ¬ n ≤ es[k].1 := by omega) | skip
          first | (have e2 : (0 : Int) < k := by omega) | (have e2 : ¬ (0 : Int) < k := by omega) | skip
          first | (have e3 : 0 < k := by omega) | (have e3 : ¬ 0 < k := by omega) | skip
          first | (have e4 : es[k].1 ≤ es[j].1 := by omega) | (have e4 : ¬ es[k].1 ≤ es[j].1 := by omega) | skip
          first | (have e5 : es[k].2.2 < 0 := by omega) | (have e5 : ¬ es[k].2.2 < 0 := by omega) | skip
          first | (have e6 : (es[k].2.1.2.2.length : Int) < es[k].2.2 := by omega) | (have e6 : ¬ (es[k].2.1.2.2.length : Int) < es[k].2.2 := by omega) | skip
          go_quiet (fail)
          go_wp2_with fail
          go_ret
          exact ⟨ret_bool HZ.out.symm, below_drewN (hb.alloc (by first | omega | (simp; done) | (simp; omega)) _) _⟩
        by_cases d5 : (es[k].2.1.2.2.length : Int) < es[k].2.2
        · have HZ : Hid (dkB r f n (es.map fc) (ftot es) ks ts = false) := Lib.hid (HG.out fun h => by have h1 := h.2.2.2.2; omega)
          clear HG HO hu
          go_wp2_with fail
          first | (have e0 : es[k].1 < 1 := by omega) | (have e0 : ¬ es[k].1 < 1 := by omega) | skip
          first | (have e1 : n ≤ es[k].1 := by omega) | (have e1 : ¬ n ≤ es[k].1 := by omega) | skip
          first | (have e2 : (0 : Int) < k := by omega) | (have e2 : ¬ (0 : Int) < k := by omega) | skip
          first | (have e3 : 0 < k := by omega) | (have e3 : ¬ 0 < k := by omega) | skip
          first | (have e4 : es[k].1 ≤ es[j].1 := by omega) | (have e4 : ¬ es[k].1 ≤ es[j].1 := by omega) | skip
          first | (have e5 : es[k].2.2 < 0 := by omega) | (have e5 : ¬ es[k].2.2 < 0 := by omega) | skip
          first | (have e6 : (es[k].2.1.2.2.length : Int) < es[k].2.2 := by omega) | (have e6 : ¬ (es[k].2.1.2.2.length : Int) < es[k].2.2 := by omega) | skip
          go_quiet (fail)
          go_wp2_with fail
          go_ret
          exact ⟨ret_bool HZ.out.symm, below_drewN (hb.alloc (by first | omega | (simp; done) | (simp; omega)) _) _⟩
        have HZ : Hid (fB n 0 (es.map fc) = fB n (pvI (es.map fid) (k + 1)) ((es.drop (k + 1)).map fc)) := Lib.hid (HO.out ⟨by omega, by omega, by rw [HP.out]; omega, by omega, by omega⟩)
        have HU : Hid (us ++ [es[k].1] = (es.take (k + 1)).map fid) := by show _ = _; rw [take_succ_get (List.getElem?_eq_getElem hlt), List.map_append, ← hu.out]; rfl
        clear HG HO hu
        go_wp2_with fail
        first | (have e0 : es[k].1 < 1 := by omega) | (have e0 : ¬ es[k].1 < 1 := by omega) | skip
        first | (have e1 : n ≤ es[k].1 := by omega) | (have e1 : ¬ n ≤ es[k].1 := by omega) | skip
        first | (have e2 : (0 : Int) < k := by omega) | (have e2 : ¬ (0 : Int) < k := by omega) | skip
        first | (have e3 : 0 < k := by omega) | (have e3 : ¬ 0 < k := by omega) | skip
        first | (have e4 : es[k].1 ≤ es[j].1 := by omega) | (have e4 : ¬ es[k].1 ≤ es[j].1 := by omega) | skip
        first | (have e5 : es[k].2.2 < 0 := by omega) | (have e5 : ¬ es[k].2.2 < 0 := by omega) | skip
        first | (have e6 : (es[k].2.1.2.2.length : Int) < es[k].2.2 := by omega) | (have e6 : ¬ (es[k].2.1.2.2.length : Int) < es[k].2.2 := by omega) | skip
        go_quiet (fail)
        go_wp2_with (at_builtin; refine wp_app1I rfl _ _ rfl (w.heap.size + 1) A1 c1' us _ _ es[k].1 (Oe.drewN (ho.alloc _) _) rfl rfl _ rfl (by simp) (by omega) (by first | omega | (simp; done) | (simp; omega)) ?_; intro A2 c2' w2 vs hvs ho2 hb2 hk2)
        have hA := ho.inB
        have hs2 := hb2.size
        go_roundw
        case rel =>
          refine ⟨k + 1, A2, c2', vs, by omega, by go_num, rfl, ho2, by rw [hvs.out]; simp; omega, Lib.hid (hvs.out.trans HU.out), HZ, Below.trans (below_drewN (hb.alloc (by first | omega | (simp; done) | (simp; omega)) _) _) (hb2.mono (by omega)), ?_⟩
          rw [hk2 w.heap.size (by first | omega | (simp; done) | (simp; omega)) (fun ad h => by have := (hA ad h).1; omega)]
          exact heap_alloc_of _ hB
        case measure => simp [intOf]; omega
    · have hlt' : ¬ ((k : Int) < es.length) := by omega
      have HU : Hid (us = es.map fid) := hu.out.trans (by rw [List.take_of_length_le (by omega)])
      have HD3 : Hid (dkB r f n (es.map fc) (ftot es) ks ts = (kB ByteArray.empty ks && idB (idsOf ks ts) (es.map fid) && runS ks ts)) := by
        rw [HD2.out, hg.out, List.drop_of_length_le (by omega)]
        exact Lib.hid rfl
      clear hu hg HD2 c9
      have q4 : wr.cell? ⟨w.heap.size, 4, none⟩ = some (.slice KA ks.length c2) := cell_of_row wr w.heap.size 4 _ _ (0, 0) hB
      obtain ⟨wk, hwk⟩ : ∃ wk, wk = wr := ⟨wr, rfl⟩
      subst hwk
      go_wp2_with fail
      go_loopw [124] (fun i wr => ∃ k : Nat, k ≤ ks.length ∧ i = .int .i64 k ∧ Hid (kB ByteArray.empty ks = kB (pvN ks k) (ks.drop k)) ∧ Below wk.heap.size wk wr) (fun i _ => ks.length - (intOf i).toNat)
      case atStart => exact ⟨0, Nat.zero_le _, rfl, Lib.hid rfl, Below.refl _ _⟩
      case round =>
        clear q4 hlt hlt' hk
        obtain ⟨k2, hk2, rfl, hg2, hb2⟩ := hrel
        have zb2 := hb2.size
        have hB2 := (hb2.block _ zB).trans hB
        have t2 := hb.trans (hb2.mono zb)
        have zBr : w.heap.size < wr.heap.size := (Array.getElem?_eq_some_iff.1 hB2).1
        by_cases hlt : k2 < ks.length
        · obtain ⟨b, o, rfl, hbs, x0, x1⟩ := Ks.get (hK.below t2) hlt
          have hlt' : (k2 : Int) < ks.length := by omega
          have q4 : wr.cell? ⟨w.heap.size, 4, none⟩ = some (.slice (some ⟨b, o, none⟩) ks.length c2) := cell_of_row wr w.heap.size 4 _ _ (0, 0) hB2
          have hgb := @kB_bad ks k2 hlt
          have hgo := @kB_ok ks k2 hlt
          have hsn := hkm _ (List.getElem_mem hlt)
          have HG : Hid ((nmB ks[k2].1 && ltN (pvN ks k2) ks[k2].1) = false → dkB r f n (es.map fc) (ftot es) ks ts = false) := Lib.hid fun h => by rw [HD3.out, hg2.out, hgb h]; rfl
          have HO : Hid ((nmB ks[k2].1 && ltN (pvN ks k2) ks[k2].1) = true → kB ByteArray.empty ks = kB (pvN ks (k2 + 1)) (ks.drop (k2 + 1))) := Lib.hid fun h => by rw [hg2.out, hgo h]
          clear hgb hgo hg2
          cases hnm : nmB ks[k2].1 with
          | false =>
            have HN : Hid (plainR ks[k2].1.data.toList 16 [46] = false) := hnm
            have HZ : Hid (dkB r f n (es.map fc) (ftot es) ks ts = false) := HG.out (by rw [hnm]; rfl)
            clear HG HO hnm
            go_wp2_with fail
            first | (have e0 : (0 : Int) < k2 := by omega) | (have e0 : ¬ (0 : Int) < k2 := by omega) | skip
            first | (have e1 : 0 < k2 := by omega) | (have e1 : ¬ 0 < k2 := by omega) | skip
            go_quiet ((go_at_call 58; refine Calls.quiet_of_same (v := .bool false) ((nameOk_spec _ _ hsn).mono ?_); rintro e w9 ⟨he, hw⟩; exact ⟨he.trans (congrArg Ending.returned (congrArg Value.bool HN.out)), hw.symm⟩))
            go_wp2_with fail
            go_ret
            exact ⟨ret_bool HZ.out.symm, below_drewN (t2.alloc (by first | omega | (simp; done) | (simp; omega)) _) _⟩
          | true =>
            have HN : Hid (plainR ks[k2].1.data.toList 16 [46] = true) := hnm
            rcases Nat.eq_zero_or_pos k2 with hk0 | hk0
            · have HZ : Hid (kB ByteArray.empty ks = kB (pvN ks (k2 + 1)) (ks.drop (k2 + 1))) := HO.out (by rw [hnm, show pvN ks k2 = ByteArray.empty from by rw [hk0]; rfl]; exact lt_empty hnm)
              have hkp : ¬ (0 : Int) < k2 := by omega
              clear HG HO hnm hk0
              go_wp2_with fail
              first | (have e0 : (0 : Int) < k2 := by omega) | (have e0 : ¬ (0 : Int) < k2 := by omega) | skip
              first | (have e1 : 0 < k2 := by omega) | (have e1 : ¬ 0 < k2 := by omega) | skip
              go_quiet ((go_at_call 58; refine Calls.quiet_of_same (v := .bool true) ((nameOk_spec _ _ hsn).mono ?_); rintro e w9 ⟨he, hw⟩; exact ⟨he.trans (congrArg Ending.returned (congrArg Value.bool HN.out)), hw.symm⟩))
              go_wp2_with fail
              go_roundw
              case rel => exact ⟨k2 + 1, by omega, by go_num, HZ, below_drewN (hb2.alloc (by first | omega | (simp; done) | (simp; omega)) _) _⟩
              case measure => simp [intOf]; omega
            · obtain ⟨j, hj⟩ : ∃ j, Hid (k2 = j + 1) := ⟨k2 - 1, by show k2 = _; omega⟩
              have hjl : j < ks.length := by have := hj.out; omega
              obtain ⟨b', o', hA', _, y0, _⟩ := Ks.get (hK.below t2) hjl
              injection hA' with hA'
              injection hA' with e1 e2 e3
              subst e1 e2
              have hw1 : IntKind.i64.wrap ((k2 : Int) - 1) = (j : Int) := by have := hj.out; rw [IntKind.wrap_i64]; omega
              have hj0 : (0 : Int) ≤ j := by omega
              have hj1 : (j : Int) < ks.length := by omega
              have HP : Hid (pvN ks k2 = ks[j].1) := by have := hj.out; subst this; exact pvN_succ ks j hjl
              cases hlt2 : ltN ks[j].1 ks[k2].1 with
              | false =>
                have HZ : Hid (dkB r f n (es.map fc) (ftot es) ks ts = false) := HG.out (by rw [hnm, HP.out, hlt2]; rfl)
                have hl3 : Op.bytesLess ks[j].1.toList ks[k2].1.toList = false := hlt2
                clear HG HO hnm hlt2
                go_wp2_with fail
                first | (have e0 : (0 : Int) < k2 := by omega) | (have e0 : ¬ (0 : Int) < k2 := by omega) | skip
                first | (have e1 : 0 < k2 := by omega) | (have e1 : ¬ 0 < k2 := by omega) | skip
                go_quiet ((go_at_call 58; refine Calls.quiet_of_same (v := .bool true) ((nameOk_spec _ _ hsn).mono ?_); rintro e w9 ⟨he, hw⟩; exact ⟨he.trans (congrArg Ending.returned (congrArg Value.bool HN.out)), hw.symm⟩))
                go_wp2_with fail
                go_ret
                exact ⟨ret_bool HZ.out.symm, below_drewN (t2.alloc (by first | omega | (simp; done) | (simp; omega)) _) _⟩
              | true =>
                have HZ : Hid (kB ByteArray.empty ks = kB (pvN ks (k2 + 1)) (ks.drop (k2 + 1))) := HO.out (by rw [hnm, HP.out, hlt2]; rfl)
                have hl3 : Op.bytesLess ks[j].1.toList ks[k2].1.toList = true := hlt2
                clear HG HO hnm hlt2
                go_wp2_with fail
                first | (have e0 : (0 : Int) < k2 := by omega) | (have e0 : ¬ (0 : Int) < k2 := by omega) | skip
                first | (have e1 : 0 < k2 := by omega) | (have e1 : ¬ 0 < k2 := by omega) | skip
                go_quiet ((go_at_call 58; refine Calls.quiet_of_same (v := .bool true) ((nameOk_spec _ _ hsn).mono ?_); rintro e w9 ⟨he, hw⟩; exact ⟨he.trans (congrArg Ending.returned (congrArg Value.bool HN.out)), hw.symm⟩))
                go_wp2_with fail
                go_roundw
                case rel => exact ⟨k2 + 1, by omega, by go_num, HZ, below_drewN (hb2.alloc (by first | omega | (simp; done) | (simp; omega)) _) _⟩
                case measure => simp [intOf]; omega
        · have hlt' : ¬ ((k2 : Int) < ks.length) := by omega
          have HD4 : Hid (dkB r f n (es.map fc) (ftot es) ks ts = (idB (idsOf ks ts) (es.map fid) && runS ks ts)) := by
            rw [HD3.out, hg2.out, List.drop_of_length_le (by omega)]
            exact Lib.hid rfl
          have ho2 : Oi wr (w.heap.size + 1) A1 c1' us := Oe.below ho hb2 (Nat.le_refl _)
          have HF : Hid (Cs wr A1 (us.map I)) := ints_cs (ho2.sl i1)
          clear hg2 HD3 ho hB hb2 zB
          have zB : w.heap.size < wr.heap.size := (Array.getElem?_eq_some_iff.1 hB2).1
          have q0 : wr.cell? ⟨w.heap.size, 0, none⟩ = some (.int .i64 r) := cell_of_row wr w.heap.size 0 _ _ (0, 0) hB2
          have q1 : wr.cell? ⟨w.heap.size, 1, none⟩ = some (.int .i64 f) := cell_of_row wr w.heap.size 1 _ _ (0, 0) hB2
          have q2 : wr.cell? ⟨w.heap.size, 2, none⟩ = some (.int .i64 n) := cell_of_row wr w.heap.size 2 _ _ (0, 0) hB2
          have q3 : wr.cell? ⟨w.heap.size, 3, none⟩ = some (.slice FA es.length c1) := cell_of_row wr w.heap.size 3 _ _ (0, 0) hB2
          have q4 : wr.cell? ⟨w.heap.size, 4, none⟩ = some (.slice KA ks.length c2) := cell_of_row wr w.heap.size 4 _ _ (0, 0) hB2
          have q5 : wr.cell? ⟨w.heap.size, 5, none⟩ = some (.slice TA ts.length c3) := cell_of_row wr w.heap.size 5 _ _ (0, 0) hB2
          have z7 := t2.size
          have hids := ids_spec r f n FA es.length c1 KA ks c2 TA ts c3 wr (hK.below t2) (hT.below t2) hkl htl
          obtain ⟨ns, hns⟩ : ∃ ns, Hid (ns = idsOf ks ts) := ⟨_, Lib.hid rfl⟩
          rw [← hns.out] at hids
          by_cases hne : ns.length = us.length
          case neg =>
            have HZ : Hid (dkB r f n (es.map fc) (ftot es) ks ts = false) := by
              rw [HD4.out, ← hns.out, idB_len (fun h => hne (by rw [h, HU.out]))]
              exact Lib.hid rfl
            generalize hN : ns.length = N at hne
            have hne' : ¬ (N : Int) = us.length := by omega
            go_wp2_with (go_at_call 59; refine hids.mono ?_; rintro e w5 ⟨A5, c5, rfl, ho5, hb5⟩; rw [hN])
            go_ret
            exact ⟨ret_bool HZ.out.symm, t2.trans (hb5.mono z7)⟩
          case pos =>
            have HD5 : Hid (dkB r f n (es.map fc) (ftot es) ks ts = (idT ns us 0 us.length && runS ks ts)) := by
              rw [HD4.out, ← hns.out, ← HU.out, idB_T hne, hne]
              exact Lib.hid rfl
            clear HD4
            go_wp2_with (go_at_call 59; refine hids.mono ?_; rintro e w5 ⟨A5, c5, rfl, ho5, hb5⟩; rw [hne])
            have t5 := t2.trans (hb5.mono z7)
            have HF5 : Hid (Cs w5 A1 (us.map I)) := HF.out.below hb5
            have HI5 : Hid (Cs w5 A5 (ns.map I)) := ints_cs (ho5.sl i1)
            have hc5 : us.length ≤ c5 := by rw [← hne]; exact ho5.cap
            have hB5 := (hb5.block _ zB).trans hB2
            have HN5 := Lib.hid hne
            clear hids hne ho5 hb5 HF
            have hul6 : us.length ≤ 10 := by rw [HU.out, List.length_map]; have := HM.out; omega
            go_loop [159] (fun i => ∃ k : Nat, k ≤ us.length ∧ i = .int .i64 k ∧ Hid (idT ns us 0 us.length = idT ns us k (us.length - k))) (fun i => us.length - (intOf i).toNat)
            case atStart => exact ⟨0, Nat.zero_le _, rfl, Lib.hid rfl⟩
            case round =>
              obtain ⟨k5, hk5, rfl, hg5⟩ := hrel
              by_cases hlt5 : k5 < us.length
              · have hlt6 : k5 < ns.length := by rw [HN5.out]; exact hlt5
                obtain ⟨b, o, rfl, x0⟩ := HI5.out.ints hlt6
                have hlt5' : (k5 : Int) < us.length := by omega
                have hk0 : (0 : Int) ≤ (k5 : Int) := by omega
                have hk1 : (k5 : Int) ≤ (c5 : Int) := by omega
                obtain ⟨m, hm⟩ : ∃ m, Hid (us.length - k5 = m + 1) := ⟨us.length - k5 - 1, by show _ = _; omega⟩
                have hmk : k5 + (m + 1) = ns.length := by have := hm.out; have := HN5.out; omega
                have hgd : ns.getD k5 0 = ns[k5] := by simp [List.getD, hlt6]
                have HB : Hid ((!decide (ns[k5] ∈ ns.take k5) && decide (ns[k5] ∈ us)) = false → dkB r f n (es.map fc) (ftot es) ks ts = false) := Lib.hid fun h => by rw [HD5.out, hg5.out, hm.out, idT_no hmk (by rw [hgd]; exact h)]; rfl
                have HO : Hid ((!decide (ns[k5] ∈ ns.take k5) && decide (ns[k5] ∈ us)) = true → idT ns us 0 us.length = idT ns us (k5 + 1) (us.length - (k5 + 1))) := Lib.hid fun h => by rw [hg5.out, hm.out, idT_yes (by rw [hgd]; exact h)]; congr 1; have := hm.out; omega
                have ct := hasIntN_spec (some ⟨b, o, none⟩) c5 k5 (ns.take k5) ns[k5] w5 (by rw [List.length_take]; omega) (by rw [List.map_take]; exact HI5.out.take _) (by rw [List.length_take]; omega)
                have cf := hasInt_spec A1 c1' us ns[k5] w5 HF5.out (by omega)
                clear hmk hgd hg5
                cases h1 : decide (ns[k5] ∈ ns.take k5) with
                | true =>
                  have HZ : Hid (dkB r f n (es.map fc) (ftot es) ks ts = false) := HB.out (by rw [h1]; rfl)
                  rw [h1] at ct
                  clear HB HO h1
                  go_wp2_with fail
                  refine ct.mono ?_
                  rintro e w' ⟨rfl, rfl⟩
                  go_wp2_with fail
                  go_ret
                  exact ⟨ret_bool HZ.out.symm, t5⟩
                | false =>
                  rw [h1] at ct
                  cases h2 : decide (ns[k5] ∈ us) with
                  | false =>
                    have HZ : Hid (dkB r f n (es.map fc) (ftot es) ks ts = false) := HB.out (by rw [h1, h2]; rfl)
                    rw [h2] at cf
                    clear HB HO h1 h2
                    go_wp2_with fail
                    refine ct.mono ?_
                    rintro e w' ⟨rfl, rfl⟩
                    go_wp2_with fail
                    refine cf.mono ?_
                    rintro e w' ⟨rfl, rfl⟩
                    go_wp2_with fail
                    go_ret
                    exact ⟨ret_bool HZ.out.symm, t5⟩
                  | true =>
                    have HZ : Hid (idT ns us 0 us.length = idT ns us (k5 + 1) (us.length - (k5 + 1))) := HO.out (by rw [h1, h2]; rfl)
                    rw [h2] at cf
                    clear HB HO h1 h2
                    go_wp2_with fail
                    refine ct.mono ?_
                    rintro e w' ⟨rfl, rfl⟩
                    go_wp2_with fail
                    refine cf.mono ?_
                    rintro e w' ⟨rfl, rfl⟩
                    go_wp2_with fail
                    go_round
                    case rel => exact ⟨k5 + 1, by omega, by go_num, HZ⟩
                    case measure => simp [intOf]; omega
              · have hlt5' : ¬ ((k5 : Int) < us.length) := by omega
                have HD6 : Hid (dkB r f n (es.map fc) (ftot es) ks ts = runS ks ts) := by
                  rw [HD5.out, hg5.out, show us.length - k5 = 0 by omega]
                  exact Lib.hid rfl
                have q4' : w5.cell? ⟨w.heap.size, 4, none⟩ = some (.slice KA ks.length c2) := cell_of_row w5 w.heap.size 4 _ _ (0, 0) hB5
                have q5' : w5.cell? ⟨w.heap.size, 5, none⟩ = some (.slice TA ts.length c3) := cell_of_row w5 w.heap.size 5 _ _ (0, 0) hB5
                have hK5 := hK.below t5
                clear hg5 HD5 HF5 HI5 q0 q1 q2 q3 q4 q5 HN5
                have z8 := t5.size
                go_wp2_with fail
                go_loopw [11, 181] (fun dv i wr => ∃ (k : Nat) (A6 : Option Addr) (c6 : Nat) (dir : List Lk), k ≤ ts.length ∧ i = .int .i64 k ∧ dv = .slice A6 dir.length c6 ∧ Ks wr A6 dir ∧ dir.length ≤ 10 + k ∧ Hid (runS ks ts = runS dir (ts.drop k)) ∧ Below w.heap.size w wr) (fun _ i _ => ts.length - (intOf i).toNat)
                case atStart => exact ⟨0, KA, c2, ks, Nat.zero_le _, rfl, rfl, hK5, by have := HM.out; omega, Lib.hid rfl, t5⟩
                case round =>
                  clear q4' q5' hK5 t5 z8 t2 hB2 hB5
                  obtain ⟨k6, A6, c6, dir, hk6, rfl, rfl, hd6, hl6, hg6, t6⟩ := hrel
                  have z6 := t6.size
                  have htl6 : ts.length ≤ 30 := by have := HM.out; omega
                  by_cases hlt6 : k6 < ts.length
                  · obtain ⟨b, o, rfl, hbs, x0, x1, x2, x3⟩ := Ts.get (hT.below t6) hlt6
                    have hlt6' : (k6 : Int) < ts.length := by omega
                    have hr := runS_drop dir hlt6
                    obtain ⟨htm1, htm2⟩ := htm _ (List.getElem_mem hlt6)
                    have hb7 : Below wr.heap.size wr (wr.alloc (.cells (tnL ts[k6]).toArray 66)) := (Below.refl _ _).alloc (Nat.le_refl _) _
                    cases hok : okS dir ts[k6] with
                    | false =>
                      have HZ : Hid (dkB r f n (es.map fc) (ftot es) ks ts = false) := by rw [HD6.out, hg6.out, hr, hok]; exact Lib.hid rfl
                      have ct := turnOk_spec A6 c6 dir ts[k6] _ (hd6.below hb7) (by omega) htm1 htm2
                      rw [hok] at ct
                      clear hr hok hg6
                      go_wp2_with fail
                      refine ct.mono ?_
                      rintro e w7 ⟨rfl, hb8⟩
                      go_wp2_with fail
                      go_ret
                      exact ⟨ret_bool HZ.out.symm, t6.trans ((hb7.trans (hb8.mono hb7.size)).mono z6)⟩
                    | true =>
                      have HZ : Hid (runS ks ts = runS (turnS dir ts[k6]) (ts.drop (k6 + 1))) := by rw [hg6.out, hr, hok]; exact Lib.hid rfl
                      have ct := turnOk_spec A6 c6 dir ts[k6] _ (hd6.below hb7) (by omega) htm1 htm2
                      rw [hok] at ct
                      have hlen := turnS_len dir ts[k6]
                      clear hr hok hg6
                      go_wp2_with fail
                      refine ct.mono ?_
                      rintro e w7 ⟨rfl, hb8⟩
                      have t7 := hb7.trans (hb8.mono hb7.size)
                      obtain ⟨B8, y, _, z9⟩ := keep_blk hb8 (g := wr.heap.size) (heap_alloc_new _ _)
                      have y0 : w7.cell? ⟨wr.heap.size, 0, none⟩ = some (.int .i64 ts[k6].1) := y 0
                      have y1 : w7.cell? ⟨wr.heap.size, 1, none⟩ = some (.string ts[k6].2.1) := y 1
                      have y2 : w7.cell? ⟨wr.heap.size, 2, none⟩ = some (.string ts[k6].2.2.1) := y 2
                      have y3 : w7.cell? ⟨wr.heap.size, 3, none⟩ = some (.int .i64 ts[k6].2.2.2) := y 3
                      clear y B8
                      obtain ⟨dir2, hdir2⟩ : ∃ dir2, Hid (dir2 = turnS dir ts[k6]) := ⟨_, Lib.hid rfl⟩
                      have cu := turn_spec A6 c6 dir ts[k6] w7 (hd6.below t7) (by omega)
                      rw [← hdir2.out] at cu hlen
                      go_wp2_with fail
                      refine cu.mono ?_
                      rintro e w8 ⟨A8, c8, rfl, ho8, hb9⟩
                      have k8 := ho8.sl lk2
                      go_wp2_with fail
                      go_roundw
                      case rel => exact ⟨k6 + 1, A8, c8, dir2, by omega, by go_num, rfl, k8, by omega, by rw [HZ.out, hdir2.out]; exact Lib.hid rfl, t6.trans ((t7.trans (hb9.mono t7.size)).mono z6)⟩
                      case measure => simp [intOf]; omega
                  · have hlt6' : ¬ ((k6 : Int) < ts.length) := by omega
                    have HZ : Hid (dkB r f n (es.map fc) (ftot es) ks ts = true) := by
                      rw [HD6.out, hg6.out, List.drop_of_length_le (by omega)]
                      exact Lib.hid rfl
                    go_wp2_with fail
                    go_ret
                    exact ⟨ret_bool HZ.out.symm, t6⟩
end Go.Proofs.Ytndmdhmghjfckaa
