/- Slices of numbers: copied, compared, marked (what the law of DiskCrash wants). DiskCrash: the law. -/
import Derived.Test.YtljpeiflnimblaaGreatHr
namespace Go.Proofs.YtljpeiflnimblaaGreat
open Go.RowKit

set_option linter.unusedVariables false
set_option maxRecDepth 100000

theorem info_intH : (Tryz.prog.info? 3).map (fun i => (i.zero, i.size, i.bytes)) = some (some (.int .i64 0), 1, 8) := by kernel_rfl
theorem Cs.intsH {w : World} {A : Option Addr} {ns : List Int} (h : Cs w A (ns.map I)) {k : Nat} (hk : k < ns.length) : ∃ b o, A = some ⟨b, o, none⟩ ∧ w.cell? ⟨b, o + k, none⟩ = some (.int .i64 ns[k]) := by
  rcases h with h | ⟨b, o, hA, h⟩
  · have h2 : ns.length = 0 := by have := congrArg List.length h; rwa [List.length_map] at this
    omega
  · exact ⟨b, o, hA, h k _ (by rw [List.getElem?_map, List.getElem?_eq_getElem hk]; rfl)⟩
theorem rd_intsH {w : World} {A : Option Addr} {n c : Nat} (h : Rd Tryz.prog w 45 [.slice A n c]) : ∃ ns : List Int, n = ns.length ∧ Cs w A (ns.map I) ∧ ns.length ≤ maxLen := by
  obtain ⟨A', c', xs, h1, h2, _, h4⟩ := Rd.list (size := 1) (enc := fun x : Int => [I x]) (G := fun _ => True) Tryz.underlying45 (by kernel_rfl) (by decide) (by
    intro es hes
    obtain ⟨n, rfl, hwf⟩ := hes.int Tryz.underlying3
    exact ⟨n, rfl, trivial⟩) h
  injection h1 with h1 _
  injection h1 with h1 h1' h1''
  subst h1
  exact ⟨xs, h1', ints_cs h4, h2⟩
theorem fl_ints (ns : List Int) : ns.flatMap iL = ns.map I := by
  induction ns with
  | nil => rfl
  | cons x r ih => rw [List.flatMap_cons, ih]; rfl
def OiPost (w : World) (ns : List Int) (e : Ending) (w' : World) : Prop := ∃ A' c', e = .returned (.slice A' ns.length c') ∧ Oi w' w.heap.size A' c' ns ∧ Below w.heap.size w w'
set_option maxHeartbeats 400000 in
theorem toI_any (A : Option Addr) (c : Nat) (ns : List Int) (w : World) (ha : Cs w A (ns.map I)) (hl : ns.length ≤ 1048576) :
    Calls Tryz.prog 19 #[.slice A ns.length c] w (OiPost w ns) := by
  obtain ⟨i0, hi, hz0, hz1, hz2⟩ := info_parts info_intH
  go_enter Tryz.func19, Tryz.ntmps19
  go_wp2_with (at_make; refine wpList_make_full _ rfl _ _ _ rfl w.heap.size 3 i0 _ 1 Tryz.underlying45 hi hz0 hz1 _ _ _ _ ns.length rfl rfl rfl rfl (by rw [hz2]; omega) (by unfold maxLen; omega) (Nat.le_refl _) ?_; intro w1 hown hgrow)
  clear hi hz0 hz1 hz2
  have hF : Fill w1 w.heap.size 3 ns.length [] := by
    rcases hown.2 with ⟨hv, _⟩ | ⟨g, cap, cur, hv, _, hh, _, _, hc3, _⟩
    · cases hv
    · injection hv with hv _ hv3
      injection hv with hv
      injection hv with hv
      subst hv3 hv
      exact Fill.start hh (.inl rfl) (by omega)
  have hb1 : Below w.heap.size w w1 := (Below.refl _ _).grown hgrow (Nat.le_refl _) (by simp)
  clear hown hgrow
  go_loopw [4] (fun i wr => ∃ k : Nat, k ≤ ns.length ∧ i = .int .i64 k ∧ Fill wr w.heap.size 3 ns.length ((ns.take k).map I) ∧ Below w.heap.size w wr) (fun i _ => ns.length - (intOf i).toNat)
  case atStart => exact ⟨0, Nat.zero_le _, rfl, hF, hb1⟩
  case round =>
    clear hF hb1
    obtain ⟨k, hk, rfl, hF, hb⟩ := hrel
    by_cases hlt : k < ns.length
    · obtain ⟨b, o, rfl, hx⟩ := (ha.below hb).intsH hlt
      have hlt' : (k : Int) < ns.length := by omega
      obtain ⟨u, hu⟩ := hF.cell k hlt
      have hf := hF.frozen k hlt
      go_wp2
      go_roundw
      case rel =>
        refine ⟨k + 1, by omega, by go_num, ?_, hb.setCell (Nat.le_refl _) _⟩
        rw [take_succ_get (List.getElem?_eq_getElem hlt), List.map_append]
        exact hF.step (by simp; omega) hlt _
      case measure => simp [intOf]; omega
    · have hlt' : ¬ ((k : Int) < ns.length) := by omega
      have hk' : k = ns.length := by omega
      have hF' : Fill wr w.heap.size 3 (ns.length * 1) (ns.flatMap iL) := by rw [hk', List.take_length] at hF; rw [fl_ints, Nat.mul_one]; exact hF
      have hO : Oi wr w.heap.size (some ⟨w.heap.size, 0, none⟩) ns.length ns := Oe.of_fill (fun _ => rfl) hF' (Nat.le_refl _) (Nat.le_refl _) (by unfold maxLen; omega)
      clear hF hk' hF'
      go_wp2
      go_ret
      exact ⟨_, _, rfl, hO, hb⟩
set_option maxHeartbeats 400000 in
theorem eqI_same (A A' : Option Addr) (c c' : Nat) (ns : List Int) (w : World) (ha : Cs w A (ns.map I)) (hb : Cs w A' (ns.map I)) (h1 : ns.length ≤ 1048576) :
    Calls Tryz.prog 21 #[.slice A ns.length c, .slice A' ns.length c'] w fun e w' => e = .returned (.bool true) ∧ Below w.heap.size w w' := by
  go_enter Tryz.func21, Tryz.ntmps21
  go_wp2
  go_loopw [5] (fun i wr => ∃ k m : Nat, k ≤ ns.length ∧ i = .int .i64 k ∧ wr = w.drewN m) (fun i _ => ns.length - (intOf i).toNat)
  case atStart => exact ⟨0, 0, Nat.zero_le _, rfl, rfl⟩
  case round =>
    obtain ⟨k, m, hk, rfl, rfl⟩ := hrel
    by_cases hlt : k < ns.length
    · obtain ⟨b, o, rfl, hx⟩ := ha.intsH hlt
      obtain ⟨b', o', rfl, hy⟩ := hb.intsH hlt
      have hlt' : (k : Int) < ns.length := by omega
      go_wp2
      go_quiet (fail)
      go_wp2
      go_roundw
      case rel => exact ⟨k + 1, _, by omega, by go_num, rfl⟩
      case measure => simp [intOf]; omega
    · have hlt' : ¬ ((k : Int) < ns.length) := by omega
      go_wp2
      go_ret
      exact ⟨rfl, below_drewN (Below.refl _ _) _⟩
set_option maxHeartbeats 1000000 in
theorem markI_any (lo hi : Nat) (A : Option Addr) (c : Nat) (ns : List Int) (k : Int) (w : World) (ha : Oi w lo A c ns) (hA : InB lo hi A) (h1 : ns.length ≤ 1048576) (hk : 0 ≤ k) (hk2 : k + (ns.length : Int) ≤ 100000000) :
    Calls Tryz.prog 22 #[.slice A ns.length c, .int .i64 k] w fun e w' => e = .returned (.int .i64 (k + ns.length)) ∧ Kp lo hi w w' := by
  by_cases h0 : ns.length = 0
  · have hn : ns = [] := List.eq_nil_of_length_eq_zero h0
    subst hn
    go_enter Tryz.func22, Tryz.ntmps22
    go_wp2
    go_loopw [1, 5] (fun kk i wr => kk = .int .i64 k ∧ i = .int .i64 0 ∧ wr = w) (fun _ _ _ => 0)
    case atStart => exact ⟨rfl, rfl, rfl⟩
    case round =>
      obtain ⟨rfl, rfl, rfl⟩ := hrel
      go_wp2
      go_ret
      exact ⟨ret_int (by simp), Kp.refl _ _ _⟩
  · obtain ⟨g, rfl, hlo, hcm, hxc, hF0⟩ := ha.fill (by omega)
    have hgi := hA _ rfl
    dsimp only at hgi
    clear ha hA
    go_enter Tryz.func22, Tryz.ntmps22
    go_wp2
    go_loopw [1, 5] (fun kk i wr => ∃ (j : Nat), j ≤ ns.length ∧ i = .int .i64 j ∧ kk = .int .i64 (k + j) ∧ Fill wr g 3 (c * 1) [] ∧ Kp lo hi w wr) (fun _ i _ => ns.length - (intOf i).toNat)
    case atStart => exact ⟨0, Nat.zero_le _, rfl, by simp, hF0, Kp.refl _ _ _⟩
    case round =>
      clear hF0
      obtain ⟨j, hj, rfl, rfl, hF, hb⟩ := hrel
      by_cases hlt : j < ns.length
      · have hlt' : (j : Int) < ns.length := by omega
        obtain ⟨u0, hu0⟩ := hF.cell j (by omega)
        have hf0 := hF.frozen j (by omega)
        go_wp2
        go_roundw
        case rel =>
          refine ⟨j + 1, by omega, by go_num, by go_num, ?_, hb.setCell (by show lo ≤ g; omega) (by show g < hi; omega) _⟩
          obtain ⟨cur, fz, q1, q2, q3, q4, q5⟩ := hF
          exact Fill.start (heap_setCell_same _ q1) (by rw [Array.size_setIfInBounds]; exact q2) (by rw [Array.size_setIfInBounds]; exact q3)
        case measure => simp [intOf]; omega
      · have hlt' : ¬ ((j : Int) < ns.length) := by omega
        have hk' : j = ns.length := by omega
        subst hk'
        go_wp2
        go_ret
        exact ⟨rfl, hb⟩
theorem crashV_bd {turns : Int} {cuts : List Int} {r f n : Int} {es : List Fl} {ks : List Lk} {ts : List Tn} (h : ¬ (1048576 : Int) < (es.length + ftot es) + (ks.length + ktot ks) + (ts.length + ttot ts)) (hy : ∀ e, e ∈ es → e.2.1.2.2.length ≤ 1048576) : DVB (crashV turns cuts r f n (es.map fc) (ftot es) ks ts) := by
  unfold crashV
  split
  · rename_i hv
    obtain ⟨g0, g1, g2, _, _⟩ := dk_parts hv
    have hd := dirS_len ks (ts.take (max 0 (min turns ts.length)).toNat)
    rw [List.length_take] at hd
    generalize dirS ks (ts.take (max 0 (min turns ts.length)).toNat) = dir at hd ⊢
    have hcl : ∀ (i : Nat) (cs : List Fc), (crC cuts i cs).length = cs.length := by
      intro i cs
      induction cs generalizing i with
      | nil => rfl
      | cons x r ih => rw [crC, List.length_cons, ih, List.length_cons]
    have hcb : ∀ (i : Nat) (cs : List Fc) (x : Fc), x ∈ crC cuts i cs → ∃ y, y ∈ cs ∧ x.2.1.length ≤ y.2.1.length := by
      intro i cs
      induction cs generalizing i with
      | nil => intro x hx; cases hx
      | cons z r ih =>
        intro x hx
        rw [crC] at hx
        rcases List.mem_cons.1 hx with rfl | hx
        · exact ⟨z, List.mem_cons_self .., by simp only [cutC, List.length_take]; omega⟩
        · obtain ⟨y, hy1, hy2⟩ := ih (i + 1) x hx
          exact ⟨y, List.mem_cons_of_mem _ hy1, hy2⟩
    have hsum : ∀ (i : Nat) (cs : List Fc), ((crC cuts i cs).map fun x => x.2.1.length).sum ≤ (cs.map fun x => x.2.1.length).sum := by
      intro i cs
      induction cs generalizing i with
      | nil => exact Nat.le_refl _
      | cons z r ih =>
        have := ih (i + 1)
        simp only [crC, List.map_cons, List.sum_cons, cutC, List.length_take]
        omega
    have hfs : ∀ (q : Fc → Bool) (cs : List Fc), ((cs.filter q).map fun x => x.2.1.length).sum ≤ (cs.map fun x => x.2.1.length).sum := by
      intro q cs
      induction cs with
      | nil => exact Nat.le_refl _
      | cons z r ih =>
        rw [List.filter_cons]
        split
        · simp only [List.map_cons, List.sum_cons]; omega
        · simp only [List.map_cons, List.sum_cons]; omega
    have hft : ((es.map fc).map fun x => x.2.1.length).sum = ftot es := by rw [List.map_map]; rfl
    have hkl : ∀ dir, (keepC dir (es.map fc)).length ≤ es.length := fun dir => by
      have := List.length_filter_le (fun x : Fc => dir.any fun l => l.2 == x.1) (es.map fc)
      rw [List.length_map] at this
      exact this
    have hel : es.length ≤ 10 := by rw [List.length_map] at g0; exact g0
    have hbb : ∀ x, x ∈ crC cuts 0 (keepC dir (es.map fc)) → x.2.1.length ≤ 1048576 := fun x hx => by
      obtain ⟨y, hy1, hy2⟩ := hcb _ _ _ hx
      obtain ⟨e, he, rfl⟩ := List.mem_map.1 ((List.filter_sublist ..).subset hy1)
      have := hy e he
      simp only [] at hy2
      omega
    have hk1 := hkl dir
    refine ⟨by rw [hcl]; omega, hbb, by dsimp only; omega, by simp, ?_⟩
    · have q1 := hsum 0 (keepC dir (es.map fc))
      have q2 := hfs (fun x : Fc => dir.any fun l => l.2 == x.1) (es.map fc)
      rw [hft] at q2
      have q3 := Nat.le_trans q1 q2
      have q4 := hcl 0 (keepC dir (es.map fc))
      have q5 : ((crC cuts 0 (keepC dir (es.map fc))).map fun x => x.2.1.length).sum ≤ ftot es := q3
      show 1 + 2 * (crC cuts 0 (keepC dir (es.map fc))).length + ((crC cuts 0 (keepC dir (es.map fc))).map fun x => x.2.1.length).sum + 2 * dir.length + 4 * 0 ≤ 10000000
      omega
  · exact DVB.no

set_option linter.unusedVariables false
set_option maxRecDepth 100000

theorem diskCrash_impl (turns : Int) (QA : Option Addr) (qc : Nat) (cuts : List Int) (r f n : Int) (FA : Option Addr) (es fs : List Fl) (c1 : Nat) (KA : Option Addr) (ks : List Lk) (c2 : Nat) (TA : Option Addr) (ts : List Tn) (c3 : Nat) (w : World) (hr : Dr w FA fs KA ks TA ts) (hd : Hid (fs.map fc = es.map fc)) (hg : Good es ks ts) (hc3 : ts.length ≤ c3) (hq : Cs w QA (cuts.map I)) (hql : cuts.length ≤ 1048576) :
    Calls Tryz.prog 20 #[dkV r f n FA es.length c1 KA ks.length c2 TA ts.length c3, .int .i64 turns, .slice QA cuts.length qc] w (DOPost w (crashV turns cuts r f n (es.map fc) (ftot es) ks ts)) := by
  have := diskCrash_impl0 turns QA qc cuts r f n FA fs c1 KA ks c2 TA ts c3 w hr (hg.copy hd.out) hc3 hq hql
  rwa [fc_len hd.out, hd.out, fc_tot hd.out] at this
theorem diskCrash_spec (turns : Int) (QA : Option Addr) (qc : Nat) (cuts : List Int) (r f n : Int) (FA : Option Addr) (es fs : List Fl) (c1 : Nat) (KA : Option Addr) (ks : List Lk) (c2 : Nat) (TA : Option Addr) (ts : List Tn) (c3 : Nat) (w : World) (hr : Dr w FA fs KA ks TA ts) (hd : Hid (fs.map fc = es.map fc)) (hg : Good es ks ts) (hq : Cs w QA (cuts.map I)) (hql : cuts.length ≤ 1048576) :
    Calls Tryz.prog 18 #[dkV r f n FA es.length c1 KA ks.length c2 TA ts.length c3, .int .i64 turns, .slice QA cuts.length qc] w (DWPost w (crashV turns cuts r f n (es.map fc) (ftot es) ks ts)) := by
  have := diskCrash_spec0 turns QA qc cuts r f n FA fs c1 KA ks c2 TA ts c3 w hr (hg.copy hd.out) hq hql
  rwa [fc_len hd.out, hd.out, fc_tot hd.out] at this
set_option maxHeartbeats 8000000 in
theorem walk_FnExactDiskCrash (vs0 : List Value) (turns : Int) (QA : Option Addr) (qn qc : Nat) (w : World) (h0 : Rd Tryz.prog w 26 vs0) (hT0 : (Lit.int .i64 turns).wf = true) (hQ : Rd Tryz.prog w 45 [.slice QA qn qc]) :
    Calls Tryz.prog 5 #[.agg vs0.toArray, .int .i64 turns, .slice QA qn qc] w fun e w' => e = .returned (.bool true) ∧ Below w.heap.size w w' := by
  obtain ⟨r, f, n, FA, es, c1, KA, ks, c2, TA, ts, c3, rfl, ⟨br, bf, bn⟩, ⟨hF, hFl, hFm⟩, ⟨hK, hKl, hKm⟩, hT, hTl, hTm⟩ := rd_disk h0
  clear h0
  have hsz := fun w' (hb : Below w.heap.size w w') => szDisk_any r f n FA es c1 KA ks c2 TA ts c3 w' (hF.below hb) hFl (fun e he => (hFm e he).2.1) (SlL.below hK hb) hKl (fun e he => (hKm e he).1) (SlL.below hT hb) hTl (fun e he => ⟨(hTm e he).2.1, (hTm e he).2.2.1⟩)
  have hr : Dr w FA es KA ks TA ts := ⟨hF, hK, hT⟩
  have t0 : Below w.heap.size w (w.alloc (.cells (dkC r f n FA es.length c1 KA ks.length c2 TA ts.length c3) 26)) := (Below.refl _ _).alloc (Nat.le_refl _) _
  obtain ⟨cuts, rfl, hq, hql0⟩ := rd_intsH hQ
  unfold maxLen at hql0
  by_cases hn0 : (1048576 : Int) < cuts.length
  · go_enter Tryz.func5, Tryz.ntmps5
    go_wp2_with fail
    go_ret
    exact ⟨rfl, t0⟩
  have hql : cuts.length ≤ 1048576 := by omega
  by_cases hbig : (1048576 : Int) < (es.length + ftot es) + (ks.length + ktot ks) + (ts.length + ttot ts)
  · have HS1 := szR_no hbig
    go_enter Tryz.func5, Tryz.ntmps5
    go_wp2_with fail
    refine (hsz _ t0).mono ?_
    rintro e w1 ⟨he, hb1⟩
    rw [HS1.out] at he
    subst he
    go_wp2_with fail
    go_ret
    exact ⟨rfl, t0.trans (hb1.mono t0.size)⟩
  have HS1 := szR_yes hbig
  have hg := Good.of hbig fun e he => ⟨(hFm e he).1, (hFm e he).2.2⟩
  obtain ⟨L, hL⟩ : ∃ L : Int, Hid (1048576 - ((es.length + ftot es : Int) + (ks.length + ktot ks) + (ts.length + ttot ts)) = L) := ⟨_, Lib.hid rfl⟩
  have hL0 : ¬ L < 0 := by have := hL.out; omega
  have HB := Lib.hid hbig
  clear hF hK hT hFm hKm hTm hbig br bf bn hFl hKl hTl
  obtain ⟨V, hV⟩ : ∃ V, Hid (crashV turns cuts r f n (es.map fc) (ftot es) ks ts = V) := ⟨_, Lib.hid rfl⟩
  have hVb : DVB V := by rw [← hV.out]; exact crashV_bd HB.out hg.ey
  obtain ⟨vr, vf, vn, cs, vk, vt, ok⟩ := V
  obtain ⟨vcl, vcb, vkl, vtl, vmk⟩ := hVb
  dsimp only at vcl vcb vkl vtl vmk
  have hne : (ok != ok) = false := by cases ok <;> rfl
  have VMK := Lib.hid vmk
  have VCB := Lib.hid vcb
  clear vmk vcb
  go_enter Tryz.func5, Tryz.ntmps5
  go_wp2_with fail
  refine (hsz _ t0).mono ?_
  rintro e w1 ⟨he, hb1⟩
  rw [HS1.out, hL.out] at he
  subst he
  have t1 := t0.trans (hb1.mono t0.size)
  have BP1 : w1.heap[w.heap.size]? = some (.cells (dkC r f n FA es.length c1 KA ks.length c2 TA ts.length c3) 26 (0, 0)) := blk_be hb1 (heap_alloc_new _ _)
  clear hsz
  have cP1 : ∀ i, w1.cell? ⟨w.heap.size, i, none⟩ = _ := fun i => cell_of_row w1 _ i _ _ (0, 0) BP1
  have yP1 : w.heap.size < w1.heap.size := (Array.getElem?_eq_some_iff.1 BP1).1
  go_wp2_with fail
  refine (toD_any r f n FA es c1 KA ks c2 TA ts c3 _ (hr.below t1) hg).mono ?_
  rintro e w2o ⟨FA2, d1, fs2, KA2, d2, TA2, d3, rfl, hd2, ho2, hb2o⟩
  have t2o := t1.trans (hb2o.mono t1.size)
  clear cP1
  go_wp2_with fail
  refine (toI_any QA qc cuts w2o (hq.below t2o) hql).mono ?_
  rintro e w2 ⟨QA2, q2, rfl, hoI2, hbI2⟩
  have t2 := t2o.trans (hbI2.mono t2o.size)
  have BP2 := blk_be hbI2 (blk_be hb2o BP1)
  have cS := diskCrash_spec turns QA2 q2 cuts r f n FA2 es fs2 d1 KA2 ks d2 TA2 ts d3 w2 (Dr.below ho2.rd hbI2) hd2 hg (ints_cs (Oe.sl (fun _ => rfl) hoI2)) hql
  rw [hV.out] at cS
  go_wp2_with fail
  refine cS.mono ?_
  rintro e w3 ⟨FW, a1, fsW, KW, a2, TW, a3, he, hdW, hoW, hb3⟩
  dsimp only at he hdW hoW
  subst he
  have t3 := t2.trans (hb3.mono t2.size)
  have BP3 := blk_be hb3 BP2
  clear cS ho2
  have z2 := t2.size
  have z23 := hb3.size
  have b3 : Below w3.heap.size w3 (w3.alloc (.cells (dkC vr vf vn FW cs.length a1 KW vk.length a2 TW vt.length a3) 35)) := (Below.refl _ _).alloc (Nat.le_refl _) _
  have t3' := t3.trans (b3.mono t3.size)
  have cP3 : ∀ i, w3.cell? ⟨w.heap.size, i, none⟩ = _ := fun i => cell_of_row w3 _ i _ _ (0, 0) BP3
  have yP3 : w.heap.size < w3.heap.size := (Array.getElem?_eq_some_iff.1 BP3).1
  go_wp2_with fail
  refine (toD_any r f n FA es c1 KA ks c2 TA ts c3 _ (hr.below t3') hg).mono ?_
  rintro e w4 ⟨FA4, e1, fs4, KA4, e2, TA4, e3, rfl, hd4, ho4, hb4⟩
  have t4 := t3'.trans (hb4.mono t3'.size)
  have s4 : w3.heap.size + 1 ≤ w4.heap.size := by have := hb4.size; simpa using this
  have BP4 := blk_be hb4 (heap_alloc_of _ BP3)
  have BW4 : w4.heap[w3.heap.size]? = some (.cells (dkC vr vf vn FW cs.length a1 KW vk.length a2 TW vt.length a3) 35 (0, 0)) := blk_be hb4 (heap_alloc_new _ _)
  have hoX4 : DkG w4 (w3.heap.size + 1) w4.heap.size FA4 e1 fs4 KA4 e2 ks TA4 e3 ts := ho4.g.lower (by simp)
  have b34 := b3.trans (hb4.mono b3.size)
  have hoW4 := hoW.below b34 (Nat.le_refl _)
  clear cP3 ho4
  have b4 : Below w4.heap.size w4 (w4.alloc (.cells (dkC r f n FA4 es.length e1 KA4 ks.length e2 TA4 ts.length e3) 35)) := (Below.refl _ _).alloc (Nat.le_refl _) _
  have t4' := t4.trans (b4.mono t4.size)
  have hcap4 : ts.length ≤ e3 := by obtain ⟨_, _, _, _, _, _, _, h6, _⟩ := hoX4; exact h6.cap
  go_wp2_with fail
  refine (toI_any QA qc cuts _ (hq.below t4') hql).mono ?_
  rintro e w4i ⟨QA4, q4, rfl, hoI4, hbI4⟩
  have s4i : w4.heap.size + 1 ≤ w4i.heap.size := by have := hbI4.size; simpa using this
  have iI4 : InB (w4.heap.size + 1) w4i.heap.size QA4 := fun ad h => by have := hoI4.inB ad h; simpa using this
  have BX4i : w4i.heap[w4.heap.size]? = some (.cells (dkC r f n FA4 es.length e1 KA4 ks.length e2 TA4 ts.length e3) 35 (0, 0)) := blk_be hbI4 (heap_alloc_new _ _)
  have cX4i : ∀ i, w4i.cell? ⟨w4.heap.size, i, none⟩ = _ := fun i => cell_of_row w4i _ i _ _ (0, 0) BX4i
  have b44 := b4.trans (hbI4.mono b4.size)
  have cI := diskCrash_impl turns QA4 q4 cuts r f n FA4 es fs4 e1 KA4 ks e2 TA4 ts e3 w4i (Dr.below hoX4.rd b44) hd4 hg hcap4 (ints_cs (Oe.sl (fun _ => rfl) hoI4)) hql
  rw [hV.out] at cI
  go_wp2_with fail
  refine cI.mono ?_
  rintro e w5 ⟨FG, g1, fsG, KG, g2, TG, g3, he, hdG, hoG, hb5⟩
  dsimp only at he hdG hoG
  subst he
  have b45 := b44.trans (hb5.mono b44.size)
  have s5i := hb5.size
  have s5 : w4.heap.size + 1 ≤ w5.heap.size := by omega
  have BX5 := blk_be hb5 BX4i
  have hoG5 : DkG w5 w4i.heap.size w5.heap.size FG g1 fsG KG g2 vk TG g3 vt := hoG
  have hoI4m : Oi w4i (w4.heap.size + 1) QA4 q4 cuts := Oe.mono hoI4 (by simp)
  have hoI5 := Oe.below hoI4m hb5 (Nat.le_refl _)
  clear cX4i
  have t5 := t4.trans (b45.mono t4.size)
  have BP5 := blk_be b45 BP4
  have BW5 := blk_be b45 BW4
  have hoW5 := hoW4.below b45 (by omega)
  have hoX5 := hoX4.below b45 (Nat.le_refl _)
  clear cI hoG hoW4 hoX4 hoW
  have b5 : Below w5.heap.size w5 (w5.alloc (.cells (dkC vr vf vn FG cs.length g1 KG vk.length g2 TG vt.length g3) 35)) := (Below.refl _ _).alloc (Nat.le_refl _) _
  have cW5 : ∀ i, w5.cell? ⟨w3.heap.size, i, none⟩ = _ := fun i => cell_of_row w5 _ i _ _ (0, 0) BW5
  have yW5 : w3.heap.size < w5.heap.size := (Array.getElem?_eq_some_iff.1 BW5).1
  go_wp2_with fail
  refine (eqDV_any vr vf vn FG cs.length g1 KG g2 TG g3 FW a1 KW a2 TW a3 cs fsG fsW vk vt _ rfl hdG hdW (Dr.below hoG5.rd b5) (Dr.below hoW5.rd b5) vcl VCB.out vkl vtl).mono ?_
  rintro e w6 ⟨rfl, hb6⟩
  have b56 := b5.trans (hb6.mono b5.size)
  have t6 := t5.trans (b56.mono t5.size)
  have s6 : w5.heap.size + 1 ≤ w6.heap.size := by have := hb6.size; simpa using this
  have BP6 := blk_be b56 BP5
  have BW6 := blk_be b56 BW5
  have BX6 := blk_be b56 BX5
  have BG6 : w6.heap[w5.heap.size]? = some (.cells (dkC vr vf vn FG cs.length g1 KG vk.length g2 TG vt.length g3) 35 (0, 0)) := blk_be hb6 (heap_alloc_new _ _)
  have hoW6 := hoW5.below b56 (by omega)
  have hoX6 := hoX5.below b56 (by omega)
  have hoG6 := hoG5.below b56 (Nat.le_refl _)
  clear cW5 hoW5 hoX5 hoG5
  go_wp2_with fail
  have f0 : Below w6.heap.size w6 w6.drew := (Below.refl _ _).drew
  refine wp_region_held_drew (S := fun w' => Below w6.heap.size w6 w') (by kernel_rfl) (f0) (fun _ => ?_)
  refine wpAnyH_take (i := 0) (v := dkV r f n FA4 es.length e1 KA4 ks.length e2 TA4 ts.length e3) rfl (by kernel_rfl) (by kernel_rfl) (by kernel_rfl) (fun _ _ _ h => h) (Or.inl ⟨by rfl, (by intro w' hS; have q := fun i => cell_of_row w' _ i _ _ (0, 0) (blk_be hS BX6); go_simp; try first | rfl | (simp [*, Addr.add_lit]; done))⟩) (f0) ?_
  try simp only [Act.put, List.getElem_toArray, List.getElem_cons_zero, List.setIfInBounds_toArray, List.set_cons_zero, List.set_cons_succ]
  refine wpAnyH_take (i := 1) (v := dkV r f n FA es.length c1 KA ks.length c2 TA ts.length c3) rfl (by kernel_rfl) (by kernel_rfl) (by kernel_rfl) (fun _ _ _ h => h) (Or.inl ⟨by rfl, (by intro w' hS; have q := fun i => cell_of_row w' _ i _ _ (0, 0) (blk_be hS BP6); go_simp; try first | rfl | (simp [*, Addr.add_lit]; done))⟩) (f0) ?_
  try simp only [Act.put, List.getElem_toArray, List.getElem_cons_succ, List.getElem_cons_zero, List.setIfInBounds_toArray, List.set_cons_zero, List.set_cons_succ]
  refine wpAnyH_ready (rs := [2]) (by kernel_rfl) (by simp) ?_
  refine AllReadyH.cons rfl (fun K hK => ?_) AllReadyH.nil
  go_simp
  refine (toD_any r f n FA es c1 KA ks c2 TA ts c3 _ (hr.below (t6.trans (f0.mono t6.size))) hg).mono ?_
  rintro e w7 ⟨FA7, h1, fs7, KA7, h2, TA7, h3, rfl, hd7, ho7, hb7⟩
  have b7 : Below w6.heap.size w6 w7 := f0.trans hb7
  refine hK.out _ _ (b7) (fun _ => ?_)
  clear hK K
  try simp only [Act.put, List.getElem_toArray, List.getElem_cons_succ, List.getElem_cons_zero, List.setIfInBounds_toArray, List.set_cons_zero, List.set_cons_succ]
  refine wpAnyH_ready (rs := [3]) (by kernel_rfl) (by simp) ?_
  refine AllReadyH.cons rfl (fun K hK => ?_) AllReadyH.nil
  go_simp
  refine (eqDV_any r f n FA4 es.length e1 KA4 e2 TA4 e3 FA7 h1 KA7 h2 TA7 h3 (es.map fc) fs4 fs7 ks ts _ (List.length_map ..).symm hd4 hd7 (Dr.below hoX6.rd b7) ho7.rd (by rw [List.length_map]; exact hg.el) (fun x hx => by obtain ⟨y, hy, rfl⟩ := List.mem_map.1 hx; exact hg.ey y hy) hg.kl hg.tl).mono ?_
  rintro e w8o ⟨rfl, hb8⟩
  have b8o := b7.trans (hb8.mono b7.size)
  refine hK.out _ _ (b8o) (fun _ => ?_)
  clear hK K
  try simp only [Act.put, List.getElem_toArray, List.getElem_cons_succ, List.getElem_cons_zero, List.setIfInBounds_toArray, List.set_cons_zero, List.set_cons_succ]
  refine wpAnyH_take (i := 4) (v := .bool false) rfl (by kernel_rfl) (by kernel_rfl) (by kernel_rfl) (fun _ _ _ h => h) (Or.inl ⟨by rfl, (by intro w' hS; skip; go_simp; try first | rfl | (simp [*, Addr.add_lit]; done))⟩) (b8o) ?_
  try simp only [Act.put, List.getElem_toArray, List.getElem_cons_succ, List.getElem_cons_zero, List.setIfInBounds_toArray, List.set_cons_zero, List.set_cons_succ]
  refine wpAnyH_done (by kernel_rfl) ?_ _
  have hoI8 := Oe.belowB (Oe.belowB hoI5 b56 iI4 (by omega)) b8o iI4 (by omega)
  go_wp2_with fail
  have t8o := t6.trans (b8o.mono t6.size)
  refine (toI_any QA qc cuts _ (hq.below t8o) hql).mono ?_
  rintro e w8p ⟨QA8, q8, rfl, hoI8p, hbp⟩
  have hoI8' := Oe.below hoI8 hbp (Nat.le_refl _)
  go_wp2_with fail
  refine (eqI_same QA4 QA8 q4 q8 cuts _ (ints_cs (Oe.sl (fun _ => rfl) hoI8')) (ints_cs (Oe.sl (fun _ => rfl) hoI8p)) hql).mono ?_
  rintro e w8 ⟨rfl, hbq⟩
  have b8 := (b8o.trans (hbp.mono b8o.size)).trans (hbq.mono (b8o.trans (hbp.mono b8o.size)).size)
  have hoI9 := Oe.below hoI8' hbq (Nat.le_refl _)
  clear f0 ho7 hb7 b7 hb8 hoI8 hoI8' hoI8p
  have t8 := t6.trans (b8.mono t6.size)
  have z8 := b8.size
  have BP8 := blk_be b8 BP6
  have BW8 := blk_be b8 BW6
  have BX8 := blk_be b8 BX6
  have BG8 := blk_be b8 BG6
  have hoW8 := hoW6.below b8 (by omega)
  have hoX8 := hoX6.below b8 (by omega)
  have hoG8 := hoG6.below b8 (by omega)
  clear hoW6 hoX6 hoG6
  have cX8 : ∀ i, w8.cell? ⟨w4.heap.size, i, none⟩ = _ := fun i => cell_of_row w8 _ i _ _ (0, 0) BX8
  have yX8 : w4.heap.size < w8.heap.size := (Array.getElem?_eq_some_iff.1 BX8).1
  have cM := markDV_any r f n (w3.heap.size + 1) w4.heap.size es.length FA4 e1 fs4 KA4 e2 ks TA4 e3 ts 1 w8 hoX8 (fc_len hd4.out) (by omega) (Nat.le_refl _) (by rw [mEnd, fc_len hd4.out, fc_tot hd4.out]; have := HB.out; omega)
  obtain ⟨M, hM⟩ : ∃ M : Nat, Hid (mEnd 1 fs4 ks.length ts.length = M) := ⟨_, Lib.hid rfl⟩
  rw [hM.out] at cM
  have hM0 : ¬ (M : Int) < 0 := by omega
  go_wp2_with fail
  refine cM.mono ?_
  rintro e w9o ⟨rfl, _, kp9o⟩
  have z89o := kp9o.1.size
  have hMb : M ≤ 10000000 := by have := hM.out; have := HB.out; rw [mEnd, fc_len hd4.out, fc_tot hd4.out] at hM; have := hM.out; omega
  have hoI9o := Oe.kp hoI9 kp9o iI4 (.inr (by omega))
  have cN := markI_any (w4.heap.size + 1) w4i.heap.size QA4 q4 cuts (M : Int) w9o hoI9o iI4 hql (by omega) (by omega)
  have hM1 : ¬ ((M : Int) + (cuts.length : Int)) < 0 := by omega
  go_wp2_with fail
  refine cN.mono ?_
  rintro e w9 ⟨rfl, kpI⟩
  have kp9 : Kp (w3.heap.size + 1) w4i.heap.size w8 w9 := (kp9o.wide (Nat.le_refl _) (by omega)).trans (kpI.wide (by omega) (Nat.le_refl _))
  have z89 := kp9.1.size
  have BP9 := blk_kp kp9 BP8 (.inl (by omega))
  have BW9 := blk_kp kp9 BW8 (.inl (by omega))
  have BG9 := blk_kp kp9 BG8 (.inr (by omega))
  have hoW9 := hoW8.kp kp9 (by omega) (.inl (by omega))
  have hoG9 := hoG8.kp kp9 (by omega) (.inr (by omega))
  have t9 : Below w.heap.size w w9 := t8.trans (kp9.1.mono (by omega))
  clear cM cX8 hoW8 hoX8 hoG8
  have cW9 : ∀ i, w9.cell? ⟨w3.heap.size, i, none⟩ = _ := fun i => cell_of_row w9 _ i _ _ (0, 0) BW9
  have yW9 : w3.heap.size < w9.heap.size := (Array.getElem?_eq_some_iff.1 BW9).1
  have cG9 : ∀ i, w9.cell? ⟨w5.heap.size, i, none⟩ = _ := fun i => cell_of_row w9 _ i _ _ (0, 0) BG9
  have yG9 : w5.heap.size < w9.heap.size := (Array.getElem?_eq_some_iff.1 BG9).1
  go_wp2_with fail
  refine (eqDV_any vr vf vn FG cs.length g1 KG g2 TG g3 FW a1 KW a2 TW a3 cs fsG fsW vk vt _ rfl hdG hdW hoG9.rd hoW9.rd vcl VCB.out vkl vtl).mono ?_
  rintro e w10 ⟨rfl, hb10⟩
  have z10 := hb10.size
  have t10 := t9.trans (hb10.mono t9.size)
  have BP10 := blk_be hb10 BP9
  have BW10 := blk_be hb10 BW9
  have BG10 := blk_be hb10 BG9
  have hoW10 := hoW9.below hb10 (by omega)
  have hoG10 := hoG9.below hb10 (by omega)
  clear cW9 cG9 hoW9 hoG9
  have cG10 : ∀ i, w10.cell? ⟨w5.heap.size, i, none⟩ = _ := fun i => cell_of_row w10 _ i _ _ (0, 0) BG10
  have yG10 : w5.heap.size < w10.heap.size := (Array.getElem?_eq_some_iff.1 BG10).1
  have hGl : fsG.length = cs.length := by rw [← hdG.out, List.length_map]
  have cG := markDV_any vr vf vn w4i.heap.size w5.heap.size cs.length FG g1 fsG KG g2 vk TG g3 vt 1 w10 hoG10 hGl (by omega) (Nat.le_refl _) (by rw [mEnd_cs hdG.out]; exact VMK.out)
  have hE2 : mEnd 1 fsG vk.length vt.length ≤ 10000000 := by rw [mEnd_cs hdG.out]; exact VMK.out
  have HGL := Lib.hid hGl
  clear hGl
  obtain ⟨E, hE⟩ : ∃ E : Nat, Hid (mEnd 1 fsG vk.length vt.length = E) := ⟨_, Lib.hid rfl⟩
  rw [hE.out] at cG
  have hE0 : ¬ (E : Int) < 0 := by omega
  have HE2 := Lib.hid hE2
  clear hE2
  go_wp2_with fail
  refine cG.mono ?_
  rintro e w11 ⟨rfl, hoG11, kp11⟩
  have z11 := kp11.1.size
  have BP11 := blk_kp kp11 BP10 (.inl (by omega))
  have BW11 := blk_kp kp11 BW10 (.inl (by omega))
  have BG11 := blk_kp kp11 BG10 (.inr (by omega))
  have hoW11 := hoW10.kp kp11 (by omega) (.inl (by omega))
  have t11 : Below w.heap.size w w11 := t10.trans (kp11.1.mono (by omega))
  clear cG cG10 hoW10 hoG10
  have cG11 : ∀ i, w11.cell? ⟨w5.heap.size, i, none⟩ = _ := fun i => cell_of_row w11 _ i _ _ (0, 0) BG11
  have yG11 : w5.heap.size < w11.heap.size := (Array.getElem?_eq_some_iff.1 BG11).1
  have cH : ∀ W, Below w11.heap.size w11 W → Calls Tryz.prog 17 #[dkV vr vf vn FG cs.length g1 KG vk.length g2 TG vt.length g3, .int .i64 1] W fun e w' => e = .returned (.int .i64 (E : Int)) ∧ Below W.heap.size W w' := fun W hW => by
    have := heldDV_any vr vf vn w4i.heap.size w5.heap.size cs.length FG g1 fsG KG g2 vk.length TG g3 vt.length 1 W (hoG11.below hW (by omega)) HGL.out (Nat.le_refl _) HE2.out
    rwa [hE.out] at this
  go_wp2_with fail
  refine (cH _ (Below.refl _ _)).mono ?_
  rintro e w12 ⟨rfl, hb12⟩
  have z12 := hb12.size
  have t12 := t11.trans (hb12.mono t11.size)
  have BP12 := blk_be hb12 BP11
  have BW12 := blk_be hb12 BW11
  have BG12 := blk_be hb12 BG11
  have hoW12 := hoW11.below hb12 (by omega)
  clear cG11
  have cP12 : ∀ i, w12.cell? ⟨w.heap.size, i, none⟩ = _ := fun i => cell_of_row w12 _ i _ _ (0, 0) BP12
  have yP12 : w.heap.size < w12.heap.size := (Array.getElem?_eq_some_iff.1 BP12).1
  go_wp2_with fail
  refine (toD_any r f n FA es c1 KA ks c2 TA ts c3 _ (hr.below t12) hg).mono ?_
  rintro e w13o ⟨FA13, k1, fs13, KA13, k2, TA13, k3, rfl, hd13, ho13, hb13o⟩
  have hcap13 : ts.length ≤ k3 := by obtain ⟨_, _, _, _, _, _, _, h6, _⟩ := ho13.g; exact h6.cap
  have t13o := t12.trans (hb13o.mono t12.size)
  go_wp2_with fail
  refine (toI_any QA qc cuts w13o (hq.below t13o) hql).mono ?_
  rintro e w13 ⟨QA13, q13, rfl, hoI13, hbI13⟩
  have hb13 := hb13o.trans (hbI13.mono hb13o.size)
  have z13 := hb13.size
  have t13 := t12.trans (hb13.mono t12.size)
  have cJ := diskCrash_impl turns QA13 q13 cuts r f n FA13 es fs13 k1 KA13 ks k2 TA13 ts k3 w13 (Dr.below ho13.rd hbI13) hd13 hg hcap13 (ints_cs (Oe.sl (fun _ => rfl) hoI13)) hql
  rw [hV.out] at cJ
  clear cP12
  go_wp2_with fail
  refine cJ.mono ?_
  rintro e w14 ⟨FH, m1, fsH, KH, m2, TH, m3, he, hdH, hoH, hb14⟩
  dsimp only at he hdH hoH
  subst he
  have b1214 := hb13.trans (hb14.mono hb13.size)
  have t14 := t12.trans (b1214.mono t12.size)
  have z14 := b1214.size
  have BW14 := blk_be b1214 BW12
  have BG14 := blk_be b1214 BG12
  have hoW14 := hoW12.below b1214 (by omega)
  clear cJ
  have cW14 : ∀ i, w14.cell? ⟨w3.heap.size, i, none⟩ = _ := fun i => cell_of_row w14 _ i _ _ (0, 0) BW14
  have yW14 : w3.heap.size < w14.heap.size := (Array.getElem?_eq_some_iff.1 BW14).1
  have b14 : Below w14.heap.size w14 (w14.alloc (.cells (dkC vr vf vn FH cs.length m1 KH vk.length m2 TH vt.length m3) 35)) := (Below.refl _ _).alloc (Nat.le_refl _) _
  go_wp2_with fail
  refine (eqDV_any vr vf vn FH cs.length m1 KH m2 TH m3 FW a1 KW a2 TW a3 cs fsH fsW vk vt _ rfl hdH hdW (Dr.below hoH.rd b14) (Dr.below hoW14.rd b14) vcl VCB.out vkl vtl).mono ?_
  rintro e w15 ⟨rfl, hb15⟩
  have b1415 := b14.trans (hb15.mono b14.size)
  have t15 := t14.trans (b1415.mono t14.size)
  have BG15 := blk_be b1415 BG14
  clear cW14
  have cG15 : ∀ i, w15.cell? ⟨w5.heap.size, i, none⟩ = _ := fun i => cell_of_row w15 _ i _ _ (0, 0) BG15
  have yG15 : w5.heap.size < w15.heap.size := (Array.getElem?_eq_some_iff.1 BG15).1
  go_wp2_with fail
  refine (cH _ ((hb12.trans (b1214.mono hb12.size)).trans (b1415.mono (by omega)))).mono ?_
  rintro e w16 ⟨rfl, hb16⟩
  go_wp2_with fail
  go_ret
  exact ⟨rfl, t15.trans (hb16.mono t15.size)⟩
end Go.Proofs.YtljpeiflnimblaaGreat
