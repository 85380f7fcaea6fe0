/- Find: both ways. -/
import Derived.Test.YtpaeffmjkkikbaaGreatDoorNz
import Derived.Test.YtpaeffmjkkikbaaGreatDoorPh
import Derived.Test.YtpaeffmjkkikbaaGreatDoorHc
namespace Go.Proofs.YtpaeffmjkkikbaaGreatDoor
open Go.RowKit
set_option linter.unusedVariables false
set_option maxRecDepth 100000

theorem results_tmp5 {fn : Func} {t u v x y : Tmp} (h : fn.results = #[.tmp t, .tmp u, .tmp v, .tmp x, .tmp y]) (tmps : Array Value) (P : Program) (w : World) :
    (results fn tmps).run P w = .ok (.tuple #[tmps.getD t undef, tmps.getD u undef, tmps.getD v undef, tmps.getD x undef, tmps.getD y undef]) w := by
  simp [results, h]
abbrev FdOut := Int × Int × List UInt8 × List (List UInt8) × Int
/-- What Find answers. -/
def findV (r f n : Int) (cs : List (Int × List UInt8 × Int)) (u : Nat) (ks : List Lk) (ts : List Tn) : FdOut :=
  if dkB r f n cs u ks ts = true then (if (nwV r f n cs u ks ts).1 = 0 then (0, 1, [], [], 0)
    else ((nwV r f n cs u ks ts).1, (nwV r f n cs u ks ts).2.1, (nwV r f n cs u ks ts).2.2,
      (jrR (bodV r f n cs u ks ts (bstr (nmL logS (nwV r f n cs u ks ts).1))) ((bodV r f n cs u ks ts (bstr (nmL logS (nwV r f n cs u ks ts).1))).length + 1) (nwV r f n cs u ks ts).2.1 0).1, 0)) else (0, 0, [], [], 1)
theorem findV_no {r f n : Int} {cs : List (Int × List UInt8 × Int)} {u : Nat} {ks : List Lk} {ts : List Tn} (h : dkB r f n cs u ks ts = false) : findV r f n cs u ks ts = (0, 0, [], [], 1) := by
  rw [findV, if_neg (by rw [h]; decide)]
theorem findV_new {r f n : Int} {cs : List (Int × List UInt8 × Int)} {u : Nat} {ks : List Lk} {ts : List Tn} (h : dkB r f n cs u ks ts = true) {g s : Int} {us : List UInt8} (hn : nwV r f n cs u ks ts = (g, s, us)) (hg : g = 0) : findV r f n cs u ks ts = (0, 1, [], [], 0) := by
  rw [findV, if_pos h, hn, if_pos hg]
theorem findV_yes {r f n : Int} {cs : List (Int × List UInt8 × Int)} {u : Nat} {ks : List Lk} {ts : List Tn} (h : dkB r f n cs u ks ts = true) {g s : Int} {us B : List UInt8} {R : Option (List UInt8)} {nm : ByteArray} (hn : nwV r f n cs u ks ts = (g, s, us)) (hg : ¬ g = 0) (hm : bstr (nmL logS g) = nm) (hR : readV r f n cs u ks ts nm = R) (hb : R.getD [] = B) : findV r f n cs u ks ts = (g, s, us, (jrR B (B.length + 1) s 0).1, 0) := by
  have e : bodV r f n cs u ks ts (bstr (nmL logS g)) = B := by rw [hm, bodV, hR, hb]
  rw [findV, if_pos h, hn, if_neg hg]
  dsimp only
  rw [e]
theorem jr_none (s : Int) : (jrR [] (([] : List UInt8).length + 1) s 0).1 = [] := by
  have h : frR [] (0 : Int) = (0, [], 0, 2) := frR_mark (z := 0) (Nat.le_refl _) (by simp)
  rw [List.length_nil, jrR_no h (by omega)]
/-- Two numbers, bytes, loads and a number, in memory of the caller's own: the loads' lies behind the bytes'. -/
def FdPost (w : World) (r : FdOut) (e : Ending) (w' : World) : Prop :=
  ∃ A c A' c' m fs mid, Hid (r.2.2.2.1 = datas fs) ∧ fs.length = m ∧ m ≤ 1048576 ∧ tot fs ≤ 1048576 ∧ e = .returned (.tuple #[.int .i64 r.1, .int .i64 r.2.1, .slice A r.2.2.1.length c, .slice A' m c', .int .i64 r.2.2.2.2]) ∧ (∀ e, e ∈ fs → Dj e.1 A') ∧ Ob w' w.heap.size A c r.2.2.1 ∧ InB w.heap.size mid A ∧ w.heap.size ≤ mid ∧ mid ≤ w'.heap.size ∧ Own w' mid w'.heap.size A' fs ∧ Below w.heap.size w w'
theorem Own.nil {w : World} {lo hi : Nat} (h : lo ≤ hi) : Own w lo hi none [] := ⟨.inl rfl, fun _ h => (by cases h), h⟩
theorem FdPost.no {w w' : World} {g s k : Int} {r : FdOut} (h : Hid (r = (g, s, [], [], k))) (hb : Below w.heap.size w w') : FdPost w r (.returned (.tuple #[.int .i64 g, .int .i64 s, .slice none 0 0, .slice none 0 0, .int .i64 k])) w' := by
  rw [h.out]
  exact ⟨none, 0, none, 0, 0, [], w.heap.size, rfl, rfl, by omega, by simp [tot], rfl, fun _ h => (by cases h), ownsG_nil _ _ _ _, fun _ h => (by cases h), Nat.le_refl _, hb.size, Own.nil hb.size, hb⟩
theorem FdPost.yes {w w' : World} {g s : Int} {r : FdOut} {us : List UInt8} {A A' : Option Addr} {c c' m mid : Nat} {fs : List Sl} (h : Hid (r = (g, s, us, datas fs, 0))) (hm : fs.length = m) (hm2 : m ≤ 1048576) (ht : tot fs ≤ 1048576) (hj : ∀ e, e ∈ fs → Dj e.1 A') (ho : Ob w' w.heap.size A c us) (hA : InB w.heap.size mid A) (h1 : w.heap.size ≤ mid) (h2 : mid ≤ w'.heap.size) (hw : Own w' mid w'.heap.size A' fs) (hb : Below w.heap.size w w') : FdPost w r (.returned (.tuple #[.int .i64 g, .int .i64 s, .slice A us.length c, .slice A' m c', .int .i64 0])) w' := by
  rw [h.out]
  exact ⟨A, c, A', c', m, fs, mid, rfl, hm, hm2, ht, rfl, hj, ho, hA, h1, h2, hw, hb⟩
theorem ld_FnExactFind {w : World} (h : laidMetH Tryz.prog Rows.fnExactFindRow.laid w) : Lv w := by
  rw [MakeChecks.laidMetH_plain _ _ _ (by kernel_rfl)] at h
  exact lv_met h
set_option maxHeartbeats 4000000 in
theorem fnd_spec (r f n : Int) (FA : Option Addr) (es fs : List Fl) (c1 : Nat) (KA : Option Addr) (ks : List Lk) (c2 : Nat) (TA : Option Addr) (ts : List Tn) (c3 : Nat) (w : World) (hr : Dr w FA fs KA ks TA ts) (hd : Hid (fs.map fc = es.map fc)) (hg : Good es ks ts) :
    Calls Tryz.prog 14 #[dkV r f n FA es.length c1 KA ks.length c2 TA ts.length c3] w (FdPost w (findV r f n (es.map fc) (ftot es) ks ts)) := by
  have hb0 : Below w.heap.size w (w.alloc (.cells (dkC r f n FA es.length c1 KA ks.length c2 TA ts.length c3) 35)) := by (repeat (first | exact Below.refl _ _ | (refine Below.alloc ?_ (by first | omega | (simp; done) | (simp; omega)) _) | (refine Below.drew ?_) | (refine below_drewN ?_ _) | (refine below_at1 ?_ (by first | omega | (simp; done) | (simp; omega))) | (refine Below.setCell ?_ (by first | omega | (simp; done) | (simp; omega)) _) | (refine Below.trans ?_ (Below.mono (by assumption) (by first | omega | (simp; done) | (simp; omega))))))
  have B0 : (w.alloc (.cells (dkC r f n FA es.length c1 KA ks.length c2 TA ts.length c3) 35)).heap[w.heap.size]? = some (.cells (dkC r f n FA es.length c1 KA ks.length c2 TA ts.length c3) 35 (0, 0)) := heap_alloc_new _ _
  have cok := okSpec_any r f n FA es fs c1 KA ks c2 TA ts c3 _ (hr.below hb0) hd hg
  cases hv : dkB r f n (es.map fc) (ftot es) ks ts with
  | false =>
    have HV := Lib.hid (findV_no hv)
    rw [hv] at cok
    clear hv
    go_enter Tryz.func14, Tryz.ntmps14
    go_wp2_with fail
    refine cok.mono ?_
    rintro e w1 ⟨rfl, hb1⟩
    have t1 := hb0.trans (hb1.mono hb0.size)
    go_wp2_with fail
    ((try simp only [Exit.inBlock, Exit.then]); refine bodyPost_ret (results_tmp5 rfl _ _ _) rfl ?_)
    exact FdPost.no HV t1
  | true =>
  have cN := fun W (hb : Below w.heap.size w W) => newest_spec r f n FA es fs c1 KA ks c2 TA ts c3 W (hr.below hb) hd hg
  have cR := fun nm W (hb : Below w.heap.size w W) => diskRead_spec r f n FA es fs c1 KA ks c2 TA ts c3 nm W (hr.below hb) hd hg
  have hbl := fun nm => bodV_len r f n es (ftot es) ks ts nm hg.ey
  have hbd := nwV_bd r f n es (ftot es) ks ts hg.ey
  obtain ⟨⟨G, S, L⟩, hN⟩ : ∃ V, Hid (nwV r f n (es.map fc) (ftot es) ks ts = V) := ⟨_, Lib.hid rfl⟩
  rw [hN.out] at cN hbd
  have hG9 : 0 ≤ G ∧ G ≤ 1000000000 := hbd.1
  have hS9 : 0 ≤ S ∧ S ≤ 1000000000 := hbd.2.1
  have HV0 := Lib.hid (fun hg => findV_new hv hN.out hg)
  obtain ⟨nm, hnm⟩ : ∃ nm, Hid (bstr (nmL logS G) = nm) := ⟨_, Lib.hid rfl⟩
  obtain ⟨R, hR⟩ : ∃ R, Hid (readV r f n (es.map fc) (ftot es) ks ts nm = R) := ⟨_, Lib.hid rfl⟩
  have hbl2 := hbl nm
  have cR2 := cR nm
  rw [bodV, hR.out] at hbl2
  rw [hR.out] at cR2
  obtain ⟨B, hB⟩ : ∃ B, Hid (R.getD [] = B) := ⟨_, Lib.hid rfl⟩
  rw [hB.out] at hbl2
  have HV1 := Lib.hid (fun hg => findV_yes hv hN.out hg hnm.out hR.out hB.out)
  rw [hv] at cok
  obtain ⟨FV, hFV⟩ : ∃ FV, Hid (findV r f n (es.map fc) (ftot es) ks ts = FV) := ⟨_, Lib.hid rfl⟩
  rw [hFV.out] at HV0 HV1 ⊢
  clear hr hd hg hv hbd hbl cR hFV hN
  go_enter Tryz.func14, Tryz.ntmps14
  go_wp2_with fail
  refine cok.mono ?_
  rintro e w1 ⟨rfl, hb1⟩
  have t1 := hb0.trans (hb1.mono hb0.size)
  obtain ⟨B1, y, _, z1⟩ := keep_blk hb1 (g := w.heap.size) B0
  have q0 : w1.cell? ⟨w.heap.size, 0, none⟩ = some (.int .i64 r) := y 0; have q1 : w1.cell? ⟨w.heap.size, 1, none⟩ = some (.int .i64 f) := y 1; have q2 : w1.cell? ⟨w.heap.size, 2, none⟩ = some (.int .i64 n) := y 2; have q3 : w1.cell? ⟨w.heap.size, 3, none⟩ = some (.slice FA es.length c1) := y 3; have q4 : w1.cell? ⟨w.heap.size, 4, none⟩ = some (.slice KA ks.length c2) := y 4; have q5 : w1.cell? ⟨w.heap.size, 5, none⟩ = some (.slice TA ts.length c3) := y 5
  clear y B0 cok
  go_wp2_with fail
  refine (cN _ t1).mono ?_
  intro e w2 hpost
  obtain ⟨A2, d2, rfl, ho2, hb2⟩ := NwPost.out hpost
  have t2 := t1.trans (hb2.mono t1.size)
  have B2 := (hb2.block w.heap.size (by simpa using z1)).trans B1
  have i2 := ho2.inB
  clear hpost q0 q1 q2 q3 q4 q5 cN B1
  by_cases hG : G = 0
  · have e0 : (G == 0) = true := by rw [hG]; rfl
    have HV := Lib.hid (HV0.out hG)
    clear hG HV0 HV1
    go_wp2_with fail
    ((try simp only [Exit.inBlock, Exit.then]); refine bodyPost_ret (results_tmp5 rfl _ _ _) rfl ?_)
    exact FdPost.no HV t2
  have e0 : (G == 0) = false := by rw [beq_eq_false_iff_ne]; exact hG
  have HV := Lib.hid (HV1.out hG)
  clear hG HV0 HV1
  go_wp2_with fail
  have f0 : Below w2.heap.size w2 w2.drew := (Below.refl _ _).drew
  have B2d : w2.drew.heap[w.heap.size]? = some (.cells (dkC r f n FA es.length c1 KA ks.length c2 TA ts.length c3) 35 (0, 0)) := B2
  refine wp_region_held_drew (S := fun w' => w'.heap[w.heap.size]? = some (.cells (dkC r f n FA es.length c1 KA ks.length c2 TA ts.length c3) 35 (0, 0))) (by kernel_rfl) (B2d) (fun _ => ?_)
  refine wpAnyH_take (i := 0) (v := dkV r f n FA es.length c1 KA ks.length c2 TA ts.length c3) rfl (by kernel_rfl) (by kernel_rfl) (by kernel_rfl) (fun _ _ _ h => h) (Or.inl ⟨by rfl, (by intro w' hS; have q := fun i => cell_of_row w' _ i _ _ (0, 0) hS; go_simp; try first | rfl | (simp [*, Addr.add_lit]; done))⟩) (B2d) ?_
  try simp only [Act.put, List.getElem_toArray, List.getElem_cons_zero, List.setIfInBounds_toArray, List.set_cons_zero, List.set_cons_succ]
  refine wpAnyH_take (i := 1) (v := .int .i64 G) rfl (by kernel_rfl) (by kernel_rfl) (by kernel_rfl) (fun _ _ _ h => h) (Or.inl ⟨by rfl, (by intro w' hS; skip; go_simp; try first | rfl | (simp [*, Addr.add_lit]; done))⟩) (B2d) ?_
  try simp only [Act.put, List.getElem_toArray, List.getElem_cons_succ, List.getElem_cons_zero, List.setIfInBounds_toArray, List.set_cons_zero, List.set_cons_succ]
  refine wpAnyH_ready (rs := [2]) (by kernel_rfl) (by simp) ?_
  refine AllReadyH.cons rfl (fun K hK => ?_) AllReadyH.nil
  go_simp
  refine (logName_spec G _ (by omega)).mono ?_
  rintro e w3 ⟨he, hb3⟩
  rw [hnm.out] at he
  subst he
  have B3 := (hb3.block w.heap.size (by show _ < w2.heap.size; have := hb2.size; omega)).trans B2d
  have b23 : Below w2.heap.size w2 w3 := f0.trans hb3
  have t3 := t2.trans (b23.mono t2.size)
  refine hK.out _ _ (B3) (fun _ => ?_)
  clear hK K
  try simp only [Act.put, List.getElem_toArray, List.getElem_cons_succ, List.getElem_cons_zero, List.setIfInBounds_toArray, List.set_cons_zero, List.set_cons_succ]
  refine wpAnyH_ready (rs := [3]) (by kernel_rfl) (by simp) ?_
  refine AllReadyH.cons rfl (fun K hK => ?_) AllReadyH.nil
  go_simp
  refine (cR2 w3 t3).mono ?_
  rintro e w4 ⟨hb4, A4, d4, he, ho4⟩
  rw [hB.out] at he ho4
  obtain ⟨ok, hok⟩ : ∃ ok, Hid (R.isSome = ok) := ⟨_, Lib.hid rfl⟩
  rw [hok.out] at he
  subst he
  have B4 := (hb4.block w.heap.size (Array.getElem?_eq_some_iff.1 B3).1).trans B3
  have t4 := t3.trans (hb4.mono t3.size)
  refine hK.out _ _ (B4) (fun _ => ?_)
  clear hK K
  try simp only [Act.put, List.getElem_toArray, List.getElem_cons_succ, List.getElem_cons_zero, List.setIfInBounds_toArray, List.set_cons_zero, List.set_cons_succ]
  refine wpAnyH_take (i := 4) (v := .tuple #[.slice A4 B.length d4, .bool ok]) rfl (by kernel_rfl) (by kernel_rfl) (by kernel_rfl) (fun _ _ _ h => h) (Or.inl ⟨by rfl, (by intro w' hS; skip; go_simp; try first | rfl | (simp [*, Addr.add_lit]; done))⟩) (B4) ?_
  try simp only [Act.put, List.getElem_toArray, List.getElem_cons_succ, List.getElem_cons_zero, List.setIfInBounds_toArray, List.set_cons_zero, List.set_cons_succ]
  refine wpAnyH_take (i := 5) (v := .slice A4 B.length d4) rfl (by kernel_rfl) (by kernel_rfl) (by kernel_rfl) (fun _ _ _ h => h) (Or.inl ⟨by rfl, (by intro w' hS; skip; go_simp; try first | rfl | (simp [*, Addr.add_lit]; done))⟩) (B4) ?_
  try simp only [Act.put, List.getElem_toArray, List.getElem_cons_succ, List.getElem_cons_zero, List.setIfInBounds_toArray, List.set_cons_zero, List.set_cons_succ]
  refine wpAnyH_take (i := 6) (v := .bool ok) rfl (by kernel_rfl) (by kernel_rfl) (by kernel_rfl) (fun _ _ _ h => h) (Or.inl ⟨by rfl, (by intro w' hS; skip; go_simp; try first | rfl | (simp [*, Addr.add_lit]; done))⟩) (B4) ?_
  try simp only [Act.put, List.getElem_toArray, List.getElem_cons_succ, List.getElem_cons_zero, List.setIfInBounds_toArray, List.set_cons_zero, List.set_cons_succ]
  refine wpAnyH_take (i := 7) (v := .slice A4 B.length d4) rfl (by kernel_rfl) (by kernel_rfl) (by kernel_rfl) (fun _ _ _ h => h) (Or.inl ⟨by rfl, (by intro w' hS; skip; go_simp; try first | rfl | (simp [*, Addr.add_lit]; done))⟩) (B4) ?_
  try simp only [Act.put, List.getElem_toArray, List.getElem_cons_succ, List.getElem_cons_zero, List.setIfInBounds_toArray, List.set_cons_zero, List.set_cons_succ]
  refine wpAnyH_take (i := 8) (v := .bool ok) rfl (by kernel_rfl) (by kernel_rfl) (by kernel_rfl) (fun _ _ _ h => h) (Or.inl ⟨by rfl, (by intro w' hS; skip; go_simp; try first | rfl | (simp [*, Addr.add_lit]; done))⟩) (B4) ?_
  try simp only [Act.put, List.getElem_toArray, List.getElem_cons_succ, List.getElem_cons_zero, List.setIfInBounds_toArray, List.set_cons_zero, List.set_cons_succ]
  refine wpAnyH_done (by kernel_rfl) ?_ _
  have b24 : Below w2.heap.size w2 w4 := b23.trans (hb4.mono b23.size)
  have ho24 : Ob w4 w1.heap.size A2 d2 L := ho2.below b24 (Nat.le_refl _)
  have z4 := t4.size
  have z24 := b24.size
  have z01 := t1.size
  clear B2d B3 B4 f0 b23 hb3 hb4 cR2
  go_wp2_with fail
  refine (journalRead_spec A4 d4 B S w4 ho4.by_ ho4.le_cap (by omega) (by omega) (by omega)).mono ?_
  rintro e w5 ⟨A5, d5, m5, fs5, q5, hr5, hn5, hN5, ht5, rfl, hdj5, hw5, hb5⟩
  have HJ : Hid (FV = (G, S, L, datas fs5, 0)) := by show _ = _; rw [HV.out, hr5.out]
  have z45 := hb5.size
  go_wp2_with fail
  ((try simp only [Exit.inBlock, Exit.then]); refine bodyPost_ret (results_tmp5 rfl _ _ _) rfl ?_)
  exact FdPost.yes HJ hn5 (by omega) (by omega) hdj5 ((ho24.below hb5 (Nat.le_refl _)).mono z01) (fun ad ha => by have := i2 ad ha; omega) z4 z45 hw5 (t4.trans (hb5.mono z4))
set_option maxHeartbeats 4000000 in
theorem fnd_impl (r f n : Int) (FA : Option Addr) (es fs : List Fl) (c1 : Nat) (KA : Option Addr) (ks : List Lk) (c2 : Nat) (TA : Option Addr) (ts : List Tn) (c3 : Nat) (w : World) (hr : Dr w FA fs KA ks TA ts) (hd : Hid (fs.map fc = es.map fc)) (hg : Good es ks ts) (hl : Lv w) :
    Calls Tryz.prog 15 #[dkV r f n FA es.length c1 KA ks.length c2 TA ts.length c3] w (FdPost w (findV r f n (es.map fc) (ftot es) ks ts)) := by
  have hb0 : Below w.heap.size w (w.alloc (.cells (dkC r f n FA es.length c1 KA ks.length c2 TA ts.length c3) 35)) := by (repeat (first | exact Below.refl _ _ | (refine Below.alloc ?_ (by first | omega | (simp; done) | (simp; omega)) _) | (refine Below.drew ?_) | (refine below_drewN ?_ _) | (refine below_at1 ?_ (by first | omega | (simp; done) | (simp; omega))) | (refine Below.setCell ?_ (by first | omega | (simp; done) | (simp; omega)) _) | (refine Below.trans ?_ (Below.mono (by assumption) (by first | omega | (simp; done) | (simp; omega))))))
  have B0 : (w.alloc (.cells (dkC r f n FA es.length c1 KA ks.length c2 TA ts.length c3) 35)).heap[w.heap.size]? = some (.cells (dkC r f n FA es.length c1 KA ks.length c2 TA ts.length c3) 35 (0, 0)) := heap_alloc_new _ _
  have cok := okImpl_any r f n FA es fs c1 KA ks c2 TA ts c3 _ (hr.below hb0) hd hg
  cases hv : dkB r f n (es.map fc) (ftot es) ks ts with
  | false =>
    have HV := Lib.hid (findV_no hv)
    rw [hv] at cok
    clear hv
    go_enter Tryz.func15, Tryz.ntmps15
    go_wp2_with fail
    refine cok.mono ?_
    rintro e w1 ⟨rfl, hb1⟩
    have t1 := hb0.trans (hb1.mono hb0.size)
    go_wp2_with fail
    ((try simp only [Exit.inBlock, Exit.then]); refine bodyPost_ret (results_tmp5 rfl _ _ _) rfl ?_)
    exact FdPost.no HV t1
  | true =>
  have cN := fun W (hb : Below w.heap.size w W) => newest_impl r f n FA es fs c1 KA ks c2 TA ts c3 W (hr.below hb) hd hg (hl.below hb (Nat.le_refl _))
  have cR := fun nm W (hb : Below w.heap.size w W) => diskRead_impl r f n FA es fs c1 KA ks c2 TA ts c3 nm W (hr.below hb) hd hg
  have hbl := fun nm => bodV_len r f n es (ftot es) ks ts nm hg.ey
  have hbd := nwV_bd r f n es (ftot es) ks ts hg.ey
  obtain ⟨⟨G, S, L⟩, hN⟩ : ∃ V, Hid (nwV r f n (es.map fc) (ftot es) ks ts = V) := ⟨_, Lib.hid rfl⟩
  rw [hN.out] at cN hbd
  have hG9 : 0 ≤ G ∧ G ≤ 1000000000 := hbd.1
  have hS9 : 0 ≤ S ∧ S ≤ 1000000000 := hbd.2.1
  have HV0 := Lib.hid (fun hg => findV_new hv hN.out hg)
  obtain ⟨nm, hnm⟩ : ∃ nm, Hid (bstr (nmL logS G) = nm) := ⟨_, Lib.hid rfl⟩
  obtain ⟨R, hR⟩ : ∃ R, Hid (readV r f n (es.map fc) (ftot es) ks ts nm = R) := ⟨_, Lib.hid rfl⟩
  have hbl2 := hbl nm
  have cR2 := cR nm
  rw [bodV, hR.out] at hbl2
  rw [hR.out] at cR2
  obtain ⟨B, hB⟩ : ∃ B, Hid (R.getD [] = B) := ⟨_, Lib.hid rfl⟩
  rw [hB.out] at hbl2
  have HV1 := Lib.hid (fun hg => findV_yes hv hN.out hg hnm.out hR.out hB.out)
  rw [hv] at cok
  obtain ⟨FV, hFV⟩ : ∃ FV, Hid (findV r f n (es.map fc) (ftot es) ks ts = FV) := ⟨_, Lib.hid rfl⟩
  rw [hFV.out] at HV0 HV1 ⊢
  clear hr hd hg hv hbd hbl cR hFV hN
  go_enter Tryz.func15, Tryz.ntmps15
  go_wp2_with fail
  refine cok.mono ?_
  rintro e w1 ⟨rfl, hb1⟩
  have t1 := hb0.trans (hb1.mono hb0.size)
  obtain ⟨B1, y, _, z1⟩ := keep_blk hb1 (g := w.heap.size) B0
  have q0 : w1.cell? ⟨w.heap.size, 0, none⟩ = some (.int .i64 r) := y 0; have q1 : w1.cell? ⟨w.heap.size, 1, none⟩ = some (.int .i64 f) := y 1; have q2 : w1.cell? ⟨w.heap.size, 2, none⟩ = some (.int .i64 n) := y 2; have q3 : w1.cell? ⟨w.heap.size, 3, none⟩ = some (.slice FA es.length c1) := y 3; have q4 : w1.cell? ⟨w.heap.size, 4, none⟩ = some (.slice KA ks.length c2) := y 4; have q5 : w1.cell? ⟨w.heap.size, 5, none⟩ = some (.slice TA ts.length c3) := y 5
  clear y B0 cok
  go_wp2_with fail
  refine (cN _ t1).mono ?_
  intro e w2 hpost
  obtain ⟨A2, d2, rfl, ho2, hb2⟩ := NwPost.out hpost
  have t2 := t1.trans (hb2.mono t1.size)
  have B2 := (hb2.block w.heap.size (by simpa using z1)).trans B1
  have i2 := ho2.inB
  clear hpost q0 q1 q2 q3 q4 q5 cN B1
  by_cases hG : G = 0
  · have e0 : (G == 0) = true := by rw [hG]; rfl
    have HV := Lib.hid (HV0.out hG)
    clear hG HV0 HV1
    go_wp2_with fail
    ((try simp only [Exit.inBlock, Exit.then]); refine bodyPost_ret (results_tmp5 rfl _ _ _) rfl ?_)
    exact FdPost.no HV t2
  have e0 : (G == 0) = false := by rw [beq_eq_false_iff_ne]; exact hG
  have HV := Lib.hid (HV1.out hG)
  clear hG HV0 HV1
  go_wp2_with fail
  have f0 : Below w2.heap.size w2 w2.drew := (Below.refl _ _).drew
  have B2d : w2.drew.heap[w.heap.size]? = some (.cells (dkC r f n FA es.length c1 KA ks.length c2 TA ts.length c3) 35 (0, 0)) := B2
  refine wp_region_held_drew (S := fun w' => w'.heap[w.heap.size]? = some (.cells (dkC r f n FA es.length c1 KA ks.length c2 TA ts.length c3) 35 (0, 0))) (by kernel_rfl) (B2d) (fun _ => ?_)
  refine wpAnyH_take (i := 0) (v := dkV r f n FA es.length c1 KA ks.length c2 TA ts.length c3) rfl (by kernel_rfl) (by kernel_rfl) (by kernel_rfl) (fun _ _ _ h => h) (Or.inl ⟨by rfl, (by intro w' hS; have q := fun i => cell_of_row w' _ i _ _ (0, 0) hS; go_simp; try first | rfl | (simp [*, Addr.add_lit]; done))⟩) (B2d) ?_
  try simp only [Act.put, List.getElem_toArray, List.getElem_cons_zero, List.setIfInBounds_toArray, List.set_cons_zero, List.set_cons_succ]
  refine wpAnyH_take (i := 1) (v := .int .i64 G) rfl (by kernel_rfl) (by kernel_rfl) (by kernel_rfl) (fun _ _ _ h => h) (Or.inl ⟨by rfl, (by intro w' hS; skip; go_simp; try first | rfl | (simp [*, Addr.add_lit]; done))⟩) (B2d) ?_
  try simp only [Act.put, List.getElem_toArray, List.getElem_cons_succ, List.getElem_cons_zero, List.setIfInBounds_toArray, List.set_cons_zero, List.set_cons_succ]
  refine wpAnyH_ready (rs := [2]) (by kernel_rfl) (by simp) ?_
  refine AllReadyH.cons rfl (fun K hK => ?_) AllReadyH.nil
  go_simp
  refine (logName_impl G _ (by omega) (hl.1.below (t2.trans (f0.mono t2.size)) (Nat.le_refl _))).mono ?_
  rintro e w3 ⟨he, hb3⟩
  rw [hnm.out] at he
  subst he
  have B3 := (hb3.block w.heap.size (by show _ < w2.heap.size; have := hb2.size; omega)).trans B2d
  have b23 : Below w2.heap.size w2 w3 := f0.trans hb3
  have t3 := t2.trans (b23.mono t2.size)
  refine hK.out _ _ (B3) (fun _ => ?_)
  clear hK K
  try simp only [Act.put, List.getElem_toArray, List.getElem_cons_succ, List.getElem_cons_zero, List.setIfInBounds_toArray, List.set_cons_zero, List.set_cons_succ]
  refine wpAnyH_ready (rs := [3]) (by kernel_rfl) (by simp) ?_
  refine AllReadyH.cons rfl (fun K hK => ?_) AllReadyH.nil
  go_simp
  refine (cR2 w3 t3).mono ?_
  rintro e w4 ⟨hb4, A4, d4, he, ho4⟩
  rw [hB.out] at he ho4
  obtain ⟨ok, hok⟩ : ∃ ok, Hid (R.isSome = ok) := ⟨_, Lib.hid rfl⟩
  rw [hok.out] at he
  subst he
  have B4 := (hb4.block w.heap.size (Array.getElem?_eq_some_iff.1 B3).1).trans B3
  have t4 := t3.trans (hb4.mono t3.size)
  refine hK.out _ _ (B4) (fun _ => ?_)
  clear hK K
  try simp only [Act.put, List.getElem_toArray, List.getElem_cons_succ, List.getElem_cons_zero, List.setIfInBounds_toArray, List.set_cons_zero, List.set_cons_succ]
  refine wpAnyH_take (i := 4) (v := .tuple #[.slice A4 B.length d4, .bool ok]) rfl (by kernel_rfl) (by kernel_rfl) (by kernel_rfl) (fun _ _ _ h => h) (Or.inl ⟨by rfl, (by intro w' hS; skip; go_simp; try first | rfl | (simp [*, Addr.add_lit]; done))⟩) (B4) ?_
  try simp only [Act.put, List.getElem_toArray, List.getElem_cons_succ, List.getElem_cons_zero, List.setIfInBounds_toArray, List.set_cons_zero, List.set_cons_succ]
  refine wpAnyH_take (i := 5) (v := .slice A4 B.length d4) rfl (by kernel_rfl) (by kernel_rfl) (by kernel_rfl) (fun _ _ _ h => h) (Or.inl ⟨by rfl, (by intro w' hS; skip; go_simp; try first | rfl | (simp [*, Addr.add_lit]; done))⟩) (B4) ?_
  try simp only [Act.put, List.getElem_toArray, List.getElem_cons_succ, List.getElem_cons_zero, List.setIfInBounds_toArray, List.set_cons_zero, List.set_cons_succ]
  refine wpAnyH_take (i := 6) (v := .bool ok) rfl (by kernel_rfl) (by kernel_rfl) (by kernel_rfl) (fun _ _ _ h => h) (Or.inl ⟨by rfl, (by intro w' hS; skip; go_simp; try first | rfl | (simp [*, Addr.add_lit]; done))⟩) (B4) ?_
  try simp only [Act.put, List.getElem_toArray, List.getElem_cons_succ, List.getElem_cons_zero, List.setIfInBounds_toArray, List.set_cons_zero, List.set_cons_succ]
  refine wpAnyH_take (i := 7) (v := .slice A4 B.length d4) rfl (by kernel_rfl) (by kernel_rfl) (by kernel_rfl) (fun _ _ _ h => h) (Or.inl ⟨by rfl, (by intro w' hS; skip; go_simp; try first | rfl | (simp [*, Addr.add_lit]; done))⟩) (B4) ?_
  try simp only [Act.put, List.getElem_toArray, List.getElem_cons_succ, List.getElem_cons_zero, List.setIfInBounds_toArray, List.set_cons_zero, List.set_cons_succ]
  refine wpAnyH_take (i := 8) (v := .bool ok) rfl (by kernel_rfl) (by kernel_rfl) (by kernel_rfl) (fun _ _ _ h => h) (Or.inl ⟨by rfl, (by intro w' hS; skip; go_simp; try first | rfl | (simp [*, Addr.add_lit]; done))⟩) (B4) ?_
  try simp only [Act.put, List.getElem_toArray, List.getElem_cons_succ, List.getElem_cons_zero, List.setIfInBounds_toArray, List.set_cons_zero, List.set_cons_succ]
  refine wpAnyH_done (by kernel_rfl) ?_ _
  have b24 : Below w2.heap.size w2 w4 := b23.trans (hb4.mono b23.size)
  have ho24 : Ob w4 w1.heap.size A2 d2 L := ho2.below b24 (Nat.le_refl _)
  have z4 := t4.size
  have z24 := b24.size
  have z01 := t1.size
  clear B2d B3 B4 f0 b23 hb3 hb4 cR2
  cases hok2 : ok with
  | false =>
    have HB0 : B = [] := by
      rw [← hB.out]
      cases hRR : R with
      | none => rfl
      | some x => have := hok.out; rw [hRR, hok2] at this; cases this
    have HJ : Hid (FV = (G, S, L, datas [], 0)) := by show _ = _; rw [HV.out, HB0, jr_none]; rfl
    subst hok2
    clear HB0 HV
    go_wp2_with fail
    ((try simp only [Exit.inBlock, Exit.then]); refine bodyPost_ret (results_tmp5 rfl _ _ _) rfl ?_)
    exact FdPost.yes HJ rfl (by omega) (by simp [tot]) (fun _ h => (by cases h)) (ho24.mono z01) (fun ad ha => by have := i2 ad ha; omega) z4 (Nat.le_refl _) (Own.nil (Nat.le_refl _)) t4
  | true =>
  subst hok2
  go_wp2_with fail
  refine (journalRead_impl A4 d4 B S w4 ho4.by_ ho4.le_cap (by omega) (by omega) (by omega)).mono ?_
  rintro e w5 ⟨A5, d5, m5, fs5, q5, hr5, hn5, hN5, ht5, rfl, hdj5, hw5, hb5⟩
  have HJ : Hid (FV = (G, S, L, datas fs5, 0)) := by show _ = _; rw [HV.out, hr5.out]
  have z45 := hb5.size
  go_wp2_with fail
  ((try simp only [Exit.inBlock, Exit.then]); refine bodyPost_ret (results_tmp5 rfl _ _ _) rfl ?_)
  exact FdPost.yes HJ hn5 (by omega) (by omega) hdj5 ((ho24.below hb5 (Nat.le_refl _)).mono z01) (fun ad ha => by have := i2 ad ha; omega) z4 z45 hw5 (t4.trans (hb5.mono z4))
end Go.Proofs.YtpaeffmjkkikbaaGreatDoor
