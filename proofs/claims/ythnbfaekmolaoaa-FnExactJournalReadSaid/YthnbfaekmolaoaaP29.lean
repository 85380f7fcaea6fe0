/- The law of JournalBytes. -/
import Derived.Test.YthnbfaekmolaoaaP28
namespace Go.Proofs.Ythnbfaekmolaoaa
open Go.RowKit
set_option linter.unusedVariables false
set_option maxRecDepth 100000

theorem Ls.lt_ {w : World} {A : Option Addr} {es : List Sl} (h : Ls w A es) : ∀ e, e ∈ es → ∀ ad, e.1 = some ad → e.2.2 ≠ [] → ad.block < w.heap.size := fun e he => (h.2 e he).lt_
theorem By.belowB {w w' : World} {B' : Nat} {A : Option Addr} {bs : List UInt8} (h : By w A bs) (hb : Below B' w w') (hA : ∀ ad, A = some ad → bs ≠ [] → ad.block < B') : By w' A bs := by
  by_cases hn : bs = []
  · exact .inl hn
  · rcases h with h | ⟨b, o, rfl, h⟩
    · exact .inl h
    · exact .inr ⟨b, o, rfl, fun i x hi => (hb.cell (p := ⟨b, o + i, none⟩) (hA ⟨b, o, none⟩ rfl hn)).trans (h i x hi)⟩
theorem Cs.belowB {w w' : World} {B' : Nat} {A : Option Addr} {bs : List Value} (h : Cs w A bs) (hb : Below B' w w') (hA : ∀ ad, A = some ad → bs ≠ [] → ad.block < B') : Cs w' A bs := by
  by_cases hn : bs = []
  · exact .inl hn
  · rcases h with h | ⟨b, o, rfl, h⟩
    · exact .inl h
    · exact .inr ⟨b, o, rfl, fun i x hi => (hb.cell (p := ⟨b, o + i, none⟩) (hA ⟨b, o, none⟩ rfl hn)).trans (h i x hi)⟩
/-- Loads that were there at w stay readable in what changes nothing that was there at w. -/
theorem Ls.belowB {w w1 w2 : World} {B' : Nat} {A : Option Addr} {es : List Sl} (h0 : Ls w A es) (h : Ls w1 A es) (hb : Below B' w1 w2) (hB : w.heap.size ≤ B') : Ls w2 A es := by
  refine ⟨h.1.belowB hb fun ad ha hn => Nat.lt_of_lt_of_le (h0.1.lt_ ad ha hn) hB, fun e he => (h.2 e he).belowB hb fun ad ha hn => Nat.lt_of_lt_of_le (h0.lt_ e he ad ha hn) hB⟩
theorem InB.mono_ {lo hi lo' hi' : Nat} {A : Option Addr} (h : InB lo hi A) (h1 : lo' ≤ lo) (h2 : hi ≤ hi') : InB lo' hi' A := fun ad ha => ⟨Nat.le_trans h1 (h ad ha).1, Nat.lt_of_lt_of_le (h ad ha).2 h2⟩
theorem journalBytes_specN (A : Option Addr) (c n : Nat) (fs es : List Sl) (seq : Int) (w : World) (hn : n = es.length) (hd : Hid (datas fs = datas es)) (ha : Ls w A fs) (hl : es.length + tot es ≤ 1048576) (hs1 : -9223372036854775808 ≤ seq) (hs2 : seq ≤ 9223372036854775807) :
    Calls Try.prog 44 #[.int .i64 seq, .slice A n c] w (PutPost w (jR seq (datas es))) := by
  subst hn
  have h1 := datas_len hd.out
  have h2 := tot_datas hd.out
  rw [← h1, ← hd.out]
  exact journalBytes_spec _ _ _ _ _ ha (by omega) hs1 hs2
theorem journalBytes_implN (A : Option Addr) (c n : Nat) (fs es : List Sl) (seq : Int) (w : World) (hn : n = es.length) (hd : Hid (datas fs = datas es)) (ha : Ls w A fs) (hl : es.length + tot es ≤ 1048576) (hs1 : -9223372036854775808 ≤ seq) (hs2 : seq ≤ 9223372036854775807) :
    Calls Try.prog 40 #[.int .i64 seq, .slice A n c] w (PutPost w (jR seq (datas es))) := by
  subst hn
  have h1 := datas_len hd.out
  have h2 := tot_datas hd.out
  rw [← h1, ← hd.out]
  exact journalBytes_impl _ _ _ _ _ ha (by omega) hs1 hs2
theorem markLoadS_N (A : Option Addr) (c n lo hi : Nat) (fs es : List Sl) (k : Int) (w : World) (hn : n = es.length) (hd : Hid (datas fs = datas es)) (hs : Cs w A (fs.map slv)) (hA : ∀ e, e ∈ fs → Dj e.1 A) (ho : Obs w lo hi fs) (hlo : hi ≤ w.heap.size) (hk : 0 ≤ k) (hk2 : k + tot es ≤ 1099511627776) (hl : es.length ≤ 1099511627776) :
    Calls Try.prog 47 #[.slice A n c, .int .i64 k] w fun e w' => e = .returned (.int .i64 (k + tot es)) ∧ Obs w' lo hi (marked k fs) ∧ Cs w' A (fs.map slv) ∧ Kp lo hi w w' := by
  subst hn
  have h1 := datas_len hd.out
  have h2 := tot_datas hd.out
  rw [← h1, ← h2]
  exact markLoadS_any _ _ _ _ _ _ _ hs hA ho hlo hk (by omega) (by omega)
set_option maxHeartbeats 4000000 in
theorem walk_FnExactJournalBytes (seq : Int) (A : Option Addr) (n c : Nat) (w : World) (hseq : (Lit.int .i64 seq).wf = true) (h : Rd Try.prog w 50 [.slice A n c]) :
    Calls Try.prog 13 #[.int .i64 seq, .slice A n c] w fun e w' => e = .returned (.bool true) ∧ Below w.heap.size w w' := by
  obtain ⟨es, rfl, ha, hm, hmm⟩ := rd_loads h
  obtain ⟨hs1, hs2⟩ := i64_bd hseq
  clear h
  by_cases hbig : (1048576 : Int) < es.length + tot es
  · have HS : Hid (szR 1048576 (es.length + tot es) = -1) := szR_no hbig
    go_enter Try.func13, Try.ntmps13
    go_wp2_with (go_at_call 43; refine (szLoadS_any _ _ _ _ _ ha hm hmm (by omega) (by omega)).mono ?_; rintro e w0 ⟨he, hb0⟩; rw [HS.out] at he; subst he)
    go_ret
    exact ⟨rfl, hb0⟩
  · have HS : Hid (szR 1048576 (es.length + tot es) = 1048576 - (es.length + tot es)) := szR_yes hbig
    have hneg : ¬ (1048576 : Int) - (es.length + tot es) < 0 := by omega
    have hl : es.length + tot es ≤ 1048576 := by omega
    have hle : ∀ e, e ∈ es → e.2.2.length ≤ 1099511627776 := by
      intro e he
      obtain ⟨k, hk, rfl⟩ := List.getElem_of_mem he
      have := tot_get hk
      omega
    clear hbig
    go_enter Try.func13, Try.ntmps13
    go_wp2_with (go_at_call 43; refine (szLoadS_any _ _ _ _ _ ha hm hmm (by omega) (by omega)).mono ?_; rintro e w0 ⟨he, hb0⟩; rw [HS.out] at he; subst he; clear hm hmm)
    have ha0 := ha.below hb0
    have z0 := hb0.size
    refine (toLoadS_any _ _ _ _ ha0 (by omega) hle).mono ?_
    rintro e w1 ⟨A1, c1, f1, rfl, hd1, hl1, hi1, hob1, hb1⟩
    have z1 := hb1.size
    go_wp2_with fail
    refine (journalBytes_specN _ _ _ f1 es seq _ rfl hd1 hl1 hl hs1 hs2).mono ?_
    rintro e w2 ⟨A2, c2, u2, k2, hu2, hk2, rfl, ho2, hb2⟩
    have z2 := hb2.size
    have hlu2 := jR_len (seq := seq) (es := es)
    have hlu : u2.length ≤ 17825792 := by rw [hu2.out]; omega
    clear hlu2
    go_wp2_with fail
    have ha2 := (ha0.below hb1).below hb2
    refine (toLoadS_any _ _ _ _ ha2 (by omega) hle).mono ?_
    rintro e w3 ⟨A3, c3, f3, rfl, hd3, hl3, hi3, hob3, hb3⟩
    have z3 := hb3.size
    go_wp2_with fail
    refine (journalBytes_implN _ _ _ f3 es seq _ rfl hd3 hl3 hl hs1 hs2).mono ?_
    rintro e w4 ⟨A4, c4, u4, k4, hu4, hk4, rfl, ho4, hb4⟩
    have z4 := hb4.size
    have e1 : u4 = u2 := by rw [hu2.out, hu4.out]
    have e2 : k4 = k2 := by rw [hk2.out, hk4.out]
    subst e1 e2
    go_wp2_with fail
    have hy2 := (ho2.by_.below hb3).below hb4
    refine (eqByteS_same _ _ _ _ u4 _ ho4.by_ hy2 (by omega)).mono ?_
    rintro e w4' ⟨rfl, m1, rfl⟩
    go_wp2_with fail
    have ha4 := ((ha2.below hb3).below hb4).drewN m1
    refine (toLoadS_any _ _ _ _ ha4 (by omega) hle).mono ?_
    rintro e w5 ⟨A5, c5, f5, rfl, hd5, hl5, hi5, hob5, hb5⟩
    have hb45 : Below w4.heap.size w4 w5 := Below.trans (below_drewN (Below.refl _ _) m1) hb5
    have z5 := hb45.size
    go_wp2_with fail
    have hl35 := (hl3.below hb4).below hb45
    have hle3 := len_datas hd3.out hle
    refine (eqLoadS_same _ _ _ _ _ f3 f5 _ (datas_len hd3.out) hl35 hl5 (by rw [hd3.out]; exact hd5) (by omega) hle3).mono ?_
    rintro e w6 ⟨rfl, hb6⟩
    have z6 := hb6.size
    have hb46 : Below w4.heap.size w4 w6 := hb45.trans (hb6.mono z5)
    have hB36 : Below w3.heap.size w3 w6 := hb4.trans (hb46.mono z4)
    go_wp2_with fail
    have hl36 := hl35.below hb6
    have hob36 := hob3.below hB36 (Nat.le_refl _)
    refine (markLoadS_N _ _ _ (w2.heap.size + 1) w3.heap.size f3 es 1 _ rfl hd3 hl36.1 (fun e he a a' h1 h2 => by have := hob36.inB e he a h1; have := (hi3 a' h2).2; omega) hob36 hB36.size (by omega) (by omega) (by omega)).mono ?_
    rintro e w7 ⟨rfl, hob7, hcs7, hkp7⟩
    have z7 := hkp7.1.size
    have hy27 : By w7 A2 u4 := By.belowB (hy2.below hb46) hkp7.1 (fun ad h _ => by have := (ho2.inB ad h).2; omega)
    have ho47 : Ob w7 w3.heap.size A4 c4 u4 := hkp7.ob (ho4.below hb46 (Nat.le_refl _)) (Nat.le_refl _)
    have i4 : InB w3.heap.size w4.heap.size A4 := ho4.inB
    have i2 := ho2.inB
    go_wp2_with fail
    refine (eqByteS_same _ _ _ _ u4 _ ho47.by_ hy27 (by omega)).mono ?_
    rintro e w7' ⟨rfl, m3, rfl⟩
    go_wp2_with fail
    refine (markByteS_any _ _ _ _ 1 _ (ho47.drewN m3) (by omega) (by omega) (by omega)).mono ?_
    rintro e w8 ⟨rfl, ho48, hg8⟩
    have z8 : w7.heap.size ≤ w8.heap.size := hg8.size
    have hm8 : By w8 A4 (markL 1 u4.length) := ho48.by_
    have hy28 := By.grown (hy27.drewN m3) hg8 i4 (fun ad h _ => .inl (by have := (i2 ad h).2; omega))
    have t3 : Below w.heap.size w w3 := hb0.trans ((hb1.trans ((hb2.trans (hb3.mono z2)).mono z1)).mono z0)
    have t6 : Below w.heap.size w w6 := t3.trans (hB36.mono t3.size)
    have t7 : Below w.heap.size w w7 := t6.trans (hkp7.1.mono (by omega))
    have t8 : Below w.heap.size w w8 := below_grown (below_drewN t7 m3) hg8 i4 (by omega) (by show _ ≤ w7.heap.size; omega)
    go_wp2_with fail
    refine (heldByteS_any _ _ _ 1 _ hm8 (by omega) (by omega) (by omega)).mono ?_
    rintro e w8' ⟨rfl, rfl⟩
    go_wp2_with fail
    have ha8 := ha.below t8
    refine (toLoadS_any _ _ _ _ ha8 (by omega) hle).mono ?_
    rintro e w9 ⟨A9, c9, f9, rfl, hd9, hl9, hi9, hob9, hb9⟩
    have z9 := hb9.size
    go_wp2_with fail
    refine (journalBytes_implN _ _ _ f9 es seq _ rfl hd9 hl9 hl hs1 hs2).mono ?_
    rintro e w10 ⟨A10, c10, u10, k10, hu10, hk10, rfl, ho10, hb10⟩
    have z10 := hb10.size
    have e1 : u10 = u4 := by rw [hu10.out, hu4.out]
    have e2 : k10 = k4 := by rw [hk10.out, hk4.out]
    subst e1 e2
    go_wp2_with fail
    refine (eqByteS_same _ _ _ _ _ _ ho10.by_ ((hy28.below hb9).below hb10) (by omega)).mono ?_
    rintro e w10' ⟨rfl, m4, rfl⟩
    go_wp2_with fail
    refine (heldByteS_any _ _ _ 1 _ (((hm8.below hb9).below hb10).drewN m4) (by omega) (by omega) (by omega)).mono ?_
    rintro e w11 ⟨rfl, rfl⟩
    go_wp2_with fail
    go_ret
    exact ⟨rfl, below_drewN (t8.trans ((hb9.mono t8.size).trans (hb10.mono (by omega)))) _⟩
end Go.Proofs.Ythnbfaekmolaoaa
