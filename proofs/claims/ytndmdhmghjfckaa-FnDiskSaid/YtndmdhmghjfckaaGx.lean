/- A disk stays valid whatever is done to it, and behind a crash it is valid and holds what was safe: the law. -/
import Derived.Test.YtndmdhmghjfckaaGz
import Derived.Test.YtndmdhmghjfckaaGy
import Derived.Test.YtndmdhmghjfckaaHs
import Derived.Test.YtndmdhmghjfckaaCr
namespace Go.Proofs.Ytndmdhmghjfckaa
open Go.RowKit

set_option linter.unusedVariables false
set_option maxRecDepth 100000

/-- What a file behind a crash has to do with those ahead of it. -/
def Kpt (x : Fl) (es : List Fl) : Prop := (∃ y, y ∈ es ∧ y.1 = x.1) ∧ ∀ y, y ∈ es → y.1 = x.1 → y.2.2 ≤ x.2.1.2.2.length ∧ x.2.1.2.2.length ≤ y.2.1.2.2.length ∧ y.2.1.2.2.take x.2.1.2.2.length = x.2.1.2.2 ∧ x.2.2 = x.2.1.2.2.length
/-- What a crash of a valid disk answers. -/
def CrPost (w : World) (r n : Int) (es : List Fl) (e : Ending) (w' : World) : Prop :=
  ∃ F3 d1 fs K3 d2 dir T3 d3, e = .returned (.tuple #[dkV r (-1) n F3 fs.length d1 K3 dir.length d2 T3 0 d3, .bool true]) ∧ Vd r (-1) n (fs.map fc) dir [] ∧ dir.length = fs.length ∧ (∀ x, x ∈ fs → Kpt x es) ∧ Dr w' F3 fs K3 dir T3 [] ∧ Below w.heap.size w w'
theorem crash_k (t : Int) (B : Option Addr) (d : Nat) (ns : List Int) (r f n : Int) (FA : Option Addr) (es : List Fl) (c1 : Nat) (KA : Option Addr) (ks : List Lk) (c2 : Nat) (TA : Option Addr) (ts : List Tn) (c3 : Nat) (w : World) (hr : Dr w FA es KA ks TA ts) (hv : Vd r f n (es.map fc) ks ts) (hc : ts.length ≤ c3) (hq : Cs w B (ns.map I)) (hql : ns.length ≤ 4) :
    Calls Try.prog 6 #[dkV r f n FA es.length c1 KA ks.length c2 TA ts.length c3, .int .i64 t, .slice B ns.length d] w (CrPost w r n es) := by
  have eV : crashV t ns r f n (es.map fc) (ftot es) ks ts = ⟨r, -1, n, crF2 (max 0 (min t ts.length)).toNat ns (es.map fc) ks ts, crK (max 0 (min t ts.length)).toNat ks ts, [], true⟩ := by
    unfold crashV
    rw [if_pos (by rw [ftot_cu]; exact vd_iff.2 hv)]
    rfl
  have cK := diskCrash_impl t B d ns r f n FA es es c1 KA ks c2 TA ts c3 w hr (Lib.hid rfl) hv.good hc hq (by omega)
  rw [eV] at cK
  refine cK.mono ?_
  rintro e w3 ⟨F3, d1, fs, K3, d2, T3, d3, rfl, hfs, hG, hb3⟩
  have hfs' := hfs.out
  obtain ⟨h1, h2⟩ := hv.crash (max 0 (min t ts.length)).toNat ns
  have h3 := hv.kept (max 0 (min t ts.length)).toNat ns
  simp only at hfs' hG
  rw [← hfs'] at h1 h2 h3
  simp only
  rw [← hfs']
  refine ⟨F3, d1, fs, K3, d2, crK (max 0 (min t ts.length)).toNat ks ts, T3, d3, by simp, h1, by simpa using h2, ?_, hG.dw.rd, hb3⟩
  intro x hx
  obtain ⟨⟨y, hy, hye⟩, h4⟩ := h3 (fc x) (List.mem_map.2 ⟨x, hx, rfl⟩)
  obtain ⟨z, hz, rfl⟩ := List.mem_map.1 hy
  exact ⟨⟨z, hz, hye⟩, fun u hu he => h4 (fc u) (List.mem_map.2 ⟨u, hu, rfl⟩) he⟩

set_option linter.unusedVariables false
set_option maxRecDepth 100000

set_option maxHeartbeats 8000000 in
theorem walk_FnDisk (A : Option Addr) (n c : Nat) (w : World) (h : Rd Try.prog w 22 [.slice A n c]) :
    Calls Try.prog 3 #[.slice A n c] w fun e w' => e = .returned (.bool true) ∧ Below w.heap.size w w' := by
  obtain ⟨xs, rfl, ha, hm⟩ := rd_bytes h
  unfold maxLen at hm
  clear h
  by_cases hbig : 1048576 < xs.length
  · have hbig' : (1048576 : Int) < xs.length := by omega
    go_enter Try.func3, Try.ntmps3
    go_wp2
    go_ret
    exact ⟨rfl, Below.refl _ _⟩
  have hbig' : ¬ (1048576 : Int) < xs.length := by omega
  go_enter Try.func3, Try.ntmps3
  go_wp2_with fail
  refine (makeDisk_any A c xs w ha (by omega)).mono ?_
  rintro e w1 ⟨r, f, n, FA, c1, es, KA, c2, ks, TA, c3, ts, rfl, hv, hc, hcp, hr1, hb1⟩
  have z1 := hb1.size
  have D2 := heap_alloc_new w1 (.cells (dkC r f n FA es.length c1 KA ks.length c2 TA ts.length c3) 27)
  have b12 : Below w1.heap.size w1 (w1.alloc (.cells (dkC r f n FA es.length c1 KA ks.length c2 TA ts.length c3) 27)) := (Below.refl _ _).alloc (Nat.le_refl _) _
  have s2 : (w1.alloc (.cells (dkC r f n FA es.length c1 KA ks.length c2 TA ts.length c3) 27)).heap.size = w1.heap.size + 1 := by simp
  have b02 := hb1.trans (b12.mono z1)
  have r2 := hr1.below b12
  have cC := makeCut_any A c xs _ (ha.below b02) (by omega)
  clear hbig' hb1 hr1 b12
  go_wp2_with fail
  refine cC.mono ?_
  rintro e w3 ⟨t, B, d, ns, rfl, hns, ho3, hb3⟩
  have z3 := hb3.size
  have D3 := (hb3.block w1.heap.size (by omega)).trans D2
  have b03 := b02.trans (hb3.mono b02.size)
  have r3 := r2.below hb3
  have cK := crash_k t B d ns r f n FA es c1 KA ks c2 TA ts c3 w3 r3 hv hc ho3.cs hns
  clear cC D2 b02 r2 hb3 ho3
  go_wp2_with (refine at_pos (p := "laws.go:375") rfl ?_; refine wp_ldD rfl _ rfl w1.heap.size rfl r f n FA es.length c1 KA ks.length c2 TA ts.length c3 D3 ?_)
  refine cK.mono ?_
  rintro e w4 ⟨F3, d1, fs, K3, d2, dir, T3, d3, rfl, hvE, hdl0, hkp, hrE, hb4⟩
  have HDL := Lib.hid hdl0
  clear hdl0
  have z4 := hb4.size
  have D4 := (hb4.block w1.heap.size (by omega)).trans D3
  have b04 := b03.trans (hb4.mono b03.size)
  have r4 := r3.below hb4
  clear cK D3 b03 r3 hb4
  have E5 := heap_alloc_new w4 (.cells (dkC r (-1) n F3 fs.length d1 K3 dir.length d2 T3 0 d3) 27)
  have b45 : Below w4.heap.size w4 (w4.alloc (.cells (dkC r (-1) n F3 fs.length d1 K3 dir.length d2 T3 0 d3) 27)) := (Below.refl _ _).alloc (Nat.le_refl _) _
  have D5 := heap_alloc_of (.cells (dkC r (-1) n F3 fs.length d1 K3 dir.length d2 T3 0 d3) 27) D4
  have b05 := b04.trans (b45.mono b04.size)
  have r5 := r4.below b45
  have e5 := hrE.below b45
  have s5 : (w4.alloc (.cells (dkC r (-1) n F3 fs.length d1 K3 dir.length d2 T3 0 d3) 27)).heap.size = w4.heap.size + 1 := by simp
  have okE := fun W hW => okImpl_any r (-1) n F3 fs fs d1 K3 dir d2 T3 [] d3 W hW (Lib.hid rfl) hvE.good
  have okD := fun W hW => okImpl_any r f n FA es es c1 KA ks c2 TA ts c3 W hW (Lib.hid rfl) hv.good
  rw [show dkB r (-1) n (fs.map fc) (ftot fs) dir [] = true by rw [ftot_cu]; exact vd_iff.2 hvE] at okE
  rw [show dkB r f n (es.map fc) (ftot es) ks ts = true by rw [ftot_cu]; exact vd_iff.2 hv] at okD
  have cE := okE _ e5
  have q5 := fun i => cell_of_row _ w4.heap.size i _ _ (0, 0) E5
  have q50 := q5 0
  have q51 := q5 1
  have q52 := q5 2
  have q53 := q5 3
  have q54 := q5 4
  have q55 := q5 5
  clear q5 D4 b04 r4 b45
  go_wp2_with fail
  refine cE.mono ?_
  rintro e w6 ⟨rfl, hb6⟩
  have z6 := hb6.size
  have D6 := (hb6.block w1.heap.size (by omega)).trans D5
  have E6 := (hb6.block w4.heap.size (by omega)).trans E5
  have b06 := b05.trans (hb6.mono b05.size)
  have r6 := r5.below hb6
  have e6 := e5.below hb6
  have cD := okD _ r6
  have q6 := fun i => cell_of_row _ w1.heap.size i _ _ (0, 0) D6
  have q60 := q6 0
  have q61 := q6 1
  have q62 := q6 2
  have q63 := q6 3
  have q64 := q6 4
  have q65 := q6 5
  clear q6 cE D5 E5 b05 r5 e5 hb6 q50 q51 q52 q53 q54 q55
  go_wp2_with fail
  refine cD.mono ?_
  rintro e w7 ⟨rfl, hb7⟩
  have z7 := hb7.size
  have D7 := (hb7.block w1.heap.size (by omega)).trans D6
  have E7 := (hb7.block w4.heap.size (by omega)).trans E6
  have b07 := b06.trans (hb7.mono b06.size)
  have r7 := r6.below hb7
  have e7 := e6.below hb7
  have q7 := fun i => cell_of_row _ w4.heap.size i _ _ (0, 0) E7
  have q71 : w7.cell? ⟨w4.heap.size, 1, none⟩ = some (.int .i64 (-1)) := q7 1
  have q72 : w7.cell? ⟨w4.heap.size, 2, none⟩ = some (.int .i64 n) := q7 2
  have q73 : w7.cell? ⟨w4.heap.size, 3, none⟩ = some (.slice F3 fs.length d1) := q7 3
  have q75 : w7.cell? ⟨w4.heap.size, 5, none⟩ = some (.slice T3 0 d3) := q7 5
  have q62' : w7.cell? ⟨w1.heap.size, 2, none⟩ = some (.int .i64 n) := cell_of_row _ w1.heap.size 2 _ _ (0, 0) D7
  clear q7 cD D6 E6 b06 r6 e6 hb7 q60 q61 q62 q63 q64 q65 okE okD
  go_wp2_with fail
  have hel : es.length ≤ 10 := by have := hv.fl; rwa [List.length_map] at this
  have hfl : fs.length ≤ 10 := by have := hvE.fl; rwa [List.length_map] at this
  have HCP := Lib.hid hcp
  have HKP := Lib.hid hkp
  clear hcp hkp q71 q72 q73 q75 q62'
  go_loopw [63] (fun iv wr => ∃ k : Nat, k ≤ fs.length ∧ iv = .int .i64 k ∧ Below w7.heap.size w7 wr) (fun iv _ => fs.length - (intOf iv).toNat)
  case atStart => exact ⟨0, Nat.zero_le _, rfl, Below.refl _ _⟩
  case round =>
    obtain ⟨k, hk, rfl, hb⟩ := hrel
    have zb := hb.size
    obtain ⟨wk, hwk⟩ : ∃ wk, wk = wr := ⟨wr, rfl⟩
    subst hwk
    have D8 := (hb.block w1.heap.size (by omega)).trans D7
    have E8 := (hb.block w4.heap.size (by omega)).trans E7
    have r8 := r7.below hb
    have e8 := e7.below hb
    by_cases hlt : k < fs.length
    · have hlt' : (k : Int) < fs.length := by omega
      obtain ⟨x, hxd⟩ : ∃ x, Hid (fs[k] = x) := ⟨_, Lib.hid rfl⟩
      have KX := Lib.hid (HKP.out x (by rw [← hxd.out]; exact List.getElem_mem hlt))
      have BX := e8.1.2 x (by rw [← hxd.out]; exact List.getElem_mem hlt)
      obtain ⟨b, o, rfl, hbs, x0, x1, x2⟩ := Fl.get e8.1.1 hlt
      rw [hxd.out] at x0 x1 x2
      clear hxd
      obtain ⟨id, ⟨XA, xc, bs⟩, sf⟩ := x
      simp only at x0 x1 x2 BX
      have b9 : Below wk.heap.size wk (wk.alloc (.cells #[.int .i64 id, .slice XA bs.length xc, .int .i64 sf] 36)) := (Below.refl _ _).alloc (Nat.le_refl _) _
      have F9 : (wk.alloc (.cells #[.int .i64 id, .slice XA bs.length xc, .int .i64 sf] 36)).heap[wk.heap.size]? = some (.cells #[.int .i64 id, .slice XA bs.length xc, .int .i64 sf] 36 (0, 0)) := heap_alloc_new _ _
      have D9 := heap_alloc_of (.cells #[.int .i64 id, .slice XA bs.length xc, .int .i64 sf] 36) D8
      have q93 := cell_of_row _ w1.heap.size 3 _ _ (0, 0) D9
      have s9 : (wk.alloc (.cells #[.int .i64 id, .slice XA bs.length xc, .int .i64 sf] 36)).heap.size = wk.heap.size + 1 := by simp
      have r9 := r8.below b9
      go_wp2_with fail
      generalize (wk.alloc (.cells #[.int .i64 id, .slice XA bs.length xc, .int .i64 sf] 36)) = w9 at b9 F9 D9 s9 r9 q93 ⊢
      clear x0 x1 x2
      go_loopw [10, 70] (fun fv iv wr => ∃ j : Nat, j ≤ es.length ∧ iv = .int .i64 j ∧ fv = .bool ((es.take j).any fun y => y.1 == id) ∧ Below w9.heap.size w9 wr) (fun _ iv _ => es.length - (intOf iv).toNat)
      case atStart => exact ⟨0, Nat.zero_le _, rfl, rfl, Below.refl _ _⟩
      case round =>
        obtain ⟨j, hj, rfl, rfl, hb2⟩ := hrel
        have zb2 := hb2.size
        by_cases hlt2 : j < es.length
        · have hlt3 : (j : Int) < es.length := by omega
          obtain ⟨y, hyd⟩ : ∃ y, Hid (es[j] = y) := ⟨_, Lib.hid rfl⟩
          have hym : y ∈ es := by rw [← hyd.out]; exact List.getElem_mem hlt2
          have hany : Hid ((es.take (j + 1)).any (fun y => y.1 == id) = ((es.take j).any (fun y => y.1 == id) || y.1 == id)) := by
            show _ = _
            rw [List.take_succ_eq_append_getElem hlt2, List.any_append, hyd.out]
            simp
          have r10 := r9.below hb2
          obtain ⟨b2, o2, rfl, hbs2, y0, y1, y2⟩ := Fl.get r10.1.1 hlt2
          rw [hyd.out] at y0 y1 y2
          have BY := (r10.1.2 y hym)
          have HYC := Lib.hid (HCP.out y hym)
          clear hyd
          obtain ⟨yid, ⟨YA, yc, us⟩, ysf⟩ := y
          simp only at y0 y1 y2 BY
          have f10 := (hb2.block wk.heap.size (by omega)).trans F9
          have F10 := heap_alloc_of (.cells #[.int .i64 yid, .slice YA us.length yc, .int .i64 ysf] 36) f10
          have G10 : (wr.alloc (.cells #[.int .i64 yid, .slice YA us.length yc, .int .i64 ysf] 36)).heap[wr.heap.size]? = some (.cells #[.int .i64 yid, .slice YA us.length yc, .int .i64 ysf] 36 (0, 0)) := heap_alloc_new _ _
          have p0 : (wr.alloc (.cells #[.int .i64 yid, .slice YA us.length yc, .int .i64 ysf] 36)).cell? ⟨wk.heap.size, 0, none⟩ = some (.int .i64 id) := cell_of_row _ wk.heap.size 0 _ _ (0, 0) F10
          have p1 : (wr.alloc (.cells #[.int .i64 yid, .slice YA us.length yc, .int .i64 ysf] 36)).cell? ⟨wk.heap.size, 1, none⟩ = some (.slice XA bs.length xc) := cell_of_row _ wk.heap.size 1 _ _ (0, 0) F10
          have p2 : (wr.alloc (.cells #[.int .i64 yid, .slice YA us.length yc, .int .i64 ysf] 36)).cell? ⟨wk.heap.size, 2, none⟩ = some (.int .i64 sf) := cell_of_row _ wk.heap.size 2 _ _ (0, 0) F10
          have b10 : Below wr.heap.size wr (wr.alloc (.cells #[.int .i64 yid, .slice YA us.length yc, .int .i64 ysf] 36)) := (Below.refl _ _).alloc (Nat.le_refl _) _
          cases hq : (yid == id) with
          | true =>
            have hyi : yid = id := by simpa using hq
            have KY := Lib.hid (KX.out.2 _ hym hyi)
            have KYl := KY.out
            simp only at KYl
            obtain ⟨k1, k2, k3, k4⟩ := KYl
            have HK3 := Lib.hid k3
            have HK4 := Lib.hid k4
            have ycl : us.length ≤ yc := HYC.out
            clear k3 k4
            subst hyi
            have BYw : By (wr.alloc (.cells #[.int .i64 yid, .slice YA us.length yc, .int .i64 ysf] 36)) YA us := BY.below b10
            have BYt : By (wr.alloc (.cells #[.int .i64 yid, .slice YA us.length yc, .int .i64 ysf] 36)) YA bs := by
              have := BYw.take bs.length
              rwa [HK3.out] at this
            have BXw : By (wr.alloc (.cells #[.int .i64 yid, .slice YA us.length yc, .int .i64 ysf] 36)) XA bs := ((BX.below b9).below hb2).below b10
            have hc1 : ∀ i, (convert 22 9 (.slice YA bs.length yc)).run Try.prog ((wr.alloc (.cells #[.int .i64 yid, .slice YA us.length yc, .int .i64 ysf] 36)).drewN i) = .ok (.string (bstr bs)) ((wr.alloc (.cells #[.int .i64 yid, .slice YA us.length yc, .int .i64 ysf] 36)).drewN i) := fun i => conv_by (BYt.drewN i)
            have hc2 : ∀ i, (convert 22 9 (.slice XA bs.length xc)).run Try.prog ((wr.alloc (.cells #[.int .i64 yid, .slice YA us.length yc, .int .i64 ysf] 36)).drewN i) = .ok (.string (bstr bs)) ((wr.alloc (.cells #[.int .i64 yid, .slice YA us.length yc, .int .i64 ysf] 36)).drewN i) := fun i => conv_by (BXw.drewN i)
            have k2i : (bs.length : Int) ≤ us.length := by omega
            have k5i : (bs.length : Int) ≤ yc := by omega
            have k4b : (sf == (bs.length : Int)) = true := by rw [HK4.out]; simp
            have kes : ((bstr bs).toList == (bstr bs).toList) = true := by simp
            clear BYw BYt BXw BX BY k2
            go_wp2_with fail
            have ha2 : ((es.take (j + 1)).any fun y => y.1 == yid) = true := by rw [hany.out]; simp
            have HA2 := Lib.hid ha2
            clear ha2
            go_quiet (fail)
            clear hc1 hc2
            go_wp2_with fail
            refine ⟨⟨j + 1, by omega, by go_num, by rw [HA2.out], hb2.trans (Below.mono (by first | exact b10 | exact b10.drew | exact below_drewN b10 _ | exact b10.trans (by (repeat (first | exact Below.refl _ _ | (refine Below.alloc ?_ (by first | omega | (simp; done) | (simp; omega)) _) | (refine Below.drew ?_) | (refine below_drewN ?_ _) | (refine below_at1 ?_ (by first | omega | (simp; done) | (simp; omega))) | (refine Below.setCell ?_ (by first | omega | (simp; done) | (simp; omega)) _) | (refine Below.trans ?_ (Below.mono (by assumption) (by first | omega | (simp; done) | (simp; omega)))))))) zb2)⟩, ?_⟩
            simp [intOf]
            omega
          | false =>
            have ha2 : ((es.take (j + 1)).any fun y => y.1 == id) = (es.take j).any fun y => y.1 == id := by rw [hany.out]; simp [hq]
            have HA2 := Lib.hid ha2
            clear ha2
            go_wp2_with fail
            refine ⟨⟨j + 1, by omega, by go_num, by rw [HA2.out], hb2.trans (b10.mono zb2)⟩, ?_⟩
            simp [intOf]
            omega
        · have hlt3 : ¬ (j : Int) < es.length := by omega
          have hall : ((es.take j).any fun y => y.1 == id) = true := by
            rw [List.take_of_length_le (by omega)]
            obtain ⟨y, hy, he⟩ := KX.out.1
            exact List.any_eq_true.2 ⟨y, hy, by simpa using he⟩
          rw [hall]
          go_wp2_with fail
          refine ⟨⟨k + 1, by omega, by go_num, hb.trans ((b9.trans (hb2.mono b9.size)).mono zb)⟩, ?_⟩
          simp [intOf]
          omega
    · have hlt' : ¬ (k : Int) < fs.length := by omega
      go_wp2_with fail
      have F0 : wk.drew.heap[w4.heap.size]? = some (.cells (dkC r (-1) n F3 fs.length d1 K3 dir.length d2 T3 0 d3) 27 (0, 0)) := E8
      have bd : Below wk.heap.size wk wk.drew := (Below.refl _ _).drew
      have eD : dirV r (-1) n (fs.map fc) (ftot fs) dir [] = dir := by
        unfold dirV
        rw [if_pos (by rw [ftot_cu]; exact vd_iff.2 hvE)]
        rfl
      have cR := diskDir_impl r (-1) n F3 fs fs d1 K3 dir d2 T3 [] d3 wk.drew (e8.below bd) (Lib.hid rfl) hvE.good
      rw [eD] at cR
      have HED := Lib.hid eD
      clear eD
      refine wp_region_held_drew (S := fun w' => w'.heap[w4.heap.size]? = some (.cells (dkC r (-1) n F3 fs.length d1 K3 dir.length d2 T3 0 d3) 27 (0, 0))) (by kernel_rfl) (F0) (fun _ => ?_)
      refine wpAnyH_take (i := 0) (v := dkV r (-1) n F3 fs.length d1 K3 dir.length d2 T3 0 d3) rfl (by kernel_rfl) (by kernel_rfl) (by kernel_rfl) (fun _ _ _ h => h) (yields_rowD (by rfl) _ rfl w4.heap.size rfl r (-1) n F3 fs.length d1 K3 dir.length d2 T3 0 d3 (fun _ h => h)) (F0) ?_
      try simp only [Act.put, List.getElem_toArray, List.getElem_cons_zero, List.setIfInBounds_toArray, List.set_cons_zero, List.set_cons_succ]
      refine wpAnyH_take (i := 3) (v := .pointer (some ⟨w4.heap.size, 3, none⟩)) rfl (by kernel_rfl) (by kernel_rfl) (by kernel_rfl) (fun _ _ _ h => h) (Or.inl ⟨by rfl, (by intro w' hS; skip; go_simp; try first | rfl | (simp [*, Addr.add_lit]; done))⟩) (F0) ?_
      try simp only [Act.put, List.getElem_toArray, List.getElem_cons_succ, List.getElem_cons_zero, List.setIfInBounds_toArray, List.set_cons_zero, List.set_cons_succ]
      refine wpAnyH_take (i := 4) (v := .slice F3 fs.length d1) rfl (by kernel_rfl) (by kernel_rfl) (by kernel_rfl) (fun _ _ _ h => h) (Or.inl ⟨by rfl, (by intro w' hS; have q := cell_of_row w' w4.heap.size 3 _ _ (0, 0) hS; go_simp; try first | rfl | (simp [*, Addr.add_lit]; done))⟩) (F0) ?_
      try simp only [Act.put, List.getElem_toArray, List.getElem_cons_succ, List.getElem_cons_zero, List.setIfInBounds_toArray, List.set_cons_zero, List.set_cons_succ]
      refine wpAnyH_take (i := 5) (v := .int .i64 fs.length) rfl (by kernel_rfl) (by kernel_rfl) (by kernel_rfl) (fun _ _ _ h => h) (Or.inl ⟨by rfl, (by intro w' hS; skip; go_simp; try first | rfl | (simp [*, Addr.add_lit]; done))⟩) (F0) ?_
      try simp only [Act.put, List.getElem_toArray, List.getElem_cons_succ, List.getElem_cons_zero, List.setIfInBounds_toArray, List.set_cons_zero, List.set_cons_succ]
      refine wpAnyH_ready (rs := [1]) (by kernel_rfl) (by simp) ?_
      refine AllReadyH.cons rfl (fun K hK => ?_) AllReadyH.nil
      go_simp
      refine cR.mono ?_
      rintro e w9 ⟨A9, c9, rfl, ho9, hb9⟩
      have F9 : w9.heap[w4.heap.size]? = some (.cells (dkC r (-1) n F3 fs.length d1 K3 dir.length d2 T3 0 d3) 27 (0, 0)) := (hb9.block w4.heap.size (by show w4.heap.size < wk.heap.size; omega)).trans F0
      have hbz : Below wk.heap.size wk w9 := bd.trans hb9
      clear cR F0 ho9 hb9 bd
      refine hK.out _ _ (F9) (fun _ => ?_)
      clear hK K
      try simp only [Act.put, List.getElem_toArray, List.getElem_cons_succ, List.getElem_cons_zero, List.setIfInBounds_toArray, List.set_cons_zero, List.set_cons_succ]
      refine wpAnyH_take (i := 2) (v := .int .i64 dir.length) rfl (by kernel_rfl) (by kernel_rfl) (by kernel_rfl) (fun _ _ _ h => h) (Or.inl ⟨by rfl, (by intro w' hS; skip; go_simp; try first | rfl | (simp [*, Addr.add_lit]; done))⟩) (F9) ?_
      try simp only [Act.put, List.getElem_toArray, List.getElem_cons_succ, List.getElem_cons_zero, List.setIfInBounds_toArray, List.set_cons_zero, List.set_cons_succ]
      refine wpAnyH_take (i := 6) (v := .bool true) rfl (by kernel_rfl) (by kernel_rfl) (by kernel_rfl) (fun _ _ _ h => h) (Or.inl ⟨by rfl, (by intro w' hS; have eN := HDL.out; go_simp; try first | rfl | (simp [*, Addr.add_lit]; done))⟩) (F9) ?_
      try simp only [Act.put, List.getElem_toArray, List.getElem_cons_succ, List.getElem_cons_zero, List.setIfInBounds_toArray, List.set_cons_zero, List.set_cons_succ]
      refine wpAnyH_ready (rs := [7]) (by kernel_rfl) (by simp) ?_
      refine AllReadyH.cons rfl (fun K hK => ?_) AllReadyH.nil
      go_simp
      refine hK.out _ _ (F9) (fun _ => ?_)
      clear hK K
      try simp only [Act.put, List.getElem_toArray, List.getElem_cons_succ, List.getElem_cons_zero, List.setIfInBounds_toArray, List.set_cons_zero, List.set_cons_succ]
      refine wpAnyH_done (by kernel_rfl) ?_ _
      go_wp2_with fail
      go_ret
      exact ⟨rfl, b07.trans ((hb.trans (hbz.mono zb)).mono b07.size)⟩
end Go.Proofs.Ytndmdhmghjfckaa
