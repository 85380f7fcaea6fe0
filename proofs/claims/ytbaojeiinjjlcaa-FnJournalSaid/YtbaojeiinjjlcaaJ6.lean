/- A journal is recovered from its encoding; from a torn one the complete frames, and after a changed byte those before it: the law. -/
import Derived.Test.YtbaojeiinjjlcaaJ4
import Derived.Test.YtbaojeiinjjlcaaJ5
import Derived.Test.YtbaojeiinjjlcaaC3
import Derived.Deep.QuietTactic
namespace Go.Proofs.Ytbaojeiinjjlcaa
open Go.RowKit Go.Lib
set_option linter.unusedVariables false
set_option maxRecDepth 100000

theorem jOk_small : ∀ (l : List (List UInt8)) (s : Int), 1 ≤ s → s + (l.length : Int) ≤ 1000000000 → (∀ d, d ∈ l → d.length ≤ 60000) → jOk s l = true
  | [], s, h1, h2, h3 => rfl
  | d :: r, s, h1, h2, h3 => by
    rw [List.length_cons] at h2
    rw [jOk, Bool.and_eq_true]
    exact ⟨decide_eq_true ⟨⟨by omega, by omega⟩, h3 d (List.mem_cons_self ..)⟩, jOk_small r (s + 1) (by omega) (by omega) fun x hx => h3 x (List.mem_cons_of_mem _ hx)⟩
theorem tot_small : ∀ (es : List Sl), (∀ e, e ∈ es → e.2.2.length ≤ 9) → tot es ≤ 9 * es.length
  | [], _ => by simp [tot]
  | e :: r, h => by
    have h1 := tot_small r fun x hx => h x (List.mem_cons_of_mem _ hx)
    have h2 := h e (List.mem_cons_self ..)
    simp only [tot, List.map_cons, List.sum_cons, List.length_cons] at h1 ⊢
    omega
theorem Ob.setB {w : World} {lo c g : Nat} {bs : List UInt8} (h : Ob w lo (some ⟨g, 0, none⟩) c bs) {k : Nat} (hk : k < bs.length) (x : UInt8) :
    Ob (w.setCell ⟨g, k, none⟩ (.int .u8 (x.toNat : Int))) lo (some ⟨g, 0, none⟩) c (bs.set k x) := by
  rcases h.2 with ⟨h1, _⟩ | ⟨g', cap, cur, fz, hv, hlo, hh, hz, hn, hm, hs, ht⟩
  · simp at h1
  · simp only [Value.slice.injEq, Option.some.injEq, Addr.mk.injEq, true_and, and_true] at hv
    obtain ⟨rfl, rfl⟩ := hv
    refine ⟨by simp, .inr ⟨g, c, _, fz, by rw [List.length_set], hlo, heap_setCell_same _ hh, by simpa using hz, by simpa using hn, hm, by simpa using hs, ?_⟩⟩
    rw [List.map_set, ← ht]
    simp only [Array.toList_setIfInBounds, List.take_set, List.length_set]
theorem Ob.at_ {w : World} {lo c : Nat} {A : Option Addr} {bs : List UInt8} (h : Ob w lo A c bs) {k : Nat} {x : UInt8} (hk : bs[k]? = some x) : ∃ g, A = some ⟨g, 0, none⟩ ∧ lo ≤ g ∧ g < w.heap.size ∧ w.cell? ⟨g, k, none⟩ = some (.int .u8 (x.toNat : Int)) ∧ w.frozen? ⟨g, k, none⟩ = false := by
  have hb : bs.length ≠ 0 := by intro e; rw [List.eq_nil_of_length_eq_zero e] at hk; simp at hk
  rcases h.2 with ⟨_, h2⟩ | ⟨g, cap, cur, fz, hv, hlo, hh, hz, hn, hm, hs, ht⟩
  · exact absurd h2 hb
  · have hkl := (List.getElem?_eq_some_iff.1 hk).1
    injection hv with hA _ hc
    subst hA hc
    refine ⟨g, rfl, hlo, (Array.getElem?_eq_some_iff.1 hh).1, ?_, ?_⟩
    · exact h.cells (g := g) rfl k _ (by rw [List.getElem?_map, hk]; rfl)
    · rcases hz with rfl | hz
      · simp [World.frozen?, hh]
      · simp [World.frozen?, hh]; omega
theorem xor8 (x z : UInt8) : bits .xor .u8 (x.toNat : Int) (z.toNat : Int) = ((x ^^^ z).toNat : Int) := by
  have hx := UInt8.toNat_lt x
  have hz := UInt8.toNat_lt z
  show IntKind.u8.wrap (((BitVec.ofInt 8 (x.toNat : Int) ^^^ BitVec.ofInt 8 (z.toNat : Int)).toNat : Nat) : Int) = _
  have h1 : (BitVec.ofInt 8 (x.toNat : Int) ^^^ BitVec.ofInt 8 (z.toNat : Int)).toNat = (x ^^^ z).toNat := by
    rw [UInt8.toNat_xor, BitVec.toNat_xor, BitVec.toNat_ofInt, BitVec.toNat_ofInt]
    have e1 : ((x.toNat : Int) % ((2 ^ 8 : Nat) : Int)).toNat = x.toNat := by omega
    have e2 : ((z.toNat : Int) % ((2 ^ 8 : Nat) : Int)).toNat = z.toNat := by omega
    rw [e1, e2]
  rw [h1, IntKind.wrap_u8]
  have := UInt8.toNat_lt (x ^^^ z)
  omega
theorem xor_ne {x z : UInt8} (h : z ≠ 0) : x ^^^ z ≠ x := by
  intro e
  apply h
  have : x ^^^ (x ^^^ z) = x ^^^ x := by rw [e]
  rw [← UInt8.xor_assoc, UInt8.xor_self, UInt8.zero_xor] at this
  exact this
theorem By.take {w : World} {A : Option Addr} {bs : List UInt8} (h : By w A bs) (k : Nat) : By w A (bs.take k) := by
  rcases h with h | ⟨b, o, hA, hx⟩
  · left
    rw [h, List.take_nil]
  · refine .inr ⟨b, o, hA, fun i x hi => hx i x ?_⟩
    rw [List.getElem?_take] at hi
    split at hi
    · exact hi
    · simp at hi
set_option maxHeartbeats 4000000 in
theorem walk_FnJournal (A : Option Addr) (n c : Nat) (w : World) (h : Rd Try.prog w 22 [.slice A n c]) :
    Calls Try.prog 3 #[.slice A n c] w fun e w' => e = .returned (.bool true) ∧ Below w.heap.size w w' := by
  obtain ⟨xs, rfl, ha, hm⟩ := rd_bytes h
  unfold maxLen at hm
  clear h
  by_cases hbig : 1048576 < xs.length
  · have hbig' : (1048576 : Int) < xs.length := by omega
    go_enter Try.func3, Try.ntmps3
    go_wp2
    go_ret
    exact ⟨rfl, Below.refl _ _⟩
  have hbig' : ¬ (1048576 : Int) < xs.length := by omega
  go_enter Try.func3, Try.ntmps3
  go_wp2_with fail
  refine (makeLoads_any A c xs w ha (by omega)).mono ?_
  rintro e w1 ⟨s, A1, c1, n1, es, rfl, ⟨hs1, hs2⟩, hn1, hn6, h9, hL, hb1⟩
  have z1 := hb1.size
  have htot := tot_small es h9
  have hdl : (datas es).length = n1 := by rw [← hn1]; simp [datas]
  have hok : jOk s (datas es) = true := jOk_small _ _ (by omega) (by rw [hdl]; omega) (by
    intro d hd
    obtain ⟨e, he, rfl⟩ := List.mem_map.1 hd
    have := h9 e he
    omega)
  go_wp2_with fail
  refine (journalBytes_implN A1 c1 n1 es es s _ hn1.symm rfl hL (by omega) (by omega) (by omega)).mono ?_
  rintro e w2 ⟨A2, c2, ub, k2, hu2, hk2, rfl, ho2, hb2⟩
  have hlen2 : ub.length ≤ 150 := by have := jR_len (seq := s) (es := es); rw [← hu2.out] at this; omega
  have H2 : Hid (ub = jF s (datas es)) := by show _ = _; rw [hu2.out, jR, if_pos hok]
  obtain rfl : k2 = true := by rw [hk2.out, jR, if_pos hok]
  clear hu2 hk2
  have z2 := hb2.size
  go_wp2_with fail
  refine (journalRead_impl _ _ _ s _ ho2.by_ ho2.le_cap (by omega) (by omega) (by omega)).mono ?_
  rintro e w3 ⟨A3, c3, n3, f3, q3, hr3, hn3, hN3, ht3, rfl, hdj3, hw3, hb3⟩
  have z3 := hb3.size
  obtain ⟨hd3, rfl⟩ : datas es = datas f3 ∧ (ub.length : Int) = q3 := by
    have := hr3.out
    rw [H2.out, jr_full hok] at this
    simpa [H2.out] using this
  obtain rfl : n1 = n3 := by rw [← hn3, ← hn1]; exact datas_len hd3
  have HD3 := Lib.hid hd3
  clear hr3 hd3
  go_wp2_with fail
  have ha3 := ((ha.below hb1).below hb2).below hb3
  refine (makeNum_any A c xs (ub.length + 1) _ ha3 (by omega) (by omega) (by omega)).mono ?_
  rintro e w4 ⟨k, hk, rfl, hb4⟩
  have z4 := hb4.size
  have hk2 : (k : Int) ≤ ub.length := by omega
  have hkc := ho2.le_cap
  have hb24 : Below w2.heap.size w2 w4 := hb3.trans (hb4.mono z3)
  have ho4 := ho2.below hb24 (Nat.le_refl _)
  go_wp2_with fail
  have HJ := journalRead_impl A2 c2 (ub.take k) s _ (ho4.by_.take k) (by rw [List.length_take]; omega) (by rw [List.length_take]; omega) (by omega) (by omega)
  obtain ⟨m, hm1, hjr, hpk, hiff⟩ := jr_torn hok (k := k) (by rw [← H2.out]; omega) (xs := ub.take k) (by rw [H2.out])
  have hlk : (ub.take k).length = k := by rw [List.length_take]; omega
  rw [hjr, hlk] at HJ
  rw [hdl] at hm1
  refine HJ.mono ?_
  clear HJ hjr hlk
  rintro e w5 ⟨A5, c5, n5, f5, q5, hr5, hn5, hN5, ht5, rfl, hdj5, hw5, hb5⟩
  have z5 := hb5.size
  obtain ⟨hd5, rfl⟩ : (datas es).take m = datas f5 ∧ (jPos s (datas es) m : Int) = q5 := by simpa using hr5.out
  obtain rfl : m = n5 := by
    have := congrArg List.length hd5
    rw [List.length_take, hdl] at this
    rw [← hn5]
    simp [datas] at this
    omega
  clear hr5 hd5
  have HIFF := Lib.hid hiff
  have hful : k < ub.length → m ≠ n1 := by
    rintro h rfl
    rw [← hdl, jPos_all, ← H2.out] at hpk
    omega
  obtain ⟨pm, hpm⟩ : ∃ pm, pm = jPos s (datas es) m := ⟨_, rfl⟩
  rw [← hpm] at hpk ⊢
  clear hiff hpm
  have hpk' : ¬ (k : Int) < (pm : Int) := by omega
  have hmn' : ¬ (n1 : Int) < (m : Int) := by omega
  by_cases hkl : k < ub.length
  case' pos =>
    have hkl' : (k : Int) < (ub.length : Int) := by omega
    have hq := hful hkl
    have hq' : ((m : Int) == (n1 : Int)) = false := by simp; omega
    clear hful hq
  case' neg =>
    have hkl' : ¬ (k : Int) < (ub.length : Int) := by omega
    clear hful
  all_goals
    go_wp2_with fail
    generalize decide (k < pm) = d1
    generalize decide (n1 < m) = d2
    go_loopw [12, 98] (fun pv iv wr => ∃ (i p : Nat), i ≤ n1 ∧ pv = .int .i64 p ∧ iv = .int .i64 i ∧ Hid (p = jPos s (datas es) i) ∧ Below w5.heap.size w5 wr) (fun _ iv _ => n1 - (intOf iv).toNat)
    case atStart => exact ⟨0, 0, Nat.zero_le _, rfl, rfl, by show _ = _; simp [jPos, jF], Below.refl _ _⟩
    case round =>
      obtain ⟨i, p, hi, rfl, rfl, hP, hb⟩ := hrel
      have zb := hb.size
      have HOK := Lib.hid hok
      have hb15 : Below w1.heap.size w1 wr := hb2.trans ((hb24.trans ((hb5.trans (hb.mono z5)).mono (by omega))).mono z2)
      have hb05 := hb1.trans (hb15.mono z1)
      by_cases hlt : i < n1
      · have hlt' : (i : Int) < n1 := by omega
        have hie : i < es.length := by omega
        have hi3 : i < f3.length := by omega
        obtain ⟨b, o, rfl, hx, hy⟩ := (hL.below hb15).get hie
        have hb35 : Below w3.heap.size w3 wr := hb4.trans ((hb5.trans (hb.mono z5)).mono z4)
        obtain ⟨b3, o3, rfl, hx3, hy3⟩ := (hw3.below hb35 (Nat.le_refl _)).ls.get hi3
        have hdi : f3[i].2.2 = es[i].2.2 := (datas_get HD3.out hie hi3).symm
        have hdd : (datas es)[i]'(by rw [hdl]; omega) = es[i].2.2 := by simp [datas]
        have hgd : frGood (s + i) es[i].2.2 := by rw [← hdd]; exact jOk_get hok (by rw [hdl]; omega)
        have HG := Lib.hid (frameR_yes hgd)
        have hps := jPos_succ (a := datas es) (i := i) (by rw [hdl]; omega) s
        rw [hdd, ← hP.out] at hps
        have him := HIFF.out i (by rw [hdl]; omega)
        have hjl : jPos s (datas es) (i + 1) ≤ ub.length := by rw [H2.out, ← jPos_all, hdl]; exact jPos_mono _ _ (by omega)
        have l9 := h9 _ (List.getElem_mem hie)
        have hbA : Below wr.heap.size wr (wr.alloc (.cells #[slv es[i]] 32)) := (Below.refl _ _).alloc (Nat.le_refl _) _
        have kA : (wr.alloc (.cells #[slv es[i]] 32)).cell? ⟨wr.heap.size, 0, none⟩ = some (slv es[i]) := by simp
        clear hok
        go_wp2_with fail
        refine (frameBytes_impl _ _ _ _ _ (hy.below hbA) (by omega)).mono ?_
        rintro e w6 ⟨A6, c6, u6, k6, hu6, hk6, rfl, ho6, hb6⟩
        rw [HG.out] at hu6 hk6
        obtain rfl : k6 = true := hk6.out
        have hb6' : Below wr.heap.size wr w6 := hbA.trans (hb6.mono (by simp))
        have z6 := hb6'.size
        have hl6 : p + u6.length = jPos s (datas es) (i + 1) := by rw [hu6.out]; exact hps.symm
        have k6x : w6.cell? ⟨wr.heap.size, 0, none⟩ = some (slv es[i]) := (hb6.cell (p := ⟨wr.heap.size, 0, none⟩) (by simp)).trans kA
        have k63 : w6.cell? ⟨b3, o3 + i, none⟩ = some (slv f3[i]) := (hb6'.cell (p := ⟨b3, o3 + i, none⟩) (World.block_lt_of_cell? wr _ hx3)).trans hx3
        have hcx : ∀ j, (convert 22 9 (slv es[i])).run Try.prog (w6.drewN j) = .ok (.string (bstr es[i].2.2)) (w6.drewN j) := fun j => conv_by ((hy.below hb6').drewN j)
        have hcx0 := hcx 0
        have hc3 : ∀ j, (convert 22 9 (slv f3[i])).run Try.prog (w6.drewN j) = .ok (.string (bstr es[i].2.2)) (w6.drewN j) := fun j => by rw [← hdi]; exact conv_by ((hy3.below hb6').drewN j)
        have hc30 := hc3 0
        clear hdi
        have hple : p + u6.length ≤ ub.length := by omega
        have HPS := Lib.hid hl6
        by_cases hmi : i < m
        case' pos =>
          have hmi' : (i : Int) < (m : Int) := by omega
          have hpk6 : (p : Int) + (u6.length : Int) ≤ (k : Int) := by have := him.2 hmi; omega
          clear hl6 hps him
        case' neg =>
          have hmi' : ¬ (i : Int) < (m : Int) := by omega
          have hpk6 : ¬ (p : Int) + (u6.length : Int) ≤ (k : Int) := by have := fun h => hmi (him.1 h); omega
          clear hl6 hps him
          try (exfalso; omega)
        all_goals
          go_wp2_with fail
          go_quiet (fail)
          have B6 : Below w5.heap.size w5 (w6.drewN nq) := below_drewN (hb.trans (hb6'.mono zb)) nq
          have zB6 := B6.size
          have hb26 : Below w2.heap.size w2 (w6.drewN nq) := hb24.trans ((hb5.trans (B6.mono z5)).mono (by omega))
          have k6y : (w6.drewN nq).cell? ⟨wr.heap.size, 0, none⟩ = some (slv es[i]) := k6x
          have ho62 := ho2.below hb26 (Nat.le_refl _)
          generalize w6.drewN nq = w7 at B6 zB6 hb26 ho62 k6y ⊢
          by_cases hne : 0 < es[i].2.2.length
          · have hne' : (0 : Int) < es[i].2.2.length := by omega
            obtain ⟨q, hq⟩ : ∃ q, q + 1 = p + u6.length := ⟨p + u6.length - 1, by have := frameB_pos (s + i) es[i].2.2; rw [hu6.out]; omega⟩
            have eq1 : (p : Int) + (u6.length : Int) - 1 = (q : Int) := by omega
            have hqb : q < ub.length := by omega
            have hqb' : (q : Int) < ub.length := by omega
            obtain ⟨x, hxq⟩ : ∃ x, ub[q]? = some x := ⟨ub[q], List.getElem?_eq_getElem hqb⟩
            have HX := Lib.hid hxq
            have hbox : Below w7.heap.size w7 (w7.alloc (.cells #[] 5)) := (Below.refl _ _).alloc (Nat.le_refl _) _
            have HQ := Lib.hid hq
            clear hxq hq
            go_wp2_with (at_builtin; refine wp_appN rfl _ _ rfl w7.heap.size _ _ [] _ _ _ ub Ob.empty (ho62.by_.below hbox) rfl rfl (by simp) (by omega) (by simp) ?_; intro A8 c8 w8 vb hvb ho8 hb8; have evb : ub = vb := (by rw [hvb.out]; rfl); subst evb; obtain ⟨g, rfl, hg1, hg2, hcg, hfg⟩ := ho8.at_ HX.out)
            have ho9 := ho8.setB (k := q) (by omega) (x ^^^ 1)
            have hx1 := xor8 x 1
            rw [show ((1 : UInt8).toNat : Int) = 1 from rfl] at hx1
            rw [← hx1] at ho9
            have hl9 : (ub.set q (x ^^^ 1)).length = ub.length := by simp
            have hjb := jr_bent (a := datas es) HOK.out (i := i) (by rw [hdl]; omega) (by rw [hdd]; intro h0; rw [h0] at hne; simp at hne) (p := q) (by rw [HQ.out, HPS.out]) (by rw [← H2.out]; exact HX.out) (xor_ne (x := x) (z := 1) (by decide)) (xs := ub.set q (x ^^^ 1)) (by rw [H2.out])
            generalize ub.set q (x ^^^ 1) = wb at ho9 hl9 hjb
            have HCL := journalRead_impl _ _ wb s _ ho9.by_ ho9.le_cap (by omega) (by omega) (by omega)
            rw [hl9] at HCL hjb
            clear hl9 hx1
            refine HCL.mono ?_
            clear HCL
            rintro e w9 ⟨A9, c9, n9, f9, q9, hr9, hn9, hN9, ht9, rfl, hdj9, hw9, hb9⟩
            obtain rfl : i = n9 := by
              rw [hr9.out] at hjb
              have := congrArg List.length hjb
              rw [List.length_take, hdl] at this
              simp [datas] at this
              omega
            clear hr9 hjb
            have B9 : Below w5.heap.size w5 w9 := ((B6.trans ((hbox.trans hb8).mono zB6)).setCell (p := ⟨g, q, none⟩) (by dsimp only; omega) _).trans (hb9.mono (by have := (hbox.trans hb8).size; simp; omega))
            go_wp2_with fail
            go_roundw
            case rel => exact ⟨i + 1, p + u6.length, by omega, by go_num, by go_num, HPS, B9⟩
            case measure => simp [intOf]; omega
          · have hne' : ¬ (0 : Int) < es[i].2.2.length := by omega
            go_wp2_with fail
            go_roundw
            case rel => exact ⟨i + 1, p + u6.length, by omega, by go_num, by go_num, HPS, B6⟩
            case measure => simp [intOf]; omega
      · have hlt' : ¬ (i : Int) < n1 := by omega
        go_wp2_with fail
        go_ret
        exact ⟨rfl, hb05⟩
end Go.Proofs.Ytbaojeiinjjlcaa
