/- The links and turns of a disk are valid: the program's way. A disk is valid: the program's way says what the reference's says. A disk is valid: the program's way. A disk is valid: the law. -/
import Derived.Test.YtndmdhmghjfckaaVd
import Derived.Deep.RegionHeld3
import Derived.Deep.DeepCutAuto
namespace Go.Proofs.Ytndmdhmghjfckaa
open Go.RowKit

set_option linter.unusedVariables false
set_option maxRecDepth 100000

/-- The turns, one after the other: the program's way. -/
def runI : List Lk → List Tn → Bool
  | _, [] => true
  | d, t :: r => fieldB t && okI d t && runI (turnS d t) r
def linkB (ks : List Lk) (ts : List Tn) (fids : List Int) : Bool := decide ((ts.length : Int) ≤ 30) && decide ((ks.length : Int) ≤ 10) && kB ByteArray.empty ks && runI ks ts && decide (srtI (idsOf ks ts) = fids)
theorem runI_drop {ts : List Tn} {k : Nat} (d : List Lk) (hk : k < ts.length) : runI d (ts.drop k) = (fieldB ts[k] && okI d ts[k] && runI (turnS d ts[k]) (ts.drop (k + 1))) := by
  rw [List.drop_eq_getElem_cons hk, runI]
theorem kB_all : ∀ (ks : List Lk) (p : ByteArray), kB p ks = true → ∀ x, x ∈ ks → ltN p x.1 = true
  | [], _, _, x, hx => by simp at hx
  | y :: r, p, h, x, hx => by
    rw [kB] at h
    simp only [Bool.and_eq_true] at h
    rcases List.mem_cons.1 hx with rfl | hx
    · exact h.1.2
    · exact ltN_trans h.1.2 (kB_all r y.1 h.2 x hx)
theorem kB_srt : ∀ (ks : List Lk) (p : ByteArray), kB p ks = true → Srt ks
  | [], _, _ => List.Pairwise.nil
  | y :: r, p, h => by
    rw [kB] at h
    simp only [Bool.and_eq_true] at h
    exact List.pairwise_cons.2 ⟨fun x hx => kB_all r y.1 h.2 x hx, kB_srt r y.1 h.2⟩
set_option maxHeartbeats 16000000 in
theorem linksOk_any (r f n : Int) (FA : Option Addr) (es : List Fl) (c1 : Nat) (KA : Option Addr) (ks : List Lk) (c2 : Nat) (TA : Option Addr) (ts : List Tn) (c3 : Nat) (w : World) (hF : SlL w FA 3 flL es) (hl : es.length ≤ 1048576)
    (hK : Ks w KA ks) (hkl : ks.length ≤ 1048576) (hkm : ∀ x, x ∈ ks → x.1.data.toList.length ≤ 549755813888) (hT : Ts w TA ts) (htl : ts.length ≤ 1048576) (htm : ∀ x, x ∈ ts → x.2.1.data.toList.length ≤ 549755813888 ∧ x.2.2.1.data.toList.length ≤ 549755813888) :
    Calls Try.prog 18 #[dkV r f n FA es.length c1 KA ks.length c2 TA ts.length c3] w fun e w' => e = .returned (.bool (linkB ks ts (es.map fid))) ∧ Below w.heap.size w w' := by
  have hb0 : Below w.heap.size w (w.alloc (.cells (dkC r f n FA es.length c1 KA ks.length c2 TA ts.length c3) 27)) := by (repeat (first | exact Below.refl _ _ | (refine Below.alloc ?_ (by first | omega | (simp; done) | (simp; omega)) _) | (refine Below.drew ?_) | (refine below_drewN ?_ _) | (refine below_at1 ?_ (by first | omega | (simp; done) | (simp; omega))) | (refine Below.setCell ?_ (by first | omega | (simp; done) | (simp; omega)) _) | (refine Below.trans ?_ (Below.mono (by assumption) (by first | omega | (simp; done) | (simp; omega))))))
  by_cases n1 : (30 : Int) < ts.length
  case pos =>
    have HZ : Hid (linkB ks ts (es.map fid) = false) := by show _ = _; rw [linkB, decide_eq_false (by omega)]; rfl
    go_enter Try.func18, Try.ntmps18
    go_wp2_with fail
    go_ret
    exact ⟨ret_bool HZ.out.symm, hb0⟩
  by_cases n2 : (10 : Int) < ks.length
  case pos =>
    have HZ : Hid (linkB ks ts (es.map fid) = false) := by show _ = _; rw [linkB, decide_eq_false (show ¬ (ks.length : Int) ≤ 10 by omega), Bool.and_false]; rfl
    go_enter Try.func18, Try.ntmps18
    go_wp2_with fail
    go_ret
    exact ⟨ret_bool HZ.out.symm, hb0⟩
  have HM := Lib.hid (And.intro n1 n2)
  have HD : Hid (linkB ks ts (es.map fid) = (kB ByteArray.empty ks && runI ks ts && decide (srtI (idsOf ks ts) = es.map fid))) := by show _ = _; rw [linkB, decide_eq_true (show (ts.length : Int) ≤ 30 by omega), decide_eq_true (show (ks.length : Int) ≤ 10 by omega)]; rfl
  have B0 : ((w.alloc (.cells (dkC r f n FA es.length c1 KA ks.length c2 TA ts.length c3) 27)).alloc (.cells #[] 3)).heap[w.heap.size]? = some (.cells (dkC r f n FA es.length c1 KA ks.length c2 TA ts.length c3) 27 (0, 0)) := (by repeat (first | assumption | exact heap_alloc_at _ (by first | rfl | (simp; done) | omega) | refine heap_alloc_of _ ?_ | refine heap_setCell_of _ (by first | omega | (simp; done) | (simp; omega)) ?_ | refine heap_setCell_same _ ?_ | exact heap_at1_same (by first | omega | (simp; done) | (simp; omega)) | refine heap_at1_of (by first | omega | (simp; done) | (simp; omega)) ?_))
  go_enter Try.func18, Try.ntmps18
  go_wp2_with fail
  clear n1 n2
  go_loopw [3, 24] (fun ov i wr => ∃ (k : Nat) (A1 : Option Addr) (c1' : Nat) (us : List Int), k ≤ ks.length ∧ i = .int .i64 k ∧ ov = .slice A1 us.length c1' ∧ Oi wr (w.heap.size + 1) A1 c1' us ∧ us.length ≤ k ∧ Hid (us = (ks.take k).map (fun x => x.2)) ∧ Hid (kB ByteArray.empty ks = kB (pvN ks k) (ks.drop k)) ∧ Below w.heap.size w wr ∧ wr.heap[w.heap.size]? = some (.cells (dkC r f n FA es.length c1 KA ks.length c2 TA ts.length c3) 27 (0, 0))) (fun _ i _ => ks.length - (intOf i).toNat)
  case atStart => exact ⟨0, some ⟨w.heap.size + 1, 0, none⟩, 0, [], Nat.zero_le _, rfl, rfl, Oe.emptyAt (by simp), Nat.zero_le _, Lib.hid rfl, Lib.hid rfl, hb0.alloc (by first | omega | (simp; done) | (simp; omega)) _, B0⟩
  case round =>
    clear B0 hb0
    obtain ⟨k2, A1, c1', us, hk2, rfl, rfl, ho, hul, hu, hg2, hb, hB⟩ := hrel
    have zb := hb.size
    have zB : w.heap.size < wr.heap.size := (Array.getElem?_eq_some_iff.1 hB).1
    by_cases hlt : k2 < ks.length
    · obtain ⟨b, o, rfl, hbs, x0, x1⟩ := Ks.get (hK.below hb) hlt
      have hlt' : (k2 : Int) < ks.length := by omega
      have q4 : wr.cell? ⟨w.heap.size, 4, none⟩ = some (.slice (some ⟨b, o, none⟩) ks.length c2) := cell_of_row wr w.heap.size 4 _ _ (0, 0) hB
      have hgb := @kB_bad ks k2 hlt
      have hgo := @kB_ok ks k2 hlt
      have hsn := hkm _ (List.getElem_mem hlt)
      have HG : Hid ((nmB ks[k2].1 && ltN (pvN ks k2) ks[k2].1) = false → linkB ks ts (es.map fid) = false) := Lib.hid fun h => by rw [HD.out, hg2.out, hgb h]; rfl
      have HO : Hid ((nmB ks[k2].1 && ltN (pvN ks k2) ks[k2].1) = true → kB ByteArray.empty ks = kB (pvN ks (k2 + 1)) (ks.drop (k2 + 1))) := Lib.hid fun h => by rw [hg2.out, hgo h]
      have HU : Hid (us ++ [ks[k2].2] = (ks.take (k2 + 1)).map (fun x => x.2)) := by show _ = _; rw [take_succ_get (List.getElem?_eq_getElem hlt), List.map_append, ← hu.out]; rfl
      clear hgb hgo hg2 hu
      cases hnm : nmB ks[k2].1 with
      | false =>
        have HN : Hid (plainR ks[k2].1.data.toList 16 [46] = false) := hnm
        have HZ : Hid (linkB ks ts (es.map fid) = false) := HG.out (by rw [hnm]; rfl)
        clear HG HO hnm
        go_wp2_with fail
        first | (have e0 : (0 : Int) < k2 := by omega) | (have e0 : ¬ (0 : Int) < k2 := by omega) | skip
        first | (have e1 : 0 < k2 := by omega) | (have e1 : ¬ 0 < k2 := by omega) | skip
        go_quiet ((go_at_call 35; refine Calls.quiet_of_same (v := .bool false) ((nameOk_impl _ _ hsn).mono ?_); rintro e w9 ⟨he, hw⟩; exact ⟨he.trans (congrArg Ending.returned (congrArg Value.bool HN.out)), hw.symm⟩))
        go_wp2_with fail
        go_ret
        exact ⟨ret_bool HZ.out.symm, below_drewN (hb.alloc (by first | omega | (simp; done) | (simp; omega)) _) _⟩
      | true =>
        have HN : Hid (plainR ks[k2].1.data.toList 16 [46] = true) := hnm
        rcases Nat.eq_zero_or_pos k2 with hk0 | hk0
        · have HZ : Hid (kB ByteArray.empty ks = kB (pvN ks (k2 + 1)) (ks.drop (k2 + 1))) := HO.out (by rw [hnm, show pvN ks k2 = ByteArray.empty from by rw [hk0]; rfl]; exact lt_empty hnm)
          have hkp : ¬ (0 : Int) < k2 := by omega
          clear HG HO hnm hk0
          go_wp2_with fail
          first | (have e0 : (0 : Int) < k2 := by omega) | (have e0 : ¬ (0 : Int) < k2 := by omega) | skip
          first | (have e1 : 0 < k2 := by omega) | (have e1 : ¬ 0 < k2 := by omega) | skip
          go_quiet ((go_at_call 35; refine Calls.quiet_of_same (v := .bool true) ((nameOk_impl _ _ hsn).mono ?_); rintro e w9 ⟨he, hw⟩; exact ⟨he.trans (congrArg Ending.returned (congrArg Value.bool HN.out)), hw.symm⟩))
          go_wp2_with (at_builtin; refine wp_app1I rfl _ _ rfl (w.heap.size + 1) A1 c1' us _ _ ks[k2].2 (Oe.drewN (ho.alloc _) _) rfl rfl _ rfl (by simp) (by omega) (by first | omega | (simp; done) | (simp; omega)) ?_; intro A2 c2' w2 vs hvs ho2 hb2 hk3)
          have hA := ho.inB
          have hs2 := hb2.size
          go_roundw
          case rel =>
            refine ⟨k2 + 1, A2, c2', vs, by omega, by go_num, rfl, ho2, by rw [hvs.out]; simp; omega, Lib.hid (hvs.out.trans HU.out), HZ, Below.trans (below_drewN (hb.alloc (by first | omega | (simp; done) | (simp; omega)) _) _) (hb2.mono (by omega)), ?_⟩
            rw [hk3 w.heap.size (by first | omega | (simp; done) | (simp; omega)) (fun ad h => by have := (hA ad h).1; omega)]
            exact heap_alloc_of _ hB
          case measure => simp [intOf]; omega
        · obtain ⟨j, hj⟩ : ∃ j, Hid (k2 = j + 1) := ⟨k2 - 1, by show k2 = _; omega⟩
          have hjl : j < ks.length := by have := hj.out; omega
          obtain ⟨b', o', hA', _, y0, _⟩ := Ks.get (hK.below hb) hjl
          injection hA' with hA'
          injection hA' with e1 e2 e3
          subst e1 e2
          have hw1 : IntKind.i64.wrap ((k2 : Int) - 1) = (j : Int) := by have := hj.out; rw [IntKind.wrap_i64]; omega
          have hj0 : (0 : Int) ≤ j := by omega
          have hj1 : (j : Int) < ks.length := by omega
          have HP : Hid (pvN ks k2 = ks[j].1) := by have := hj.out; subst this; exact pvN_succ ks j hjl
          cases hlt2 : ltN ks[j].1 ks[k2].1 with
          | false =>
            have HZ : Hid (linkB ks ts (es.map fid) = false) := HG.out (by rw [hnm, HP.out, hlt2]; rfl)
            have hl3 : Op.bytesLess ks[j].1.toList ks[k2].1.toList = false := hlt2
            clear HG HO hnm hlt2
            go_wp2_with fail
            first | (have e0 : (0 : Int) < k2 := by omega) | (have e0 : ¬ (0 : Int) < k2 := by omega) | skip
            first | (have e1 : 0 < k2 := by omega) | (have e1 : ¬ 0 < k2 := by omega) | skip
            go_quiet ((go_at_call 35; refine Calls.quiet_of_same (v := .bool true) ((nameOk_impl _ _ hsn).mono ?_); rintro e w9 ⟨he, hw⟩; exact ⟨he.trans (congrArg Ending.returned (congrArg Value.bool HN.out)), hw.symm⟩))
            go_wp2_with fail
            go_ret
            exact ⟨ret_bool HZ.out.symm, below_drewN (hb.alloc (by first | omega | (simp; done) | (simp; omega)) _) _⟩
          | true =>
            have HZ : Hid (kB ByteArray.empty ks = kB (pvN ks (k2 + 1)) (ks.drop (k2 + 1))) := HO.out (by rw [hnm, HP.out, hlt2]; rfl)
            have hl3 : Op.bytesLess ks[j].1.toList ks[k2].1.toList = true := hlt2
            clear HG HO hnm hlt2
            go_wp2_with fail
            first | (have e0 : (0 : Int) < k2 := by omega) | (have e0 : ¬ (0 : Int) < k2 := by omega) | skip
            first | (have e1 : 0 < k2 := by omega) | (have e1 : ¬ 0 < k2 := by omega) | skip
            go_quiet ((go_at_call 35; refine Calls.quiet_of_same (v := .bool true) ((nameOk_impl _ _ hsn).mono ?_); rintro e w9 ⟨he, hw⟩; exact ⟨he.trans (congrArg Ending.returned (congrArg Value.bool HN.out)), hw.symm⟩))
            go_wp2_with (at_builtin; refine wp_app1I rfl _ _ rfl (w.heap.size + 1) A1 c1' us _ _ ks[k2].2 (Oe.drewN (ho.alloc _) _) rfl rfl _ rfl (by simp) (by omega) (by first | omega | (simp; done) | (simp; omega)) ?_; intro A2 c2' w2 vs hvs ho2 hb2 hk3)
            have hA := ho.inB
            have hs2 := hb2.size
            go_roundw
            case rel =>
              refine ⟨k2 + 1, A2, c2', vs, by omega, by go_num, rfl, ho2, by rw [hvs.out]; simp; omega, Lib.hid (hvs.out.trans HU.out), HZ, Below.trans (below_drewN (hb.alloc (by first | omega | (simp; done) | (simp; omega)) _) _) (hb2.mono (by omega)), ?_⟩
              rw [hk3 w.heap.size (by first | omega | (simp; done) | (simp; omega)) (fun ad h => by have := (hA ad h).1; omega)]
              exact heap_alloc_of _ hB
            case measure => simp [intOf]; omega
    · have hlt' : ¬ ((k2 : Int) < ks.length) := by omega
      have hkT : kB ByteArray.empty ks = true := by rw [hg2.out, List.drop_of_length_le (by omega)]; rfl
      have HS := Lib.hid (kB_srt ks _ hkT)
      have HD2 : Hid (linkB ks ts (es.map fid) = (runI ks ts && decide (srtI (idsOf ks ts) = es.map fid))) := by rw [HD.out, hkT]; exact Lib.hid rfl
      have hu1 : Hid (us = ks.map (fun x => x.2)) := hu.out.trans (by rw [List.take_of_length_le (by omega)])
      have q4 : wr.cell? ⟨w.heap.size, 4, none⟩ = some (.slice KA ks.length c2) := cell_of_row wr w.heap.size 4 _ _ (0, 0) hB
      have q5 : wr.cell? ⟨w.heap.size, 5, none⟩ = some (.slice TA ts.length c3) := cell_of_row wr w.heap.size 5 _ _ (0, 0) hB
      have hK5 := hK.below hb
      have hkl10 : ks.length ≤ 10 := by have := HM.out.2; omega
      have hk3 := hk2
      clear hg2 hu HD hkT hlt
      go_wp2_with fail
      go_loopw [3, 6, 60] (fun ov dv i wr => ∃ (k : Nat) (A1 : Option Addr) (c1' : Nat) (us : List Int) (A6 : Option Addr) (c6 : Nat) (dir : List Lk), k ≤ ts.length ∧ i = .int .i64 k ∧ ov = .slice A1 us.length c1' ∧ dv = .slice A6 dir.length c6 ∧ Oi wr (w.heap.size + 1) A1 c1' us ∧ us.length ≤ 10 + k ∧ Hid (us = ks.map (fun x => x.2) ++ mkIds (ts.take k)) ∧ Ks wr A6 dir ∧ dir.length ≤ 10 + k ∧ Hid (Srt dir) ∧ Hid (runI ks ts = runI dir (ts.drop k)) ∧ Below w.heap.size w wr ∧ wr.heap[w.heap.size]? = some (.cells (dkC r f n FA es.length c1 KA ks.length c2 TA ts.length c3) 27 (0, 0))) (fun _ _ i _ => ts.length - (intOf i).toNat)
      case atStart => exact ⟨0, A1, c1', us, KA, c2, ks, Nat.zero_le _, rfl, rfl, rfl, ho, by omega, Lib.hid (by rw [hu1.out]; simp [mkIds]), hK5, by omega, HS, Lib.hid rfl, hb, hB⟩
      case round =>
        clear ho hul hu1 hb hB zb zB q4 q5 hK5
        obtain ⟨k6, A3, c3', vs, A6, c6, dir, hk6, rfl, rfl, rfl, ho, hul, hu, hd6, hl6, hs6, hg6, hb, hB⟩ := hrel
        have zb := hb.size
        have zB : w.heap.size < wr.heap.size := (Array.getElem?_eq_some_iff.1 hB).1
        have htl6 : ts.length ≤ 30 := by have := HM.out.1; omega
        by_cases hlt6 : k6 < ts.length
        · obtain ⟨b, o, rfl, hbs, x0, x1, x2, x3⟩ := Ts.get (hT.below hb) hlt6
          have hlt6' : (k6 : Int) < ts.length := by omega
          have hr := runI_drop dir hlt6
          obtain ⟨htm1, htm2⟩ := htm _ (List.getElem_mem hlt6)
          have hb7 : Below wr.heap.size wr (wr.alloc (.cells (tnL ts[k6]).toArray 66)) := (Below.refl _ _).alloc (Nat.le_refl _) _
          have ct := isTurn_any ts[k6] (wr.alloc (.cells (tnL ts[k6]).toArray 66)) htm1 htm2
          cases hfb : fieldB ts[k6] with
          | false =>
            have HZ : Hid (linkB ks ts (es.map fid) = false) := by rw [HD2.out, hg6.out, hr, hfb]; exact Lib.hid rfl
            rw [hfb] at ct
            clear hr hfb hg6 hu
            go_wp2_with fail
            refine ct.mono ?_
            rintro e w7 ⟨rfl, hb8⟩
            go_wp2_with fail
            go_ret
            exact ⟨ret_bool HZ.out.symm, hb.trans ((hb7.trans (hb8.mono hb7.size)).mono zb)⟩
          | true =>
            rw [hfb] at ct
            cases hok : okI dir ts[k6] with
            | false =>
              have HZ : Hid (linkB ks ts (es.map fid) = false) := by rw [HD2.out, hg6.out, hr, hfb, hok]; exact Lib.hid rfl
              clear hr hfb hg6 hu
              go_wp2_with fail
              refine ct.mono ?_
              rintro e w7 ⟨rfl, hb8⟩
              have t7 := hb7.trans (hb8.mono hb7.size)
              obtain ⟨B8, y, _, z9⟩ := keep_blk hb8 (g := wr.heap.size) (heap_alloc_new _ _)
              have y0 : w7.cell? ⟨wr.heap.size, 0, none⟩ = some (.int .i64 ts[k6].1) := y 0
              have y1 : w7.cell? ⟨wr.heap.size, 1, none⟩ = some (.string ts[k6].2.1) := y 1
              have y2 : w7.cell? ⟨wr.heap.size, 2, none⟩ = some (.string ts[k6].2.2.1) := y 2
              have y3 : w7.cell? ⟨wr.heap.size, 3, none⟩ = some (.int .i64 ts[k6].2.2.2) := y 3
              clear y B8
              have ca := applied_any A6 c6 dir ts[k6] w7 (hd6.below t7) (by omega) hs6.out
              rw [hok] at ca
              clear hok
              go_wp2_with fail
              refine ca.mono ?_
              rintro e w8 ⟨hb9, he⟩
              rw [if_neg (by simp)] at he
              subst he
              go_wp2_with fail
              go_ret
              exact ⟨ret_bool HZ.out.symm, hb.trans ((t7.trans (hb9.mono t7.size)).mono zb)⟩
            | true =>
              have HZ : Hid (runI ks ts = runI (turnS dir ts[k6]) (ts.drop (k6 + 1))) := by rw [hg6.out, hr, hfb, hok]; exact Lib.hid rfl
              have HS6 : Hid (Srt (turnS dir ts[k6])) := turnS_srt hs6.out hok
              have hlen := turnS_len dir ts[k6]
              have hs := mkIds_succ ts k6 hlt6
              clear hr hfb hg6
              go_wp2_with fail
              refine ct.mono ?_
              rintro e w7 ⟨rfl, hb8⟩
              have t7 := hb7.trans (hb8.mono hb7.size)
              obtain ⟨B8, y, _, z9⟩ := keep_blk hb8 (g := wr.heap.size) (heap_alloc_new _ _)
              have y0 : w7.cell? ⟨wr.heap.size, 0, none⟩ = some (.int .i64 ts[k6].1) := y 0
              have y1 : w7.cell? ⟨wr.heap.size, 1, none⟩ = some (.string ts[k6].2.1) := y 1
              have y2 : w7.cell? ⟨wr.heap.size, 2, none⟩ = some (.string ts[k6].2.2.1) := y 2
              have y3 : w7.cell? ⟨wr.heap.size, 3, none⟩ = some (.int .i64 ts[k6].2.2.2) := y 3
              clear y B8
              have ca := applied_any A6 c6 dir ts[k6] w7 (hd6.below t7) (by omega) hs6.out
              rw [hok] at ca
              clear hok
              obtain ⟨dir2, hdir2⟩ : ∃ dir2, Hid (dir2 = turnS dir ts[k6]) := ⟨_, Lib.hid rfl⟩
              rw [← hdir2.out] at ca hlen
              go_wp2_with fail
              refine ca.mono ?_
              rintro e w8 ⟨hb9, he⟩
              rw [if_pos rfl] at he
              obtain ⟨A8, c8, rfl, ho8⟩ := he
              have k8 := ho8.sl lk2
              have t8 := t7.trans (hb9.mono t7.size)
              have tw := hb.trans (t8.mono zb)
              have zz := t8.size
              have ho9 : Oi w8 (w.heap.size + 1) A3 c3' vs := Oe.below ho t8 (Nat.le_refl _)
              have hB8 := (t8.block _ zB).trans hB
              have y0' := (hb9.cell (p := ⟨wr.heap.size, 0, none⟩) z9).trans y0
              have y3' := (hb9.cell (p := ⟨wr.heap.size, 3, none⟩) z9).trans y3
              clear y0 y1 y2 y3 x0 x1 x2 x3
              cases he : (ts[k6].1 == 1) with
              | true =>
                have HF : Hid (vs ++ [ts[k6].2.2.2] = ks.map (fun x => x.2) ++ mkIds (ts.take (k6 + 1))) := by
                  show _ = _
                  rw [hs, if_pos (by simpa using he), ← List.append_assoc, ← hu.out]
                clear hu hs
                go_wp2_with (at_builtin; refine wp_app1I rfl _ _ rfl (w.heap.size + 1) A3 c3' vs _ _ ts[k6].2.2.2 ho9 rfl rfl _ rfl (by simp) (by omega) (by omega) ?_; intro A4 c4' w4 us4 hus4 ho4 hb4 hk4)
                have hA := ho9.inB
                go_roundw
                case rel =>
                  refine ⟨k6 + 1, A4, c4', us4, A8, c8, dir2, by omega, by go_num, rfl, rfl, ho4, by rw [hus4.out]; simp; omega, Lib.hid (hus4.out.trans HF.out), ?_, by omega, by rw [hdir2.out]; exact HS6, by rw [HZ.out, hdir2.out]; exact Lib.hid rfl, tw.trans (hb4.mono (by omega)), ?_⟩
                  · exact Oe.sl lk2 (Oe.keepB ho8 fun ad ha => hk4 _ (ho8.inB ad ha).2 (fun ad' ha' => by have := (ho.inB ad' ha').2; have := (ho8.inB ad ha).1; have := t7.size; omega))
                  · rw [hk4 w.heap.size (by omega) (fun ad h => by have := (hA ad h).1; omega)]
                    exact hB8
                case measure => simp [intOf]; omega
              | false =>
                have HF : Hid (vs = ks.map (fun x => x.2) ++ mkIds (ts.take (k6 + 1))) := by
                  show _ = _
                  rw [hs, if_neg (by simpa using he), List.append_nil, ← hu.out]
                clear hu hs
                go_wp2_with fail
                go_roundw
                case rel => exact ⟨k6 + 1, A3, c3', vs, A8, c8, dir2, by omega, by go_num, rfl, rfl, ho9, by omega, HF, k8, by omega, by rw [hdir2.out]; exact HS6, by rw [HZ.out, hdir2.out]; exact Lib.hid rfl, tw, hB8⟩
                case measure => simp [intOf]; omega
        · have hlt6' : ¬ ((k6 : Int) < ts.length) := by omega
          have HD3 : Hid (linkB ks ts (es.map fid) = decide (srtI vs = es.map fid)) := by
            rw [HD2.out, hg6.out, List.drop_of_length_le (by omega), hu.out, List.take_of_length_le (by omega)]
            exact Lib.hid rfl
          have cs := sortI_any (w.heap.size + 1) A3 c3' vs wr ho (by omega) zB
          clear hg6 HD2 hu
          go_wp2_with fail
          refine cs.mono ?_
          rintro e w8 ⟨rfl, hc8, hb8⟩
          have hB8 := (hb8.block w.heap.size (by omega)).trans hB
          have q3 : w8.cell? ⟨w.heap.size, 3, none⟩ = some (.slice FA es.length c1) := cell_of_row w8 w.heap.size 3 _ _ (0, 0) hB8
          have t8 := hb.trans (hb8.mono (by omega))
          have ce := eqFunc_any A3 c3' (srtI vs) FA c1 es w8 hc8 (hF.below t8) (by rw [srtI_len]; omega) hl
          rw [srtI_len] at ce
          go_wp2_with fail
          refine ce.mono ?_
          rintro e w9 ⟨rfl, hb9⟩
          go_wp2_with fail
          go_ret
          exact ⟨ret_bool HD3.out.symm, t8.trans (hb9.mono t8.size)⟩

set_option linter.unusedVariables false
set_option maxRecDepth 100000

theorem fB_asc : ∀ (n : Int) (l : List (Int × List UInt8 × Int)) (p : Int), fB n p l = true → (∀ x, x ∈ l → p < x.1 ∧ 1 ≤ x.1) ∧ (l.map fun x => x.1).Pairwise (· < ·)
  | _, [], _, _ => ⟨fun x hx => by simp at hx, List.Pairwise.nil⟩
  | n, y :: r, p, h => by
    rw [fB] at h
    simp only [Bool.and_eq_true, decide_eq_true_eq] at h
    obtain ⟨⟨h1, h2, h3, h4, h5⟩, h6⟩ := h
    obtain ⟨i1, i2⟩ := fB_asc n r y.1 h6
    refine ⟨fun x hx => ?_, List.pairwise_cons.2 ⟨fun z hz => ?_, i2⟩⟩
    · rcases List.mem_cons.1 hx with rfl | hx
      · exact ⟨h3, h1⟩
      · have := i1 x hx; omega
    · obtain ⟨x, hx, rfl⟩ := List.mem_map.1 hz
      exact (i1 x hx).1
theorem asc_nodup {l : List Int} (h : l.Pairwise (· < ·)) : l.Nodup := h.imp fun hab => by omega
theorem srt_eq {ids fids : List Int} (h : fids.Pairwise (· < ·)) : decide (srtI ids = fids) = idB ids fids := by
  have hnd := asc_nodup h
  have hp : (srtI ids).Perm ids := List.mergeSort_perm ids _
  rw [Bool.eq_iff_iff, decide_eq_true_eq, idB]
  simp only [Bool.and_eq_true, decide_eq_true_eq, List.all_eq_true]
  constructor
  · rintro rfl
    exact ⟨⟨hp.length_eq.symm, hp.nodup hnd⟩, fun n hn => hp.symm.mem_iff.1 hn⟩
  · rintro ⟨⟨h1, h2⟩, h3⟩
    have hsub : ∀ a, a ∈ fids → a ∈ ids := fun a ha => by
      by_cases h4 : a ∈ ids
      · exact h4
      · have h5 : (a :: ids).Nodup := List.nodup_cons.2 ⟨h4, h2⟩
        have h6 := List.Nodup.length_le_of_subset h5 (l₂ := fids) fun x hx => by
          rcases List.mem_cons.1 hx with rfl | hx
          · exact ha
          · exact h3 x hx
        rw [List.length_cons] at h6
        omega
    have hpf : ids.Perm fids := (List.perm_ext_iff_of_nodup h2 hnd).2 fun a => ⟨fun ha => h3 a ha, fun ha => hsub a ha⟩
    have hs : (srtI ids).Pairwise fun x y => decide (x ≤ y) = true := List.pairwise_mergeSort (le := fun x y => decide (x ≤ y)) (fun a b c h1 h2 => by simp at h1 h2 ⊢; omega) (fun a b => by simp; omega) ids
    exact List.Perm.eq_of_pairwise (le := fun x y => decide (x ≤ y) = true) (fun a b _ _ h1 h2 => by simp at h1 h2; omega) hs (h.imp fun hab => by simp; omega) (hp.trans hpf)
def PosI (dir : List Lk) : Prop := ∀ x, x ∈ dir → 0 < x.2
theorem find_pos {n : ByteArray} : ∀ (dir : List Lk), PosI dir → decide (0 < findS dir n) = hasN dir n
  | [], _ => rfl
  | x :: r, h => by
    have hr := find_pos (n := n) r fun y hy => h y (List.mem_cons_of_mem _ hy)
    rw [findS, hasN, List.any_cons]
    cases hx : eqN x.1 n with
    | true => simpa using h x (List.mem_cons_self ..)
    | false => rw [if_neg (by simp), hr]; rfl
theorem mem_withS {n : ByteArray} {i : Int} {y : Lk} : ∀ (d : List Lk), y ∈ withS d n i → y = (n, i) ∨ y ∈ d
  | [], h => by simpa [withS] using h
  | a :: d, h => by
    rw [withS] at h
    split at h
    · rcases List.mem_cons.1 h with h | h
      · exact .inl h
      · exact .inr h
    · rcases List.mem_cons.1 h with h | h
      · exact .inr (List.mem_cons.2 (.inl h))
      · rcases mem_withS d h with h | h
        · exact .inl h
        · exact .inr (List.mem_cons_of_mem _ h)
theorem turn_ok {dir : List Lk} {t : Tn} (hp : PosI dir) (ht : t.1 = 1 → 0 < t.2.2.2) : okS dir t = (fieldB t && okI dir t) := by
  obtain ⟨k, s, u, i⟩ := t
  have hf := find_pos (n := s) dir hp
  dsimp only at ht
  unfold okS fieldB okI
  dsimp only
  rw [hf]
  by_cases h1 : k = 1
  · have hi : decide (0 < i) = true := decide_eq_true (ht h1)
    simp only [if_pos h1, hi]
    cases nmB s <;> cases noB u <;> cases hasN dir s <;> rfl
  · by_cases h4 : k = 4
    · subst h4
      simp only [if_neg h1]
      cases nmB s <;> cases nmB u <;> cases decide (i = 0) <;> cases hasN dir s <;> cases eqN u s <;> rfl
    · by_cases h5 : k = 5
      · subst h5
        simp only [if_neg h1, if_neg h4]
        cases nmB s <;> cases noB u <;> cases decide (i = 0) <;> cases hasN dir s <;> simp
      · simp only [if_neg h1, if_neg h4, if_neg h5]
        cases nmB s <;> rfl
theorem turn_pos {dir : List Lk} {t : Tn} (hp : PosI dir) (ht : t.1 = 1 → 0 < t.2.2.2) (ho : okI dir t = true) : PosI (turnS dir t) := by
  unfold turnS
  split
  · rename_i h1
    intro x hx
    rcases mem_withS dir hx with rfl | hx
    · exact ht h1
    · exact hp x hx
  · rename_i h1
    split
    · intro x hx
      rcases mem_withS _ hx with rfl | hx
      · rw [okI, if_neg h1] at ho
        have := find_pos (n := t.2.1) dir hp
        rw [(Bool.and_eq_true_iff.1 ho).1] at this
        exact of_decide_eq_true this
      · exact hp x (List.mem_filter.1 (List.mem_filter.1 hx).1).1
    · intro x hx
      exact hp x (List.mem_filter.1 hx).1
theorem run_eq : ∀ (ts : List Tn) (dir : List Lk), PosI dir → (∀ t, t ∈ ts → t.1 = 1 → 0 < t.2.2.2) → runS dir ts = runI dir ts
  | [], _, _, _ => rfl
  | t :: r, dir, hp, ht => by
    have h1 := ht t (List.mem_cons_self ..)
    rw [runS, runI, turn_ok hp h1]
    cases hf : fieldB t with
    | false => rfl
    | true =>
      cases ho : okI dir t with
      | false => rfl
      | true => rw [run_eq r _ (turn_pos hp h1 ho) fun x hx => ht x (List.mem_cons_of_mem _ hx)]
theorem dk_eq (r f n : Int) (fs : List (Int × List UInt8 × Int)) (u : Nat) (ks : List Lk) (ts : List Tn) :
    dkB r f n fs u ks ts = (decide (0 ≤ r ∧ r ≤ 400000) && decide (-1 ≤ f ∧ f ≤ 1000) && decide (1 ≤ n ∧ n ≤ 1000000) && (fB n 0 fs && decide ((fs.length : Int) ≤ 10) && decide ((u : Int) ≤ r)) && linkB ks ts (fs.map fun x => x.1)) := by
  have h0 : numB r f n fs.length ks.length ts.length u = (decide (0 ≤ r ∧ r ≤ 400000) && decide (-1 ≤ f ∧ f ≤ 1000) && decide (1 ≤ n ∧ n ≤ 1000000) && decide ((fs.length : Int) ≤ 10) && decide ((u : Int) ≤ r) && decide ((ts.length : Int) ≤ 30) && decide ((ks.length : Int) ≤ 10)) := by
    rw [Bool.eq_iff_iff, numB]
    simp only [Bool.and_eq_true, decide_eq_true_eq]
    omega
  rw [dkB, h0, linkB]
  cases hf : fB n 0 fs with
  | false => simp
  | true =>
    obtain ⟨h1, h2⟩ := fB_asc n fs 0 hf
    rw [srt_eq h2]
    cases hi : idB (idsOf ks ts) (fs.map fun x => x.1) with
    | false => simp
    | true =>
      have hall : ∀ z, z ∈ idsOf ks ts → 0 < z := fun z hz => by
        rw [idB] at hi
        have h3 := (List.all_eq_true.1 (Bool.and_eq_true_iff.1 hi).2 z hz)
        obtain ⟨x, hx, rfl⟩ := List.mem_map.1 (of_decide_eq_true h3)
        have := (h1 x hx).2
        omega
      have hpk : PosI ks := fun x hx => hall _ (List.mem_append_left _ (List.mem_map.2 ⟨x, hx, rfl⟩))
      have hpt : ∀ t, t ∈ ts → t.1 = 1 → 0 < t.2.2.2 := fun t ht h4 => hall _ (List.mem_append_right _ (List.mem_map.2 ⟨t, List.mem_filter.2 ⟨ht, by simpa using h4⟩, rfl⟩))
      rw [run_eq ts ks hpk hpt]
      cases decide (0 ≤ r ∧ r ≤ 400000) <;> cases decide (-1 ≤ f ∧ f ≤ 1000) <;> cases decide (1 ≤ n ∧ n ≤ 1000000) <;> cases decide ((fs.length : Int) ≤ 10) <;> cases decide ((u : Int) ≤ r) <;> cases decide ((ts.length : Int) ≤ 30) <;> cases decide ((ks.length : Int) ≤ 10) <;> cases kB ByteArray.empty ks <;> cases runI ks ts <;> rfl

set_option linter.unusedVariables false
set_option maxRecDepth 100000

set_option maxHeartbeats 8000000 in
theorem diskOk_impl (r f n : Int) (FA : Option Addr) (es : List Fl) (c1 : Nat) (KA : Option Addr) (ks : List Lk) (c2 : Nat) (TA : Option Addr) (ts : List Tn) (c3 : Nat) (w : World) (hF : Fs w FA es) (hl : es.length ≤ 1048576) (ht : ftot es ≤ 1048576) (hK : Ks w KA ks) (hkl : ks.length ≤ 1048576) (hkm : ∀ x, x ∈ ks → x.1.data.toList.length ≤ 549755813888) (hT : Ts w TA ts) (htl : ts.length ≤ 1048576) (htm : ∀ x, x ∈ ts → x.2.1.data.toList.length ≤ 549755813888 ∧ x.2.2.1.data.toList.length ≤ 549755813888) (hbd : ∀ e, e ∈ es → bd e.1 ∧ bd e.2.2) :
    Calls Try.prog 7 #[dkV r f n FA es.length c1 KA ks.length c2 TA ts.length c3] w fun e w' => e = .returned (.bool (dkB r f n (es.map fc) (ftot es) ks ts)) ∧ Below w.heap.size w w' := by
  have hb0 : Below w.heap.size w (w.alloc (.cells (dkC r f n FA es.length c1 KA ks.length c2 TA ts.length c3) 27)) := by (repeat (first | exact Below.refl _ _ | (refine Below.alloc ?_ (by first | omega | (simp; done) | (simp; omega)) _) | (refine Below.drew ?_) | (refine below_drewN ?_ _) | (refine below_at1 ?_ (by first | omega | (simp; done) | (simp; omega))) | (refine Below.setCell ?_ (by first | omega | (simp; done) | (simp; omega)) _) | (refine Below.trans ?_ (Below.mono (by assumption) (by first | omega | (simp; done) | (simp; omega))))))
  have hm : (es.map fc).map (fun x => x.1) = es.map fid := by rw [List.map_map]; rfl
  have HD : Hid (dkB r f n (es.map fc) (ftot es) ks ts = (decide (0 ≤ r ∧ r ≤ 400000) && decide (-1 ≤ f ∧ f ≤ 1000) && decide (1 ≤ n ∧ n ≤ 1000000) && (fB n 0 (es.map fc) && decide ((es.length : Int) ≤ 10) && decide ((ftot es : Int) ≤ r)) && linkB ks ts (es.map fid))) := by
    show _ = _
    rw [dk_eq, hm, List.length_map]
  have hff := fun w' (hb : Below w.heap.size w w') (h1 : 1 ≤ n) (h2 : n ≤ 1000000) => filesOk_any r f n FA es c1 KA ks c2 TA ts c3 w' (SlL.below hF.1 hb) hl ht h1 h2 hbd
  have hll := fun w' (hb : Below w.heap.size w w') => linksOk_any r f n FA es c1 KA ks c2 TA ts c3 w' (SlL.below hF.1 hb) hl (SlL.below hK hb) hkl hkm (SlL.below hT hb) htl htm
  clear hm hF hK hT hkm htm hbd
  cases h1 : decide (0 ≤ r ∧ r ≤ 400000) with
  | false =>
    have HZ : Hid (dkB r f n (es.map fc) (ftot es) ks ts = false) := by rw [HD.out, h1]; exact Lib.hid rfl
    have W1 := Lib.hid h1
    clear h1
    go_enter Try.func7, Try.ntmps7
    go_wp2_with (go_at_call_of 16 r; refine (within_any _ _ _ _).mono ?_; rintro e w' ⟨he, hw⟩; rw [W1.out] at he; subst he hw)
    go_ret
    exact ⟨ret_bool HZ.out.symm, hb0⟩
  | true =>
  have W1 := Lib.hid h1
  cases h2 : decide (-1 ≤ f ∧ f ≤ 1000) with
  | false =>
    have HZ : Hid (dkB r f n (es.map fc) (ftot es) ks ts = false) := by rw [HD.out, h1, h2]; exact Lib.hid rfl
    have W2 := Lib.hid h2
    clear h1 h2
    go_enter Try.func7, Try.ntmps7
    go_wp2_with (first | (go_at_call_of 16 r; refine (within_any _ _ _ _).mono ?_; rintro e w' ⟨he, hw⟩; rw [W1.out] at he; subst he hw) | (go_at_call_of 16 f; refine (within_any _ _ _ _).mono ?_; rintro e w' ⟨he, hw⟩; rw [W2.out] at he; subst he hw))
    go_ret
    exact ⟨ret_bool HZ.out.symm, hb0⟩
  | true =>
  have W2 := Lib.hid h2
  cases h3 : decide (1 ≤ n ∧ n ≤ 1000000) with
  | false =>
    have HZ : Hid (dkB r f n (es.map fc) (ftot es) ks ts = false) := by rw [HD.out, h1, h2, h3]; exact Lib.hid rfl
    have W3 := Lib.hid h3
    clear h1 h2 h3
    go_enter Try.func7, Try.ntmps7
    go_wp2_with (first | (go_at_call_of 16 r; refine (within_any _ _ _ _).mono ?_; rintro e w' ⟨he, hw⟩; rw [W1.out] at he; subst he hw) | (go_at_call_of 16 f; refine (within_any _ _ _ _).mono ?_; rintro e w' ⟨he, hw⟩; rw [W2.out] at he; subst he hw) | (go_at_call_of 16 n; refine (within_any _ _ _ _).mono ?_; rintro e w' ⟨he, hw⟩; rw [W3.out] at he; subst he hw))
    go_ret
    exact ⟨ret_bool HZ.out.symm, hb0⟩
  | true =>
  have W3 := Lib.hid h3
  obtain ⟨n1, n2⟩ := of_decide_eq_true h3
  have cf := hff _ hb0 n1 n2
  cases h4 : (fB n 0 (es.map fc) && decide ((es.length : Int) ≤ 10) && decide ((ftot es : Int) ≤ r)) with
  | false =>
    have HZ : Hid (dkB r f n (es.map fc) (ftot es) ks ts = false) := by rw [HD.out, h1, h2, h3, h4]; exact Lib.hid rfl
    rw [h4] at cf
    clear h1 h2 h3 h4 n1 n2 hff hll
    go_enter Try.func7, Try.ntmps7
    go_wp2_with (first | (go_at_call 17; refine cf.mono ?_; rintro e w1 ⟨rfl, hb1⟩) | (go_at_call_of 16 r; refine (within_any _ _ _ _).mono ?_; rintro e w' ⟨he, hw⟩; rw [W1.out] at he; subst he hw) | (go_at_call_of 16 f; refine (within_any _ _ _ _).mono ?_; rintro e w' ⟨he, hw⟩; rw [W2.out] at he; subst he hw) | (go_at_call_of 16 n; refine (within_any _ _ _ _).mono ?_; rintro e w' ⟨he, hw⟩; rw [W3.out] at he; subst he hw))
    go_ret
    exact ⟨ret_bool HZ.out.symm, hb0.trans (hb1.mono hb0.size)⟩
  | true =>
    have HZ : Hid (dkB r f n (es.map fc) (ftot es) ks ts = linkB ks ts (es.map fid)) := by rw [HD.out, h1, h2, h3, h4]; exact Lib.hid rfl
    rw [h4] at cf
    rw [HZ.out]
    clear h1 h2 h3 h4 n1 n2 hff
    go_enter Try.func7, Try.ntmps7
    go_wp2_with (first | (go_at_call 17; refine cf.mono ?_; rintro e w1 ⟨rfl, hb1⟩; have t1 := hb0.trans (hb1.mono hb0.size); obtain ⟨B1, y, _, z1⟩ := keep_blk hb1 (g := w.heap.size) (heap_alloc_new w _); have q0 : w1.cell? ⟨w.heap.size, 0, none⟩ = some (.int .i64 r) := y 0; have q1 : w1.cell? ⟨w.heap.size, 1, none⟩ = some (.int .i64 f) := y 1; have q2 : w1.cell? ⟨w.heap.size, 2, none⟩ = some (.int .i64 n) := y 2; have q3 : w1.cell? ⟨w.heap.size, 3, none⟩ = some (.slice FA es.length c1) := y 3; have q4 : w1.cell? ⟨w.heap.size, 4, none⟩ = some (.slice KA ks.length c2) := y 4; have q5 : w1.cell? ⟨w.heap.size, 5, none⟩ = some (.slice TA ts.length c3) := y 5; clear y B1) | (go_at_call 18; refine (hll _ t1).mono ?_; rintro e w2 ⟨rfl, hb2⟩) | (go_at_call_of 16 r; refine (within_any _ _ _ _).mono ?_; rintro e w' ⟨he, hw⟩; rw [W1.out] at he; subst he hw) | (go_at_call_of 16 f; refine (within_any _ _ _ _).mono ?_; rintro e w' ⟨he, hw⟩; rw [W2.out] at he; subst he hw) | (go_at_call_of 16 n; refine (within_any _ _ _ _).mono ?_; rintro e w' ⟨he, hw⟩; rw [W3.out] at he; subst he hw))
    go_ret
    exact ⟨rfl, t1.trans (hb2.mono t1.size)⟩

set_option linter.unusedVariables false
set_option maxRecDepth 100000

/-- What a law's disk is bounded by. -/
structure Good (es : List Fl) (ks : List Lk) (ts : List Tn) : Prop where
  el : es.length ≤ 1048576
  ef : ftot es ≤ 1048576
  eb : ∀ e, e ∈ es → bd e.1 ∧ bd e.2.2
  ey : ∀ e, e ∈ es → e.2.1.2.2.length ≤ 1048576
  kl : ks.length ≤ 1048576
  km : ∀ x, x ∈ ks → x.1.data.toList.length ≤ 549755813888
  tl : ts.length ≤ 1048576
  tm : ∀ x, x ∈ ts → x.2.1.data.toList.length ≤ 549755813888 ∧ x.2.2.1.data.toList.length ≤ 549755813888
theorem mem_sum {T : Type} (f : T → Nat) : ∀ {l : List T} {x : T}, x ∈ l → f x ≤ (l.map f).sum
  | y :: r, x, h => by
    rw [List.map_cons, List.sum_cons]
    rcases List.mem_cons.1 h with rfl | h
    · omega
    · have := mem_sum f h; omega
theorem Good.of {es : List Fl} {ks : List Lk} {ts : List Tn} (h : ¬ (1048576 : Int) < (es.length + ftot es) + (ks.length + ktot ks) + (ts.length + ttot ts)) (hb : ∀ e, e ∈ es → bd e.1 ∧ bd e.2.2) : Good es ks ts where
  el := by omega
  ef := by omega
  eb := hb
  ey := fun e he => by have := mem_sum (fun e : Fl => e.2.1.2.2.length) he; unfold ftot at h; omega
  kl := by omega
  km := fun x hx => by
    have h1 := mem_sum (fun e : Lk => e.1.size) hx
    have h2 : x.1.data.toList.length = x.1.size := Array.length_toList
    unfold ktot at h
    omega
  tl := by omega
  tm := fun x hx => by
    have h1 := mem_sum (fun e : Tn => e.2.1.size + e.2.2.1.size) hx
    have h2 : x.2.1.data.toList.length = x.2.1.size := Array.length_toList
    have h3 : x.2.2.1.data.toList.length = x.2.2.1.size := Array.length_toList
    unfold ttot at h
    omega
theorem fc_mem {es fs : List Fl} (h : fs.map fc = es.map fc) {e : Fl} (he : e ∈ fs) : ∃ x, x ∈ es ∧ e.1 = x.1 ∧ e.2.1.2.2 = x.2.1.2.2 ∧ e.2.2 = x.2.2 := by
  have h1 : fc e ∈ es.map fc := by rw [← h]; exact List.mem_map_of_mem he
  obtain ⟨x, hx, hxe⟩ := List.mem_map.1 h1
  simp only [fc, Prod.mk.injEq] at hxe
  exact ⟨x, hx, hxe.1.symm, hxe.2.1.symm, hxe.2.2.symm⟩
theorem fc_tot {es fs : List Fl} (h : fs.map fc = es.map fc) : ftot fs = ftot es := by
  have h1 : ∀ l : List Fl, ftot l = ((l.map fc).map fun x => x.2.1.length).sum := fun l => by rw [List.map_map]; rfl
  rw [h1, h1, h]
theorem Good.copy {es fs : List Fl} {ks : List Lk} {ts : List Tn} (h : Good es ks ts) (hd : fs.map fc = es.map fc) : Good fs ks ts where
  el := by rw [fc_len hd]; exact h.el
  ef := by rw [fc_tot hd]; exact h.ef
  eb := fun e he => by obtain ⟨x, hx, e1, e2, e3⟩ := fc_mem hd he; rw [e1, e3]; exact h.eb x hx
  ey := fun e he => by obtain ⟨x, hx, e1, e2, e3⟩ := fc_mem hd he; rw [e2]; exact h.ey x hx
  kl := h.kl
  km := h.km
  tl := h.tl
  tm := h.tm
/-- A disk that reads so. -/
def Dr (w : World) (FA : Option Addr) (fs : List Fl) (KA : Option Addr) (ks : List Lk) (TA : Option Addr) (ts : List Tn) : Prop := Fs w FA fs ∧ Ks w KA ks ∧ Ts w TA ts
theorem Dr.below {w w' : World} {FA KA TA : Option Addr} {fs : List Fl} {ks : List Lk} {ts : List Tn} (h : Dr w FA fs KA ks TA ts) (hb : Below w.heap.size w w') : Dr w' FA fs KA ks TA ts := ⟨h.1.below hb, SlL.below h.2.1 hb, SlL.below h.2.2 hb⟩
section
variable (r f n : Int) (FA : Option Addr) (es fs : List Fl) (c1 : Nat) (KA : Option Addr) (ks : List Lk) (c2 : Nat) (TA : Option Addr) (ts : List Tn) (c3 : Nat) (w : World) (hr : Dr w FA fs KA ks TA ts) (hd : Hid (fs.map fc = es.map fc)) (hg : Good es ks ts)
include hr hd hg
theorem okSpec_any : Calls Try.prog 40 #[dkV r f n FA es.length c1 KA ks.length c2 TA ts.length c3] w fun e w' => e = .returned (.bool (dkB r f n (es.map fc) (ftot es) ks ts)) ∧ Below w.heap.size w w' := by
  have g := hg.copy hd.out
  have := diskOk_spec r f n FA fs c1 KA ks c2 TA ts c3 w hr.1 g.el g.ef hr.2.1 g.kl g.km hr.2.2 g.tl g.tm g.eb
  rwa [fc_len hd.out, hd.out, fc_tot hd.out] at this
theorem okImpl_any : Calls Try.prog 7 #[dkV r f n FA es.length c1 KA ks.length c2 TA ts.length c3] w fun e w' => e = .returned (.bool (dkB r f n (es.map fc) (ftot es) ks ts)) ∧ Below w.heap.size w w' := by
  have g := hg.copy hd.out
  have := diskOk_impl r f n FA fs c1 KA ks c2 TA ts c3 w hr.1 g.el g.ef hr.2.1 g.kl g.km hr.2.2 g.tl g.tm g.eb
  rwa [fc_len hd.out, hd.out, fc_tot hd.out] at this
end
end Go.Proofs.Ytndmdhmghjfckaa
