/- The links and turns of a disk are valid: the program's way. -/
import Derived.Test.YtfkdifgmhfdbdaaGreatDoorI9
namespace Go.Proofs.YtfkdifgmhfdbdaaGreatDoor
open Go.RowKit
set_option linter.unusedVariables false
set_option maxRecDepth 100000

/-- The turns, one after the other: the program's way. -/
def runI : List Lk → List Tn → Bool
  | _, [] => true
  | d, t :: r => fieldB t && okI d t && runI (turnS d t) r
def linkB (ks : List Lk) (ts : List Tn) (fids : List Int) : Bool := decide ((ts.length : Int) ≤ 30) && decide ((ks.length : Int) ≤ 10) && kB ByteArray.empty ks && runI ks ts && decide (srtI (idsOf ks ts) = fids)
theorem runI_drop {ts : List Tn} {k : Nat} (d : List Lk) (hk : k < ts.length) : runI d (ts.drop k) = (fieldB ts[k] && okI d ts[k] && runI (turnS d ts[k]) (ts.drop (k + 1))) := by
  rw [List.drop_eq_getElem_cons hk, runI]
theorem kB_all : ∀ (ks : List Lk) (p : ByteArray), kB p ks = true → ∀ x, x ∈ ks → ltN p x.1 = true
  | [], _, _, x, hx => by simp at hx
  | y :: r, p, h, x, hx => by
    rw [kB] at h
    simp only [Bool.and_eq_true] at h
    rcases List.mem_cons.1 hx with rfl | hx
    · exact h.1.2
    · exact ltN_trans h.1.2 (kB_all r y.1 h.2 x hx)
theorem kB_srt : ∀ (ks : List Lk) (p : ByteArray), kB p ks = true → Srt ks
  | [], _, _ => List.Pairwise.nil
  | y :: r, p, h => by
    rw [kB] at h
    simp only [Bool.and_eq_true] at h
    exact List.pairwise_cons.2 ⟨fun x hx => kB_all r y.1 h.2 x hx, kB_srt r y.1 h.2⟩
set_option maxHeartbeats 16000000 in
theorem linksOk_any (r f n : Int) (FA : Option Addr) (es : List Fl) (c1 : Nat) (KA : Option Addr) (ks : List Lk) (c2 : Nat) (TA : Option Addr) (ts : List Tn) (c3 : Nat) (w : World) (hF : SlL w FA 3 flL es) (hl : es.length ≤ 1048576)
    (hK : Ks w KA ks) (hkl : ks.length ≤ 1048576) (hkm : ∀ x, x ∈ ks → x.1.data.toList.length ≤ 549755813888) (hT : Ts w TA ts) (htl : ts.length ≤ 1048576) (htm : ∀ x, x ∈ ts → x.2.1.data.toList.length ≤ 549755813888 ∧ x.2.2.1.data.toList.length ≤ 549755813888) :
    Calls Tryz.prog 65 #[dkV r f n FA es.length c1 KA ks.length c2 TA ts.length c3] w fun e w' => e = .returned (.bool (linkB ks ts (es.map fid))) ∧ Below w.heap.size w w' := by
  have hb0 : Below w.heap.size w (w.alloc (.cells (dkC r f n FA es.length c1 KA ks.length c2 TA ts.length c3) 35)) := by (repeat (first | exact Below.refl _ _ | (refine Below.alloc ?_ (by first | omega | (simp; done) | (simp; omega)) _) | (refine Below.drew ?_) | (refine below_drewN ?_ _) | (refine below_at1 ?_ (by first | omega | (simp; done) | (simp; omega))) | (refine Below.setCell ?_ (by first | omega | (simp; done) | (simp; omega)) _) | (refine Below.trans ?_ (Below.mono (by assumption) (by first | omega | (simp; done) | (simp; omega))))))
  by_cases n1 : (30 : Int) < ts.length
  case pos =>
    have HZ : Hid (linkB ks ts (es.map fid) = false) := by show _ = _; rw [linkB, decide_eq_false (by omega)]; rfl
    go_enter Tryz.func65, Tryz.ntmps65
    go_wp2_with fail
    go_ret
    exact ⟨ret_bool HZ.out.symm, hb0⟩
  by_cases n2 : (10 : Int) < ks.length
  case pos =>
    have HZ : Hid (linkB ks ts (es.map fid) = false) := by show _ = _; rw [linkB, decide_eq_false (show ¬ (ks.length : Int) ≤ 10 by omega), Bool.and_false]; rfl
    go_enter Tryz.func65, Tryz.ntmps65
    go_wp2_with fail
    go_ret
    exact ⟨ret_bool HZ.out.symm, hb0⟩
  have HM := Lib.hid (And.intro n1 n2)
  have HD : Hid (linkB ks ts (es.map fid) = (kB ByteArray.empty ks && runI ks ts && decide (srtI (idsOf ks ts) = es.map fid))) := by show _ = _; rw [linkB, decide_eq_true (show (ts.length : Int) ≤ 30 by omega), decide_eq_true (show (ks.length : Int) ≤ 10 by omega)]; rfl
  have B0 : ((w.alloc (.cells (dkC r f n FA es.length c1 KA ks.length c2 TA ts.length c3) 35)).alloc (.cells #[] 3)).heap[w.heap.size]? = some (.cells (dkC r f n FA es.length c1 KA ks.length c2 TA ts.length c3) 35 (0, 0)) := (by repeat (first | assumption | exact heap_alloc_at _ (by first | rfl | (simp; done) | omega) | refine heap_alloc_of _ ?_ | refine heap_setCell_of _ (by first | omega | (simp; done) | (simp; omega)) ?_ | refine heap_setCell_same _ ?_ | exact heap_at1_same (by first | omega | (simp; done) | (simp; omega)) | refine heap_at1_of (by first | omega | (simp; done) | (simp; omega)) ?_))
  go_enter Tryz.func65, Tryz.ntmps65
  go_wp2_with fail
  clear n1 n2
  go_loopw [3, 24] (fun ov i wr => ∃ (k : Nat) (A1 : Option Addr) (c1' : Nat) (us : List Int), k ≤ ks.length ∧ i = .int .i64 k ∧ ov = .slice A1 us.length c1' ∧ Oi wr (w.heap.size + 1) A1 c1' us ∧ us.length ≤ k ∧ Hid (us = (ks.take k).map (fun x => x.2)) ∧ Hid (kB ByteArray.empty ks = kB (pvN ks k) (ks.drop k)) ∧ Below w.heap.size w wr ∧ wr.heap[w.heap.size]? = some (.cells (dkC r f n FA es.length c1 KA ks.length c2 TA ts.length c3) 35 (0, 0))) (fun _ i _ => ks.length - (intOf i).toNat)
  case atStart => exact ⟨0, some ⟨w.heap.size + 1, 0, none⟩, 0, [], Nat.zero_le _, rfl, rfl, Oe.emptyAt (by simp), Nat.zero_le _, Lib.hid rfl, Lib.hid rfl, hb0.alloc (by first | omega | (simp; done) | (simp; omega)) _, B0⟩
  case round =>
    clear B0 hb0
    obtain ⟨k2, A1, c1', us, hk2, rfl, rfl, ho, hul, hu, hg2, hb, hB⟩ := hrel
    have zb := hb.size
    have zB : w.heap.size < wr.heap.size := (Array.getElem?_eq_some_iff.1 hB).1
    by_cases hlt : k2 < ks.length
    · obtain ⟨b, o, rfl, hbs, x0, x1⟩ := Ks.get (hK.below hb) hlt
      have hlt' : (k2 : Int) < ks.length := by omega
      have q4 : wr.cell? ⟨w.heap.size, 4, none⟩ = some (.slice (some ⟨b, o, none⟩) ks.length c2) := cell_of_row wr w.heap.size 4 _ _ (0, 0) hB
      have hgb := @kB_bad ks k2 hlt
      have hgo := @kB_ok ks k2 hlt
      have hsn := hkm _ (List.getElem_mem hlt)
      have HG : Hid ((nmB ks[k2].1 && ltN (pvN ks k2) ks[k2].1) = false → linkB ks ts (es.map fid) = false) := Lib.hid fun h => by rw [HD.out, hg2.out, hgb h]; rfl
      have HO : Hid ((nmB ks[k2].1 && ltN (pvN ks k2) ks[k2].1) = true → kB ByteArray.empty ks = kB (pvN ks (k2 + 1)) (ks.drop (k2 + 1))) := Lib.hid fun h => by rw [hg2.out, hgo h]
      have HU : Hid (us ++ [ks[k2].2] = (ks.take (k2 + 1)).map (fun x => x.2)) := by show _ = _; rw [take_succ_get (List.getElem?_eq_getElem hlt), List.map_append, ← hu.out]; rfl
      clear hgb hgo hg2 hu
      cases hnm : nmB ks[k2].1 with
      | false =>
        have HN : Hid (plainR ks[k2].1.data.toList 16 [46] = false) := hnm
        have HZ : Hid (linkB ks ts (es.map fid) = false) := HG.out (by rw [hnm]; rfl)
        clear HG HO hnm
        go_wp2_with fail
        first | (have e0 : (0 : Int) < k2 := by omega) | (have e0 : ¬ (0 : Int) < k2 := by omega) | skip
        first | (have e1 : 0 < k2 := by omega) | (have e1 : ¬ 0 < k2 := by omega) | skip
        go_quiet ((go_at_call 95; refine Calls.quiet_of_same (v := .bool false) ((nameOk_impl _ _ hsn).mono ?_); rintro e w9 ⟨he, hw⟩; exact ⟨he.trans (congrArg Ending.returned (congrArg Value.bool HN.out)), hw.symm⟩))
        go_wp2_with fail
        go_ret
        exact ⟨ret_bool HZ.out.symm, below_drewN (hb.alloc (by first | omega | (simp; done) | (simp; omega)) _) _⟩
      | true =>
        have HN : Hid (plainR ks[k2].1.data.toList 16 [46] = true) := hnm
        rcases Nat.eq_zero_or_pos k2 with hk0 | hk0
        · have HZ : Hid (kB ByteArray.empty ks = kB (pvN ks (k2 + 1)) (ks.drop (k2 + 1))) := HO.out (by rw [hnm, show pvN ks k2 = ByteArray.empty from by rw [hk0]; rfl]; exact lt_empty hnm)
          have hkp : ¬ (0 : Int) < k2 := by omega
          clear HG HO hnm hk0
          go_wp2_with fail
          first | (have e0 : (0 : Int) < k2 := by omega) | (have e0 : ¬ (0 : Int) < k2 := by omega) | skip
          first | (have e1 : 0 < k2 := by omega) | (have e1 : ¬ 0 < k2 := by omega) | skip
          go_quiet ((go_at_call 95; refine Calls.quiet_of_same (v := .bool true) ((nameOk_impl _ _ hsn).mono ?_); rintro e w9 ⟨he, hw⟩; exact ⟨he.trans (congrArg Ending.returned (congrArg Value.bool HN.out)), hw.symm⟩))
          go_wp2_with (at_builtin; refine wp_app1I rfl _ _ rfl (w.heap.size + 1) A1 c1' us _ _ ks[k2].2 (Oe.drewN (ho.alloc _) _) rfl rfl _ rfl (by simp) (by omega) (by first | omega | (simp; done) | (simp; omega)) ?_; intro A2 c2' w2 vs hvs ho2 hb2 hk3)
          have hA := ho.inB
          have hs2 := hb2.size
          go_roundw
          case rel =>
            refine ⟨k2 + 1, A2, c2', vs, by omega, by go_num, rfl, ho2, by rw [hvs.out]; simp; omega, Lib.hid (hvs.out.trans HU.out), HZ, Below.trans (below_drewN (hb.alloc (by first | omega | (simp; done) | (simp; omega)) _) _) (hb2.mono (by omega)), ?_⟩
            rw [hk3 w.heap.size (by first | omega | (simp; done) | (simp; omega)) (fun ad h => by have := (hA ad h).1; omega)]
            exact heap_alloc_of _ hB
          case measure => simp [intOf]; omega
        · obtain ⟨j, hj⟩ : ∃ j, Hid (k2 = j + 1) := ⟨k2 - 1, by show k2 = _; omega⟩
          have hjl : j < ks.length := by have := hj.out; omega
          obtain ⟨b', o', hA', _, y0, _⟩ := Ks.get (hK.below hb) hjl
          injection hA' with hA'
          injection hA' with e1 e2 e3
          subst e1 e2
          have hw1 : IntKind.i64.wrap ((k2 : Int) - 1) = (j : Int) := by have := hj.out; rw [IntKind.wrap_i64]; omega
          have hj0 : (0 : Int) ≤ j := by omega
          have hj1 : (j : Int) < ks.length := by omega
          have HP : Hid (pvN ks k2 = ks[j].1) := by have := hj.out; subst this; exact pvN_succ ks j hjl
          cases hlt2 : ltN ks[j].1 ks[k2].1 with
          | false =>
            have HZ : Hid (linkB ks ts (es.map fid) = false) := HG.out (by rw [hnm, HP.out, hlt2]; rfl)
            have hl3 : Op.bytesLess ks[j].1.toList ks[k2].1.toList = false := hlt2
            clear HG HO hnm hlt2
            go_wp2_with fail
            first | (have e0 : (0 : Int) < k2 := by omega) | (have e0 : ¬ (0 : Int) < k2 := by omega) | skip
            first | (have e1 : 0 < k2 := by omega) | (have e1 : ¬ 0 < k2 := by omega) | skip
            go_quiet ((go_at_call 95; refine Calls.quiet_of_same (v := .bool true) ((nameOk_impl _ _ hsn).mono ?_); rintro e w9 ⟨he, hw⟩; exact ⟨he.trans (congrArg Ending.returned (congrArg Value.bool HN.out)), hw.symm⟩))
            go_wp2_with fail
            go_ret
            exact ⟨ret_bool HZ.out.symm, below_drewN (hb.alloc (by first | omega | (simp; done) | (simp; omega)) _) _⟩
          | true =>
            have HZ : Hid (kB ByteArray.empty ks = kB (pvN ks (k2 + 1)) (ks.drop (k2 + 1))) := HO.out (by rw [hnm, HP.out, hlt2]; rfl)
            have hl3 : Op.bytesLess ks[j].1.toList ks[k2].1.toList = true := hlt2
            clear HG HO hnm hlt2
            go_wp2_with fail
            first | (have e0 : (0 : Int) < k2 := by omega) | (have e0 : ¬ (0 : Int) < k2 := by omega) | skip
            first | (have e1 : 0 < k2 := by omega) | (have e1 : ¬ 0 < k2 := by omega) | skip
            go_quiet ((go_at_call 95; refine Calls.quiet_of_same (v := .bool true) ((nameOk_impl _ _ hsn).mono ?_); rintro e w9 ⟨he, hw⟩; exact ⟨he.trans (congrArg Ending.returned (congrArg Value.bool HN.out)), hw.symm⟩))
            go_wp2_with (at_builtin; refine wp_app1I rfl _ _ rfl (w.heap.size + 1) A1 c1' us _ _ ks[k2].2 (Oe.drewN (ho.alloc _) _) rfl rfl _ rfl (by simp) (by omega) (by first | omega | (simp; done) | (simp; omega)) ?_; intro A2 c2' w2 vs hvs ho2 hb2 hk3)
            have hA := ho.inB
            have hs2 := hb2.size
            go_roundw
            case rel =>
              refine ⟨k2 + 1, A2, c2', vs, by omega, by go_num, rfl, ho2, by rw [hvs.out]; simp; omega, Lib.hid (hvs.out.trans HU.out), HZ, Below.trans (below_drewN (hb.alloc (by first | omega | (simp; done) | (simp; omega)) _) _) (hb2.mono (by omega)), ?_⟩
              rw [hk3 w.heap.size (by first | omega | (simp; done) | (simp; omega)) (fun ad h => by have := (hA ad h).1; omega)]
              exact heap_alloc_of _ hB
            case measure => simp [intOf]; omega
    · have hlt' : ¬ ((k2 : Int) < ks.length) := by omega
      have hkT : kB ByteArray.empty ks = true := by rw [hg2.out, List.drop_of_length_le (by omega)]; rfl
      have HS := Lib.hid (kB_srt ks _ hkT)
      have HD2 : Hid (linkB ks ts (es.map fid) = (runI ks ts && decide (srtI (idsOf ks ts) = es.map fid))) := by rw [HD.out, hkT]; exact Lib.hid rfl
      have hu1 : Hid (us = ks.map (fun x => x.2)) := hu.out.trans (by rw [List.take_of_length_le (by omega)])
      have q4 : wr.cell? ⟨w.heap.size, 4, none⟩ = some (.slice KA ks.length c2) := cell_of_row wr w.heap.size 4 _ _ (0, 0) hB
      have q5 : wr.cell? ⟨w.heap.size, 5, none⟩ = some (.slice TA ts.length c3) := cell_of_row wr w.heap.size 5 _ _ (0, 0) hB
      have hK5 := hK.below hb
      have hkl10 : ks.length ≤ 10 := by have := HM.out.2; omega
      have hk3 := hk2
      clear hg2 hu HD hkT hlt
      go_wp2_with fail
      go_loopw [3, 6, 60] (fun ov dv i wr => ∃ (k : Nat) (A1 : Option Addr) (c1' : Nat) (us : List Int) (A6 : Option Addr) (c6 : Nat) (dir : List Lk), k ≤ ts.length ∧ i = .int .i64 k ∧ ov = .slice A1 us.length c1' ∧ dv = .slice A6 dir.length c6 ∧ Oi wr (w.heap.size + 1) A1 c1' us ∧ us.length ≤ 10 + k ∧ Hid (us = ks.map (fun x => x.2) ++ mkIds (ts.take k)) ∧ Ks wr A6 dir ∧ dir.length ≤ 10 + k ∧ Hid (Srt dir) ∧ Hid (runI ks ts = runI dir (ts.drop k)) ∧ Below w.heap.size w wr ∧ wr.heap[w.heap.size]? = some (.cells (dkC r f n FA es.length c1 KA ks.length c2 TA ts.length c3) 35 (0, 0))) (fun _ _ i _ => ts.length - (intOf i).toNat)
      case atStart => exact ⟨0, A1, c1', us, KA, c2, ks, Nat.zero_le _, rfl, rfl, rfl, ho, by omega, Lib.hid (by rw [hu1.out]; simp [mkIds]), hK5, by omega, HS, Lib.hid rfl, hb, hB⟩
      case round =>
        clear ho hul hu1 hb hB zb zB q4 q5 hK5
        obtain ⟨k6, A3, c3', vs, A6, c6, dir, hk6, rfl, rfl, rfl, ho, hul, hu, hd6, hl6, hs6, hg6, hb, hB⟩ := hrel
        have zb := hb.size
        have zB : w.heap.size < wr.heap.size := (Array.getElem?_eq_some_iff.1 hB).1
        have htl6 : ts.length ≤ 30 := by have := HM.out.1; omega
        by_cases hlt6 : k6 < ts.length
        · obtain ⟨b, o, rfl, hbs, x0, x1, x2, x3⟩ := Ts.get (hT.below hb) hlt6
          have hlt6' : (k6 : Int) < ts.length := by omega
          have hr := runI_drop dir hlt6
          obtain ⟨htm1, htm2⟩ := htm _ (List.getElem_mem hlt6)
          have hb7 : Below wr.heap.size wr (wr.alloc (.cells (tnL ts[k6]).toArray 94)) := (Below.refl _ _).alloc (Nat.le_refl _) _
          have ct := isTurn_any ts[k6] (wr.alloc (.cells (tnL ts[k6]).toArray 94)) htm1 htm2
          cases hfb : fieldB ts[k6] with
          | false =>
            have HZ : Hid (linkB ks ts (es.map fid) = false) := by rw [HD2.out, hg6.out, hr, hfb]; exact Lib.hid rfl
            rw [hfb] at ct
            clear hr hfb hg6 hu
            go_wp2_with fail
            refine ct.mono ?_
            rintro e w7 ⟨rfl, hb8⟩
            go_wp2_with fail
            go_ret
            exact ⟨ret_bool HZ.out.symm, hb.trans ((hb7.trans (hb8.mono hb7.size)).mono zb)⟩
          | true =>
            rw [hfb] at ct
            cases hok : okI dir ts[k6] with
            | false =>
              have HZ : Hid (linkB ks ts (es.map fid) = false) := by rw [HD2.out, hg6.out, hr, hfb, hok]; exact Lib.hid rfl
              clear hr hfb hg6 hu
              go_wp2_with fail
              refine ct.mono ?_
              rintro e w7 ⟨rfl, hb8⟩
              have t7 := hb7.trans (hb8.mono hb7.size)
              obtain ⟨B8, y, _, z9⟩ := keep_blk hb8 (g := wr.heap.size) (heap_alloc_new _ _)
              have y0 : w7.cell? ⟨wr.heap.size, 0, none⟩ = some (.int .i64 ts[k6].1) := y 0
              have y1 : w7.cell? ⟨wr.heap.size, 1, none⟩ = some (.string ts[k6].2.1) := y 1
              have y2 : w7.cell? ⟨wr.heap.size, 2, none⟩ = some (.string ts[k6].2.2.1) := y 2
              have y3 : w7.cell? ⟨wr.heap.size, 3, none⟩ = some (.int .i64 ts[k6].2.2.2) := y 3
              clear y B8
              have ca := applied_any A6 c6 dir ts[k6] w7 (hd6.below t7) (by omega) hs6.out
              rw [hok] at ca
              clear hok
              go_wp2_with fail
              refine ca.mono ?_
              rintro e w8 ⟨hb9, he⟩
              rw [if_neg (by simp)] at he
              subst he
              go_wp2_with fail
              go_ret
              exact ⟨ret_bool HZ.out.symm, hb.trans ((t7.trans (hb9.mono t7.size)).mono zb)⟩
            | true =>
              have HZ : Hid (runI ks ts = runI (turnS dir ts[k6]) (ts.drop (k6 + 1))) := by rw [hg6.out, hr, hfb, hok]; exact Lib.hid rfl
              have HS6 : Hid (Srt (turnS dir ts[k6])) := turnS_srt hs6.out hok
              have hlen := turnS_len dir ts[k6]
              have hs := mkIds_succ ts k6 hlt6
              clear hr hfb hg6
              go_wp2_with fail
              refine ct.mono ?_
              rintro e w7 ⟨rfl, hb8⟩
              have t7 := hb7.trans (hb8.mono hb7.size)
              obtain ⟨B8, y, _, z9⟩ := keep_blk hb8 (g := wr.heap.size) (heap_alloc_new _ _)
              have y0 : w7.cell? ⟨wr.heap.size, 0, none⟩ = some (.int .i64 ts[k6].1) := y 0
              have y1 : w7.cell? ⟨wr.heap.size, 1, none⟩ = some (.string ts[k6].2.1) := y 1
              have y2 : w7.cell? ⟨wr.heap.size, 2, none⟩ = some (.string ts[k6].2.2.1) := y 2
              have y3 : w7.cell? ⟨wr.heap.size, 3, none⟩ = some (.int .i64 ts[k6].2.2.2) := y 3
              clear y B8
              have ca := applied_any A6 c6 dir ts[k6] w7 (hd6.below t7) (by omega) hs6.out
              rw [hok] at ca
              clear hok
              obtain ⟨dir2, hdir2⟩ : ∃ dir2, Hid (dir2 = turnS dir ts[k6]) := ⟨_, Lib.hid rfl⟩
              rw [← hdir2.out] at ca hlen
              go_wp2_with fail
              refine ca.mono ?_
              rintro e w8 ⟨hb9, he⟩
              rw [if_pos rfl] at he
              obtain ⟨A8, c8, rfl, ho8⟩ := he
              have k8 := ho8.sl lk2
              have t8 := t7.trans (hb9.mono t7.size)
              have tw := hb.trans (t8.mono zb)
              have zz := t8.size
              have ho9 : Oi w8 (w.heap.size + 1) A3 c3' vs := Oe.below ho t8 (Nat.le_refl _)
              have hB8 := (t8.block _ zB).trans hB
              have y0' := (hb9.cell (p := ⟨wr.heap.size, 0, none⟩) z9).trans y0
              have y3' := (hb9.cell (p := ⟨wr.heap.size, 3, none⟩) z9).trans y3
              clear y0 y1 y2 y3 x0 x1 x2 x3
              cases he : (ts[k6].1 == 1) with
              | true =>
                have HF : Hid (vs ++ [ts[k6].2.2.2] = ks.map (fun x => x.2) ++ mkIds (ts.take (k6 + 1))) := by
                  show _ = _
                  rw [hs, if_pos (by simpa using he), ← List.append_assoc, ← hu.out]
                clear hu hs
                go_wp2_with (at_builtin; refine wp_app1I rfl _ _ rfl (w.heap.size + 1) A3 c3' vs _ _ ts[k6].2.2.2 ho9 rfl rfl _ rfl (by simp) (by omega) (by omega) ?_; intro A4 c4' w4 us4 hus4 ho4 hb4 hk4)
                have hA := ho9.inB
                go_roundw
                case rel =>
                  refine ⟨k6 + 1, A4, c4', us4, A8, c8, dir2, by omega, by go_num, rfl, rfl, ho4, by rw [hus4.out]; simp; omega, Lib.hid (hus4.out.trans HF.out), ?_, by omega, by rw [hdir2.out]; exact HS6, by rw [HZ.out, hdir2.out]; exact Lib.hid rfl, tw.trans (hb4.mono (by omega)), ?_⟩
                  · exact Oe.sl lk2 (Oe.keepB ho8 fun ad ha => hk4 _ (ho8.inB ad ha).2 (fun ad' ha' => by have := (ho.inB ad' ha').2; have := (ho8.inB ad ha).1; have := t7.size; omega))
                  · rw [hk4 w.heap.size (by omega) (fun ad h => by have := (hA ad h).1; omega)]
                    exact hB8
                case measure => simp [intOf]; omega
              | false =>
                have HF : Hid (vs = ks.map (fun x => x.2) ++ mkIds (ts.take (k6 + 1))) := by
                  show _ = _
                  rw [hs, if_neg (by simpa using he), List.append_nil, ← hu.out]
                clear hu hs
                go_wp2_with fail
                go_roundw
                case rel => exact ⟨k6 + 1, A3, c3', vs, A8, c8, dir2, by omega, by go_num, rfl, rfl, ho9, by omega, HF, k8, by omega, by rw [hdir2.out]; exact HS6, by rw [HZ.out, hdir2.out]; exact Lib.hid rfl, tw, hB8⟩
                case measure => simp [intOf]; omega
        · have hlt6' : ¬ ((k6 : Int) < ts.length) := by omega
          have HD3 : Hid (linkB ks ts (es.map fid) = decide (srtI vs = es.map fid)) := by
            rw [HD2.out, hg6.out, List.drop_of_length_le (by omega), hu.out, List.take_of_length_le (by omega)]
            exact Lib.hid rfl
          have cs := sortI_any (w.heap.size + 1) A3 c3' vs wr ho (by omega) zB
          clear hg6 HD2 hu
          go_wp2_with fail
          refine cs.mono ?_
          rintro e w8 ⟨rfl, hc8, hb8⟩
          have hB8 := (hb8.block w.heap.size (by omega)).trans hB
          have q3 : w8.cell? ⟨w.heap.size, 3, none⟩ = some (.slice FA es.length c1) := cell_of_row w8 w.heap.size 3 _ _ (0, 0) hB8
          have t8 := hb.trans (hb8.mono (by omega))
          have ce := eqFunc_any A3 c3' (srtI vs) FA c1 es w8 hc8 (hF.below t8) (by rw [srtI_len]; omega) hl
          rw [srtI_len] at ce
          go_wp2_with fail
          refine ce.mono ?_
          rintro e w9 ⟨rfl, hb9⟩
          go_wp2_with fail
          go_ret
          exact ⟨ret_bool HD3.out.symm, t8.trans (hb9.mono t8.size)⟩
end Go.Proofs.YtfkdifgmhfdbdaaGreatDoor
