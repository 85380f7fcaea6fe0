/- A turn's fields; the size of the files; numbers sorted, compared with the files' Ids: the program's way. The files of a disk are valid: the program's way. -/
import Derived.Test.YtndmdhmghjfckaaVc
import Derived.Test.YtndmdhmghjfckaaSh2
import Derived.Test.YtndmdhmghjfckaaUc
namespace Go.Proofs.Ytndmdhmghjfckaa
open Go.RowKit

set_option linter.unusedVariables false
set_option maxRecDepth 100000

def fieldB (t : Tn) : Bool :=
  if t.1 = 1 then nmB t.2.1 && noB t.2.2.1
  else if t.1 = 4 then nmB t.2.1 && nmB t.2.2.1 && decide (t.2.2.2 = 0)
  else if t.1 = 5 then nmB t.2.1 && noB t.2.2.1 && decide (t.2.2.2 = 0) else false
set_option maxHeartbeats 2000000 in
theorem isTurn_any (t : Tn) (w : World) (hs : t.2.1.data.toList.length ≤ 549755813888) (ht : t.2.2.1.data.toList.length ≤ 549755813888) :
    Calls Try.prog 36 #[tnV t] w fun e w' => e = .returned (.bool (fieldB t)) ∧ Below w.heap.size w w' := by
  obtain ⟨k, s, u, i⟩ := t
  dsimp only at hs ht
  have hb0 : Below w.heap.size w (w.alloc (.cells #[.int .i64 k, .string s, .string u, .int .i64 i] 66)) := by (repeat (first | exact Below.refl _ _ | (refine Below.alloc ?_ (by first | omega | (simp; done) | (simp; omega)) _) | (refine Below.drew ?_) | (refine below_drewN ?_ _) | (refine below_at1 ?_ (by first | omega | (simp; done) | (simp; omega))) | (refine Below.setCell ?_ (by first | omega | (simp; done) | (simp; omega)) _) | (refine Below.trans ?_ (Below.mono (by assumption) (by first | omega | (simp; done) | (simp; omega))))))
  go_enter Try.func36, Try.ntmps36
  go_wp2_with (first | (go_at_call_of 35 s; refine (nameOk_impl s _ hs).mono ?_; rintro e w' ⟨rfl, rfl⟩) | (go_at_call_of 35 u; refine (nameOk_impl u _ ht).mono ?_; rintro e w' ⟨rfl, rfl⟩))
  all_goals (go_ret; exact ⟨ret_bool (by simp_all [fieldB, nmB, noB]; try first | omega | rfl | (cases u.toList <;> rfl) | (rw [Bool.eq_iff_iff]; simp; omega)), hb0⟩)
set_option maxHeartbeats 1000000 in
theorem used_impl (r f n : Int) (FA : Option Addr) (es : List Fl) (c1 : Nat) (KA : Option Addr) (kn c2 : Nat) (TA : Option Addr) (tn c3 : Nat) (w : World) (ha : SlL w FA 3 flL es) (hl : es.length ≤ 1099511627776) (ht : ftot es ≤ 1099511627776) :
    Calls Try.prog 34 #[dkV r f n FA es.length c1 KA kn c2 TA tn c3] w fun e w' => e = .returned (.int .i64 (ftot es)) ∧ Below w.heap.size w w' := by
  have hb0 : Below w.heap.size w (w.alloc (.cells (dkC r f n FA es.length c1 KA kn c2 TA tn c3) 27)) := by (repeat (first | exact Below.refl _ _ | (refine Below.alloc ?_ (by first | omega | (simp; done) | (simp; omega)) _) | (refine Below.drew ?_) | (refine below_drewN ?_ _) | (refine below_at1 ?_ (by first | omega | (simp; done) | (simp; omega))) | (refine Below.setCell ?_ (by first | omega | (simp; done) | (simp; omega)) _) | (refine Below.trans ?_ (Below.mono (by assumption) (by first | omega | (simp; done) | (simp; omega))))))
  go_enter Try.func34, Try.ntmps34
  go_wp2_with fail
  go_loopw [3, 9] (fun sv i wr => ∃ k : Nat, k ≤ es.length ∧ i = .int .i64 k ∧ sv = .int .i64 (ftot (es.take k)) ∧ Below w.heap.size w wr) (fun _ i _ => es.length - (intOf i).toNat)
  case atStart => exact ⟨0, Nat.zero_le _, rfl, rfl, hb0⟩
  case round =>
    obtain ⟨k, hk, rfl, rfl, hb⟩ := hrel
    by_cases hlt : k < es.length
    · obtain ⟨b, o, rfl, hbs, x0, x1, x2⟩ := Fl.get (ha.below hb) hlt
      have hlt' : (k : Int) < es.length := by omega
      have zb := hb.size
      have hs : ftot (es.take (k + 1)) = ftot (es.take k) + es[k].2.1.2.2.length := sum_succ _ hlt
      have hg := used_bd hlt
      go_wp2_with fail
      go_roundw
      case rel => exact ⟨k + 1, by omega, by go_num, by rw [hs]; go_num, hb.trans (by (repeat (first | exact Below.refl _ _ | (refine Below.alloc ?_ (by first | omega | (simp; done) | (simp; omega)) _) | (refine Below.drew ?_) | (refine below_drewN ?_ _) | (refine below_at1 ?_ (by first | omega | (simp; done) | (simp; omega))) | (refine Below.setCell ?_ (by first | omega | (simp; done) | (simp; omega)) _) | (refine Below.trans ?_ (Below.mono (by assumption) (by first | omega | (simp; done) | (simp; omega)))))))⟩
      case measure => simp [intOf]; omega
    · have hlt' : ¬ ((k : Int) < es.length) := by omega
      have HE : Hid (es.take k = es) := List.take_of_length_le (by omega)
      go_wp2_with fail
      go_ret
      exact ⟨ret_int (by rw [HE.out]), hb⟩
def srtI (ns : List Int) : List Int := ns.mergeSort fun x y => decide (x ≤ y)
theorem srtI_len (ns : List Int) : (srtI ns).length = ns.length := List.length_mergeSort _
open Go.Sort in
theorem sortI_any (lo : Nat) (A : Option Addr) (c : Nat) (ns : List Int) (w : World) (ha : Oi w lo A c ns) (hl : ns.length ≤ 1048576) (hlo : lo ≤ w.heap.size) :
    Calls Try.prog 37 #[.slice A ns.length c] w fun e w' => e = .returned (.tuple #[]) ∧ Cs w' A ((srtI ns).map I) ∧ Below lo w w' := by
  rcases Nat.eq_zero_or_pos ns.length with h0 | h0
  · have hz : ns = [] := List.eq_nil_of_length_eq_zero h0
    subst hz
    refine (Try.slices_Sort_int_none A c w).mono ?_
    rintro e w' ⟨rfl, rfl⟩
    exact ⟨rfl, .inl (by simp [srtI]), Below.refl _ _⟩
  · obtain ⟨g, rfl, hlog, hcm, hcap, hF⟩ := ha.fillC i1 h0
    have hH : Holds (Value.int .i64) w g 0 ns.toArray := fun j hj => by
      have hj' : j < ns.length := by simpa using hj
      refine ⟨?_, ?_⟩
      · have := hF.cells j (.int .i64 ns[j]) (by rw [iL_map, List.getElem?_map, List.getElem?_eq_getElem hj']; rfl)
        rw [Nat.zero_add]
        simpa [hj'] using this
      · rw [Nat.zero_add]
        exact hF.frozen j (by omega)
    refine (Try.slices_Sort_int g 0 c ns w hH hF.lt (by omega)).mono ?_
    rintro e w' ⟨rfl, n, os, rfl⟩
    have hsz : (srtI ns).toArray.size = ns.toArray.size := by simp [srtI_len]
    refine ⟨rfl, .inr ⟨g, 0, rfl, fun i v hi => ?_⟩, ⟨rfl, rfl, rfl, by simp, fun k hk => ?_⟩⟩
    · have hi2 := (List.getElem?_eq_some_iff.1 hi).1
      rw [List.length_map] at hi2
      have hcell := cell?_putRow (Value.int .i64) (Sort.ahead w n) g 0 ns.toArray (srtI ns).toArray hH hsz i (by simpa using hi2)
      have h3 : (grow (putRow (Value.int .i64) (Sort.ahead w n) g 0 (srtI ns).toArray) os).cell? ⟨g, 0 + i, none⟩ = some (.int .i64 (srtI ns).toArray[i]!) := by
        rw [cell?_grow _ _ _ (by show g < _; rw [size_putRow]; exact hF.lt)]
        exact hcell
      rw [List.getElem?_map, List.getElem?_eq_getElem hi2] at hi
      have h4 : (srtI ns).toArray[i]! = (srtI ns)[i] := by simp [hi2]
      rw [h4] at h3
      simp only [Option.map_some, Option.some.injEq] at hi
      rw [← hi]
      exact h3
    · have hkg : k ≠ g := by omega
      rw [heap_grow_old _ _ (by rw [size_putRow]; show k < w.heap.size; omega)]
      simp [putRow, mapBlock, Sort.ahead, Array.getElem?_modify, Ne.symm hkg]
theorem idEq_any (x : Int) (y : Fl) (w : World) : Calls Try.prog 39 #[.int .i64 x, flV y] w fun e w' => e = .returned (.bool (x == y.1)) ∧ Below w.heap.size w w' := by
  obtain ⟨k, ⟨A, c, xs⟩, i⟩ := y
  go_enter Try.func39, Try.ntmps39
  go_wp2_with fail
  go_ret
  exact ⟨rfl, (by (repeat (first | exact Below.refl _ _ | (refine Below.alloc ?_ (by first | omega | (simp; done) | (simp; omega)) _) | (refine Below.drew ?_) | (refine below_drewN ?_ _) | (refine below_at1 ?_ (by first | omega | (simp; done) | (simp; omega))) | (refine Below.setCell ?_ (by first | omega | (simp; done) | (simp; omega)) _) | (refine Below.trans ?_ (Below.mono (by assumption) (by first | omega | (simp; done) | (simp; omega)))))))⟩
theorem eqf_no {ids : List Int} {es : List Fl} {k : Nat} (h1 : k < ids.length) (h2 : k < es.length) (h : ¬ ids[k] = es[k].1) : decide (ids = es.map fid) = false := by
  refine decide_eq_false fun e => h ?_
  have := congrArg (fun l => l[k]?) e
  simpa [h1, h2] using this
set_option maxHeartbeats 4000000 in
theorem eqFunc_any (A : Option Addr) (c : Nat) (ids : List Int) (FA : Option Addr) (c1 : Nat) (es : List Fl) (w : World) (ha : Cs w A (ids.map I)) (hF : SlL w FA 3 flL es) (hl : ids.length ≤ 1048576) (hl2 : es.length ≤ 1048576) :
    Calls Try.prog 38 #[.slice A ids.length c, .slice FA es.length c1, .func (.func 39) #[] #[]] w fun e w' => e = .returned (.bool (decide (ids = es.map fid))) ∧ Below w.heap.size w w' := by
  by_cases hne : ids.length = es.length
  case neg =>
    have HZ : Hid (decide (ids = es.map fid) = false) := decide_eq_false fun e => hne (by rw [e, List.length_map])
    have hne' : ¬ (ids.length : Int) = es.length := by omega
    go_enter Try.func38, Try.ntmps38
    go_wp2_with fail
    go_ret
    exact ⟨ret_bool HZ.out.symm, Below.refl _ _⟩
  case pos =>
    obtain ⟨n, hn⟩ : ∃ n, n = es.length := ⟨_, rfl⟩
    have HN := Lib.hid hn
    have HI : Hid (ids.length = n) := hne.trans hn.symm
    rw [hne, ← hn]
    rw [← hn] at hl2
    clear hn hne hl
    go_enter Try.func38, Try.ntmps38
    go_wp2_with fail
    go_loopw [17] (fun i wr => ∃ k : Nat, k ≤ n ∧ i = .int .i64 k ∧ Hid (ids.take k = (es.take k).map fid) ∧ Below w.heap.size w wr) (fun i _ => n - (intOf i).toNat)
    case atStart => exact ⟨0, Nat.zero_le _, rfl, Lib.hid rfl, Below.refl _ _⟩
    case round =>
      obtain ⟨k, hk, rfl, ht, hb⟩ := hrel
      have zb := hb.size
      by_cases hlt : k < n
      · have h1 : k < ids.length := by have := HI.out; omega
        have h2 : k < es.length := by have := HN.out; omega
        have hlt' : (k : Int) < n := by omega
        obtain ⟨b, o, rfl, hbs, x0, x1, x2⟩ := Fl.get (hF.below hb) h2
        obtain ⟨b', o', rfl, y0⟩ := (ha.below hb).ints h1
        have hcall := idEq_any ids[k] es[k] (wr.alloc (.cells (flL es[k]).toArray 36))
        have hb7 : Below wr.heap.size wr (wr.alloc (.cells (flL es[k]).toArray 36)) := (Below.refl _ _).alloc (Nat.le_refl _) _
        by_cases hq : ids[k] = es[k].1
        · have hq' : (ids[k] == es[k].1) = true := by simpa using hq
          rw [hq'] at hcall
          have HT : Hid (ids.take (k + 1) = (es.take (k + 1)).map fid) := by
            show _ = _
            rw [take_succ_get (List.getElem?_eq_getElem h1), take_succ_get (List.getElem?_eq_getElem h2), List.map_append, ht.out, hq]
            rfl
          clear hq hq' ht
          go_wp2_with (go_at_call 39; refine hcall.mono ?_; rintro e w2 ⟨rfl, hb2⟩)
          go_roundw
          case rel => exact ⟨k + 1, by omega, by go_num, HT, hb.trans ((hb7.trans (hb2.mono hb7.size)).mono zb)⟩
          case measure => simp [intOf]; omega
        · have hq' : (ids[k] == es[k].1) = false := by simpa using hq
          rw [hq'] at hcall
          have HZ := Lib.hid (eqf_no h1 h2 hq)
          clear hq hq' ht
          go_wp2_with (go_at_call 39; refine hcall.mono ?_; rintro e w2 ⟨rfl, hb2⟩)
          go_ret
          exact ⟨ret_bool HZ.out.symm, hb.trans ((hb7.trans (hb2.mono hb7.size)).mono zb)⟩
      · have hlt' : ¬ (k : Int) < n := by omega
        have HZ : Hid (decide (ids = es.map fid) = true) := decide_eq_true (by
          have h3 := ht.out
          rwa [List.take_of_length_le (by have := HI.out; omega), List.take_of_length_le (by have := HN.out; omega)] at h3)
        clear ht
        go_wp2_with fail
        go_ret
        exact ⟨ret_bool HZ.out.symm, hb⟩

set_option linter.unusedVariables false
set_option maxRecDepth 100000

theorem fB_badI {n : Int} {es : List Fl} {k : Nat} (hk : k < es.length) (h : ¬ goodF n es k hk) : fB n (pvI (es.map fid) k) ((es.drop k).map fc) = false := fB_bad hk h
set_option maxHeartbeats 8000000 in
theorem filesOk_any (r f n : Int) (FA : Option Addr) (es : List Fl) (c1 : Nat) (KA : Option Addr) (ks : List Lk) (c2 : Nat) (TA : Option Addr) (ts : List Tn) (c3 : Nat) (w : World) (hF : SlL w FA 3 flL es) (hl : es.length ≤ 1048576) (ht : ftot es ≤ 1048576) (hn1 : 1 ≤ n) (hn2 : n ≤ 1000000) (hbd : ∀ e, e ∈ es → bd e.1 ∧ bd e.2.2) :
    Calls Try.prog 17 #[dkV r f n FA es.length c1 KA ks.length c2 TA ts.length c3] w fun e w' => e = .returned (.bool (fB n 0 (es.map fc) && decide ((es.length : Int) ≤ 10) && decide ((ftot es : Int) ≤ r))) ∧ Below w.heap.size w w' := by
  have hb0 : Below w.heap.size w (w.alloc (.cells (dkC r f n FA es.length c1 KA ks.length c2 TA ts.length c3) 27)) := by (repeat (first | exact Below.refl _ _ | (refine Below.alloc ?_ (by first | omega | (simp; done) | (simp; omega)) _) | (refine Below.drew ?_) | (refine below_drewN ?_ _) | (refine below_at1 ?_ (by first | omega | (simp; done) | (simp; omega))) | (refine Below.setCell ?_ (by first | omega | (simp; done) | (simp; omega)) _) | (refine Below.trans ?_ (Below.mono (by assumption) (by first | omega | (simp; done) | (simp; omega))))))
  have B0 := heap_alloc_new w (.cells (dkC r f n FA es.length c1 KA ks.length c2 TA ts.length c3) 27)
  have HM := Lib.hid (And.intro hn1 hn2)
  clear hn1 hn2
  go_enter Try.func17, Try.ntmps17
  go_wp2_with fail
  go_loopw [8] (fun i wr => ∃ k : Nat, k ≤ es.length ∧ i = .int .i64 k ∧ Hid (fB n 0 (es.map fc) = fB n (pvI (es.map fid) k) ((es.drop k).map fc)) ∧ Below w.heap.size w wr ∧ wr.heap[w.heap.size]? = some (.cells (dkC r f n FA es.length c1 KA ks.length c2 TA ts.length c3) 27 (0, 0))) (fun i _ => es.length - (intOf i).toNat)
  case atStart => exact ⟨0, Nat.zero_le _, rfl, Lib.hid rfl, hb0, B0⟩
  case round =>
    clear B0 hb0
    obtain ⟨k, hk, rfl, hg, hb, hB⟩ := hrel
    have zb := hb.size
    have zB : w.heap.size < wr.heap.size := (Array.getElem?_eq_some_iff.1 hB).1
    by_cases hlt : k < es.length
    · obtain ⟨b, o, rfl, hbs, x0, x1, x2⟩ := Fl.get (hF.below hb) hlt
      have hlt' : (k : Int) < es.length := by omega
      have q2 : wr.cell? ⟨w.heap.size, 2, none⟩ = some (.int .i64 n) := cell_of_row wr w.heap.size 2 _ _ (0, 0) hB
      have q3 : wr.cell? ⟨w.heap.size, 3, none⟩ = some (.slice (some ⟨b, o, none⟩) es.length c1) := cell_of_row wr w.heap.size 3 _ _ (0, 0) hB
      have hgb := @fB_bad n es k hlt
      have hgo := @fB_ok n es k hlt
      obtain ⟨bd0, bd2⟩ := hbd _ (List.getElem_mem hlt)
      have hwn : IntKind.i64.wrap (n - 1) = n - 1 := by have := HM.out; rw [IntKind.wrap_i64]; omega
      have HG : Hid ((¬ goodF n es k hlt) → (fB n 0 (es.map fc) && decide ((es.length : Int) ≤ 10) && decide ((ftot es : Int) ≤ r)) = false) := Lib.hid fun h => by rw [hg.out, hgb h]; rfl
      have HO : Hid (goodF n es k hlt → fB n 0 (es.map fc) = fB n (pvI (es.map fid) (k + 1)) ((es.drop (k + 1)).map fc)) := Lib.hid fun h => by rw [hg.out, hgo h]
      clear hgb hgo hg
      by_cases d1 : 1 ≤ es[k].1 ∧ es[k].1 ≤ n - 1
      case neg =>
        have W1 : Hid (decide (1 ≤ es[k].1 ∧ es[k].1 ≤ n - 1) = false) := decide_eq_false d1
        have W2 : Hid True := trivial
        have HZ : Hid ((fB n 0 (es.map fc) && decide ((es.length : Int) ≤ 10) && decide ((ftot es : Int) ≤ r)) = false) := HG.out fun h => d1 ⟨h.1, by have := h.2.1; omega⟩
        clear HG HO
        go_wp2_with fail
        first | (have e0 : (0 : Int) < k := by omega) | (have e0 : ¬ (0 : Int) < k := by omega) | skip
        first | (have e1 : 0 < k := by omega) | (have e1 : ¬ 0 < k := by omega) | skip
        first | (have e2 : es[k].1 ≤ es[j].1 := by omega) | (have e2 : ¬ es[k].1 ≤ es[j].1 := by omega) | skip
        go_quiet (first | (go_at_call_of 16 n; refine Calls.quiet_of_same (v := .bool false) ((within_any _ _ _ _).mono ?_); rintro e w9 ⟨he, hw⟩; exact ⟨he.trans (congrArg Ending.returned (congrArg Value.bool W1.out)), hw.symm⟩) | (go_at_call 16; refine Calls.quiet_of_same (v := .bool true) ((within_any _ _ _ _).mono ?_); rintro e w9 ⟨he, hw⟩; exact ⟨he.trans (congrArg Ending.returned (congrArg Value.bool W2.out)), hw.symm⟩))
        go_wp2_with fail
        go_ret
        exact ⟨ret_bool HZ.out.symm, below_drewN (hb.alloc (by first | omega | (simp; done) | (simp; omega)) _) _⟩
      case pos =>
      have W1 : Hid (decide (1 ≤ es[k].1 ∧ es[k].1 ≤ n - 1) = true) := decide_eq_true d1
      have D1 := Lib.hid d1
      clear d1
      by_cases d2 : 0 ≤ es[k].2.2 ∧ es[k].2.2 ≤ es[k].2.1.2.2.length
      case neg =>
        have W2 : Hid (decide (0 ≤ es[k].2.2 ∧ es[k].2.2 ≤ es[k].2.1.2.2.length) = false) := decide_eq_false d2
        have D2 := Lib.hid d2
        rcases Nat.eq_zero_or_pos k with hk0 | hk0
        · have hkp : ¬ (0 : Int) < k := by omega
          clear hk0 d2
          have HZ : Hid ((fB n 0 (es.map fc) && decide ((es.length : Int) ≤ 10) && decide ((ftot es : Int) ≤ r)) = false) := HG.out fun h => D2.out ⟨h.2.2.2.1, h.2.2.2.2⟩
          clear HG HO
          go_wp2_with fail
          first | (have e0 : (0 : Int) < k := by omega) | (have e0 : ¬ (0 : Int) < k := by omega) | skip
          first | (have e1 : 0 < k := by omega) | (have e1 : ¬ 0 < k := by omega) | skip
          first | (have e2 : es[k].1 ≤ es[j].1 := by omega) | (have e2 : ¬ es[k].1 ≤ es[j].1 := by omega) | skip
          go_quiet (first | (go_at_call_of 16 n; refine Calls.quiet_of_same (v := .bool true) ((within_any _ _ _ _).mono ?_); rintro e w9 ⟨he, hw⟩; exact ⟨he.trans (congrArg Ending.returned (congrArg Value.bool W1.out)), hw.symm⟩) | (go_at_call 16; refine Calls.quiet_of_same (v := .bool false) ((within_any _ _ _ _).mono ?_); rintro e w9 ⟨he, hw⟩; exact ⟨he.trans (congrArg Ending.returned (congrArg Value.bool W2.out)), hw.symm⟩))
          go_wp2_with fail
          go_ret
          exact ⟨ret_bool HZ.out.symm, below_drewN (hb.alloc (by first | omega | (simp; done) | (simp; omega)) _) _⟩
        · obtain ⟨j, hj⟩ : ∃ j, Hid (k = j + 1) := ⟨k - 1, by show k = _; omega⟩
          have hjl : j < es.length := by have := hj.out; omega
          obtain ⟨b', o', hA', _, y0, _, _⟩ := Fl.get (hF.below hb) hjl
          injection hA' with hA'
          injection hA' with e1 e2 e3
          subst e1 e2
          have hkp : (0 : Int) < k := by omega
          have hw1 : IntKind.i64.wrap ((k : Int) - 1) = (j : Int) := by have := hj.out; rw [IntKind.wrap_i64]; omega
          have hj0 : (0 : Int) ≤ j := by omega
          have hj1 : (j : Int) < es.length := by omega
          have HP : Hid (pvI (es.map fid) k = es[j].1) := by have := hj.out; subst this; exact pvI_succ es j hjl
          clear d2
          by_cases d3 : es[k].1 ≤ es[j].1
          · have HZ : Hid ((fB n 0 (es.map fc) && decide ((es.length : Int) ≤ 10) && decide ((ftot es : Int) ≤ r)) = false) := HG.out fun h => D2.out ⟨h.2.2.2.1, h.2.2.2.2⟩
            clear HG HO
            go_wp2_with fail
            first | (have e0 : (0 : Int) < k := by omega) | (have e0 : ¬ (0 : Int) < k := by omega) | skip
            first | (have e1 : 0 < k := by omega) | (have e1 : ¬ 0 < k := by omega) | skip
            first | (have e2 : es[k].1 ≤ es[j].1 := by omega) | (have e2 : ¬ es[k].1 ≤ es[j].1 := by omega) | skip
            go_quiet (first | (go_at_call_of 16 n; refine Calls.quiet_of_same (v := .bool true) ((within_any _ _ _ _).mono ?_); rintro e w9 ⟨he, hw⟩; exact ⟨he.trans (congrArg Ending.returned (congrArg Value.bool W1.out)), hw.symm⟩) | (go_at_call 16; refine Calls.quiet_of_same (v := .bool false) ((within_any _ _ _ _).mono ?_); rintro e w9 ⟨he, hw⟩; exact ⟨he.trans (congrArg Ending.returned (congrArg Value.bool W2.out)), hw.symm⟩))
            go_wp2_with fail
            go_ret
            exact ⟨ret_bool HZ.out.symm, below_drewN (hb.alloc (by first | omega | (simp; done) | (simp; omega)) _) _⟩
          · have HZ : Hid ((fB n 0 (es.map fc) && decide ((es.length : Int) ≤ 10) && decide ((ftot es : Int) ≤ r)) = false) := HG.out fun h => D2.out ⟨h.2.2.2.1, h.2.2.2.2⟩
            clear HG HO
            go_wp2_with fail
            first | (have e0 : (0 : Int) < k := by omega) | (have e0 : ¬ (0 : Int) < k := by omega) | skip
            first | (have e1 : 0 < k := by omega) | (have e1 : ¬ 0 < k := by omega) | skip
            first | (have e2 : es[k].1 ≤ es[j].1 := by omega) | (have e2 : ¬ es[k].1 ≤ es[j].1 := by omega) | skip
            go_quiet (first | (go_at_call_of 16 n; refine Calls.quiet_of_same (v := .bool true) ((within_any _ _ _ _).mono ?_); rintro e w9 ⟨he, hw⟩; exact ⟨he.trans (congrArg Ending.returned (congrArg Value.bool W1.out)), hw.symm⟩) | (go_at_call 16; refine Calls.quiet_of_same (v := .bool false) ((within_any _ _ _ _).mono ?_); rintro e w9 ⟨he, hw⟩; exact ⟨he.trans (congrArg Ending.returned (congrArg Value.bool W2.out)), hw.symm⟩))
            go_wp2_with fail
            go_ret
            exact ⟨ret_bool HZ.out.symm, below_drewN (hb.alloc (by first | omega | (simp; done) | (simp; omega)) _) _⟩
      case pos =>
      have W2 : Hid (decide (0 ≤ es[k].2.2 ∧ es[k].2.2 ≤ es[k].2.1.2.2.length) = true) := decide_eq_true d2
      have D2 := Lib.hid d2
      clear d2
      rcases Nat.eq_zero_or_pos k with hk0 | hk0
      · have HP : Hid (pvI (es.map fid) k = 0) := by rw [hk0]; exact Lib.hid rfl
        have hkp : ¬ (0 : Int) < k := by omega
        clear hk0
        have HZ : Hid (fB n 0 (es.map fc) = fB n (pvI (es.map fid) (k + 1)) ((es.drop (k + 1)).map fc)) := HO.out ⟨D1.out.1, by have := D1.out.2; omega, by rw [HP.out]; have := D1.out.1; omega, D2.out.1, D2.out.2⟩
        clear HG HO
        go_wp2_with fail
        first | (have e0 : (0 : Int) < k := by omega) | (have e0 : ¬ (0 : Int) < k := by omega) | skip
        first | (have e1 : 0 < k := by omega) | (have e1 : ¬ 0 < k := by omega) | skip
        first | (have e2 : es[k].1 ≤ es[j].1 := by omega) | (have e2 : ¬ es[k].1 ≤ es[j].1 := by omega) | skip
        go_quiet (first | (go_at_call_of 16 n; refine Calls.quiet_of_same (v := .bool true) ((within_any _ _ _ _).mono ?_); rintro e w9 ⟨he, hw⟩; exact ⟨he.trans (congrArg Ending.returned (congrArg Value.bool W1.out)), hw.symm⟩) | (go_at_call 16; refine Calls.quiet_of_same (v := .bool true) ((within_any _ _ _ _).mono ?_); rintro e w9 ⟨he, hw⟩; exact ⟨he.trans (congrArg Ending.returned (congrArg Value.bool W2.out)), hw.symm⟩))
        go_wp2_with fail
        go_roundw
        case rel => exact ⟨k + 1, by omega, by go_num, HZ, below_drewN (hb.alloc (by first | omega | (simp; done) | (simp; omega)) _) _, heap_alloc_of _ hB⟩
        case measure => simp [intOf]; omega
      · obtain ⟨j, hj⟩ : ∃ j, Hid (k = j + 1) := ⟨k - 1, by show k = _; omega⟩
        have hjl : j < es.length := by have := hj.out; omega
        obtain ⟨b', o', hA', _, y0, _, _⟩ := Fl.get (hF.below hb) hjl
        injection hA' with hA'
        injection hA' with e1 e2 e3
        subst e1 e2
        have hkp : (0 : Int) < k := by omega
        have hw1 : IntKind.i64.wrap ((k : Int) - 1) = (j : Int) := by have := hj.out; rw [IntKind.wrap_i64]; omega
        have hj0 : (0 : Int) ≤ j := by omega
        have hj1 : (j : Int) < es.length := by omega
        have HP : Hid (pvI (es.map fid) k = es[j].1) := by have := hj.out; subst this; exact pvI_succ es j hjl
        by_cases d3 : es[k].1 ≤ es[j].1
        · have HZ : Hid ((fB n 0 (es.map fc) && decide ((es.length : Int) ≤ 10) && decide ((ftot es : Int) ≤ r)) = false) := HG.out fun h => (by have h1 := h.2.2.1; rw [HP.out] at h1; omega)
          clear HG HO
          go_wp2_with fail
          first | (have e0 : (0 : Int) < k := by omega) | (have e0 : ¬ (0 : Int) < k := by omega) | skip
          first | (have e1 : 0 < k := by omega) | (have e1 : ¬ 0 < k := by omega) | skip
          first | (have e2 : es[k].1 ≤ es[j].1 := by omega) | (have e2 : ¬ es[k].1 ≤ es[j].1 := by omega) | skip
          go_quiet (first | (go_at_call_of 16 n; refine Calls.quiet_of_same (v := .bool true) ((within_any _ _ _ _).mono ?_); rintro e w9 ⟨he, hw⟩; exact ⟨he.trans (congrArg Ending.returned (congrArg Value.bool W1.out)), hw.symm⟩) | (go_at_call 16; refine Calls.quiet_of_same (v := .bool true) ((within_any _ _ _ _).mono ?_); rintro e w9 ⟨he, hw⟩; exact ⟨he.trans (congrArg Ending.returned (congrArg Value.bool W2.out)), hw.symm⟩))
          go_wp2_with fail
          go_ret
          exact ⟨ret_bool HZ.out.symm, below_drewN (hb.alloc (by first | omega | (simp; done) | (simp; omega)) _) _⟩
        · have HZ : Hid (fB n 0 (es.map fc) = fB n (pvI (es.map fid) (k + 1)) ((es.drop (k + 1)).map fc)) := HO.out ⟨D1.out.1, by have := D1.out.2; omega, by rw [HP.out]; omega, D2.out.1, D2.out.2⟩
          clear HG HO
          go_wp2_with fail
          first | (have e0 : (0 : Int) < k := by omega) | (have e0 : ¬ (0 : Int) < k := by omega) | skip
          first | (have e1 : 0 < k := by omega) | (have e1 : ¬ 0 < k := by omega) | skip
          first | (have e2 : es[k].1 ≤ es[j].1 := by omega) | (have e2 : ¬ es[k].1 ≤ es[j].1 := by omega) | skip
          go_quiet (first | (go_at_call_of 16 n; refine Calls.quiet_of_same (v := .bool true) ((within_any _ _ _ _).mono ?_); rintro e w9 ⟨he, hw⟩; exact ⟨he.trans (congrArg Ending.returned (congrArg Value.bool W1.out)), hw.symm⟩) | (go_at_call 16; refine Calls.quiet_of_same (v := .bool true) ((within_any _ _ _ _).mono ?_); rintro e w9 ⟨he, hw⟩; exact ⟨he.trans (congrArg Ending.returned (congrArg Value.bool W2.out)), hw.symm⟩))
          go_wp2_with fail
          go_roundw
          case rel => exact ⟨k + 1, by omega, by go_num, HZ, below_drewN (hb.alloc (by first | omega | (simp; done) | (simp; omega)) _) _, heap_alloc_of _ hB⟩
          case measure => simp [intOf]; omega
    · have hlt' : ¬ ((k : Int) < es.length) := by omega
      have HE : Hid (fB n 0 (es.map fc) = true) := by rw [hg.out, List.drop_of_length_le (by omega)]; exact Lib.hid rfl
      clear hg hk hlt
      have q0 : wr.cell? ⟨w.heap.size, 0, none⟩ = some (.int .i64 r) := cell_of_row wr w.heap.size 0 _ _ (0, 0) hB
      have q1 : wr.cell? ⟨w.heap.size, 1, none⟩ = some (.int .i64 f) := cell_of_row wr w.heap.size 1 _ _ (0, 0) hB
      have q2 : wr.cell? ⟨w.heap.size, 2, none⟩ = some (.int .i64 n) := cell_of_row wr w.heap.size 2 _ _ (0, 0) hB
      have q3 : wr.cell? ⟨w.heap.size, 3, none⟩ = some (.slice FA es.length c1) := cell_of_row wr w.heap.size 3 _ _ (0, 0) hB
      have q4 : wr.cell? ⟨w.heap.size, 4, none⟩ = some (.slice KA ks.length c2) := cell_of_row wr w.heap.size 4 _ _ (0, 0) hB
      have q5 : wr.cell? ⟨w.heap.size, 5, none⟩ = some (.slice TA ts.length c3) := cell_of_row wr w.heap.size 5 _ _ (0, 0) hB
      go_wp2_with fail
      have qq0 : ∀ p : Bl wr.heap.size wr, p.val.cell? ⟨w.heap.size, 0, none⟩ = some (.int .i64 r) := fun p => p.cell q0
      have qq1 : ∀ p : Bl wr.heap.size wr, p.val.cell? ⟨w.heap.size, 1, none⟩ = some (.int .i64 f) := fun p => p.cell q1
      have qq2 : ∀ p : Bl wr.heap.size wr, p.val.cell? ⟨w.heap.size, 2, none⟩ = some (.int .i64 n) := fun p => p.cell q2
      have qq3 : ∀ p : Bl wr.heap.size wr, p.val.cell? ⟨w.heap.size, 3, none⟩ = some (.slice FA es.length c1) := fun p => p.cell q3
      have qq4 : ∀ p : Bl wr.heap.size wr, p.val.cell? ⟨w.heap.size, 4, none⟩ = some (.slice KA ks.length c2) := fun p => p.cell q4
      have qq5 : ∀ p : Bl wr.heap.size wr, p.val.cell? ⟨w.heap.size, 5, none⟩ = some (.slice TA ts.length c3) := fun p => p.cell q5
      obtain ⟨u, hu⟩ : ∃ u : Int, Hid ((ftot es : Int) = u) := ⟨_, Lib.hid rfl⟩
      by_cases g1 : (es.length : Int) ≤ 10
      · by_cases g2 : u ≤ r
        · refine wp_region_qb (by kernel_rfl) (by kernel_rfl) ?_
          repeat (quiet_step ((go_at_call 34; rename_i p; exact Calls.qb ((used_impl r f n FA es c1 KA ks.length c2 TA ts.length c3 _ ((hF.below hb).below p.ok) (by omega) (by omega)).mono fun _ _ ⟨he, hb9⟩ => ⟨he.trans (ret_int hu.out), hb9⟩))))
          refine qb_end fun w9 hb9 => ?_
          clear qq0 qq1 qq2 qq3 qq4 qq5 q0 q1 q2 q3 q4 q5
          go_wp2_with fail
          go_ret
          exact ⟨ret_bool (by rw [HE.out, hu.out]; simp [g1, g2]), hb.trans (hb9.mono zb)⟩
        · refine wp_region_qb (by kernel_rfl) (by kernel_rfl) ?_
          repeat (quiet_step ((go_at_call 34; rename_i p; exact Calls.qb ((used_impl r f n FA es c1 KA ks.length c2 TA ts.length c3 _ ((hF.below hb).below p.ok) (by omega) (by omega)).mono fun _ _ ⟨he, hb9⟩ => ⟨he.trans (ret_int hu.out), hb9⟩))))
          refine qb_end fun w9 hb9 => ?_
          clear qq0 qq1 qq2 qq3 qq4 qq5 q0 q1 q2 q3 q4 q5
          go_wp2_with fail
          go_ret
          exact ⟨ret_bool (by rw [HE.out, hu.out]; simp [g2]), hb.trans (hb9.mono zb)⟩
      · refine wp_region_qb (by kernel_rfl) (by kernel_rfl) ?_
        repeat (quiet_step ((go_at_call 34; rename_i p; exact Calls.qb ((used_impl r f n FA es c1 KA ks.length c2 TA ts.length c3 _ ((hF.below hb).below p.ok) (by omega) (by omega)).mono fun _ _ ⟨he, hb9⟩ => ⟨he.trans (ret_int hu.out), hb9⟩))))
        refine qb_end fun w9 hb9 => ?_
        clear qq0 qq1 qq2 qq3 qq4 qq5 q0 q1 q2 q3 q4 q5
        go_wp2_with fail
        go_ret
        exact ⟨ret_bool (by rw [HE.out, hu.out, decide_eq_false (show ¬ (es.length : Int) ≤ 10 by omega)]; rfl), hb.trans (hb9.mono zb)⟩
end Go.Proofs.Ytndmdhmghjfckaa
