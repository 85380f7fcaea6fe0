/- Which generation a file's name tells: the reference's way. -/
import Derived.Test.YtdnpglbaggkgcaaDoorT6
namespace Go.Proofs.YtdnpglbaggkgcaaDoor
open Go.RowKit Go.Lib
set_option linter.unusedVariables false
set_option maxRecDepth 100000

/-- A name that tells generation n. -/
def gok (l : List UInt8) (n : Nat) : Prop := 1 ≤ n ∧ n ≤ 1000000000 ∧ (l = snapS ++ decDigits n ∨ l = logS ++ decDigits n)
theorem gok_uniq {l : List UInt8} {n m : Nat} (h : gok l n) (h' : gok l m) : n = m := by
  obtain ⟨_, _, h⟩ := h
  obtain ⟨_, _, h'⟩ := h'
  rcases h with h | h <;> rcases h' with h' | h'
  · rw [h] at h'; exact dec_inj (List.append_cancel_left h')
  · rw [h] at h'; simp [snapS, logS] at h'
  · rw [h] at h'; simp [snapS, logS] at h'
  · rw [h] at h'; exact dec_inj (List.append_cancel_left h')
def goP (l : List UInt8) (v : Value) : Prop := (∃ n, gok l n ∧ v = .tuple #[.int .i64 (n : Nat), .bool true]) ∨ ((∀ n, ¬ gok l n) ∧ v = .tuple #[.int .i64 0, .bool false])
theorem goP_uniq {l : List UInt8} {v v' : Value} (h : goP l v) (h' : goP l v') : v = v' := by
  rcases h with ⟨n, h, rfl⟩ | ⟨h, rfl⟩ <;> rcases h' with ⟨m, h', rfl⟩ | ⟨h', rfl⟩
  · rw [gok_uniq h h']
  · exact absurd h (h' n)
  · exact absurd h' (h m)
  · rfl
theorem nm_nat {p : List UInt8} {n : Nat} : nmL p n = if 1 ≤ n ∧ n ≤ 1000000000 then p ++ decDigits n else [] := by
  unfold nmL
  by_cases h : 1 ≤ n ∧ n ≤ 1000000000
  · rw [if_pos h, if_pos ⟨by omega, by omega⟩, nt_yes (by omega)]
  · rw [if_neg h, if_neg (by omega)]
/-- What a found name tells. -/
theorem nm_gok {l : List UInt8} {n : Nat} (hl : l ≠ []) : (nmL snapS n = l ∨ nmL logS n = l) ↔ gok l n := by
  rw [nm_nat, nm_nat, gok]
  by_cases h : 1 ≤ n ∧ n ≤ 1000000000
  · rw [if_pos h, if_pos h]
    constructor
    · rintro (h2 | h2)
      · exact ⟨h.1, h.2, .inl h2.symm⟩
      · exact ⟨h.1, h.2, .inr h2.symm⟩
    · rintro ⟨_, _, h2 | h2⟩
      · exact .inl h2.symm
      · exact .inr h2.symm
  · rw [if_neg h, if_neg h]
    constructor
    · rintro (h2 | h2) <;> exact absurd h2.symm hl
    · rintro ⟨h1, h2, _⟩; exact absurd ⟨h1, h2⟩ h
/-- Where the dot of a name stands, and what stands behind it. -/
theorem gok_dot {l : List UInt8} {n : Nat} (h : gok l n) : ∃ k, l[k]? = some 46 ∧ l.drop (k + 1) = decDigits n ∧ (∀ j, j < k → l[j]? ≠ some 46) ∧ k < l.length := by
  obtain ⟨_, _, rfl | rfl⟩ := h
  · refine ⟨4, rfl, rfl, ?_, by simp [snapS]⟩
    intro j hj
    match j, hj with
    | 0, _ => simp [snapS]
    | 1, _ => simp [snapS]
    | 2, _ => simp [snapS]
    | 3, _ => simp [snapS]
  · refine ⟨3, rfl, rfl, ?_, by simp [logS]⟩
    intro j hj
    match j, hj with
    | 0, _ => simp [logS]
    | 1, _ => simp [logS]
    | 2, _ => simp [logS]
theorem bstr_drop (xs : List UInt8) (k : Nat) : (bstr xs).extract k xs.length = bstr (xs.drop k) := by
  apply ByteArray.ext
  apply Array.ext'
  simp [bstr]
  exact List.take_of_length_le (by simp)
/-- The condition of the reference at place k fails. -/
def noAt (xs : List UInt8) (k : Nat) : Prop := xs[k]? = some 46 → ∀ n, gok xs n → xs.drop (k + 1) ≠ decDigits n
theorem no_gok {xs : List UInt8} (h : ∀ k, k < xs.length → noAt xs k) (n : Nat) : ¬ gok xs n := fun hg => by
  obtain ⟨k, h1, h2, _, h3⟩ := gok_dot hg
  exact h k h3 h1 n hg h2
set_option maxHeartbeats 2000000 in
theorem genOf_spec (xs : List UInt8) (w : World) (h1 : xs.length ≤ 1048576) :
    Calls Tryd.prog 18 #[.string (bstr xs)] w fun e w' => ∃ v, e = .returned v ∧ goP xs v ∧ Below w.heap.size w w' := by
  have hs : (bstr xs).size = xs.length := bstr_size xs
  obtain ⟨s, hS⟩ : ∃ s, s = bstr xs := ⟨_, rfl⟩
  have hdx : s.data.toList = xs := by rw [hS]; simp [bstr]
  rw [← hS] at hs ⊢
  have HS := Lib.hid hS
  clear hS
  go_enter Tryd.func18, Tryd.ntmps18
  go_wp2_with fail
  go_loopw [4] (fun i wr => ∃ k : Nat, i = .int .i64 k ∧ k ≤ xs.length ∧ Hid (∀ j, j < k → noAt xs j) ∧ Below w.heap.size w wr) (fun i _ => xs.length - (RowKit.intOf i).toNat)
  case atStart => exact ⟨0, rfl, Nat.zero_le _, by show ∀ j, _; intro j hj; omega, Below.refl _ _⟩
  case round =>
    obtain ⟨k, rfl, hk, hv, hb⟩ := hrel
    by_cases hlt : k < xs.length
    · obtain ⟨x, hx⟩ : ∃ x, xs[k]? = some x := ⟨_, List.getElem?_eq_getElem hlt⟩
      have hsx : s.data[k]? = some x := by rw [← hdx] at hx; simpa using hx
      have HXk := Lib.hid hx
      clear hx
      have hlt' : (k : Int) < xs.length := by omega
      obtain rfl : s[k]'(by rw [hs]; exact hlt) = x := (Array.getElem?_eq_some_iff.1 hsx).2
      have hbx := u8_lt (s[k]'(by rw [hs]; exact hlt))
      by_cases hd : (s[k]'(by rw [hs]; exact hlt)).toNat = 46
      case neg =>
        have hdf : (((s[k]'(by rw [hs]; exact hlt)).toNat : Int) == 46) = false := by rw [beq_eq_false_iff_ne]; omega
        have hv' : ∀ j, j < k + 1 → noAt xs j := by
          intro j hj
          by_cases hjk : j < k
          · exact hv.out j hjk
          · obtain rfl : j = k := by omega
            intro h
            rw [HXk.out] at h
            injection h with h
            rw [h] at hd
            exact absurd rfl hd
        have HV := Lib.hid hv'
        clear hv' hd
        go_wp2_with fail
        go_roundw
        case rel => exact ⟨k + 1, by go_num, hlt, HV, hb⟩
        case measure => simp [RowKit.intOf]; omega
      have hdt : (((s[k]'(by rw [hs]; exact hlt)).toNat : Int) == 46) = true := by rw [beq_iff_eq]; omega
      have h46 : xs[k]? = some 46 := by
        rw [HXk.out]
        congr 1
        exact UInt8.toNat_inj.1 hd
      have hex : s.extract (k + 1) xs.length = bstr (xs.drop (k + 1)) := by rw [HS.out, bstr_drop]
      have hne : xs ≠ [] := by intro e; rw [e] at hlt; simp at hlt
      have H46 := Lib.hid h46
      clear h46 hd
      have hstep : ∀ {q : Prop}, noAt xs k → (Hid (∀ j, j < k + 1 → noAt xs j) → q) → q := fun h f => f (Lib.hid (fun j hj => by
        by_cases hjk : j < k
        · exact hv.out j hjk
        · obtain rfl : j = k := by omega
          exact h))
      cases htn : tnB (xs.drop (k + 1)) with
      | false =>
        refine hstep (fun _ n hg hn => by rw [hn, tn_dec (by have := hg.2.1; omega)] at htn; cases htn) fun HV => ?_
        have hT := textNum_spec (xs.drop (k + 1)) wr (by simp; omega)
        rw [tnV_no htn] at hT
        have HT := Lib.hid hT
        clear hT htn hstep
        go_wp2_with fail
        refine HT.out.mono ?_
        rintro e w1 ⟨rfl, hb1⟩
        go_wp2_with fail
        go_roundw
        case rel => exact ⟨k + 1, by go_num, hlt, HV, hb.trans (hb1.mono hb.size)⟩
        case measure => simp [RowKit.intOf]; omega
      | true =>
        obtain ⟨n, hn, hrest⟩ := tn_iff.1 htn
        have hT := textNum_spec (xs.drop (k + 1)) wr (by simp; omega)
        rw [tnV_yes htn, hrest, valF_dec] at hT
        have huq : ∀ m, gok xs m → xs.drop (k + 1) = decDigits m → m = n := fun m _ h => dec_inj (h.symm.trans hrest)
        have HREST := Lib.hid hrest
        rw [hrest] at hex
        have HT := Lib.hid hT
        clear hT htn hrest
        by_cases hn0 : n = 0
        · refine hstep (fun _ m hg hm => by have h1 := huq m hg hm; have h2 := hg.1; omega) fun HV => ?_
          subst hn0
          clear hstep huq
          go_wp2_with fail
          refine HT.out.mono ?_
          rintro e w1 ⟨rfl, hb1⟩
          go_wp2_with fail
          go_roundw
          case rel => exact ⟨k + 1, by go_num, hlt, HV, hb.trans (hb1.mono hb.size)⟩
          case measure => simp [RowKit.intOf]; omega
        have hn1 : (0 : Int) < (n : Int) := by omega
        have hn2 : (n : Int) ≤ 4294967295 := by omega
        have hsx2 : s.toList = xs := by rw [HS.out, bstr_toList]
        by_cases hq1 : nmL snapS n = xs
        · have HG := Lib.hid ((nm_gok hne).1 (.inl hq1))
          have e1 : ((bstr (nmL snapS n)).toList == s.toList) = true := by rw [bstr_toList, hsx2, beq_iff_eq]; exact hq1
          clear hstep huq hq1 hsx2
          go_wp2_with fail
          refine HT.out.mono ?_
          rintro e w1 ⟨rfl, hb1⟩
          go_wp2_with fail
          refine (snapName_spec n w1 ⟨by omega, by omega⟩).mono ?_
          rintro e w2 ⟨rfl, hb2⟩
          go_wp2_with fail
          exact bodyPost_ret (v := .tuple #[.int .i64 n, .bool true]) (by simp [results, Tryd.results18, go_sem, *]) rfl ⟨_, rfl, .inl ⟨n, HG.out, rfl⟩, hb.trans ((hb1.trans (hb2.mono hb1.size)).mono hb.size)⟩
        have e1 : ((bstr (nmL snapS n)).toList == s.toList) = false := by rw [bstr_toList, hsx2, beq_eq_false_iff_ne]; exact hq1
        by_cases hq2 : nmL logS n = xs
        · have HG := Lib.hid ((nm_gok hne).1 (.inr hq2))
          have e2 : ((bstr (nmL logS n)).toList == s.toList) = true := by rw [bstr_toList, hsx2, beq_iff_eq]; exact hq2
          clear hstep huq hq1 hq2 hsx2
          go_wp2_with fail
          refine HT.out.mono ?_
          rintro e w1 ⟨rfl, hb1⟩
          go_wp2_with fail
          refine (snapName_spec n w1 ⟨by omega, by omega⟩).mono ?_
          rintro e w2 ⟨rfl, hb2⟩
          go_wp2_with fail
          refine (logName_spec n w2 ⟨by omega, by omega⟩).mono ?_
          rintro e w3 ⟨rfl, hb3⟩
          go_wp2_with fail
          exact bodyPost_ret (v := .tuple #[.int .i64 n, .bool true]) (by simp [results, Tryd.results18, go_sem, *]) rfl ⟨_, rfl, .inl ⟨n, HG.out, rfl⟩, hb.trans ((hb1.trans ((hb2.trans (hb3.mono hb2.size)).mono hb1.size)).mono hb.size)⟩
        · have e2 : ((bstr (nmL logS n)).toList == s.toList) = false := by rw [bstr_toList, hsx2, beq_eq_false_iff_ne]; exact hq2
          refine hstep (fun _ m hg hm => by
            obtain rfl := huq m hg hm
            rcases (nm_gok hne).2 hg with h | h
            · exact hq1 h
            · exact hq2 h) fun HV => ?_
          clear hstep huq hq1 hq2 hsx2
          go_wp2_with fail
          refine HT.out.mono ?_
          rintro e w1 ⟨rfl, hb1⟩
          go_wp2_with fail
          refine (snapName_spec n w1 ⟨by omega, by omega⟩).mono ?_
          rintro e w2 ⟨rfl, hb2⟩
          go_wp2_with fail
          refine (logName_spec n w2 ⟨by omega, by omega⟩).mono ?_
          rintro e w3 ⟨rfl, hb3⟩
          go_wp2_with fail
          go_roundw
          case rel => exact ⟨k + 1, by go_num, hlt, HV, hb.trans ((hb1.trans ((hb2.trans (hb3.mono hb2.size)).mono hb1.size)).mono hb.size)⟩
          case measure => simp [RowKit.intOf]; omega
    · have hlt' : ¬ (k : Int) < xs.length := by omega
      obtain rfl : k = xs.length := by omega
      have HG := Lib.hid (fun n => no_gok hv.out n)
      go_wp2_with fail
      exact bodyPost_ret (v := .tuple #[.int .i64 0, .bool false]) (by simp [results, Tryd.results18, go_sem, *]) rfl ⟨_, rfl, .inr ⟨HG.out, rfl⟩, hb⟩
end Go.Proofs.YtdnpglbaggkgcaaDoor
