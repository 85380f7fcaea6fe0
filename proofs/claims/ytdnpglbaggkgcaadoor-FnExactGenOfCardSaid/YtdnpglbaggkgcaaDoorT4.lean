/- What a decimal numeral spells: the reference's way. -/
import Derived.Test.YtdnpglbaggkgcaaDoorT3
namespace Go.Proofs.YtdnpglbaggkgcaaDoor
open Go.RowKit Go.Lib
set_option linter.unusedVariables false
set_option maxRecDepth 100000

theorem bstr_toList (l : List UInt8) : (bstr l).toList = l := by
  simp [bstr]
theorem bstr_of (s : ByteArray) : s = bstr s.data.toList := by simp [bstr]
/-- What TextNum answers. -/
def tnV (l : List UInt8) : Value := .tuple #[.int .i64 (if tnB l = true then (valF l : Int) else 0), .bool (tnB l)]
theorem tnV_no {l : List UInt8} (h : tnB l = false) : tnV l = .tuple #[.int .i64 0, .bool false] := by rw [tnV, h]; rfl
theorem tnV_yes {l : List UInt8} (h : tnB l = true) : tnV l = .tuple #[.int .i64 (valF l), .bool true] := by rw [tnV, h]; rfl
theorem fold_lt : ∀ (l : List UInt8) (a : Nat), (∀ c ∈ l, 48 ≤ c.toNat ∧ c.toNat ≤ 57) → l.foldl (fun a c => a * 10 + (c.toNat - 48)) a < (a + 1) * 10 ^ l.length
  | [], a, _ => by simp
  | c :: r, a, h => by
    have h2 := h c (by simp)
    have h1 := fold_lt r (a * 10 + (c.toNat - 48)) (fun x hx => h x (by simp [hx]))
    have h3 : (a * 10 + (c.toNat - 48) + 1) * 10 ^ r.length ≤ ((a + 1) * 10) * 10 ^ r.length := Nat.mul_le_mul_right _ (by omega)
    rw [List.length_cons, Nat.pow_succ, Nat.mul_comm (10 ^ r.length) 10, ← Nat.mul_assoc]
    exact Nat.lt_of_lt_of_le h1 h3
theorem valF_lt (l : List UInt8) (h : ∀ c ∈ l, 48 ≤ c.toNat ∧ c.toNat ≤ 57) : valF l < 10 ^ l.length := by
  have := fold_lt l 0 h
  rw [Nat.zero_add, Nat.one_mul] at this
  exact this
theorem valF_ten {l : List UInt8} (h : ∀ c ∈ l, 48 ≤ c.toNat ∧ c.toNat ≤ 57) (hl : l.length ≤ 10) : valF l < 10000000000 := by
  have h1 := valF_lt l h
  have h2 : 10 ^ l.length ≤ 10 ^ 10 := Nat.pow_le_pow_right (by omega) hl
  omega
/-- What the numeral of the value tells. -/
theorem tn_spell {l : List UInt8} (hl : l ≠ []) : ((bstr (ntL (valF l))).toList == (bstr l).toList) = tnB l := by
  rw [bstr_toList, bstr_toList, Bool.eq_iff_iff, beq_iff_eq, tnB, decide_eq_true_eq]
  by_cases h : valF l ≤ 4294967295
  · rw [nt_yes (by omega)]
    simp [h]
  · rw [nt_no (by omega)]
    constructor
    · intro e; exact absurd e.symm hl
    · intro e; exact absurd e.1 h
set_option maxHeartbeats 1000000 in
theorem textNum_spec (xs : List UInt8) (w : World) (h1 : xs.length ≤ 1099511627776) :
    Calls Tryd.prog 16 #[.string (bstr xs)] w fun e w' => e = .returned (tnV xs) ∧ Below w.heap.size w w' := by
  have hs : (bstr xs).size = xs.length := bstr_size xs
  by_cases hl1 : xs.length < 1
  · have HR := Lib.hid (tnV_no (l := xs) (by rw [Bool.eq_false_iff]; intro h; have := (tn_len h).1; omega))
    rw [HR.out]
    have hl1' : (xs.length : Int) < 1 := by omega
    go_enter Tryd.func16, Tryd.ntmps16
    go_wp2_with fail
    exact bodyPost_ret (v := .tuple #[.int .i64 0, .bool false]) (by simp [results, Tryd.results16, go_sem, *]) rfl ⟨rfl, (by (repeat (first | exact Below.refl _ _ | (refine Below.alloc ?_ (by first | omega | (simp; done) | (simp; omega)) _) | (refine Below.drew ?_) | (refine below_drewN ?_ _) | (refine below_at1 ?_ (by first | omega | (simp; done) | (simp; omega))) | (refine Below.setCell ?_ (by first | omega | (simp; done) | (simp; omega)) _) | (refine Below.trans ?_ (Below.mono (by assumption) (by first | omega | (simp; done) | (simp; omega)))))))⟩
  by_cases hl2 : 10 < xs.length
  · have HR := Lib.hid (tnV_no (l := xs) (by rw [Bool.eq_false_iff]; intro h; have := (tn_len h).2; omega))
    rw [HR.out]
    have hl2' : (10 : Int) < (xs.length : Int) := by omega
    go_enter Tryd.func16, Tryd.ntmps16
    go_wp2_with fail
    exact bodyPost_ret (v := .tuple #[.int .i64 0, .bool false]) (by simp [results, Tryd.results16, go_sem, *]) rfl ⟨rfl, (by (repeat (first | exact Below.refl _ _ | (refine Below.alloc ?_ (by first | omega | (simp; done) | (simp; omega)) _) | (refine Below.drew ?_) | (refine below_drewN ?_ _) | (refine below_at1 ?_ (by first | omega | (simp; done) | (simp; omega))) | (refine Below.setCell ?_ (by first | omega | (simp; done) | (simp; omega)) _) | (refine Below.trans ?_ (Below.mono (by assumption) (by first | omega | (simp; done) | (simp; omega)))))))⟩
  have hl1' : ¬ (xs.length : Int) < 1 := by omega
  have hl2' : ¬ (10 : Int) < (xs.length : Int) := by omega
  obtain ⟨s, hS⟩ : ∃ s, s = bstr xs := ⟨_, rfl⟩
  have hdx : s.data.toList = xs := by rw [hS]; simp [bstr]
  rw [← hS] at hs ⊢
  have HS := Lib.hid hS
  clear hS
  go_enter Tryd.func16, Tryd.ntmps16
  go_wp2_with fail
  go_loop [4, 5] (fun n i => ∃ k : Nat, i = .int .i64 k ∧ k ≤ xs.length ∧ n = .int .i64 (valF (xs.take k)) ∧ Hid (∀ y ∈ xs.take k, 48 ≤ y.toNat ∧ y.toNat ≤ 57)) (fun n i => xs.length - (RowKit.intOf i).toNat)
  case atStart => exact ⟨0, rfl, Nat.zero_le _, by simp [valF], by show ∀ y ∈ _, _; simp⟩
  case round =>
    obtain ⟨k, rfl, hk, rfl, hv⟩ := hrel
    by_cases hlt : k < xs.length
    · obtain ⟨x, hx⟩ : ∃ x, xs[k]? = some x := ⟨_, List.getElem?_eq_getElem hlt⟩
      have hsx : s.data[k]? = some x := by rw [← hdx] at hx; simpa using hx
      have HXk := Lib.hid hx
      clear hx
      have hlt' : (k : Int) < xs.length := by omega
      obtain rfl : s[k]'(by rw [hs]; exact hlt) = x := (Array.getElem?_eq_some_iff.1 hsx).2
      have hb := u8_lt (s[k]'(by rw [hs]; exact hlt))
      by_cases hd : 48 ≤ (s[k]'(by rw [hs]; exact hlt)).toNat ∧ (s[k]'(by rw [hs]; exact hlt)).toNat ≤ 57
      case neg =>
        have HR := Lib.hid (tnV_no (l := xs) (by rw [Bool.eq_false_iff]; intro h; exact hd (tn_digit h _ (List.mem_of_getElem? HXk.out))))
        by_cases hd1 : (48 : Int) ≤ ((s[k]'(by rw [hs]; exact hlt)).toNat : Int)
        case neg =>
          clear hd
          go_wp2_with fail
          exact bodyPost_ret (v := .tuple #[.int .i64 0, .bool false]) (by simp [results, Tryd.results16, go_sem, *]) rfl ⟨congrArg Ending.returned HR.out.symm, (by (repeat (first | exact Below.refl _ _ | (refine Below.alloc ?_ (by first | omega | (simp; done) | (simp; omega)) _) | (refine Below.drew ?_) | (refine below_drewN ?_ _) | (refine below_at1 ?_ (by first | omega | (simp; done) | (simp; omega))) | (refine Below.setCell ?_ (by first | omega | (simp; done) | (simp; omega)) _) | (refine Below.trans ?_ (Below.mono (by assumption) (by first | omega | (simp; done) | (simp; omega)))))))⟩
        have hd2 : ¬ ((s[k]'(by rw [hs]; exact hlt)).toNat : Int) ≤ 57 := by omega
        clear hd
        go_wp2_with fail
        exact bodyPost_ret (v := .tuple #[.int .i64 0, .bool false]) (by simp [results, Tryd.results16, go_sem, *]) rfl ⟨congrArg Ending.returned HR.out.symm, (by (repeat (first | exact Below.refl _ _ | (refine Below.alloc ?_ (by first | omega | (simp; done) | (simp; omega)) _) | (refine Below.drew ?_) | (refine below_drewN ?_ _) | (refine below_at1 ?_ (by first | omega | (simp; done) | (simp; omega))) | (refine Below.setCell ?_ (by first | omega | (simp; done) | (simp; omega)) _) | (refine Below.trans ?_ (Below.mono (by assumption) (by first | omega | (simp; done) | (simp; omega)))))))⟩
      have hv10 := valF_ten hv.out (by rw [List.length_take]; omega)
      have hq : ∀ y ∈ xs.take (k + 1), 48 ≤ y.toNat ∧ y.toNat ≤ 57 := by
        intro y hy
        rw [List.take_add_one, HXk.out] at hy
        rcases List.mem_append.1 hy with h | h
        · exact hv.out y h
        · simp at h; rw [h]; exact hd
      have HQ := Lib.hid hq
      clear hq
      have hval : valF (xs.take (k + 1)) = valF (xs.take k) * 10 + ((s[k]'(by rw [hs]; exact hlt)).toNat - 48) := by
        rw [List.take_add_one, HXk.out]
        exact valF_snoc _ _
      have HVL := Lib.hid hval
      clear hval
      obtain ⟨hd1, hd2⟩ := hd
      have hd1' : (48 : Int) ≤ ((s[k]'(by rw [hs]; exact hlt)).toNat : Int) := by omega
      have hd2' : ((s[k]'(by rw [hs]; exact hlt)).toNat : Int) ≤ 57 := by omega
      have e8 : IntKind.u8.wrap (((s[k]'(by rw [hs]; exact hlt)).toNat : Int) - 48) = ((s[k]'(by rw [hs]; exact hlt)).toNat : Int) - 48 := by rw [IntKind.wrap_u8]; omega
      have hv10' : (valF (xs.take k) : Int) < 10000000000 := by omega
      obtain ⟨vv, hvv⟩ : ∃ vv, vv = valF (xs.take k) := ⟨_, rfl⟩
      rw [← hvv] at hv10 hv10' ⊢
      have HVV := Lib.hid hvv
      clear hvv hv10 hd1 hd2
      have hf1 : ¬ ((s[k]'(by rw [hs]; exact hlt)).toNat : Int) < 48 := by omega
      have hf2 : ¬ (57 : Int) < ((s[k]'(by rw [hs]; exact hlt)).toNat : Int) := by omega
      have HD1 := Lib.hid hd1'
      have HD2 := Lib.hid hd2'
      have HE8 := Lib.hid e8
      clear hd1' hd2' e8
      go_wp2_with fail
      go_round
      case rel => exact ⟨k + 1, by go_num, hlt, by rw [HVL.out, ← HVV.out]; congr 1; omega, HQ⟩
      case measure => simp [RowKit.intOf]; omega
    · have hlt' : ¬ (k : Int) < xs.length := by omega
      have htk : xs.take k = xs := List.take_of_length_le (by omega)
      rw [htk] at hv ⊢
      have hv10 := valF_ten hv.out (by omega)
      have hsp := tn_spell (l := xs) (by intro e; rw [e] at hl1; simp at hl1)
      rw [← HS.out] at hsp
      cases ht : tnB xs with
      | true =>
        rw [ht] at hsp
        have HR := Lib.hid (tnV_yes ht)
        go_wp2_with fail
        refine (numText_spec _ w ⟨by omega, by omega⟩).mono ?_
        rintro e w1 ⟨rfl, hb1⟩
        go_wp2_with fail
        exact bodyPost_ret (v := .tuple #[.int .i64 (valF xs), .bool true]) (by simp [results, Tryd.results16, go_sem, *]) rfl ⟨congrArg Ending.returned HR.out.symm, hb1⟩
      | false =>
        rw [ht] at hsp
        have HR := Lib.hid (tnV_no ht)
        go_wp2_with fail
        refine (numText_spec _ w ⟨by omega, by omega⟩).mono ?_
        rintro e w1 ⟨rfl, hb1⟩
        go_wp2_with fail
        exact bodyPost_ret (v := .tuple #[.int .i64 0, .bool false]) (by simp [results, Tryd.results16, go_sem, *]) rfl ⟨congrArg Ending.returned HR.out.symm, hb1⟩
end Go.Proofs.YtdnpglbaggkgcaaDoor
