/- Names and words. -/
import Derived.Test.YtndmdhmghjfckaaK0
import Derived.Test.YtndmdhmghjfckaaShelf
namespace Go.Proofs.Ytndmdhmghjfckaa
open Go.RowKit
set_option linter.unusedVariables false
set_option maxRecDepth 100000

def plainC (more : List UInt8) (b : UInt8) : Bool := decide (97 ≤ b.toNat ∧ b.toNat ≤ 122) || decide (48 ≤ b.toNat ∧ b.toNat ≤ 57) || more.contains b
def plainR (s : List UInt8) (most : Nat) (more : List UInt8) : Bool := s.all (plainC more) && decide (1 ≤ s.length ∧ s.length ≤ most)
theorem plainC_str (m : ByteArray) (x : UInt8) : plainC m.data.toList x = (decide (97 ≤ x.toNat ∧ x.toNat ≤ 122) || decide (48 ≤ x.toNat ∧ x.toNat ≤ 57) || decide (0 ≤ Lib.indexByte m.data.toList x)) := by
  unfold plainC
  congr 1
  induction m.data.toList with
  | nil => simp [Lib.indexByte]
  | cons b l ih =>
    have := Lib.indexByte_ge l x
    simp only [Lib.indexByte, List.contains_cons, ih]
    by_cases e : b = x
    · subst e; simp
    · have e1 : (b == x) = false := beq_eq_false_iff_ne.2 e
      have e2 : (x == b) = false := beq_eq_false_iff_ne.2 (fun h => e h.symm)
      simp only [e1, e2, Bool.false_or, Bool.false_eq_true, if_false]
      by_cases h : Lib.indexByte l x = -1
      · simp [h]
      · simp [h]; omega
theorem plainC_iff (m : ByteArray) (x : UInt8) : plainC m.data.toList x = true ↔ (97 ≤ x.toNat ∧ x.toNat ≤ 122) ∨ (48 ≤ x.toNat ∧ x.toNat ≤ 57) ∨ 0 ≤ Lib.indexByte m.data.toList x := by
  rw [plainC_str]; simp [or_assoc]
theorem plainC_no (x : UInt8) : plainC [] x = true ↔ (97 ≤ x.toNat ∧ x.toNat ≤ 122) ∨ (48 ≤ x.toNat ∧ x.toNat ≤ 57) := by
  simp [plainC]
theorem plainC_dot (x : UInt8) : plainC [46] x = true ↔ (97 ≤ x.toNat ∧ x.toNat ≤ 122) ∨ (48 ≤ x.toNat ∧ x.toNat ≤ 57) ∨ x.toNat = 46 := by
  simp [plainC, ← UInt8.toNat_inj, or_assoc]
theorem idx_any (m : ByteArray) (x : UInt8) (w : World) :
    Calls Try.prog 71 #[.string m, .int .u8 x.toNat] w fun e w' => ∃ r, Hid (r = Lib.indexByte m.data.toList x) ∧ e = .returned (.int .i64 r) ∧ w = w' := by
  refine (Try.strings_IndexByte m x.toNat w).mono ?_
  rintro e w' ⟨rfl, rfl⟩
  exact ⟨_, rfl, by simp, rfl⟩
set_option maxHeartbeats 1000000 in
theorem isPlain_any (s m : ByteArray) (most : Nat) (w : World) (h1 : s.data.toList.length ≤ 549755813888) :
    Calls Try.prog 55 #[.string s, .int .i64 most, .string m] w fun e w' => e = .returned (.bool (plainR s.data.toList most m.data.toList)) ∧ w = w' := by
  have hs : s.size = s.data.toList.length := rfl
  obtain ⟨xs, hxs⟩ : ∃ xs, xs = s.data.toList := ⟨_, rfl⟩
  rw [← hxs] at h1 hs ⊢
  have HX := Lib.hid hxs
  clear hxs
  go_enter Try.func55, Try.ntmps55
  go_wp2_with fail
  go_loop [11] (fun i => ∃ k : Nat, i = .int .i64 k ∧ k ≤ xs.length ∧ Hid (∀ y ∈ xs.take k, plainC m.data.toList y = true)) (fun i => xs.length - (intOf i).toNat)
  case atStart => exact ⟨0, rfl, Nat.zero_le _, by show ∀ y ∈ _, _; simp⟩
  case round =>
    obtain ⟨k, rfl, hk, hv⟩ := hrel
    by_cases hlt : k < xs.length
    · obtain ⟨x, hx⟩ : ∃ x, xs[k]? = some x := ⟨_, List.getElem?_eq_getElem hlt⟩
      have HXk := Lib.hid hx
      have hsx : s.data[k]? = some x := by rw [HX.out] at hx; simpa using hx
      clear hx
      have hlt' : (k : Int) < xs.length := by omega
      obtain rfl : s[k]'(by rw [hs]; exact hlt) = x := by
        have e := HXk.out
        rw [HX.out] at e
        exact (Array.getElem?_eq_some_iff.1 hsx).2
      have hb := u8_lt (s[k]'(by rw [hs]; exact hlt))
      go_wp2_with (go_at_call 71; refine (idx_any _ _ _).mono ?_; rintro e w' ⟨r, hr, rfl, rfl⟩)
      all_goals first
        | (go_ret
           refine ⟨ret_bool ?_, rfl⟩
           have hp : plainC m.data.toList (s[k]'(by rw [hs]; exact hlt)) = false := by rw [Bool.eq_false_iff, ne_eq, plainC_iff, ← hr.out]; first | omega | (rename_i hz; simp at hz; omega) | (rename_i hz _; simp at hz; omega)
           have hm := List.mem_of_getElem? HXk.out
           symm
           rw [plainR, Bool.and_eq_false_iff]
           left
           rw [List.all_eq_false]
           exact ⟨_, hm, by simp [hp]⟩)
        | (have hp : plainC m.data.toList (s[k]'(by rw [hs]; exact hlt)) = true := by first | (rw [plainC_iff, ← hr.out]; first | omega | (rename_i hz; simp at hz; omega) | (rename_i hz _; simp at hz; omega)) | (rw [plainC_iff]; first | omega | (rename_i hz; simp at hz; omega) | (rename_i hz _; simp at hz; omega))
           have hq : ∀ y ∈ xs.take (k + 1), plainC m.data.toList y = true := by
             intro y hy
             rw [List.take_add_one, HXk.out] at hy
             rcases List.mem_append.1 hy with h | h
             · exact hv.out y h
             · simp at h; rw [h]; exact hp
           clear hp
           go_round
           case rel => exact ⟨k + 1, by go_num, hlt, hq⟩
           case measure => simp [intOf]; omega)
    · have hlt' : ¬ (k : Int) < xs.length := by omega
      go_wp2_with (go_at_call 16; refine (within_any _ _ _ _).mono ?_; rintro e w' ⟨rfl, rfl⟩)
      go_ret
      refine ⟨ret_bool ?_, rfl⟩
      have hq := hv.out
      rw [List.take_of_length_le (by omega)] at hq
      rw [plainR, List.all_eq_true.2 hq, Bool.true_and]
      rw [Bool.eq_iff_iff]
      simp
      omega
theorem nameOk_impl (s : ByteArray) (w : World) (h1 : s.data.toList.length ≤ 549755813888) :
    Calls Try.prog 35 #[.string s] w fun e w' => e = .returned (.bool (plainR s.data.toList 16 [46])) ∧ w = w' := by
  go_enter Try.func35, Try.ntmps35
  go_wp2_with (go_at_call 55; refine (isPlain_any _ _ 16 _ h1).mono ?_; rintro e w' ⟨rfl, rfl⟩)
  go_ret
  exact ⟨rfl, rfl⟩
set_option maxHeartbeats 1000000 in
theorem nameOk_spec (s : ByteArray) (w : World) (h1 : s.data.toList.length ≤ 549755813888) :
    Calls Try.prog 58 #[.string s] w fun e w' => e = .returned (.bool (plainR s.data.toList 16 [46])) ∧ w = w' := by
  have hs : s.size = s.data.toList.length := rfl
  obtain ⟨xs, hxs⟩ : ∃ xs, xs = s.data.toList := ⟨_, rfl⟩
  rw [← hxs] at h1 hs ⊢
  have HX := Lib.hid hxs
  clear hxs
  go_enter Try.func58, Try.ntmps58
  go_wp2_with fail
  go_loop [3] (fun i => ∃ k : Nat, i = .int .i64 k ∧ k ≤ xs.length ∧ Hid (∀ y ∈ xs.take k, plainC [46] y = true)) (fun i => xs.length - (intOf i).toNat)
  case atStart => exact ⟨0, rfl, Nat.zero_le _, by show ∀ y ∈ _, _; simp⟩
  case round =>
    obtain ⟨k, rfl, hk, hv⟩ := hrel
    by_cases hlt : k < xs.length
    · obtain ⟨x, hx⟩ : ∃ x, xs[k]? = some x := ⟨_, List.getElem?_eq_getElem hlt⟩
      have HXk := Lib.hid hx
      have hsx : s.data[k]? = some x := by rw [HX.out] at hx; simpa using hx
      clear hx
      have hlt' : (k : Int) < xs.length := by omega
      obtain rfl : s[k]'(by rw [hs]; exact hlt) = x := by
        have e := HXk.out
        rw [HX.out] at e
        exact (Array.getElem?_eq_some_iff.1 hsx).2
      have hb := u8_lt (s[k]'(by rw [hs]; exact hlt))
      have hcase : ((s[k]'(by rw [hs]; exact hlt)).toNat = 46 ∧ (((s[k]'(by rw [hs]; exact hlt)).toNat : Int) == 46) = true) ∨ ((s[k]'(by rw [hs]; exact hlt)).toNat ≠ 46 ∧ (((s[k]'(by rw [hs]; exact hlt)).toNat : Int) == 46) = false) := by
        rcases Decidable.em ((s[k]'(by rw [hs]; exact hlt)).toNat = 46) with h | h
        · exact .inl ⟨h, by simp [h]⟩
        · exact .inr ⟨h, by simp; omega⟩
      rcases hcase with ⟨hd1, hd2⟩ | ⟨hd1, hd2⟩ <;> go_wp2_with fail
      all_goals first
        | (go_ret
           refine ⟨ret_bool ?_, rfl⟩
           have hp : plainC [46] (s[k]'(by rw [hs]; exact hlt)) = false := by rw [Bool.eq_false_iff, ne_eq, plainC_dot]; first | omega | (rename_i hz; simp at hz; omega) | (rename_i hz _; simp at hz; omega)
           have hm := List.mem_of_getElem? HXk.out
           symm
           rw [plainR, Bool.and_eq_false_iff]
           left
           rw [List.all_eq_false]
           exact ⟨_, hm, by simp [hp]⟩)
        | (have hp : plainC [46] (s[k]'(by rw [hs]; exact hlt)) = true := by rw [plainC_dot]; first | omega | (rename_i hz; simp at hz; omega) | (rename_i hz _; simp at hz; omega)
           have hq : ∀ y ∈ xs.take (k + 1), plainC [46] y = true := by
             intro y hy
             rw [List.take_add_one, HXk.out] at hy
             rcases List.mem_append.1 hy with h | h
             · exact hv.out y h
             · simp at h; rw [h]; exact hp
           clear hp
           go_round
           case rel => exact ⟨k + 1, by go_num, hlt, hq⟩
           case measure => simp [intOf]; omega)
    · have hlt' : ¬ (k : Int) < xs.length := by omega
      go_wp2_with fail
      all_goals
        go_ret
        refine ⟨ret_bool ?_, rfl⟩
        have hq := hv.out
        rw [List.take_of_length_le (by omega)] at hq
        rw [plainR, List.all_eq_true.2 hq, Bool.true_and]
        rw [Bool.eq_iff_iff]
        simp
        try omega
end Go.Proofs.Ytndmdhmghjfckaa
