/- What a directory links are files of the disk (plain). -/
import Derived.Test.YtndmdhmghjfckaaVe
import Derived.Test.YtndmdhmghjfckaaJc
namespace Go.Proofs.Ytndmdhmghjfckaa
open Go.RowKit
set_option linter.unusedVariables false

theorem findS_mem {n : ByteArray} : ∀ (dir : List Lk), hasN dir n = true → ∃ x, x ∈ dir ∧ x.2 = findS dir n
  | [], h => by simp [hasN] at h
  | x :: r, h => by
    rw [findS]
    cases hx : eqN x.1 n with
    | true => exact ⟨x, List.mem_cons_self .., by rw [if_pos rfl]⟩
    | false =>
      rw [hasN, List.any_cons, hx, Bool.false_or] at h
      obtain ⟨y, hy, he⟩ := findS_mem r h
      exact ⟨y, List.mem_cons_of_mem _ hy, by rw [if_neg (by simp)]; exact he⟩
theorem turn_mem {dir : List Lk} {t : Tn} (ho : okI dir t = true) {x : Lk} (hx : x ∈ turnS dir t) : (∃ y, y ∈ dir ∧ y.2 = x.2) ∨ t.1 = 1 ∧ x.2 = t.2.2.2 := by
  unfold turnS at hx
  split at hx
  · rename_i h1
    rcases mem_withS dir hx with rfl | hx
    · exact .inr ⟨h1, rfl⟩
    · exact .inl ⟨x, hx, rfl⟩
  · rename_i h1
    split at hx
    · rcases mem_withS _ hx with rfl | hx
      · rw [okI, if_neg h1] at ho
        exact .inl (findS_mem dir (Bool.and_eq_true_iff.1 ho).1)
      · exact .inl ⟨x, (List.mem_filter.1 (List.mem_filter.1 hx).1).1, rfl⟩
    · exact .inl ⟨x, (List.mem_filter.1 hx).1, rfl⟩
theorem dir_mem : ∀ (ts : List Tn) (ks : List Lk), runI ks ts = true → ∀ x, x ∈ dirS ks ts → x.2 ∈ idsOf ks ts
  | [], ks, _, x, hx => List.mem_append_left _ (List.mem_map.2 ⟨x, hx, rfl⟩)
  | t :: r, ks, h, x, hx => by
    rw [runI] at h
    simp only [Bool.and_eq_true] at h
    have h1 := dir_mem r (turnS ks t) h.2 x hx
    rcases List.mem_append.1 h1 with h2 | h2
    · obtain ⟨y, hy, he⟩ := List.mem_map.1 h2
      rcases turn_mem h.1.2 hy with ⟨z, hz, hz2⟩ | ⟨h3, h4⟩
      · exact List.mem_append_left _ (List.mem_map.2 ⟨z, hz, hz2.trans he⟩)
      · refine List.mem_append_right _ ?_
        rw [mkIds, List.filter_cons, if_pos (by simpa using h3), List.map_cons]
        rw [← he, h4]
        exact List.mem_cons_self ..
    · refine List.mem_append_right _ ?_
      rw [mkIds, List.filter_cons]
      split
      · exact List.mem_cons_of_mem _ h2
      · exact h2
/-- Of a valid disk: each link's Id is a file's, and above zero. -/
theorem dir_files {r f n : Int} {fs : List (Int × List UInt8 × Int)} {u : Nat} {ks : List Lk} {ts : List Tn} (h : dkB r f n fs u ks ts = true) (j : Nat) : ∀ x, x ∈ dirS ks (ts.take j) → x.2 ∈ fs.map (fun y => y.1) ∧ 1 ≤ x.2 := by
  have h0 := h
  rw [dkB] at h
  simp only [Bool.and_eq_true] at h
  obtain ⟨⟨⟨⟨_, h2⟩, _⟩, h4⟩, _⟩ := h
  have hr : runI ks ts = true := by
    rw [dk_eq, linkB] at h0
    simp only [Bool.and_eq_true, decide_eq_true_eq] at h0
    exact h0.2.1.2
  have hrj : ∀ (ts : List Tn) (ks : List Lk) (j : Nat), runI ks ts = true → runI ks (ts.take j) = true := by
    intro ts
    induction ts with
    | nil => intro ks j _; simp [runI]
    | cons t r ih =>
      intro ks j h
      cases j with
      | zero => rfl
      | succ j =>
        rw [runI] at h
        simp only [Bool.and_eq_true] at h
        rw [List.take_succ_cons, runI, h.1.1, h.1.2, ih _ j h.2]
        rfl
  intro x hx
  have h5 := dir_mem (ts.take j) ks (hrj ts ks j hr) x hx
  have h6 : x.2 ∈ idsOf ks ts := by
    rcases List.mem_append.1 h5 with h7 | h7
    · exact List.mem_append_left _ h7
    · refine List.mem_append_right _ ?_
      obtain ⟨t, ht, he⟩ := List.mem_map.1 h7
      obtain ⟨ht1, ht2⟩ := List.mem_filter.1 ht
      exact List.mem_map.2 ⟨t, List.mem_filter.2 ⟨List.mem_of_mem_take ht1, ht2⟩, he⟩
  rw [idB] at h4
  have h7 := of_decide_eq_true (List.all_eq_true.1 (Bool.and_eq_true_iff.1 h4).2 _ h6)
  refine ⟨h7, ?_⟩
  obtain ⟨y, hy, he⟩ := List.mem_map.1 h7
  have := ((fB_asc n fs 0 h2).1 y hy).2
  omega
end Go.Proofs.Ytndmdhmghjfckaa
