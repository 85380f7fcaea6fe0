/- A disk is valid: the program's way says what the reference's says. -/
import Derived.Test.YtfkdifgmhfdbdaaGreatDoorIa
namespace Go.Proofs.YtfkdifgmhfdbdaaGreatDoor
open Go.RowKit
set_option linter.unusedVariables false
set_option maxRecDepth 100000

theorem fB_asc : ∀ (n : Int) (l : List (Int × List UInt8 × Int)) (p : Int), fB n p l = true → (∀ x, x ∈ l → p < x.1 ∧ 1 ≤ x.1) ∧ (l.map fun x => x.1).Pairwise (· < ·)
  | _, [], _, _ => ⟨fun x hx => by simp at hx, List.Pairwise.nil⟩
  | n, y :: r, p, h => by
    rw [fB] at h
    simp only [Bool.and_eq_true, decide_eq_true_eq] at h
    obtain ⟨⟨h1, h2, h3, h4, h5⟩, h6⟩ := h
    obtain ⟨i1, i2⟩ := fB_asc n r y.1 h6
    refine ⟨fun x hx => ?_, List.pairwise_cons.2 ⟨fun z hz => ?_, i2⟩⟩
    · rcases List.mem_cons.1 hx with rfl | hx
      · exact ⟨h3, h1⟩
      · have := i1 x hx; omega
    · obtain ⟨x, hx, rfl⟩ := List.mem_map.1 hz
      exact (i1 x hx).1
theorem asc_nodup {l : List Int} (h : l.Pairwise (· < ·)) : l.Nodup := h.imp fun hab => by omega
theorem srt_eq {ids fids : List Int} (h : fids.Pairwise (· < ·)) : decide (srtI ids = fids) = idB ids fids := by
  have hnd := asc_nodup h
  have hp : (srtI ids).Perm ids := List.mergeSort_perm ids _
  rw [Bool.eq_iff_iff, decide_eq_true_eq, idB]
  simp only [Bool.and_eq_true, decide_eq_true_eq, List.all_eq_true]
  constructor
  · rintro rfl
    exact ⟨⟨hp.length_eq.symm, hp.nodup hnd⟩, fun n hn => hp.symm.mem_iff.1 hn⟩
  · rintro ⟨⟨h1, h2⟩, h3⟩
    have hsub : ∀ a, a ∈ fids → a ∈ ids := fun a ha => by
      by_cases h4 : a ∈ ids
      · exact h4
      · have h5 : (a :: ids).Nodup := List.nodup_cons.2 ⟨h4, h2⟩
        have h6 := List.Nodup.length_le_of_subset h5 (l₂ := fids) fun x hx => by
          rcases List.mem_cons.1 hx with rfl | hx
          · exact ha
          · exact h3 x hx
        rw [List.length_cons] at h6
        omega
    have hpf : ids.Perm fids := (List.perm_ext_iff_of_nodup h2 hnd).2 fun a => ⟨fun ha => h3 a ha, fun ha => hsub a ha⟩
    have hs : (srtI ids).Pairwise fun x y => decide (x ≤ y) = true := List.pairwise_mergeSort (le := fun x y => decide (x ≤ y)) (fun a b c h1 h2 => by simp at h1 h2 ⊢; omega) (fun a b => by simp; omega) ids
    exact List.Perm.eq_of_pairwise (le := fun x y => decide (x ≤ y) = true) (fun a b _ _ h1 h2 => by simp at h1 h2; omega) hs (h.imp fun hab => by simp; omega) (hp.trans hpf)
def PosI (dir : List Lk) : Prop := ∀ x, x ∈ dir → 0 < x.2
theorem find_pos {n : ByteArray} : ∀ (dir : List Lk), PosI dir → decide (0 < findS dir n) = hasN dir n
  | [], _ => rfl
  | x :: r, h => by
    have hr := find_pos (n := n) r fun y hy => h y (List.mem_cons_of_mem _ hy)
    rw [findS, hasN, List.any_cons]
    cases hx : eqN x.1 n with
    | true => simpa using h x (List.mem_cons_self ..)
    | false => rw [if_neg (by simp), hr]; rfl
theorem mem_withS {n : ByteArray} {i : Int} {y : Lk} : ∀ (d : List Lk), y ∈ withS d n i → y = (n, i) ∨ y ∈ d
  | [], h => by simpa [withS] using h
  | a :: d, h => by
    rw [withS] at h
    split at h
    · rcases List.mem_cons.1 h with h | h
      · exact .inl h
      · exact .inr h
    · rcases List.mem_cons.1 h with h | h
      · exact .inr (List.mem_cons.2 (.inl h))
      · rcases mem_withS d h with h | h
        · exact .inl h
        · exact .inr (List.mem_cons_of_mem _ h)
theorem turn_ok {dir : List Lk} {t : Tn} (hp : PosI dir) (ht : t.1 = 1 → 0 < t.2.2.2) : okS dir t = (fieldB t && okI dir t) := by
  obtain ⟨k, s, u, i⟩ := t
  have hf := find_pos (n := s) dir hp
  dsimp only at ht
  unfold okS fieldB okI
  dsimp only
  rw [hf]
  by_cases h1 : k = 1
  · have hi : decide (0 < i) = true := decide_eq_true (ht h1)
    simp only [if_pos h1, hi]
    cases nmB s <;> cases noB u <;> cases hasN dir s <;> rfl
  · by_cases h4 : k = 4
    · subst h4
      simp only [if_neg h1]
      cases nmB s <;> cases nmB u <;> cases decide (i = 0) <;> cases hasN dir s <;> cases eqN u s <;> rfl
    · by_cases h5 : k = 5
      · subst h5
        simp only [if_neg h1, if_neg h4]
        cases nmB s <;> cases noB u <;> cases decide (i = 0) <;> cases hasN dir s <;> simp
      · simp only [if_neg h1, if_neg h4, if_neg h5]
        cases nmB s <;> rfl
theorem turn_pos {dir : List Lk} {t : Tn} (hp : PosI dir) (ht : t.1 = 1 → 0 < t.2.2.2) (ho : okI dir t = true) : PosI (turnS dir t) := by
  unfold turnS
  split
  · rename_i h1
    intro x hx
    rcases mem_withS dir hx with rfl | hx
    · exact ht h1
    · exact hp x hx
  · rename_i h1
    split
    · intro x hx
      rcases mem_withS _ hx with rfl | hx
      · rw [okI, if_neg h1] at ho
        have := find_pos (n := t.2.1) dir hp
        rw [(Bool.and_eq_true_iff.1 ho).1] at this
        exact of_decide_eq_true this
      · exact hp x (List.mem_filter.1 (List.mem_filter.1 hx).1).1
    · intro x hx
      exact hp x (List.mem_filter.1 hx).1
theorem run_eq : ∀ (ts : List Tn) (dir : List Lk), PosI dir → (∀ t, t ∈ ts → t.1 = 1 → 0 < t.2.2.2) → runS dir ts = runI dir ts
  | [], _, _, _ => rfl
  | t :: r, dir, hp, ht => by
    have h1 := ht t (List.mem_cons_self ..)
    rw [runS, runI, turn_ok hp h1]
    cases hf : fieldB t with
    | false => rfl
    | true =>
      cases ho : okI dir t with
      | false => rfl
      | true => rw [run_eq r _ (turn_pos hp h1 ho) fun x hx => ht x (List.mem_cons_of_mem _ hx)]
theorem dk_eq (r f n : Int) (fs : List (Int × List UInt8 × Int)) (u : Nat) (ks : List Lk) (ts : List Tn) :
    dkB r f n fs u ks ts = (decide (0 ≤ r ∧ r ≤ 400000) && decide (-1 ≤ f ∧ f ≤ 1000) && decide (1 ≤ n ∧ n ≤ 1000000) && (fB n 0 fs && decide ((fs.length : Int) ≤ 10) && decide ((u : Int) ≤ r)) && linkB ks ts (fs.map fun x => x.1)) := by
  have h0 : numB r f n fs.length ks.length ts.length u = (decide (0 ≤ r ∧ r ≤ 400000) && decide (-1 ≤ f ∧ f ≤ 1000) && decide (1 ≤ n ∧ n ≤ 1000000) && decide ((fs.length : Int) ≤ 10) && decide ((u : Int) ≤ r) && decide ((ts.length : Int) ≤ 30) && decide ((ks.length : Int) ≤ 10)) := by
    rw [Bool.eq_iff_iff, numB]
    simp only [Bool.and_eq_true, decide_eq_true_eq]
    omega
  rw [dkB, h0, linkB]
  cases hf : fB n 0 fs with
  | false => simp
  | true =>
    obtain ⟨h1, h2⟩ := fB_asc n fs 0 hf
    rw [srt_eq h2]
    cases hi : idB (idsOf ks ts) (fs.map fun x => x.1) with
    | false => simp
    | true =>
      have hall : ∀ z, z ∈ idsOf ks ts → 0 < z := fun z hz => by
        rw [idB] at hi
        have h3 := (List.all_eq_true.1 (Bool.and_eq_true_iff.1 hi).2 z hz)
        obtain ⟨x, hx, rfl⟩ := List.mem_map.1 (of_decide_eq_true h3)
        have := (h1 x hx).2
        omega
      have hpk : PosI ks := fun x hx => hall _ (List.mem_append_left _ (List.mem_map.2 ⟨x, hx, rfl⟩))
      have hpt : ∀ t, t ∈ ts → t.1 = 1 → 0 < t.2.2.2 := fun t ht h4 => hall _ (List.mem_append_right _ (List.mem_map.2 ⟨t, List.mem_filter.2 ⟨ht, by simpa using h4⟩, rfl⟩))
      rw [run_eq ts ks hpk hpt]
      cases decide (0 ≤ r ∧ r ≤ 400000) <;> cases decide (-1 ≤ f ∧ f ≤ 1000) <;> cases decide (1 ≤ n ∧ n ≤ 1000000) <;> cases decide ((fs.length : Int) ≤ 10) <;> cases decide ((u : Int) ≤ r) <;> cases decide ((ts.length : Int) ≤ 30) <;> cases decide ((ks.length : Int) ≤ 10) <;> cases kB ByteArray.empty ks <;> cases runI ks ts <;> rfl
end Go.Proofs.YtfkdifgmhfdbdaaGreatDoor
