/- Names in order: less, equal, greater; sorted directories (plain). -/
import Derived.Test.YtndmdhmghjfckaaUa
import Derived.Lib.Bytealg
namespace Go.Proofs.Ytndmdhmghjfckaa
open Go.RowKit
set_option linter.unusedVariables false

theorem bl_cons (a b : UInt8) (x y : List UInt8) : Op.bytesLess (a :: x) (b :: y) = (decide (a < b) || (a == b && Op.bytesLess x y)) := rfl
theorem u8_tri (a b : UInt8) : (a < b ∧ ¬ b < a ∧ ¬ a = b) ∨ (¬ a < b ∧ b < a ∧ ¬ a = b) ∨ (¬ a < b ∧ ¬ b < a ∧ a = b) := by
  simp only [UInt8.lt_iff_toNat_lt, ← UInt8.toNat_inj]
  omega
theorem cb_neg : ∀ (x y : List UInt8), decide (Lib.compareBytes x y < 0) = Op.bytesLess x y
  | [], [] => rfl
  | [], _ :: _ => rfl
  | _ :: _, [] => rfl
  | a :: x, b :: y => by
    rw [bl_cons, Lib.compareBytes]
    rcases u8_tri a b with ⟨h1, h2, h3⟩ | ⟨h1, h2, h3⟩ | ⟨h1, h2, h3⟩
    · simp [h1]
    · simp [h1, h2, h3]
    · subst h3
      simp only [h1, if_false, decide_false, Bool.false_or, beq_self_eq_true, Bool.true_and]
      exact cb_neg x y
theorem bl_irr : ∀ x : List UInt8, Op.bytesLess x x = false
  | [] => rfl
  | a :: x => by
    rw [bl_cons, bl_irr x]
    rcases u8_tri a a with ⟨h1, h2, h3⟩ | ⟨h1, h2, h3⟩ | ⟨h1, h2, h3⟩ <;> simp [h1]
    all_goals exact absurd rfl h3
theorem bl_trans : ∀ x y z : List UInt8, Op.bytesLess x y = true → Op.bytesLess y z = true → Op.bytesLess x z = true
  | x, [], _, h, _ => by cases x <;> simp [Op.bytesLess] at h
  | _, _ :: _, [], _, h => by simp [Op.bytesLess] at h
  | [], _ :: _, _ :: _, _, _ => rfl
  | a :: x, b :: y, c :: z, h1, h2 => by
    rw [bl_cons] at h1 h2 ⊢
    simp only [Bool.or_eq_true, decide_eq_true_eq, Bool.and_eq_true, beq_iff_eq] at h1 h2 ⊢
    rcases h1 with h1 | ⟨rfl, h1⟩
    · rcases h2 with h2 | ⟨rfl, h2⟩
      · exact .inl (UInt8.lt_trans h1 h2)
      · exact .inl h1
    · rcases h2 with h2 | ⟨rfl, h2⟩
      · exact .inl h2
      · exact .inr ⟨rfl, bl_trans x y z h1 h2⟩
theorem bl_tri : ∀ x y : List UInt8, Op.bytesLess x y = true ∨ x = y ∨ Op.bytesLess y x = true
  | [], [] => .inr (.inl rfl)
  | [], _ :: _ => .inl rfl
  | _ :: _, [] => .inr (.inr rfl)
  | a :: x, b :: y => by
    rw [bl_cons, bl_cons]
    rcases u8_tri a b with ⟨h1, h2, h3⟩ | ⟨h1, h2, h3⟩ | ⟨h1, h2, h3⟩
    · left; simp [h1]
    · right; right; simp [h2]
    · subst h3
      rcases bl_tri x y with h | h | h
      · left; simp [h]
      · right; left; rw [h]
      · right; right; simp [h]
theorem tl_data (s : ByteArray) : s.toList = s.data.toList := by simp [ByteArray.toList_eq]
theorem tl_inj {a b : ByteArray} (h : a.toList = b.toList) : a = b := by
  rw [tl_data, tl_data] at h
  exact ByteArray.ext (Array.toList_inj.1 h)
theorem eqN_iff {a b : ByteArray} : eqN a b = true ↔ a = b := by
  unfold eqN
  rw [beq_iff_eq]
  exact ⟨tl_inj, fun h => by rw [h]⟩
theorem eqN_self (a : ByteArray) : eqN a a = true := eqN_iff.2 rfl
theorem eqN_no {a b : ByteArray} : eqN a b = false ↔ a ≠ b := by
  rw [← Bool.not_eq_true, eqN_iff]
theorem ltN_irr (a : ByteArray) : ltN a a = false := bl_irr _
theorem ltN_trans {a b c : ByteArray} (h1 : ltN a b = true) (h2 : ltN b c = true) : ltN a c = true := bl_trans _ _ _ h1 h2
theorem ltN_tri (a b : ByteArray) : ltN a b = true ∨ a = b ∨ ltN b a = true := by
  rcases bl_tri a.toList b.toList with h | h | h
  · exact .inl h
  · exact .inr (.inl (tl_inj h))
  · exact .inr (.inr h)
theorem ltN_ne {a b : ByteArray} (h : ltN a b = true) : a ≠ b := by
  rintro rfl
  rw [ltN_irr] at h
  cases h
theorem cmp_neg (a b : ByteArray) : decide (Lib.compareBytes a.data.toList b.data.toList < 0) = ltN a b := by
  rw [cb_neg, ltN, tl_data, tl_data]
/-- Names ascending, none twice. -/
def Srt (dir : List Lk) : Prop := dir.Pairwise fun a b => ltN a.1 b.1 = true
theorem Srt.get {dir : List Lk} (h : Srt dir) {i j : Nat} (hij : i < j) (hj : j < dir.length) : ltN (dir[i]'(by omega)).1 dir[j].1 = true :=
  List.pairwise_iff_getElem.1 h i j (by omega) hj hij
theorem Srt.filter {dir : List Lk} (h : Srt dir) (p : Lk → Bool) : Srt (dir.filter p) := List.Pairwise.filter p h
/-- Where a name goes. -/
def posN (dir : List Lk) (n : ByteArray) : Nat := dir.findIdx fun x => !ltN x.1 n
theorem posN_eq {dir : List Lk} {n : ByteArray} {k : Nat} (hk : k ≤ dir.length) (h1 : ∀ t (ht : t < dir.length), t < k → ltN dir[t].1 n = true) (h2 : ∀ t (ht : t < dir.length), k ≤ t → ltN dir[t].1 n = false) : posN dir n = k := by
  unfold posN
  rcases Nat.lt_or_ge k dir.length with h | h
  · exact (List.findIdx_eq h).2 ⟨by simp [h2 k h (Nat.le_refl _)], fun j hj => by simp [h1 j (by omega) hj]⟩
  · have : dir.findIdx (fun x => !ltN x.1 n) = dir.length := List.findIdx_eq_length.2 fun x hx => by
      obtain ⟨j, hj, rfl⟩ := List.getElem_of_mem hx
      simp [h1 j hj (by omega)]
    omega
theorem posN_le (dir : List Lk) (n : ByteArray) : posN dir n ≤ dir.length := List.findIdx_le_length
/-- A name put in its place, where it is not yet: as the reference puts it. -/
theorem insN_eq {n : ByteArray} {i : Int} : ∀ (dir : List Lk), Srt dir → (∀ x, x ∈ dir → x.1 ≠ n) → dir.take (posN dir n) ++ [(n, i)] ++ dir.drop (posN dir n) = withS dir n i
  | [], _, _ => rfl
  | x :: r, hs, hn => by
    have hx := hn x (List.mem_cons_self ..)
    have hr := insN_eq (n := n) (i := i) r (List.pairwise_cons.1 hs).2 fun y hy => hn y (List.mem_cons_of_mem _ hy)
    unfold posN at hr ⊢
    rw [withS, List.findIdx_cons, eqN_no.2 hx]
    cases h : ltN x.1 n with
    | true => simpa using hr
    | false => simp
theorem withS_srt {n : ByteArray} {i : Int} : ∀ (dir : List Lk), Srt dir → (∀ x, x ∈ dir → x.1 ≠ n) → Srt (withS dir n i)
  | [], _, _ => List.pairwise_singleton _ _
  | x :: r, hs, hn => by
    have hx := hn x (List.mem_cons_self ..)
    obtain ⟨h1, h2⟩ := List.pairwise_cons.1 hs
    have hr := withS_srt (n := n) (i := i) r h2 fun y hy => hn y (List.mem_cons_of_mem _ hy)
    rw [withS, eqN_no.2 hx]
    cases h : ltN x.1 n with
    | true =>
      rw [if_neg (by simp)]
      refine List.pairwise_cons.2 ⟨fun y hy => ?_, hr⟩
      have hm : ∀ (d : List Lk), y ∈ withS d n i → y = (n, i) ∨ y ∈ d := by
        intro d
        induction d with
        | nil => intro h; simpa [withS] using h
        | cons a d ih =>
          intro h
          rw [withS] at h
          split at h
          · rcases List.mem_cons.1 h with h | h
            · exact .inl h
            · exact .inr h
          · rcases List.mem_cons.1 h with h | h
            · exact .inr (List.mem_cons.2 (.inl h))
            · rcases ih h with h | h
              · exact .inl h
              · exact .inr (List.mem_cons_of_mem _ h)
      rcases hm r hy with rfl | h3
      · exact h
      · exact h1 y h3
    | false =>
      rw [if_pos (by simp)]
      have h3 : ltN n x.1 = true := by
        rcases ltN_tri n x.1 with h3 | h3 | h3
        · exact h3
        · exact absurd h3.symm hx
        · rw [h3] at h; cases h
      exact List.pairwise_cons.2 ⟨fun y hy => by
        rcases List.mem_cons.1 hy with rfl | hy
        · exact h3
        · exact ltN_trans h3 (h1 y hy), hs⟩
end Go.Proofs.Ytndmdhmghjfckaa
