/- The newest snapshot of a disk, plainly. -/
import Derived.Test.YtpaeffmjkkikbaaGreatDoorT8
import Derived.Test.YtpaeffmjkkikbaaGreatDoorPf
import Derived.Test.YtpaeffmjkkikbaaGreatDoorPl
import Derived.Test.YtpaeffmjkkikbaaGreatDoorKf
namespace Go.Proofs.YtpaeffmjkkikbaaGreatDoor
open Go.RowKit
set_option linter.unusedVariables false
set_option maxRecDepth 100000

theorem srR_gen {xs : List UInt8} {n m k : Int} {us : List UInt8} (h : srR xs = (n, m, us, k)) : (k = 0 → (1 ≤ n ∧ n ≤ 1000000000) ∧ 1 ≤ m ∧ m ≤ 1000000000) ∧ us.length ≤ xs.length := by
  unfold srR at h
  split at h
  · simp only [Prod.mk.injEq] at h
    obtain ⟨rfl, rfl, rfl, rfl⟩ := h
    exact ⟨fun h => absurd h (by decide), by simp⟩
  · unfold srB at h
    split at h
    · unfold srT at h
      split at h
      · simp only [Prod.mk.injEq] at h
        obtain ⟨rfl, rfl, rfl, rfl⟩ := h
        exact ⟨fun h => absurd h (by decide), by simp⟩
      · rename_i h1
        split at h
        · simp only [Prod.mk.injEq] at h
          obtain ⟨rfl, rfl, rfl, rfl⟩ := h
          exact ⟨fun h => absurd h (by decide), by simp⟩
        · simp only [Prod.mk.injEq] at h
          obtain ⟨rfl, rfl, rfl, rfl⟩ := h
          simp only [not_or, Decidable.not_not] at h1
          exact ⟨fun _ => by omega, by simp⟩
    · simp only [Prod.mk.injEq] at h
      obtain ⟨rfl, rfl, rfl, rfl⟩ := h
      exact ⟨fun h => absurd h (by decide), by simp⟩
/-- One file more: the best so far, its number, its data. -/
def nwStep (R : ByteArray → List UInt8) (a : Int × Int × List UInt8) (l : Lk) : Int × Int × List UInt8 :=
  if (srR (R l.1)).2.2.2 = 0 ∧ bstr (nmL snapS (srR (R l.1)).1) = l.1 ∧ a.1 < (srR (R l.1)).1 then ((srR (R l.1)).1, (srR (R l.1)).2.1, (srR (R l.1)).2.2.1) else a
theorem nw_is {R : ByteArray → List UInt8} {a : Int × Int × List UInt8} {l : Lk} {n m k : Int} {us : List UInt8} (h : srR (R l.1) = (n, m, us, k)) : nwStep R a l = if k = 0 ∧ bstr (nmL snapS n) = l.1 ∧ a.1 < n then (n, m, us) else a := by
  rw [nwStep, h]
theorem bstr_eq {a b : List UInt8} (h : bstr a = bstr b) : a = b := by rw [← bstr_tl a, h, bstr_tl]
theorem gok_snap {n : Int} (h : 1 ≤ n ∧ n ≤ 1000000000) : gok (nmL snapS n) n.toNat ∧ ((n.toNat : Nat) : Int) = n := by
  obtain ⟨k, rfl⟩ : ∃ k : Nat, n = k := ⟨n.toNat, by omega⟩
  refine ⟨⟨by omega, by omega, .inl ?_⟩, by omega⟩
  rw [nm_nat, if_pos (by omega)]
  simp
theorem nw_skip {R : ByteArray → List UInt8} {a : Int × Int × List UInt8} {l : Lk} {xs : List UInt8} (hx : l.1 = bstr xs) (h : (∀ n, ¬ gok xs n) ∨ ∃ n : Nat, gok xs n ∧ (xs ≠ nmL snapS n ∨ (n : Int) ≤ a.1)) : nwStep R a l = a := by
  obtain ⟨⟨g, s, us, k⟩, hr⟩ : ∃ r, srR (R l.1) = r := ⟨_, rfl⟩
  rw [nw_is hr]
  refine if_neg ?_
  rintro ⟨h0, h1, h2⟩
  have h3 := (srR_gen hr).1 h0
  rw [hx] at h1
  have h4 := bstr_eq h1
  obtain ⟨h5, h6⟩ := gok_snap h3.1
  rw [h4] at h5
  rcases h with h | ⟨n, hn, h⟩
  · exact h _ h5
  · have h7 := gok_uniq hn h5
    have h8 : (n : Int) = g := by rw [h7, h6]
    rcases h with h | h
    · exact h (by rw [h8, h4])
    · omega
theorem nw_take {R : ByteArray → List UInt8} {a : Int × Int × List UInt8} {l : Lk} {xs : List UInt8} {n : Nat} (hx : l.1 = bstr xs) (hn : gok xs n) (hs : xs = nmL snapS n) (hb : a.1 < n) {g s k : Int} {us : List UInt8} (hr : srR (R l.1) = (g, s, us, k)) : nwStep R a l = if k = 0 ∧ g = n then (g, s, us) else a := by
  rw [nw_is hr]
  by_cases hk : k = 0
  · have h3 := (srR_gen hr).1 hk
    by_cases hg : g = n
    · rw [if_pos (⟨hk, by rw [hx, hg, ← hs], by omega⟩ : k = 0 ∧ bstr (nmL snapS g) = l.1 ∧ a.1 < g), if_pos (⟨hk, hg⟩ : k = 0 ∧ g = n)]
    · rw [show (if k = 0 ∧ g = n then (g, s, us) else a) = a from if_neg fun h => hg h.2]
      refine if_neg ?_
      rintro ⟨_, h1, _⟩
      rw [hx] at h1
      have h4 := bstr_eq h1
      obtain ⟨h5, h6⟩ := gok_snap h3.1
      rw [h4] at h5
      have h7 := gok_uniq hn h5
      exact hg (by rw [h7, h6])
  · rw [if_neg (fun h => hk h.1), if_neg (fun h => hk h.1)]
/-- The newest of a directory's. -/
def nwR (R : ByteArray → List UInt8) (dir : List Lk) : Int × Int × List UInt8 := dir.foldl (nwStep R) (0, 0, [])
theorem nwR_succ (R : ByteArray → List UInt8) (dir : List Lk) (j : Nat) (hj : j < dir.length) : nwR R (dir.take (j + 1)) = nwStep R (nwR R (dir.take j)) dir[j] := by
  rw [take_succ_get (List.getElem?_eq_getElem hj), nwR, List.foldl_append]
  rfl
theorem nwStep_bd (R : ByteArray → List UInt8) (N : Nat) (hR : ∀ nm, (R nm).length ≤ N) (a : Int × Int × List UInt8) (l : Lk) (h : (0 ≤ a.1 ∧ a.1 ≤ 1000000000) ∧ (0 ≤ a.2.1 ∧ a.2.1 ≤ 1000000000) ∧ a.2.2.length ≤ N ∧ (a.1 = 0 → a.2.1 = 0 ∧ a.2.2 = [])) :
    (0 ≤ (nwStep R a l).1 ∧ (nwStep R a l).1 ≤ 1000000000) ∧ (0 ≤ (nwStep R a l).2.1 ∧ (nwStep R a l).2.1 ≤ 1000000000) ∧ (nwStep R a l).2.2.length ≤ N ∧ ((nwStep R a l).1 = 0 → (nwStep R a l).2.1 = 0 ∧ (nwStep R a l).2.2 = []) := by
  obtain ⟨⟨g, s, us, k⟩, hr⟩ : ∃ r, srR (R l.1) = r := ⟨_, rfl⟩
  rw [nw_is hr]
  split
  · rename_i h1
    obtain ⟨h2, h3⟩ := srR_gen hr
    have h4 := h2 h1.1
    have h5 := hR l.1
    exact ⟨by show 0 ≤ g ∧ g ≤ 1000000000; omega, by show 0 ≤ s ∧ s ≤ 1000000000; omega, Nat.le_trans h3 h5, fun h => by have : g = 0 := h; omega⟩
  · exact h
theorem nwR_bd (R : ByteArray → List UInt8) (N : Nat) (hR : ∀ nm, (R nm).length ≤ N) : ∀ (dir : List Lk) (a : Int × Int × List UInt8) (h : (0 ≤ a.1 ∧ a.1 ≤ 1000000000) ∧ (0 ≤ a.2.1 ∧ a.2.1 ≤ 1000000000) ∧ a.2.2.length ≤ N ∧ (a.1 = 0 → a.2.1 = 0 ∧ a.2.2 = [])),
    (0 ≤ (dir.foldl (nwStep R) a).1 ∧ (dir.foldl (nwStep R) a).1 ≤ 1000000000) ∧ (0 ≤ (dir.foldl (nwStep R) a).2.1 ∧ (dir.foldl (nwStep R) a).2.1 ≤ 1000000000) ∧ (dir.foldl (nwStep R) a).2.2.length ≤ N ∧ ((dir.foldl (nwStep R) a).1 = 0 → (dir.foldl (nwStep R) a).2.1 = 0 ∧ (dir.foldl (nwStep R) a).2.2 = [])
  | [], a, h => h
  | x :: r, a, h => nwR_bd R N hR r _ (nwStep_bd R N hR a x h)
theorem turn_nm {dir : List Lk} {t : Tn} (ht : fieldB t = true) (hd : ∀ x, x ∈ dir → nmB x.1 = true) {x : Lk} (hx : x ∈ turnS dir t) : nmB x.1 = true := by
  unfold turnS at hx
  unfold fieldB at ht
  split at hx
  · rename_i h1
    rw [if_pos h1] at ht
    rcases mem_withS dir hx with rfl | hx
    · exact (Bool.and_eq_true_iff.1 ht).1
    · exact hd x hx
  · rename_i h1
    rw [if_neg h1] at ht
    split at hx
    · rename_i h4
      rw [if_pos h4] at ht
      rcases mem_withS _ hx with rfl | hx
      · exact (Bool.and_eq_true_iff.1 (Bool.and_eq_true_iff.1 ht).1).2
      · exact hd x (List.mem_filter.1 (List.mem_filter.1 hx).1).1
    · exact hd x (List.mem_filter.1 hx).1
theorem dir_nm : ∀ (ts : List Tn) (ks : List Lk), runI ks ts = true → (∀ x, x ∈ ks → nmB x.1 = true) → ∀ x, x ∈ dirS ks ts → nmB x.1 = true
  | [], ks, _, hk, x, hx => hk x hx
  | t :: r, ks, h, hk, x, hx => by
    rw [runI] at h
    simp only [Bool.and_eq_true] at h
    exact dir_nm r (turnS ks t) h.2 (fun y hy => turn_nm h.1.1 hk hy) x hx
theorem kB_nm : ∀ (ks : List Lk) (p : ByteArray), kB p ks = true → ∀ x, x ∈ ks → nmB x.1 = true
  | [], _, _, x, hx => by simp at hx
  | y :: r, p, h, x, hx => by
    rw [kB] at h
    simp only [Bool.and_eq_true] at h
    rcases List.mem_cons.1 hx with rfl | hx
    · exact h.1.1
    · exact kB_nm r _ h.2 x hx
/-- Names of a valid disk's directory are short. -/
theorem dir_short {r f n : Int} {fs : List (Int × List UInt8 × Int)} {u : Nat} {ks : List Lk} {ts : List Tn} : ∀ x, x ∈ dirV r f n fs u ks ts → x.1.data.toList.length ≤ 16 := by
  intro x hx
  unfold dirV at hx
  split at hx
  · rename_i h
    rw [dk_eq, linkB] at h
    simp only [Bool.and_eq_true] at h
    have := dir_nm ts ks h.2.1.2 (kB_nm ks _ h.2.1.1.2) x hx
    unfold nmB plainR at this
    have := of_decide_eq_true (Bool.and_eq_true_iff.1 this).2
    omega
  · simp at hx
/-- What a name reads of a disk. -/
def bodV (r f n : Int) (cs : List (Int × List UInt8 × Int)) (u : Nat) (ks : List Lk) (ts : List Tn) (nm : ByteArray) : List UInt8 := (readV r f n cs u ks ts nm).getD []
/-- The newest snapshot of a disk. -/
def nwV (r f n : Int) (cs : List (Int × List UInt8 × Int)) (u : Nat) (ks : List Lk) (ts : List Tn) : Int × Int × List UInt8 := nwR (bodV r f n cs u ks ts) (dirV r f n cs u ks ts)
theorem bodV_len (r f n : Int) (es : List Fl) (u : Nat) (ks : List Lk) (ts : List Tn) (nm : ByteArray) (hey : ∀ e, e ∈ es → e.2.1.2.2.length ≤ 1048576) : (bodV r f n (es.map fc) u ks ts nm).length ≤ 1048576 := by
  unfold bodV readV
  split
  · cases hx : (es.map fc)[(es.map fc).findIdx fun x => x.1 == findS (dirS ks ts) nm]? with
    | none => simp
    | some y =>
      obtain ⟨z, hz, rfl⟩ := List.mem_map.1 (List.mem_of_getElem? hx)
      exact hey z hz
  · simp
theorem nwV_bd (r f n : Int) (es : List Fl) (u : Nat) (ks : List Lk) (ts : List Tn) (hey : ∀ e, e ∈ es → e.2.1.2.2.length ≤ 1048576) : (0 ≤ (nwV r f n (es.map fc) u ks ts).1 ∧ (nwV r f n (es.map fc) u ks ts).1 ≤ 1000000000) ∧ (0 ≤ (nwV r f n (es.map fc) u ks ts).2.1 ∧ (nwV r f n (es.map fc) u ks ts).2.1 ≤ 1000000000) ∧ (nwV r f n (es.map fc) u ks ts).2.2.length ≤ 1048576 ∧ ((nwV r f n (es.map fc) u ks ts).1 = 0 → (nwV r f n (es.map fc) u ks ts).2.1 = 0 ∧ (nwV r f n (es.map fc) u ks ts).2.2 = []) :=
  nwR_bd _ _ (fun nm => bodV_len r f n es u ks ts nm hey) _ _ ⟨by decide, by decide, by simp, fun _ => ⟨rfl, rfl⟩⟩
/-- A number, a number, bytes of the caller's own. -/
def NwPost (w : World) (r : Int × Int × List UInt8) (e : Ending) (w' : World) : Prop :=
  ∃ n m A' c' us, Hid (r = (n, m, us)) ∧ e = .returned (.tuple #[.int .i64 n, .int .i64 m, .slice A' us.length c']) ∧ Ob w' w.heap.size A' c' us ∧ Below w.heap.size w w'
end Go.Proofs.YtpaeffmjkkikbaaGreatDoor
