/- A journal, whole, torn and with a changed byte (plain law). -/
import Derived.Test.YtbaojeiinjjlcaaJ2
namespace Go.Proofs.Ytbaojeiinjjlcaa
set_option linter.unusedVariables false

theorem gvGo_app (t : List UInt8) : ∀ (l : List UInt8) (i acc : Nat) (r : Nat × Nat), gvGo i acc l = some r → gvGo i acc (l ++ t) = some r
  | [], i, acc, r, h => by simp [gvGo] at h
  | x :: l, i, acc, r, h => by
    rw [List.cons_append]
    unfold gvGo at h ⊢
    split at h
    · rename_i hc
      rw [if_pos hc]
      exact gvGo_app t l _ _ r h
    · rename_i hc
      rw [if_neg hc]
      exact h
/-- A number that is read is read too with more bytes behind. -/
theorem gvAt_app {xs : List UInt8} {z n p : Int} (t : List UInt8) (h : gvAt xs z = (n, p, true)) : gvAt (xs ++ t) z = (n, p, true) := by
  unfold gvAt at h ⊢
  by_cases hz : 0 ≤ z ∧ z ≤ xs.length
  · rw [if_pos hz] at h
    rw [if_pos ⟨hz.1, by rw [List.length_append]; omega⟩, List.drop_append_of_le_length (by omega)]
    cases hg : gv (xs.drop z.toNat) with
    | none => rw [hg] at h; simp at h
    | some r =>
      rw [hg] at h
      have hg' : gv (xs.drop z.toNat ++ t) = some r := gvGo_app t _ _ _ _ hg
      rw [hg']
      exact h
  · rw [if_neg hz] at h
    simp at h
/-- A torn frame is none. -/
theorem frR_torn {s : Int} {d : List UInt8} (hg : frGood s d) (pre : List UInt8) {j : Nat} (hj : j < (frameB s d).length) {xs : List UInt8} (hx : xs = pre ++ (frameB s d).take j) : (frR xs pre.length).2.2.2 ≠ 0 := by
  intro h0
  have hfull : xs ++ (frameB s d).drop j = pre ++ (frameB s d ++ []) := by rw [hx, List.append_assoc, List.take_append_drop, List.append_nil]
  have hF := frR_frame hg pre [] hfull
  have hl : xs.length = pre.length + j := by rw [hx, List.length_append, List.length_take]; omega
  have hl2 : (xs ++ (frameB s d).drop j).length = pre.length + (frameB s d).length := by rw [hfull]; simp
  by_cases hmk : xs[pre.length]? = some 167
  case neg => rw [frR_mark (by omega) hmk] at h0; simp at h0
  by_cases hall : (gvAt xs (pre.length + 1)).2.2 = true ∧ (gvAt xs (gvAt xs (pre.length + 1)).2.1).2.2 = true ∧ (gvAt xs (gvAt xs (gvAt xs (pre.length + 1)).2.1).2.1).2.2 = true
  case neg => rw [frR_no2 hmk hall] at h0; simp at h0
  obtain ⟨t1, t2, t3⟩ := hall
  obtain ⟨n, p, g1, n1, b1, o1, _, v1⟩ := gvAt_tt t1
  rw [g1] at t2 t3
  dsimp only at t2 t3
  obtain ⟨s', q, g2, n2, b2, o2, _, v2⟩ := gvAt_tt t2
  rw [g2] at t3
  dsimp only at t3
  obtain ⟨m, r, g3, n3, b3, o3, _, v3⟩ := gvAt_tt t3
  rw [frR_yes hmk g1 g2 g3] at h0
  by_cases h4 : ¬ (1 ≤ n ∧ n ≤ 1000000000) ∨ 60000 < s'
  · rw [frT_4 h4] at h0; simp at h0
  by_cases h5 : xs.length < r + s'
  · rw [frT_5 h4 h5] at h0; simp at h0
  have hmk' : (xs ++ (frameB s d).drop j)[pre.length]? = some 167 := by
    rw [List.getElem?_append_left (List.getElem?_eq_some_iff.1 hmk).1]
    exact hmk
  rw [frR_yes hmk' (gvAt_app _ g1) (gvAt_app _ g2) (gvAt_app _ g3)] at hF
  have h5' : ¬ (xs ++ (frameB s d).drop j).length < r + s' := by omega
  by_cases h6 : crcN (((xs ++ (frameB s d).drop j).drop pre.length).take (q - pre.length) ++ ((xs ++ (frameB s d).drop j).drop r).take s') = m
  · rw [frT_0 h4 h5' h6] at hF
    simp only [Prod.mk.injEq] at hF
    omega
  · rw [frT_6 h4 h5' h6] at hF
    simp at hF
/-- A frame with a changed last byte is none. -/
theorem frR_bent {s : Int} {a : List UInt8} {x y : UInt8} (hg : frGood s (a ++ [x])) (hne : y ≠ x) (pre rest : List UInt8) {xs : List UInt8} (hx : xs = pre ++ (frameHead s (a ++ [x]) ++ varB (crcN (frameHead s (a ++ [x]) ++ (a ++ [x]))) ++ (a ++ [y]) ++ rest)) : (frR xs pre.length).2.2.2 ≠ 0 := by
  obtain ⟨⟨h1, h2⟩, h3⟩ := hg
  obtain ⟨n, rfl⟩ := Int.eq_ofNat_of_zero_le (show 0 ≤ s by omega)
  obtain ⟨d, hd⟩ : ∃ d, d = a ++ [x] := ⟨_, rfl⟩
  obtain ⟨d', hd'⟩ : ∃ d', d' = a ++ [y] := ⟨_, rfl⟩
  have hdl : d'.length = d.length := by rw [hd, hd']; simp
  rw [← hd] at h3 hx
  rw [← hd'] at hx
  have hc := crcN_le (frameHead n d ++ d)
  have e0 : xs = pre ++ (167 :: (varB n ++ (varB d.length ++ (varB (crcN (frameHead n d ++ d)) ++ (d' ++ rest))))) := by rw [hx, frameHead]; simp
  have m1 : xs[pre.length]? = some 167 := by rw [e0]; simp
  have g1 := gvAt_varB (n := n) (by omega) (pre ++ [167]) (varB d.length ++ (varB (crcN (frameHead n d ++ d)) ++ (d' ++ rest))) (xs := xs) (z := pre.length + 1) (by rw [e0]; simp) (by simp)
  have g2 := gvAt_varB (n := d.length) (by omega) (pre ++ [167] ++ varB n) (varB (crcN (frameHead n d ++ d)) ++ (d' ++ rest)) (xs := xs) (z := pre.length + 1 + (varB n).length) (by rw [e0]; simp) (by simp; omega)
  have g3 := gvAt_varB (n := crcN (frameHead n d ++ d)) hc (pre ++ [167] ++ varB n ++ varB d.length) (d' ++ rest) (xs := xs) (z := pre.length + 1 + (varB n).length + (varB d.length).length) (by rw [e0]; simp) (by simp; omega)
  have hF : (frameHead n d).length = 1 + (varB n).length + (varB d.length).length := by simp [frameHead]; omega
  have hlen : xs.length = pre.length + (frameHead n d).length + (varB (crcN (frameHead n d ++ d))).length + d.length + rest.length := by rw [hx]; simp; omega
  have t1 : (xs.drop pre.length).take (frameHead n d).length = frameHead n d := by
    have := dropA pre (frameHead n d ++ varB (crcN (frameHead n d ++ d)) ++ d' ++ rest) 0
    rw [Nat.add_zero, List.drop_zero] at this
    rw [hx, this, List.append_assoc, List.append_assoc, List.take_left']
    rfl
  have t2 : (xs.drop (pre.length + 1 + (varB n).length + (varB d.length).length + (varB (crcN (frameHead n d ++ d))).length)).take d.length = d' := by
    have := dropA (pre ++ (frameHead n d ++ varB (crcN (frameHead n d ++ d)))) (d' ++ rest) 0
    rw [Nat.add_zero, List.drop_zero] at this
    have e1 : xs = pre ++ (frameHead n d ++ varB (crcN (frameHead n d ++ d))) ++ (d' ++ rest) := by rw [hx]; simp
    have e2 : pre.length + 1 + (varB n).length + (varB d.length).length + (varB (crcN (frameHead n d ++ d))).length = (pre ++ (frameHead n d ++ varB (crcN (frameHead n d ++ d)))).length := by simp [hF]; omega
    rw [e2, e1, this, List.take_left']
    exact hdl
  rw [frR_yes m1 (by exact_mod_cast g1) g2 g3, frT_6 (by omega) (by omega)]
  · simp
  · rw [t2, show pre.length + 1 + (varB n).length + (varB d.length).length - pre.length = (frameHead n d).length by omega, t1, hd']
    intro h
    have h' : crcN ((frameHead n d ++ a) ++ y :: []) = crcN ((frameHead n d ++ a) ++ x :: []) := by
      rw [List.append_assoc, h]
      conv => lhs; rw [hd]
      rw [← hd, List.append_assoc, ← hd]
    exact hne (crcN_inj h')
theorem jF_append (b : List (List UInt8)) : ∀ (a : List (List UInt8)) (s : Int), jF s (a ++ b) = jF s a ++ jF (s + (a.length : Int)) b
  | [], s => by simp [jF]
  | d :: r, s => by
    have h := jF_append b r (s + 1)
    have e : s + 1 + (r.length : Int) = s + ((d :: r).length : Int) := by rw [List.length_cons]; omega
    rw [List.cons_append, jF, h, e, jF, List.append_assoc]
theorem frameB_pos (s : Int) (d : List UInt8) : 0 < (frameB s d).length := by simp [frameB, frameHead]
theorem jF_len (a : List (List UInt8)) : ∀ s, a.length ≤ (jF s a).length := by
  induction a with
  | nil => intro s; simp
  | cons d r ih =>
    intro s
    have h1 := ih (s + 1)
    have h2 := frameB_pos s d
    rw [jF, List.length_append, List.length_cons]
    omega
theorem jOk_cons {d : List UInt8} {r : List (List UInt8)} {s : Int} (h : jOk s (d :: r) = true) : frGood s d ∧ jOk (s + 1) r = true := by
  rw [jOk, Bool.and_eq_true] at h
  exact ⟨of_decide_eq_true h.1, h.2⟩
theorem jrR_stop {xs : List UInt8} {s z : Int} (h : (frR xs z).2.2.2 ≠ 0) : ∀ f, jrR xs f s z = ([], z)
  | 0 => rfl
  | f + 1 => by rw [jrR, if_neg (fun hh => h hh.1)]
/-- Frames that stand one after the other are read one after the other. -/
theorem jr_run {xs : List UInt8} (rest : List UInt8) : ∀ (a : List (List UInt8)) (s : Int) (pre : List UInt8) (f : Nat), jOk s a = true → xs = pre ++ (jF s a ++ rest) → a.length ≤ f →
    jrR xs f s pre.length = (a ++ (jrR xs (f - a.length) (s + (a.length : Int)) ((pre ++ jF s a).length : Nat)).1, (jrR xs (f - a.length) (s + (a.length : Int)) ((pre ++ jF s a).length : Nat)).2)
  | [], s, pre, f, h, hx, hf => by simp [jF]
  | d :: r, s, pre, 0, h, hx, hf => by simp at hf
  | d :: r, s, pre, f + 1, h, hx, hf => by
    obtain ⟨hg, hr⟩ := jOk_cons h
    have hF := frR_frame hg pre (jF (s + 1) r ++ rest) (xs := xs) (by rw [hx, jF, List.append_assoc])
    have hI := jr_run (xs := xs) rest r (s + 1) (pre ++ frameB s d) f hr (by rw [hx, jF]; simp) (by simpa using hf)
    have e1 : ((pre.length + (frameB s d).length : Nat) : Int) = ((pre ++ frameB s d).length : Nat) := by rw [List.length_append]
    have e2 : s + 1 + (r.length : Int) = s + ((d :: r).length : Int) := by rw [List.length_cons]; omega
    have e3 : pre ++ frameB s d ++ jF (s + 1) r = pre ++ jF s (d :: r) := by rw [jF, List.append_assoc]
    have e4 : f + 1 - (d :: r).length = f - r.length := by rw [List.length_cons]; omega
    rw [jrR_yes hF, e1, hI, e2, e3, e4]
    simp
/-- Where the frames end, the reading ends. -/
theorem jr_at {xs rest : List UInt8} {a : List (List UInt8)} {s : Int} {f : Nat} (h : jOk s a = true) (hx : xs = jF s a ++ rest) (hf : a.length ≤ f) (hs : (frR xs (jF s a).length).2.2.2 ≠ 0) : jrR xs f s 0 = (a, ((jF s a).length : Int)) := by
  have := jr_run (xs := xs) rest a s [] f h (by rw [hx]; simp) hf
  rw [List.nil_append, jrR_stop hs] at this
  simpa using this
theorem jr_full {a : List (List UInt8)} {s : Int} (h : jOk s a = true) : jrR (jF s a) ((jF s a).length + 1) s 0 = (a, ((jF s a).length : Int)) := by
  refine jr_at (rest := []) h (by simp) (by have := jF_len a s; omega) ?_
  rw [frR_mark (Nat.le_refl _) (by simp)]
  simp
/-- Where the first n frames end. -/
def jPos (s : Int) (a : List (List UInt8)) (n : Nat) : Nat := (jF s (a.take n)).length
theorem jPos_mono (s : Int) (a : List (List UInt8)) {n m : Nat} (h : n ≤ m) : jPos s a n ≤ jPos s a m := by
  obtain ⟨k, rfl⟩ := Nat.exists_eq_add_of_le h
  rw [jPos, jPos, List.take_add, jF_append, List.length_append]
  omega
theorem jF_split {a : List (List UInt8)} {i : Nat} (hi : i < a.length) (s : Int) : jF s a = jF s (a.take i) ++ (frameB (s + i) a[i] ++ jF (s + i + 1) (a.drop (i + 1))) := by
  conv => lhs; rw [← List.take_append_drop i a, List.drop_eq_getElem_cons hi]
  rw [jF_append, List.length_take, Nat.min_eq_left (by omega), jF]
theorem jPos_succ {a : List (List UInt8)} {i : Nat} (hi : i < a.length) (s : Int) : jPos s a (i + 1) = jPos s a i + (frameB (s + i) a[i]).length := by
  rw [jPos, jPos, List.take_succ_eq_append_getElem hi, jF_append, List.length_append, List.length_take, Nat.min_eq_left (by omega)]
  simp [jF]
theorem jPos_all (s : Int) (a : List (List UInt8)) : jPos s a a.length = (jF s a).length := by rw [jPos, List.take_length]
theorem jOk_take {a : List (List UInt8)} {s : Int} (h : jOk s a = true) (n : Nat) : jOk s (a.take n) = true := by
  have h2 := h
  rw [← List.take_append_drop n a, jOk_append, Bool.and_eq_true] at h2
  exact h2.1
theorem jOk_get {a : List (List UInt8)} {s : Int} (h : jOk s a = true) {i : Nat} (hi : i < a.length) : frGood (s + i) a[i] := by
  have h2 := h
  rw [← List.take_append_drop i a, jOk_append, Bool.and_eq_true, List.drop_eq_getElem_cons hi, List.length_take, Nat.min_eq_left (by omega)] at h2
  exact (jOk_cons h2.2).1
/-- How many frames end at k or ahead of it. -/
theorem jPos_cut (s : Int) (a : List (List UInt8)) (k : Nat) : ∀ n, ∃ m, m ≤ n ∧ jPos s a m ≤ k ∧ (m < n → k < jPos s a (m + 1))
  | 0 => ⟨0, Nat.le_refl _, by simp [jPos, jF], fun h => absurd h (Nat.lt_irrefl _)⟩
  | n + 1 => by
    obtain ⟨m, h1, h2, h3⟩ := jPos_cut s a k n
    by_cases h4 : jPos s a (n + 1) ≤ k
    · exact ⟨n + 1, Nat.le_refl _, h4, fun h => absurd h (Nat.lt_irrefl _)⟩
    · refine ⟨m, by omega, h2, fun _ => ?_⟩
      by_cases h5 : m = n
      · rw [h5]; omega
      · exact h3 (by omega)
/-- A torn journal. -/
theorem jr_torn {a : List (List UInt8)} {s : Int} (h : jOk s a = true) {k : Nat} (hk : k ≤ (jF s a).length) {xs : List UInt8} (hx : xs = (jF s a).take k) : ∃ m, m ≤ a.length ∧ jrR xs (xs.length + 1) s 0 = (a.take m, (jPos s a m : Int)) ∧ jPos s a m ≤ k ∧ ∀ i, i < a.length → (jPos s a (i + 1) ≤ k ↔ i < m) := by
  obtain ⟨m, h1, h2, h3⟩ := jPos_cut s a k a.length
  have hiff : ∀ i, i < a.length → (jPos s a (i + 1) ≤ k ↔ i < m) := by
    intro i hi
    constructor
    · intro hp
      by_cases hm : i < m
      · exact hm
      · have h4 := h3 (by omega)
        have h5 := jPos_mono s a (n := m + 1) (m := i + 1) (by omega)
        omega
    · intro hm
      have h5 := jPos_mono s a (n := i + 1) (m := m) (by omega)
      omega
  refine ⟨m, h1, ?_, h2, hiff⟩
  have hxl : xs.length = k := by rw [hx, List.length_take]; omega
  have hml : m ≤ xs.length + 1 := by
    have := jF_len (a.take m) s
    rw [List.length_take, Nat.min_eq_left h1] at this
    unfold jPos at h2
    omega
  by_cases hm : m < a.length
  · have hs := jF_split hm s
    have h4 := h3 hm
    rw [jPos_succ hm] at h4
    have hxe : xs = jF s (a.take m) ++ (frameB (s + m) a[m]).take (k - jPos s a m) := by
      rw [hx, hs, List.take_append, List.take_of_length_le (show (jF s (a.take m)).length ≤ k from h2)]
      congr 1
      rw [List.take_append_of_le_length (by unfold jPos at h2 h4; omega)]
      rfl
    exact jr_at (jOk_take h m) hxe (by rw [List.length_take]; omega) (frR_torn (jOk_get h hm) _ (by omega) hxe)
  · have hma : m = a.length := by omega
    subst hma
    rw [jPos_all] at h2
    have hxe : xs = jF s a := by rw [hx, List.take_of_length_le h2]
    rw [List.take_length, jPos_all, hxe]
    exact jr_full h
/-- A journal with a changed byte at a frame's end. -/
theorem jr_bent {a : List (List UInt8)} {s : Int} (h : jOk s a = true) {i : Nat} (hi : i < a.length) (hne : a[i] ≠ []) {p : Nat} (hp : p + 1 = jPos s a (i + 1)) {x y : UInt8} (hx : (jF s a)[p]? = some x) (hyx : y ≠ x) {xs : List UInt8} (hxs : xs = (jF s a).set p y) : (jrR xs (xs.length + 1) s 0).1 = a.take i := by
  have hg := jOk_get h hi
  obtain ⟨b, z, hd⟩ : ∃ b z, a[i] = b ++ [z] := ⟨_, _, (List.dropLast_concat_getLast hne).symm⟩
  rw [jPos_succ hi] at hp
  have hs := jF_split hi s
  rw [hd] at hg hp hs
  obtain ⟨hd2, hhd⟩ : ∃ hd2, hd2 = frameHead (s + i) (b ++ [z]) ++ varB (crcN (frameHead (s + i) (b ++ [z]) ++ (b ++ [z]))) := ⟨_, rfl⟩
  have hB : jF s a = (jF s (a.take i) ++ (hd2 ++ b)) ++ z :: jF (s + i + 1) (a.drop (i + 1)) := by rw [hs, frameB, ← hhd]; simp
  have hpp : p = (jF s (a.take i) ++ (hd2 ++ b)).length := by
    have hf : (frameB (s + i) (b ++ [z])).length = hd2.length + b.length + 1 := by rw [frameB, ← hhd]; simp; omega
    rw [hf] at hp
    unfold jPos at hp
    simp
    omega
  have hxz : x = z := by
    rw [hB, hpp, List.getElem?_append_right (Nat.le_refl _)] at hx
    simpa using hx.symm
  subst hxz
  have hxe : xs = jF s (a.take i) ++ (frameHead (s + i) (b ++ [x]) ++ varB (crcN (frameHead (s + i) (b ++ [x]) ++ (b ++ [x]))) ++ (b ++ [y]) ++ jF (s + i + 1) (a.drop (i + 1))) := by
    rw [hxs, hB, hpp, List.set_append_right _ _ (Nat.le_refl _), ← hhd]
    simp
  have hml := jF_len (a.take i) s
  have hxl : (jF s (a.take i)).length ≤ xs.length := by rw [hxe, List.length_append]; omega
  rw [jr_at (jOk_take h i) hxe (by omega) (frR_bent hg hyx _ _ hxe)]
end Go.Proofs.Ytbaojeiinjjlcaa
