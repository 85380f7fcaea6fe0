/- Journals written: both ways. -/
import Derived.Test.YtbaojeiinjjlcaaP27
namespace Go.Proofs.Ytbaojeiinjjlcaa
open Go.RowKit
set_option linter.unusedVariables false
set_option maxRecDepth 100000

def frGood (n : Int) (d : List UInt8) : Prop := (1 ≤ n ∧ n ≤ 1000000000) ∧ d.length ≤ 60000
instance (n : Int) (d : List UInt8) : Decidable (frGood n d) := by unfold frGood; exact inferInstance
theorem frameR_yes {n : Int} {d : List UInt8} (h : frGood n d) : frameR n d = (frameB n d, true) := if_pos h
theorem frameR_no {n : Int} {d : List UInt8} (h : ¬ frGood n d) : frameR n d = ([], false) := if_neg h
theorem frameB_len {n : Int} {d : List UInt8} (h : frGood n d) : (frameB n d).length ≤ d.length + 16 := by
  have := frameR_len n d
  rwa [frameR_yes h] at this
/-- The frames of a journal, one after the other. -/
def jF : Int → List (List UInt8) → List UInt8
  | _, [] => []
  | s, d :: r => frameB s d ++ jF (s + 1) r
def jOk : Int → List (List UInt8) → Bool
  | _, [] => true
  | s, d :: r => decide (frGood s d) && jOk (s + 1) r
def jR (s : Int) (l : List (List UInt8)) : List UInt8 × Bool := if jOk s l = true then (jF s l, true) else ([], false)
theorem jF_snoc (d : List UInt8) (a : List (List UInt8)) : ∀ s, jF s (a ++ [d]) = jF s a ++ frameB (s + (a.length : Int)) d := by
  induction a with
  | nil => intro s; simp [jF]
  | cons x r ih =>
    intro s
    have h : s + 1 + (r.length : Int) = s + ((x :: r).length : Int) := by simp; omega
    simp only [List.cons_append, jF, ih, h, List.append_assoc]
theorem jOk_append (b a : List (List UInt8)) : ∀ s, jOk s (a ++ b) = (jOk s a && jOk (s + (a.length : Int)) b) := by
  induction a with
  | nil => intro s; simp [jOk]
  | cons x r ih =>
    intro s
    have h : s + 1 + (r.length : Int) = s + ((x :: r).length : Int) := by simp; omega
    simp only [List.cons_append, jOk, ih, h, Bool.and_assoc]
theorem jOk_bd {a : List (List UInt8)} {s : Int} (h : jOk s a = true) : a = [] ∨ (1 ≤ s ∧ s + (a.length : Int) - 1 ≤ 1000000000) := by
  rcases List.eq_nil_or_concat a with rfl | ⟨l, d, rfl⟩
  · exact .inl rfl
  · right
    rw [List.concat_eq_append, jOk_append] at h
    have h1 : jOk (s + (l.length : Int)) [d] = true := by simp at h; exact h.2
    have h2 : frGood (s + (l.length : Int)) d := by simp [jOk] at h1; exact h1
    obtain ⟨⟨h3, h4⟩, _⟩ := h2
    refine ⟨?_, by simp; omega⟩
    cases l with
    | nil => simpa using h3
    | cons x r =>
      have h5 : frGood s x := by
        simp [jOk] at h
        exact h.1.1
      exact h5.1.1
def JSt (seq : Int) (es : List Sl) (k : Nat) (us : List UInt8) : Prop := us = jF seq (datas (es.take k)) ∧ jOk seq (datas (es.take k)) = true ∧ us.length ≤ tot (es.take k) + 16 * k
theorem datas_succ {es : List Sl} {k : Nat} (hk : k < es.length) : datas (es.take (k + 1)) = datas (es.take k) ++ [es[k].2.2] := by
  rw [take_succ_get (List.getElem?_eq_getElem hk)]
  simp only [datas, List.map_append, List.map_cons, List.map_nil]
theorem datas_take_len {es : List Sl} {k : Nat} (hk : k ≤ es.length) : (datas (es.take k)).length = k := by simp [datas]; omega
theorem JSt.start (seq : Int) (es : List Sl) : Hid (JSt seq es 0 []) := ⟨by simp [datas, jF], by simp [datas, jOk], by simp⟩
theorem JSt.step {seq : Int} {es : List Sl} {k : Nat} {us vs : List UInt8} (h : Hid (JSt seq es k us)) (hk : k < es.length) (hg : frGood (seq + k) es[k].2.2) (hv : vs = us ++ frameB (seq + k) es[k].2.2) : Hid (JSt seq es (k + 1) vs) := by
  obtain ⟨h1, h2, h3⟩ := h.out
  have hl := datas_take_len (Nat.le_of_lt hk)
  refine ⟨?_, ?_, ?_⟩
  · rw [hv, h1, datas_succ hk, jF_snoc, hl]
  · rw [datas_succ hk, jOk_append, h2, hl]
    simp [jOk, hg]
  · have := frameB_len hg
    rw [hv, tot_succ hk]
    simp
    omega
theorem JSt.bad {seq : Int} {es : List Sl} {k : Nat} {us : List UInt8} (h : Hid (JSt seq es k us)) (hk : k < es.length) (hg : ¬ frGood (seq + k) es[k].2.2) : jR seq (datas es) = ([], false) := by
  have e : datas es = datas (es.take k) ++ es[k].2.2 :: datas (es.drop (k + 1)) := by
    conv => lhs; rw [← List.take_append_drop k es, List.drop_eq_getElem_cons hk]
    simp only [datas, List.map_append, List.map_cons]
  rw [jR, if_neg]
  rw [e, jOk_append, datas_take_len (Nat.le_of_lt hk)]
  simp [jOk, hg]
theorem JSt.done {seq : Int} {es : List Sl} {us : List UInt8} (h : Hid (JSt seq es es.length us)) : jR seq (datas es) = (us, true) := by
  obtain ⟨h1, h2, h3⟩ := h.out
  rw [List.take_length] at h1 h2
  rw [jR, if_pos h2, h1]
theorem JSt.bd {seq : Int} {es : List Sl} {k : Nat} {us : List UInt8} (h : Hid (JSt seq es k us)) (hk : k ≤ es.length) : k = 0 ∨ (1 ≤ seq ∧ seq + k ≤ 1000000001) := by
  rcases jOk_bd h.out.2.1 with h1 | h1
  · have := congrArg List.length h1
    rw [datas_take_len hk] at this
    exact .inl this
  · rw [datas_take_len hk] at h1
    exact .inr ⟨h1.1, by omega⟩
theorem JSt.len {seq : Int} {es : List Sl} {k : Nat} {us : List UInt8} (h : Hid (JSt seq es k us)) : us.length ≤ tot (es.take k) + 16 * k := h.out.2.2
theorem jR_len {seq : Int} {es : List Sl} : (jR seq (datas es)).1.length ≤ tot es + 16 * es.length := by
  have key : ∀ (l : List (List UInt8)) (s : Int), jOk s l = true → (jF s l).length ≤ (l.map List.length).sum + 16 * l.length := by
    intro l
    induction l with
    | nil => intro s _; simp [jF]
    | cons d r ih =>
      intro s h
      simp only [jOk, Bool.and_eq_true, decide_eq_true_eq] at h
      have h1 := frameB_len h.1
      have h2 := ih _ h.2
      simp [jF]
      omega
  rw [jR]
  split
  · rename_i h
    have := key _ _ h
    simpa [datas, tot, Function.comp_def] using this
  · simp
theorem put_noB {w w' : World} {r : List UInt8 × Bool} (hr : r = ([], false)) (hb : Below w.heap.size w w') : PutPost w r (.returned (.tuple #[.slice none 0 0, .bool false])) w' := by
  subst hr
  exact ⟨none, 0, [], false, rfl, rfl, rfl, ownsG_nil _ _ _ _, hb⟩
theorem put_yes {w w' : World} {r : List UInt8 × Bool} {A : Option Addr} {c : Nat} {us : List UInt8} (hr : r = (us, true)) (ho : Ob w' w.heap.size A c us) (hb : Below w.heap.size w w') : PutPost w r (.returned (.tuple #[.slice A us.length c, .bool true])) w' := by
  subst hr
  exact ⟨A, c, us, true, rfl, rfl, rfl, ho, hb⟩
set_option maxHeartbeats 1000000 in
theorem journalBytes_impl (A : Option Addr) (c : Nat) (es : List Sl) (seq : Int) (w : World) (ha : Ls w A es) (hl : es.length + tot es ≤ 1048576) (hs1 : -9223372036854775808 ≤ seq) (hs2 : seq ≤ 9223372036854775807) :
    Calls Try.prog 5 #[.int .i64 seq, .slice A es.length c] w (PutPost w (jR seq (datas es))) := by
  go_enter Try.func5, Try.ntmps5
  go_wp2_with fail
  go_loopw [6, 14] (fun ov i wr => ∃ (k : Nat) (A1 : Option Addr) (c1 : Nat) (us : List UInt8), k ≤ es.length ∧ i = .int .i64 k ∧ ov = .slice A1 us.length c1 ∧ Hid (JSt seq es k us) ∧ Ob wr w.heap.size A1 c1 us ∧ Below w.heap.size w wr) (fun _ i _ => es.length - (intOf i).toNat)
  case atStart => exact ⟨0, _, _, [], Nat.zero_le _, rfl, rfl, JSt.start _ _, Ob.empty, (Below.refl _ _).alloc (Nat.le_refl _) _⟩
  case round =>
    obtain ⟨k, A1, c1, us, hk, rfl, rfl, hj, ho, hb⟩ := hrel
    have zb := hb.size
    by_cases hlt : k < es.length
    · have hlt' : (k : Int) < es.length := by omega
      obtain ⟨b, o, rfl, hx, hy⟩ := (ha.below hb).get hlt
      have hbA : Below wr.heap.size wr (wr.alloc (.cells #[slv es[k]] 32)) := (Below.refl _ _).alloc (Nat.le_refl _) _
      have hbd := JSt.bd hj hk
      have hle := JSt.len hj
      have htg := tot_get hlt
      have hq1 : -9223372036854775808 ≤ seq + k := by omega
      have hq2 : seq + k ≤ 9223372036854775807 := by omega
      have hbig : ¬ (1000000000 : Int) < k := by omega
      by_cases hg : frGood (seq + k) es[k].2.2
      · have HF := Lib.hid (frameR_yes hg)
        have hJ := fun vs hv => JSt.step (vs := vs) hj hlt hg hv
        have hfl := frameB_len hg
        have hq3 : seq + k + 1 ≤ 9223372036854775807 := by have := hg.1.2; omega
        clear hj hg
        go_wp2_with fail
        refine (frameBytes_impl _ _ _ _ _ (hy.below hbA) (by omega)).mono ?_
        rintro e w2 ⟨A2, c2, u2, k2, hu2, hk2, rfl, ho2, hb2'⟩
        have hb2 := hbA.trans (hb2'.mono (by simp))
        rw [HF.out] at hu2 hk2
        have l2 : u2.length ≤ es[k].2.2.length + 16 := by rw [hu2.out]; exact hfl
        obtain rfl : k2 = true := hk2.out
        have z2 := hb2.size
        go_wp2_with (at_builtin; refine wp_appN rfl _ _ rfl w.heap.size _ _ us _ _ _ u2 (ho.below hb2 (Nat.le_refl _)) ho2.by_ rfl rfl (by omega) (by omega) (by omega) ?_; intro A3 c3 w3 u3 hu3 ho3 hb3)
        go_roundw
        case rel => exact ⟨k + 1, A3, c3, u3, by omega, by go_num, rfl, hJ u3 (by rw [hu3.out, hu2.out]), ho3, (hb.trans (hb2.mono zb)).trans hb3⟩
        case measure => simp [intOf]; omega
      · have HF := Lib.hid (frameR_no hg)
        have HR := Lib.hid (JSt.bad hj hlt hg)
        clear hj hg
        go_wp2_with fail
        refine (frameBytes_impl _ _ _ _ _ (hy.below hbA) (by omega)).mono ?_
        rintro e w2 ⟨A2, c2, u2, k2, hu2, hk2, rfl, ho2, hb2'⟩
        have hb2 := hbA.trans (hb2'.mono (by simp))
        rw [HF.out] at hu2 hk2
        obtain rfl : k2 = false := hk2.out
        go_wp2_with fail
        go_ret2
        exact put_noB HR.out (hb.trans (hb2.mono zb))
    · have hlt' : ¬ ((k : Int) < es.length) := by omega
      obtain rfl : k = es.length := by omega
      have HR := Lib.hid (JSt.done hj)
      clear hj
      go_wp2_with fail
      go_ret2
      exact put_yes HR.out ho hb
end Go.Proofs.Ytbaojeiinjjlcaa
