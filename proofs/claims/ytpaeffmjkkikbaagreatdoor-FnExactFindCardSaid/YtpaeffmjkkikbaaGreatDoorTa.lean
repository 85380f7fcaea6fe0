/- What a decimal numeral spells: the reference's way. What a decimal numeral spells: the program's way, and the law. The law of TextNum. Which generation a file's name tells: the reference's way. -/
import Derived.Test.YtpaeffmjkkikbaaGreatDoorTq
import Derived.Test.YtpaeffmjkkikbaaGreatDoorSh2
import Derived.Lib.AtoiAllCases
namespace Go.Proofs.YtpaeffmjkkikbaaGreatDoor
open Go.RowKit

open Go.RowKit Go.Lib
set_option linter.unusedVariables false
set_option maxRecDepth 100000

theorem bstr_tl (l : List UInt8) : (bstr l).toList = l := by
  simp [bstr]
theorem bstr_of (s : ByteArray) : s = bstr s.data.toList := by simp [bstr]
/-- What TextNum answers. -/
def tnVal (l : List UInt8) : Value := .tuple #[.int .i64 (if tnB l = true then (valF l : Int) else 0), .bool (tnB l)]
theorem tnVal_no {l : List UInt8} (h : tnB l = false) : tnVal l = .tuple #[.int .i64 0, .bool false] := by rw [tnVal, h]; rfl
theorem tnVal_yes {l : List UInt8} (h : tnB l = true) : tnVal l = .tuple #[.int .i64 (valF l), .bool true] := by rw [tnVal, h]; rfl
theorem fold_lt : ∀ (l : List UInt8) (a : Nat), (∀ c ∈ l, 48 ≤ c.toNat ∧ c.toNat ≤ 57) → l.foldl (fun a c => a * 10 + (c.toNat - 48)) a < (a + 1) * 10 ^ l.length
  | [], a, _ => by simp
  | c :: r, a, h => by
    have h2 := h c (by simp)
    have h1 := fold_lt r (a * 10 + (c.toNat - 48)) (fun x hx => h x (by simp [hx]))
    have h3 : (a * 10 + (c.toNat - 48) + 1) * 10 ^ r.length ≤ ((a + 1) * 10) * 10 ^ r.length := Nat.mul_le_mul_right _ (by omega)
    rw [List.length_cons, Nat.pow_succ, Nat.mul_comm (10 ^ r.length) 10, ← Nat.mul_assoc]
    exact Nat.lt_of_lt_of_le h1 h3
theorem valF_lt (l : List UInt8) (h : ∀ c ∈ l, 48 ≤ c.toNat ∧ c.toNat ≤ 57) : valF l < 10 ^ l.length := by
  have := fold_lt l 0 h
  rw [Nat.zero_add, Nat.one_mul] at this
  exact this
theorem valF_ten {l : List UInt8} (h : ∀ c ∈ l, 48 ≤ c.toNat ∧ c.toNat ≤ 57) (hl : l.length ≤ 10) : valF l < 10000000000 := by
  have h1 := valF_lt l h
  have h2 : 10 ^ l.length ≤ 10 ^ 10 := Nat.pow_le_pow_right (by omega) hl
  omega
/-- What the numeral of the value tells. -/
theorem tn_spell {l : List UInt8} (hl : l ≠ []) : ((bstr (ntL (valF l))).toList == (bstr l).toList) = tnB l := by
  rw [bstr_tl, bstr_tl, Bool.eq_iff_iff, beq_iff_eq, tnB, decide_eq_true_eq]
  by_cases h : valF l ≤ 4294967295
  · rw [nt_yes (by omega)]
    simp [h]
  · rw [nt_no (by omega)]
    constructor
    · intro e; exact absurd e.symm hl
    · intro e; exact absurd e.1 h
open Go.RowKit Go.Lib
set_option linter.unusedVariables false
set_option maxRecDepth 100000

/-- The variable at g holds some error. -/
def Ev (g : Nat) (w : World) : Prop := ∃ ev, w.cell? ⟨g, 0, none⟩ = some ev ∧ (ev = .nilIface ∨ ∃ te pe, ev = .iface te pe)
theorem Ev.below {g : Nat} {w w' : World} (h : Ev g w) {B : Nat} (hb : Below B w w') (hB : w.heap.size ≤ B) : Ev g w' := by
  obtain ⟨ev, hc, he⟩ := h
  have hl := World.block_lt_of_cell? w _ hc
  exact ⟨ev, (hb.cell (Nat.lt_of_lt_of_le hl hB)).trans hc, he⟩
/-- What the library's variables must hold. -/
def Lv (w : World) : Prop := Tb w ∧ Ev 1 w ∧ Ev 2 w
theorem Lv.below {w w' : World} (h : Lv w) {B : Nat} (hb : Below B w w') (hB : w.heap.size ≤ B) : Lv w' := ⟨h.1.below hb hB, h.2.1.below hb hB, h.2.2.below hb hB⟩
theorem tn_spell2 {xs : List UInt8} {v : Int} (hA : atoiAll xs = .ok v) : ((bstr (ntL v)).toList == (bstr xs).toList) = tnB xs := by
  rw [bstr_tl, bstr_tl]
  by_cases h : 0 ≤ v ∧ v ≤ 4294967295
  · rw [tn_of_atoi hA h.1 h.2, ntL, if_pos h, Bool.eq_iff_iff, beq_iff_eq, decide_eq_true_eq]
  · rw [tn_out hA h, nt_no h, beq_eq_false_iff_ne]
    intro e
    rw [← e] at hA
    simp [atoiAll] at hA
/-- Atoi at what is no int: an error that is not nil. -/
theorem atoi_err (xs : List UInt8) (w : World) (h1 : xs.length ≤ 1099511627776) (hno : ∀ v, atoiAll xs ≠ .ok v) (hv : Ev 1 w) (hv' : Ev 2 w) :
    Calls Tryz.prog 92 #[.string (bstr xs)] w fun e w' => ∃ z te pe, e = .returned (.tuple #[.int .i64 z, .iface te pe]) ∧ Below w.heap.size w w' := by
  have hs : (bstr xs).size = xs.length := bstr_size xs
  have hdx : (bstr xs).data.toList = xs := by simp [bstr]
  obtain ⟨ev, hc, hev⟩ := hv
  obtain ⟨ev', hc', hev'⟩ := hv'
  cases hA : atoiAll xs
  · exact absurd hA (hno _)
  · refine (Any.strconv_Atoi_syntax Tryz.laysC172 (bstr xs) (by omega) (by rw [hdx]; exact hA) ev _ hc hev).mono ?_
    rintro e w1 ⟨N, rfl, _, _, hb1⟩
    exact ⟨_, _, _, rfl, hb1⟩
  · refine (Tryz.strconv_Atoi_range (bstr xs) (by omega) (by rw [hdx]; exact hA) ev' _ hc' hev').mono ?_
    rintro e w1 ⟨N, rfl, _, _, hb1⟩
    exact ⟨_, _, _, rfl, hb1⟩
set_option maxHeartbeats 1000000 in
theorem textNum_impl (xs : List UInt8) (w : World) (h1 : xs.length ≤ 1099511627776) (hl : Lv w) :
    Calls Tryz.prog 61 #[.string (bstr xs)] w fun e w' => e = .returned (tnVal xs) ∧ Below w.heap.size w w' := by
  have hs : (bstr xs).size = xs.length := bstr_size xs
  have hdx : (bstr xs).data.toList = xs := by simp [bstr]
  obtain ⟨ht, he1, he2⟩ := hl
  by_cases hok : ∃ v, atoiAll xs = .ok v
  · obtain ⟨v, hA⟩ := hok
    have hsp := tn_spell2 hA
    obtain ⟨vb0, vb1⟩ := atoiAll_bounds hA
    cases htn : tnB xs with
    | true =>
      have hv := tn_val hA htn
      have HR := Lib.hid (tnVal_yes htn)
      rw [← hv] at HR
      rw [htn] at hsp
      clear hv htn
      go_enter Tryz.func61, Tryz.ntmps61
      go_wp2_with fail
      refine (Tryz.strconv_Atoi_ok (bstr xs) (by omega) v (by rw [hdx]; exact hA) _).mono ?_
      rintro e w1 ⟨rfl, hw⟩
      have hb1 : Below w.heap.size w w1 := by
        rcases hw with rfl | ⟨t, rfl⟩
        · exact Below.refl _ _
        · exact bytesWorld_below _ _ _
      clear hw
      go_wp2_with fail
      refine (numText_impl v _ ⟨by omega, by omega⟩ (ht.below hb1 (Nat.le_refl _))).mono ?_
      rintro e w2 ⟨rfl, hb2⟩
      go_wp2_with fail
      exact bodyPost_ret (v := .tuple #[.int .i64 v, .bool true]) (by simp [results, Tryz.results61, go_sem, *]) rfl ⟨congrArg Ending.returned HR.out.symm, hb1.trans (hb2.mono hb1.size)⟩
    | false =>
      have HR := Lib.hid (tnVal_no htn)
      rw [htn] at hsp
      clear htn
      go_enter Tryz.func61, Tryz.ntmps61
      go_wp2_with fail
      refine (Tryz.strconv_Atoi_ok (bstr xs) (by omega) v (by rw [hdx]; exact hA) _).mono ?_
      rintro e w1 ⟨rfl, hw⟩
      have hb1 : Below w.heap.size w w1 := by
        rcases hw with rfl | ⟨t, rfl⟩
        · exact Below.refl _ _
        · exact bytesWorld_below _ _ _
      clear hw
      go_wp2_with fail
      refine (numText_impl v _ ⟨by omega, by omega⟩ (ht.below hb1 (Nat.le_refl _))).mono ?_
      rintro e w2 ⟨rfl, hb2⟩
      go_wp2_with fail
      exact bodyPost_ret (v := .tuple #[.int .i64 0, .bool false]) (by simp [results, Tryz.results61, go_sem, *]) rfl ⟨congrArg Ending.returned HR.out.symm, hb1.trans (hb2.mono hb1.size)⟩
  · have hno : ∀ v, atoiAll xs ≠ .ok v := fun v h => hok ⟨v, h⟩
    have HR := Lib.hid (tnVal_no (tn_err (l := xs) hno))
    clear hok
    go_enter Tryz.func61, Tryz.ntmps61
    go_wp2_with fail
    refine (atoi_err xs _ h1 hno he1 he2).mono ?_
    rintro e w1 ⟨z, te, pe, rfl, hb1⟩
    go_wp2_with fail
    exact bodyPost_ret (v := .tuple #[.int .i64 0, .bool false]) (by simp [results, Tryz.results61, go_sem, *]) rfl ⟨congrArg Ending.returned HR.out.symm, hb1⟩

open Go.RowKit Go.Lib
set_option linter.unusedVariables false
set_option maxRecDepth 100000

theorem star_es : "*" ++ "errors.errorString" = "*errors.errorString" := by decide
theorem row_es (u : TypeId) (h : (Tryz.prog).typeName? 3 u = some "*errors.errorString") : u = 196 :=
  typeName_ptr_named (nm := "errors.errorString") (by rw [star_es]; kernel_rfl) (by kernel_rfl) (by decide) u (by rw [star_es]; exact h)
theorem ev_met {n : String} {text : List UInt8} {r : List (String × DataW Unit)} {g : Nat} {w : World} (h : laidMet Tryz.prog ((n, .iface "*errors.errorString" (.ptr (.agg [.lit (.string text)]))) :: r) w) (hg : (Tryz.prog).globalNamed n = some g) (ht : ((Tryz.prog).globals[g]?).map (·.type) = some 122) : Ev g w := by
  obtain ⟨a0, s0, hv0, _⟩ := laid_sentinel h hg ht Tryz.underlying122 row_es Tryz.underlying196 Tryz.underlying198 rfl rfl Tryz.underlying9 (by kernel_rfl) (by kernel_rfl)
  refine ⟨_, by simpa using World.var?_cell hg hv0 0, .inr ⟨_, _, rfl⟩⟩
theorem lv_met {w : World} (h : laidMet Tryz.prog (("math/bits.deBruijn32tab", Rows.laid_math_bits_deBruijn32tab) :: ("math/bits.deBruijn64tab", Rows.laid_math_bits_deBruijn64tab) :: ("internal/strconv.uint64pow10", Rows.laid_internal_strconv_uint64pow10) :: ("strconv.ErrRange", Rows.laid_strconv_ErrRange) :: ("strconv.ErrSyntax", Rows.laid_strconv_ErrSyntax) :: []) w) : Lv w :=
  ⟨tb_met h, ev_met (g := 1) h.tail.tail.tail.tail (by kernel_rfl) (by kernel_rfl), ev_met (g := 2) h.tail.tail.tail (by kernel_rfl) (by kernel_rfl)⟩
open Go.RowKit Go.Lib
set_option linter.unusedVariables false
set_option maxRecDepth 100000

/-- A name that tells generation n. -/
def gok (l : List UInt8) (n : Nat) : Prop := 1 ≤ n ∧ n ≤ 1000000000 ∧ (l = snapS ++ decDigits n ∨ l = logS ++ decDigits n)
theorem gok_uniq {l : List UInt8} {n m : Nat} (h : gok l n) (h' : gok l m) : n = m := by
  obtain ⟨_, _, h⟩ := h
  obtain ⟨_, _, h'⟩ := h'
  rcases h with h | h <;> rcases h' with h' | h'
  · rw [h] at h'; exact dec_inj (List.append_cancel_left h')
  · rw [h] at h'; simp [snapS, logS] at h'
  · rw [h] at h'; simp [snapS, logS] at h'
  · rw [h] at h'; exact dec_inj (List.append_cancel_left h')
def goP (l : List UInt8) (v : Value) : Prop := (∃ n, gok l n ∧ v = .tuple #[.int .i64 (n : Nat), .bool true]) ∨ ((∀ n, ¬ gok l n) ∧ v = .tuple #[.int .i64 0, .bool false])
theorem goP_uniq {l : List UInt8} {v v' : Value} (h : goP l v) (h' : goP l v') : v = v' := by
  rcases h with ⟨n, h, rfl⟩ | ⟨h, rfl⟩ <;> rcases h' with ⟨m, h', rfl⟩ | ⟨h', rfl⟩
  · rw [gok_uniq h h']
  · exact absurd h (h' n)
  · exact absurd h' (h m)
  · rfl
theorem nm_nat {p : List UInt8} {n : Nat} : nmL p n = if 1 ≤ n ∧ n ≤ 1000000000 then p ++ decDigits n else [] := by
  unfold nmL
  by_cases h : 1 ≤ n ∧ n ≤ 1000000000
  · rw [if_pos h, if_pos ⟨by omega, by omega⟩, nt_yes (by omega)]
  · rw [if_neg h, if_neg (by omega)]
/-- What a found name tells. -/
theorem nm_gok {l : List UInt8} {n : Nat} (hl : l ≠ []) : (nmL snapS n = l ∨ nmL logS n = l) ↔ gok l n := by
  rw [nm_nat, nm_nat, gok]
  by_cases h : 1 ≤ n ∧ n ≤ 1000000000
  · rw [if_pos h, if_pos h]
    constructor
    · rintro (h2 | h2)
      · exact ⟨h.1, h.2, .inl h2.symm⟩
      · exact ⟨h.1, h.2, .inr h2.symm⟩
    · rintro ⟨_, _, h2 | h2⟩
      · exact .inl h2.symm
      · exact .inr h2.symm
  · rw [if_neg h, if_neg h]
    constructor
    · rintro (h2 | h2) <;> exact absurd h2.symm hl
    · rintro ⟨h1, h2, _⟩; exact absurd ⟨h1, h2⟩ h
/-- Where the dot of a name stands, and what stands behind it. -/
theorem gok_dot {l : List UInt8} {n : Nat} (h : gok l n) : ∃ k, l[k]? = some 46 ∧ l.drop (k + 1) = decDigits n ∧ (∀ j, j < k → l[j]? ≠ some 46) ∧ k < l.length := by
  obtain ⟨_, _, rfl | rfl⟩ := h
  · refine ⟨4, rfl, rfl, ?_, by simp [snapS]⟩
    intro j hj
    match j, hj with
    | 0, _ => simp [snapS]
    | 1, _ => simp [snapS]
    | 2, _ => simp [snapS]
    | 3, _ => simp [snapS]
  · refine ⟨3, rfl, rfl, ?_, by simp [logS]⟩
    intro j hj
    match j, hj with
    | 0, _ => simp [logS]
    | 1, _ => simp [logS]
    | 2, _ => simp [logS]
theorem bstr_drop (xs : List UInt8) (k : Nat) : (bstr xs).extract k xs.length = bstr (xs.drop k) := by
  apply ByteArray.ext
  apply Array.ext'
  simp [bstr]
  exact List.take_of_length_le (by simp)
/-- The condition of the reference at place k fails. -/
def noAt (xs : List UInt8) (k : Nat) : Prop := xs[k]? = some 46 → ∀ n, gok xs n → xs.drop (k + 1) ≠ decDigits n
theorem no_gok {xs : List UInt8} (h : ∀ k, k < xs.length → noAt xs k) (n : Nat) : ¬ gok xs n := fun hg => by
  obtain ⟨k, h1, h2, _, h3⟩ := gok_dot hg
  exact h k h3 h1 n hg h2
end Go.Proofs.YtpaeffmjkkikbaaGreatDoor
