/- What decimal numerals spell (plain law). Decimal numerals: both ways. Decimal numerals: the program's way, and the names of files. The names of files: both ways, and their laws. -/
import Derived.Lib.ItoaNum
import Derived.Lib.AtoiAll
import Derived.Test.YtpaeffmjkkikbaaGreatDoorP2
import Derived.Deep.RegionWith
import Derived.Test.YtpaeffmjkkikbaaGreatDoorSh1
import Derived.Lib.AppendIntMem
import Derived.Lib.LaidTab
import Derived.MakeChecks
import Derived.Stop.LaidErr
import Derived.Test.YtpaeffmjkkikbaaGreatDoorRows
namespace Go.Proofs.YtpaeffmjkkikbaaGreatDoor
open Go.RowKit

open Go.Lib
/-- What decimal digits spell. -/
def valF (l : List UInt8) : Nat := l.foldl (fun a c => a * 10 + (c.toNat - 48)) 0
def tnB (l : List UInt8) : Bool := decide (valF l ≤ 4294967295 ∧ decDigits (valF l) = l)
theorem dec_small {u : Nat} (h : u < 10) : decDigits u = [UInt8.ofNat (48 + u)] := by rw [decDigits, dif_pos h]
theorem dec_big {u : Nat} (h : ¬ u < 10) : decDigits u = decDigits (u / 10) ++ [UInt8.ofNat (48 + u % 10)] := by rw [decDigits, dif_neg h]
theorem dig_nat {u : Nat} (h : u < 10) : (UInt8.ofNat (48 + u)).toNat = 48 + u := by
  rw [UInt8.toNat_ofNat']; omega
theorem valF_snoc (l : List UInt8) (c : UInt8) : valF (l ++ [c]) = valF l * 10 + (c.toNat - 48) := by simp [valF]
theorem valF_dec (u : Nat) : valF (decDigits u) = u := by
  induction u using Nat.strongRecOn with
  | _ u ih =>
    by_cases h : u < 10
    · rw [dec_small h]; simp only [valF, List.foldl, dig_nat h]; omega
    · rw [dec_big h, valF_snoc, ih (u / 10) (by omega), dig_nat (by omega)]; omega
theorem dec_digit (u : Nat) : ∀ c ∈ decDigits u, 48 ≤ c.toNat ∧ c.toNat ≤ 57 := by
  induction u using Nat.strongRecOn with
  | _ u ih =>
    intro c hc
    by_cases h : u < 10
    · rw [dec_small h] at hc; simp only [List.mem_singleton] at hc; subst hc; rw [dig_nat h]; omega
    · rw [dec_big h, List.mem_append] at hc
      rcases hc with hc | hc
      · exact ih (u / 10) (by omega) c hc
      · simp only [List.mem_singleton] at hc; subst hc; rw [dig_nat (by omega)]; omega
theorem dec_ne (u : Nat) : decDigits u ≠ [] := by
  by_cases h : u < 10
  · rw [dec_small h]; simp
  · rw [dec_big h]; simp
theorem dec_len_le : ∀ (k u : Nat), u < 10 ^ (k + 1) → (decDigits u).length ≤ k + 1
  | 0, u, h => by rw [dec_small (by simpa using h)]; simp
  | k + 1, u, h => by
    by_cases h1 : u < 10
    · rw [dec_small h1]; simp
    · rw [dec_big h1, List.length_append]
      have h2 : u / 10 < 10 ^ (k + 1) := by rw [Nat.pow_succ] at h; omega
      have := dec_len_le k (u / 10) h2
      simp; omega
theorem tn_dec {n : Nat} (h : n ≤ 4294967295) : tnB (decDigits n) = true := by
  unfold tnB; rw [valF_dec]; simpa using h
theorem tn_iff {l : List UInt8} : tnB l = true ↔ ∃ n, n ≤ 4294967295 ∧ l = decDigits n := by
  constructor
  · intro h; unfold tnB at h; simp only [decide_eq_true_eq] at h; exact ⟨_, h.1, h.2.symm⟩
  · rintro ⟨n, h, rfl⟩; exact tn_dec h
theorem tn_len {l : List UInt8} (h : tnB l = true) : 1 ≤ l.length ∧ l.length ≤ 10 := by
  obtain ⟨n, hn, rfl⟩ := tn_iff.1 h
  refine ⟨?_, dec_len_le 9 n (by omega)⟩
  have := dec_ne n
  cases hd : decDigits n with
  | nil => exact absurd hd this
  | cons _ _ => simp
theorem tn_digit {l : List UInt8} (h : tnB l = true) : ∀ c ∈ l, 48 ≤ c.toNat ∧ c.toNat ≤ 57 := by
  obtain ⟨n, hn, rfl⟩ := tn_iff.1 h
  exact dec_digit n
theorem parse_fold : ∀ (l : List UInt8) (acc : Nat), (∀ c ∈ l, 48 ≤ c.toNat ∧ c.toNat ≤ 57) → l.foldl (fun a c => a * 10 + (c.toNat - 48)) acc < 18446744073709551616 → parseUint10 acc l = .ok (l.foldl (fun a c => a * 10 + (c.toNat - 48)) acc)
  | [], acc, _, _ => rfl
  | c :: r, acc, hd, hb => by
    have hc := hd c (by simp)
    have hmono : ∀ (r : List UInt8) (a : Nat), a ≤ r.foldl (fun a c => a * 10 + (c.toNat - 48)) a := by
      intro r
      induction r with
      | nil => intro a; exact Nat.le_refl _
      | cons x r ih => intro a; exact Nat.le_trans (by omega) (ih (a * 10 + (x.toNat - 48)))
    have h1 := hmono r (acc * 10 + (c.toNat - 48))
    simp only [List.foldl] at hb ⊢
    rw [parseUint10, if_pos hc, if_neg (by omega), if_neg (by omega)]
    exact parse_fold r _ (fun x hx => hd x (by simp [hx])) hb
theorem atoi_dec {n : Nat} (h : n ≤ 4294967295) : atoiAll (decDigits n) = .ok (n : Int) := by
  have hd := dec_digit n
  have hv := valF_dec n
  have hp := parse_fold (decDigits n) 0 hd (by show valF (decDigits n) < _; rw [hv]; omega)
  have hp : parseUint10 0 (decDigits n) = .ok n := by rw [hp]; congr 1
  have hne := dec_ne n
  generalize decDigits n = l at hp hd hne
  cases l with
  | nil => exact absurd rfl hne
  | cons c r =>
    have hc := hd c (by simp)
    have e1 : ¬ (c.toNat = 43 ∨ c.toNat = 45) := by omega
    have e2 : ¬ c.toNat = 45 := by omega
    have e3 : parseMag (c :: r) = .ok n := by rw [parseMag, if_neg (by simp), hp]
    simp only [atoiAll]
    rw [if_neg e1, e3]
    simp only [e2, not_false_eq_true, true_and, false_and, if_false]
    rw [if_neg (by omega)]
/-- What the program's TextNum asks: Atoi, and the numeral again. -/
theorem tn_of_atoi {l : List UInt8} {v : Int} (h : atoiAll l = .ok v) (h0 : 0 ≤ v) (h1 : v ≤ 4294967295) : tnB l = decide (decDigits v.toNat = l) := by
  rw [Bool.eq_iff_iff, decide_eq_true_eq, tn_iff]
  constructor
  · rintro ⟨n, hn, rfl⟩
    rw [atoi_dec hn] at h
    cases h
    simp
  · intro e
    exact ⟨v.toNat, by omega, e.symm⟩
theorem tn_out {l : List UInt8} {v : Int} (h : atoiAll l = .ok v) (h0 : ¬ (0 ≤ v ∧ v ≤ 4294967295)) : tnB l = false := by
  rw [Bool.eq_false_iff, ne_eq, tn_iff]
  rintro ⟨n, hn, rfl⟩
  rw [atoi_dec hn] at h
  cases h
  omega
theorem tn_err {l : List UInt8} (h : ∀ v, atoiAll l ≠ .ok v) : tnB l = false := by
  rw [Bool.eq_false_iff, ne_eq, tn_iff]
  rintro ⟨n, hn, rfl⟩
  exact h _ (atoi_dec hn)
theorem tn_val {l : List UInt8} {v : Int} (h : atoiAll l = .ok v) (ht : tnB l = true) : v = (valF l : Int) := by
  obtain ⟨n, hn, rfl⟩ := tn_iff.1 ht
  rw [atoi_dec hn] at h
  cases h
  rw [valF_dec]
theorem dec_inj {a b : Nat} (h : decDigits a = decDigits b) : a = b := by rw [← valF_dec a, ← valF_dec b, h]

open Go.RowKit Go.Lib
set_option linter.unusedVariables false
set_option maxRecDepth 100000

def ntL (n : Int) : List UInt8 := if 0 ≤ n ∧ n ≤ 4294967295 then decDigits n.toNat else []
theorem nt_no {n : Int} (h : ¬ (0 ≤ n ∧ n ≤ 4294967295)) : ntL n = [] := if_neg h
theorem nt_yes {n : Nat} (h : (n : Int) ≤ 4294967295) : ntL n = decDigits n := by rw [ntL, if_pos ⟨by omega, h⟩]; rfl
theorem nt_small {n : Nat} (h : n < 10) : ∃ d : UInt8, (d.toNat : Int) = 48 + (n : Int) ∧ ntL n = [d] := ⟨_, by rw [dig_nat h]; simp, by rw [nt_yes (by omega), dec_small h]⟩
theorem nt_big {n : Nat} (h : ¬ n < 10) (h2 : (n : Int) ≤ 4294967295) : ∃ d : UInt8, (d.toNat : Int) = 48 + ((n % 10 : Nat) : Int) ∧ ntL n = ntL ((n / 10 : Nat) : Int) ++ [d] := ⟨UInt8.ofNat (48 + n % 10), by rw [dig_nat (Nat.mod_lt _ (by omega))]; simp, by rw [nt_yes h2, nt_yes (by omega), dec_big h]⟩

theorem nt_len {n : Int} : (ntL n).length ≤ 10 := by
  unfold ntL
  split
  · exact dec_len_le 9 n.toNat (by omega)
  · simp
theorem bstr_app (x y : List UInt8) : bstr x ++ bstr y = bstr (x ++ y) := ByteArray.mk_append_mk x y
theorem room_add (n : Int) {x : List UInt8} (h : x.length ≤ 1000) : ¬ 9223372036854775807 < (bstr (ntL n)).size + (bstr x).size ∧ ¬ 9223372036854775807 < (bstr x).size + (bstr (ntL n)).size := by
  have := nt_len (n := n)
  rw [bstr_size, bstr_size]
  omega
/-- One byte in a block of its own. -/
theorem by_one {w : World} {b : Nat} {d : UInt8} (h : w.cell? ⟨b, 0, none⟩ = some (.int .u8 (d.toNat : Int))) : By w (some ⟨b, 0, none⟩) [d] := by
  refine .inr ⟨b, 0, rfl, fun i x hx => ?_⟩
  rcases i with _ | i
  · simp at hx; subst hx; simpa using h
  · simp at hx

set_option maxHeartbeats 1000000 in
theorem numText_spec (n : Int) (w : World) (hn : -9223372036854775808 ≤ n ∧ n ≤ 9223372036854775807) :
    Calls Tryz.prog 88 #[.int .i64 n] w fun e w' => e = .returned (.string (bstr (ntL n))) ∧ Below w.heap.size w w' := by
  by_cases hr : 0 ≤ n ∧ n ≤ 4294967295
  case neg =>
    rw [nt_no hr]
    have HR := Lib.hid (decide_eq_false (p := 0 ≤ n ∧ n ≤ 4294967295) hr)
    clear hr
    go_enter Tryz.func88, Tryz.ntmps88
    go_wp2_with (go_at_call 112; refine (l01Num_any _ _).mono ?_; rintro e w' ⟨he, rfl⟩; rw [HR.out] at he; subst he)
    go_ret
    exact ⟨rfl, (by (repeat (first | exact Below.refl _ _ | (refine Below.alloc ?_ (by first | omega | (simp; done) | (simp; omega)) _) | (refine Below.drew ?_) | (refine below_drewN ?_ _) | (refine below_at1 ?_ (by first | omega | (simp; done) | (simp; omega))) | (refine Below.setCell ?_ (by first | omega | (simp; done) | (simp; omega)) _) | (refine Below.trans ?_ (Below.mono (by assumption) (by first | omega | (simp; done) | (simp; omega)))))))⟩
  obtain ⟨k, rfl⟩ := Int.eq_ofNat_of_zero_le hr.1
  have hk := hr.2
  clear hr
  induction k using Nat.strongRecOn generalizing w with
  | _ k ih =>
    have HR := Lib.hid (decide_eq_true (p := 0 ≤ (k : Int) ∧ (k : Int) ≤ 4294967295) ⟨by omega, hk⟩)
    by_cases hs : k < 10
    · obtain ⟨d, hd, hN⟩ := nt_small hs
      have HN := Lib.hid hN
      clear hN
      have hs' : (k : Int) < 10 := by omega
      have ek : IntKind.u8.wrap (48 + (k : Int)) = 48 + (k : Int) := by rw [IntKind.wrap_u8]; omega
      clear ih
      rw [HN.out]
      have hcv : (convert 28 9 (.slice (some ⟨w.heap.size, 0, none⟩) 1 1)).run Tryz.prog (w.alloc (.cells #[.int .u8 (48 + (k : Int))] 5)) = .ok (.string (bstr [d])) (w.alloc (.cells #[.int .u8 (48 + (k : Int))] 5)) :=
        conv_by (c := 1) (by_one (d := d) (by rw [World.cell?_alloc_new, hd]; rfl))
      go_enter Tryz.func88, Tryz.ntmps88
      go_wp2_with (go_at_call 112; refine (l01Num_any _ _).mono ?_; rintro e w' ⟨he, rfl⟩; rw [HR.out] at he; subst he)
      go_ret
      exact ⟨rfl, (by (repeat (first | exact Below.refl _ _ | (refine Below.alloc ?_ (by first | omega | (simp; done) | (simp; omega)) _) | (refine Below.drew ?_) | (refine below_drewN ?_ _) | (refine below_at1 ?_ (by first | omega | (simp; done) | (simp; omega))) | (refine Below.setCell ?_ (by first | omega | (simp; done) | (simp; omega)) _) | (refine Below.trans ?_ (Below.mono (by assumption) (by first | omega | (simp; done) | (simp; omega)))))))⟩
    · obtain ⟨d, hd, hN⟩ := nt_big hs hk
      have hs' : ¬ (k : Int) < 10 := by omega
      have em : Int.tmod (k : Int) 10 = ((k % 10 : Nat) : Int) := (Int.ofNat_tmod _ _).symm
      have ed : Int.tdiv (k : Int) 10 = ((k / 10 : Nat) : Int) := (Int.ofNat_tdiv _ _).symm
      have hm : k % 10 < 10 := Nat.mod_lt _ (by omega)
      have hq : k / 10 < k := by omega
      have hq' : ((k / 10 : Nat) : Int) ≤ 4294967295 := by omega
      rw [hN]
      clear hN
      have IH := Lib.hid (fun w' => ih (k / 10) hq w' ⟨by omega, by omega⟩ hq')
      clear ih
      obtain ⟨m, hm0⟩ : ∃ m, m = k % 10 := ⟨_, rfl⟩
      obtain ⟨q, hq0⟩ : ∃ q, q = k / 10 := ⟨_, rfl⟩
      rw [← hm0] at em hd hm
      rw [← hq0] at ed IH hq hq' ⊢
      clear hm0 hq0
      have ek : IntKind.u8.wrap (48 + (m : Int)) = 48 + (m : Int) := by rw [IntKind.wrap_u8]; omega
      go_enter Tryz.func88, Tryz.ntmps88
      go_wp2_with (go_at_call 112; refine (l01Num_any _ _).mono ?_; rintro e w' ⟨he, rfl⟩; rw [HR.out] at he; subst he)
      have k0 : Below w.heap.size w w.drew := Below.drew (Below.refl _ _)
      have k1 : Below w.heap.size w (w.alloc (.cells #[.int .u8 (48 + (m : Int))] 5)).drew := Below.drew ((Below.refl _ _).alloc (Nat.le_refl _) _)
      have c1 : (w.alloc (.cells #[.int .u8 (48 + (m : Int))] 5)).drew.cell? ⟨w.heap.size, 0, none⟩ = some (.int .u8 (48 + (m : Int))) := World.cell?_alloc_new w _ _ _
      have eqk : IntKind.i64.wrap (q : Int) = (q : Int) := by rw [IntKind.wrap_i64]; omega
      have emk : IntKind.i64.wrap (48 + (m : Int)) = 48 + (m : Int) := by rw [IntKind.wrap_i64]; omega
      have cv : ∀ (W : World) (b : Nat), W.cell? ⟨b, 0, none⟩ = some (.int .u8 (48 + (m : Int))) → (convert 28 9 (.slice (some ⟨b, 0, none⟩) 1 1)).run Tryz.prog W = .ok (.string (bstr [d])) W := fun W b h => conv_by (c := 1) (by_one (d := d) (by rw [hd]; exact h))
      have CV := Lib.hid cv
      clear cv
      have v1 := CV.out _ _ c1
      have hrm := (room_add q (x := [d]) (by simp)).1
      go_region_with (go_at_call 88; refine (IH.out _).mono ?_; rintro e w1 ⟨rfl, hb1⟩; (first | (have hk1 : Below w.heap.size w w1 := k1.trans (hb1.mono k1.size); have hc1 : w1.cell? ⟨w.heap.size, 0, none⟩ = some (.int .u8 (48 + (m : Int))) := (hb1.cell (World.block_lt_of_cell? _ _ c1)).trans c1; have v2 := CV.out _ _ hc1) | (have hk1 : Below w.heap.size w w1 := k0.trans (hb1.mono k0.size); have hk2 := hk1.alloc hk1.size (.cells #[.int .u8 (48 + (m : Int))] 5); have hc2 : (w1.alloc (.cells #[.int .u8 (48 + (m : Int))] 5)).cell? ⟨w1.heap.size, 0, none⟩ = some (.int .u8 (48 + (m : Int))) := World.cell?_alloc_new w1 _ _ _; have v2 := CV.out _ _ hc2)))
      all_goals (go_wp2_with fail; exact bodyPost_ret (v := .string (bstr (ntL q ++ [d]))) (by simp [results, Tryz.results88, go_sem, *, bstr_app]) rfl ⟨rfl, by first | assumption | exact Below.drew (by assumption)⟩)

open Go.RowKit Go.Lib
set_option linter.unusedVariables false
set_option maxRecDepth 100000

/-- The library's table of powers of ten. -/
def Tb (w : World) : Prop := TabIs Tryz.prog w "internal/strconv.uint64pow10" .u64 pow10Tab
theorem Tb.below {w w' : World} (ht : Tb w) {B : Nat} (h : Below B w w') (hB : w.heap.size ≤ B) : Tb w' := by
  unfold Tb TabIs World.var? at *
  cases hg : (Tryz.prog).globalNamed "internal/strconv.uint64pow10" with
  | none => simp [hg] at ht
  | some g =>
    simp only [hg, Option.bind_some] at ht ⊢
    have hlt : g < w.heap.size := by
      rcases Nat.lt_or_ge g w.heap.size with h' | h'
      · exact h'
      · rw [Array.getElem?_eq_none h'] at ht; simp at ht
    rw [h.block g (by omega)]
    exact ht
theorem tb_met {r : List (String × DataW Unit)} {w : World} (h : laidMet Tryz.prog (("math/bits.deBruijn32tab", Rows.laid_math_bits_deBruijn32tab) :: ("math/bits.deBruijn64tab", Rows.laid_math_bits_deBruijn64tab) :: ("internal/strconv.uint64pow10", Rows.laid_internal_strconv_uint64pow10) :: r) w) : Tb w :=
  tabIs_of_head (zs := pow10Tab) (k := .u64) (g := 3) (t := 200) (e := 174) (n := 20) (by kernel_rfl) (by kernel_rfl) Tryz.underlying200 Tryz.underlying174 (by kernel_rfl) (by kernel_rfl) h.tail.tail
theorem itoa_nat {k : Nat} : itoa (k : Int) = decDigits k := by rw [itoa_nonneg]
theorem numText_impl (n : Int) (w : World) (hn : -9223372036854775808 ≤ n ∧ n ≤ 9223372036854775807) (ht : Tb w) :
    Calls Tryz.prog 63 #[.int .i64 n] w fun e w' => e = .returned (.string (bstr (ntL n))) ∧ Below w.heap.size w w' := by
  by_cases hr : 0 ≤ n ∧ n ≤ 4294967295
  case neg =>
    rw [nt_no hr]
    have HR := Lib.hid (decide_eq_false (p := 0 ≤ n ∧ n ≤ 4294967295) hr)
    clear hr
    go_enter Tryz.func63, Tryz.ntmps63
    go_wp2_with (go_at_call 93; refine (isNum_any _ _).mono ?_; rintro e w' ⟨he, rfl⟩; rw [HR.out] at he; subst he)
    go_ret
    exact ⟨rfl, (by (repeat (first | exact Below.refl _ _ | (refine Below.alloc ?_ (by first | omega | (simp; done) | (simp; omega)) _) | (refine Below.drew ?_) | (refine below_drewN ?_ _) | (refine below_at1 ?_ (by first | omega | (simp; done) | (simp; omega))) | (refine Below.setCell ?_ (by first | omega | (simp; done) | (simp; omega)) _) | (refine Below.trans ?_ (Below.mono (by assumption) (by first | omega | (simp; done) | (simp; omega)))))))⟩
  obtain ⟨k, rfl⟩ := Int.eq_ofNat_of_zero_le hr.1
  have HR := Lib.hid (decide_eq_true (p := 0 ≤ (k : Int) ∧ (k : Int) ≤ 4294967295) hr)
  have HN := Lib.hid (nt_yes hr.2)
  clear hr
  rw [HN.out]
  go_enter Tryz.func63, Tryz.ntmps63
  go_wp2_with (first | (go_at_call 93; refine (isNum_any _ _).mono ?_; rintro e w' ⟨he, rfl⟩; rw [HR.out] at he; subst he) | (go_at_call 94; refine (Tryz.strconv_Itoa _ hn.1 hn.2 _ ht).mono ?_; rintro e w' ⟨he, m, os, hw⟩; rw [itoa_nat] at he; subst he; replace hw : Below w.heap.size w w' := by rw [hw]; exact below_grow _ _ (Nat.le_refl _) _ _))
  go_ret
  exact ⟨rfl, hw⟩
open Go.RowKit Go.Lib
set_option linter.unusedVariables false
set_option maxRecDepth 100000

def genB (n : Int) : Bool := decide (1 ≤ n ∧ n ≤ 1000000000)
/-- A file's name. -/
def nmL (p : List UInt8) (n : Int) : List UInt8 := if 1 ≤ n ∧ n ≤ 1000000000 then p ++ ntL n else []
def snapS : List UInt8 := [115, 110, 97, 112, 46]
def logS : List UInt8 := [108, 111, 103, 46]
theorem l04Name_any (p : List UInt8) (hp : p.length ≤ 1000) (n : Int) (w : World) (hn : -9223372036854775808 ≤ n ∧ n ≤ 9223372036854775807) :
    Calls Tryz.prog 55 #[.string (bstr p), .int .i64 n] w fun e w' => e = .returned (.string (bstr (nmL p n))) ∧ Below w.heap.size w w' := by
  by_cases h1 : 1 ≤ n
  case neg =>
    have HR : Hid (nmL p n = []) := by show _ = _; exact if_neg (fun h => h1 h.1)
    rw [HR.out]
    have h1' : n < 1 := by omega
    go_enter Tryz.func55, Tryz.ntmps55
    go_wp2_with fail
    go_ret
    exact ⟨rfl, (by (repeat (first | exact Below.refl _ _ | (refine Below.alloc ?_ (by first | omega | (simp; done) | (simp; omega)) _) | (refine Below.drew ?_) | (refine below_drewN ?_ _) | (refine below_at1 ?_ (by first | omega | (simp; done) | (simp; omega))) | (refine Below.setCell ?_ (by first | omega | (simp; done) | (simp; omega)) _) | (refine Below.trans ?_ (Below.mono (by assumption) (by first | omega | (simp; done) | (simp; omega)))))))⟩
  by_cases h2 : n ≤ 1000000000
  case neg =>
    have HR : Hid (nmL p n = []) := by show _ = _; exact if_neg (fun h => h2 h.2)
    rw [HR.out]
    have h2' : 1000000000 < n := by omega
    go_enter Tryz.func55, Tryz.ntmps55
    go_wp2_with fail
    go_ret
    exact ⟨rfl, (by (repeat (first | exact Below.refl _ _ | (refine Below.alloc ?_ (by first | omega | (simp; done) | (simp; omega)) _) | (refine Below.drew ?_) | (refine below_drewN ?_ _) | (refine below_at1 ?_ (by first | omega | (simp; done) | (simp; omega))) | (refine Below.setCell ?_ (by first | omega | (simp; done) | (simp; omega)) _) | (refine Below.trans ?_ (Below.mono (by assumption) (by first | omega | (simp; done) | (simp; omega)))))))⟩
  have HR : Hid (nmL p n = p ++ ntL n) := by show _ = _; exact if_pos ⟨h1, h2⟩
  rw [HR.out]
  have hrm := (room_add n hp).2
  go_enter Tryz.func55, Tryz.ntmps55
  go_wp2_with fail
  refine (numText_spec n w hn).mono ?_
  rintro e w1 ⟨rfl, hb1⟩
  go_wp2_with fail
  exact bodyPost_ret (v := .string (bstr (p ++ ntL n))) (by simp [results, Tryz.results55, go_sem, *, bstr_app]) rfl ⟨rfl, hb1⟩
theorem snapName_spec (n : Int) (w : World) (hn : -9223372036854775808 ≤ n ∧ n ≤ 9223372036854775807) :
    Calls Tryz.prog 25 #[.int .i64 n] w fun e w' => e = .returned (.string (bstr (nmL snapS n))) ∧ Below w.heap.size w w' := by
  go_enter Tryz.func25, Tryz.ntmps25
  go_wp2_with fail
  refine (l04Name_any snapS (by decide) n w hn).mono ?_
  rintro e w1 ⟨rfl, hb1⟩
  go_wp2_with fail
  go_ret
  exact ⟨rfl, hb1⟩
theorem logName_spec (n : Int) (w : World) (hn : -9223372036854775808 ≤ n ∧ n ≤ 9223372036854775807) :
    Calls Tryz.prog 41 #[.int .i64 n] w fun e w' => e = .returned (.string (bstr (nmL logS n))) ∧ Below w.heap.size w w' := by
  go_enter Tryz.func41, Tryz.ntmps41
  go_wp2_with fail
  refine (l04Name_any logS (by decide) n w hn).mono ?_
  rintro e w1 ⟨rfl, hb1⟩
  go_wp2_with fail
  go_ret
  exact ⟨rfl, hb1⟩
theorem isGen_any (n : Int) (w : World) : Calls Tryz.prog 62 #[.int .i64 n] w fun e w' => e = .returned (.bool (genB n)) ∧ w = w' := by
  go_enter Tryz.func62, Tryz.ntmps62
  go_wp2_with (go_at_call 81; refine (within_any _ _ _ _).mono ?_; rintro e w' ⟨rfl, rfl⟩)
  go_ret
  exact ⟨ret_bool (by simp [genB]), rfl⟩
theorem snapName_impl (n : Int) (w : World) (hn : -9223372036854775808 ≤ n ∧ n ≤ 9223372036854775807) (ht : Tb w) :
    Calls Tryz.prog 31 #[.int .i64 n] w fun e w' => e = .returned (.string (bstr (nmL snapS n))) ∧ Below w.heap.size w w' := by
  by_cases h1 : 1 ≤ n ∧ n ≤ 1000000000
  case neg =>
    have HR : Hid (nmL snapS n = []) := by show _ = _; exact if_neg h1
    have HB : Hid (genB n = false) := decide_eq_false h1
    rw [HR.out]
    clear h1
    go_enter Tryz.func31, Tryz.ntmps31
    go_wp2_with (go_at_call 62; refine (isGen_any _ _).mono ?_; rintro e w' ⟨he, rfl⟩; rw [HB.out] at he; subst he)
    go_ret
    exact ⟨rfl, (by (repeat (first | exact Below.refl _ _ | (refine Below.alloc ?_ (by first | omega | (simp; done) | (simp; omega)) _) | (refine Below.drew ?_) | (refine below_drewN ?_ _) | (refine below_at1 ?_ (by first | omega | (simp; done) | (simp; omega))) | (refine Below.setCell ?_ (by first | omega | (simp; done) | (simp; omega)) _) | (refine Below.trans ?_ (Below.mono (by assumption) (by first | omega | (simp; done) | (simp; omega)))))))⟩
  have HR : Hid (nmL snapS n = snapS ++ ntL n) := by show _ = _; exact if_pos h1
  have HB : Hid (genB n = true) := decide_eq_true h1
  rw [HR.out]
  clear h1
  have hrm : ¬ 9223372036854775807 < 5 + (bstr (ntL n)).size := by
    have := nt_len (n := n)
    rw [bstr_size]
    omega
  have hap : (ByteArray.mk (snapS.toArray)) ++ bstr (ntL n) = bstr (snapS ++ ntL n) := bstr_app snapS _
  simp only [snapS] at hap
  go_enter Tryz.func31, Tryz.ntmps31
  go_wp2_with (first | (go_at_call 62; refine (isGen_any _ _).mono ?_; rintro e w' ⟨he, rfl⟩; rw [HB.out] at he; subst he) | (go_at_call 63; refine (numText_impl n _ hn ht).mono ?_; rintro e w1 ⟨rfl, hb1⟩))
  exact bodyPost_ret (v := .string (bstr (snapS ++ ntL n))) (by simp [results, Tryz.results31, go_sem, *, snapS]) rfl ⟨rfl, hb1⟩
theorem logName_impl (n : Int) (w : World) (hn : -9223372036854775808 ≤ n ∧ n ≤ 9223372036854775807) (ht : Tb w) :
    Calls Tryz.prog 44 #[.int .i64 n] w fun e w' => e = .returned (.string (bstr (nmL logS n))) ∧ Below w.heap.size w w' := by
  by_cases h1 : 1 ≤ n ∧ n ≤ 1000000000
  case neg =>
    have HR : Hid (nmL logS n = []) := by show _ = _; exact if_neg h1
    have HB : Hid (genB n = false) := decide_eq_false h1
    rw [HR.out]
    clear h1
    go_enter Tryz.func44, Tryz.ntmps44
    go_wp2_with (go_at_call 62; refine (isGen_any _ _).mono ?_; rintro e w' ⟨he, rfl⟩; rw [HB.out] at he; subst he)
    go_ret
    exact ⟨rfl, (by (repeat (first | exact Below.refl _ _ | (refine Below.alloc ?_ (by first | omega | (simp; done) | (simp; omega)) _) | (refine Below.drew ?_) | (refine below_drewN ?_ _) | (refine below_at1 ?_ (by first | omega | (simp; done) | (simp; omega))) | (refine Below.setCell ?_ (by first | omega | (simp; done) | (simp; omega)) _) | (refine Below.trans ?_ (Below.mono (by assumption) (by first | omega | (simp; done) | (simp; omega)))))))⟩
  have HR : Hid (nmL logS n = logS ++ ntL n) := by show _ = _; exact if_pos h1
  have HB : Hid (genB n = true) := decide_eq_true h1
  rw [HR.out]
  clear h1
  have hrm : ¬ 9223372036854775807 < 4 + (bstr (ntL n)).size := by
    have := nt_len (n := n)
    rw [bstr_size]
    omega
  have hap : (ByteArray.mk (logS.toArray)) ++ bstr (ntL n) = bstr (logS ++ ntL n) := bstr_app logS _
  simp only [logS] at hap
  go_enter Tryz.func44, Tryz.ntmps44
  go_wp2_with (first | (go_at_call 62; refine (isGen_any _ _).mono ?_; rintro e w' ⟨he, rfl⟩; rw [HB.out] at he; subst he) | (go_at_call 63; refine (numText_impl n _ hn ht).mono ?_; rintro e w1 ⟨rfl, hb1⟩))
  exact bodyPost_ret (v := .string (bstr (logS ++ ntL n))) (by simp [results, Tryz.results44, go_sem, *, logS]) rfl ⟨rfl, hb1⟩
end Go.Proofs.YtpaeffmjkkikbaaGreatDoor
