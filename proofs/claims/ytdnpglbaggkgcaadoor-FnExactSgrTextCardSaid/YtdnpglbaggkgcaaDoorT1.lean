/- Decimal numerals: both ways. -/
import Derived.Test.YtdnpglbaggkgcaaDoorP2
import Derived.Test.YtdnpglbaggkgcaaDoorD1
import Derived.Deep.RegionWith
namespace Go.Proofs.YtdnpglbaggkgcaaDoor
open Go.RowKit Go.Lib
set_option linter.unusedVariables false
set_option maxRecDepth 100000

def ntL (n : Int) : List UInt8 := if 0 ≤ n ∧ n ≤ 4294967295 then decDigits n.toNat else []
theorem nt_no {n : Int} (h : ¬ (0 ≤ n ∧ n ≤ 4294967295)) : ntL n = [] := if_neg h
theorem nt_yes {n : Nat} (h : (n : Int) ≤ 4294967295) : ntL n = decDigits n := by rw [ntL, if_pos ⟨by omega, h⟩]; rfl
theorem nt_small {n : Nat} (h : n < 10) : ∃ d : UInt8, (d.toNat : Int) = 48 + (n : Int) ∧ ntL n = [d] := ⟨_, by rw [dig_nat h]; simp, by rw [nt_yes (by omega), dec_small h]⟩
theorem nt_big {n : Nat} (h : ¬ n < 10) (h2 : (n : Int) ≤ 4294967295) : ∃ d : UInt8, (d.toNat : Int) = 48 + ((n % 10 : Nat) : Int) ∧ ntL n = ntL ((n / 10 : Nat) : Int) ++ [d] := ⟨UInt8.ofNat (48 + n % 10), by rw [dig_nat (Nat.mod_lt _ (by omega))]; simp, by rw [nt_yes h2, nt_yes (by omega), dec_big h]⟩

theorem nt_len {n : Int} : (ntL n).length ≤ 10 := by
  unfold ntL
  split
  · exact dec_len_le 9 n.toNat (by omega)
  · simp
theorem bstr_app (x y : List UInt8) : bstr x ++ bstr y = bstr (x ++ y) := ByteArray.mk_append_mk x y
theorem room_add (n : Int) {x : List UInt8} (h : x.length ≤ 1000) : ¬ 9223372036854775807 < (bstr (ntL n)).size + (bstr x).size ∧ ¬ 9223372036854775807 < (bstr x).size + (bstr (ntL n)).size := by
  have := nt_len (n := n)
  rw [bstr_size, bstr_size]
  omega
/-- One byte in a block of its own. -/
theorem by_one {w : World} {b : Nat} {d : UInt8} (h : w.cell? ⟨b, 0, none⟩ = some (.int .u8 (d.toNat : Int))) : By w (some ⟨b, 0, none⟩) [d] := by
  refine .inr ⟨b, 0, rfl, fun i x hx => ?_⟩
  rcases i with _ | i
  · simp at hx; subst hx; simpa using h
  · simp at hx

set_option maxHeartbeats 1000000 in
theorem numText_spec (n : Int) (w : World) (hn : -9223372036854775808 ≤ n ∧ n ≤ 9223372036854775807) :
    Calls Tryd.prog 10 #[.int .i64 n] w fun e w' => e = .returned (.string (bstr (ntL n))) ∧ Below w.heap.size w w' := by
  by_cases hr : 0 ≤ n ∧ n ≤ 4294967295
  case neg =>
    rw [nt_no hr]
    have HR := Lib.hid (decide_eq_false (p := 0 ≤ n ∧ n ≤ 4294967295) hr)
    clear hr
    go_enter Tryd.func10, Tryd.ntmps10
    go_wp2_with (go_at_call 28; refine (l01Num_any _ _).mono ?_; rintro e w' ⟨he, rfl⟩; rw [HR.out] at he; subst he)
    go_ret
    exact ⟨rfl, (by (repeat (first | exact Below.refl _ _ | (refine Below.alloc ?_ (by first | omega | (simp; done) | (simp; omega)) _) | (refine Below.drew ?_) | (refine below_drewN ?_ _) | (refine below_at1 ?_ (by first | omega | (simp; done) | (simp; omega))) | (refine Below.setCell ?_ (by first | omega | (simp; done) | (simp; omega)) _) | (refine Below.trans ?_ (Below.mono (by assumption) (by first | omega | (simp; done) | (simp; omega)))))))⟩
  obtain ⟨k, rfl⟩ := Int.eq_ofNat_of_zero_le hr.1
  have hk := hr.2
  clear hr
  induction k using Nat.strongRecOn generalizing w with
  | _ k ih =>
    have HR := Lib.hid (decide_eq_true (p := 0 ≤ (k : Int) ∧ (k : Int) ≤ 4294967295) ⟨by omega, hk⟩)
    by_cases hs : k < 10
    · obtain ⟨d, hd, hN⟩ := nt_small hs
      have HN := Lib.hid hN
      clear hN
      have hs' : (k : Int) < 10 := by omega
      have ek : IntKind.u8.wrap (48 + (k : Int)) = 48 + (k : Int) := by rw [IntKind.wrap_u8]; omega
      clear ih
      rw [HN.out]
      have hcv : (convert 37 9 (.slice (some ⟨w.heap.size, 0, none⟩) 1 1)).run Tryd.prog (w.alloc (.cells #[.int .u8 (48 + (k : Int))] 5)) = .ok (.string (bstr [d])) (w.alloc (.cells #[.int .u8 (48 + (k : Int))] 5)) :=
        conv_by (c := 1) (by_one (d := d) (by rw [World.cell?_alloc_new, hd]; rfl))
      go_enter Tryd.func10, Tryd.ntmps10
      go_wp2_with (go_at_call 28; refine (l01Num_any _ _).mono ?_; rintro e w' ⟨he, rfl⟩; rw [HR.out] at he; subst he)
      go_ret
      exact ⟨rfl, (by (repeat (first | exact Below.refl _ _ | (refine Below.alloc ?_ (by first | omega | (simp; done) | (simp; omega)) _) | (refine Below.drew ?_) | (refine below_drewN ?_ _) | (refine below_at1 ?_ (by first | omega | (simp; done) | (simp; omega))) | (refine Below.setCell ?_ (by first | omega | (simp; done) | (simp; omega)) _) | (refine Below.trans ?_ (Below.mono (by assumption) (by first | omega | (simp; done) | (simp; omega)))))))⟩
    · obtain ⟨d, hd, hN⟩ := nt_big hs hk
      have hs' : ¬ (k : Int) < 10 := by omega
      have em : Int.tmod (k : Int) 10 = ((k % 10 : Nat) : Int) := (Int.ofNat_tmod _ _).symm
      have ed : Int.tdiv (k : Int) 10 = ((k / 10 : Nat) : Int) := (Int.ofNat_tdiv _ _).symm
      have hm : k % 10 < 10 := Nat.mod_lt _ (by omega)
      have hq : k / 10 < k := by omega
      have hq' : ((k / 10 : Nat) : Int) ≤ 4294967295 := by omega
      rw [hN]
      clear hN
      have IH := Lib.hid (fun w' => ih (k / 10) hq w' ⟨by omega, by omega⟩ hq')
      clear ih
      obtain ⟨m, hm0⟩ : ∃ m, m = k % 10 := ⟨_, rfl⟩
      obtain ⟨q, hq0⟩ : ∃ q, q = k / 10 := ⟨_, rfl⟩
      rw [← hm0] at em hd hm
      rw [← hq0] at ed IH hq hq' ⊢
      clear hm0 hq0
      have ek : IntKind.u8.wrap (48 + (m : Int)) = 48 + (m : Int) := by rw [IntKind.wrap_u8]; omega
      go_enter Tryd.func10, Tryd.ntmps10
      go_wp2_with (go_at_call 28; refine (l01Num_any _ _).mono ?_; rintro e w' ⟨he, rfl⟩; rw [HR.out] at he; subst he)
      have k0 : Below w.heap.size w w.drew := Below.drew (Below.refl _ _)
      have k1 : Below w.heap.size w (w.alloc (.cells #[.int .u8 (48 + (m : Int))] 5)).drew := Below.drew ((Below.refl _ _).alloc (Nat.le_refl _) _)
      have c1 : (w.alloc (.cells #[.int .u8 (48 + (m : Int))] 5)).drew.cell? ⟨w.heap.size, 0, none⟩ = some (.int .u8 (48 + (m : Int))) := World.cell?_alloc_new w _ _ _
      have eqk : IntKind.i64.wrap (q : Int) = (q : Int) := by rw [IntKind.wrap_i64]; omega
      have emk : IntKind.i64.wrap (48 + (m : Int)) = 48 + (m : Int) := by rw [IntKind.wrap_i64]; omega
      have cv : ∀ (W : World) (b : Nat), W.cell? ⟨b, 0, none⟩ = some (.int .u8 (48 + (m : Int))) → (convert 37 9 (.slice (some ⟨b, 0, none⟩) 1 1)).run Tryd.prog W = .ok (.string (bstr [d])) W := fun W b h => conv_by (c := 1) (by_one (d := d) (by rw [hd]; exact h))
      have CV := Lib.hid cv
      clear cv
      have v1 := CV.out _ _ c1
      have hrm := (room_add q (x := [d]) (by simp)).1
      go_region_with (go_at_call 10; refine (IH.out _).mono ?_; rintro e w1 ⟨rfl, hb1⟩; (first | (have hk1 : Below w.heap.size w w1 := k1.trans (hb1.mono k1.size); have hc1 : w1.cell? ⟨w.heap.size, 0, none⟩ = some (.int .u8 (48 + (m : Int))) := (hb1.cell (World.block_lt_of_cell? _ _ c1)).trans c1; have v2 := CV.out _ _ hc1) | (have hk1 : Below w.heap.size w w1 := k0.trans (hb1.mono k0.size); have hk2 := hk1.alloc hk1.size (.cells #[.int .u8 (48 + (m : Int))] 5); have hc2 : (w1.alloc (.cells #[.int .u8 (48 + (m : Int))] 5)).cell? ⟨w1.heap.size, 0, none⟩ = some (.int .u8 (48 + (m : Int))) := World.cell?_alloc_new w1 _ _ _; have v2 := CV.out _ _ hc2)))
      all_goals (go_wp2_with fail; exact bodyPost_ret (v := .string (bstr (ntL q ++ [d]))) (by simp [results, Tryd.results10, go_sem, *, bstr_app]) rfl ⟨rfl, by first | assumption | exact Below.drew (by assumption)⟩)
end Go.Proofs.YtdnpglbaggkgcaaDoor
