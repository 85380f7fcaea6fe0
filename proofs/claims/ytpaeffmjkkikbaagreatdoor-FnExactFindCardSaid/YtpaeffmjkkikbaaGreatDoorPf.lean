/- The law of FrameRead. A snapshot read: what is answered. A snapshot read: the program's way. A snapshot read: the program's way, whole. -/
import Derived.Test.YtpaeffmjkkikbaaGreatDoorPe
import Derived.Lib.Walk
import Derived.Lib.Strings
import Derived.Lib.Slices
import Derived.Laws.Strings3
import Derived.Deep.RegionHeld3
import Derived.Deep.DeepCutAuto
namespace Go.Proofs.YtpaeffmjkkikbaaGreatDoor
open Go.RowKit

set_option linter.unusedVariables false
set_option maxRecDepth 100000

theorem frR_len (xs : List UInt8) (z : Int) : (frR xs z).2.1.length ≤ 60000 := by
  unfold frR frB3 frT
  (repeat' split) <;> simp <;> omega
theorem fr_len {xs : List UInt8} {z : Int} {n p k : Int} {us : List UInt8} (h : frR xs z = (n, us, p, k)) : us.length ≤ 60000 := by
  have := frR_len xs z
  rw [h] at this
  exact this
theorem fr_eq {r : FrOut} {n p k n' p' k' : Int} {us us' : List UInt8} (h : r = (n, us, p, k)) (h' : r = (n', us', p', k')) : n = n' ∧ us = us' ∧ p = p' ∧ k = k' := by
  rw [h] at h'
  simpa using h'
set_option linter.unusedVariables false

abbrev SrOut := Int × Int × List UInt8 × Int
def srT (xs : List UInt8) (a s d m r t : Nat) : SrOut :=
  if ¬ (1 ≤ a ∧ a ≤ 1000000000) ∨ ¬ (1 ≤ s ∧ s ≤ 1000000000) ∨ d + t ≠ xs.length ∨ 150000 < d then (0, 0, [], 3)
  else if crcN (xs.take r ++ xs.drop t) ≠ m then (0, 0, [], 4)
  else ((a : Int), (s : Int), xs.drop t, 0)
def srB (xs : List UInt8) (v1 v2 v3 v4 : Int × Int × Bool) : SrOut :=
  if v1.2.2 = true ∧ v2.2.2 = true ∧ v3.2.2 = true ∧ v4.2.2 = true then srT xs v1.1.toNat v2.1.toNat v3.1.toNat v4.1.toNat v3.2.1.toNat v4.2.1.toNat else (0, 0, [], 2)
def w1 (xs : List UInt8) := gvAt xs 4
def w2 (xs : List UInt8) := gvAt xs (w1 xs).2.1
def w3 (xs : List UInt8) := gvAt xs (w2 xs).2.1
def w4 (xs : List UInt8) := gvAt xs (w3 xs).2.1
def srR (xs : List UInt8) : SrOut := if xs.take 4 ≠ [83, 78, 65, 80] then (0, 0, [], 1) else srB xs (w1 xs) (w2 xs) (w3 xs) (w4 xs)
theorem srR_1 {xs : List UInt8} (h : xs.take 4 ≠ [83, 78, 65, 80]) : srR xs = (0, 0, [], 1) := if_pos h
theorem srR_yes {xs : List UInt8} {a p s q d r m t : Nat} (h : xs.take 4 = [83, 78, 65, 80]) (g1 : gvAt xs 4 = ((a : Int), (p : Int), true)) (g2 : gvAt xs p = ((s : Int), (q : Int), true)) (g3 : gvAt xs q = ((d : Int), (r : Int), true)) (g4 : gvAt xs r = ((m : Int), (t : Int), true)) :
    srR xs = srT xs a s d m r t := by
  have e1 : w1 xs = ((a : Int), (p : Int), true) := g1
  have e2 : w2 xs = ((s : Int), (q : Int), true) := by rw [w2, e1]; exact g2
  have e3 : w3 xs = ((d : Int), (r : Int), true) := by rw [w3, e2]; exact g3
  have e4 : w4 xs = ((m : Int), (t : Int), true) := by rw [w4, e3]; exact g4
  rw [srR, if_neg (by simp [h]), e1, e2, e3, e4, srB, if_pos ⟨rfl, rfl, rfl, rfl⟩]
  simp
theorem srR_no2 {xs : List UInt8} (h : xs.take 4 = [83, 78, 65, 80]) (hf : ¬ ((w1 xs).2.2 = true ∧ (w2 xs).2.2 = true ∧ (w3 xs).2.2 = true ∧ (w4 xs).2.2 = true)) : srR xs = (0, 0, [], 2) := by
  rw [srR, if_neg (by simp [h]), srB, if_neg hf]
theorem srR_no {xs : List UInt8} {l : List (Int × Int)} (h : xs.take 4 = [83, 78, 65, 80]) (hl : l.length < 4) (hr : RunR xs 4 l) (hf : (gvAt xs (lastEnd 4 l)).2.2 = false) : srR xs = (0, 0, [], 2) := by
  refine srR_no2 h ?_
  match l, hl, hr, hf with
  | [], _, _, hf =>
    have e : (w1 xs).2.2 = false := hf
    simp [e]
  | [p1], _, ⟨_, h1⟩, hf =>
    have e1 : w1 xs = (p1.1, p1.2, true) := h1
    have e2 : (w2 xs).2.2 = false := by rw [w2, e1]; exact hf
    simp [e2]
  | [p2, p1], _, ⟨⟨_, h1⟩, h2⟩, hf =>
    have e1 : w1 xs = (p1.1, p1.2, true) := h1
    have e2 : w2 xs = (p2.1, p2.2, true) := by rw [w2, e1]; exact h2
    have e3 : (w3 xs).2.2 = false := by rw [w3, e2]; exact hf
    simp [e3]
  | [p3, p2, p1], _, ⟨⟨⟨_, h1⟩, h2⟩, h3⟩, hf =>
    have e1 : w1 xs = (p1.1, p1.2, true) := h1
    have e2 : w2 xs = (p2.1, p2.2, true) := by rw [w2, e1]; exact h2
    have e3 : w3 xs = (p3.1, p3.2, true) := by rw [w3, e2]; exact h3
    have e4 : (w4 xs).2.2 = false := by rw [w4, e3]; exact hf
    simp [e4]
theorem srT_3 {xs : List UInt8} {a s d m r t : Nat} (h : ¬ (1 ≤ a ∧ a ≤ 1000000000) ∨ ¬ (1 ≤ s ∧ s ≤ 1000000000) ∨ d + t ≠ xs.length ∨ 150000 < d) : srT xs a s d m r t = (0, 0, [], 3) := if_pos h
theorem srT_4 {xs : List UInt8} {a s d m r t : Nat} (h : ¬ (¬ (1 ≤ a ∧ a ≤ 1000000000) ∨ ¬ (1 ≤ s ∧ s ≤ 1000000000) ∨ d + t ≠ xs.length ∨ 150000 < d)) (h2 : crcN (xs.take r ++ xs.drop t) ≠ m) : srT xs a s d m r t = (0, 0, [], 4) := by rw [srT, if_neg h, if_pos h2]
theorem srT_0 {xs : List UInt8} {a s d m r t : Nat} (h : ¬ (¬ (1 ≤ a ∧ a ≤ 1000000000) ∨ ¬ (1 ≤ s ∧ s ≤ 1000000000) ∨ d + t ≠ xs.length ∨ 150000 < d)) (h2 : crcN (xs.take r ++ xs.drop t) = m) : srT xs a s d m r t = ((a : Int), (s : Int), xs.drop t, 0) := by rw [srT, if_neg h, if_neg (by simp [h2])]
/-- What a reading of a snapshot hands back. -/
def SrPost (w : World) (r : SrOut) (e : Ending) (w' : World) : Prop :=
  ∃ n m A' c' us k, Hid (r = (n, m, us, k)) ∧ e = .returned (.tuple #[.int .i64 n, .int .i64 m, .slice A' us.length c', .int .i64 k]) ∧ Ob w' w.heap.size A' c' us ∧ Below w.heap.size w w'
theorem sr_no {w w' : World} {r : SrOut} {k : Int} (hr : Hid (r = (0, 0, [], k))) (hb : Below w.heap.size w w') : SrPost w r (.returned (.tuple #[.int .i64 0, .int .i64 0, .slice none 0 0, .int .i64 k])) w' :=
  ⟨0, 0, none, 0, [], k, hr, rfl, ownsG_nil _ _ _ _, hb⟩
theorem sr_bytes {xs : List UInt8} {a p s q d r m t : Nat} (h : xs.take 4 = [83, 78, 65, 80]) (g1 : gv (xs.drop 4) = some (a, p - 4)) (g2 : gv (xs.drop p) = some (s, q - p)) (g3 : gv (xs.drop q) = some (d, r - q)) (g4 : gv (xs.drop r) = some (m, t - r))
    (o1 : 4 < p) (o2 : p < q) (o3 : q < r) (o4 : r < t) (ht : t ≤ xs.length) (hd : d + t = xs.length) :
    xs.take r = snapHead a s (xs.drop t) ∧ xs = snapHead a s (xs.drop t) ++ varB m ++ xs.drop t := by
  have a1 := (gv_some g1).2.2.2.2
  have a2 := (gv_some g2).2.2.2.2
  have a3 := (gv_some g3).2.2.2.2
  have a4 := (gv_some g4).2.2.2.2
  have hl : (xs.drop t).length = d := by simp; omega
  have c1 : xs.take r = snapHead a s (xs.drop t) := by
    have e := drop_take_join xs (show 0 ≤ 4 by omega) (show 4 ≤ r by omega)
    simp only [List.drop_zero, Nat.sub_zero] at e
    rw [e, h, drop_take_join xs (show 4 ≤ p by omega) (show p ≤ r by omega), drop_take_join xs (show p ≤ q by omega) (show q ≤ r by omega), a1, a2, a3, snapHead, hl]
    simp
  refine ⟨c1, ?_⟩
  have e1 : xs.take t = xs.take r ++ varB m := by
    have e := drop_take_join xs (show 0 ≤ r by omega) (show r ≤ t by omega)
    simp only [List.drop_zero, Nat.sub_zero] at e
    rw [e, a4]
  conv => lhs; rw [← List.take_append_drop t xs, e1, c1]

set_option linter.unusedVariables false
set_option maxRecDepth 100000

theorem strHP (s p : ByteArray) (w : World) :
    Calls Tryz.prog 98 #[.string s, .string p] w fun e w' => e = .returned (.bool (Lib.hasPrefix s.data.toList p.data.toList)) ∧ w = w' := by
  rw [← Lib.hasPrefix_of_take, ← Lib.size_eq, ← Lib.size_eq]
  go_enter Tryz.func98, Tryz.ntmps98
  go_wp2
  · rename_i h
    go_ret
    refine ⟨?_, rfl⟩
    show Ending.returned (Value.bool ((s.extract 0 p.size).toList == p.toList)) = _
    rw [Lib.extract_toList, Lib.toList_data]
    simp [h]
  · rename_i h
    go_ret
    refine ⟨?_, rfl⟩
    show Ending.returned (Value.bool false) = _
    simp [h]
theorem stringsHP (s p : ByteArray) (w : World) :
    Calls Tryz.prog 66 #[.string s, .string p] w fun e w' => e = .returned (.bool (Lib.hasPrefix s.data.toList p.data.toList)) ∧ w = w' := by
  go_enter Tryz.func66, Tryz.ntmps66
  go_wp2_with (go_at_call 98; refine (strHP _ _ _).mono ?_; rintro e w' ⟨rfl, rfl⟩)
  go_ret
  exact ⟨rfl, rfl⟩
theorem snapHP (xs : List UInt8) (p : ByteArray) (hp : p = ⟨#[83, 78, 65, 80]⟩) (w : World) :
    Calls Tryz.prog 66 #[.string (bstr xs), .string p] w fun e w' => e = .returned (.bool (decide (xs.take 4 = [83, 78, 65, 80]))) ∧ w = w' := by
  refine (stringsHP _ _ _).mono ?_
  rintro e w' ⟨rfl, rfl⟩
  refine ⟨ret_bool ?_, rfl⟩
  subst hp
  rw [← Lib.hasPrefix_of_take]
  have e : (bstr xs).data.toList = xs := by simp [bstr]
  rw [e, Bool.eq_iff_iff]
  simp
  intro h
  have := congrArg List.length h
  simp at this
  omega
theorem slice_l_run (A : Option Addr) (c l : Nat) (xs : List UInt8) (k : IntKind) (h1 : l ≤ xs.length) (hc : xs.length ≤ c) :
    ∃ A2 c2 us, Hid (us = xs.drop l) ∧ us.length ≤ c2 ∧ (∀ w, By w A xs → By w A2 us) ∧
      ∀ w : World, (Instr.sliceAt 28 (.slice A xs.length c) (some (.int k (l : Int))) none none).run Tryz.prog w = .ok (.slice A2 us.length c2) w := by
  have hL : (xs.drop l).length = xs.length - l := by simp
  refine ⟨if c = l then A else A.map (·.add (l * 1)), c - l, _, Lib.hid rfl, by rw [hL]; omega, fun w hA => ?_, fun w => ?_⟩
  · have hcut := hA.cut h1 (Nat.le_refl _) hc
    rw [List.take_of_length_le (by simp)] at hcut
    exact hcut
  · have hr := run_slice_l (P := Tryz.prog) (w := w) (t := 28) (ht := elemBytes ▸ Tryz.underlying28) (a := A) (len := xs.length) (cap := c) k l (by omega) (by omega)
    rw [← run_sliceAt_slice (P := Tryz.prog) (w := w) 28 _ _ _ _ (elemBytes ▸ Tryz.underlying28), elemBytes, size_u8] at hr
    simp only [Result.andThen, sliced, Int.toNat_natCast] at hr
    rw [hL]
    exact hr
theorem slice_h_run (A : Option Addr) (c h : Nat) (xs : List UInt8) (k : IntKind) (h2 : h ≤ xs.length) (hc : xs.length ≤ c) :
    ∃ A2 c2 us, Hid (us = xs.take h) ∧ us.length ≤ c2 ∧ (∀ w, By w A xs → By w A2 us) ∧
      ∀ w : World, (Instr.sliceAt 28 (.slice A xs.length c) none (some (.int k (h : Int))) none).run Tryz.prog w = .ok (.slice A2 us.length c2) w := by
  have hL : (xs.take h).length = h := by simp; omega
  refine ⟨if c = 0 then A else A.map (·.add 0), c, _, Lib.hid rfl, by rw [hL]; omega, fun w hA => ?_, fun w => ?_⟩
  · have hcut := hA.cut (Nat.zero_le h) h2 hc
    simpa using hcut
  · have hr := run_slice_h (P := Tryz.prog) (w := w) (t := 28) (ht := elemBytes ▸ Tryz.underlying28) (a := A) (len := xs.length) (cap := c) k h (by omega) (by omega)
    rw [← run_sliceAt_slice (P := Tryz.prog) (w := w) 28 _ _ _ _ (elemBytes ▸ Tryz.underlying28), elemBytes, size_u8] at hr
    simp [Result.andThen, sliced, Int.toNat_natCast] at hr
    rw [hL]
    exact hr

set_option linter.unusedVariables false
set_option maxRecDepth 100000

theorem Cs.four {w : World} {A : Option Addr} {a b c d : Value} (h : Cs w A [a, b, c, d]) : ∃ k o, A = some ⟨k, o, none⟩ ∧ w.cell? ⟨k, o, none⟩ = some a ∧ w.cell? ⟨k, o + 1, none⟩ = some b ∧ w.cell? ⟨k, o + 2, none⟩ = some c ∧ w.cell? ⟨k, o + 3, none⟩ = some d := by
  rcases h with h | ⟨k, o, rfl, h⟩
  · cases h
  · exact ⟨k, o, rfl, h 0 _ rfl, h 1 _ rfl, h 2 _ rfl, h 3 _ rfl⟩
theorem len4 {l : List (Int × Int)} (h : l.length = 4) : ∃ a b c d, l = [d, c, b, a] := by
  match l, h with
  | [d, c, b, a], _ => exact ⟨a, b, c, d, rfl⟩
set_option maxHeartbeats 2000000 in
theorem snapRead_impl (A : Option Addr) (c : Nat) (xs : List UInt8) (w : World) (ha : By w A xs) (hc : xs.length ≤ c) (h1 : xs.length ≤ 137438953472) :
    Calls Tryz.prog 33 #[.slice A xs.length c] w (SrPost w (srR xs)) := by
  have hcv : ∀ j, (convert 28 9 (.slice A xs.length c)).run Tryz.prog (w.drewN j) = .ok (.string (bstr xs)) (w.drewN j) := fun j => conv_by (ha.drewN j)
  have hcv0 := hcv 0
  simp only [World.drewN_zero] at hcv0
  by_cases hp : xs.take 4 = [83, 78, 65, 80]
  · have hpd : Hid (decide (xs.take 4 = [83, 78, 65, 80]) = true) := by show _ = _; simp [hp]
    have HP := Lib.hid hp
    clear hp
    go_enter Tryz.func33, Tryz.ntmps33
    go_wp2_with fail
    refine (snapHP _ _ rfl _).mono ?_
    rintro e w' ⟨he, rfl⟩
    rw [hpd.out] at he
    subst he
    go_wp2_with fail
    refine (getVars_any _ _ _ _ 4 _ ha hc (by omega) (by omega)).mono ?_
    rintro e w1 ⟨hb1, hcase⟩
    have z1 := hb1.size
    rcases hcase with ⟨l, A1, c1, A2, c2, hl, hr, rfl, hs1, hs2⟩ | ⟨l, hl, hr, rfl⟩
    · obtain ⟨p1, p2, p3, p4, rfl⟩ := len4 hl
      obtain ⟨⟨⟨⟨_, g1⟩, g2⟩, g3⟩, g4⟩ := hr.out
      simp only [lastEnd] at g1 g2 g3 g4
      obtain ⟨a, p, rfl, g1, n1, b1, o1, _, v1⟩ := gvAt_true g1
      obtain ⟨s, q, rfl, g2, n2, b2, o2, _, v2⟩ := gvAt_true g2
      obtain ⟨d, r, rfl, g3, n3, b3, o3, _, v3⟩ := gvAt_true g3
      obtain ⟨m, t, rfl, g4, n4, b4, o4, _, v4⟩ := gvAt_true g4
      simp only [List.map_cons, List.map_nil, List.reverse_cons, List.reverse_nil, List.nil_append, List.cons_append] at hs1 hs2
      obtain ⟨k1, j1, rfl, d1, d2, d3, d4⟩ := hs1.four
      obtain ⟨k2, j2, rfl, f1, f2, f3, f4⟩ := hs2.four
      have HY := Lib.hid (srR_yes HP.out g1 g2 g3 g4)
      clear hr hs1 hs2 hl g1 g2 g3 g4
      have o2' : p < q := by omega
      have o3' : q < r := by omega
      have o4' : r < t := by omega
      have hab := ha.below hb1
      have hwr : IntKind.i64.wrap ((xs.length : Int) - (t : Int)) = (xs.length : Int) - (t : Int) := by rw [IntKind.wrap_i64]; omega
      by_cases hn : 1 ≤ a ∧ a ≤ 1000000000
      · have q1 : Hid (decide (1 ≤ (a : Int) ∧ (a : Int) ≤ 1000000000) = true) := by show _ = _; simp; omega
        by_cases hn2 : 1 ≤ s ∧ s ≤ 1000000000
        · have q2 : Hid (decide (1 ≤ (s : Int) ∧ (s : Int) ≤ 1000000000) = true) := by show _ = _; simp; omega
          by_cases hn3 : d + t = xs.length
          · have q3 : ((d : Int) != (xs.length : Int) - t) = false := by simp; omega
            by_cases hn4 : 150000 < d
            · have q4 : (150000 : Int) < d := by omega
              have HR := Lib.hid ((HY.out).trans (srT_3 (.inr (.inr (.inr hn4)))))
              clear HY hn3
              go_wp2_with fail
              go_quiet (first | (go_at_call 62; refine Calls.quiet_of_same (v := .bool true) ((isGen_anyP _ _).mono ?_); rintro e w' ⟨he, hw⟩; exact ⟨he.trans (congrArg Ending.returned (congrArg Value.bool q1.out)), hw.symm⟩) | (go_at_call 62; refine Calls.quiet_of_same (v := .bool false) ((isGen_anyP _ _).mono ?_); rintro e w' ⟨he, hw⟩; exact ⟨he.trans (congrArg Ending.returned (congrArg Value.bool q1.out)), hw.symm⟩) | (go_at_call 68; refine Calls.quiet_of_same (v := .bool true) ((isSeq_any _ _).mono ?_); rintro e w' ⟨he, hw⟩; exact ⟨he.trans (congrArg Ending.returned (congrArg Value.bool q2.out)), hw.symm⟩) | (go_at_call 68; refine Calls.quiet_of_same (v := .bool false) ((isSeq_any _ _).mono ?_); rintro e w' ⟨he, hw⟩; exact ⟨he.trans (congrArg Ending.returned (congrArg Value.bool q2.out)), hw.symm⟩))
              go_wp2_with fail
              ((try simp only [Exit.inBlock, Exit.then]); refine bodyPost_ret (results_tmp4 rfl _ _ _) rfl ?_)
              exact sr_no HR (below_drewN hb1 _)
            · have q4 : ¬ (150000 : Int) < d := by omega
              have h4 : ¬ (¬ (1 ≤ a ∧ a ≤ 1000000000) ∨ ¬ (1 ≤ s ∧ s ≤ 1000000000) ∨ d + t ≠ xs.length ∨ 150000 < d) := by omega
              obtain ⟨A5, c5, u5, hu5, hc5, hby5, hrun5⟩ := slice_l_run A c t xs .i64 (by omega) hc
              obtain ⟨A6, c6, u6, hu6, hc6, hby6, hrun6⟩ := slice_h_run A c r xs .i64 (by omega) hc
              have L5 : Hid (u5.length = d) := by show _ = _; rw [hu5.out]; simp; omega
              have l5 : u5.length ≤ xs.length := by rw [hu5.out]; simp
              have l6 : u6.length ≤ xs.length := by rw [hu6.out]; simp; omega
              clear hn3
              go_wp2_with fail
              go_quiet (first | (go_at_call 62; refine Calls.quiet_of_same (v := .bool true) ((isGen_anyP _ _).mono ?_); rintro e w' ⟨he, hw⟩; exact ⟨he.trans (congrArg Ending.returned (congrArg Value.bool q1.out)), hw.symm⟩) | (go_at_call 62; refine Calls.quiet_of_same (v := .bool false) ((isGen_anyP _ _).mono ?_); rintro e w' ⟨he, hw⟩; exact ⟨he.trans (congrArg Ending.returned (congrArg Value.bool q1.out)), hw.symm⟩) | (go_at_call 68; refine Calls.quiet_of_same (v := .bool true) ((isSeq_any _ _).mono ?_); rintro e w' ⟨he, hw⟩; exact ⟨he.trans (congrArg Ending.returned (congrArg Value.bool q2.out)), hw.symm⟩) | (go_at_call 68; refine Calls.quiet_of_same (v := .bool false) ((isSeq_any _ _).mono ?_); rintro e w' ⟨he, hw⟩; exact ⟨he.trans (congrArg Ending.returned (congrArg Value.bool q2.out)), hw.symm⟩))
              go_wp2_with fail
              refine (clone_any _ _ _ _ (By.drewN (hby5 w1 hab) _) (by omega)).mono ?_
              rintro e w2 ⟨A7, c7, rfl, ho7, hb7⟩
              have z2 := hb7.size
              have f3' := (hb7.cell (p := ⟨k2, j2 + 2, none⟩) (World.block_lt_of_cell? w1 _ f3)).trans f3
              have d4' := (hb7.cell (p := ⟨k1, j1 + 3, none⟩) (World.block_lt_of_cell? w1 _ d4)).trans d4
              have d1' := (hb7.cell (p := ⟨k1, j1, none⟩) (World.block_lt_of_cell? w1 _ d1)).trans d1
              have d2' := (hb7.cell (p := ⟨k1, j1 + 1, none⟩) (World.block_lt_of_cell? w1 _ d2)).trans d2
              have hab2 := (hab.drewN _).below hb7
              have hy6 := hby6 w2 hab2
              clear d1 d2 d3 d4 f1 f2 f3 f4
              by_cases h6 : crcN (u6 ++ u5) = m
              · have hq : (((crcN (u6 ++ u5) : Nat) : Int) != (m : Int)) = false := by simp [h6]
                go_wp2_with fail
                go_region_held3 (fun w' => Below w2.heap.size w2 w' ∧ w'.cell? ⟨k2, j2 + 2, none⟩ = some (I r) ∧ w'.cell? ⟨k1, j1 + 3, none⟩ = some (I m))
                  (first | exact ⟨Below.drew (Below.refl _ _), by simpa using f3', by simpa using d4'⟩ | assumption | (refine ⟨?_, ?_, ?_⟩ <;> assumption))
                  ((go_at_call 69; refine (sumOf_any _ _ _ _ _ _ _ (By.below hy6 (Below.drew (Below.refl _ _))) (By.below ho7.by_ (Below.drew (Below.refl _ _))) (by omega) (by omega)).mono ?_; rintro e w3 ⟨rfl, hb3⟩; have hbw3 : Below w2.heap.size w2 w3 := (Below.drew (Below.refl w2.heap.size w2)).trans hb3; have hkeep := And.intro hbw3 (And.intro ((hbw3.cell (World.block_lt_of_cell? w2 _ f3')).trans f3') ((hbw3.cell (World.block_lt_of_cell? w2 _ d4')).trans d4'))))
                have d1'' := (hbw3.cell (World.block_lt_of_cell? w2 _ d1')).trans d1'
                have d2'' := (hbw3.cell (World.block_lt_of_cell? w2 _ d2')).trans d2'
                clear hkeep
                go_wp2_with fail
                go_quiet (fail)
                go_wp2_with fail
                have HR := Lib.hid ((HY.out).trans (srT_0 h4 (by rw [← hu6.out, ← hu5.out]; exact h6)))
                ((try simp only [Exit.inBlock, Exit.then]); refine bodyPost_ret (results_tmp4 rfl _ _ _) rfl ?_)
                exact ⟨a, s, A7, c7, u5, _, Lib.hid (by rw [HR.out, hu5.out]), rfl, Ob.drewN ((ho7.below hbw3 (Nat.le_refl _)).mono z1) _, below_drewN ((below_drewN hb1 _).trans ((hb7.mono z1).trans (hbw3.mono (Nat.le_trans z1 z2)))) _⟩
              · have hq : (((crcN (u6 ++ u5) : Nat) : Int) != (m : Int)) = true := by simp; omega
                go_wp2_with fail
                go_region_held3 (fun w' => Below w2.heap.size w2 w' ∧ w'.cell? ⟨k2, j2 + 2, none⟩ = some (I r) ∧ w'.cell? ⟨k1, j1 + 3, none⟩ = some (I m))
                  (first | exact ⟨Below.drew (Below.refl _ _), by simpa using f3', by simpa using d4'⟩ | assumption | (refine ⟨?_, ?_, ?_⟩ <;> assumption))
                  ((go_at_call 69; refine (sumOf_any _ _ _ _ _ _ _ (By.below hy6 (Below.drew (Below.refl _ _))) (By.below ho7.by_ (Below.drew (Below.refl _ _))) (by omega) (by omega)).mono ?_; rintro e w3 ⟨rfl, hb3⟩; have hbw3 : Below w2.heap.size w2 w3 := (Below.drew (Below.refl w2.heap.size w2)).trans hb3; have hkeep := And.intro hbw3 (And.intro ((hbw3.cell (World.block_lt_of_cell? w2 _ f3')).trans f3') ((hbw3.cell (World.block_lt_of_cell? w2 _ d4')).trans d4'))))
                clear hkeep
                go_wp2_with fail
                have HR := Lib.hid ((HY.out).trans (srT_4 h4 (by rw [← hu6.out, ← hu5.out]; exact h6)))
                ((try simp only [Exit.inBlock, Exit.then]); refine bodyPost_ret (results_tmp4 rfl _ _ _) rfl ?_)
                exact sr_no HR ((below_drewN hb1 _).trans ((hb7.mono z1).trans (hbw3.mono (Nat.le_trans z1 z2))))
          · have q3 : ((d : Int) != (xs.length : Int) - t) = true := by simp; omega
            have HR := Lib.hid ((HY.out).trans (srT_3 (.inr (.inr (.inl hn3)))))
            clear HY hn3
            go_wp2_with fail
            go_quiet (first | (go_at_call 62; refine Calls.quiet_of_same (v := .bool true) ((isGen_anyP _ _).mono ?_); rintro e w' ⟨he, hw⟩; exact ⟨he.trans (congrArg Ending.returned (congrArg Value.bool q1.out)), hw.symm⟩) | (go_at_call 62; refine Calls.quiet_of_same (v := .bool false) ((isGen_anyP _ _).mono ?_); rintro e w' ⟨he, hw⟩; exact ⟨he.trans (congrArg Ending.returned (congrArg Value.bool q1.out)), hw.symm⟩) | (go_at_call 68; refine Calls.quiet_of_same (v := .bool true) ((isSeq_any _ _).mono ?_); rintro e w' ⟨he, hw⟩; exact ⟨he.trans (congrArg Ending.returned (congrArg Value.bool q2.out)), hw.symm⟩) | (go_at_call 68; refine Calls.quiet_of_same (v := .bool false) ((isSeq_any _ _).mono ?_); rintro e w' ⟨he, hw⟩; exact ⟨he.trans (congrArg Ending.returned (congrArg Value.bool q2.out)), hw.symm⟩))
            go_wp2_with fail
            ((try simp only [Exit.inBlock, Exit.then]); refine bodyPost_ret (results_tmp4 rfl _ _ _) rfl ?_)
            exact sr_no HR (below_drewN hb1 _)
        · have HR := Lib.hid ((HY.out).trans (srT_3 (.inr (.inl hn2))))
          have q2 : Hid (decide (1 ≤ (s : Int) ∧ (s : Int) ≤ 1000000000) = false) := by show _ = _; simp; omega
          clear HY
          go_wp2_with fail
          go_quiet (first | (go_at_call 62; refine Calls.quiet_of_same (v := .bool true) ((isGen_anyP _ _).mono ?_); rintro e w' ⟨he, hw⟩; exact ⟨he.trans (congrArg Ending.returned (congrArg Value.bool q1.out)), hw.symm⟩) | (go_at_call 62; refine Calls.quiet_of_same (v := .bool false) ((isGen_anyP _ _).mono ?_); rintro e w' ⟨he, hw⟩; exact ⟨he.trans (congrArg Ending.returned (congrArg Value.bool q1.out)), hw.symm⟩) | (go_at_call 68; refine Calls.quiet_of_same (v := .bool true) ((isSeq_any _ _).mono ?_); rintro e w' ⟨he, hw⟩; exact ⟨he.trans (congrArg Ending.returned (congrArg Value.bool q2.out)), hw.symm⟩) | (go_at_call 68; refine Calls.quiet_of_same (v := .bool false) ((isSeq_any _ _).mono ?_); rintro e w' ⟨he, hw⟩; exact ⟨he.trans (congrArg Ending.returned (congrArg Value.bool q2.out)), hw.symm⟩))
          go_wp2_with fail
          ((try simp only [Exit.inBlock, Exit.then]); refine bodyPost_ret (results_tmp4 rfl _ _ _) rfl ?_)
          exact sr_no HR (below_drewN hb1 _)
      · have HR := Lib.hid ((HY.out).trans (srT_3 (.inl hn)))
        have q1 : Hid (decide (1 ≤ (a : Int) ∧ (a : Int) ≤ 1000000000) = false) := by show _ = _; simp; omega
        clear HY
        go_wp2_with fail
        go_quiet (first | (go_at_call 62; refine Calls.quiet_of_same (v := .bool true) ((isGen_anyP _ _).mono ?_); rintro e w' ⟨he, hw⟩; exact ⟨he.trans (congrArg Ending.returned (congrArg Value.bool q1.out)), hw.symm⟩) | (go_at_call 62; refine Calls.quiet_of_same (v := .bool false) ((isGen_anyP _ _).mono ?_); rintro e w' ⟨he, hw⟩; exact ⟨he.trans (congrArg Ending.returned (congrArg Value.bool q1.out)), hw.symm⟩))
        go_wp2_with fail
        ((try simp only [Exit.inBlock, Exit.then]); refine bodyPost_ret (results_tmp4 rfl _ _ _) rfl ?_)
        exact sr_no HR (below_drewN hb1 _)
    · have HR := Lib.hid (srR_no HP.out hl hr.out.1 hr.out.2)
      clear hl hr
      go_wp2_with fail
      ((try simp only [Exit.inBlock, Exit.then]); refine bodyPost_ret (results_tmp4 rfl _ _ _) rfl ?_)
      exact sr_no HR hb1
  · have HR := Lib.hid (srR_1 hp)
    have hpd : Hid (decide (xs.take 4 = [83, 78, 65, 80]) = false) := by show _ = _; simp [hp]
    clear hp
    go_enter Tryz.func33, Tryz.ntmps33
    go_wp2_with fail
    refine (snapHP _ _ rfl _).mono ?_
    rintro e w' ⟨he, rfl⟩
    rw [hpd.out] at he
    subst he
    go_wp2_with fail
    ((try simp only [Exit.inBlock, Exit.then]); refine bodyPost_ret (results_tmp4 rfl _ _ _) rfl ?_)
    exact sr_no HR (Below.refl _ _)
end Go.Proofs.YtpaeffmjkkikbaaGreatDoor
