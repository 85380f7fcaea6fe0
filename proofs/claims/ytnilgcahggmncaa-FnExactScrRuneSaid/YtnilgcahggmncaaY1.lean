/- The screen without anything. A screen is valid: the reference's way, all conditions joined. A screen is valid: the program's way, all conditions joined. The law of ScrOk. The grid that is shown: both ways. -/
import Derived.Test.YtnilgcahggmncaaZc
import Derived.Test.YtnilgcahggmncaaZb
import Derived.Test.YtnilgcahggmncaaWh1
import Derived.Test.YtnilgcahggmncaaWh2
import Derived.Test.YtnilgcahggmncaaWh3
import Derived.Test.YtnilgcahggmncaaWh4
import Derived.Test.YtnilgcahggmncaaWh5
import Derived.Test.YtnilgcahggmncaaWi1
import Derived.Test.YtnilgcahggmncaaWi2
import Derived.Test.YtnilgcahggmncaaWi3
import Derived.Test.YtnilgcahggmncaaWi4
import Derived.Test.YtnilgcahggmncaaWk1
import Derived.Test.YtnilgcahggmncaaWk2
import Derived.Test.YtnilgcahggmncaaWk3
import Derived.Test.YtnilgcahggmncaaWk4
import Derived.Test.YtnilgcahggmncaaWk5
import Derived.Deep.RegionHeld3
import Derived.Deep.DeepCutAuto
import Derived.Test.YtnilgcahggmncaaGk
import Derived.Test.YtnilgcahggmncaaGw
namespace Go.Proofs.Ytnilgcahggmncaa
open Go.RowKit

set_option linter.unusedVariables false
set_option maxRecDepth 100000

abbrev at0 : At := (0, 0, false, false, false)
/-- The screen without anything. -/
def sc0 : Sc := ⟨0, 0, 0, 0, 0, 0, false, 0, 0, false, at0, 0, 0, false, false, 0, 0, at0, 0⟩
def cont0 : Cont := ⟨[], [], [], []⟩
abbrev rw0 : Rw := (none, 0, [])
abbrev ti0 : Ti := (none, 0, [])
abbrev tr0 : Tr := (none, 0, [])
abbrev zC : Array Value := #[.int .i64 0, .int .i64 0, .int .i64 0, .int .i64 0, .slice none 0 0, .int .i64 0, .int .i64 0, .slice none 0 0, .bool false, .int .i64 0, .int .i64 0, .bool false, .int .i64 0, .int .i64 0, .bool false, .bool false, .bool false, .int .i64 0, .int .i64 0, .bool false, .bool false, .int .i64 0, .int .i64 0, .int .i64 0, .int .i64 0, .bool false, .bool false, .bool false, .slice none 0 0, .int .i64 0, .slice none 0 0]
theorem zC_eq : zC = sC sc0 rw0 rw0 ti0 tr0 := rfl
theorem Oi.nil (w : World) (lo : Nat) : Oi w lo none 0 [] := ownsG_nil _ _ _ _
theorem Or.nil (w : World) (lo : Nat) : Or w lo none 0 [] := ownsG_nil _ _ _ _
theorem Og.nil (w : World) (lo : Nat) : Og w lo none 0 [] := ownsG_nil _ _ _ _
theorem So.nil (w : World) (lo : Nat) : So w lo rw0 rw0 ti0 tr0 := by
  refine ⟨Og.nil w lo, Og.nil w lo, Oi.nil w lo, Or.nil w lo, fun e he => by simp at he, ?_⟩
  have h : ∀ b, Sep none b := fun b k hk => by simp at hk
  show [none, none, none, none].Pairwise Sep
  simp [h]

set_option linter.unusedVariables false

theorem scrOk_spec (s : Sc) (M A : Rw) (T : Ti) (B : Tr) (w : World) (hr : Sr w M A T B) (hz : Sz M A T B 1048576) :
    Calls Try.prog 32 #[sV s M A T B] w fun e w' => e = .returned (.bool (scrB s ⟨M.2.2, A.2.2, T.2.2, rcs B.2.2⟩)) ∧ Below w.heap.size w w' := by
  obtain ⟨g1, g2, g3, g4⟩ := hr
  obtain ⟨l1, l2, l3, l4, l5⟩ := hz
  obtain ⟨mA, mc, ms⟩ := M
  obtain ⟨aA, ac, xs⟩ := A
  obtain ⟨tA, tc, ts⟩ := T
  obtain ⟨bA, bc, bs⟩ := B
  have hrl : ((rcs bs).length : Int) = bs.length := by simp [rcs]
  show Calls _ _ _ _ fun e w' => e = .returned (.bool (scrB s ⟨ms, xs, ts, rcs bs⟩)) ∧ Below w.heap.size w w'
  by_cases hm : gridB s.mW s.mH ms = true
  case neg =>
    have HM : gridB s.mW s.mH ms = false := by simpa using hm
    rw [sc_m (s := s) (c := ⟨ms, xs, ts, rcs bs⟩) HM]
    exact sb_m s mA mc ms aA ac xs tA tc ts bA bc bs w g1 l1 g2 l2 HM
  obtain ⟨⟨w1a, w1b⟩, ⟨w1c, w1d⟩, _, _⟩ := grid_len hm
  have HM := Lib.hid hm
  by_cases hx : gridB s.aW s.aH xs = true
  case neg =>
    have HA : gridB s.aW s.aH xs = false := by simpa using hx
    rw [sc_a (s := s) (c := ⟨ms, xs, ts, rcs bs⟩) HA]
    exact sb_a s mA mc ms aA ac xs tA tc ts bA bc bs w g1 l1 g2 l2 HM HA
  have HA := Lib.hid hx
  by_cases kn1 : s.mW = s.W
  case neg =>
    rw [sc_n (s := s) (c := ⟨ms, xs, ts, rcs bs⟩) (nb_n1 kn1)]
    have fb : (s.mW != s.W) = true := by first | (simpa using kn1) | omega
    exact sb_n1 s mA mc ms aA ac xs tA tc ts bA bc bs w g1 l1 g2 l2 HM HA fb
  have fn1 : (s.mW != s.W) = false := by first | exact kn1 | (simpa using kn1)
  by_cases kn2 : s.mH = s.H
  case neg =>
    rw [sc_n (s := s) (c := ⟨ms, xs, ts, rcs bs⟩) (nb_n2 kn2)]
    have fb : (s.mH != s.H) = true := by first | (simpa using kn2) | omega
    exact sb_n2 s mA mc ms aA ac xs tA tc ts bA bc bs w g1 l1 g2 l2 HM HA fn1 fb
  have fn2 : (s.mH != s.H) = false := by first | exact kn2 | (simpa using kn2)
  by_cases kn3 : s.aW = s.W
  case neg =>
    rw [sc_n (s := s) (c := ⟨ms, xs, ts, rcs bs⟩) (nb_n3 kn3)]
    have fb : (s.aW != s.W) = true := by first | (simpa using kn3) | omega
    exact sb_n3 s mA mc ms aA ac xs tA tc ts bA bc bs w g1 l1 g2 l2 HM HA fn1 fn2 fb
  have fn3 : (s.aW != s.W) = false := by first | exact kn3 | (simpa using kn3)
  by_cases kn4 : s.aH = s.H
  case neg =>
    rw [sc_n (s := s) (c := ⟨ms, xs, ts, rcs bs⟩) (nb_n4 kn4)]
    have fb : (s.aH != s.H) = true := by first | (simpa using kn4) | omega
    exact sb_n4 s mA mc ms aA ac xs tA tc ts bA bc bs w g1 l1 g2 l2 HM HA fn1 fn2 fn3 fb
  have fn4 : (s.aH != s.H) = false := by first | exact kn4 | (simpa using kn4)
  have w2a : 1 ≤ s.W ∧ s.W ≤ 120 := by omega
  have w2b : 1 ≤ s.H ∧ s.H ≤ 120 := by omega
  obtain ⟨w2c, w2d⟩ := w2a
  obtain ⟨w2e, w2f⟩ := w2b
  by_cases kn5 : ¬ s.X < 0
  case neg =>
    rw [sc_n (s := s) (c := ⟨ms, xs, ts, rcs bs⟩) (nb_n5 kn5)]
    have fb : s.X < 0 := by first | (simpa using kn5) | omega
    exact sb_n5 s mA mc ms aA ac xs tA tc ts bA bc bs w g1 l1 g2 l2 HM HA fn1 fn2 fn3 fn4 w2c w2d w2e w2f fb
  have fn5 : ¬ s.X < 0 := by first | exact kn5 | (simpa using kn5)
  by_cases kn6 : ¬ s.W ≤ s.X
  case neg =>
    rw [sc_n (s := s) (c := ⟨ms, xs, ts, rcs bs⟩) (nb_n6 kn6)]
    have fb : s.W ≤ s.X := by first | (simpa using kn6) | omega
    exact sb_n6 s mA mc ms aA ac xs tA tc ts bA bc bs w g1 l1 g2 l2 HM HA fn1 fn2 fn3 fn4 fn5 w2c w2d w2e w2f fb
  have fn6 : ¬ s.W ≤ s.X := by first | exact kn6 | (simpa using kn6)
  by_cases kn7 : ¬ s.Y < 0
  case neg =>
    rw [sc_n (s := s) (c := ⟨ms, xs, ts, rcs bs⟩) (nb_n7 kn7)]
    have fb : s.Y < 0 := by first | (simpa using kn7) | omega
    exact sb_n7 s mA mc ms aA ac xs tA tc ts bA bc bs w g1 l1 g2 l2 HM HA fn1 fn2 fn3 fn4 fn5 fn6 w2c w2d w2e w2f fb
  have fn7 : ¬ s.Y < 0 := by first | exact kn7 | (simpa using kn7)
  by_cases kn8 : ¬ s.H ≤ s.Y
  case neg =>
    rw [sc_n (s := s) (c := ⟨ms, xs, ts, rcs bs⟩) (nb_n8 kn8)]
    have fb : s.H ≤ s.Y := by first | (simpa using kn8) | omega
    exact sb_n8 s mA mc ms aA ac xs tA tc ts bA bc bs w g1 l1 g2 l2 HM HA fn1 fn2 fn3 fn4 fn5 fn6 fn7 w2c w2d w2e w2f fb
  have fn8 : ¬ s.H ≤ s.Y := by first | exact kn8 | (simpa using kn8)
  by_cases knw : s.wrap = true → s.X = s.W - 1
  case neg =>
    rw [sc_n (s := s) (c := ⟨ms, xs, ts, rcs bs⟩) (nb_nw knw)]
    have fb : s.wrap = true ∧ (s.X != s.W - 1) = true := by simpa using knw
    exact sb_nw s mA mc ms aA ac xs tA tc ts bA bc bs w g1 l1 g2 l2 HM HA fn1 fn2 fn3 fn4 fn5 fn6 fn7 fn8 w2c w2d w2e w2f fb.1 fb.2
  have fw : s.wrap = false ∨ s.wrap = true ∧ (s.X != s.W - 1) = false := by
    cases hq : s.wrap with
    | false => exact .inl rfl
    | true => exact .inr ⟨rfl, by simpa using knw hq⟩
  by_cases kn9 : ¬ s.sX < 0
  case neg =>
    rw [sc_n (s := s) (c := ⟨ms, xs, ts, rcs bs⟩) (nb_n9 kn9)]
    have fb : s.sX < 0 := by first | (simpa using kn9) | omega
    exact sb_n9 s mA mc ms aA ac xs tA tc ts bA bc bs w g1 l1 g2 l2 HM HA fn1 fn2 fn3 fn4 fn5 fn6 fn7 fn8 fw w2c w2d w2e w2f fb
  have fn9 : ¬ s.sX < 0 := by first | exact kn9 | (simpa using kn9)
  by_cases kn10 : ¬ s.W ≤ s.sX
  case neg =>
    rw [sc_n (s := s) (c := ⟨ms, xs, ts, rcs bs⟩) (nb_n10 kn10)]
    have fb : s.W ≤ s.sX := by first | (simpa using kn10) | omega
    exact sb_n10 s mA mc ms aA ac xs tA tc ts bA bc bs w g1 l1 g2 l2 HM HA fn1 fn2 fn3 fn4 fn5 fn6 fn7 fn8 fw fn9 w2c w2d w2e w2f fb
  have fn10 : ¬ s.W ≤ s.sX := by first | exact kn10 | (simpa using kn10)
  by_cases kn11 : ¬ s.sY < 0
  case neg =>
    rw [sc_n (s := s) (c := ⟨ms, xs, ts, rcs bs⟩) (nb_n11 kn11)]
    have fb : s.sY < 0 := by first | (simpa using kn11) | omega
    exact sb_n11 s mA mc ms aA ac xs tA tc ts bA bc bs w g1 l1 g2 l2 HM HA fn1 fn2 fn3 fn4 fn5 fn6 fn7 fn8 fw fn9 fn10 w2c w2d w2e w2f fb
  have fn11 : ¬ s.sY < 0 := by first | exact kn11 | (simpa using kn11)
  by_cases kn12 : ¬ s.H ≤ s.sY
  case neg =>
    rw [sc_n (s := s) (c := ⟨ms, xs, ts, rcs bs⟩) (nb_n12 kn12)]
    have fb : s.H ≤ s.sY := by first | (simpa using kn12) | omega
    exact sb_n12 s mA mc ms aA ac xs tA tc ts bA bc bs w g1 l1 g2 l2 HM HA fn1 fn2 fn3 fn4 fn5 fn6 fn7 fn8 fw fn9 fn10 fn11 w2c w2d w2e w2f fb
  have fn12 : ¬ s.H ≤ s.sY := by first | exact kn12 | (simpa using kn12)
  by_cases kt1 : attrOkB s.A.1 s.A.2.1 = true
  case neg =>
    rw [sc_n (s := s) (c := ⟨ms, xs, ts, rcs bs⟩) (nb_t1 kt1)]
    have fb : attrOkB s.A.1 s.A.2.1 = false := by simpa using kt1
    exact sb_t1 s mA mc ms aA ac xs tA tc ts bA bc bs w g1 l1 g2 l2 HM HA fn1 fn2 fn3 fn4 fn5 fn6 fn7 fn8 fw fn9 fn10 fn11 fn12 w2c w2d w2e w2f fb
  have ft1 : Hid (attrOkB s.A.1 s.A.2.1 = true) := kt1
  by_cases kt2 : attrOkB s.sA.1 s.sA.2.1 = true
  case neg =>
    rw [sc_n (s := s) (c := ⟨ms, xs, ts, rcs bs⟩) (nb_t2 kt2)]
    have fb : attrOkB s.sA.1 s.sA.2.1 = false := by simpa using kt2
    exact sb_t2 s mA mc ms aA ac xs tA tc ts bA bc bs w g1 l1 g2 l2 HM HA fn1 fn2 fn3 fn4 fn5 fn6 fn7 fn8 fw fn9 fn10 fn11 fn12 ft1 w2c w2d w2e w2f fb
  have ft2 : Hid (attrOkB s.sA.1 s.sA.2.1 = true) := kt2
  by_cases kd1 : ¬ s.top < 0
  case neg =>
    rw [sc_n (s := s) (c := ⟨ms, xs, ts, rcs bs⟩) (nb_d1 kd1)]
    have fb : s.top < 0 := by first | (simpa using kd1) | omega
    exact sb_d1 s mA mc ms aA ac xs tA tc ts bA bc bs w g1 l1 g2 l2 HM HA fn1 fn2 fn3 fn4 fn5 fn6 fn7 fn8 fw fn9 fn10 fn11 fn12 ft1 ft2 w2c w2d w2e w2f fb
  have fd1 : ¬ s.top < 0 := by first | exact kd1 | (simpa using kd1)
  by_cases kd2 : ¬ s.H ≤ s.bot
  case neg =>
    rw [sc_n (s := s) (c := ⟨ms, xs, ts, rcs bs⟩) (nb_d2 kd2)]
    have fb : s.H ≤ s.bot := by first | (simpa using kd2) | omega
    exact sb_d2 s mA mc ms aA ac xs tA tc ts bA bc bs w g1 l1 g2 l2 HM HA fn1 fn2 fn3 fn4 fn5 fn6 fn7 fn8 fw fn9 fn10 fn11 fn12 ft1 ft2 fd1 w2c w2d w2e w2f fb
  have fd2 : ¬ s.H ≤ s.bot := by first | exact kd2 | (simpa using kd2)
  by_cases kd3 : ¬ s.bot < s.top
  case neg =>
    rw [sc_n (s := s) (c := ⟨ms, xs, ts, rcs bs⟩) (nb_d3 kd3)]
    have fb : s.bot < s.top := by first | (simpa using kd3) | omega
    exact sb_d3 s mA mc ms aA ac xs tA tc ts bA bc bs w g1 l1 g2 l2 HM HA fn1 fn2 fn3 fn4 fn5 fn6 fn7 fn8 fw fn9 fn10 fn11 fn12 ft1 ft2 fd1 fd2 w2c w2d w2e w2f fb
  have fd3 : ¬ s.bot < s.top := by first | exact kd3 | (simpa using kd3)
  by_cases kd4 : s.top = s.bot → s.H = 1
  case neg =>
    rw [sc_n (s := s) (c := ⟨ms, xs, ts, rcs bs⟩) (nb_d4 kd4)]
    have fb : (s.top == s.bot) = true ∧ (s.H != 1) = true := by simpa using kd4
    exact sb_d4 s mA mc ms aA ac xs tA tc ts bA bc bs w g1 l1 g2 l2 HM HA fn1 fn2 fn3 fn4 fn5 fn6 fn7 fn8 fw fn9 fn10 fn11 fn12 ft1 ft2 fd1 fd2 fd3 w2c w2d w2e w2f fb.1 fb.2
  have fd : (s.top == s.bot) = false ∨ (s.top == s.bot) = true ∧ (s.H != 1) = false := by
    cases hq : s.top == s.bot with
    | false => exact .inl rfl
    | true => exact .inr ⟨rfl, by simpa using kd4 (by simpa using hq)⟩
  by_cases ke1 : ¬ s.limit < 0
  case neg =>
    rw [sc_n (s := s) (c := ⟨ms, xs, ts, rcs bs⟩) (nb_e1 ke1)]
    have fb : s.limit < 0 := by first | (simpa using ke1) | omega
    exact sb_e1 s mA mc ms aA ac xs tA tc ts bA bc bs w g1 l1 g2 l2 HM HA fn1 fn2 fn3 fn4 fn5 fn6 fn7 fn8 fw fn9 fn10 fn11 fn12 ft1 ft2 fd1 fd2 fd3 fd w2c w2d w2e w2f fb
  have fe1 : ¬ s.limit < 0 := by first | exact ke1 | (simpa using ke1)
  by_cases ke2 : ¬ 100 < s.limit
  case neg =>
    rw [sc_n (s := s) (c := ⟨ms, xs, ts, rcs bs⟩) (nb_e2 ke2)]
    have fb : 100 < s.limit := by first | (simpa using ke2) | omega
    exact sb_e2 s mA mc ms aA ac xs tA tc ts bA bc bs w g1 l1 g2 l2 HM HA fn1 fn2 fn3 fn4 fn5 fn6 fn7 fn8 fw fn9 fn10 fn11 fn12 ft1 ft2 fd1 fd2 fd3 fd fe1 w2c w2d w2e w2f fb
  have fe2 : ¬ 100 < s.limit := by first | exact ke2 | (simpa using ke2)
  by_cases ke3 : ¬ s.limit < (bs.length : Int)
  case neg =>
    rw [sc_n (s := s) (c := ⟨ms, xs, ts, rcs bs⟩) (nb_e3 (by show ¬ ¬ s.limit < ((rcs bs).length : Int); rw [hrl]; exact ke3))]
    have fb : s.limit < (bs.length : Int) := by first | (simpa using ke3) | omega
    exact sb_e3 s mA mc ms aA ac xs tA tc ts bA bc bs w g1 l1 g2 l2 HM HA fn1 fn2 fn3 fn4 fn5 fn6 fn7 fn8 fw fn9 fn10 fn11 fn12 ft1 ft2 fd1 fd2 fd3 fd fe1 fe2 w2c w2d w2e w2f fb
  have fe3 : ¬ s.limit < (bs.length : Int) := by first | exact ke3 | (simpa using ke3)
  have hn : numB s ((rcs bs).length : Int) = true := by
    rw [hrl]
    exact decide_eq_true ⟨⟨kn1, kn2, kn3, kn4⟩, ⟨by omega, by omega, by omega, by omega⟩, knw, ⟨by omega, by omega, by omega, by omega⟩, ⟨kt1, kt2⟩, ⟨by omega, by omega, by omega, kd4⟩, ⟨by omega, by omega, by omega⟩⟩
  have hv : scrB s ⟨ms, xs, ts, rcs bs⟩ = (ascB ts s.W && rowsB (rcs bs)) := by
    rw [scrB, hm, hx, hn]; simp
  rw [hv]
  rcases fw with fw1 | ⟨fw1, fw2⟩ <;> rcases fd with fd1' | ⟨fd1', fd2'⟩
  · exact sb_y1 s mA mc ms aA ac xs tA tc ts bA bc bs w g1 l1 g2 l2 HM HA fn1 fn2 fn3 fn4 fn5 fn6 fn7 fn8 fn9 fn10 fn11 fn12 ft1 ft2 fd1 fd2 fd3 fe1 fe2 fe3 w2c w2d w2e w2f g3 l3 g4 l4 l5 fw1 fd1'
  · exact sb_y3 s mA mc ms aA ac xs tA tc ts bA bc bs w g1 l1 g2 l2 HM HA fn1 fn2 fn3 fn4 fn5 fn6 fn7 fn8 fn9 fn10 fn11 fn12 ft1 ft2 fd1 fd2 fd3 fe1 fe2 fe3 w2c w2d w2e w2f g3 l3 g4 l4 l5 fw1 fd1' fd2'
  · exact sb_y2 s mA mc ms aA ac xs tA tc ts bA bc bs w g1 l1 g2 l2 HM HA fn1 fn2 fn3 fn4 fn5 fn6 fn7 fn8 fn9 fn10 fn11 fn12 ft1 ft2 fd1 fd2 fd3 fe1 fe2 fe3 w2c w2d w2e w2f g3 l3 g4 l4 l5 fw1 fw2 fd1'
  · exact sb_y4 s mA mc ms aA ac xs tA tc ts bA bc bs w g1 l1 g2 l2 HM HA fn1 fn2 fn3 fn4 fn5 fn6 fn7 fn8 fn9 fn10 fn11 fn12 ft1 ft2 fd1 fd2 fd3 fe1 fe2 fe3 w2c w2d w2e w2f g3 l3 g4 l4 l5 fw1 fw2 fd1' fd2'

set_option linter.unusedVariables false

theorem scrOk_impl (s : Sc) (M A : Rw) (T : Ti) (B : Tr) (w : World) (hr : Sr w M A T B) (hz : Sz M A T B 1048576) :
    Calls Try.prog 34 #[sV s M A T B] w fun e w' => e = .returned (.bool (scrB s ⟨M.2.2, A.2.2, T.2.2, rcs B.2.2⟩)) ∧ Below w.heap.size w w' := by
  obtain ⟨g1, g2, g3, g4⟩ := hr
  obtain ⟨l1, l2, l3, l4, l5⟩ := hz
  obtain ⟨mA, mc, ms⟩ := M
  obtain ⟨aA, ac, xs⟩ := A
  obtain ⟨tA, tc, ts⟩ := T
  obtain ⟨bA, bc, bs⟩ := B
  have hrl : ((rcs bs).length : Int) = bs.length := by simp [rcs]
  show Calls _ _ _ _ fun e w' => e = .returned (.bool (scrB s ⟨ms, xs, ts, rcs bs⟩)) ∧ Below w.heap.size w w'
  by_cases hm : gridB s.mW s.mH ms = true
  case neg =>
    have HM : gridB s.mW s.mH ms = false := by simpa using hm
    rw [sc_m (s := s) (c := ⟨ms, xs, ts, rcs bs⟩) HM]
    exact ib_m s mA mc ms aA ac xs tA tc ts bA bc bs w g1 l1 g2 l2 HM
  obtain ⟨⟨w1a, w1b⟩, ⟨w1c, w1d⟩, _, _⟩ := grid_len hm
  have HM := Lib.hid hm
  by_cases km1 : s.mW = s.W
  case neg =>
    rw [sc_n (s := s) (c := ⟨ms, xs, ts, rcs bs⟩) (nb_n1 km1)]
    have fb : (s.mW != s.W) = true := by simpa using km1
    exact ib_m1 s mA mc ms aA ac xs tA tc ts bA bc bs w g1 l1 g2 l2 HM fb
  have fm1 : (s.mW != s.W) = false := by simpa using km1
  by_cases km2 : s.mH = s.H
  case neg =>
    rw [sc_n (s := s) (c := ⟨ms, xs, ts, rcs bs⟩) (nb_n2 km2)]
    have fb : (s.mH != s.H) = true := by simpa using km2
    exact ib_m2 s mA mc ms aA ac xs tA tc ts bA bc bs w g1 l1 g2 l2 HM fm1 fb
  have fm2 : (s.mH != s.H) = false := by simpa using km2
  by_cases hx : gridB s.aW s.aH xs = true
  case neg =>
    have HA : gridB s.aW s.aH xs = false := by simpa using hx
    rw [sc_a (s := s) (c := ⟨ms, xs, ts, rcs bs⟩) HA]
    exact ib_a s mA mc ms aA ac xs tA tc ts bA bc bs w g1 l1 g2 l2 HM fm1 fm2 HA
  have HA := Lib.hid hx
  by_cases ka1 : s.aW = s.W
  case neg =>
    rw [sc_n (s := s) (c := ⟨ms, xs, ts, rcs bs⟩) (nb_n3 ka1)]
    have fb : (s.aW != s.W) = true := by simpa using ka1
    exact ib_a1 s mA mc ms aA ac xs tA tc ts bA bc bs w g1 l1 g2 l2 HM fm1 fm2 HA fb
  have fa1 : (s.aW != s.W) = false := by simpa using ka1
  by_cases ka2 : s.aH = s.H
  case neg =>
    rw [sc_n (s := s) (c := ⟨ms, xs, ts, rcs bs⟩) (nb_n4 ka2)]
    have fb : (s.aH != s.H) = true := by simpa using ka2
    exact ib_a2 s mA mc ms aA ac xs tA tc ts bA bc bs w g1 l1 g2 l2 HM fm1 fm2 HA fa1 fb
  have fa2 : (s.aH != s.H) = false := by simpa using ka2
  have w2c : 1 ≤ s.W := by omega
  have w2d : s.W ≤ 120 := by omega
  have w2e : 1 ≤ s.H := by omega
  have w2f : s.H ≤ 120 := by omega
  have MW : Hid (0 ≤ s.mW ∧ s.mW ≤ 1000) := by show _ ∧ _; omega
  have MH : Hid (0 ≤ s.mH ∧ s.mH ≤ 1000) := by show _ ∧ _; omega
  by_cases kh1 : decide ((0 ≤ s.X ∧ s.X < s.mW) ∧ (0 ≤ s.Y ∧ s.Y < s.mH)) = true
  case neg =>
    have fb : decide ((0 ≤ s.X ∧ s.X < s.mW) ∧ (0 ≤ s.Y ∧ s.Y < s.mH)) = false := by simpa only [Bool.not_eq_true] using kh1
    rw [sc_n (s := s) (c := ⟨ms, xs, ts, rcs bs⟩) (decide_eq_false fun h => of_decide_eq_false fb (by have := h.1; have := h.2.1; have := h.2.2.2.1; omega))]
    exact ib_h1 s mA mc ms aA ac xs tA tc ts bA bc bs w g1 l1 g2 l2 HM fm1 fm2 HA fa1 fa2 w2c w2d w2e w2f MW MH fb
  have HH1 := Lib.hid kh1
  replace kh1 := of_decide_eq_true kh1
  by_cases kh2 : decide ((0 ≤ s.sX ∧ s.sX < s.mW) ∧ (0 ≤ s.sY ∧ s.sY < s.mH)) = true
  case neg =>
    have fb : decide ((0 ≤ s.sX ∧ s.sX < s.mW) ∧ (0 ≤ s.sY ∧ s.sY < s.mH)) = false := by simpa only [Bool.not_eq_true] using kh2
    rw [sc_n (s := s) (c := ⟨ms, xs, ts, rcs bs⟩) (decide_eq_false fun h => of_decide_eq_false fb (by have := h.1; have := h.2.1; have := h.2.2.2.1; omega))]
    exact ib_h2 s mA mc ms aA ac xs tA tc ts bA bc bs w g1 l1 g2 l2 HM fm1 fm2 HA fa1 fa2 w2c w2d w2e w2f MW MH HH1 fb
  have HH2 := Lib.hid kh2
  replace kh2 := of_decide_eq_true kh2
  by_cases knw : s.wrap = true → s.X = s.W - 1
  case neg =>
    rw [sc_n (s := s) (c := ⟨ms, xs, ts, rcs bs⟩) (nb_nw knw)]
    have fb : s.wrap = true ∧ (s.X != s.W - 1) = true := by simpa using knw
    exact ib_nw s mA mc ms aA ac xs tA tc ts bA bc bs w g1 l1 g2 l2 HM fm1 fm2 HA fa1 fa2 w2c w2d w2e w2f MW MH HH1 HH2 fb.1 fb.2
  have fw : s.wrap = false ∨ s.wrap = true ∧ (s.X != s.W - 1) = false := by
    cases hq : s.wrap with
    | false => exact .inl rfl
    | true => exact .inr ⟨rfl, by simpa using knw hq⟩
  by_cases kt1 : attrOkB s.A.1 s.A.2.1 = true
  case neg =>
    rw [sc_n (s := s) (c := ⟨ms, xs, ts, rcs bs⟩) (nb_t1 kt1)]
    have fb : attrOkB s.A.1 s.A.2.1 = false := by simpa using kt1
    exact ib_t1 s mA mc ms aA ac xs tA tc ts bA bc bs w g1 l1 g2 l2 HM fm1 fm2 HA fa1 fa2 w2c w2d w2e w2f MW MH HH1 HH2 fw fb
  have HT1 := Lib.hid kt1
  by_cases kt2 : attrOkB s.sA.1 s.sA.2.1 = true
  case neg =>
    rw [sc_n (s := s) (c := ⟨ms, xs, ts, rcs bs⟩) (nb_t2 kt2)]
    have fb : attrOkB s.sA.1 s.sA.2.1 = false := by simpa using kt2
    exact ib_t2 s mA mc ms aA ac xs tA tc ts bA bc bs w g1 l1 g2 l2 HM fm1 fm2 HA fa1 fa2 w2c w2d w2e w2f MW MH HH1 HH2 fw HT1 fb
  have HT2 := Lib.hid kt2
  by_cases kd1 : ¬ s.top < 0
  case neg =>
    rw [sc_n (s := s) (c := ⟨ms, xs, ts, rcs bs⟩) (nb_d1 kd1)]
    have fb := Decidable.of_not_not kd1
    exact ib_d1 s mA mc ms aA ac xs tA tc ts bA bc bs w g1 l1 g2 l2 HM fm1 fm2 HA fa1 fa2 w2c w2d w2e w2f MW MH HH1 HH2 fw HT1 HT2 fb
  by_cases kd3 : ¬ s.bot < s.top
  case neg =>
    rw [sc_n (s := s) (c := ⟨ms, xs, ts, rcs bs⟩) (nb_d3 kd3)]
    have fb := Decidable.of_not_not kd3
    exact ib_d3 s mA mc ms aA ac xs tA tc ts bA bc bs w g1 l1 g2 l2 HM fm1 fm2 HA fa1 fa2 w2c w2d w2e w2f MW MH HH1 HH2 fw HT1 HT2 kd1 fb
  by_cases kd2 : ¬ s.H ≤ s.bot
  case neg =>
    rw [sc_n (s := s) (c := ⟨ms, xs, ts, rcs bs⟩) (nb_d2 kd2)]
    have fb := Decidable.of_not_not kd2
    exact ib_d2 s mA mc ms aA ac xs tA tc ts bA bc bs w g1 l1 g2 l2 HM fm1 fm2 HA fa1 fa2 w2c w2d w2e w2f MW MH HH1 HH2 fw HT1 HT2 kd1 kd3 fb
  by_cases kd4 : s.top = s.bot → s.H = 1
  case neg =>
    rw [sc_n (s := s) (c := ⟨ms, xs, ts, rcs bs⟩) (nb_d4 kd4)]
    have fb : (s.top == s.bot) = true ∧ (s.H != 1) = true := by simpa using kd4
    exact ib_d4 s mA mc ms aA ac xs tA tc ts bA bc bs w g1 l1 g2 l2 HM fm1 fm2 HA fa1 fa2 w2c w2d w2e w2f MW MH HH1 HH2 fw HT1 HT2 kd1 kd3 kd2 fb.1 fb.2
  have fd : (s.top == s.bot) = false ∨ (s.top == s.bot) = true ∧ (s.H != 1) = false := by
    cases hq : s.top == s.bot with
    | false => exact .inl rfl
    | true => exact .inr ⟨rfl, by simpa using kd4 (by simpa using hq)⟩
  have hv : scrB s ⟨ms, xs, ts, rcs bs⟩ = (ascB ts s.W && withinB s.limit 0 100 && (decide ((bs.length : Int) ≤ s.limit) && rowsB (rcs bs))) := by
    have hn : numB s ((rcs bs).length : Int) = (withinB s.limit 0 100 && decide ((bs.length : Int) ≤ s.limit)) := by
      rw [hrl, Bool.eq_iff_iff]
      unfold numB withinB
      rw [Bool.and_eq_true, decide_eq_true_iff, decide_eq_true_iff, decide_eq_true_iff]
      constructor
      · intro h
        have := h.2.2.2.2.2.2
        omega
      · intro h
        exact ⟨⟨km1, km2, ka1, ka2⟩, ⟨by omega, by omega, by omega, by omega⟩, knw, ⟨by omega, by omega, by omega, by omega⟩, ⟨kt1, kt2⟩, ⟨by omega, by omega, by omega, kd4⟩, ⟨by omega, by omega, by omega⟩⟩
    rw [scrB, hm, hx, hn]
    generalize ascB ts s.W = p1
    generalize withinB s.limit 0 100 = p2
    generalize decide ((bs.length : Int) ≤ s.limit) = p3
    generalize rowsB (rcs bs) = p4
    revert p1 p2 p3 p4
    decide
  rw [hv]
  rcases fw with fw1 | ⟨fw1, fw2⟩ <;> rcases fd with fd1' | ⟨fd1', fd2'⟩
  · exact ib_y1 s mA mc ms aA ac xs tA tc ts bA bc bs w g1 l1 g2 l2 HM fm1 fm2 HA fa1 fa2 w2c w2d w2e w2f MW MH HH1 HH2  HT1 HT2 kd1 kd3 kd2  g3 l3 g4 l4 l5 fw1 fd1'
  · exact ib_y3 s mA mc ms aA ac xs tA tc ts bA bc bs w g1 l1 g2 l2 HM fm1 fm2 HA fa1 fa2 w2c w2d w2e w2f MW MH HH1 HH2  HT1 HT2 kd1 kd3 kd2  g3 l3 g4 l4 l5 fw1 fd1' fd2'
  · exact ib_y2 s mA mc ms aA ac xs tA tc ts bA bc bs w g1 l1 g2 l2 HM fm1 fm2 HA fa1 fa2 w2c w2d w2e w2f MW MH HH1 HH2  HT1 HT2 kd1 kd3 kd2  g3 l3 g4 l4 l5 fw1 fw2 fd1'
  · exact ib_y4 s mA mc ms aA ac xs tA tc ts bA bc bs w g1 l1 g2 l2 HM fm1 fm2 HA fa1 fa2 w2c w2d w2e w2f MW MH HH1 HH2  HT1 HT2 kd1 kd3 kd2  g3 l3 g4 l4 l5 fw1 fw2 fd1' fd2'

set_option linter.unusedVariables false
set_option maxRecDepth 100000

theorem size_scrL : (Try.prog.info? 58).map (·.size) = some 31 := by kernel_rfl
/-- A whole struct read in a region that draws. -/
theorem yields_row {P : Program} {ops : Array Oper} {S : World → Prop} {o : Oper} {a : Act} (hw : Region.wanted o (yielded ops a.tmps) = true) (ty : TypeId) (x : Operand) (ho : o.op = .load ty x) (g : Nat) (hx : a.eval x = .pointer (some ⟨g, 0, none⟩)) (t : TypeId) (cs : Array Value) (fr : Nat × Nat) (d : TypeDesc) (hg : ∀ w, S w → w.heap[g]? = some (.cells cs t fr)) (hu : P.underlying ty = some d) (hd : (match d with | .struct _ | .array _ _ => true | _ => false) = true) (hi : (P.info? ty).map (·.size) = some cs.size) : YieldsIf P ops S o (.agg cs) a :=
  Or.inl ⟨hw, fun w hS => by
    unfold execOp
    simp only [ho, hx, Instr.loadAt, Instr.sureAddr, Sem.run_bind, Sem.run_pure, Result.andThen_ok, run_loadVar_row w g t ty cs fr d (hg w hS) hu hd hi]⟩
theorem Holds.eq {M A : Rw} {T : Ti} {B : Tr} {c : Cont} (h : Holds M A T B c) : (⟨M.2.2, A.2.2, T.2.2, rcs B.2.2⟩ : Cont) = c := by
  obtain ⟨h1, h2, h3, h4⟩ := h
  cases c
  simp only at h1 h2 h3 h4
  rw [h1, h2, h3, h4]
set_option maxHeartbeats 8000000 in
theorem walk_FnExactScrOk (vs0 : List Value) (w : World) (h0 : Rd Try.prog w 58 vs0) :
    Calls Try.prog 6 #[.agg vs0.toArray] w fun e w' => e = .returned (.bool true) ∧ Below w.heap.size w w' := by
  obtain ⟨s, M, A, T, B, rfl, hr, hz, hsb⟩ := rd_scr h0
  clear h0 hsb
  show Calls Try.prog _ #[sV s M A T B] _ _
  have t0 : Below w.heap.size w (w.alloc (.cells (sC s M A T B) 58)) := (Below.refl _ _).alloc (Nat.le_refl _) _
  have b0 : (w.alloc (.cells (sC s M A T B) 58)).heap[w.heap.size]? = some (.cells (sC s M A T B) 58 (0, 0)) := heap_alloc_new _ _
  go_enter Try.func6, Try.ntmps6
  go_wp2_with (first | (refine wpList_load_row rfl 58 _ rfl (w.heap.size) rfl 58 (sC s M A T B) (0, 0) _ b0 Try.underlying58 rfl size_scrL ?_))
  refine (szScr_any s M A T B _ (hr.below t0) hz).mono ?_
  rintro e w1 ⟨z, rfl, hb1, hz1⟩
  have t1 := t0.trans (hb1.mono t0.size)
  have b1 := (hb1.block _ (Array.getElem?_eq_some_iff.1 b0).1).trans b0
  clear b0
  rcases hz1.out with hneg | ⟨hpos, hN⟩
  · clear hz1
    go_wp2_with fail
    go_ret
    exact ⟨rfl, t1⟩
  have hz' := Sz.of hN
  have hng : ¬ z < 0 := by omega
  obtain ⟨c, hc⟩ : ∃ c : Cont, Hid (c = ⟨M.2.2, A.2.2, T.2.2, rcs B.2.2⟩) := ⟨_, Lib.hid rfl⟩
  have hC : cTot c ≤ 1048576 := by rw [← cTot_holds (M := M) (A := A) (T := T) (B := B) (c := c) (by rw [hc.out]; exact ⟨rfl, rfl, rfl, rfl⟩)]; exact hN
  have HZ := Lib.hid hz'
  have HC := Lib.hid hC
  clear hz hz1 hN hz' hC hpos
  obtain ⟨v, hv⟩ : ∃ v, Hid (v = scrB s c) := ⟨_, Lib.hid rfl⟩
  go_wp2_with (first | (refine wpList_load_row rfl 58 _ rfl (w.heap.size) rfl 58 (sC s M A T B) (0, 0) _ b1 Try.underlying58 rfl size_scrL ?_))
  refine (toScr_any s M A T B _ (hr.below t1) HZ.out).mono ?_
  rw [← hc.out]
  rintro e w2 ⟨M2, A2, T2, B2, rfl, hh2, ho2, hb2⟩
  have t2 := t1.trans (hb2.mono t1.size)
  have b2 := (hb2.block _ (Array.getElem?_eq_some_iff.1 b1).1).trans b1
  clear b1
  go_wp2_with fail
  refine (scrOk_spec s M2 A2 T2 B2 _ ho2.sr (Sz.of (by rw [cTot_holds hh2.out]; exact HC.out))).mono ?_
  rw [hh2.out.eq, ← hv.out]
  rintro e w3 ⟨rfl, hb3⟩
  have t3 := t2.trans (hb3.mono t2.size)
  have b3 := (hb3.block _ (Array.getElem?_eq_some_iff.1 b2).1).trans b2
  clear b2
  go_wp2_with (first | (refine wpList_load_row rfl 58 _ rfl (w.heap.size) rfl 58 (sC s M A T B) (0, 0) _ b3 Try.underlying58 rfl size_scrL ?_))
  refine (toScr_any s M A T B _ (hr.below t3) HZ.out).mono ?_
  rw [← hc.out]
  rintro e w4 ⟨M4, A4, T4, B4, rfl, hh4, ho4, hb4⟩
  have t4 := t3.trans (hb4.mono t3.size)
  have b4 := (hb4.block _ (Array.getElem?_eq_some_iff.1 b3).1).trans b3
  have s4 := (Array.getElem?_eq_some_iff.1 b4).1
  clear b3
  go_wp2_with (first | (refine wp_store_blk rfl 49 _ _ rfl w4.heap.size (sC s M4 A4 T4 B4) rfl rfl 49 zC (heap_alloc_new _ _) size_scr rfl (sC_one s M4 A4 T4 B4) ?_; intro w5 b5 k5 z5; have h5 : Below w4.heap.size w4 w5 := ((Below.refl _ _).alloc (Nat.le_refl _) _).trans (k5.below (fun k hk => by simp at hk; omega) (by simp))) | (refine wpList_load_row rfl 49 _ rfl (w4.heap.size) rfl 49 (sC s M4 A4 T4 B4) (0, 0) _ b5 Try.underlying49 rfl size_scr ?_))
  have ho5 := ho4.below h5 (Nat.le_refl _)
  have t5 := t4.trans (h5.mono t4.size)
  have s5 := (Array.getElem?_eq_some_iff.1 b5).1
  have c5 := (h5.block _ s4).trans b4
  clear b4 h5 k5
  refine (scrOk_impl s M4 A4 T4 B4 _ ho5.sr (Sz.of (by rw [cTot_holds hh4.out]; exact HC.out))).mono ?_
  rw [hh4.out.eq, ← hv.out]
  rintro e w6 ⟨rfl, hb6⟩
  have t6 := t5.trans (hb6.mono t5.size)
  have b6 := (hb6.block _ s5).trans b5
  have c6 := (hb6.block _ (Array.getElem?_eq_some_iff.1 c5).1).trans c5
  have ho6 := ho5.below hb6 (Nat.le_refl _)
  clear b5 c5
  go_wp2_with fail
  refine wp_region_held_drew (S := fun w' => w'.heap[w.heap.size]? = some (.cells (sC s M A T B) 58 (0, 0)) ∧ w'.heap[w4.heap.size]? = some (.cells (sC s M4 A4 T4 B4) 49 (0, 0))) (by kernel_rfl) ⟨c6, b6⟩ (fun hHeld => ?_)
  refine wpAnyH_take (i := 0) (v := sV s M4 A4 T4 B4) rfl (by kernel_rfl) (by kernel_rfl) (by kernel_rfl) (fun _ _ _ h => h) (yields_row (by rfl) 49 _ rfl (w4.heap.size) rfl 49 (sC s M4 A4 T4 B4) (0, 0) _ (fun _ h => h.2) Try.underlying49 rfl size_scr) (by assumption) ?_
  try simp only [Act.put, List.getElem_toArray, List.getElem_cons_zero, List.setIfInBounds_toArray, List.set_cons_zero, List.set_cons_succ]
  refine wpAnyH_take (i := 1) (v := sV s M A T B) rfl (by kernel_rfl) (by kernel_rfl) (by kernel_rfl) (fun _ _ _ h => h) (yields_row (by rfl) 58 _ rfl (w.heap.size) rfl 58 (sC s M A T B) (0, 0) _ (fun _ h => h.1) Try.underlying58 rfl size_scrL) (by assumption) ?_
  try simp only [Act.put, List.getElem_toArray, List.getElem_cons_succ, List.getElem_cons_zero, List.setIfInBounds_toArray, List.set_cons_zero, List.set_cons_succ]
  refine wpAnyH_ready (rs := [2]) (by kernel_rfl) (by simp) ?_
  refine AllReadyH.cons rfl (fun K hK => ?_) AllReadyH.nil
  go_simp
  refine (toScr_any s M A T B _ (hr.below t6.drew) HZ.out).mono ?_
  rw [← hc.out]
  rintro e w7 ⟨M7, A7, T7, B7, rfl, hh7, ho7, hb7⟩
  have t7 := t6.drew.trans (hb7.mono t6.size)
  have b7 := (hb7.block _ (Array.getElem?_eq_some_iff.1 b6).1).trans b6
  have c7 := (hb7.block _ (Array.getElem?_eq_some_iff.1 c6).1).trans c6
  refine hK.out _ _ ⟨c7, b7⟩ (fun hHeld => ?_)
  clear hK K
  try simp only [Act.put, List.getElem_toArray, List.getElem_cons_succ, List.getElem_cons_zero, List.setIfInBounds_toArray, List.set_cons_zero, List.set_cons_succ]
  refine wpAnyH_ready (rs := [3]) (by kernel_rfl) (by simp) ?_
  refine AllReadyH.cons rfl (fun K hK => ?_) AllReadyH.nil
  go_simp
  refine (eqScr_same s M4 A4 T4 B4 M7 A7 T7 B7 c _ ((ho6.below (Below.refl w6.heap.size w6).drew (Nat.le_refl _)).below hb7 (Nat.le_refl _)).sr ho7.sr hh4 hh7 HC.out).mono ?_
  rintro e w8 ⟨rfl, hb8⟩
  have t8 := t7.trans (hb8.mono t7.size)
  refine hK.out _ _ ⟨(hb8.block _ (Array.getElem?_eq_some_iff.1 c7).1).trans c7, (hb8.block _ (Array.getElem?_eq_some_iff.1 b7).1).trans b7⟩ (fun hHeld => ?_)
  clear hK K
  try simp only [Act.put, List.getElem_toArray, List.getElem_cons_succ, List.getElem_cons_zero, List.setIfInBounds_toArray, List.set_cons_zero, List.set_cons_succ]
  refine wpAnyH_take (i := 4) (v := .bool false) rfl (by kernel_rfl) (by kernel_rfl) (by kernel_rfl) (fun _ _ _ h => h) (Or.inl ⟨by rfl, (by intro w hSw; (try dsimp only at hSw); go_simp; try first | rfl | assumption)⟩) (by assumption) ?_
  try simp only [Act.put, List.getElem_toArray, List.getElem_cons_succ, List.getElem_cons_zero, List.setIfInBounds_toArray, List.set_cons_zero, List.set_cons_succ]
  refine wpAnyH_done (by kernel_rfl) ?_ _
  clear hHeld
  go_wp2_with fail
  go_ret
  exact ⟨rfl, t8⟩

set_option linter.unusedVariables false
set_option maxRecDepth 100000

/-- The grid that is shown. -/
def shG (s : Sc) (c : Cont) : Gr := if s.onA = true then (s.aW, s.aH, c.a) else (s.mW, s.mH, c.m)
/-- What Shown answers. -/
def swR (s : Sc) (c : Cont) : Gr := if scrB s c = true then shG s c else gr0
theorem sw_no {s : Sc} {c : Cont} (h : scrB s c = false) : swR s c = gr0 := if_neg (by rw [h]; simp)
theorem sw_yes {s : Sc} {c : Cont} (h : scrB s c = true) : swR s c = shG s c := if_pos h
theorem scr_grids {s : Sc} {c : Cont} (h : scrB s c = true) : gridB s.mW s.mH c.m = true ∧ gridB s.aW s.aH c.a = true ∧ numB s c.b.length = true ∧ ascB c.t s.W = true ∧ rowsB c.b = true := by
  simpa [scrB, and_assoc] using h
theorem grid_pos {W H : Int} {cs : List Cl} (h : gridB W H cs = true) : 0 < cs.length ∧ cs.length ≤ 4000 := by
  obtain ⟨⟨a, b⟩, ⟨c, d⟩, e, f⟩ := grid_len h
  obtain ⟨p, q⟩ := prod_bd a b c d
  omega
theorem l09Shown_any (s : Sc) (M A : Rw) (T : Ti) (B : Tr) (w : World) :
    Calls Try.prog 91 #[sV s M A T B] w fun e w' => e = .returned (if s.onA = true then gV s.aW s.aH A.1 A.2.2.length A.2.1 else gV s.mW s.mH M.1 M.2.2.length M.2.1) ∧ Below w.heap.size w w' := by
  cases ho : s.onA with
  | true =>
    go_enter Try.func91, Try.ntmps91
    go_wp2_with fail
    refine bodyPost_ret (v := gV s.aW s.aH A.1 A.2.2.length A.2.1) (by simp [results, Try.results91, go_sem, *]) rfl ⟨rfl, (by (repeat (first | exact Below.refl _ _ | (refine Below.alloc ?_ (by first | omega | (simp; done) | (simp; omega)) _) | (refine Below.drew ?_) | (refine below_drewN ?_ _) | (refine below_at1 ?_ (by first | omega | (simp; done) | (simp; omega))) | (refine Below.setCell ?_ (by first | omega | (simp; done) | (simp; omega)) _) | (refine Below.trans ?_ (Below.mono (by assumption) (by first | omega | (simp; done) | (simp; omega)))))))⟩
  | false =>
    go_enter Try.func91, Try.ntmps91
    go_wp2_with fail
    refine bodyPost_ret (v := gV s.mW s.mH M.1 M.2.2.length M.2.1) (by simp [results, Try.results91, go_sem, *]) rfl ⟨rfl, (by (repeat (first | exact Below.refl _ _ | (refine Below.alloc ?_ (by first | omega | (simp; done) | (simp; omega)) _) | (refine Below.drew ?_) | (refine below_drewN ?_ _) | (refine below_at1 ?_ (by first | omega | (simp; done) | (simp; omega))) | (refine Below.setCell ?_ (by first | omega | (simp; done) | (simp; omega)) _) | (refine Below.trans ?_ (Below.mono (by assumption) (by first | omega | (simp; done) | (simp; omega)))))))⟩
/-- The grid that is shown, in a screen's own block. -/
theorem shown_alt (s : Sc) (M A : Rw) (T : Ti) (B : Tr) (g : Nat) (w : World) (hb : w.heap[g]? = some (.cells (sC s M A T B) 49 (0, 0))) (ho : s.onA = true) :
    Calls Try.prog 92 #[.pointer (some ⟨g, 0, none⟩)] w fun e w' => e = .returned (.pointer (some ⟨g, 5, none⟩)) ∧ w' = w := by
  have q : ∀ i, w.cell? ⟨g, i, none⟩ = _ := fun i => cell_of_row w _ i _ _ (0, 0) hb
  go_enter Try.func92, Try.ntmps92
  go_wp2_with fail
  go_ret
  exact ⟨rfl, rfl⟩
theorem shown_main (s : Sc) (M A : Rw) (T : Ti) (B : Tr) (g : Nat) (w : World) (hb : w.heap[g]? = some (.cells (sC s M A T B) 49 (0, 0))) (ho : s.onA = false) :
    Calls Try.prog 92 #[.pointer (some ⟨g, 0, none⟩)] w fun e w' => e = .returned (.pointer (some ⟨g, 2, none⟩)) ∧ w' = w := by
  have q : ∀ i, w.cell? ⟨g, i, none⟩ = _ := fun i => cell_of_row w _ i _ _ (0, 0) hb
  go_enter Try.func92, Try.ntmps92
  go_wp2_with fail
  go_ret
  exact ⟨rfl, rfl⟩
set_option maxHeartbeats 2000000 in
theorem shown_spec (s : Sc) (M A : Rw) (T : Ti) (B : Tr) (c : Cont) (w : World) (hr : Sr w M A T B) (hz : Sz M A T B 1048576) (hh : Hid (Holds M A T B c)) :
    Calls Try.prog 35 #[sV s M A T B] w (GridPost w (swR s c).1 (swR s c).2.1 (swR s c).2.2) := by
  obtain ⟨cm, ca, ct, cb⟩ := c
  obtain ⟨p1, p2, p3, p4⟩ := hh.out
  simp only at p1 p2 p3 p4
  subst p1 p2 p3 p4
  clear hh
  have t0 : Below w.heap.size w ((w.alloc (.cells (sC s M A T B) 49)).alloc (.cells #[.int .i64 0, .int .i64 0, .slice none 0 0] 29)) := ((Below.refl _ _).alloc (Nat.le_refl _) _).alloc (by simp) _
  have b0 : ((w.alloc (.cells (sC s M A T B) 49)).alloc (.cells #[.int .i64 0, .int .i64 0, .slice none 0 0] 29)).heap[w.heap.size]? = some (.cells (sC s M A T B) 49 (0, 0)) := heap_alloc_of _ (heap_alloc_new _ _)
  have hR1 := Lib.hid (sw_no (s := s) (c := ⟨M.2.2, A.2.2, T.2.2, rcs B.2.2⟩))
  have hR2 := Lib.hid (sw_yes (s := s) (c := ⟨M.2.2, A.2.2, T.2.2, rcs B.2.2⟩))
  obtain ⟨R, HR⟩ : ∃ R, Hid (R = swR s ⟨M.2.2, A.2.2, T.2.2, rcs B.2.2⟩) := ⟨_, Lib.hid rfl⟩
  rw [← HR.out] at hR1 hR2 ⊢
  go_enter Try.func35, Try.ntmps35
  go_wp2_with (first | (refine wpList_load_row rfl 49 _ rfl (w.heap.size) rfl 49 (sC s M A T B) (0, 0) _ b0 Try.underlying49 rfl size_scr ?_))
  refine (scrOk_spec s M A T B _ (hr.below t0) hz).mono ?_
  rintro e w1 ⟨he, hb1⟩
  obtain ⟨B1, q1, r1, z1⟩ := keep_blk hb1 (g := w.heap.size) b0
  obtain ⟨D1, qd1, rd1, zd1⟩ := keep_blk hb1 (g := w.heap.size + 1) (heap_alloc_at _ (by simp))
  have t1 := t0.trans (hb1.mono t0.size)
  cases hq : scrB s ⟨M.2.2, A.2.2, T.2.2, rcs B.2.2⟩ with
  | false =>
    have HN := Lib.hid (hR1.out hq)
    rw [hq] at he
    subst he
    clear hq hR1 hR2
    go_wp2_with fail
    exact bodyPost_ret (v := .agg #[.int .i64 0, .int .i64 0, .slice none 0 0]) (by simp [results, Try.results35, go_sem, *]) rfl (gp_nil (((t1.setCell (by first | omega | (simp; done) | (simp; omega)) _).setCell (by first | omega | (simp; done) | (simp; omega)) _).setCell (by first | omega | (simp; done) | (simp; omega)) _) R HN.out)
  | true =>
    have HN := Lib.hid (hR2.out hq)
    rw [hq] at he
    subst he
    obtain ⟨e1, e2, _, _, _⟩ := scr_grids hq
    obtain ⟨f1, f2⟩ := grid_pos e1
    obtain ⟨f3, f4⟩ := grid_pos e2
    clear hq hR1 hR2 e1 e2
    go_wp2_with (first | (refine wpList_load_row rfl 49 _ rfl (w.heap.size) rfl 49 (sC s M A T B) (0, 0) _ B1 Try.underlying49 rfl size_scr ?_))
    refine (l09Shown_any s M A T B _).mono ?_
    rintro e w2 ⟨he, hb2⟩
    obtain ⟨D2, qd2, rd2, zd2⟩ := keep_blk hb2 D1
    have t2 := t1.trans (hb2.mono t1.size)
    clear B1 q1 r1 D1 qd1 rd1
    cases ho : s.onA with
    | true =>
      rw [if_pos ho] at he
      subst he
      rw [shG, if_pos ho] at HN
      clear ho
      go_wp2_with fail
      refine (l07Copy_any s.aW s.aH A.1 A.2.1 A.2.2 _ (hr.ga.below t2) f3 (by omega)).mono ?_
      rintro e w3 ⟨A3, c3, rfl, ho3, hs3, hi3, hb3⟩
      obtain ⟨D3, qd3, rd3, zd3⟩ := keep_blk hb3 D2
      have t3 := t2.trans (hb3.mono t2.size)
      go_wp2_with fail
      have hR := HN.out
      subst hR
      have ho4 := (((ho3.setCell (p := ⟨w.heap.size + 1, 0, none⟩) (by first | omega | (simp; done) | (simp; omega)) (.int .i64 s.aW)).setCell (p := ⟨w.heap.size + 1, 1, none⟩) (by first | omega | (simp; done) | (simp; omega)) (.int .i64 s.aH)).setCell (p := ⟨w.heap.size + 1, 2, none⟩) (by first | omega | (simp; done) | (simp; omega)) (.slice A3 A.2.2.length c3)).mono t2.size
      refine bodyPost_ret (v := gV s.aW s.aH A3 A.2.2.length c3) (by simp [results, Try.results35, go_sem, *]) rfl ⟨A3, c3, rfl, ho4, ho4.gs, ho4.inB, ((t3.setCell (by first | omega | (simp; done) | (simp; omega)) _).setCell (by first | omega | (simp; done) | (simp; omega)) _).setCell (by first | omega | (simp; done) | (simp; omega)) _⟩
    | false =>
      rw [if_neg (by rw [ho]; simp)] at he
      subst he
      rw [shG, if_neg (by rw [ho]; simp)] at HN
      clear ho
      go_wp2_with fail
      refine (l07Copy_any s.mW s.mH M.1 M.2.1 M.2.2 _ (hr.gm.below t2) f1 (by omega)).mono ?_
      rintro e w3 ⟨A3, c3, rfl, ho3, hs3, hi3, hb3⟩
      obtain ⟨D3, qd3, rd3, zd3⟩ := keep_blk hb3 D2
      have t3 := t2.trans (hb3.mono t2.size)
      go_wp2_with fail
      have hR := HN.out
      subst hR
      have ho4 := (((ho3.setCell (p := ⟨w.heap.size + 1, 0, none⟩) (by first | omega | (simp; done) | (simp; omega)) (.int .i64 s.mW)).setCell (p := ⟨w.heap.size + 1, 1, none⟩) (by first | omega | (simp; done) | (simp; omega)) (.int .i64 s.mH)).setCell (p := ⟨w.heap.size + 1, 2, none⟩) (by first | omega | (simp; done) | (simp; omega)) (.slice A3 M.2.2.length c3)).mono t2.size
      refine bodyPost_ret (v := gV s.mW s.mH A3 M.2.2.length c3) (by simp [results, Try.results35, go_sem, *]) rfl ⟨A3, c3, rfl, ho4, ho4.gs, ho4.inB, ((t3.setCell (by first | omega | (simp; done) | (simp; omega)) _).setCell (by first | omega | (simp; done) | (simp; omega)) _).setCell (by first | omega | (simp; done) | (simp; omega)) _⟩
set_option maxHeartbeats 2000000 in
theorem shown_impl (s : Sc) (M A : Rw) (T : Ti) (B : Tr) (c : Cont) (w : World) (hr : Sr w M A T B) (hz : Sz M A T B 1048576) (hh : Hid (Holds M A T B c)) :
    Calls Try.prog 36 #[sV s M A T B] w (GridPost w (swR s c).1 (swR s c).2.1 (swR s c).2.2) := by
  obtain ⟨cm, ca, ct, cb⟩ := c
  obtain ⟨p1, p2, p3, p4⟩ := hh.out
  simp only at p1 p2 p3 p4
  subst p1 p2 p3 p4
  clear hh
  have t0 : Below w.heap.size w ((w.alloc (.cells (sC s M A T B) 49)).alloc (.cells #[.int .i64 0, .int .i64 0, .slice none 0 0] 29)) := ((Below.refl _ _).alloc (Nat.le_refl _) _).alloc (by simp) _
  have b0 : ((w.alloc (.cells (sC s M A T B) 49)).alloc (.cells #[.int .i64 0, .int .i64 0, .slice none 0 0] 29)).heap[w.heap.size]? = some (.cells (sC s M A T B) 49 (0, 0)) := heap_alloc_of _ (heap_alloc_new _ _)
  have hR1 := Lib.hid (sw_no (s := s) (c := ⟨M.2.2, A.2.2, T.2.2, rcs B.2.2⟩))
  have hR2 := Lib.hid (sw_yes (s := s) (c := ⟨M.2.2, A.2.2, T.2.2, rcs B.2.2⟩))
  obtain ⟨R, HR⟩ : ∃ R, Hid (R = swR s ⟨M.2.2, A.2.2, T.2.2, rcs B.2.2⟩) := ⟨_, Lib.hid rfl⟩
  rw [← HR.out] at hR1 hR2 ⊢
  go_enter Try.func36, Try.ntmps36
  go_wp2_with (first | (refine wpList_load_row rfl 49 _ rfl (w.heap.size) rfl 49 (sC s M A T B) (0, 0) _ b0 Try.underlying49 rfl size_scr ?_))
  refine (scrOk_impl s M A T B _ (hr.below t0) hz).mono ?_
  rintro e w1 ⟨he, hb1⟩
  obtain ⟨B1, q1, r1, z1⟩ := keep_blk hb1 (g := w.heap.size) b0
  obtain ⟨D1, qd1, rd1, zd1⟩ := keep_blk hb1 (g := w.heap.size + 1) (heap_alloc_at _ (by simp))
  have t1 := t0.trans (hb1.mono t0.size)
  cases hq : scrB s ⟨M.2.2, A.2.2, T.2.2, rcs B.2.2⟩ with
  | false =>
    have HN := Lib.hid (hR1.out hq)
    rw [hq] at he
    subst he
    clear hq hR1 hR2
    go_wp2_with fail
    exact bodyPost_ret (v := .agg #[.int .i64 0, .int .i64 0, .slice none 0 0]) (by simp [results, Try.results36, go_sem, *]) rfl (gp_nil (((t1.setCell (by first | omega | (simp; done) | (simp; omega)) _).setCell (by first | omega | (simp; done) | (simp; omega)) _).setCell (by first | omega | (simp; done) | (simp; omega)) _) R HN.out)
  | true =>
    have HN := Lib.hid (hR2.out hq)
    rw [hq] at he
    subst he
    obtain ⟨e1, e2, _, _, _⟩ := scr_grids hq
    obtain ⟨f1, f2⟩ := grid_pos e1
    obtain ⟨f3, f4⟩ := grid_pos e2
    clear hq hR1 hR2 e1 e2
    cases ho : s.onA with
    | true =>
      rw [shG, if_pos ho] at HN
      go_wp2_with fail
      refine (shown_alt s M A T B w.heap.size _ B1 ho).mono ?_
      rintro e w2 ⟨rfl, rfl⟩
      go_wp2_with fail
      refine (copyGrid_any s.aW s.aH A.1 A.2.1 A.2.2 _ (hr.ga.below t1) f3 (by omega)).mono ?_
      rintro e w3 ⟨A3, c3, rfl, ho3, hs3, hi3, hb3⟩
      obtain ⟨D3, qd3, rd3, zd3⟩ := keep_blk hb3 D1
      have t3 := t1.trans (hb3.mono t1.size)
      clear B1 q1 r1 D1 qd1 rd1
      go_wp2_with fail
      have hR := HN.out
      subst hR
      have ho4 := (((ho3.setCell (p := ⟨w.heap.size + 1, 0, none⟩) (by first | omega | (simp; done) | (simp; omega)) (.int .i64 s.aW)).setCell (p := ⟨w.heap.size + 1, 1, none⟩) (by first | omega | (simp; done) | (simp; omega)) (.int .i64 s.aH)).setCell (p := ⟨w.heap.size + 1, 2, none⟩) (by first | omega | (simp; done) | (simp; omega)) (.slice A3 A.2.2.length c3)).mono t1.size
      refine bodyPost_ret (v := gV s.aW s.aH A3 A.2.2.length c3) (by simp [results, Try.results36, go_sem, *]) rfl ⟨A3, c3, rfl, ho4, ho4.gs, ho4.inB, ((t3.setCell (by first | omega | (simp; done) | (simp; omega)) _).setCell (by first | omega | (simp; done) | (simp; omega)) _).setCell (by first | omega | (simp; done) | (simp; omega)) _⟩
    | false =>
      rw [shG, if_neg (by rw [ho]; simp)] at HN
      go_wp2_with fail
      refine (shown_main s M A T B w.heap.size _ B1 ho).mono ?_
      rintro e w2 ⟨rfl, rfl⟩
      go_wp2_with fail
      refine (copyGrid_any s.mW s.mH M.1 M.2.1 M.2.2 _ (hr.gm.below t1) f1 (by omega)).mono ?_
      rintro e w3 ⟨A3, c3, rfl, ho3, hs3, hi3, hb3⟩
      obtain ⟨D3, qd3, rd3, zd3⟩ := keep_blk hb3 D1
      have t3 := t1.trans (hb3.mono t1.size)
      clear B1 q1 r1 D1 qd1 rd1
      go_wp2_with fail
      have hR := HN.out
      subst hR
      have ho4 := (((ho3.setCell (p := ⟨w.heap.size + 1, 0, none⟩) (by first | omega | (simp; done) | (simp; omega)) (.int .i64 s.mW)).setCell (p := ⟨w.heap.size + 1, 1, none⟩) (by first | omega | (simp; done) | (simp; omega)) (.int .i64 s.mH)).setCell (p := ⟨w.heap.size + 1, 2, none⟩) (by first | omega | (simp; done) | (simp; omega)) (.slice A3 M.2.2.length c3)).mono t1.size
      refine bodyPost_ret (v := gV s.mW s.mH A3 M.2.2.length c3) (by simp [results, Try.results36, go_sem, *]) rfl ⟨A3, c3, rfl, ho4, ho4.gs, ho4.inB, ((t3.setCell (by first | omega | (simp; done) | (simp; omega)) _).setCell (by first | omega | (simp; done) | (simp; omega)) _).setCell (by first | omega | (simp; done) | (simp; omega)) _⟩
end Go.Proofs.Ytnilgcahggmncaa
