/- A screen is valid: the reference's way, all conditions joined. -/
import Derived.Test.YtnilgcahggmncaaWh1
import Derived.Test.YtnilgcahggmncaaWh2
import Derived.Test.YtnilgcahggmncaaWh3
import Derived.Test.YtnilgcahggmncaaWh4
import Derived.Test.YtnilgcahggmncaaWh5
import Derived.Test.YtnilgcahggmncaaWi1
import Derived.Test.YtnilgcahggmncaaWi2
import Derived.Test.YtnilgcahggmncaaWi3
import Derived.Test.YtnilgcahggmncaaWi4
namespace Go.Proofs.Ytnilgcahggmncaa
open Go.RowKit
set_option linter.unusedVariables false

theorem scrOk_spec (s : Sc) (M A : Rw) (T : Ti) (B : Tr) (w : World) (hr : Sr w M A T B) (hz : Sz M A T B 1048576) :
    Calls Try.prog 32 #[sV s M A T B] w fun e w' => e = .returned (.bool (scrB s ⟨M.2.2, A.2.2, T.2.2, rcs B.2.2⟩)) ∧ Below w.heap.size w w' := by
  obtain ⟨g1, g2, g3, g4⟩ := hr
  obtain ⟨l1, l2, l3, l4, l5⟩ := hz
  obtain ⟨mA, mc, ms⟩ := M
  obtain ⟨aA, ac, xs⟩ := A
  obtain ⟨tA, tc, ts⟩ := T
  obtain ⟨bA, bc, bs⟩ := B
  have hrl : ((rcs bs).length : Int) = bs.length := by simp [rcs]
  show Calls _ _ _ _ fun e w' => e = .returned (.bool (scrB s ⟨ms, xs, ts, rcs bs⟩)) ∧ Below w.heap.size w w'
  by_cases hm : gridB s.mW s.mH ms = true
  case neg =>
    have HM : gridB s.mW s.mH ms = false := by simpa using hm
    rw [sc_m (s := s) (c := ⟨ms, xs, ts, rcs bs⟩) HM]
    exact sb_m s mA mc ms aA ac xs tA tc ts bA bc bs w g1 l1 g2 l2 HM
  obtain ⟨⟨w1a, w1b⟩, ⟨w1c, w1d⟩, _, _⟩ := grid_len hm
  have HM := Lib.hid hm
  by_cases hx : gridB s.aW s.aH xs = true
  case neg =>
    have HA : gridB s.aW s.aH xs = false := by simpa using hx
    rw [sc_a (s := s) (c := ⟨ms, xs, ts, rcs bs⟩) HA]
    exact sb_a s mA mc ms aA ac xs tA tc ts bA bc bs w g1 l1 g2 l2 HM HA
  have HA := Lib.hid hx
  by_cases kn1 : s.mW = s.W
  case neg =>
    rw [sc_n (s := s) (c := ⟨ms, xs, ts, rcs bs⟩) (nb_n1 kn1)]
    have fb : (s.mW != s.W) = true := by first | (simpa using kn1) | omega
    exact sb_n1 s mA mc ms aA ac xs tA tc ts bA bc bs w g1 l1 g2 l2 HM HA fb
  have fn1 : (s.mW != s.W) = false := by first | exact kn1 | (simpa using kn1)
  by_cases kn2 : s.mH = s.H
  case neg =>
    rw [sc_n (s := s) (c := ⟨ms, xs, ts, rcs bs⟩) (nb_n2 kn2)]
    have fb : (s.mH != s.H) = true := by first | (simpa using kn2) | omega
    exact sb_n2 s mA mc ms aA ac xs tA tc ts bA bc bs w g1 l1 g2 l2 HM HA fn1 fb
  have fn2 : (s.mH != s.H) = false := by first | exact kn2 | (simpa using kn2)
  by_cases kn3 : s.aW = s.W
  case neg =>
    rw [sc_n (s := s) (c := ⟨ms, xs, ts, rcs bs⟩) (nb_n3 kn3)]
    have fb : (s.aW != s.W) = true := by first | (simpa using kn3) | omega
    exact sb_n3 s mA mc ms aA ac xs tA tc ts bA bc bs w g1 l1 g2 l2 HM HA fn1 fn2 fb
  have fn3 : (s.aW != s.W) = false := by first | exact kn3 | (simpa using kn3)
  by_cases kn4 : s.aH = s.H
  case neg =>
    rw [sc_n (s := s) (c := ⟨ms, xs, ts, rcs bs⟩) (nb_n4 kn4)]
    have fb : (s.aH != s.H) = true := by first | (simpa using kn4) | omega
    exact sb_n4 s mA mc ms aA ac xs tA tc ts bA bc bs w g1 l1 g2 l2 HM HA fn1 fn2 fn3 fb
  have fn4 : (s.aH != s.H) = false := by first | exact kn4 | (simpa using kn4)
  have w2a : 1 ≤ s.W ∧ s.W ≤ 120 := by omega
  have w2b : 1 ≤ s.H ∧ s.H ≤ 120 := by omega
  obtain ⟨w2c, w2d⟩ := w2a
  obtain ⟨w2e, w2f⟩ := w2b
  by_cases kn5 : ¬ s.X < 0
  case neg =>
    rw [sc_n (s := s) (c := ⟨ms, xs, ts, rcs bs⟩) (nb_n5 kn5)]
    have fb : s.X < 0 := by first | (simpa using kn5) | omega
    exact sb_n5 s mA mc ms aA ac xs tA tc ts bA bc bs w g1 l1 g2 l2 HM HA fn1 fn2 fn3 fn4 w2c w2d w2e w2f fb
  have fn5 : ¬ s.X < 0 := by first | exact kn5 | (simpa using kn5)
  by_cases kn6 : ¬ s.W ≤ s.X
  case neg =>
    rw [sc_n (s := s) (c := ⟨ms, xs, ts, rcs bs⟩) (nb_n6 kn6)]
    have fb : s.W ≤ s.X := by first | (simpa using kn6) | omega
    exact sb_n6 s mA mc ms aA ac xs tA tc ts bA bc bs w g1 l1 g2 l2 HM HA fn1 fn2 fn3 fn4 fn5 w2c w2d w2e w2f fb
  have fn6 : ¬ s.W ≤ s.X := by first | exact kn6 | (simpa using kn6)
  by_cases kn7 : ¬ s.Y < 0
  case neg =>
    rw [sc_n (s := s) (c := ⟨ms, xs, ts, rcs bs⟩) (nb_n7 kn7)]
    have fb : s.Y < 0 := by first | (simpa using kn7) | omega
    exact sb_n7 s mA mc ms aA ac xs tA tc ts bA bc bs w g1 l1 g2 l2 HM HA fn1 fn2 fn3 fn4 fn5 fn6 w2c w2d w2e w2f fb
  have fn7 : ¬ s.Y < 0 := by first | exact kn7 | (simpa using kn7)
  by_cases kn8 : ¬ s.H ≤ s.Y
  case neg =>
    rw [sc_n (s := s) (c := ⟨ms, xs, ts, rcs bs⟩) (nb_n8 kn8)]
    have fb : s.H ≤ s.Y := by first | (simpa using kn8) | omega
    exact sb_n8 s mA mc ms aA ac xs tA tc ts bA bc bs w g1 l1 g2 l2 HM HA fn1 fn2 fn3 fn4 fn5 fn6 fn7 w2c w2d w2e w2f fb
  have fn8 : ¬ s.H ≤ s.Y := by first | exact kn8 | (simpa using kn8)
  by_cases knw : s.wrap = true → s.X = s.W - 1
  case neg =>
    rw [sc_n (s := s) (c := ⟨ms, xs, ts, rcs bs⟩) (nb_nw knw)]
    have fb : s.wrap = true ∧ (s.X != s.W - 1) = true := by simpa using knw
    exact sb_nw s mA mc ms aA ac xs tA tc ts bA bc bs w g1 l1 g2 l2 HM HA fn1 fn2 fn3 fn4 fn5 fn6 fn7 fn8 w2c w2d w2e w2f fb.1 fb.2
  have fw : s.wrap = false ∨ s.wrap = true ∧ (s.X != s.W - 1) = false := by
    cases hq : s.wrap with
    | false => exact .inl rfl
    | true => exact .inr ⟨rfl, by simpa using knw hq⟩
  by_cases kn9 : ¬ s.sX < 0
  case neg =>
    rw [sc_n (s := s) (c := ⟨ms, xs, ts, rcs bs⟩) (nb_n9 kn9)]
    have fb : s.sX < 0 := by first | (simpa using kn9) | omega
    exact sb_n9 s mA mc ms aA ac xs tA tc ts bA bc bs w g1 l1 g2 l2 HM HA fn1 fn2 fn3 fn4 fn5 fn6 fn7 fn8 fw w2c w2d w2e w2f fb
  have fn9 : ¬ s.sX < 0 := by first | exact kn9 | (simpa using kn9)
  by_cases kn10 : ¬ s.W ≤ s.sX
  case neg =>
    rw [sc_n (s := s) (c := ⟨ms, xs, ts, rcs bs⟩) (nb_n10 kn10)]
    have fb : s.W ≤ s.sX := by first | (simpa using kn10) | omega
    exact sb_n10 s mA mc ms aA ac xs tA tc ts bA bc bs w g1 l1 g2 l2 HM HA fn1 fn2 fn3 fn4 fn5 fn6 fn7 fn8 fw fn9 w2c w2d w2e w2f fb
  have fn10 : ¬ s.W ≤ s.sX := by first | exact kn10 | (simpa using kn10)
  by_cases kn11 : ¬ s.sY < 0
  case neg =>
    rw [sc_n (s := s) (c := ⟨ms, xs, ts, rcs bs⟩) (nb_n11 kn11)]
    have fb : s.sY < 0 := by first | (simpa using kn11) | omega
    exact sb_n11 s mA mc ms aA ac xs tA tc ts bA bc bs w g1 l1 g2 l2 HM HA fn1 fn2 fn3 fn4 fn5 fn6 fn7 fn8 fw fn9 fn10 w2c w2d w2e w2f fb
  have fn11 : ¬ s.sY < 0 := by first | exact kn11 | (simpa using kn11)
  by_cases kn12 : ¬ s.H ≤ s.sY
  case neg =>
    rw [sc_n (s := s) (c := ⟨ms, xs, ts, rcs bs⟩) (nb_n12 kn12)]
    have fb : s.H ≤ s.sY := by first | (simpa using kn12) | omega
    exact sb_n12 s mA mc ms aA ac xs tA tc ts bA bc bs w g1 l1 g2 l2 HM HA fn1 fn2 fn3 fn4 fn5 fn6 fn7 fn8 fw fn9 fn10 fn11 w2c w2d w2e w2f fb
  have fn12 : ¬ s.H ≤ s.sY := by first | exact kn12 | (simpa using kn12)
  by_cases kt1 : attrOkB s.A.1 s.A.2.1 = true
  case neg =>
    rw [sc_n (s := s) (c := ⟨ms, xs, ts, rcs bs⟩) (nb_t1 kt1)]
    have fb : attrOkB s.A.1 s.A.2.1 = false := by simpa using kt1
    exact sb_t1 s mA mc ms aA ac xs tA tc ts bA bc bs w g1 l1 g2 l2 HM HA fn1 fn2 fn3 fn4 fn5 fn6 fn7 fn8 fw fn9 fn10 fn11 fn12 w2c w2d w2e w2f fb
  have ft1 : Hid (attrOkB s.A.1 s.A.2.1 = true) := kt1
  by_cases kt2 : attrOkB s.sA.1 s.sA.2.1 = true
  case neg =>
    rw [sc_n (s := s) (c := ⟨ms, xs, ts, rcs bs⟩) (nb_t2 kt2)]
    have fb : attrOkB s.sA.1 s.sA.2.1 = false := by simpa using kt2
    exact sb_t2 s mA mc ms aA ac xs tA tc ts bA bc bs w g1 l1 g2 l2 HM HA fn1 fn2 fn3 fn4 fn5 fn6 fn7 fn8 fw fn9 fn10 fn11 fn12 ft1 w2c w2d w2e w2f fb
  have ft2 : Hid (attrOkB s.sA.1 s.sA.2.1 = true) := kt2
  by_cases kd1 : ¬ s.top < 0
  case neg =>
    rw [sc_n (s := s) (c := ⟨ms, xs, ts, rcs bs⟩) (nb_d1 kd1)]
    have fb : s.top < 0 := by first | (simpa using kd1) | omega
    exact sb_d1 s mA mc ms aA ac xs tA tc ts bA bc bs w g1 l1 g2 l2 HM HA fn1 fn2 fn3 fn4 fn5 fn6 fn7 fn8 fw fn9 fn10 fn11 fn12 ft1 ft2 w2c w2d w2e w2f fb
  have fd1 : ¬ s.top < 0 := by first | exact kd1 | (simpa using kd1)
  by_cases kd2 : ¬ s.H ≤ s.bot
  case neg =>
    rw [sc_n (s := s) (c := ⟨ms, xs, ts, rcs bs⟩) (nb_d2 kd2)]
    have fb : s.H ≤ s.bot := by first | (simpa using kd2) | omega
    exact sb_d2 s mA mc ms aA ac xs tA tc ts bA bc bs w g1 l1 g2 l2 HM HA fn1 fn2 fn3 fn4 fn5 fn6 fn7 fn8 fw fn9 fn10 fn11 fn12 ft1 ft2 fd1 w2c w2d w2e w2f fb
  have fd2 : ¬ s.H ≤ s.bot := by first | exact kd2 | (simpa using kd2)
  by_cases kd3 : ¬ s.bot < s.top
  case neg =>
    rw [sc_n (s := s) (c := ⟨ms, xs, ts, rcs bs⟩) (nb_d3 kd3)]
    have fb : s.bot < s.top := by first | (simpa using kd3) | omega
    exact sb_d3 s mA mc ms aA ac xs tA tc ts bA bc bs w g1 l1 g2 l2 HM HA fn1 fn2 fn3 fn4 fn5 fn6 fn7 fn8 fw fn9 fn10 fn11 fn12 ft1 ft2 fd1 fd2 w2c w2d w2e w2f fb
  have fd3 : ¬ s.bot < s.top := by first | exact kd3 | (simpa using kd3)
  by_cases kd4 : s.top = s.bot → s.H = 1
  case neg =>
    rw [sc_n (s := s) (c := ⟨ms, xs, ts, rcs bs⟩) (nb_d4 kd4)]
    have fb : (s.top == s.bot) = true ∧ (s.H != 1) = true := by simpa using kd4
    exact sb_d4 s mA mc ms aA ac xs tA tc ts bA bc bs w g1 l1 g2 l2 HM HA fn1 fn2 fn3 fn4 fn5 fn6 fn7 fn8 fw fn9 fn10 fn11 fn12 ft1 ft2 fd1 fd2 fd3 w2c w2d w2e w2f fb.1 fb.2
  have fd : (s.top == s.bot) = false ∨ (s.top == s.bot) = true ∧ (s.H != 1) = false := by
    cases hq : s.top == s.bot with
    | false => exact .inl rfl
    | true => exact .inr ⟨rfl, by simpa using kd4 (by simpa using hq)⟩
  by_cases ke1 : ¬ s.limit < 0
  case neg =>
    rw [sc_n (s := s) (c := ⟨ms, xs, ts, rcs bs⟩) (nb_e1 ke1)]
    have fb : s.limit < 0 := by first | (simpa using ke1) | omega
    exact sb_e1 s mA mc ms aA ac xs tA tc ts bA bc bs w g1 l1 g2 l2 HM HA fn1 fn2 fn3 fn4 fn5 fn6 fn7 fn8 fw fn9 fn10 fn11 fn12 ft1 ft2 fd1 fd2 fd3 fd w2c w2d w2e w2f fb
  have fe1 : ¬ s.limit < 0 := by first | exact ke1 | (simpa using ke1)
  by_cases ke2 : ¬ 100 < s.limit
  case neg =>
    rw [sc_n (s := s) (c := ⟨ms, xs, ts, rcs bs⟩) (nb_e2 ke2)]
    have fb : 100 < s.limit := by first | (simpa using ke2) | omega
    exact sb_e2 s mA mc ms aA ac xs tA tc ts bA bc bs w g1 l1 g2 l2 HM HA fn1 fn2 fn3 fn4 fn5 fn6 fn7 fn8 fw fn9 fn10 fn11 fn12 ft1 ft2 fd1 fd2 fd3 fd fe1 w2c w2d w2e w2f fb
  have fe2 : ¬ 100 < s.limit := by first | exact ke2 | (simpa using ke2)
  by_cases ke3 : ¬ s.limit < (bs.length : Int)
  case neg =>
    rw [sc_n (s := s) (c := ⟨ms, xs, ts, rcs bs⟩) (nb_e3 (by show ¬ ¬ s.limit < ((rcs bs).length : Int); rw [hrl]; exact ke3))]
    have fb : s.limit < (bs.length : Int) := by first | (simpa using ke3) | omega
    exact sb_e3 s mA mc ms aA ac xs tA tc ts bA bc bs w g1 l1 g2 l2 HM HA fn1 fn2 fn3 fn4 fn5 fn6 fn7 fn8 fw fn9 fn10 fn11 fn12 ft1 ft2 fd1 fd2 fd3 fd fe1 fe2 w2c w2d w2e w2f fb
  have fe3 : ¬ s.limit < (bs.length : Int) := by first | exact ke3 | (simpa using ke3)
  have hn : numB s ((rcs bs).length : Int) = true := by
    rw [hrl]
    exact decide_eq_true ⟨⟨kn1, kn2, kn3, kn4⟩, ⟨by omega, by omega, by omega, by omega⟩, knw, ⟨by omega, by omega, by omega, by omega⟩, ⟨kt1, kt2⟩, ⟨by omega, by omega, by omega, kd4⟩, ⟨by omega, by omega, by omega⟩⟩
  have hv : scrB s ⟨ms, xs, ts, rcs bs⟩ = (ascB ts s.W && rowsB (rcs bs)) := by
    rw [scrB, hm, hx, hn]; simp
  rw [hv]
  rcases fw with fw1 | ⟨fw1, fw2⟩ <;> rcases fd with fd1' | ⟨fd1', fd2'⟩
  · exact sb_y1 s mA mc ms aA ac xs tA tc ts bA bc bs w g1 l1 g2 l2 HM HA fn1 fn2 fn3 fn4 fn5 fn6 fn7 fn8 fn9 fn10 fn11 fn12 ft1 ft2 fd1 fd2 fd3 fe1 fe2 fe3 w2c w2d w2e w2f g3 l3 g4 l4 l5 fw1 fd1'
  · exact sb_y3 s mA mc ms aA ac xs tA tc ts bA bc bs w g1 l1 g2 l2 HM HA fn1 fn2 fn3 fn4 fn5 fn6 fn7 fn8 fn9 fn10 fn11 fn12 ft1 ft2 fd1 fd2 fd3 fe1 fe2 fe3 w2c w2d w2e w2f g3 l3 g4 l4 l5 fw1 fd1' fd2'
  · exact sb_y2 s mA mc ms aA ac xs tA tc ts bA bc bs w g1 l1 g2 l2 HM HA fn1 fn2 fn3 fn4 fn5 fn6 fn7 fn8 fn9 fn10 fn11 fn12 ft1 ft2 fd1 fd2 fd3 fe1 fe2 fe3 w2c w2d w2e w2f g3 l3 g4 l4 l5 fw1 fw2 fd1'
  · exact sb_y4 s mA mc ms aA ac xs tA tc ts bA bc bs w g1 l1 g2 l2 HM HA fn1 fn2 fn3 fn4 fn5 fn6 fn7 fn8 fn9 fn10 fn11 fn12 ft1 ft2 fd1 fd2 fd3 fe1 fe2 fe3 w2c w2d w2e w2f g3 l3 g4 l4 l5 fw1 fw2 fd1' fd2'
end Go.Proofs.Ytnilgcahggmncaa
