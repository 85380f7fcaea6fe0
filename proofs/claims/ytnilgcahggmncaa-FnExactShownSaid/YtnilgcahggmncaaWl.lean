/- A screen is valid: the program's way, all conditions joined. -/
import Derived.Test.YtnilgcahggmncaaWj
import Derived.Test.YtnilgcahggmncaaWk1
import Derived.Test.YtnilgcahggmncaaWk2
import Derived.Test.YtnilgcahggmncaaWk3
import Derived.Test.YtnilgcahggmncaaWk4
import Derived.Test.YtnilgcahggmncaaWk5
namespace Go.Proofs.Ytnilgcahggmncaa
open Go.RowKit
set_option linter.unusedVariables false

theorem scrOk_impl (s : Sc) (M A : Rw) (T : Ti) (B : Tr) (w : World) (hr : Sr w M A T B) (hz : Sz M A T B 1048576) :
    Calls Try.prog 34 #[sV s M A T B] w fun e w' => e = .returned (.bool (scrB s ⟨M.2.2, A.2.2, T.2.2, rcs B.2.2⟩)) ∧ Below w.heap.size w w' := by
  obtain ⟨g1, g2, g3, g4⟩ := hr
  obtain ⟨l1, l2, l3, l4, l5⟩ := hz
  obtain ⟨mA, mc, ms⟩ := M
  obtain ⟨aA, ac, xs⟩ := A
  obtain ⟨tA, tc, ts⟩ := T
  obtain ⟨bA, bc, bs⟩ := B
  have hrl : ((rcs bs).length : Int) = bs.length := by simp [rcs]
  show Calls _ _ _ _ fun e w' => e = .returned (.bool (scrB s ⟨ms, xs, ts, rcs bs⟩)) ∧ Below w.heap.size w w'
  by_cases hm : gridB s.mW s.mH ms = true
  case neg =>
    have HM : gridB s.mW s.mH ms = false := by simpa using hm
    rw [sc_m (s := s) (c := ⟨ms, xs, ts, rcs bs⟩) HM]
    exact ib_m s mA mc ms aA ac xs tA tc ts bA bc bs w g1 l1 g2 l2 HM
  obtain ⟨⟨w1a, w1b⟩, ⟨w1c, w1d⟩, _, _⟩ := grid_len hm
  have HM := Lib.hid hm
  by_cases km1 : s.mW = s.W
  case neg =>
    rw [sc_n (s := s) (c := ⟨ms, xs, ts, rcs bs⟩) (nb_n1 km1)]
    have fb : (s.mW != s.W) = true := by simpa using km1
    exact ib_m1 s mA mc ms aA ac xs tA tc ts bA bc bs w g1 l1 g2 l2 HM fb
  have fm1 : (s.mW != s.W) = false := by simpa using km1
  by_cases km2 : s.mH = s.H
  case neg =>
    rw [sc_n (s := s) (c := ⟨ms, xs, ts, rcs bs⟩) (nb_n2 km2)]
    have fb : (s.mH != s.H) = true := by simpa using km2
    exact ib_m2 s mA mc ms aA ac xs tA tc ts bA bc bs w g1 l1 g2 l2 HM fm1 fb
  have fm2 : (s.mH != s.H) = false := by simpa using km2
  by_cases hx : gridB s.aW s.aH xs = true
  case neg =>
    have HA : gridB s.aW s.aH xs = false := by simpa using hx
    rw [sc_a (s := s) (c := ⟨ms, xs, ts, rcs bs⟩) HA]
    exact ib_a s mA mc ms aA ac xs tA tc ts bA bc bs w g1 l1 g2 l2 HM fm1 fm2 HA
  have HA := Lib.hid hx
  by_cases ka1 : s.aW = s.W
  case neg =>
    rw [sc_n (s := s) (c := ⟨ms, xs, ts, rcs bs⟩) (nb_n3 ka1)]
    have fb : (s.aW != s.W) = true := by simpa using ka1
    exact ib_a1 s mA mc ms aA ac xs tA tc ts bA bc bs w g1 l1 g2 l2 HM fm1 fm2 HA fb
  have fa1 : (s.aW != s.W) = false := by simpa using ka1
  by_cases ka2 : s.aH = s.H
  case neg =>
    rw [sc_n (s := s) (c := ⟨ms, xs, ts, rcs bs⟩) (nb_n4 ka2)]
    have fb : (s.aH != s.H) = true := by simpa using ka2
    exact ib_a2 s mA mc ms aA ac xs tA tc ts bA bc bs w g1 l1 g2 l2 HM fm1 fm2 HA fa1 fb
  have fa2 : (s.aH != s.H) = false := by simpa using ka2
  have w2c : 1 ≤ s.W := by omega
  have w2d : s.W ≤ 120 := by omega
  have w2e : 1 ≤ s.H := by omega
  have w2f : s.H ≤ 120 := by omega
  have MW : Hid (0 ≤ s.mW ∧ s.mW ≤ 1000) := by show _ ∧ _; omega
  have MH : Hid (0 ≤ s.mH ∧ s.mH ≤ 1000) := by show _ ∧ _; omega
  by_cases kh1 : decide ((0 ≤ s.X ∧ s.X < s.mW) ∧ (0 ≤ s.Y ∧ s.Y < s.mH)) = true
  case neg =>
    have fb : decide ((0 ≤ s.X ∧ s.X < s.mW) ∧ (0 ≤ s.Y ∧ s.Y < s.mH)) = false := by simpa only [Bool.not_eq_true] using kh1
    rw [sc_n (s := s) (c := ⟨ms, xs, ts, rcs bs⟩) (decide_eq_false fun h => of_decide_eq_false fb (by have := h.1; have := h.2.1; have := h.2.2.2.1; omega))]
    exact ib_h1 s mA mc ms aA ac xs tA tc ts bA bc bs w g1 l1 g2 l2 HM fm1 fm2 HA fa1 fa2 w2c w2d w2e w2f MW MH fb
  have HH1 := Lib.hid kh1
  replace kh1 := of_decide_eq_true kh1
  by_cases kh2 : decide ((0 ≤ s.sX ∧ s.sX < s.mW) ∧ (0 ≤ s.sY ∧ s.sY < s.mH)) = true
  case neg =>
    have fb : decide ((0 ≤ s.sX ∧ s.sX < s.mW) ∧ (0 ≤ s.sY ∧ s.sY < s.mH)) = false := by simpa only [Bool.not_eq_true] using kh2
    rw [sc_n (s := s) (c := ⟨ms, xs, ts, rcs bs⟩) (decide_eq_false fun h => of_decide_eq_false fb (by have := h.1; have := h.2.1; have := h.2.2.2.1; omega))]
    exact ib_h2 s mA mc ms aA ac xs tA tc ts bA bc bs w g1 l1 g2 l2 HM fm1 fm2 HA fa1 fa2 w2c w2d w2e w2f MW MH HH1 fb
  have HH2 := Lib.hid kh2
  replace kh2 := of_decide_eq_true kh2
  by_cases knw : s.wrap = true → s.X = s.W - 1
  case neg =>
    rw [sc_n (s := s) (c := ⟨ms, xs, ts, rcs bs⟩) (nb_nw knw)]
    have fb : s.wrap = true ∧ (s.X != s.W - 1) = true := by simpa using knw
    exact ib_nw s mA mc ms aA ac xs tA tc ts bA bc bs w g1 l1 g2 l2 HM fm1 fm2 HA fa1 fa2 w2c w2d w2e w2f MW MH HH1 HH2 fb.1 fb.2
  have fw : s.wrap = false ∨ s.wrap = true ∧ (s.X != s.W - 1) = false := by
    cases hq : s.wrap with
    | false => exact .inl rfl
    | true => exact .inr ⟨rfl, by simpa using knw hq⟩
  by_cases kt1 : attrOkB s.A.1 s.A.2.1 = true
  case neg =>
    rw [sc_n (s := s) (c := ⟨ms, xs, ts, rcs bs⟩) (nb_t1 kt1)]
    have fb : attrOkB s.A.1 s.A.2.1 = false := by simpa using kt1
    exact ib_t1 s mA mc ms aA ac xs tA tc ts bA bc bs w g1 l1 g2 l2 HM fm1 fm2 HA fa1 fa2 w2c w2d w2e w2f MW MH HH1 HH2 fw fb
  have HT1 := Lib.hid kt1
  by_cases kt2 : attrOkB s.sA.1 s.sA.2.1 = true
  case neg =>
    rw [sc_n (s := s) (c := ⟨ms, xs, ts, rcs bs⟩) (nb_t2 kt2)]
    have fb : attrOkB s.sA.1 s.sA.2.1 = false := by simpa using kt2
    exact ib_t2 s mA mc ms aA ac xs tA tc ts bA bc bs w g1 l1 g2 l2 HM fm1 fm2 HA fa1 fa2 w2c w2d w2e w2f MW MH HH1 HH2 fw HT1 fb
  have HT2 := Lib.hid kt2
  by_cases kd1 : ¬ s.top < 0
  case neg =>
    rw [sc_n (s := s) (c := ⟨ms, xs, ts, rcs bs⟩) (nb_d1 kd1)]
    have fb := Decidable.of_not_not kd1
    exact ib_d1 s mA mc ms aA ac xs tA tc ts bA bc bs w g1 l1 g2 l2 HM fm1 fm2 HA fa1 fa2 w2c w2d w2e w2f MW MH HH1 HH2 fw HT1 HT2 fb
  by_cases kd3 : ¬ s.bot < s.top
  case neg =>
    rw [sc_n (s := s) (c := ⟨ms, xs, ts, rcs bs⟩) (nb_d3 kd3)]
    have fb := Decidable.of_not_not kd3
    exact ib_d3 s mA mc ms aA ac xs tA tc ts bA bc bs w g1 l1 g2 l2 HM fm1 fm2 HA fa1 fa2 w2c w2d w2e w2f MW MH HH1 HH2 fw HT1 HT2 kd1 fb
  by_cases kd2 : ¬ s.H ≤ s.bot
  case neg =>
    rw [sc_n (s := s) (c := ⟨ms, xs, ts, rcs bs⟩) (nb_d2 kd2)]
    have fb := Decidable.of_not_not kd2
    exact ib_d2 s mA mc ms aA ac xs tA tc ts bA bc bs w g1 l1 g2 l2 HM fm1 fm2 HA fa1 fa2 w2c w2d w2e w2f MW MH HH1 HH2 fw HT1 HT2 kd1 kd3 fb
  by_cases kd4 : s.top = s.bot → s.H = 1
  case neg =>
    rw [sc_n (s := s) (c := ⟨ms, xs, ts, rcs bs⟩) (nb_d4 kd4)]
    have fb : (s.top == s.bot) = true ∧ (s.H != 1) = true := by simpa using kd4
    exact ib_d4 s mA mc ms aA ac xs tA tc ts bA bc bs w g1 l1 g2 l2 HM fm1 fm2 HA fa1 fa2 w2c w2d w2e w2f MW MH HH1 HH2 fw HT1 HT2 kd1 kd3 kd2 fb.1 fb.2
  have fd : (s.top == s.bot) = false ∨ (s.top == s.bot) = true ∧ (s.H != 1) = false := by
    cases hq : s.top == s.bot with
    | false => exact .inl rfl
    | true => exact .inr ⟨rfl, by simpa using kd4 (by simpa using hq)⟩
  have hv : scrB s ⟨ms, xs, ts, rcs bs⟩ = (ascB ts s.W && withinB s.limit 0 100 && (decide ((bs.length : Int) ≤ s.limit) && rowsB (rcs bs))) := by
    have hn : numB s ((rcs bs).length : Int) = (withinB s.limit 0 100 && decide ((bs.length : Int) ≤ s.limit)) := by
      rw [hrl, Bool.eq_iff_iff]
      unfold numB withinB
      rw [Bool.and_eq_true, decide_eq_true_iff, decide_eq_true_iff, decide_eq_true_iff]
      constructor
      · intro h
        have := h.2.2.2.2.2.2
        omega
      · intro h
        exact ⟨⟨km1, km2, ka1, ka2⟩, ⟨by omega, by omega, by omega, by omega⟩, knw, ⟨by omega, by omega, by omega, by omega⟩, ⟨kt1, kt2⟩, ⟨by omega, by omega, by omega, kd4⟩, ⟨by omega, by omega, by omega⟩⟩
    rw [scrB, hm, hx, hn]
    generalize ascB ts s.W = p1
    generalize withinB s.limit 0 100 = p2
    generalize decide ((bs.length : Int) ≤ s.limit) = p3
    generalize rowsB (rcs bs) = p4
    revert p1 p2 p3 p4
    decide
  rw [hv]
  rcases fw with fw1 | ⟨fw1, fw2⟩ <;> rcases fd with fd1' | ⟨fd1', fd2'⟩
  · exact ib_y1 s mA mc ms aA ac xs tA tc ts bA bc bs w g1 l1 g2 l2 HM fm1 fm2 HA fa1 fa2 w2c w2d w2e w2f MW MH HH1 HH2  HT1 HT2 kd1 kd3 kd2  g3 l3 g4 l4 l5 fw1 fd1'
  · exact ib_y3 s mA mc ms aA ac xs tA tc ts bA bc bs w g1 l1 g2 l2 HM fm1 fm2 HA fa1 fa2 w2c w2d w2e w2f MW MH HH1 HH2  HT1 HT2 kd1 kd3 kd2  g3 l3 g4 l4 l5 fw1 fd1' fd2'
  · exact ib_y2 s mA mc ms aA ac xs tA tc ts bA bc bs w g1 l1 g2 l2 HM fm1 fm2 HA fa1 fa2 w2c w2d w2e w2f MW MH HH1 HH2  HT1 HT2 kd1 kd3 kd2  g3 l3 g4 l4 l5 fw1 fw2 fd1'
  · exact ib_y4 s mA mc ms aA ac xs tA tc ts bA bc bs w g1 l1 g2 l2 HM fm1 fm2 HA fa1 fa2 w2c w2d w2e w2f MW MH HH1 HH2  HT1 HT2 kd1 kd3 kd2  g3 l3 g4 l4 l5 fw1 fw2 fd1' fd2'
end Go.Proofs.Ytnilgcahggmncaa
