/- A screen: its value, how it is read. -/
import Derived.Test.YtnilgcahggmncaaW3
namespace Go.Proofs.Ytnilgcahggmncaa
open Go.RowKit
set_option linter.unusedVariables false
set_option maxRecDepth 100000

/-- What of a screen lies in the value itself. -/
structure Sc where
  (W H mW mH aW aH : Int)
  onA : Bool
  (X Y : Int)
  wrap : Bool
  A : At
  (top bot : Int)
  (noWrap hide : Bool)
  (sX sY : Int)
  sA : At
  limit : Int
abbrev Ti := Option Addr × Nat × List Int
abbrev tv (e : Ti) : Value := .slice e.1 e.2.2.length e.2.1
abbrev Tr := Option Addr × Nat × List Rw
abbrev bv (e : Tr) : Value := .slice e.1 e.2.2.length e.2.1
abbrev sC (s : Sc) (m a : Rw) (t : Ti) (b : Tr) : Array Value := #[.int .i64 s.W, .int .i64 s.H, .int .i64 s.mW, .int .i64 s.mH, rv m, .int .i64 s.aW, .int .i64 s.aH, rv a, .bool s.onA, .int .i64 s.X, .int .i64 s.Y, .bool s.wrap, .int .i64 s.A.1, .int .i64 s.A.2.1, .bool s.A.2.2.1, .bool s.A.2.2.2.1, .bool s.A.2.2.2.2, .int .i64 s.top, .int .i64 s.bot, .bool s.noWrap, .bool s.hide, .int .i64 s.sX, .int .i64 s.sY, .int .i64 s.sA.1, .int .i64 s.sA.2.1, .bool s.sA.2.2.1, .bool s.sA.2.2.2.1, .bool s.sA.2.2.2.2, tv t, .int .i64 s.limit, bv b]
abbrev sV (s : Sc) (m a : Rw) (t : Ti) (b : Tr) : Value := .agg (sC s m a t b)
/-- The slices of a screen can be read. -/
structure Sr (w : World) (m a : Rw) (t : Ti) (b : Tr) : Prop where
  gm : Gs w m.1 m.2.2
  ga : Gs w a.1 a.2.2
  gt : Cs w t.1 (t.2.2.map I)
  gb : Rs w b.1 b.2.2
theorem Sr.below {w w' : World} {m a : Rw} {t : Ti} {b : Tr} (h : Sr w m a t b) (hb : Below w.heap.size w w') : Sr w' m a t b := ⟨h.gm.below hb, h.ga.below hb, h.gt.below hb, h.gb.below hb⟩
/-- How many cells and numbers the slices have. -/
structure Sz (m a : Rw) (t : Ti) (b : Tr) (N : Nat) : Prop where
  lm : m.2.2.length ≤ N
  la : a.2.2.length ≤ N
  lt : t.2.2.length ≤ N
  lb : b.2.2.length ≤ N
  lr : ∀ e, e ∈ b.2.2 → e.2.2.length ≤ N
theorem rd_grid2 {w : World} {vs : List Value} (h : Rd Try.prog w 24 vs) : ∃ (W H : Int) (m : Rw), vs = [.int .i64 W, .int .i64 H, rv m] ∧ Gs w m.1 m.2.2 ∧ m.2.2.length ≤ maxLen ∧ (-9223372036854775808 ≤ W ∧ W ≤ 9223372036854775807) ∧ (-9223372036854775808 ≤ H ∧ H ≤ 9223372036854775807) := by
  obtain ⟨W, H, A, cs, c, rfl, hg, hm, hW, hH⟩ := rd_grid h
  exact ⟨W, H, (A, c, cs), rfl, hg, hm, hW, hH⟩
theorem rd_attr2 {w : World} {vs : List Value} (h : Rd Try.prog w 55 vs) : ∃ A : At, vs = [.int .i64 A.1, .int .i64 A.2.1, .bool A.2.2.1, .bool A.2.2.2.1, .bool A.2.2.2.2] := by
  obtain ⟨f, b, x, y, z, rfl⟩ := rd_AttrL h
  exact ⟨(f, b, x, y, z), rfl⟩
/-- A number that fits. -/
def Fits (n : Int) : Prop := -9223372036854775808 ≤ n ∧ n ≤ 9223372036854775807
structure Sb (s : Sc) : Prop where
  (W : Fits s.W) (H : Fits s.H) (mW : Fits s.mW) (mH : Fits s.mH) (aW : Fits s.aW) (aH : Fits s.aH) (X : Fits s.X) (Y : Fits s.Y) (top : Fits s.top) (bot : Fits s.bot) (sX : Fits s.sX) (sY : Fits s.sY) (limit : Fits s.limit)
set_option maxHeartbeats 1000000 in
theorem rd_scr {w : World} {vs : List Value} (h : Rd Try.prog w 58 vs) : ∃ (s : Sc) (m a : Rw) (t : Ti) (b : Tr), vs = (sC s m a t b).toList ∧ Sr w m a t b ∧ Sz m a t b maxLen ∧ Sb s := by
  obtain ⟨hl, hf⟩ := h.struct Try.underlying58
  have hc : Try.prog.cellsOf 58 = 31 := by kernel_rfl
  have hg : Try.prog.cellsOf 24 = 3 := by kernel_rfl
  have hd : Try.prog.cellsOf 46 = 1 := by kernel_rfl
  have he : Try.prog.cellsOf 56 = 1 := by kernel_rfl
  match vs, hl.trans hc with
  | [c0, c1, c2, c3, c4, c5, c6, c7, c8, c9, c10, c11, c12, c13, c14, c15, c16, c17, c18, c19, c20, c21, c22, c23, c24, c25, c26, c27, c28, c29, c30], _ =>
    obtain ⟨x0, e0, w0⟩ := (hf 0 _ rfl).int Try.underlying3
    obtain ⟨x1, e1, w1⟩ := (hf 1 _ rfl).int Try.underlying3
    obtain ⟨W2, H2, m2, e2, g2, l2, b2, d2⟩ := rd_grid2 (hf 2 _ rfl)
    obtain ⟨W3, H3, m3, e3, g3, l3, b3, d3⟩ := rd_grid2 (hf 3 _ rfl)
    obtain ⟨x4, e4⟩ := (hf 4 _ rfl).bool Try.underlying4
    obtain ⟨x5, e5, w5⟩ := (hf 5 _ rfl).int Try.underlying3
    obtain ⟨x6, e6, w6⟩ := (hf 6 _ rfl).int Try.underlying3
    obtain ⟨x7, e7⟩ := (hf 7 _ rfl).bool Try.underlying4
    obtain ⟨A8, e8⟩ := rd_attr2 (hf 8 _ rfl)
    obtain ⟨x9, e9, w9⟩ := (hf 9 _ rfl).int Try.underlying3
    obtain ⟨x10, e10, w10⟩ := (hf 10 _ rfl).int Try.underlying3
    obtain ⟨x11, e11⟩ := (hf 11 _ rfl).bool Try.underlying4
    obtain ⟨x12, e12⟩ := (hf 12 _ rfl).bool Try.underlying4
    obtain ⟨x13, e13, w13⟩ := (hf 13 _ rfl).int Try.underlying3
    obtain ⟨x14, e14, w14⟩ := (hf 14 _ rfl).int Try.underlying3
    obtain ⟨A15, e15⟩ := rd_attr2 (hf 15 _ rfl)
    obtain ⟨x17, e17, w17⟩ := (hf 17 _ rfl).int Try.underlying3
    have hT : Rd Try.prog w 46 ([c28].take (Try.prog.cellsOf 46)) := hf 16 _ rfl
    rw [hd] at hT
    obtain ⟨A, n, c, e16, _⟩ := hT.slice Try.underlying46
    rw [e16] at hT
    obtain ⟨ns, rfl, gT, mT, _⟩ := rd_ints hT
    have hB : Rd Try.prog w 56 ([c30].take (Try.prog.cellsOf 56)) := hf 18 _ rfl
    rw [he] at hB
    obtain ⟨A', n', c', e18, _⟩ := hB.slice Try.underlying56
    rw [e18] at hB
    obtain ⟨es, rfl, gB, mB, mB2⟩ := rd_rows hB
    simp [cellsInt, cellsBool, cellsAttrL, hg] at e0 e1 e2 e3 e4 e5 e6 e7 e8 e9 e10 e11 e12 e13 e14 e15 e17 e16 e18
    obtain ⟨e2a, e2b, e2c⟩ := e2
    obtain ⟨e3a, e3b, e3c⟩ := e3
    obtain ⟨e8a, e8b, e8c, e8d, e8e⟩ := e8
    obtain ⟨e15a, e15b, e15c, e15d, e15e⟩ := e15
    exact ⟨⟨x0, x1, W2, H2, W3, H3, x4, x5, x6, x7, A8, x9, x10, x11, x12, x13, x14, A15, x17⟩, m2, m3, (A, c, ns), (A', c', es), by simp [e0, e1, e2a, e2b, e2c, e3a, e3b, e3c, e4, e5, e6, e7, e8a, e8b, e8c, e8d, e8e, e9, e10, e11, e12, e13, e14, e15a, e15b, e15c, e15d, e15e, e16, e17, e18], ⟨g2, g3, gT, gB⟩, ⟨l2, l3, mT, mB, mB2⟩, ⟨i64_bd w0, i64_bd w1, b2, d2, b3, d3, i64_bd w5, i64_bd w6, i64_bd w9, i64_bd w10, i64_bd w13, i64_bd w14, i64_bd w17⟩⟩
end Go.Proofs.Ytnilgcahggmncaa
