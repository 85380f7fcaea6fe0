/- Rows of a grid scrolled: the program's way. -/
import Derived.Test.YtdmhmelmoobekaaRo
import Derived.Test.YtdmhmelmoobekaaR4
import Derived.Deep.RegionLaw
namespace Go.Proofs.Ytdmhmelmoobekaa
open Go.RowKit
set_option linter.unusedVariables false
set_option maxRecDepth 100000

/-- copy of cells into a slice of one's own, as one step of a region that draws. -/
theorem step_copyG {ops : Array Oper} {o : Oper} {a : Act} {w : World} {K : Act → World → Prop} {Q : Exit → Act → World → Prop} {E : Prop} (hgd : o.guard = none) (d s : Operand) (ho : o.op = .call { callee := .builtin .copy, args := #[d, s], argTypes := #[31, 31] })
    (lo g c k off n dCap dLen sLen sCap : Nat) (cs : List Cl) (A2 : Option Addr) (zs : List Cl) (hO : Og w lo (some ⟨g, 0, none⟩) c cs) (hz : Gs w A2 zs) (h0 : 0 < zs.length) (hoff : off = k * 6) (hn : n = Nat.min sLen dLen) (hzn : zs.length = n)
    (hd : a.eval d = .slice (some ⟨g, off, none⟩) dLen dCap) (hs : a.eval s = .slice A2 sLen sCap) (hfit : k + n ≤ cs.length)
    (h : ∀ w', Hid (Og w' lo (some ⟨g, 0, none⟩) c (spl cs k zs)) → w.grownBy w' (some g) → K (a.put o.dst (goInt n)) w') :
    if Region.wanted o (yielded ops a.tmps) = true then Oper.wp Try.prog o a w K Q else E := by
  have hw : Region.wanted o (yielded ops a.tmps) = true := by simp [Region.wanted, hgd]
  rw [if_pos hw]
  subst hoff
  rcases hz with hz | ⟨b, o', rfl, hc⟩
  · rw [hz] at h0; simp at h0
  obtain ⟨w', hr, h2, h3⟩ := copy_run (dCap := dCap) (sCap := sCap) o.type hO (.inr ⟨b, o', rfl, hc⟩) h0 hn hzn hfit
  have := h w' h2 h3
  unfold Oper.wp execOp
  simp only [ho, resolve, invoke, builtin, Sem.run_bind, Sem.run_pure, Result.andThen_ok, List.map_toArray, List.map_cons, List.map_nil, hd, hs, hr]
  exact this
/-- A row laid over by the cells that scrolling puts there. -/
theorem ro_row {cs zs : List Cl} {a j k y : Nat} {n : Int} (hj : j ≤ y) (hz : zs.length = a) (hfit : y * a + a ≤ cs.length) (h : ∀ x, x < a → zs[x]? = some (roF cs a j k n (y * a + x))) :
    spl (upd cs (roF cs a j k n) (j * a) (y * a)) (y * a) zs = upd cs (roF cs a j k n) (j * a) ((y + 1) * a) := by
  have hja : j * a ≤ y * a := Nat.mul_le_mul_right a hj
  have e : (y + 1) * a = y * a + a := Nat.succ_mul y a
  apply List.ext_getElem?
  intro i
  by_cases hi : i < cs.length
  · rw [upd_get hi, spl, List.getElem?_append]
    have hl : (List.take (y * a) (upd cs (roF cs a j k n) (j * a) (y * a))).length = y * a := by rw [List.length_take, upd_len]; omega
    rw [hl]
    by_cases h1 : i < y * a
    · rw [if_pos h1, List.getElem?_take_of_lt h1, upd_get hi]
      congr 1
      by_cases h2 : j * a ≤ i
      · rw [if_pos ⟨h2, h1⟩, if_pos ⟨h2, by omega⟩]
      · rw [if_neg (by omega), if_neg (by omega)]
    · rw [if_neg h1, List.getElem?_append, hz]
      by_cases h2 : i - y * a < a
      · rw [if_pos h2, h _ h2, if_pos ⟨by omega, by omega⟩, show y * a + (i - y * a) = i by omega]
      · rw [if_neg h2, List.getElem?_drop, show y * a + a + (i - y * a - a) = i by omega, upd_get hi, if_neg (by omega), if_neg (by omega)]
  · have h1 : (spl (upd cs (roF cs a j k n) (j * a) (y * a)) (y * a) zs).length = cs.length := by rw [spl_len (by rw [upd_len]; omega), upd_len]
    rw [List.getElem?_eq_none (by omega), List.getElem?_eq_none (by rw [upd_len]; omega)]
end Go.Proofs.Ytdmhmelmoobekaa
