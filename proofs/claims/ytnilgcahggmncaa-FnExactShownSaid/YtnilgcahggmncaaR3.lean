/- A slice of blanks: the library's Repeat. -/
import Derived.Test.YtnilgcahggmncaaGw
import Derived.Test.YtnilgcahggmncaaShelf
import Derived.Laws.CopyRow
import Derived.Deep.RegionLaw
namespace Go.Proofs.Ytnilgcahggmncaa
open Go.RowKit
set_option linter.unusedVariables false
set_option maxRecDepth 100000

/-- copy(dst, src) of elements of some cells each, into a row that is known whole. -/
theorem run_copy_rowN {P : Program} (w : World) (dT sT ty elem : TypeId) (size n g o dLen dCap : Nat) (a : Addr) (sLen sCap : Nat) (cur : Array Value) (t : TypeId) (fz : Nat × Nat) (cs : List Value)
    (hu : P.underlying dT = some (.slice elem)) (hs : (P.info? elem).map (·.size) = some size)
    (hg : w.heap[g]? = some (.cells cur t fz)) (hz : fz = (0, 0) ∨ cur.size ≤ fz.1) (hn : n = Nat.min sLen dLen) (hl : cs.length = n * size)
    (hsrc : ∀ j v, cs[j]? = some v → w.cell? (a.add j) = some v) (hfit : o + cs.length ≤ cur.size) (h1 : ∀ v ∈ cs, v.oneCell' = true) :
    (Builtin.copy_ #[dT, sT] ty #[.slice (some ⟨g, o, none⟩) dLen dCap, .slice (some a) sLen sCap]).run P w =
      .ok (goInt n) (w.setRow g (cur.toList.take o ++ cs ++ cur.toList.drop (o + cs.length)).toArray) := by
  have hl' := run_loadCells_list (P := P) w a cs hsrc
  have hst := run_storeCells_atD P g o t fz cs 0 cur w hg hz (by simpa using hfit) h1
  cases hq : P.info? elem with
  | none => simp [hq] at hs
  | some i =>
    have hi : i.size = size := by simpa [hq] using hs
    rw [hl] at hl'
    simp [Builtin.copy_, run_underlying hu, Builtin.lenOf, Builtin.firstCells, sizeOf, typeInfo, hq, hi, ← hn, hl', hst]
theorem cvs_append (a b : List Cl) : cvs (a ++ b) = cvs a ++ cvs b := by simp [cvs]
/-- Cells laid over others from place k on. -/
def spl (cs : List Cl) (k : Nat) (zs : List Cl) : List Cl := cs.take k ++ (zs ++ cs.drop (k + zs.length))
theorem spl_len {cs zs : List Cl} {k : Nat} (h : k + zs.length ≤ cs.length) : (spl cs k zs).length = cs.length := by simp [spl]; omega
theorem cvs_take (cs : List Cl) (k : Nat) : cvs (cs.take k) = (cvs cs).take (k * 6) := by
  by_cases hk : k ≤ cs.length
  · have e : cvs cs = cvs (cs.take k) ++ cvs (cs.drop k) := by rw [← cvs_append, List.take_append_drop]
    rw [e, List.take_left' (by rw [cvs_len, List.length_take]; omega)]
  · rw [List.take_of_length_le (by omega), List.take_of_length_le (by rw [cvs_len]; omega)]
theorem cvs_drop (cs : List Cl) (k : Nat) : cvs (cs.drop k) = (cvs cs).drop (k * 6) := by
  by_cases hk : k ≤ cs.length
  · have e : cvs cs = cvs (cs.take k) ++ cvs (cs.drop k) := by rw [← cvs_append, List.take_append_drop]
    rw [e, List.drop_left' (by rw [cvs_len, List.length_take]; omega)]
  · rw [List.drop_eq_nil_of_le (by omega), List.drop_eq_nil_of_le (by rw [cvs_len]; omega)]
    rfl
theorem lay_take {T : Type} (L Z : List T) {m p q : Nat} (hq : Z.length = q) (h1 : p + q ≤ m) (h2 : m ≤ L.length) :
    (L.take p ++ Z ++ L.drop (p + q)).take m = (L.take m).take p ++ (Z ++ (L.take m).drop (p + q)) := by
  have e0 : (L.take p ++ Z).length = p + q := by simp [hq]; omega
  rw [List.take_append, e0, List.take_of_length_le (by omega), List.take_take, Nat.min_eq_left (by omega), List.drop_take, List.append_assoc]
theorem info_cell6 : (Try.prog.info? 44).map (·.size) = some 6 := by kernel_rfl
theorem Gs.sub {w : World} {b o : Nat} {cs : List Cl} (h : Gs w (some ⟨b, o, none⟩) cs) (k n : Nat) : Gs w (some ⟨b, o + k * 6, none⟩) ((cs.drop k).take n) := by
  rcases h with rfl | ⟨b', o', hA, h⟩
  · left; simp
  · simp only [Option.some.injEq, Addr.mk.injEq, and_true] at hA
    obtain ⟨rfl, rfl⟩ := hA
    refine .inr ⟨b, o + k * 6, rfl, fun i x hi j u hu => ?_⟩
    rw [List.getElem?_take] at hi
    split at hi
    · rw [List.getElem?_drop] at hi
      have := h _ x hi j u hu
      rwa [show o + ((k + i) * 6 + j) = o + k * 6 + (i * 6 + j) by omega] at this
    · cases hi
/-- The run of a copy of cells. -/
theorem copy_run {w : World} {lo g c k n dCap sLen dLen sCap : Nat} {cs zs : List Cl} (ty : TypeId) (ho : Og w lo (some ⟨g, 0, none⟩) c cs) {b o : Nat} (hz : Gs w (some ⟨b, o, none⟩) zs) (h0 : 0 < zs.length) (hn : n = Nat.min sLen dLen) (hzn : zs.length = n) (hfit : k + n ≤ cs.length) :
    ∃ w', (Builtin.copy_ #[27, 27] ty #[.slice (some ⟨g, k * 6, none⟩) dLen dCap, .slice (some ⟨b, o, none⟩) sLen sCap]).run Try.prog w = .ok (goInt n) w' ∧ Og w' lo (some ⟨g, 0, none⟩) c (spl cs k zs) ∧ w.grownBy w' (some g) := by
  rcases ho.2 with ⟨h1, _⟩ | ⟨g', cap, cur, fz, hv, hlo, hh, hzz, hnc, hm, hs, ht⟩
  · simp at h1
  simp only [Value.slice.injEq, Option.some.injEq, Addr.mk.injEq, true_and, and_true] at hv
  obtain ⟨rfl, rfl⟩ := hv
  rcases hz with hz | ⟨b', o', hA, hz⟩
  · rw [hz] at h0; simp at h0
  simp only [Option.some.injEq, Addr.mk.injEq, and_true] at hA
  obtain ⟨rfl, rfl⟩ := hA
  have hl6 : (cvs zs).length = n * 6 := by rw [cvs_len, hzn]
  have hr := run_copy_rowN (P := Try.prog) w 27 27 ty 44 6 n g (k * 6) dLen dCap ⟨b, o, none⟩ sLen sCap cur 44 fz (cvs zs) Try.underlying27 info_cell6 hh hzz hn hl6 (Gs.news hz) (by rw [hl6]; omega) (cvs_one zs)
  refine ⟨_, hr, ?_, ?_⟩
  · have hsz : (cur.toList.take (k * 6) ++ cvs zs ++ cur.toList.drop (k * 6 + (cvs zs).length)).toArray.size = cur.size := by
      simp only [List.size_toArray, List.length_append, List.length_take, List.length_drop, Array.length_toList, hl6]
      omega
    have hL : (spl cs k zs).length = cs.length := spl_len (by omega)
    refine ⟨by rw [cvs_len], .inr ⟨g, c, _, fz, rfl, hlo, setRow_heap w g cur _ _ _ hh, hzz.imp id (by rw [hsz]; exact id), by rw [hL]; exact hnc, hm, by rw [hsz]; exact hs, ?_⟩⟩
    rw [hL, spl, cvs_append, cvs_append, cvs_take, cvs_drop, ← ht, hl6, hzn]
    have hcur : cur.toList.length = c * 6 := by rw [Array.length_toList]; exact hs
    rw [show (k + n) * 6 = k * 6 + n * 6 by omega]
    exact lay_take _ _ hl6 (by omega) (by omega)
  · exact ⟨rfl, rfl, rfl, by simp, fun i _ hne => setRow_other w g i _ (by rintro rfl; exact hne rfl)⟩
end Go.Proofs.Ytnilgcahggmncaa
