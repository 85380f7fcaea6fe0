/- Laws that answer a disk: what they share. -/
import Derived.Test.YtndmdhmghjfckaaHf
namespace Go.Proofs.Ytndmdhmghjfckaa
open Go.RowKit
set_option linter.unusedVariables false
set_option maxRecDepth 100000

/-- What an answer is bounded by. -/
structure DVB (V : DV) : Prop where
  cl : V.cs.length ≤ 1048576
  cb : ∀ x, x ∈ V.cs → x.2.1.length ≤ 1048576
  kl : V.ks.length ≤ 1048576
  tl : V.ts.length ≤ 1048576
  mm : 1 + 2 * V.cs.length + (V.cs.map fun x => x.2.1.length).sum + 2 * V.ks.length + 4 * V.ts.length ≤ 10000000
theorem DVB.no : DVB DV.no := ⟨by simp [DV.no], by simp [DV.no], by simp [DV.no], by simp [DV.no], by simp [DV.no]⟩
theorem mEnd_cs {fs : List Fl} {cs : List (Int × List UInt8 × Int)} (h : fs.map fc = cs) (kn tn : Nat) : mEnd 1 fs kn tn = 1 + 2 * cs.length + (cs.map fun x => x.2.1.length).sum + 2 * kn + 4 * tn := by
  subst h
  rw [mEnd, List.length_map, List.map_map]
  rfl
theorem setV_bd {room fuse r f n : Int} {es : List Fl} {ks : List Lk} {ts : List Tn} (h : ¬ (1048576 : Int) < (es.length + ftot es) + (ks.length + ktot ks) + (ts.length + ttot ts)) (hy : ∀ e, e ∈ es → e.2.1.2.2.length ≤ 1048576) : DVB (setV room fuse r f n (es.map fc) (ftot es) ks ts) := by
  unfold setV
  split
  · split
    · refine ⟨by simp; omega, fun x hx => ?_, by dsimp only; omega, by dsimp only; omega, ?_⟩
      · obtain ⟨e, he, rfl⟩ := List.mem_map.1 hx
        exact hy e he
      · have h1 : ((es.map fc).map fun x => x.2.1.length).sum = ftot es := by rw [List.map_map]; rfl
        dsimp only
        rw [h1, List.length_map]
        omega
    · exact DVB.no
  · exact DVB.no
theorem blk_kp {a b g : Nat} {w w' : World} {x : Obj} (hk : Kp a b w w') (h : w.heap[g]? = some x) (hd : g < a ∨ b ≤ g) : w'.heap[g]? = some x := by
  have hg := (Array.getElem?_eq_some_iff.1 h).1
  rcases hd with hd | hd
  · exact (hk.1.block g hd).trans h
  · exact (hk.2 g hd hg).trans h
theorem blk_be {g : Nat} {w w' : World} {x : Obj} (hb : Below w.heap.size w w') (h : w.heap[g]? = some x) : w'.heap[g]? = some x := (hb.block g (Array.getElem?_eq_some_iff.1 h).1).trans h
end Go.Proofs.Ytndmdhmghjfckaa
