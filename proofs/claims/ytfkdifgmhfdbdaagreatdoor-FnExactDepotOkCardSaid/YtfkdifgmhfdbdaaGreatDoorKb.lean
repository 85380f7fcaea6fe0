/- What a file's name reads: plain. -/
import Derived.Test.YtfkdifgmhfdbdaaGreatDoorKa
namespace Go.Proofs.YtfkdifgmhfdbdaaGreatDoor
open Go.RowKit
set_option linter.unusedVariables false
set_option maxRecDepth 100000

theorem findS_get (dir : List Lk) (nm : ByteArray) : findS dir nm = match dir[dir.findIdx fun x => eqN x.1 nm]? with
    | some y => y.2
    | none => 0 := by
  induction dir with
  | nil => rfl
  | cons x r ih =>
    rw [findS, List.findIdx_cons]
    cases h : eqN x.1 nm with
    | true => rfl
    | false => simpa using ih
/-- What a name reads from a disk; of one that is not valid: nothing. -/
def readV (r f n : Int) (cs : List (Int × List UInt8 × Int)) (u : Nat) (ks : List Lk) (ts : List Tn) (nm : ByteArray) : Option (List UInt8) :=
  if dkB r f n cs u ks ts = true then (cs[cs.findIdx fun x => x.1 == findS (dirS ks ts) nm]?).map fun x => x.2.1 else none
theorem read_cases {r f n : Int} {fs : List Fl} {u : Nat} {ks : List Lk} {ts : List Tn} (h : dkB r f n (fs.map fc) u ks ts = true) (nm : ByteArray) :
    (findS (dirS ks ts) nm = 0 ∧ fileV (dirS ks ts) fs nm = -1 ∧ readV r f n (fs.map fc) u ks ts nm = none) ∨
    ∃ k, ∃ hk : k < fs.length, ¬ findS (dirS ks ts) nm = 0 ∧ ixV (fun x : Fl => x.1 == findS (dirS ks ts) nm) fs = (k : Int) ∧ fileV (dirS ks ts) fs nm = (k : Int) ∧ readV r f n (fs.map fc) u ks ts nm = some fs[k].2.1.2.2 := by
  have hfi : ∀ i : Int, (fs.map fc).findIdx (fun x => x.1 == i) = fs.findIdx (fun x : Fl => x.1 == i) := fun i => by
    rw [List.findIdx_map]; rfl
  have hg := findS_get (dirS ks ts) nm
  cases hx : (dirS ks ts)[(dirS ks ts).findIdx fun x => eqN x.1 nm]? with
  | none =>
    rw [hx] at hg
    refine .inl ⟨hg, by rw [fileV, hx], ?_⟩
    have h2 := h
    rw [dkB] at h2
    simp only [Bool.and_eq_true] at h2
    have hp := (fB_asc n _ 0 h2.1.1.1.2).1
    rw [readV, if_pos h, hg]
    have : (fs.map fc).findIdx (fun x => x.1 == 0) = (fs.map fc).length := by
      rw [List.findIdx_eq_length]
      intro x hx
      have := (hp x hx).2
      simp only [beq_eq_false_iff_ne]
      omega
    rw [this, List.getElem?_eq_none (by omega)]
    rfl
  | some y =>
    rw [hx] at hg
    have hm : y ∈ dirS ks (ts.take ts.length) := by rw [List.take_length]; exact List.mem_of_getElem? hx
    obtain ⟨h3, h4⟩ := dir_files h ts.length y hm
    have hy : findS (dirS ks ts) nm = y.2 := hg
    have hlt : fs.findIdx (fun x : Fl => x.1 == y.2) < fs.length := by
      rw [List.findIdx_lt_length]
      obtain ⟨z, hz, he⟩ := List.mem_map.1 h3
      obtain ⟨q, hq, rfl⟩ := List.mem_map.1 hz
      exact ⟨q, hq, by simpa [fc] using he⟩
    have hix : ixV (fun x : Fl => x.1 == y.2) fs = (fs.findIdx (fun x : Fl => x.1 == y.2) : Int) := by rw [ixV, if_pos hlt]
    refine .inr ⟨fs.findIdx (fun x : Fl => x.1 == y.2), hlt, by omega, by rw [hy]; exact hix, by rw [fileV, hx]; exact hix, ?_⟩
    rw [readV, if_pos h, hy, hfi, List.getElem?_map, List.getElem?_eq_getElem hlt]
    rfl
end Go.Proofs.YtfkdifgmhfdbdaaGreatDoor
