/- Laws that answer a disk: what they share. -/
import Derived.Test.YtljpeiflnimblaaGreatHf
namespace Go.Proofs.YtljpeiflnimblaaGreat
open Go.RowKit
set_option linter.unusedVariables false
set_option maxRecDepth 100000

theorem markDV_any (r f n : Int) (lo hi fn : Nat) (FA : Option Addr) (c1 : Nat) (fs : List Fl) (KA : Option Addr) (c2 : Nat) (ks : List Lk) (TA : Option Addr) (c3 : Nat) (ts : List Tn) (k : Nat) (w : World) (ho : DkG w lo hi FA c1 fs KA c2 ks TA c3 ts) (hl : fs.length = fn) (hh : hi ≤ w.heap.size) (hk : 1 ≤ k) (hk2 : mEnd k fs ks.length ts.length ≤ 10000000) :
    Calls Tryz.prog 12 #[dkV r f n FA fn c1 KA ks.length c2 TA ts.length c3, .int .i64 k] w fun e w' => e = .returned (.int .i64 (mEnd k fs ks.length ts.length : Nat)) ∧ DkG w' lo hi FA c1 (mkF k fs) KA c2 (mkK (k + 2 * fs.length + ftot fs) ks.length) TA c3 (mkT (k + 2 * fs.length + ftot fs + 2 * ks.length) ts.length) ∧ Kp lo hi w w' := by
  subst hl
  exact markDiskG_any r f n lo hi FA c1 fs KA c2 ks TA c3 ts k w ho hh hk hk2
theorem heldDV_any (r f n : Int) (lo hi fn : Nat) (FA : Option Addr) (c1 : Nat) (fs : List Fl) (KA : Option Addr) (c2 kn : Nat) (TA : Option Addr) (c3 tn : Nat) (k : Nat) (w : World) (ho : DkG w lo hi FA c1 (mkF k fs) KA c2 (mkK (k + 2 * fs.length + ftot fs) kn) TA c3 (mkT (k + 2 * fs.length + ftot fs + 2 * kn) tn)) (hl : fs.length = fn) (hk : 1 ≤ k) (hk2 : mEnd k fs kn tn ≤ 10000000) :
    Calls Tryz.prog 17 #[dkV r f n FA fn c1 KA kn c2 TA tn c3, .int .i64 k] w fun e w' => e = .returned (.int .i64 (mEnd k fs kn tn : Nat)) ∧ Below w.heap.size w w' := by
  subst hl
  exact heldDisk_any r f n FA c1 fs KA c2 kn TA c3 tn k w ho.rd.1 ho.rd.2.1 ho.rd.2.2 hk hk2
theorem eqDV_any (r f n : Int) (FA : Option Addr) (fn c1 : Nat) (KA : Option Addr) (c2 : Nat) (TA : Option Addr) (c3 : Nat) (FA' : Option Addr) (c1' : Nat) (KA' : Option Addr) (c2' : Nat) (TA' : Option Addr) (c3' : Nat) (cs : List (Int × List UInt8 × Int)) (es fs : List Fl) (ks : List Lk) (ts : List Tn) (w : World)
    (hn : fn = cs.length) (hd : Hid (es.map fc = cs)) (hd' : Hid (fs.map fc = cs)) (hr : Dr w FA es KA ks TA ts) (hr' : Dr w FA' fs KA' ks TA' ts) (hl : cs.length ≤ 1048576) (hm : ∀ x, x ∈ cs → x.2.1.length ≤ 1048576) (hkl : ks.length ≤ 1048576) (htl : ts.length ≤ 1048576) :
    Calls Tryz.prog 11 #[dkV r f n FA fn c1 KA ks.length c2 TA ts.length c3, dkV r f n FA' fn c1' KA' ks.length c2' TA' ts.length c3'] w fun e w' => e = .returned (.bool true) ∧ Below w.heap.size w w' := by
  have h1 : es.length = fn := by rw [hn, ← hd.out, List.length_map]
  refine eqDisk_same r f n FA fn c1 KA c2 TA c3 FA' c1' KA' c2' TA' c3' es fs ks ts w h1 hr.1 hr'.1 (Lib.hid (hd'.out.trans hd.out.symm)) (by omega) (fun e he => ?_) hr.2.1 hr'.2.1 (by omega) hr.2.2 hr'.2.2 (by omega)
  have := hm (fc e) (by rw [← hd.out]; exact List.mem_map_of_mem he)
  simp only [] at this
  omega
/-- What an answer is bounded by. -/
structure DVB (V : DV) : Prop where
  cl : V.cs.length ≤ 1048576
  cb : ∀ x, x ∈ V.cs → x.2.1.length ≤ 1048576
  kl : V.ks.length ≤ 1048576
  tl : V.ts.length ≤ 1048576
  mm : 1 + 2 * V.cs.length + (V.cs.map fun x => x.2.1.length).sum + 2 * V.ks.length + 4 * V.ts.length ≤ 10000000
theorem DVB.no : DVB DV.no := ⟨by simp [DV.no], by simp [DV.no], by simp [DV.no], by simp [DV.no], by simp [DV.no]⟩
theorem mEnd_cs {fs : List Fl} {cs : List (Int × List UInt8 × Int)} (h : fs.map fc = cs) (kn tn : Nat) : mEnd 1 fs kn tn = 1 + 2 * cs.length + (cs.map fun x => x.2.1.length).sum + 2 * kn + 4 * tn := by
  subst h
  rw [mEnd, List.length_map, List.map_map]
  rfl
theorem setV_bd {room fuse r f n : Int} {es : List Fl} {ks : List Lk} {ts : List Tn} (h : ¬ (1048576 : Int) < (es.length + ftot es) + (ks.length + ktot ks) + (ts.length + ttot ts)) (hy : ∀ e, e ∈ es → e.2.1.2.2.length ≤ 1048576) : DVB (setV room fuse r f n (es.map fc) (ftot es) ks ts) := by
  unfold setV
  split
  · split
    · refine ⟨by simp; omega, fun x hx => ?_, by dsimp only; omega, by dsimp only; omega, ?_⟩
      · obtain ⟨e, he, rfl⟩ := List.mem_map.1 hx
        exact hy e he
      · have h1 : ((es.map fc).map fun x => x.2.1.length).sum = ftot es := by rw [List.map_map]; rfl
        dsimp only
        rw [h1, List.length_map]
        omega
    · exact DVB.no
  · exact DVB.no
theorem blk_kp {a b g : Nat} {w w' : World} {x : Obj} (hk : Kp a b w w') (h : w.heap[g]? = some x) (hd : g < a ∨ b ≤ g) : w'.heap[g]? = some x := by
  have hg := (Array.getElem?_eq_some_iff.1 h).1
  rcases hd with hd | hd
  · exact (hk.1.block g hd).trans h
  · exact (hk.2 g hd hg).trans h
theorem blk_be {g : Nat} {w w' : World} {x : Obj} (hb : Below w.heap.size w w') (h : w.heap[g]? = some x) : w'.heap[g]? = some x := (hb.block g (Array.getElem?_eq_some_iff.1 h).1).trans h
end Go.Proofs.YtljpeiflnimblaaGreat
