/- Slices of numbers: copied, compared, marked (what the law of DiskCrash wants). DiskCrash: the law. -/
import Derived.Test.YtndmdhmghjfckaaHr
namespace Go.Proofs.Ytndmdhmghjfckaa
open Go.RowKit

set_option linter.unusedVariables false
set_option maxRecDepth 100000

theorem info_intH : (Try.prog.info? 3).map (fun i => (i.zero, i.size, i.bytes)) = some (some (.int .i64 0), 1, 8) := by kernel_rfl
theorem Cs.intsH {w : World} {A : Option Addr} {ns : List Int} (h : Cs w A (ns.map I)) {k : Nat} (hk : k < ns.length) : ∃ b o, A = some ⟨b, o, none⟩ ∧ w.cell? ⟨b, o + k, none⟩ = some (.int .i64 ns[k]) := by
  rcases h with h | ⟨b, o, hA, h⟩
  · have h2 : ns.length = 0 := by have := congrArg List.length h; rwa [List.length_map] at this
    omega
  · exact ⟨b, o, hA, h k _ (by rw [List.getElem?_map, List.getElem?_eq_getElem hk]; rfl)⟩
theorem rd_intsH {w : World} {A : Option Addr} {n c : Nat} (h : Rd Try.prog w 29 [.slice A n c]) : ∃ ns : List Int, n = ns.length ∧ Cs w A (ns.map I) ∧ ns.length ≤ maxLen := by
  obtain ⟨A', c', xs, h1, h2, _, h4⟩ := Rd.list (size := 1) (enc := fun x : Int => [I x]) (G := fun _ => True) Try.underlying29 (by kernel_rfl) (by decide) (by
    intro es hes
    obtain ⟨n, rfl, hwf⟩ := hes.int Try.underlying3
    exact ⟨n, rfl, trivial⟩) h
  injection h1 with h1 _
  injection h1 with h1 h1' h1''
  subst h1
  exact ⟨xs, h1', ints_cs h4, h2⟩
theorem fl_ints (ns : List Int) : ns.flatMap iL = ns.map I := by
  induction ns with
  | nil => rfl
  | cons x r ih => rw [List.flatMap_cons, ih]; rfl
def OiPost (w : World) (ns : List Int) (e : Ending) (w' : World) : Prop := ∃ A' c', e = .returned (.slice A' ns.length c') ∧ Oi w' w.heap.size A' c' ns ∧ Below w.heap.size w w'
theorem crashV_bd {turns : Int} {cuts : List Int} {r f n : Int} {es : List Fl} {ks : List Lk} {ts : List Tn} (h : ¬ (1048576 : Int) < (es.length + ftot es) + (ks.length + ktot ks) + (ts.length + ttot ts)) (hy : ∀ e, e ∈ es → e.2.1.2.2.length ≤ 1048576) : DVB (crashV turns cuts r f n (es.map fc) (ftot es) ks ts) := by
  unfold crashV
  split
  · rename_i hv
    obtain ⟨g0, g1, g2, _, _⟩ := dk_parts hv
    have hd := dirS_len ks (ts.take (max 0 (min turns ts.length)).toNat)
    rw [List.length_take] at hd
    generalize dirS ks (ts.take (max 0 (min turns ts.length)).toNat) = dir at hd ⊢
    have hcl : ∀ (i : Nat) (cs : List Fc), (crC cuts i cs).length = cs.length := by
      intro i cs
      induction cs generalizing i with
      | nil => rfl
      | cons x r ih => rw [crC, List.length_cons, ih, List.length_cons]
    have hcb : ∀ (i : Nat) (cs : List Fc) (x : Fc), x ∈ crC cuts i cs → ∃ y, y ∈ cs ∧ x.2.1.length ≤ y.2.1.length := by
      intro i cs
      induction cs generalizing i with
      | nil => intro x hx; cases hx
      | cons z r ih =>
        intro x hx
        rw [crC] at hx
        rcases List.mem_cons.1 hx with rfl | hx
        · exact ⟨z, List.mem_cons_self .., by simp only [cutC, List.length_take]; omega⟩
        · obtain ⟨y, hy1, hy2⟩ := ih (i + 1) x hx
          exact ⟨y, List.mem_cons_of_mem _ hy1, hy2⟩
    have hsum : ∀ (i : Nat) (cs : List Fc), ((crC cuts i cs).map fun x => x.2.1.length).sum ≤ (cs.map fun x => x.2.1.length).sum := by
      intro i cs
      induction cs generalizing i with
      | nil => exact Nat.le_refl _
      | cons z r ih =>
        have := ih (i + 1)
        simp only [crC, List.map_cons, List.sum_cons, cutC, List.length_take]
        omega
    have hfs : ∀ (q : Fc → Bool) (cs : List Fc), ((cs.filter q).map fun x => x.2.1.length).sum ≤ (cs.map fun x => x.2.1.length).sum := by
      intro q cs
      induction cs with
      | nil => exact Nat.le_refl _
      | cons z r ih =>
        rw [List.filter_cons]
        split
        · simp only [List.map_cons, List.sum_cons]; omega
        · simp only [List.map_cons, List.sum_cons]; omega
    have hft : ((es.map fc).map fun x => x.2.1.length).sum = ftot es := by rw [List.map_map]; rfl
    have hkl : ∀ dir, (keepC dir (es.map fc)).length ≤ es.length := fun dir => by
      have := List.length_filter_le (fun x : Fc => dir.any fun l => l.2 == x.1) (es.map fc)
      rw [List.length_map] at this
      exact this
    have hel : es.length ≤ 10 := by rw [List.length_map] at g0; exact g0
    have hbb : ∀ x, x ∈ crC cuts 0 (keepC dir (es.map fc)) → x.2.1.length ≤ 1048576 := fun x hx => by
      obtain ⟨y, hy1, hy2⟩ := hcb _ _ _ hx
      obtain ⟨e, he, rfl⟩ := List.mem_map.1 ((List.filter_sublist ..).subset hy1)
      have := hy e he
      simp only [] at hy2
      omega
    have hk1 := hkl dir
    refine ⟨by rw [hcl]; omega, hbb, by dsimp only; omega, by simp, ?_⟩
    · have q1 := hsum 0 (keepC dir (es.map fc))
      have q2 := hfs (fun x : Fc => dir.any fun l => l.2 == x.1) (es.map fc)
      rw [hft] at q2
      have q3 := Nat.le_trans q1 q2
      have q4 := hcl 0 (keepC dir (es.map fc))
      have q5 : ((crC cuts 0 (keepC dir (es.map fc))).map fun x => x.2.1.length).sum ≤ ftot es := q3
      show 1 + 2 * (crC cuts 0 (keepC dir (es.map fc))).length + ((crC cuts 0 (keepC dir (es.map fc))).map fun x => x.2.1.length).sum + 2 * dir.length + 4 * 0 ≤ 10000000
      omega
  · exact DVB.no

set_option linter.unusedVariables false
set_option maxRecDepth 100000

theorem diskCrash_impl (turns : Int) (QA : Option Addr) (qc : Nat) (cuts : List Int) (r f n : Int) (FA : Option Addr) (es fs : List Fl) (c1 : Nat) (KA : Option Addr) (ks : List Lk) (c2 : Nat) (TA : Option Addr) (ts : List Tn) (c3 : Nat) (w : World) (hr : Dr w FA fs KA ks TA ts) (hd : Hid (fs.map fc = es.map fc)) (hg : Good es ks ts) (hc3 : ts.length ≤ c3) (hq : Cs w QA (cuts.map I)) (hql : cuts.length ≤ 1048576) :
    Calls Try.prog 6 #[dkV r f n FA es.length c1 KA ks.length c2 TA ts.length c3, .int .i64 turns, .slice QA cuts.length qc] w (DOPost w (crashV turns cuts r f n (es.map fc) (ftot es) ks ts)) := by
  have := diskCrash_impl0 turns QA qc cuts r f n FA fs c1 KA ks c2 TA ts c3 w hr (hg.copy hd.out) hc3 hq hql
  rwa [fc_len hd.out, hd.out, fc_tot hd.out] at this
end Go.Proofs.Ytndmdhmghjfckaa
