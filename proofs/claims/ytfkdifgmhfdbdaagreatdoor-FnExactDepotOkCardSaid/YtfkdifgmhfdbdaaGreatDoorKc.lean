/- DiskRead: both ways. -/
import Derived.Test.YtfkdifgmhfdbdaaGreatDoorKb
namespace Go.Proofs.YtfkdifgmhfdbdaaGreatDoor
open Go.RowKit
set_option linter.unusedVariables false
set_option maxRecDepth 100000

theorem Ob.empty {w : World} : Ob (w.alloc (.cells #[] 5)) w.heap.size (some ⟨w.heap.size, 0, none⟩) 0 [] :=
  ⟨rfl, .inr ⟨w.heap.size, 0, #[], (0, 0), rfl, Nat.le_refl _, heap_alloc_new _ _, .inl rfl, Nat.le_refl _, Nat.zero_le _, rfl, rfl⟩⟩
/-- Bytes, and whether there are any. -/
def ByPost (w : World) (v : Option (List UInt8)) (e : Ending) (w' : World) : Prop :=
  Below w.heap.size w w' ∧ ∃ A c, e = .returned (.tuple #[.slice A (v.getD []).length c, .bool v.isSome]) ∧ Ob w' w.heap.size A c (v.getD [])
theorem ByPost.no {w w' : World} (h : Below w.heap.size w w') : ByPost w none (.returned (.tuple #[.slice none 0 0, .bool false])) w' := ⟨h, none, 0, rfl, ownsG_nil _ _ _ _⟩
theorem ByPost.yes {w w' : World} {us : List UInt8} {A' : Option Addr} {c' : Nat} (h : Below w.heap.size w w') (ho : Ob w' w.heap.size A' c' us) : ByPost w (some us) (.returned (.tuple #[.slice A' us.length c', .bool true])) w' := ⟨h, A', c', rfl, ho⟩
set_option maxHeartbeats 1000000 in
theorem cloneB_any (A : Option Addr) (c : Nat) (xs : List UInt8) (w : World) (ha : By w A xs) (h1 : xs.length ≤ 549755813888)  :
    Calls Tryz.prog 67 #[.slice A xs.length c] w fun e w' => ∃ A' c', e = .returned (.slice A' xs.length c') ∧ Ob w' w.heap.size A' c' xs ∧ Below w.heap.size w w' := by
  have hn := fun (w : World) (n : Nat) => Lib.run_eql_slice_nil (P := Tryz.prog) w 42 5 A n c 0 0 Tryz.underlying42
  cases A with
  | none =>
    have h0 : xs = [] := by
      rcases ha with h | ⟨b, o, h, _⟩
      · exact h
      · cases h
    subst h0
    go_enter Tryz.func67, Tryz.ntmps67
    go_wp2
    go_ret
    exact ⟨none, 0, rfl, ownsG_nil _ _ _ _, Below.refl _ _⟩
  | some ad =>
    go_enter Tryz.func67, Tryz.ntmps67
    go_wp2_with (at_builtin; refine wp_appN rfl _ _ rfl w.heap.size _ _ [] _ _ _ xs Ob.empty (ha.below ((Below.refl _ _).alloc (Nat.le_refl _) _)) rfl rfl (by simp) (by omega) (by simp) ?_; intro A1 c1 w1 us1 hus1 ha1 hb1)
    have he : us1 = xs := by rw [hus1.out]; rfl
    rw [he] at ha1
    go_ret
    refine ⟨A1, c1, ?_, ha1, ((Below.refl _ _).alloc (Nat.le_refl _) _).trans hb1⟩
    show Ending.returned (Value.slice A1 us1.length c1) = _
    rw [he]
set_option maxHeartbeats 4000000 in
theorem diskRead_impl (r f n : Int) (FA : Option Addr) (es fs : List Fl) (c1 : Nat) (KA : Option Addr) (ks : List Lk) (c2 : Nat) (TA : Option Addr) (ts : List Tn) (c3 : Nat) (nm : ByteArray) (w : World) (hr : Dr w FA fs KA ks TA ts) (hd : Hid (fs.map fc = es.map fc)) (hg : Good es ks ts) :
    Calls Tryz.prog 31 #[dkV r f n FA es.length c1 KA ks.length c2 TA ts.length c3, .string nm] w (ByPost w (readV r f n (es.map fc) (ftot es) ks ts nm)) := by
  have hb0 : Below w.heap.size w (w.alloc (.cells (dkC r f n FA es.length c1 KA ks.length c2 TA ts.length c3) 35)) := by (repeat (first | exact Below.refl _ _ | (refine Below.alloc ?_ (by first | omega | (simp; done) | (simp; omega)) _) | (refine Below.drew ?_) | (refine below_drewN ?_ _) | (refine below_at1 ?_ (by first | omega | (simp; done) | (simp; omega))) | (refine Below.setCell ?_ (by first | omega | (simp; done) | (simp; omega)) _) | (refine Below.trans ?_ (Below.mono (by assumption) (by first | omega | (simp; done) | (simp; omega))))))
  have B0 := heap_alloc_new w (.cells (dkC r f n FA es.length c1 KA ks.length c2 TA ts.length c3) 35)
  have cok := okImpl_any r f n FA es fs c1 KA ks c2 TA ts c3 _ (hr.below hb0) hd hg
  have hgc := hg.copy hd.out
  have hel : es.length = fs.length := (fc_len hd.out).symm
  rw [hel] at cok hb0 B0 ⊢
  cases hv : dkB r f n (es.map fc) (ftot es) ks ts with
  | false =>
    have HV : Hid (readV r f n (es.map fc) (ftot es) ks ts nm = none) := by show _ = _; rw [readV, hv]; rfl
    rw [hv] at cok
    clear hv
    go_enter Tryz.func31, Tryz.ntmps31
    go_wp2_with (go_at_call 28; refine cok.mono ?_; rintro e w1 ⟨rfl, hb1⟩)
    go_ret2
    rw [HV.out]
    exact ByPost.no (hb0.trans (hb1.mono hb0.size))
  | true =>
    obtain ⟨g0, g1, g2, g3, g4⟩ := dk_parts hv
    rw [hv] at cok
    rw [← hd.out] at hv ⊢
    have hcs := read_cases hv nm
    have hF := fun W (hW : Below w.heap.size w W) => file_any r f n FA fs c1 KA ks c2 TA ts c3 nm W (hr.below hW) hgc.el (by omega) (by omega) g3 g4
    have heb := hgc.ey
    clear hv g0
    obtain ⟨dir, hdir⟩ : ∃ dir, Hid (dirS ks ts = dir) := ⟨_, Lib.hid rfl⟩
    rw [hdir.out] at hcs hF
    have HG3 := Lib.hid g3
    have HG4 := Lib.hid g4
    clear g3 g4
    go_enter Tryz.func31, Tryz.ntmps31
    go_wp2_with fail
    refine cok.mono ?_
    rintro e w1 ⟨rfl, hb1⟩
    have t1 := hb0.trans (hb1.mono hb0.size)
    obtain ⟨B1, y, _, z1⟩ := keep_blk hb1 (g := w.heap.size) B0
    have q0 : w1.cell? ⟨w.heap.size, 0, none⟩ = some (.int .i64 r) := y 0; have q1 : w1.cell? ⟨w.heap.size, 1, none⟩ = some (.int .i64 f) := y 1; have q2 : w1.cell? ⟨w.heap.size, 2, none⟩ = some (.int .i64 n) := y 2; have q3 : w1.cell? ⟨w.heap.size, 3, none⟩ = some (.slice FA fs.length c1) := y 3; have q4 : w1.cell? ⟨w.heap.size, 4, none⟩ = some (.slice KA ks.length c2) := y 4; have q5 : w1.cell? ⟨w.heap.size, 5, none⟩ = some (.slice TA ts.length c3) := y 5
    clear y B0 cok
    have cF := hF w1 t1
    rcases hcs with ⟨_, hf, hR⟩ | ⟨k, hk, _, _, hf, hR⟩
    · rw [hf] at cF
      have HR := Lib.hid hR
      clear hf hR hF
      go_wp2_with (go_at_call 66; refine cF.mono ?_; rintro e w2 ⟨rfl, hb2⟩)
      go_ret2
      rw [HR.out]
      exact ByPost.no (t1.trans (hb2.mono t1.size))
    · rw [hf] at cF
      have HR := Lib.hid hR
      clear hf hR hF
      go_wp2_with fail
      refine cF.mono ?_
      rintro e w2 ⟨rfl, hb2⟩
      have t2 := t1.trans (hb2.mono t1.size)
      obtain ⟨B2, y, _, z2⟩ := keep_blk hb2 (g := w.heap.size) B1
      have p3 : w2.cell? ⟨w.heap.size, 3, none⟩ = some (.slice FA fs.length c1) := y 3
      clear y cF B1
      have hr2 := hr.below t2
      obtain ⟨b, o, rfl, hbs, x0, x1, x2, xb⟩ := Fs.get hr2.1 hk
      have hx : fs[k].2.1.2.2.length ≤ 549755813888 := by have := heb _ (List.getElem_mem hk); omega
      have hk' : (k : Int) < fs.length := by omega
      have hk0 : (0 : Int) ≤ k := by omega
      go_wp2_with (go_at_call 67; refine (cloneB_any _ _ _ _ xb hx).mono ?_; rintro e w3 ⟨A3, d3, rfl, ho3, hb3⟩)
      go_ret2
      rw [HR.out]
      exact ByPost.yes (t2.trans (hb3.mono t2.size)) (ho3.mono t2.size)
end Go.Proofs.YtfkdifgmhfdbdaaGreatDoor
