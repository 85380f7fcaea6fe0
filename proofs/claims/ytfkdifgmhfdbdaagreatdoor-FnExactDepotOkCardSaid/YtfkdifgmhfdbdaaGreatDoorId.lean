/- A disk is valid: the law. -/
import Derived.Test.YtfkdifgmhfdbdaaGreatDoorIc
import Derived.Deep.RegionHeld3
import Derived.Deep.DeepCutAuto
namespace Go.Proofs.YtfkdifgmhfdbdaaGreatDoor
open Go.RowKit
set_option linter.unusedVariables false
set_option maxRecDepth 100000

/-- What a law's disk is bounded by. -/
structure Good (es : List Fl) (ks : List Lk) (ts : List Tn) : Prop where
  el : es.length ≤ 1048576
  ef : ftot es ≤ 1048576
  eb : ∀ e, e ∈ es → bd e.1 ∧ bd e.2.2
  ey : ∀ e, e ∈ es → e.2.1.2.2.length ≤ 1048576
  kl : ks.length ≤ 1048576
  km : ∀ x, x ∈ ks → x.1.data.toList.length ≤ 549755813888
  tl : ts.length ≤ 1048576
  tm : ∀ x, x ∈ ts → x.2.1.data.toList.length ≤ 549755813888 ∧ x.2.2.1.data.toList.length ≤ 549755813888
theorem mem_sum {T : Type} (f : T → Nat) : ∀ {l : List T} {x : T}, x ∈ l → f x ≤ (l.map f).sum
  | y :: r, x, h => by
    rw [List.map_cons, List.sum_cons]
    rcases List.mem_cons.1 h with rfl | h
    · omega
    · have := mem_sum f h; omega
theorem Good.of {es : List Fl} {ks : List Lk} {ts : List Tn} (h : ¬ (1048576 : Int) < (es.length + ftot es) + (ks.length + ktot ks) + (ts.length + ttot ts)) (hb : ∀ e, e ∈ es → bd e.1 ∧ bd e.2.2) : Good es ks ts where
  el := by omega
  ef := by omega
  eb := hb
  ey := fun e he => by have := mem_sum (fun e : Fl => e.2.1.2.2.length) he; unfold ftot at h; omega
  kl := by omega
  km := fun x hx => by
    have h1 := mem_sum (fun e : Lk => e.1.size) hx
    have h2 : x.1.data.toList.length = x.1.size := Array.length_toList
    unfold ktot at h
    omega
  tl := by omega
  tm := fun x hx => by
    have h1 := mem_sum (fun e : Tn => e.2.1.size + e.2.2.1.size) hx
    have h2 : x.2.1.data.toList.length = x.2.1.size := Array.length_toList
    have h3 : x.2.2.1.data.toList.length = x.2.2.1.size := Array.length_toList
    unfold ttot at h
    omega
theorem fc_mem {es fs : List Fl} (h : fs.map fc = es.map fc) {e : Fl} (he : e ∈ fs) : ∃ x, x ∈ es ∧ e.1 = x.1 ∧ e.2.1.2.2 = x.2.1.2.2 ∧ e.2.2 = x.2.2 := by
  have h1 : fc e ∈ es.map fc := by rw [← h]; exact List.mem_map_of_mem he
  obtain ⟨x, hx, hxe⟩ := List.mem_map.1 h1
  simp only [fc, Prod.mk.injEq] at hxe
  exact ⟨x, hx, hxe.1.symm, hxe.2.1.symm, hxe.2.2.symm⟩
theorem fc_tot {es fs : List Fl} (h : fs.map fc = es.map fc) : ftot fs = ftot es := by
  have h1 : ∀ l : List Fl, ftot l = ((l.map fc).map fun x => x.2.1.length).sum := fun l => by rw [List.map_map]; rfl
  rw [h1, h1, h]
theorem Good.copy {es fs : List Fl} {ks : List Lk} {ts : List Tn} (h : Good es ks ts) (hd : fs.map fc = es.map fc) : Good fs ks ts where
  el := by rw [fc_len hd]; exact h.el
  ef := by rw [fc_tot hd]; exact h.ef
  eb := fun e he => by obtain ⟨x, hx, e1, e2, e3⟩ := fc_mem hd he; rw [e1, e3]; exact h.eb x hx
  ey := fun e he => by obtain ⟨x, hx, e1, e2, e3⟩ := fc_mem hd he; rw [e2]; exact h.ey x hx
  kl := h.kl
  km := h.km
  tl := h.tl
  tm := h.tm
/-- A disk that reads so. -/
def Dr (w : World) (FA : Option Addr) (fs : List Fl) (KA : Option Addr) (ks : List Lk) (TA : Option Addr) (ts : List Tn) : Prop := Fs w FA fs ∧ Ks w KA ks ∧ Ts w TA ts
theorem Dr.below {w w' : World} {FA KA TA : Option Addr} {fs : List Fl} {ks : List Lk} {ts : List Tn} (h : Dr w FA fs KA ks TA ts) (hb : Below w.heap.size w w') : Dr w' FA fs KA ks TA ts := ⟨h.1.below hb, SlL.below h.2.1 hb, SlL.below h.2.2 hb⟩
section
variable (r f n : Int) (FA : Option Addr) (es fs : List Fl) (c1 : Nat) (KA : Option Addr) (ks : List Lk) (c2 : Nat) (TA : Option Addr) (ts : List Tn) (c3 : Nat) (w : World) (hr : Dr w FA fs KA ks TA ts) (hd : Hid (fs.map fc = es.map fc)) (hg : Good es ks ts)
include hr hd hg
theorem okSpec_any : Calls Tryz.prog 25 #[dkV r f n FA es.length c1 KA ks.length c2 TA ts.length c3] w fun e w' => e = .returned (.bool (dkB r f n (es.map fc) (ftot es) ks ts)) ∧ Below w.heap.size w w' := by
  have g := hg.copy hd.out
  have := diskOk_spec r f n FA fs c1 KA ks c2 TA ts c3 w hr.1 g.el g.ef hr.2.1 g.kl g.km hr.2.2 g.tl g.tm g.eb
  rwa [fc_len hd.out, hd.out, fc_tot hd.out] at this
theorem okImpl_any : Calls Tryz.prog 28 #[dkV r f n FA es.length c1 KA ks.length c2 TA ts.length c3] w fun e w' => e = .returned (.bool (dkB r f n (es.map fc) (ftot es) ks ts)) ∧ Below w.heap.size w w' := by
  have g := hg.copy hd.out
  have := diskOk_impl r f n FA fs c1 KA ks c2 TA ts c3 w hr.1 g.el g.ef hr.2.1 g.kl g.km hr.2.2 g.tl g.tm g.eb
  rwa [fc_len hd.out, hd.out, fc_tot hd.out] at this
end
theorem toD_any (r f n : Int) (FA : Option Addr) (es : List Fl) (c1 : Nat) (KA : Option Addr) (ks : List Lk) (c2 : Nat) (TA : Option Addr) (ts : List Tn) (c3 : Nat) (w : World) (hr : Dr w FA es KA ks TA ts) (hg : Good es ks ts) :
    Calls Tryz.prog 13 #[dkV r f n FA es.length c1 KA ks.length c2 TA ts.length c3] w (ToDPost w r f n es ks ts) :=
  toDisk_any r f n FA es c1 KA ks c2 TA ts c3 w hr.1 hr.2.1 hr.2.2 hg.el (fun e he => by have := hg.ey e he; omega) hg.kl hg.tl
end Go.Proofs.YtfkdifgmhfdbdaaGreatDoor
