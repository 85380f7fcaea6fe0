/- Files, links and turns of a disk: read, and their sizes. -/
import Derived.Test.YtfkdifgmhfdbdaaGreatDoorU1
namespace Go.Proofs.YtfkdifgmhfdbdaaGreatDoor
open Go.RowKit
set_option linter.unusedVariables false
set_option maxRecDepth 100000

abbrev Lk := ByteArray × Int
abbrev lkL (x : Lk) : List Value := [.string x.1, .int .i64 x.2]
abbrev lkV (x : Lk) : Value := .agg #[.string x.1, .int .i64 x.2]
abbrev Tn := Int × ByteArray × ByteArray × Int
abbrev tnL (x : Tn) : List Value := [.int .i64 x.1, .string x.2.1, .string x.2.2.1, .int .i64 x.2.2.2]
abbrev tnV (x : Tn) : Value := .agg #[.int .i64 x.1, .string x.2.1, .string x.2.2.1, .int .i64 x.2.2.2]
abbrev Fl := Int × Sl × Int
abbrev flL (x : Fl) : List Value := [.int .i64 x.1, .slice x.2.1.1 x.2.1.2.2.length x.2.1.2.1, .int .i64 x.2.2]
abbrev flV (x : Fl) : Value := .agg #[.int .i64 x.1, .slice x.2.1.1 x.2.1.2.2.length x.2.1.2.1, .int .i64 x.2.2]
theorem lk2 (x : Lk) : (lkL x).length = 2 := rfl
theorem tn4 (x : Tn) : (tnL x).length = 4 := rfl
theorem fl3 (x : Fl) : (flL x).length = 3 := rfl
abbrev Ks (w : World) (A : Option Addr) (xs : List Lk) : Prop := SlL w A 2 lkL xs
abbrev Ts (w : World) (A : Option Addr) (xs : List Tn) : Prop := SlL w A 4 tnL xs
def Fs (w : World) (A : Option Addr) (xs : List Fl) : Prop := SlL w A 3 flL xs ∧ ∀ e, e ∈ xs → By w e.2.1.1 e.2.1.2.2
section
variable {w w' : World} {A : Option Addr}
theorem Fs.below {xs : List Fl} (h : Fs w A xs) (hb : Below w.heap.size w w') : Fs w' A xs := ⟨h.1.below hb, fun e he => (h.2 e he).below hb⟩
theorem Fs.drewN {xs : List Fl} (h : Fs w A xs) (m : Nat) : Fs (w.drewN m) A xs := h
theorem Ks.get {xs : List Lk} (h : Ks w A xs) {k : Nat} (hk : k < xs.length) : ∃ b o, A = some ⟨b, o, none⟩ ∧ b < w.heap.size ∧ w.cell? ⟨b, o + k * 2, none⟩ = some (.string xs[k].1) ∧ w.cell? ⟨b, o + k * 2 + 1, none⟩ = some (.int .i64 xs[k].2) := by
  obtain ⟨b, o, hA, hb, h⟩ := SlL.get h hk (by simp)
  exact ⟨b, o, hA, hb, h 0 _ rfl, h 1 _ rfl⟩
theorem Ts.get {xs : List Tn} (h : Ts w A xs) {k : Nat} (hk : k < xs.length) : ∃ b o, A = some ⟨b, o, none⟩ ∧ b < w.heap.size ∧ w.cell? ⟨b, o + k * 4, none⟩ = some (.int .i64 xs[k].1) ∧ w.cell? ⟨b, o + k * 4 + 1, none⟩ = some (.string xs[k].2.1) ∧ w.cell? ⟨b, o + k * 4 + 2, none⟩ = some (.string xs[k].2.2.1) ∧ w.cell? ⟨b, o + k * 4 + 3, none⟩ = some (.int .i64 xs[k].2.2.2) := by
  obtain ⟨b, o, hA, hb, h⟩ := SlL.get h hk (by simp)
  exact ⟨b, o, hA, hb, h 0 _ rfl, h 1 _ rfl, h 2 _ rfl, h 3 _ rfl⟩
theorem Fs.get {xs : List Fl} (h : Fs w A xs) {k : Nat} (hk : k < xs.length) : ∃ b o, A = some ⟨b, o, none⟩ ∧ b < w.heap.size ∧ w.cell? ⟨b, o + k * 3, none⟩ = some (.int .i64 xs[k].1) ∧ w.cell? ⟨b, o + k * 3 + 1, none⟩ = some (.slice xs[k].2.1.1 xs[k].2.1.2.2.length xs[k].2.1.2.1) ∧ w.cell? ⟨b, o + k * 3 + 2, none⟩ = some (.int .i64 xs[k].2.2) ∧ By w xs[k].2.1.1 xs[k].2.1.2.2 := by
  obtain ⟨b, o, hA, hb, h1⟩ := SlL.get h.1 hk (by simp)
  exact ⟨b, o, hA, hb, h1 0 _ rfl, h1 1 _ rfl, h1 2 _ rfl, h.2 _ (List.getElem_mem hk)⟩
end
def ftot (xs : List Fl) : Nat := (xs.map fun e => e.2.1.2.2.length).sum
def ktot (xs : List Lk) : Nat := (xs.map fun e => e.1.size).sum
def ttot (xs : List Tn) : Nat := (xs.map fun e => e.2.1.size + e.2.2.1.size).sum
theorem sum_succ {T : Type} (f : T → Nat) {es : List T} {k : Nat} (hk : k < es.length) : ((es.take (k + 1)).map f).sum = ((es.take k).map f).sum + f es[k] := by
  rw [take_succ_get (List.getElem?_eq_getElem hk)]
  simp only [List.map_append, List.map_cons, List.map_nil, List.sum_append, List.sum_cons, List.sum_nil, Nat.add_zero]
theorem sum_le {T : Type} (f : T → Nat) (es : List T) (k : Nat) : ((es.take k).map f).sum ≤ (es.map f).sum := by
  have h : ((es.take k ++ es.drop k).map f).sum = ((es.take k).map f).sum + ((es.drop k).map f).sum := by simp only [List.map_append, List.sum_append]
  rw [List.take_append_drop] at h
  omega
theorem sum_get {T : Type} (f : T → Nat) {es : List T} {k : Nat} (hk : k < es.length) : ((es.take k).map f).sum + f es[k] ≤ (es.map f).sum := by
  rw [← sum_succ f hk]
  exact sum_le f es _
theorem cells_Link : Tryz.prog.cellsOf 105 = 2 := by kernel_rfl
theorem cells_Turn : Tryz.prog.cellsOf 107 = 4 := by kernel_rfl
theorem cells_File : Tryz.prog.cellsOf 103 = 3 := by kernel_rfl
theorem cells_Disk : Tryz.prog.cellsOf 26 = 6 := by kernel_rfl
theorem cellsInt_ : Tryz.prog.cellsOf 3 = 1 := by kernel_rfl
theorem cellsStr_ : Tryz.prog.cellsOf 9 = 1 := by kernel_rfl
theorem cellsBy_ : Tryz.prog.cellsOf 42 = 1 := by kernel_rfl
theorem cellsLk_ : Tryz.prog.cellsOf 23 = 1 := by kernel_rfl
theorem cellsTn_ : Tryz.prog.cellsOf 24 = 1 := by kernel_rfl
theorem cellsFl_ : Tryz.prog.cellsOf 22 = 1 := by kernel_rfl
abbrev bd (x : Int) : Prop := -9223372036854775808 ≤ x ∧ x ≤ 9223372036854775807
theorem rd_links {w : World} {A : Option Addr} {n c : Nat} (h : Rd Tryz.prog w 23 [.slice A n c]) : ∃ xs : List Lk, n = xs.length ∧ Ks w A xs ∧ xs.length ≤ maxLen ∧ ∀ x, x ∈ xs → x.1.size ≤ maxLen ∧ bd x.2 := by
  obtain ⟨A', c', cs, h1, h2, h3, h4⟩ := Rd.list (T := Lk) (size := 2) (enc := lkL) (G := fun x => x.1.size ≤ maxLen ∧ bd x.2) Tryz.underlying23 cells_Link (by decide) (by
    intro es hes
    obtain ⟨hl, hf⟩ := hes.struct Tryz.underlying105
    match es, hl.trans cells_Link with
    | [c0, c1], _ =>
      obtain ⟨s, e0, hs⟩ := (hf 0 _ rfl).string Tryz.underlying9
      obtain ⟨k, e1, w1⟩ := (hf 1 _ rfl).int Tryz.underlying3
      simp [cellsInt_, cellsStr_] at e0 e1
      exact ⟨(s, k), by rw [e0, e1], hs, i64_bd w1⟩) h
  injection h1 with h1 _
  injection h1 with h1 h1' h1''
  subst h1 h1' h1''
  exact ⟨cs, rfl, h4, h2, h3⟩
theorem rd_turns {w : World} {A : Option Addr} {n c : Nat} (h : Rd Tryz.prog w 24 [.slice A n c]) : ∃ xs : List Tn, n = xs.length ∧ Ts w A xs ∧ xs.length ≤ maxLen ∧ ∀ x, x ∈ xs → bd x.1 ∧ x.2.1.size ≤ maxLen ∧ x.2.2.1.size ≤ maxLen ∧ bd x.2.2.2 := by
  obtain ⟨A', c', cs, h1, h2, h3, h4⟩ := Rd.list (T := Tn) (size := 4) (enc := tnL) (G := fun x => bd x.1 ∧ x.2.1.size ≤ maxLen ∧ x.2.2.1.size ≤ maxLen ∧ bd x.2.2.2) Tryz.underlying24 cells_Turn (by decide) (by
    intro es hes
    obtain ⟨hl, hf⟩ := hes.struct Tryz.underlying107
    match es, hl.trans cells_Turn with
    | [c0, c1, c2, c3], _ =>
      obtain ⟨k, e0, w0⟩ := (hf 0 _ rfl).int Tryz.underlying3
      obtain ⟨s, e1, hs⟩ := (hf 1 _ rfl).string Tryz.underlying9
      obtain ⟨t, e2, ht⟩ := (hf 2 _ rfl).string Tryz.underlying9
      obtain ⟨i, e3, w3⟩ := (hf 3 _ rfl).int Tryz.underlying3
      simp [cellsInt_, cellsStr_] at e0 e1 e2 e3
      exact ⟨(k, s, t, i), by rw [e0, e1, e2, e3], i64_bd w0, hs, ht, i64_bd w3⟩) h
  injection h1 with h1 _
  injection h1 with h1 h1' h1''
  subst h1 h1' h1''
  exact ⟨cs, rfl, h4, h2, h3⟩
theorem rd_files {w : World} {A : Option Addr} {n c : Nat} (h : Rd Tryz.prog w 22 [.slice A n c]) : ∃ xs : List Fl, n = xs.length ∧ Fs w A xs ∧ xs.length ≤ maxLen ∧ ∀ x, x ∈ xs → bd x.1 ∧ x.2.1.2.2.length ≤ maxLen ∧ bd x.2.2 := by
  obtain ⟨A', c', cs, h1, h2, h3, h4⟩ := Rd.list (T := Fl) (size := 3) (enc := flL) (G := fun x => By w x.2.1.1 x.2.1.2.2 ∧ bd x.1 ∧ x.2.1.2.2.length ≤ maxLen ∧ bd x.2.2) Tryz.underlying22 cells_File (by decide) (by
    intro es hes
    obtain ⟨hl, hf⟩ := hes.struct Tryz.underlying103
    match es, hl.trans cells_File with
    | [c0, c1, c2], _ =>
      obtain ⟨k, e0, w0⟩ := (hf 0 _ rfl).int Tryz.underlying3
      have h1 : Rd Tryz.prog w 42 (([c0, c1, c2].drop 1).take (Tryz.prog.cellsOf 42)) := hf 1 _ rfl
      rw [cellsBy_] at h1
      obtain ⟨A', n', c', e1, _⟩ := h1.slice Tryz.underlying42
      rw [e1] at h1
      obtain ⟨xs, rfl, hg', hm'⟩ := rd_bytes h1
      obtain ⟨i, e2, w2⟩ := (hf 2 _ rfl).int Tryz.underlying3
      simp [cellsInt_] at e0 e1 e2
      exact ⟨(k, (A', c', xs), i), by rw [e0, e1, e2], hg', i64_bd w0, hm', i64_bd w2⟩) h
  injection h1 with h1 _
  injection h1 with h1 h1' h1''
  subst h1 h1' h1''
  exact ⟨cs, rfl, ⟨h4, fun e he => (h3 e he).1⟩, h2, fun e he => (h3 e he).2⟩
abbrev dkC (r f n : Int) (FA : Option Addr) (fn fc : Nat) (KA : Option Addr) (kn kc : Nat) (TA : Option Addr) (tn tc : Nat) : Array Value := #[.int .i64 r, .int .i64 f, .int .i64 n, .slice FA fn fc, .slice KA kn kc, .slice TA tn tc]
abbrev dkV (r f n : Int) (FA : Option Addr) (fn fc : Nat) (KA : Option Addr) (kn kc : Nat) (TA : Option Addr) (tn tc : Nat) : Value := .agg (dkC r f n FA fn fc KA kn kc TA tn tc)
theorem rd_disk {w : World} {vs : List Value} (h : Rd Tryz.prog w 26 vs) : ∃ (r f n : Int) (FA : Option Addr) (fs : List Fl) (fc : Nat) (KA : Option Addr) (ks : List Lk) (kc : Nat) (TA : Option Addr) (ts : List Tn) (tc : Nat),
    vs = [.int .i64 r, .int .i64 f, .int .i64 n, .slice FA fs.length fc, .slice KA ks.length kc, .slice TA ts.length tc] ∧ (bd r ∧ bd f ∧ bd n) ∧ (Fs w FA fs ∧ fs.length ≤ maxLen ∧ ∀ x, x ∈ fs → bd x.1 ∧ x.2.1.2.2.length ≤ maxLen ∧ bd x.2.2) ∧
    (Ks w KA ks ∧ ks.length ≤ maxLen ∧ ∀ x, x ∈ ks → x.1.size ≤ maxLen ∧ bd x.2) ∧ Ts w TA ts ∧ ts.length ≤ maxLen ∧ ∀ x, x ∈ ts → bd x.1 ∧ x.2.1.size ≤ maxLen ∧ x.2.2.1.size ≤ maxLen ∧ bd x.2.2.2 := by
  obtain ⟨hl, hf⟩ := h.struct Tryz.underlying26
  match vs, hl.trans cells_Disk with
  | [c0, c1, c2, c3, c4, c5], _ =>
    obtain ⟨r, e0, w0⟩ := (hf 0 _ rfl).int Tryz.underlying3
    obtain ⟨f, e1, w1⟩ := (hf 1 _ rfl).int Tryz.underlying3
    obtain ⟨n, e2, w2⟩ := (hf 2 _ rfl).int Tryz.underlying3
    have h3 : Rd Tryz.prog w 22 (([c0, c1, c2, c3, c4, c5].drop 3).take (Tryz.prog.cellsOf 22)) := hf 3 _ rfl
    have h4 : Rd Tryz.prog w 23 (([c0, c1, c2, c3, c4, c5].drop 4).take (Tryz.prog.cellsOf 23)) := hf 4 _ rfl
    have h5 : Rd Tryz.prog w 24 (([c0, c1, c2, c3, c4, c5].drop 5).take (Tryz.prog.cellsOf 24)) := hf 5 _ rfl
    rw [cellsFl_] at h3
    rw [cellsLk_] at h4
    rw [cellsTn_] at h5
    obtain ⟨FA, fn, fc, e3, _⟩ := h3.slice Tryz.underlying22
    rw [e3] at h3
    obtain ⟨fs, rfl, hF⟩ := rd_files h3
    obtain ⟨KA, kn, kc, e4, _⟩ := h4.slice Tryz.underlying23
    rw [e4] at h4
    obtain ⟨ks, rfl, hK⟩ := rd_links h4
    obtain ⟨TA, tn, tc, e5, _⟩ := h5.slice Tryz.underlying24
    rw [e5] at h5
    obtain ⟨ts, rfl, hT⟩ := rd_turns h5
    simp [cellsInt_] at e0 e1 e2 e3 e4 e5
    exact ⟨r, f, n, FA, fs, fc, KA, ks, kc, TA, ts, tc, by rw [e0, e1, e2, e3, e4, e5], ⟨i64_bd w0, i64_bd w1, i64_bd w2⟩, hF, hK, hT⟩
theorem szFile_any (x : Fl) (left : Int) (w : World) (hn : x.2.1.2.2.length ≤ maxLen) (h0 : 0 ≤ left) (h1 : left ≤ 1048576) :
    Calls Tryz.prog 69 #[flV x, .int .i64 left] w fun e w' => e = .returned (.int .i64 (szR left x.2.1.2.2.length)) ∧ Below w.heap.size w w' := by
  have hn' := hn
  unfold maxLen at hn'
  by_cases h : left < x.2.1.2.2.length
  · have HS := szR_no h
    go_enter Tryz.func69, Tryz.ntmps69
    go_wp2_with (go_at_call 106; refine (szByteS_any _ _ _ _ _ hn h0 h1).mono ?_; rintro e w' ⟨he, rfl⟩; rw [HS.out] at he; subst he)
    go_ret
    exact ⟨ret_int HS.out.symm, (by (repeat (first | exact Below.refl _ _ | (refine Below.alloc ?_ (by first | omega | (simp; done) | (simp; omega)) _) | (refine Below.drew ?_) | (refine below_drewN ?_ _) | (refine below_at1 ?_ (by first | omega | (simp; done) | (simp; omega))) | (refine Below.setCell ?_ (by first | omega | (simp; done) | (simp; omega)) _) | (refine Below.trans ?_ (Below.mono (by assumption) (by first | omega | (simp; done) | (simp; omega)))))))⟩
  · have HS := szR_yes h
    have h' : ¬ left - x.2.1.2.2.length < 0 := by omega
    go_enter Tryz.func69, Tryz.ntmps69
    go_wp2_with (go_at_call 106; refine (szByteS_any _ _ _ _ _ hn h0 h1).mono ?_; rintro e w' ⟨he, rfl⟩; rw [HS.out] at he; subst he)
    go_ret
    exact ⟨ret_int HS.out.symm, (by (repeat (first | exact Below.refl _ _ | (refine Below.alloc ?_ (by first | omega | (simp; done) | (simp; omega)) _) | (refine Below.drew ?_) | (refine below_drewN ?_ _) | (refine below_at1 ?_ (by first | omega | (simp; done) | (simp; omega))) | (refine Below.setCell ?_ (by first | omega | (simp; done) | (simp; omega)) _) | (refine Below.trans ?_ (Below.mono (by assumption) (by first | omega | (simp; done) | (simp; omega)))))))⟩
theorem szLink_any (x : Lk) (left : Int) (w : World) (hn : x.1.size ≤ maxLen) (h0 : 0 ≤ left) (h1 : left ≤ 1048576) :
    Calls Tryz.prog 70 #[lkV x, .int .i64 left] w fun e w' => e = .returned (.int .i64 (szR left x.1.size)) ∧ Below w.heap.size w w' := by
  unfold maxLen at hn
  by_cases h : left < x.1.size
  · have HS := szR_no h
    have h' : left - x.1.size < 0 := by omega
    go_enter Tryz.func70, Tryz.ntmps70
    go_wp2_with fail
    go_ret
    exact ⟨ret_int HS.out.symm, (by (repeat (first | exact Below.refl _ _ | (refine Below.alloc ?_ (by first | omega | (simp; done) | (simp; omega)) _) | (refine Below.drew ?_) | (refine below_drewN ?_ _) | (refine below_at1 ?_ (by first | omega | (simp; done) | (simp; omega))) | (refine Below.setCell ?_ (by first | omega | (simp; done) | (simp; omega)) _) | (refine Below.trans ?_ (Below.mono (by assumption) (by first | omega | (simp; done) | (simp; omega)))))))⟩
  · have HS := szR_yes h
    have h' : ¬ left - x.1.size < 0 := by omega
    go_enter Tryz.func70, Tryz.ntmps70
    go_wp2_with fail
    go_ret
    exact ⟨ret_int HS.out.symm, (by (repeat (first | exact Below.refl _ _ | (refine Below.alloc ?_ (by first | omega | (simp; done) | (simp; omega)) _) | (refine Below.drew ?_) | (refine below_drewN ?_ _) | (refine below_at1 ?_ (by first | omega | (simp; done) | (simp; omega))) | (refine Below.setCell ?_ (by first | omega | (simp; done) | (simp; omega)) _) | (refine Below.trans ?_ (Below.mono (by assumption) (by first | omega | (simp; done) | (simp; omega)))))))⟩
theorem szTurn_any (x : Tn) (left : Int) (w : World) (hn : x.2.1.size ≤ maxLen) (hn2 : x.2.2.1.size ≤ maxLen) (h0 : 0 ≤ left) (h1 : left ≤ 1048576) :
    Calls Tryz.prog 71 #[tnV x, .int .i64 left] w fun e w' => e = .returned (.int .i64 (szR left (x.2.1.size + x.2.2.1.size : Nat))) ∧ Below w.heap.size w w' := by
  unfold maxLen at hn hn2
  by_cases h : left < x.2.1.size
  · have HS : Hid (szR left (x.2.1.size + x.2.2.1.size : Nat) = -1) := szR_no (by omega)
    have h' : left - x.2.1.size < 0 := by omega
    go_enter Tryz.func71, Tryz.ntmps71
    go_wp2_with fail
    go_ret
    exact ⟨ret_int HS.out.symm, (by (repeat (first | exact Below.refl _ _ | (refine Below.alloc ?_ (by first | omega | (simp; done) | (simp; omega)) _) | (refine Below.drew ?_) | (refine below_drewN ?_ _) | (refine below_at1 ?_ (by first | omega | (simp; done) | (simp; omega))) | (refine Below.setCell ?_ (by first | omega | (simp; done) | (simp; omega)) _) | (refine Below.trans ?_ (Below.mono (by assumption) (by first | omega | (simp; done) | (simp; omega)))))))⟩
  have h' : ¬ left - x.2.1.size < 0 := by omega
  by_cases h2 : left - x.2.1.size < x.2.2.1.size
  · have HS : Hid (szR left (x.2.1.size + x.2.2.1.size : Nat) = -1) := szR_no (by omega)
    have h2' : left - x.2.1.size - x.2.2.1.size < 0 := by omega
    go_enter Tryz.func71, Tryz.ntmps71
    go_wp2_with fail
    go_ret
    exact ⟨ret_int HS.out.symm, (by (repeat (first | exact Below.refl _ _ | (refine Below.alloc ?_ (by first | omega | (simp; done) | (simp; omega)) _) | (refine Below.drew ?_) | (refine below_drewN ?_ _) | (refine below_at1 ?_ (by first | omega | (simp; done) | (simp; omega))) | (refine Below.setCell ?_ (by first | omega | (simp; done) | (simp; omega)) _) | (refine Below.trans ?_ (Below.mono (by assumption) (by first | omega | (simp; done) | (simp; omega)))))))⟩
  · have HS : Hid (szR left (x.2.1.size + x.2.2.1.size : Nat) = left - (x.2.1.size + x.2.2.1.size : Nat)) := szR_yes (by omega)
    have h2' : ¬ left - x.2.1.size - x.2.2.1.size < 0 := by omega
    go_enter Tryz.func71, Tryz.ntmps71
    go_wp2_with fail
    go_ret
    exact ⟨ret_int (by have h9 := HS.out; simp only [Int.natCast_add] at h9; rw [h9]; omega), (by (repeat (first | exact Below.refl _ _ | (refine Below.alloc ?_ (by first | omega | (simp; done) | (simp; omega)) _) | (refine Below.drew ?_) | (refine below_drewN ?_ _) | (refine below_at1 ?_ (by first | omega | (simp; done) | (simp; omega))) | (refine Below.setCell ?_ (by first | omega | (simp; done) | (simp; omega)) _) | (refine Below.trans ?_ (Below.mono (by assumption) (by first | omega | (simp; done) | (simp; omega)))))))⟩
set_option maxHeartbeats 400000 in
theorem szFileS_any (A : Option Addr) (c : Nat) (es : List Fl) (left : Int) (w : World) (ha : Fs w A es) (hl : es.length ≤ maxLen) (hm : ∀ e, e ∈ es → e.2.1.2.2.length ≤ maxLen) (h0 : 0 ≤ left) (h1 : left ≤ 1048576) :
    Calls Tryz.prog 33 #[.slice A es.length c, .int .i64 left] w fun e w' => e = .returned (.int .i64 (szR left (es.length + ftot es))) ∧ Below w.heap.size w w' := by
  have hl' := hl
  unfold maxLen at hl'
  by_cases h : left < es.length
  · have HS : Hid (szR left (es.length + ftot es) = -1) := szR_no (by omega)
    have h' : left - es.length < 0 := by omega
    go_enter Tryz.func33, Tryz.ntmps33
    go_wp2
    go_ret
    exact ⟨ret_int HS.out.symm, Below.refl _ _⟩
  · have h' : ¬ left - es.length < 0 := by omega
    go_enter Tryz.func33, Tryz.ntmps33
    go_wp2
    go_loopw [1, 5] (fun lv i wr => ∃ k : Nat, k ≤ es.length ∧ i = .int .i64 k ∧ lv = .int .i64 (left - es.length - ftot (es.take k)) ∧ (ftot (es.take k) : Int) ≤ left - es.length ∧ Below w.heap.size w wr) (fun _ i _ => es.length - (intOf i).toNat)
    case atStart => exact ⟨0, Nat.zero_le _, rfl, by simp [ftot], by simp [ftot]; omega, Below.refl _ _⟩
    case round =>
      obtain ⟨k, hk, rfl, rfl, ht, hb⟩ := hrel
      by_cases hlt : k < es.length
      · have hlt' : (k : Int) < es.length := by omega
        obtain ⟨b, o, rfl, hbs, x0, x1, x2, hy⟩ := Fs.get (ha.below hb) hlt
        have hn := hm _ (List.getElem_mem hlt)
        have hs : ftot (es.take (k + 1)) = ftot (es.take k) + es[k].2.1.2.2.length := sum_succ _ hlt
        have hg : ftot (es.take k) + es[k].2.1.2.2.length ≤ ftot es := sum_get _ hlt
        by_cases hz : left - es.length - ftot (es.take k) < (es[k].2.1.2.2.length : Nat)
        · have HS : Hid (szR left (es.length + ftot es) = -1) := szR_no (by omega)
          have HZ := szR_no hz
          go_wp2_with (go_at_call 69; refine (szFile_any es[k] _ _ hn (by omega) (by omega)).mono ?_; rintro e w2 ⟨he, hb2⟩; rw [HZ.out] at he; subst he)
          go_ret
          exact ⟨ret_int HS.out.symm, hb.trans (hb2.mono hb.size)⟩
        · have HZ := szR_yes hz
          have hz' : ¬ left - es.length - ftot (es.take k) - (es[k].2.1.2.2.length : Nat) < 0 := by omega
          go_wp2_with (go_at_call 69; refine (szFile_any es[k] _ _ hn (by omega) (by omega)).mono ?_; rintro e w2 ⟨he, hb2⟩; rw [HZ.out] at he; subst he)
          go_roundw
          case rel => exact ⟨k + 1, by omega, by go_num, by rw [hs]; go_num, by rw [hs]; omega, hb.trans (hb2.mono hb.size)⟩
          case measure => simp [intOf]; omega
      · have hlt' : ¬ ((k : Int) < es.length) := by omega
        have hk' : k = es.length := by omega
        have ht' : es.take k = es := by rw [hk']; exact List.take_length
        rw [ht'] at ht ⊢
        have HS : Hid (szR left (es.length + ftot es) = left - (es.length + ftot es)) := szR_yes (by omega)
        clear hk' ht'
        go_wp2
        go_ret
        exact ⟨ret_int (by rw [HS.out]; omega), hb⟩
set_option maxHeartbeats 400000 in
theorem szLinkS_any (A : Option Addr) (c : Nat) (es : List Lk) (left : Int) (w : World) (ha : Ks w A es) (hl : es.length ≤ maxLen) (hm : ∀ e, e ∈ es → e.1.size ≤ maxLen) (h0 : 0 ≤ left) (h1 : left ≤ 1048576) :
    Calls Tryz.prog 34 #[.slice A es.length c, .int .i64 left] w fun e w' => e = .returned (.int .i64 (szR left (es.length + ktot es))) ∧ Below w.heap.size w w' := by
  have hl' := hl
  unfold maxLen at hl'
  by_cases h : left < es.length
  · have HS : Hid (szR left (es.length + ktot es) = -1) := szR_no (by omega)
    have h' : left - es.length < 0 := by omega
    go_enter Tryz.func34, Tryz.ntmps34
    go_wp2
    go_ret
    exact ⟨ret_int HS.out.symm, Below.refl _ _⟩
  · have h' : ¬ left - es.length < 0 := by omega
    go_enter Tryz.func34, Tryz.ntmps34
    go_wp2
    go_loopw [1, 5] (fun lv i wr => ∃ k : Nat, k ≤ es.length ∧ i = .int .i64 k ∧ lv = .int .i64 (left - es.length - ktot (es.take k)) ∧ (ktot (es.take k) : Int) ≤ left - es.length ∧ Below w.heap.size w wr) (fun _ i _ => es.length - (intOf i).toNat)
    case atStart => exact ⟨0, Nat.zero_le _, rfl, by simp [ktot], by simp [ktot]; omega, Below.refl _ _⟩
    case round =>
      obtain ⟨k, hk, rfl, rfl, ht, hb⟩ := hrel
      by_cases hlt : k < es.length
      · have hlt' : (k : Int) < es.length := by omega
        obtain ⟨b, o, rfl, hbs, x0, x1⟩ := Ks.get (ha.below hb) hlt
        have hn := hm _ (List.getElem_mem hlt)
        have hs : ktot (es.take (k + 1)) = ktot (es.take k) + es[k].1.size := sum_succ _ hlt
        have hg : ktot (es.take k) + es[k].1.size ≤ ktot es := sum_get _ hlt
        by_cases hz : left - es.length - ktot (es.take k) < (es[k].1.size : Nat)
        · have HS : Hid (szR left (es.length + ktot es) = -1) := szR_no (by omega)
          have HZ := szR_no hz
          go_wp2_with (go_at_call 70; refine (szLink_any es[k] _ _ hn (by omega) (by omega)).mono ?_; rintro e w2 ⟨he, hb2⟩; rw [HZ.out] at he; subst he)
          go_ret
          exact ⟨ret_int HS.out.symm, hb.trans (hb2.mono hb.size)⟩
        · have HZ := szR_yes hz
          have hz' : ¬ left - es.length - ktot (es.take k) - (es[k].1.size : Nat) < 0 := by omega
          go_wp2_with (go_at_call 70; refine (szLink_any es[k] _ _ hn (by omega) (by omega)).mono ?_; rintro e w2 ⟨he, hb2⟩; rw [HZ.out] at he; subst he)
          go_roundw
          case rel => exact ⟨k + 1, by omega, by go_num, by rw [hs]; go_num, by rw [hs]; omega, hb.trans (hb2.mono hb.size)⟩
          case measure => simp [intOf]; omega
      · have hlt' : ¬ ((k : Int) < es.length) := by omega
        have hk' : k = es.length := by omega
        have ht' : es.take k = es := by rw [hk']; exact List.take_length
        rw [ht'] at ht ⊢
        have HS : Hid (szR left (es.length + ktot es) = left - (es.length + ktot es)) := szR_yes (by omega)
        clear hk' ht'
        go_wp2
        go_ret
        exact ⟨ret_int (by rw [HS.out]; omega), hb⟩
set_option maxHeartbeats 400000 in
theorem szTurnS_any (A : Option Addr) (c : Nat) (es : List Tn) (left : Int) (w : World) (ha : Ts w A es) (hl : es.length ≤ maxLen) (hm : ∀ e, e ∈ es → e.2.1.size ≤ maxLen ∧ e.2.2.1.size ≤ maxLen) (h0 : 0 ≤ left) (h1 : left ≤ 1048576) :
    Calls Tryz.prog 35 #[.slice A es.length c, .int .i64 left] w fun e w' => e = .returned (.int .i64 (szR left (es.length + ttot es))) ∧ Below w.heap.size w w' := by
  have hl' := hl
  unfold maxLen at hl'
  by_cases h : left < es.length
  · have HS : Hid (szR left (es.length + ttot es) = -1) := szR_no (by omega)
    have h' : left - es.length < 0 := by omega
    go_enter Tryz.func35, Tryz.ntmps35
    go_wp2
    go_ret
    exact ⟨ret_int HS.out.symm, Below.refl _ _⟩
  · have h' : ¬ left - es.length < 0 := by omega
    go_enter Tryz.func35, Tryz.ntmps35
    go_wp2
    go_loopw [1, 5] (fun lv i wr => ∃ k : Nat, k ≤ es.length ∧ i = .int .i64 k ∧ lv = .int .i64 (left - es.length - ttot (es.take k)) ∧ (ttot (es.take k) : Int) ≤ left - es.length ∧ Below w.heap.size w wr) (fun _ i _ => es.length - (intOf i).toNat)
    case atStart => exact ⟨0, Nat.zero_le _, rfl, by simp [ttot], by simp [ttot]; omega, Below.refl _ _⟩
    case round =>
      obtain ⟨k, hk, rfl, rfl, ht, hb⟩ := hrel
      by_cases hlt : k < es.length
      · have hlt' : (k : Int) < es.length := by omega
        obtain ⟨b, o, rfl, hbs, x0, x1, x2, x3⟩ := Ts.get (ha.below hb) hlt
        have hn := hm _ (List.getElem_mem hlt)
        have hs : ttot (es.take (k + 1)) = ttot (es.take k) + (es[k].2.1.size + es[k].2.2.1.size) := sum_succ _ hlt
        have hg : ttot (es.take k) + (es[k].2.1.size + es[k].2.2.1.size) ≤ ttot es := sum_get _ hlt
        by_cases hz : left - es.length - ttot (es.take k) < ((es[k].2.1.size + es[k].2.2.1.size) : Nat)
        · have HS : Hid (szR left (es.length + ttot es) = -1) := szR_no (by omega)
          have HZ := szR_no hz
          go_wp2_with (go_at_call 71; refine (szTurn_any es[k] _ _ hn.1 hn.2 (by omega) (by omega)).mono ?_; rintro e w2 ⟨he, hb2⟩; rw [HZ.out] at he; subst he)
          go_ret
          exact ⟨ret_int HS.out.symm, hb.trans (hb2.mono hb.size)⟩
        · have HZ := szR_yes hz
          have hz' : ¬ left - es.length - ttot (es.take k) - ((es[k].2.1.size + es[k].2.2.1.size) : Nat) < 0 := by omega
          go_wp2_with (go_at_call 71; refine (szTurn_any es[k] _ _ hn.1 hn.2 (by omega) (by omega)).mono ?_; rintro e w2 ⟨he, hb2⟩; rw [HZ.out] at he; subst he)
          go_roundw
          case rel => exact ⟨k + 1, by omega, by go_num, by rw [hs]; go_num, by rw [hs]; omega, hb.trans (hb2.mono hb.size)⟩
          case measure => simp [intOf]; omega
      · have hlt' : ¬ ((k : Int) < es.length) := by omega
        have hk' : k = es.length := by omega
        have ht' : es.take k = es := by rw [hk']; exact List.take_length
        rw [ht'] at ht ⊢
        have HS : Hid (szR left (es.length + ttot es) = left - (es.length + ttot es)) := szR_yes (by omega)
        clear hk' ht'
        go_wp2
        go_ret
        exact ⟨ret_int (by rw [HS.out]; omega), hb⟩
theorem szDisk_any (r f n : Int) (FA : Option Addr) (fs : List Fl) (fc : Nat) (KA : Option Addr) (ks : List Lk) (kc : Nat) (TA : Option Addr) (ts : List Tn) (tc : Nat) (w : World)
    (hF : Fs w FA fs) (hFl : fs.length ≤ maxLen) (hFm : ∀ e, e ∈ fs → e.2.1.2.2.length ≤ maxLen) (hK : Ks w KA ks) (hKl : ks.length ≤ maxLen) (hKm : ∀ e, e ∈ ks → e.1.size ≤ maxLen) (hT : Ts w TA ts) (hTl : ts.length ≤ maxLen) (hTm : ∀ e, e ∈ ts → e.2.1.size ≤ maxLen ∧ e.2.2.1.size ≤ maxLen) :
    Calls Tryz.prog 11 #[dkV r f n FA fs.length fc KA ks.length kc TA ts.length tc, .int .i64 1048576] w fun e w' => e = .returned (.int .i64 (szR 1048576 ((fs.length + ftot fs) + (ks.length + ktot ks) + (ts.length + ttot ts)))) ∧ Below w.heap.size w w' := by
  have hb0 : Below w.heap.size w (w.alloc (.cells (dkC r f n FA fs.length fc KA ks.length kc TA ts.length tc) 26)) := by (repeat (first | exact Below.refl _ _ | (refine Below.alloc ?_ (by first | omega | (simp; done) | (simp; omega)) _) | (refine Below.drew ?_) | (refine below_drewN ?_ _) | (refine below_at1 ?_ (by first | omega | (simp; done) | (simp; omega))) | (refine Below.setCell ?_ (by first | omega | (simp; done) | (simp; omega)) _) | (refine Below.trans ?_ (Below.mono (by assumption) (by first | omega | (simp; done) | (simp; omega))))))
  by_cases h1 : (1048576 : Int) < fs.length + ftot fs
  · have HS : Hid (szR 1048576 ((fs.length + ftot fs) + (ks.length + ktot ks) + (ts.length + ttot ts)) = -1) := szR_no (by omega)
    have HZ := szR_no h1
    go_enter Tryz.func11, Tryz.ntmps11
    go_wp2_with (go_at_call 33; refine (szFileS_any _ _ fs _ _ (hF.below hb0) hFl hFm (by omega) (by omega)).mono ?_; rintro e w1 ⟨he, hb1⟩; rw [HZ.out] at he; subst he)
    go_ret
    exact ⟨ret_int HS.out.symm, hb0.trans (hb1.mono hb0.size)⟩
  have HZ1 := szR_yes h1
  have h1' : ¬ (1048576 : Int) - (fs.length + ftot fs) < 0 := by omega
  have h1'' : (1048576 : Int) - (fs.length + ftot fs) ≤ 1048576 := by omega
  have h1n : 0 ≤ (1048576 : Int) - (fs.length + ftot fs) := by omega
  generalize hl1 : (1048576 : Int) - (fs.length + ftot fs) = l1 at HZ1 h1' h1'' h1n
  have L1 : Hid ((1048576 : Int) - (fs.length + ftot fs) = l1) := hl1
  clear hl1
  go_enter Tryz.func11, Tryz.ntmps11
  go_wp2_with fail
  refine (szFileS_any _ _ fs _ _ (hF.below hb0) hFl hFm (by omega) (by omega)).mono ?_
  rintro e w1 ⟨he, hb1⟩
  rw [HZ1.out] at he
  subst he
  have ht1 := hb0.trans (hb1.mono hb0.size)
  obtain ⟨B1, q1, r1, z1⟩ := keep_blk hb1 (g := w.heap.size) (by repeat (first | assumption | exact heap_alloc_at _ (by first | rfl | (simp; done) | omega) | refine heap_alloc_of _ ?_ | refine heap_setCell_of _ (by first | omega | (simp; done) | (simp; omega)) ?_ | refine heap_setCell_same _ ?_ | exact heap_at1_same (by first | omega | (simp; done) | (simp; omega)) | refine heap_at1_of (by first | omega | (simp; done) | (simp; omega)) ?_))
  have k1 : w1.cell? ⟨w.heap.size, 4, none⟩ = some (.slice KA ks.length kc) := q1 4
  have j1 : w1.cell? ⟨w.heap.size, 5, none⟩ = some (.slice TA ts.length tc) := q1 5
  clear B1 q1 r1
  by_cases h2 : l1 < ks.length + ktot ks
  · have HS : Hid (szR 1048576 ((fs.length + ftot fs) + (ks.length + ktot ks) + (ts.length + ttot ts)) = -1) := szR_no (by have := L1.out; omega)
    have HZ := szR_no h2
    go_wp2_with (go_at_call 34; refine (szLinkS_any _ _ ks _ _ (hK.below ht1) hKl hKm h1n h1'').mono ?_; rintro e w2 ⟨he, hb2⟩; rw [HZ.out] at he; subst he)
    go_ret
    exact ⟨ret_int HS.out.symm, ht1.trans (hb2.mono ht1.size)⟩
  have HZ2 := szR_yes h2
  have h2' : ¬ l1 - (ks.length + ktot ks) < 0 := by omega
  have h2'' : l1 - (ks.length + ktot ks) ≤ 1048576 := by omega
  have h2n : 0 ≤ l1 - (ks.length + ktot ks) := by omega
  generalize hl2 : l1 - (ks.length + ktot ks) = l2 at HZ2 h2' h2'' h2n
  have L2 : Hid (l1 - (ks.length + ktot ks) = l2) := hl2
  clear hl2
  go_wp2_with fail
  refine (szLinkS_any _ _ ks _ _ (hK.below ht1) hKl hKm h1n h1'').mono ?_
  rintro e w2 ⟨he, hb2⟩
  rw [HZ2.out] at he
  subst he
  have ht2 := ht1.trans (hb2.mono ht1.size)
  have j2 : w2.cell? ⟨w.heap.size, 5, none⟩ = some (.slice TA ts.length tc) := (hb2.cell (p := ⟨w.heap.size, 5, none⟩) z1).trans j1
  have z2 : w.heap.size < w2.heap.size := Nat.lt_of_lt_of_le z1 hb2.size
  by_cases h3 : l2 < ts.length + ttot ts
  · have HS : Hid (szR 1048576 ((fs.length + ftot fs) + (ks.length + ktot ks) + (ts.length + ttot ts)) = -1) := szR_no (by have := L1.out; have := L2.out; omega)
    have HZ := szR_no h3
    go_wp2_with (go_at_call 35; refine (szTurnS_any _ _ ts _ _ (hT.below ht2) hTl hTm h2n h2'').mono ?_; rintro e w3 ⟨he, hb3⟩; rw [HZ.out] at he; subst he)
    go_ret
    exact ⟨ret_int HS.out.symm, ht2.trans (hb3.mono ht2.size)⟩
  · have HZ3 := szR_yes h3
    have h3' : ¬ l2 - (ts.length + ttot ts) < 0 := by omega
    have HS : Hid (szR 1048576 ((fs.length + ftot fs) + (ks.length + ktot ks) + (ts.length + ttot ts)) = l2 - (ts.length + ttot ts)) := by
      have := L1.out
      have := L2.out
      show _ = _
      rw [(szR_yes (by omega) : Hid (szR 1048576 ((fs.length + ftot fs) + (ks.length + ktot ks) + (ts.length + ttot ts)) = _)).out]
      omega
    go_wp2_with (go_at_call 35; refine (szTurnS_any _ _ ts _ _ (hT.below ht2) hTl hTm h2n h2'').mono ?_; rintro e w3 ⟨he, hb3⟩; rw [HZ3.out] at he; subst he)
    go_ret
    exact ⟨ret_int HS.out.symm, ht2.trans (hb3.mono ht2.size)⟩
end Go.Proofs.YtfkdifgmhfdbdaaGreatDoor
