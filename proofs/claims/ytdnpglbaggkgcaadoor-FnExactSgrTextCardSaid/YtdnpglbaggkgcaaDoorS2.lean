/- An attribute's text: the program's way. -/
import Derived.Test.YtdnpglbaggkgcaaDoorS1
import Derived.Deep.RegionWith
import Derived.Deep.RegionHeld3
namespace Go.Proofs.YtdnpglbaggkgcaaDoor
open Go.RowKit Go.Lib
set_option linter.unusedVariables false
set_option maxRecDepth 100000

theorem cell_al {w : World} {a : Addr} {v : Value} (h : w.cell? a = some v) (o : Obj) : (w.alloc o).cell? a = some v := by
  rw [World.cell?_alloc_lt _ _ _ (World.block_lt_of_cell? w _ h)]
  exact h
theorem cell_dr {w : World} {a : Addr} {v : Value} (h : w.cell? a = some v) : w.drew.cell? a = some v := h
/-- The pieces that are set, one behind the other. -/
def accP : List (Bool × List UInt8) → List UInt8
  | [] => []
  | p :: r => (if p.1 = true then p.2 else []) ++ accP r
theorem accP_snoc (l : List (Bool × List UInt8)) (p : Bool × List UInt8) : accP (l ++ [p]) = accP l ++ (if p.1 = true then p.2 else []) := by
  induction l with
  | nil => simp [accP]
  | cons a l ih => simp [accP, ih]
theorem accP_len : ∀ (l : List (Bool × List UInt8)), (∀ p ∈ l, p.2.length ≤ 3) → (accP l).length ≤ 3 * l.length
  | [], _ => Nat.le_refl _
  | p :: r, h => by
    have h1 := accP_len r (fun q hq => h q (by simp [hq]))
    have h2 := h p (by simp)
    simp only [accP, List.length_append, List.length_cons]
    split <;> simp <;> omega
set_option maxHeartbeats 4000000 in
theorem sgrText_impl (f b : Int) (x y z : Bool) (w : World) (ht : Tb w) :
    Calls Tryd.prog 27 #[.agg #[.int .i64 f, .int .i64 b, .bool x, .bool y, .bool z]] w fun e w' => e = .returned (.string (bstr (sgL f b x y z))) ∧ Below w.heap.size w w' := by
  cases hok : attrOkB f b with
  | false =>
    have HR := Lib.hid (sg_no (x := x) (y := y) (z := z) hok)
    have HO := Lib.hid hok
    clear hok
    rw [HR.out]
    go_enter Tryd.func27, Tryd.ntmps27
    go_wp2_with (go_at_call 38; refine (attrOk_impl _ _ _ _ _ _).mono ?_; rintro e w' ⟨he, o, rfl⟩; rw [HO.out] at he; subst he)
    go_ret
    exact ⟨rfl, (by (repeat (first | exact Below.refl _ _ | (refine Below.alloc ?_ (by first | omega | (simp; done) | (simp; omega)) _) | (refine Below.drew ?_) | (refine below_drewN ?_ _) | (refine below_at1 ?_ (by first | omega | (simp; done) | (simp; omega))) | (refine Below.setCell ?_ (by first | omega | (simp; done) | (simp; omega)) _) | (refine Below.trans ?_ (Below.mono (by assumption) (by first | omega | (simp; done) | (simp; omega)))))))⟩
  | true =>
    have HR := Lib.hid (sg_yes (x := x) (y := y) (z := z) hok)
    have HO := Lib.hid hok
    obtain ⟨hf0, hf8, hb0, hb8⟩ := of_decide_eq_true hok
    clear hok
    obtain ⟨u, v, huv⟩ := nt_two (n := f + 29) (by omega) (by omega)
    obtain ⟨u', v', huv'⟩ := nt_two (n := b + 39) (by omega) (by omega)
    rw [huv, huv'] at HR
    have hF := fun w ht => numText_impl (f + 29) w ⟨by omega, by omega⟩ ht
    have hB := fun w ht => numText_impl (b + 39) w ⟨by omega, by omega⟩ ht
    rw [huv] at hF
    rw [huv'] at hB
    have HF := Lib.hid hF
    have HB := Lib.hid hB
    clear hF hB huv huv'
    have z1 : (bstr [u, v]).size = 2 := bstr_size _
    have z2 : (bstr [u', v']).size = 2 := bstr_size _
    go_enter Tryd.func27, Tryd.ntmps27
    go_wp2_with (go_at_call 38; refine (attrOk_impl _ _ _ _ _ _).mono ?_; rintro e w' ⟨he, o, rfl⟩; rw [HO.out] at he; subst he)
    obtain ⟨w0, hw0⟩ : ∃ w0, w0 = ((w.alloc (.cells #[.int .i64 f, .int .i64 b, .bool x, .bool y, .bool z] 34)).alloc o) := ⟨_, rfl⟩
    rw [← hw0]
    have B0 : w0.heap[w.heap.size]? = some (.cells #[.int .i64 f, .int .i64 b, .bool x, .bool y, .bool z] 34 (0, 0)) := by subst hw0; exact heap_alloc_of _ (heap_alloc_new _ _)
    have t0 : Below w.heap.size w w0 := by subst hw0; exact (by (repeat (first | exact Below.refl _ _ | (refine Below.alloc ?_ (by first | omega | (simp; done) | (simp; omega)) _) | (refine Below.drew ?_) | (refine below_drewN ?_ _) | (refine below_at1 ?_ (by first | omega | (simp; done) | (simp; omega))) | (refine Below.setCell ?_ (by first | omega | (simp; done) | (simp; omega)) _) | (refine Below.trans ?_ (Below.mono (by assumption) (by first | omega | (simp; done) | (simp; omega)))))))
    clear hw0
    have ht0 : Tb w0 := ht.below t0 (Nat.le_refl _)
    have c0 : w0.cell? ⟨w.heap.size, 0, none⟩ = some (.int .i64 f) := by rw [cell_of_row w0 _ 0 _ _ (0, 0) B0]; rfl
    have c1 : w0.cell? ⟨w.heap.size, 1, none⟩ = some (.int .i64 b) := by rw [cell_of_row w0 _ 1 _ _ (0, 0) B0]; rfl
    have c2 : w0.cell? ⟨w.heap.size, 2, none⟩ = some (.bool x) := by rw [cell_of_row w0 _ 2 _ _ (0, 0) B0]; rfl
    have c3 : w0.cell? ⟨w.heap.size, 3, none⟩ = some (.bool y) := by rw [cell_of_row w0 _ 3 _ _ (0, 0) B0]; rfl
    have c4 : w0.cell? ⟨w.heap.size, 4, none⟩ = some (.bool z) := by rw [cell_of_row w0 _ 4 _ _ (0, 0) B0]; rfl
    have e1 : IntKind.i64.wrap (f + 29) = f + 29 := by rw [IntKind.wrap_i64]; omega
    have e2 : IntKind.i64.wrap (b + 39) = b + 39 := by rw [IntKind.wrap_i64]; omega
    first
      | (go_region_held3 (fun w' => Below w0.heap.size w0 w' ∧ w'.cell? ⟨w.heap.size, 0, none⟩ = some (.int .i64 f) ∧ w'.cell? ⟨w.heap.size, 1, none⟩ = some (.int .i64 b) ∧ w'.cell? ⟨w.heap.size, 2, none⟩ = some (.bool x) ∧ w'.cell? ⟨w.heap.size, 3, none⟩ = some (.bool y) ∧ w'.cell? ⟨w.heap.size, 4, none⟩ = some (.bool z))
           (first | with_reducible assumption | exact ⟨Below.drew (Below.refl _ _), cell_dr c0, cell_dr c1, cell_dr c2, cell_dr c3, cell_dr c4⟩ | exact ⟨Below.alloc s2 s2.size _, cell_al k20 _, cell_al k21 _, cell_al k22 _, cell_al k23 _, cell_al k24 _⟩)
           ((first | (go_at_call_of 11 f; refine (HF.out _ (ht0.below (Below.drew (Below.refl w0.heap.size w0)) (Nat.le_refl _))).mono ?_; rintro e w1 ⟨rfl, hb1⟩; have s1 : Below w0.heap.size w0 w1 := (Below.drew (Below.refl _ _)).trans hb1; have k10 := (s1.cell (World.block_lt_of_cell? w0 _ c0)).trans c0; have k11 := (s1.cell (World.block_lt_of_cell? w0 _ c1)).trans c1; have k12 := (s1.cell (World.block_lt_of_cell? w0 _ c2)).trans c2; have k13 := (s1.cell (World.block_lt_of_cell? w0 _ c3)).trans c3; have k14 := (s1.cell (World.block_lt_of_cell? w0 _ c4)).trans c4; have hkeep_1 := And.intro s1 (And.intro k10 (And.intro k11 (And.intro k12 (And.intro k13 (k14)))))) | (go_at_call_of 11 b; refine (HB.out _ (ht0.below s1 (Nat.le_refl _))).mono ?_; rintro e w2 ⟨rfl, hb2⟩; have s2 : Below w0.heap.size w0 w2 := s1.trans (hb2.mono s1.size); have k20 := (s2.cell (World.block_lt_of_cell? w0 _ c0)).trans c0; have k21 := (s2.cell (World.block_lt_of_cell? w0 _ c1)).trans c1; have k22 := (s2.cell (World.block_lt_of_cell? w0 _ c2)).trans c2; have k23 := (s2.cell (World.block_lt_of_cell? w0 _ c3)).trans c3; have k24 := (s2.cell (World.block_lt_of_cell? w0 _ c4)).trans c4; have hkeep_2 := And.intro s2 (And.intro k20 (And.intro k21 (And.intro k22 (And.intro k23 (k24)))))))))
      | fail
    clear hkeep_1 hkeep_2
    obtain ⟨w3, hw3⟩ : ∃ w3, w3 = w2.alloc (.cells #[.bool x, .string ⟨#[59, 49]⟩, .bool y, .string ⟨#[59, 52]⟩, .bool z, .string ⟨#[59, 55]⟩, .bool (f != 0), .string (⟨#[59]⟩ ++ bstr [u, v]), .bool (b != 0), .string (⟨#[59]⟩ ++ bstr [u', v'])] 47) := ⟨_, rfl⟩
    rw [← hw3]
    have B3 : w3.heap[w2.heap.size]? = some (.cells #[.bool x, .string ⟨#[59, 49]⟩, .bool y, .string ⟨#[59, 52]⟩, .bool z, .string ⟨#[59, 55]⟩, .bool (f != 0), .string (⟨#[59]⟩ ++ bstr [u, v]), .bool (b != 0), .string (⟨#[59]⟩ ++ bstr [u', v'])] 47 (0, 0)) := by subst hw3; exact heap_alloc_new _ _
    have t2 : Below w.heap.size w w2 := t0.trans (s2.mono t0.size)
    have t3 : Below w.heap.size w w3 := by subst hw3; exact t2.alloc t2.size _
    have hz3 : w2.heap.size < w3.heap.size := by subst hw3; simp
    clear hw3 k10 k11 k12 k13 k14 k20 k21 k22 k23 k24 c0 c1 c2 c3 c4 hb1 hb2 s1 s2
    obtain ⟨L5, hL5⟩ : ∃ L5 : List (Bool × List UInt8), L5 = [(x, [59, 49]), (y, [59, 52]), (z, [59, 55]), (f != 0, [59, u, v]), (b != 0, [59, u', v'])] := ⟨_, rfl⟩
    have hlen : L5.length = 5 := by rw [hL5]; rfl
    have hrow : ∀ (k : Nat) (h : k < L5.length), w3.cell? ⟨w2.heap.size, k * 2, none⟩ = some (.bool L5[k].1) ∧ w3.cell? ⟨w2.heap.size, k * 2 + 1, none⟩ = some (.string (bstr L5[k].2)) ∧ L5[k].2.length ≤ 3 := by
      subst hL5
      intro k h
      match k, h with
      | 0, _ => exact ⟨cell_of_row w3 _ 0 _ _ (0, 0) B3, cell_of_row w3 _ 1 _ _ (0, 0) B3, by simp⟩
      | 1, _ => exact ⟨cell_of_row w3 _ 2 _ _ (0, 0) B3, cell_of_row w3 _ 3 _ _ (0, 0) B3, by simp⟩
      | 2, _ => exact ⟨cell_of_row w3 _ 4 _ _ (0, 0) B3, cell_of_row w3 _ 5 _ _ (0, 0) B3, by simp⟩
      | 3, _ => exact ⟨cell_of_row w3 _ 6 _ _ (0, 0) B3, (cell_of_row w3 _ 7 _ _ (0, 0) B3).trans (congrArg (fun s => some (Value.string s)) (bstr_app [59] [u, v])), by simp⟩
      | 4, _ => exact ⟨cell_of_row w3 _ 8 _ _ (0, 0) B3, (cell_of_row w3 _ 9 _ _ (0, 0) B3).trans (congrArg (fun s => some (Value.string s)) (bstr_app [59] [u', v'])), by simp⟩
    have hacl : ∀ k, (accP (L5.take k)).length ≤ 15 := fun k => by
      have h := accP_len (L5.take k) (fun p hp => by
        obtain ⟨j, hj, e⟩ := List.getElem_of_mem hp
        rw [← e, List.getElem_take]
        exact (hrow j (by simp at hj; omega)).2.2)
      rw [List.length_take, hlen] at h
      omega
    have hfin : sgL f b x y z = ([27, 91, 48] ++ accP L5) ++ [109] := by
      rw [HR.out, hL5]
      simp only [accP, List.append_assoc, List.append_nil]
      have a1 : (if (f != 0) = true then [59, u, v] else ([] : List UInt8)) = if f = 0 then [] else [59, u, v] := by by_cases h : f = 0 <;> simp [h]
      have a2 : (if (b != 0) = true then [59, u', v'] else ([] : List UInt8)) = if b = 0 then [] else [59, u', v'] := by by_cases h : b = 0 <;> simp [h]
      rw [a1, a2]
    have HROW := Lib.hid hrow
    have HFIN := Lib.hid hfin
    have HACL := Lib.hid hacl
    clear hrow hfin hacl hL5 B3 HR
    go_wp2_with fail
    go_loopw [3, 38] (fun s i wr => ∃ k : Nat, i = .int .i64 k ∧ k ≤ 5 ∧ s = .string (bstr ([27, 91, 48] ++ accP (L5.take k))) ∧ Below w3.heap.size w3 wr) (fun s i _ => 5 - (RowKit.intOf i).toNat)
    case atStart => exact ⟨0, rfl, by omega, rfl, Below.refl _ _⟩
    case round =>
      obtain ⟨k, rfl, hk, rfl, hb⟩ := hrel
      obtain ⟨acc, hacc⟩ : ∃ acc, acc = [27, 91, 48] ++ accP (L5.take k) := ⟨_, rfl⟩
      rw [← hacc]
      have hal : acc.length ≤ 18 := by have := HACL.out k; rw [hacc]; simp; omega
      by_cases hlt : k < 5
      · have hkl : k < L5.length := by omega
        have hlt' : (k : Int) < 5 := by omega
        obtain ⟨r1, r2, r3⟩ := HROW.out k hkl
        have r1' := (hb.cell (World.block_lt_of_cell? w3 _ r1)).trans r1
        have r2' := (hb.cell (World.block_lt_of_cell? w3 _ r2)).trans r2
        have hst := accP_snoc (L5.take k) L5[k]
        rw [List.take_append_getElem hkl] at hst
        have HST := Lib.hid hst
        clear hst r1 r2
        obtain ⟨t, htt⟩ : ∃ t, t = L5[k].2 := ⟨_, rfl⟩
        rw [← htt] at r2' r3 HST
        have HACC := Lib.hid hacc
        clear hacc htt
        have hrm : ¬ 9223372036854775807 < (bstr acc).size + (bstr t).size := by rw [bstr_size, bstr_size]; omega
        cases hp : L5[k].1 with
        | true =>
          rw [hp] at r1' HST
          have hnext : bstr acc ++ bstr t = bstr ([27, 91, 48] ++ accP (L5.take (k + 1))) := by rw [bstr_app, HST.out, HACC.out, List.append_assoc]; rfl
          have HN := Lib.hid hnext
          clear hnext hp
          go_wp2_with fail
          go_roundw
          case rel => exact ⟨k + 1, by go_num, by omega, congrArg Value.string HN.out, hb.alloc hb.size _⟩
          case measure => simp [RowKit.intOf]; omega
        | false =>
          rw [hp] at r1' HST
          have hnext : bstr acc = bstr ([27, 91, 48] ++ accP (L5.take (k + 1))) := by rw [HST.out, HACC.out]; simp
          have HN := Lib.hid hnext
          clear hnext hp
          go_wp2_with fail
          go_roundw
          case rel => exact ⟨k + 1, by go_num, by omega, congrArg Value.string HN.out, hb.alloc hb.size _⟩
          case measure => simp [RowKit.intOf]; omega
      · obtain rfl : k = 5 := by omega
        have hlt' : ¬ ((5 : Nat) : Int) < 5 := by omega
        have htk : L5.take 5 = L5 := List.take_of_length_le (by omega)
        rw [htk] at hacc
        have hrm : ¬ 9223372036854775807 < (bstr acc).size + 1 := by rw [bstr_size]; omega
        have hap : bstr acc ++ (⟨#[109]⟩ : ByteArray) = bstr (sgL f b x y z) := by rw [HFIN.out, ← hacc]; exact bstr_app acc [109]
        have HAP := Lib.hid hap
        clear hap hacc
        go_wp2_with fail
        exact bodyPost_ret (v := .string (bstr acc ++ ⟨#[109]⟩)) (by simp [results, Tryd.results27, go_sem, *]) rfl ⟨congrArg (fun s => Ending.returned (Value.string s)) HAP.out, t3.trans (hb.mono t3.size)⟩
end Go.Proofs.YtdnpglbaggkgcaaDoor
