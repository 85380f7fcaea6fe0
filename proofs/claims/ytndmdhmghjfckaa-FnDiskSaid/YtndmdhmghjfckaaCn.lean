/- Names and operations drawn. -/
import Derived.Test.YtndmdhmghjfckaaCk
import Derived.Test.YtndmdhmghjfckaaKx
namespace Go.Proofs.Ytndmdhmghjfckaa
open Go.RowKit
set_option linter.unusedVariables false
set_option maxRecDepth 100000

def nmLits : List ByteArray := [⟨#[115, 110, 97, 112, 46, 49]⟩, ⟨#[108, 111, 103, 46, 49]⟩, ⟨#[116, 101, 109, 112]⟩, ⟨#[115, 110, 97, 112, 46, 50]⟩, ⟨#[108, 111, 103, 46, 50]⟩, ⟨#[97]⟩, ⟨#[110, 111, 116, 101, 115, 46, 57]⟩, ⟨#[97, 98, 99, 100, 101, 102, 103, 104, 105, 106, 107, 108, 109, 110, 111, 112]⟩]
theorem nmLit_ok {x : Nat} (h : x < 8) : ∃ s, nmLits[x]? = some s ∧ nmB s = true := by
  match x, h with
  | 0, _ => exact ⟨_, rfl, by decide +kernel⟩
  | 1, _ => exact ⟨_, rfl, by decide +kernel⟩
  | 2, _ => exact ⟨_, rfl, by decide +kernel⟩
  | 3, _ => exact ⟨_, rfl, by decide +kernel⟩
  | 4, _ => exact ⟨_, rfl, by decide +kernel⟩
  | 5, _ => exact ⟨_, rfl, by decide +kernel⟩
  | 6, _ => exact ⟨_, rfl, by decide +kernel⟩
  | 7, _ => exact ⟨_, rfl, by decide +kernel⟩
set_option maxHeartbeats 1000000 in
theorem l02Name_k (g : Nat) (A : Option Addr) (c : Nat) (xs : List UInt8) (w : World) (h : CA w g A c xs) :
    Calls Try.prog 22 #[.pointer (some ⟨g, 0, none⟩)] w fun e w' => ∃ s, nmB s = true ∧ e = .returned (.string s) ∧ CA w' g A c xs ∧ Kp g (g + 1) w w' := by
  have hb2 : Below w.heap.size w (w.alloc (.cells #[.string ⟨#[115, 110, 97, 112, 46, 49]⟩, .string ⟨#[108, 111, 103, 46, 49]⟩, .string ⟨#[116, 101, 109, 112]⟩, .string ⟨#[115, 110, 97, 112, 46, 50]⟩, .string ⟨#[108, 111, 103, 46, 50]⟩, .string ⟨#[97]⟩, .string ⟨#[110, 111, 116, 101, 115, 46, 57]⟩, .string ⟨#[97, 98, 99, 100, 101, 102, 103, 104, 105, 106, 107, 108, 109, 110, 111, 112]⟩] 9)) := (Below.refl _ _).alloc (Nat.le_refl _) _
  have l0 : (w.alloc (.cells #[.string ⟨#[115, 110, 97, 112, 46, 49]⟩, .string ⟨#[108, 111, 103, 46, 49]⟩, .string ⟨#[116, 101, 109, 112]⟩, .string ⟨#[115, 110, 97, 112, 46, 50]⟩, .string ⟨#[108, 111, 103, 46, 50]⟩, .string ⟨#[97]⟩, .string ⟨#[110, 111, 116, 101, 115, 46, 57]⟩, .string ⟨#[97, 98, 99, 100, 101, 102, 103, 104, 105, 106, 107, 108, 109, 110, 111, 112]⟩] 9)).heap[w.heap.size]? = some (.cells #[.string ⟨#[115, 110, 97, 112, 46, 49]⟩, .string ⟨#[108, 111, 103, 46, 49]⟩, .string ⟨#[116, 101, 109, 112]⟩, .string ⟨#[115, 110, 97, 112, 46, 50]⟩, .string ⟨#[108, 111, 103, 46, 50]⟩, .string ⟨#[97]⟩, .string ⟨#[110, 111, 116, 101, 115, 46, 57]⟩, .string ⟨#[97, 98, 99, 100, 101, 102, 103, 104, 105, 106, 107, 108, 109, 110, 111, 112]⟩] 9 (0, 0)) := heap_alloc_new _ _
  have hgl := h.lt
  have k2 : Kp g (g + 1) w (w.alloc (.cells #[.string ⟨#[115, 110, 97, 112, 46, 49]⟩, .string ⟨#[108, 111, 103, 46, 49]⟩, .string ⟨#[116, 101, 109, 112]⟩, .string ⟨#[115, 110, 97, 112, 46, 50]⟩, .string ⟨#[108, 111, 103, 46, 50]⟩, .string ⟨#[97]⟩, .string ⟨#[110, 111, 116, 101, 115, 46, 57]⟩, .string ⟨#[97, 98, 99, 100, 101, 102, 103, 104, 105, 106, 107, 108, 109, 110, 111, 112]⟩] 9)) := (Kp.refl g (g + 1) w).below hb2 (by omega) (Nat.le_refl _)
  have h2 := h.below hb2 hgl
  go_enter Try.func22, Try.ntmps22
  go_wp2_with fail
  refine (l01Below_k g A c xs 8 _ h2 (by omega) (by omega)).mono ?_
  rintro e w3 ⟨x, hx, rfl, h3, k3⟩
  have l3 := (k3.2 w.heap.size (by omega) (by simp)).trans l0
  obtain ⟨s, hs, hsz⟩ := nmLit_ok hx
  have hcell : w3.cell? ⟨w.heap.size, x, none⟩ = some (.string s) := by
    rw [cell_of_row w3 _ x _ _ (0, 0) l3]
    have : (nmLits.map Value.string)[x]? = some (.string s) := by rw [List.getElem?_map, hs]; rfl
    simpa [nmLits] using this
  have hx' : (x : Int) < 8 := by omega
  have hx0 : (0 : Int) ≤ (x : Int) := Int.natCast_nonneg x
  clear l3 l0
  go_wp2_with fail
  go_ret
  exact ⟨s, hsz, rfl, h3, k2.trans k3⟩
theorem heap_set_ne {w : World} {p : Addr} (v : Value) {k : Nat} (h : k ≠ p.block) : (w.setCell p v).heap[k]? = w.heap[k]? := by
  exact Below.heap_setCell w p v k h
theorem noB_emp : noB ⟨#[]⟩ = true := decide_eq_true (by simp [ByteArray.toList_eq])
/-- What is drawn as an operation. -/
def OpPost (w : World) (g : Nat) (A : Option Addr) (c : Nat) (xs : List UInt8) (e : Ending) (w' : World) : Prop :=
  ∃ k s t B d us, e = .returned (opV k s t B us.length d) ∧ opB k s t us.length = true ∧ us.length ≤ 9 ∧ Ob w' w.heap.size B d us ∧ CA w' g A c xs ∧ Kp g (g + 1) w w'
set_option maxHeartbeats 20000000 in
theorem l02Op_k (g : Nat) (A : Option Addr) (c : Nat) (xs : List UInt8) (w : World) (h : CA w g A c xs) :
    Calls Try.prog 23 #[.pointer (some ⟨g, 0, none⟩)] w (OpPost w g A c xs) := by
  have hb1 : Below w.heap.size w (w.alloc (.cells #[.int .i64 0, .string ⟨#[]⟩, .string ⟨#[]⟩, .slice none 0 0] 57)) := (Below.refl _ _).alloc (Nat.le_refl _) _
  have Z1 : (w.alloc (.cells #[.int .i64 0, .string ⟨#[]⟩, .string ⟨#[]⟩, .slice none 0 0] 57)).heap[w.heap.size]? = some (.cells #[.int .i64 0, .string ⟨#[]⟩, .string ⟨#[]⟩, .slice none 0 0] 57 (0, 0)) := heap_alloc_new _ _
  have hgl := h.lt
  have k1 : Kp g (g + 1) w (w.alloc (.cells #[.int .i64 0, .string ⟨#[]⟩, .string ⟨#[]⟩, .slice none 0 0] 57)) := (Kp.refl g (g + 1) w).below hb1 (by omega) (Nat.le_refl _)
  have h1 := h.below hb1 hgl
  have sz1 : (w.alloc (.cells #[.int .i64 0, .string ⟨#[]⟩, .string ⟨#[]⟩, .slice none 0 0] 57)).heap.size = w.heap.size + 1 := by simp
  go_enter Try.func23, Try.ntmps23
  go_wp2_with fail
  refine (l01Below_k g A c xs 6 _ h1 (by omega) (by omega)).mono ?_
  rintro e w2 ⟨k, hk, rfl, h2, kp2⟩
  have Z2 := (kp2.2 w.heap.size (by omega) (by omega)).trans Z1
  have z12 := kp2.1.size
  have k2 := k1.trans kp2
  clear Z1 kp2
  go_wp2_with fail
  refine (l02Name_k g A c xs _ h2).mono ?_
  rintro e w3 ⟨s, hs, rfl, h3, kp3⟩
  have Z3 := (kp3.2 w.heap.size (by omega) (by omega)).trans Z2
  have z23 := kp3.1.size
  have k3 := k2.trans kp3
  have ek : ∀ [Inhabited Nat], wrap64 (1 + (k : Int)) = 1 + (k : Int) := by intro _; unfold wrap64; omega
  obtain ⟨K, hK⟩ : ∃ K : Int, Hid (1 + (k : Int) = K) := ⟨_, Lib.hid rfl⟩
  have hKb : 1 ≤ K ∧ K ≤ 6 := by have := hK.out; omega
  clear Z2 kp3
  go_wp2_with fail
  rw [hK.out]
  have hb4 : Below w3.heap.size w3 (w3.alloc (.cells #[.int .i64 K, .string s, .string ⟨#[]⟩, .slice none 0 0] 57)) := (Below.refl _ _).alloc (Nat.le_refl _) _
  have C4 : (w3.alloc (.cells #[.int .i64 K, .string s, .string ⟨#[]⟩, .slice none 0 0] 57)).heap[w3.heap.size]? = some (.cells #[.int .i64 K, .string s, .string ⟨#[]⟩, .slice none 0 0] 57 (0, 0)) := heap_alloc_new _ _
  have Z4 := heap_alloc_of (.cells #[.int .i64 K, .string s, .string ⟨#[]⟩, .slice none 0 0] 57) Z3
  have k4 : Kp g (g + 1) w (w3.alloc (.cells #[.int .i64 K, .string s, .string ⟨#[]⟩, .slice none 0 0] 57)) := k3.below hb4 (by omega) (by omega)
  have h4 := h3.below hb4 (by omega)
  have sz4 : (w3.alloc (.cells #[.int .i64 K, .string s, .string ⟨#[]⟩, .slice none 0 0] 57)).heap.size = w3.heap.size + 1 := by simp
  refine (l01Below_k g A c xs 3 _ h4 (by omega) (by omega)).mono ?_
  rintro e w5 ⟨x, hx, rfl, h5, kp5⟩
  have Z5 := (kp5.2 w.heap.size (by omega) (by omega)).trans Z4
  have C5 := (kp5.2 w3.heap.size (by omega) (by omega)).trans C4
  have z45 := kp5.1.size
  have k5 := k4.trans kp5
  have zz5 : w3.heap.size + 1 ≤ w5.heap.size := by omega
  have zz0 : w.heap.size < w3.heap.size := by omega
  clear kp5 Z4 C4 Z3 ek
  by_cases hx0 : x = 0
  case pos =>
    have e0 : ((x : Int) == 0) = true := by rw [hx0]; rfl
    have C6 : (w5.setCell ⟨w3.heap.size, 0, none⟩ (.int .i64 2)).heap[w3.heap.size]? = some (.cells #[.int .i64 2, .string s, .string ⟨#[]⟩, .slice none 0 0] 57 (0, 0)) := heap_setCell_same _ C5
    have Z6 : (w5.setCell ⟨w3.heap.size, 0, none⟩ (.int .i64 2)).heap[w.heap.size]? = some (.cells #[.int .i64 0, .string ⟨#[]⟩, .string ⟨#[]⟩, .slice none 0 0] 57 (0, 0)) := heap_setCell_of _ (by first | omega | (simp; done) | (simp; omega)) Z5
    have b6 : Below w3.heap.size w5 (w5.setCell ⟨w3.heap.size, 0, none⟩ (.int .i64 2)) := (Below.refl _ _).setCell (by first | omega | (simp; done) | (simp; omega)) _
    have k6 : Kp g (g + 1) w (w5.setCell ⟨w3.heap.size, 0, none⟩ (.int .i64 2)) := k5.below b6 (by omega) (by omega)
    have h6 := h5.below b6 (by omega)
    have zz6 : w3.heap.size + 1 ≤ (w5.setCell ⟨w3.heap.size, 0, none⟩ (.int .i64 2)).heap.size := by simpa using zz5
    have fr5 : w5.frozen? ⟨w3.heap.size, 0, none⟩ = false := by simp [World.frozen?, C5]
    have y6 := fun i => cell_of_row (w5.setCell ⟨w3.heap.size, 0, none⟩ (.int .i64 2)) w3.heap.size i _ _ (0, 0) C6
    have yk : (w5.setCell ⟨w3.heap.size, 0, none⟩ (.int .i64 2)).cell? ⟨w3.heap.size, 0, none⟩ = some (.int .i64 2) := y6 0
    have y50 : w5.cell? ⟨w3.heap.size, 0, none⟩ = some (.int .i64 K) := cell_of_row w5 w3.heap.size 0 _ _ (0, 0) C5
    go_wp2_with fail
    refine (l01Bytes_k g A c xs 9 _ h6 (by omega)).mono ?_
    rintro e w7 ⟨B, d, us, rfl, hus, ho7, h7, kp7⟩
    have Z7 := (kp7.2 w.heap.size (by omega) (by simpa using (show w.heap.size < w5.heap.size by omega))).trans Z6
    have C7 := (kp7.2 w3.heap.size (by omega) (by omega)).trans C6
    have z67 := kp7.1.size
    have zw7 : w3.heap.size + 1 ≤ w7.heap.size := by omega
    have k7 := k6.trans kp7
    have fr7 : w7.frozen? ⟨w3.heap.size, 3, none⟩ = false := by simp [World.frozen?, C7]
    have y7 := fun i => cell_of_row w7 w3.heap.size i _ _ (0, 0) C7
    have CF : (w7.setCell ⟨w3.heap.size, 3, none⟩ (.slice B us.length d)).heap[w3.heap.size]? = some (.cells #[.int .i64 2, .string s, .string ⟨#[]⟩, .slice B us.length d] 57 (0, 0)) := heap_setCell_same _ C7
    have ZF : (w7.setCell ⟨w3.heap.size, 3, none⟩ (.slice B us.length d)).heap[w.heap.size]? = some (.cells #[.int .i64 0, .string ⟨#[]⟩, .string ⟨#[]⟩, .slice none 0 0] 57 (0, 0)) := heap_setCell_of _ (by first | omega | (simp; done) | (simp; omega)) Z7
    have bF : Below w3.heap.size w7 (w7.setCell ⟨w3.heap.size, 3, none⟩ (.slice B us.length d)) := (Below.refl _ _).setCell (by first | omega | (simp; done) | (simp; omega)) _
    have kF := k7.below bF (by omega) (by omega)
    have hF := h7.below bF (by omega)
    have oG : Ob w7 (w3.heap.size + 1) B d us := ho7.mono_ zz6
    have zF : w3.heap.size + 1 ≤ (w7.setCell ⟨w3.heap.size, 3, none⟩ (.slice B us.length d)).heap.size := by simpa using zw7
    have yz := fun i => cell_of_row (w7.setCell ⟨w3.heap.size, 3, none⟩ (.slice B us.length d)) w.heap.size i _ _ (0, 0) ZF
    have fz : ∀ i, (w7.setCell ⟨w3.heap.size, 3, none⟩ (.slice B us.length d)).frozen? ⟨w.heap.size, i, none⟩ = false := fun i => by simp [World.frozen?, ZF]
    have yc := fun i => cell_of_row (w7.setCell ⟨w3.heap.size, 3, none⟩ (.slice B us.length d)) w3.heap.size i _ _ (0, 0) CF
    have yz0 := yz 0
    have yz1 := yz 1
    have yz2 := yz 2
    have yz3 := yz 3
    have yc0 := yc 0
    have yc1 := yc 1
    have yc2 := yc 2
    have yc3 := yc 3
    go_wp2_with fail
    refine bodyPost_ret (v := .agg #[.int .i64 2, .string s, .string ⟨#[]⟩, .slice B us.length d]) (by simp [results, Try.results23, go_sem, *]) rfl ?_
    exact ⟨2, s, ⟨#[]⟩, B, d, us, rfl, (by unfold opB; simp [hs, noB_emp]; try omega), hus, Ob.keepB (oG.mono_ (by omega)) (fun ad ha => by have h8 := (oG.inB ad ha).1; have h9 : ad.block ≠ w.heap.size := (by omega); have h10 : ad.block ≠ w3.heap.size := (by omega); exact Eq.trans (heap_set_ne _ h9) (Eq.trans (heap_set_ne _ h9) (Eq.trans (heap_set_ne _ h9) (Eq.trans (heap_set_ne _ h9) (heap_set_ne _ h10))))), CA.below hF (B' := w.heap.size) (by (repeat (first | exact Below.refl _ _ | (refine Below.alloc ?_ (by first | omega | (simp; done) | (simp; omega)) _) | (refine Below.drew ?_) | (refine below_drewN ?_ _) | (refine below_at1 ?_ (by first | omega | (simp; done) | (simp; omega))) | (refine Below.setCell ?_ (by first | omega | (simp; done) | (simp; omega)) _) | (refine Below.trans ?_ (Below.mono (by assumption) (by first | omega | (simp; done) | (simp; omega))))))) (by omega), Kp.below kF (B' := w.heap.size) (by (repeat (first | exact Below.refl _ _ | (refine Below.alloc ?_ (by first | omega | (simp; done) | (simp; omega)) _) | (refine Below.drew ?_) | (refine below_drewN ?_ _) | (refine below_at1 ?_ (by first | omega | (simp; done) | (simp; omega))) | (refine Below.setCell ?_ (by first | omega | (simp; done) | (simp; omega)) _) | (refine Below.trans ?_ (Below.mono (by assumption) (by first | omega | (simp; done) | (simp; omega))))))) (by omega) (by omega)⟩
  case neg =>
    rcases (show K = 1 ∨ K = 2 ∨ K = 3 ∨ K = 4 ∨ K = 5 ∨ K = 6 by omega) with hKK | hKK | hKK | hKK | hKK | hKK
    · subst hKK
      have e0 : ((x : Int) == 0) = false := by rw [beq_eq_false_iff_ne]; omega
      have C6 := C5
      have Z6 := Z5
      have k6 := k5
      have h6 := h5
      have zz6 := zz5
      have y6 := fun i => cell_of_row w5 w3.heap.size i _ _ (0, 0) C6
      have yk : w5.cell? ⟨w3.heap.size, 0, none⟩ = some (.int .i64 1) := y6 0
      have CF := C6
      have ZF := Z6
      have kF := k6
      have hF := h6
      have zF := zz6
      have yz := fun i => cell_of_row w5 w.heap.size i _ _ (0, 0) ZF
      have fz : ∀ i, w5.frozen? ⟨w.heap.size, i, none⟩ = false := fun i => by simp [World.frozen?, ZF]
      have yc := fun i => cell_of_row w5 w3.heap.size i _ _ (0, 0) CF
      have yz0 := yz 0
      have yz1 := yz 1
      have yz2 := yz 2
      have yz3 := yz 3
      have yc0 := yc 0
      have yc1 := yc 1
      have yc2 := yc 2
      have yc3 := yc 3
      go_wp2_with fail
      refine bodyPost_ret (v := .agg #[.int .i64 1, .string s, .string ⟨#[]⟩, .slice none 0 0]) (by simp [results, Try.results23, go_sem, *]) rfl ?_
      exact ⟨1, s, ⟨#[]⟩, none, 0, [], rfl, by unfold opB; simp [noB_emp, hs], by simp, ownsG_nil _ _ _ _, CA.below hF (B' := w.heap.size) (by (repeat (first | exact Below.refl _ _ | (refine Below.alloc ?_ (by first | omega | (simp; done) | (simp; omega)) _) | (refine Below.drew ?_) | (refine below_drewN ?_ _) | (refine below_at1 ?_ (by first | omega | (simp; done) | (simp; omega))) | (refine Below.setCell ?_ (by first | omega | (simp; done) | (simp; omega)) _) | (refine Below.trans ?_ (Below.mono (by assumption) (by first | omega | (simp; done) | (simp; omega))))))) (by omega), Kp.below kF (B' := w.heap.size) (by (repeat (first | exact Below.refl _ _ | (refine Below.alloc ?_ (by first | omega | (simp; done) | (simp; omega)) _) | (refine Below.drew ?_) | (refine below_drewN ?_ _) | (refine below_at1 ?_ (by first | omega | (simp; done) | (simp; omega))) | (refine Below.setCell ?_ (by first | omega | (simp; done) | (simp; omega)) _) | (refine Below.trans ?_ (Below.mono (by assumption) (by first | omega | (simp; done) | (simp; omega))))))) (by omega) (by omega)⟩
    · subst hKK
      have e0 : ((x : Int) == 0) = false := by rw [beq_eq_false_iff_ne]; omega
      have C6 := C5
      have Z6 := Z5
      have k6 := k5
      have h6 := h5
      have zz6 := zz5
      have y6 := fun i => cell_of_row w5 w3.heap.size i _ _ (0, 0) C6
      have yk : w5.cell? ⟨w3.heap.size, 0, none⟩ = some (.int .i64 2) := y6 0
      go_wp2_with fail
      refine (l01Bytes_k g A c xs 9 _ h6 (by omega)).mono ?_
      rintro e w7 ⟨B, d, us, rfl, hus, ho7, h7, kp7⟩
      have Z7 := (kp7.2 w.heap.size (by omega) (by simpa using (show w.heap.size < w5.heap.size by omega))).trans Z6
      have C7 := (kp7.2 w3.heap.size (by omega) (by omega)).trans C6
      have z67 := kp7.1.size
      have zw7 : w3.heap.size + 1 ≤ w7.heap.size := by omega
      have k7 := k6.trans kp7
      have fr7 : w7.frozen? ⟨w3.heap.size, 3, none⟩ = false := by simp [World.frozen?, C7]
      have y7 := fun i => cell_of_row w7 w3.heap.size i _ _ (0, 0) C7
      have CF : (w7.setCell ⟨w3.heap.size, 3, none⟩ (.slice B us.length d)).heap[w3.heap.size]? = some (.cells #[.int .i64 2, .string s, .string ⟨#[]⟩, .slice B us.length d] 57 (0, 0)) := heap_setCell_same _ C7
      have ZF : (w7.setCell ⟨w3.heap.size, 3, none⟩ (.slice B us.length d)).heap[w.heap.size]? = some (.cells #[.int .i64 0, .string ⟨#[]⟩, .string ⟨#[]⟩, .slice none 0 0] 57 (0, 0)) := heap_setCell_of _ (by first | omega | (simp; done) | (simp; omega)) Z7
      have bF : Below w3.heap.size w7 (w7.setCell ⟨w3.heap.size, 3, none⟩ (.slice B us.length d)) := (Below.refl _ _).setCell (by first | omega | (simp; done) | (simp; omega)) _
      have kF := k7.below bF (by omega) (by omega)
      have hF := h7.below bF (by omega)
      have oG : Ob w7 (w3.heap.size + 1) B d us := ho7.mono_ zz6
      have zF : w3.heap.size + 1 ≤ (w7.setCell ⟨w3.heap.size, 3, none⟩ (.slice B us.length d)).heap.size := by simpa using zw7
      have yz := fun i => cell_of_row (w7.setCell ⟨w3.heap.size, 3, none⟩ (.slice B us.length d)) w.heap.size i _ _ (0, 0) ZF
      have fz : ∀ i, (w7.setCell ⟨w3.heap.size, 3, none⟩ (.slice B us.length d)).frozen? ⟨w.heap.size, i, none⟩ = false := fun i => by simp [World.frozen?, ZF]
      have yc := fun i => cell_of_row (w7.setCell ⟨w3.heap.size, 3, none⟩ (.slice B us.length d)) w3.heap.size i _ _ (0, 0) CF
      have yz0 := yz 0
      have yz1 := yz 1
      have yz2 := yz 2
      have yz3 := yz 3
      have yc0 := yc 0
      have yc1 := yc 1
      have yc2 := yc 2
      have yc3 := yc 3
      go_wp2_with fail
      refine bodyPost_ret (v := .agg #[.int .i64 2, .string s, .string ⟨#[]⟩, .slice B us.length d]) (by simp [results, Try.results23, go_sem, *]) rfl ?_
      exact ⟨2, s, ⟨#[]⟩, B, d, us, rfl, (by unfold opB; simp [hs, noB_emp]; try omega), hus, Ob.keepB (oG.mono_ (by omega)) (fun ad ha => by have h8 := (oG.inB ad ha).1; have h9 : ad.block ≠ w.heap.size := (by omega); have h10 : ad.block ≠ w3.heap.size := (by omega); exact Eq.trans (heap_set_ne _ h9) (Eq.trans (heap_set_ne _ h9) (Eq.trans (heap_set_ne _ h9) (Eq.trans (heap_set_ne _ h9) (heap_set_ne _ h10))))), CA.below hF (B' := w.heap.size) (by (repeat (first | exact Below.refl _ _ | (refine Below.alloc ?_ (by first | omega | (simp; done) | (simp; omega)) _) | (refine Below.drew ?_) | (refine below_drewN ?_ _) | (refine below_at1 ?_ (by first | omega | (simp; done) | (simp; omega))) | (refine Below.setCell ?_ (by first | omega | (simp; done) | (simp; omega)) _) | (refine Below.trans ?_ (Below.mono (by assumption) (by first | omega | (simp; done) | (simp; omega))))))) (by omega), Kp.below kF (B' := w.heap.size) (by (repeat (first | exact Below.refl _ _ | (refine Below.alloc ?_ (by first | omega | (simp; done) | (simp; omega)) _) | (refine Below.drew ?_) | (refine below_drewN ?_ _) | (refine below_at1 ?_ (by first | omega | (simp; done) | (simp; omega))) | (refine Below.setCell ?_ (by first | omega | (simp; done) | (simp; omega)) _) | (refine Below.trans ?_ (Below.mono (by assumption) (by first | omega | (simp; done) | (simp; omega))))))) (by omega) (by omega)⟩
    · subst hKK
      have e0 : ((x : Int) == 0) = false := by rw [beq_eq_false_iff_ne]; omega
      have C6 := C5
      have Z6 := Z5
      have k6 := k5
      have h6 := h5
      have zz6 := zz5
      have y6 := fun i => cell_of_row w5 w3.heap.size i _ _ (0, 0) C6
      have yk : w5.cell? ⟨w3.heap.size, 0, none⟩ = some (.int .i64 3) := y6 0
      have CF := C6
      have ZF := Z6
      have kF := k6
      have hF := h6
      have zF := zz6
      have yz := fun i => cell_of_row w5 w.heap.size i _ _ (0, 0) ZF
      have fz : ∀ i, w5.frozen? ⟨w.heap.size, i, none⟩ = false := fun i => by simp [World.frozen?, ZF]
      have yc := fun i => cell_of_row w5 w3.heap.size i _ _ (0, 0) CF
      have yz0 := yz 0
      have yz1 := yz 1
      have yz2 := yz 2
      have yz3 := yz 3
      have yc0 := yc 0
      have yc1 := yc 1
      have yc2 := yc 2
      have yc3 := yc 3
      go_wp2_with fail
      refine bodyPost_ret (v := .agg #[.int .i64 3, .string s, .string ⟨#[]⟩, .slice none 0 0]) (by simp [results, Try.results23, go_sem, *]) rfl ?_
      exact ⟨3, s, ⟨#[]⟩, none, 0, [], rfl, by unfold opB; simp [noB_emp, hs], by simp, ownsG_nil _ _ _ _, CA.below hF (B' := w.heap.size) (by (repeat (first | exact Below.refl _ _ | (refine Below.alloc ?_ (by first | omega | (simp; done) | (simp; omega)) _) | (refine Below.drew ?_) | (refine below_drewN ?_ _) | (refine below_at1 ?_ (by first | omega | (simp; done) | (simp; omega))) | (refine Below.setCell ?_ (by first | omega | (simp; done) | (simp; omega)) _) | (refine Below.trans ?_ (Below.mono (by assumption) (by first | omega | (simp; done) | (simp; omega))))))) (by omega), Kp.below kF (B' := w.heap.size) (by (repeat (first | exact Below.refl _ _ | (refine Below.alloc ?_ (by first | omega | (simp; done) | (simp; omega)) _) | (refine Below.drew ?_) | (refine below_drewN ?_ _) | (refine below_at1 ?_ (by first | omega | (simp; done) | (simp; omega))) | (refine Below.setCell ?_ (by first | omega | (simp; done) | (simp; omega)) _) | (refine Below.trans ?_ (Below.mono (by assumption) (by first | omega | (simp; done) | (simp; omega))))))) (by omega) (by omega)⟩
    · subst hKK
      have e0 : ((x : Int) == 0) = false := by rw [beq_eq_false_iff_ne]; omega
      have C6 := C5
      have Z6 := Z5
      have k6 := k5
      have h6 := h5
      have zz6 := zz5
      have y6 := fun i => cell_of_row w5 w3.heap.size i _ _ (0, 0) C6
      have yk : w5.cell? ⟨w3.heap.size, 0, none⟩ = some (.int .i64 4) := y6 0
      go_wp2_with fail
      refine (l02Name_k g A c xs _ h6).mono ?_
      rintro e w7 ⟨t, ht, rfl, h7, kp7⟩
      have Z7 := (kp7.2 w.heap.size (by omega) (by simpa using (show w.heap.size < w5.heap.size by omega))).trans Z6
      have C7 := (kp7.2 w3.heap.size (by omega) (by omega)).trans C6
      have z67 := kp7.1.size
      have zw7 : w3.heap.size + 1 ≤ w7.heap.size := by omega
      have k7 := k6.trans kp7
      have fr7 : w7.frozen? ⟨w3.heap.size, 2, none⟩ = false := by simp [World.frozen?, C7]
      have y7 := fun i => cell_of_row w7 w3.heap.size i _ _ (0, 0) C7
      have CF : (w7.setCell ⟨w3.heap.size, 2, none⟩ (.string t)).heap[w3.heap.size]? = some (.cells #[.int .i64 4, .string s, .string t, .slice none 0 0] 57 (0, 0)) := heap_setCell_same _ C7
      have ZF : (w7.setCell ⟨w3.heap.size, 2, none⟩ (.string t)).heap[w.heap.size]? = some (.cells #[.int .i64 0, .string ⟨#[]⟩, .string ⟨#[]⟩, .slice none 0 0] 57 (0, 0)) := heap_setCell_of _ (by first | omega | (simp; done) | (simp; omega)) Z7
      have bF : Below w3.heap.size w7 (w7.setCell ⟨w3.heap.size, 2, none⟩ (.string t)) := (Below.refl _ _).setCell (by first | omega | (simp; done) | (simp; omega)) _
      have kF := k7.below bF (by omega) (by omega)
      have hF := h7.below bF (by omega)
      have zF : w3.heap.size + 1 ≤ (w7.setCell ⟨w3.heap.size, 2, none⟩ (.string t)).heap.size := by simpa using zw7
      have yz := fun i => cell_of_row (w7.setCell ⟨w3.heap.size, 2, none⟩ (.string t)) w.heap.size i _ _ (0, 0) ZF
      have fz : ∀ i, (w7.setCell ⟨w3.heap.size, 2, none⟩ (.string t)).frozen? ⟨w.heap.size, i, none⟩ = false := fun i => by simp [World.frozen?, ZF]
      have yc := fun i => cell_of_row (w7.setCell ⟨w3.heap.size, 2, none⟩ (.string t)) w3.heap.size i _ _ (0, 0) CF
      have yz0 := yz 0
      have yz1 := yz 1
      have yz2 := yz 2
      have yz3 := yz 3
      have yc0 := yc 0
      have yc1 := yc 1
      have yc2 := yc 2
      have yc3 := yc 3
      go_wp2_with fail
      refine bodyPost_ret (v := .agg #[.int .i64 4, .string s, .string t, .slice none 0 0]) (by simp [results, Try.results23, go_sem, *]) rfl ?_
      exact ⟨4, s, t, none, 0, [], rfl, by unfold opB; simp [hs, ht], by simp, ownsG_nil _ _ _ _, CA.below hF (B' := w.heap.size) (by (repeat (first | exact Below.refl _ _ | (refine Below.alloc ?_ (by first | omega | (simp; done) | (simp; omega)) _) | (refine Below.drew ?_) | (refine below_drewN ?_ _) | (refine below_at1 ?_ (by first | omega | (simp; done) | (simp; omega))) | (refine Below.setCell ?_ (by first | omega | (simp; done) | (simp; omega)) _) | (refine Below.trans ?_ (Below.mono (by assumption) (by first | omega | (simp; done) | (simp; omega))))))) (by omega), Kp.below kF (B' := w.heap.size) (by (repeat (first | exact Below.refl _ _ | (refine Below.alloc ?_ (by first | omega | (simp; done) | (simp; omega)) _) | (refine Below.drew ?_) | (refine below_drewN ?_ _) | (refine below_at1 ?_ (by first | omega | (simp; done) | (simp; omega))) | (refine Below.setCell ?_ (by first | omega | (simp; done) | (simp; omega)) _) | (refine Below.trans ?_ (Below.mono (by assumption) (by first | omega | (simp; done) | (simp; omega))))))) (by omega) (by omega)⟩
    · subst hKK
      have e0 : ((x : Int) == 0) = false := by rw [beq_eq_false_iff_ne]; omega
      have C6 := C5
      have Z6 := Z5
      have k6 := k5
      have h6 := h5
      have zz6 := zz5
      have y6 := fun i => cell_of_row w5 w3.heap.size i _ _ (0, 0) C6
      have yk : w5.cell? ⟨w3.heap.size, 0, none⟩ = some (.int .i64 5) := y6 0
      have CF := C6
      have ZF := Z6
      have kF := k6
      have hF := h6
      have zF := zz6
      have yz := fun i => cell_of_row w5 w.heap.size i _ _ (0, 0) ZF
      have fz : ∀ i, w5.frozen? ⟨w.heap.size, i, none⟩ = false := fun i => by simp [World.frozen?, ZF]
      have yc := fun i => cell_of_row w5 w3.heap.size i _ _ (0, 0) CF
      have yz0 := yz 0
      have yz1 := yz 1
      have yz2 := yz 2
      have yz3 := yz 3
      have yc0 := yc 0
      have yc1 := yc 1
      have yc2 := yc 2
      have yc3 := yc 3
      go_wp2_with fail
      refine bodyPost_ret (v := .agg #[.int .i64 5, .string s, .string ⟨#[]⟩, .slice none 0 0]) (by simp [results, Try.results23, go_sem, *]) rfl ?_
      exact ⟨5, s, ⟨#[]⟩, none, 0, [], rfl, by unfold opB; simp [noB_emp, hs], by simp, ownsG_nil _ _ _ _, CA.below hF (B' := w.heap.size) (by (repeat (first | exact Below.refl _ _ | (refine Below.alloc ?_ (by first | omega | (simp; done) | (simp; omega)) _) | (refine Below.drew ?_) | (refine below_drewN ?_ _) | (refine below_at1 ?_ (by first | omega | (simp; done) | (simp; omega))) | (refine Below.setCell ?_ (by first | omega | (simp; done) | (simp; omega)) _) | (refine Below.trans ?_ (Below.mono (by assumption) (by first | omega | (simp; done) | (simp; omega))))))) (by omega), Kp.below kF (B' := w.heap.size) (by (repeat (first | exact Below.refl _ _ | (refine Below.alloc ?_ (by first | omega | (simp; done) | (simp; omega)) _) | (refine Below.drew ?_) | (refine below_drewN ?_ _) | (refine below_at1 ?_ (by first | omega | (simp; done) | (simp; omega))) | (refine Below.setCell ?_ (by first | omega | (simp; done) | (simp; omega)) _) | (refine Below.trans ?_ (Below.mono (by assumption) (by first | omega | (simp; done) | (simp; omega))))))) (by omega) (by omega)⟩
    · subst hKK
      have e0 : ((x : Int) == 0) = false := by rw [beq_eq_false_iff_ne]; omega
      have C6 := C5
      have Z6 := Z5
      have k6 := k5
      have h6 := h5
      have zz6 := zz5
      have y6 := fun i => cell_of_row w5 w3.heap.size i _ _ (0, 0) C6
      have yk : w5.cell? ⟨w3.heap.size, 0, none⟩ = some (.int .i64 6) := y6 0
      have fr6 : w5.frozen? ⟨w3.heap.size, 1, none⟩ = false := by simp [World.frozen?, C6]
      have CF : (w5.setCell ⟨w3.heap.size, 1, none⟩ (.string ⟨#[]⟩)).heap[w3.heap.size]? = some (.cells #[.int .i64 6, .string ⟨#[]⟩, .string ⟨#[]⟩, .slice none 0 0] 57 (0, 0)) := heap_setCell_same _ C6
      have ZF : (w5.setCell ⟨w3.heap.size, 1, none⟩ (.string ⟨#[]⟩)).heap[w.heap.size]? = some (.cells #[.int .i64 0, .string ⟨#[]⟩, .string ⟨#[]⟩, .slice none 0 0] 57 (0, 0)) := heap_setCell_of _ (by first | omega | (simp; done) | (simp; omega)) Z6
      have bF : Below w3.heap.size w5 (w5.setCell ⟨w3.heap.size, 1, none⟩ (.string ⟨#[]⟩)) := (Below.refl _ _).setCell (by first | omega | (simp; done) | (simp; omega)) _
      have kF := k6.below bF (by omega) (by omega)
      have hF := h6.below bF (by omega)
      have zF : w3.heap.size + 1 ≤ (w5.setCell ⟨w3.heap.size, 1, none⟩ (.string ⟨#[]⟩)).heap.size := by simpa using zz6
      have yz := fun i => cell_of_row (w5.setCell ⟨w3.heap.size, 1, none⟩ (.string ⟨#[]⟩)) w.heap.size i _ _ (0, 0) ZF
      have fz : ∀ i, (w5.setCell ⟨w3.heap.size, 1, none⟩ (.string ⟨#[]⟩)).frozen? ⟨w.heap.size, i, none⟩ = false := fun i => by simp [World.frozen?, ZF]
      have yc := fun i => cell_of_row (w5.setCell ⟨w3.heap.size, 1, none⟩ (.string ⟨#[]⟩)) w3.heap.size i _ _ (0, 0) CF
      have yz0 := yz 0
      have yz1 := yz 1
      have yz2 := yz 2
      have yz3 := yz 3
      have yc0 := yc 0
      have yc1 := yc 1
      have yc2 := yc 2
      have yc3 := yc 3
      go_wp2_with fail
      refine bodyPost_ret (v := .agg #[.int .i64 6, .string ⟨#[]⟩, .string ⟨#[]⟩, .slice none 0 0]) (by simp [results, Try.results23, go_sem, *]) rfl ?_
      exact ⟨6, ⟨#[]⟩, ⟨#[]⟩, none, 0, [], rfl, by unfold opB; simp [noB_emp], by simp, ownsG_nil _ _ _ _, CA.below hF (B' := w.heap.size) (by (repeat (first | exact Below.refl _ _ | (refine Below.alloc ?_ (by first | omega | (simp; done) | (simp; omega)) _) | (refine Below.drew ?_) | (refine below_drewN ?_ _) | (refine below_at1 ?_ (by first | omega | (simp; done) | (simp; omega))) | (refine Below.setCell ?_ (by first | omega | (simp; done) | (simp; omega)) _) | (refine Below.trans ?_ (Below.mono (by assumption) (by first | omega | (simp; done) | (simp; omega))))))) (by omega), Kp.below kF (B' := w.heap.size) (by (repeat (first | exact Below.refl _ _ | (refine Below.alloc ?_ (by first | omega | (simp; done) | (simp; omega)) _) | (refine Below.drew ?_) | (refine below_drewN ?_ _) | (refine below_at1 ?_ (by first | omega | (simp; done) | (simp; omega))) | (refine Below.setCell ?_ (by first | omega | (simp; done) | (simp; omega)) _) | (refine Below.trans ?_ (Below.mono (by assumption) (by first | omega | (simp; done) | (simp; omega))))))) (by omega) (by omega)⟩
end Go.Proofs.Ytndmdhmghjfckaa
